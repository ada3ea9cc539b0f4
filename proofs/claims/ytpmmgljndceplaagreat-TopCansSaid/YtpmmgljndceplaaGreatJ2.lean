/- The texts of the walk, part 2. -/
import Derived.Test.YtpmmgljndceplaaGreatJ1
import Derived.Test.YtpmmgljndceplaaGreatProg
import Derived.KernelRfl
namespace Go.Proofs.YtpmmgljndceplaaGreat
open Go

-- 1 func()
instance : Ty Tryz.prog 1 false 1 8 (.nilFunc) [.nilFunc] := ⟨by kernel_rfl, by kernel_rfl, rfl, rfl⟩
-- 2 int64
instance : Ty Tryz.prog 2 false 1 8 (.int .i64 0) [.int .i64 0] := ⟨by kernel_rfl, by kernel_rfl, rfl, rfl⟩
-- 3 int
instance : Ty Tryz.prog 3 false 1 8 (.int .i64 0) [.int .i64 0] := ⟨by kernel_rfl, by kernel_rfl, rfl, rfl⟩
-- 4 bool
instance : Ty Tryz.prog 4 false 1 1 (.bool false) [.bool false] := ⟨by kernel_rfl, by kernel_rfl, rfl, rfl⟩
-- 5 uint8
instance : Ty Tryz.prog 5 false 1 1 (.int .u8 0) [.int .u8 0] := ⟨by kernel_rfl, by kernel_rfl, rfl, rfl⟩
-- 7 struct { x int64; y int; signed bool; code abi.BoundsErrorCode }
instance : Ty Tryz.prog 7 true 4 24 (.agg #[.int .i64 0, .int .i64 0, .bool false, .int .u8 0]) [.int .i64 0, .int .i64 0, .bool false, .int .u8 0] := ⟨by kernel_rfl, by kernel_rfl, rfl, rfl⟩
instance : FieldTy Tryz.prog 7 0 0 2 0 := ⟨by kernel_rfl, by kernel_rfl⟩
instance : FieldTy Tryz.prog 7 1 1 3 0 := ⟨by kernel_rfl, by kernel_rfl⟩
instance : FieldTy Tryz.prog 7 2 2 4 0 := ⟨by kernel_rfl, by kernel_rfl⟩
instance : FieldTy Tryz.prog 7 3 3 6 0 := ⟨by kernel_rfl, by kernel_rfl⟩
instance : BuildTy Tryz.prog 7 [(0, 1), (1, 1), (2, 1), (3, 1)] [.int .i64 0, .int .i64 0, .bool false, .int .u8 0] := ⟨fun parts => by kernel_rfl⟩
-- 9 string
instance : Ty Tryz.prog 9 false 1 16 (.string ByteArray.empty) [.string ByteArray.empty] := ⟨by kernel_rfl, by kernel_rfl, rfl, rfl⟩
-- 12 uintptr
instance : Ty Tryz.prog 12 false 1 8 (.int .u64 0) [.int .u64 0] := ⟨by kernel_rfl, by kernel_rfl, rfl, rfl⟩
-- 13 struct { msg string; addr uintptr }
instance : Ty Tryz.prog 13 true 2 24 (.agg #[.string ByteArray.empty, .int .u64 0]) [.string ByteArray.empty, .int .u64 0] := ⟨by kernel_rfl, by kernel_rfl, rfl, rfl⟩
instance : FieldTy Tryz.prog 13 0 0 9 0 := ⟨by kernel_rfl, by kernel_rfl⟩
instance : FieldTy Tryz.prog 13 1 1 12 0 := ⟨by kernel_rfl, by kernel_rfl⟩
instance : BuildTy Tryz.prog 13 [(0, 1), (1, 1)] [.string ByteArray.empty, .int .u64 0] := ⟨fun parts => by kernel_rfl⟩
-- 18 struct { typ *abi.Type }
instance : Ty Tryz.prog 18 true 1 8 (.agg #[.pointer none]) [.pointer none] := ⟨by kernel_rfl, by kernel_rfl, rfl, rfl⟩
instance : FieldTy Tryz.prog 18 0 0 17 0 := ⟨by kernel_rfl, by kernel_rfl⟩
instance : BuildTy Tryz.prog 18 [(0, 1)] [.pointer none] := ⟨fun parts => by kernel_rfl⟩
-- 20 
instance : Ty Tryz.prog 20 false 1 16 (.nilIface) [.nilIface] := ⟨by kernel_rfl, by kernel_rfl, rfl, rfl⟩
-- 21 int32
instance : Ty Tryz.prog 21 false 1 4 (.int .i32 0) [.int .i32 0] := ⟨by kernel_rfl, by kernel_rfl, rfl, rfl⟩
-- 22 struct { Each int; Towels int; Frames int }
instance : Ty Tryz.prog 22 true 3 24 (.agg #[.int .i64 0, .int .i64 0, .int .i64 0]) [.int .i64 0, .int .i64 0, .int .i64 0] := ⟨by kernel_rfl, by kernel_rfl, rfl, rfl⟩
instance : EqS Tryz.prog 22 3 := ⟨by kernel_rfl, by kernel_rfl, by kernel_rfl⟩
instance : FieldTy Tryz.prog 22 0 0 3 0 := ⟨by kernel_rfl, by kernel_rfl⟩
instance : FieldTy Tryz.prog 22 1 1 3 0 := ⟨by kernel_rfl, by kernel_rfl⟩
instance : FieldTy Tryz.prog 22 2 2 3 0 := ⟨by kernel_rfl, by kernel_rfl⟩
instance : BuildTy Tryz.prog 22 [(0, 1), (1, 1), (2, 1)] [.int .i64 0, .int .i64 0, .int .i64 0] := ⟨fun parts => by kernel_rfl⟩
-- 23 deuce/api.Kit
instance : Ty Tryz.prog 23 true 3 24 (.agg #[.int .i64 0, .int .i64 0, .int .i64 0]) [.int .i64 0, .int .i64 0, .int .i64 0] := ⟨by kernel_rfl, by kernel_rfl, rfl, rfl⟩
instance : EqS Tryz.prog 23 3 := ⟨by kernel_rfl, by kernel_rfl, by kernel_rfl⟩
instance : FieldTy Tryz.prog 23 0 0 3 0 := ⟨by kernel_rfl, by kernel_rfl⟩
instance : FieldTy Tryz.prog 23 1 1 3 0 := ⟨by kernel_rfl, by kernel_rfl⟩
instance : FieldTy Tryz.prog 23 2 2 3 0 := ⟨by kernel_rfl, by kernel_rfl⟩
instance : BuildTy Tryz.prog 23 [(0, 1), (1, 1), (2, 1)] [.int .i64 0, .int .i64 0, .int .i64 0] := ⟨fun parts => by kernel_rfl⟩
-- 24 []int
instance : Ty Tryz.prog 24 false 1 24 (.slice none 0 0) [.slice none 0 0] := ⟨by kernel_rfl, by kernel_rfl, rfl, rfl⟩
instance : SliceTy Tryz.prog 24 3 := ⟨by kernel_rfl⟩
-- 25 []api.Fixture
instance : Ty Tryz.prog 25 false 1 24 (.slice none 0 0) [.slice none 0 0] := ⟨by kernel_rfl, by kernel_rfl, rfl, rfl⟩
instance : SliceTy Tryz.prog 25 42 := ⟨by kernel_rfl⟩
-- 26 []api.Crate
instance : Ty Tryz.prog 26 false 1 24 (.slice none 0 0) [.slice none 0 0] := ⟨by kernel_rfl, by kernel_rfl, rfl, rfl⟩
instance : SliceTy Tryz.prog 26 60 := ⟨by kernel_rfl⟩
-- 27 struct { Kit api.Kit; Stock []int; Fixtures []api.Fixture; Crates []api.Crate }
instance : Ty Tryz.prog 27 true 6 96 (.agg #[.int .i64 0, .int .i64 0, .int .i64 0, .slice none 0 0, .slice none 0 0, .slice none 0 0]) [.int .i64 0, .int .i64 0, .int .i64 0, .slice none 0 0, .slice none 0 0, .slice none 0 0] := ⟨by kernel_rfl, by kernel_rfl, rfl, rfl⟩
instance : FieldTy Tryz.prog 27 0 0 23 2 := ⟨by kernel_rfl, by kernel_rfl⟩
instance : FieldTy Tryz.prog 27 1 3 24 0 := ⟨by kernel_rfl, by kernel_rfl⟩
instance : FieldTy Tryz.prog 27 2 4 25 0 := ⟨by kernel_rfl, by kernel_rfl⟩
instance : FieldTy Tryz.prog 27 3 5 26 0 := ⟨by kernel_rfl, by kernel_rfl⟩
instance : BuildTy Tryz.prog 27 [(0, 3), (3, 1), (4, 1), (5, 1)] [.int .i64 0, .int .i64 0, .int .i64 0, .slice none 0 0, .slice none 0 0, .slice none 0 0] := ⟨fun parts => by kernel_rfl⟩
-- 28 deuce/api.Depot
instance : Ty Tryz.prog 28 true 6 96 (.agg #[.int .i64 0, .int .i64 0, .int .i64 0, .slice none 0 0, .slice none 0 0, .slice none 0 0]) [.int .i64 0, .int .i64 0, .int .i64 0, .slice none 0 0, .slice none 0 0, .slice none 0 0] := ⟨by kernel_rfl, by kernel_rfl, rfl, rfl⟩
instance : FieldTy Tryz.prog 28 0 0 23 2 := ⟨by kernel_rfl, by kernel_rfl⟩
instance : FieldTy Tryz.prog 28 1 3 24 0 := ⟨by kernel_rfl, by kernel_rfl⟩
instance : FieldTy Tryz.prog 28 2 4 25 0 := ⟨by kernel_rfl, by kernel_rfl⟩
instance : FieldTy Tryz.prog 28 3 5 26 0 := ⟨by kernel_rfl, by kernel_rfl⟩
instance : BuildTy Tryz.prog 28 [(0, 3), (3, 1), (4, 1), (5, 1)] [.int .i64 0, .int .i64 0, .int .i64 0, .slice none 0 0, .slice none 0 0, .slice none 0 0] := ⟨fun parts => by kernel_rfl⟩
-- 29 []deucelaw01.Points
instance : Ty Tryz.prog 29 false 1 24 (.slice none 0 0) [.slice none 0 0] := ⟨by kernel_rfl, by kernel_rfl, rfl, rfl⟩
instance : SliceTy Tryz.prog 29 51 := ⟨by kernel_rfl⟩
-- 30 func(api.Depot) bool
instance : Ty Tryz.prog 30 false 1 8 (.nilFunc) [.nilFunc] := ⟨by kernel_rfl, by kernel_rfl, rfl, rfl⟩
-- 31 deuce/api.Errno
instance : Ty Tryz.prog 31 false 1 8 (.int .i64 0) [.int .i64 0] := ⟨by kernel_rfl, by kernel_rfl, rfl, rfl⟩
-- 32 func(api.Depot) api.Errno
instance : Ty Tryz.prog 32 false 1 8 (.nilFunc) [.nilFunc] := ⟨by kernel_rfl, by kernel_rfl, rfl, rfl⟩
-- 33 func() bool
instance : Ty Tryz.prog 33 false 1 8 (.nilFunc) [.nilFunc] := ⟨by kernel_rfl, by kernel_rfl, rfl, rfl⟩
-- 34 struct { Sets int; Games int; NoAd bool; Tie int; To int; LastTie int; LastTo int; First int; Then int; Doubles bool }
instance : Ty Tryz.prog 34 true 10 80 (.agg #[.int .i64 0, .int .i64 0, .bool false, .int .i64 0, .int .i64 0, .int .i64 0, .int .i64 0, .int .i64 0, .int .i64 0, .bool false]) [.int .i64 0, .int .i64 0, .bool false, .int .i64 0, .int .i64 0, .int .i64 0, .int .i64 0, .int .i64 0, .int .i64 0, .bool false] := ⟨by kernel_rfl, by kernel_rfl, rfl, rfl⟩
instance : FieldTy Tryz.prog 34 0 0 3 0 := ⟨by kernel_rfl, by kernel_rfl⟩
instance : FieldTy Tryz.prog 34 1 1 3 0 := ⟨by kernel_rfl, by kernel_rfl⟩
instance : FieldTy Tryz.prog 34 2 2 4 0 := ⟨by kernel_rfl, by kernel_rfl⟩
instance : FieldTy Tryz.prog 34 3 3 3 0 := ⟨by kernel_rfl, by kernel_rfl⟩
instance : FieldTy Tryz.prog 34 4 4 3 0 := ⟨by kernel_rfl, by kernel_rfl⟩
instance : FieldTy Tryz.prog 34 5 5 3 0 := ⟨by kernel_rfl, by kernel_rfl⟩
instance : FieldTy Tryz.prog 34 6 6 3 0 := ⟨by kernel_rfl, by kernel_rfl⟩
instance : FieldTy Tryz.prog 34 7 7 3 0 := ⟨by kernel_rfl, by kernel_rfl⟩
instance : FieldTy Tryz.prog 34 8 8 3 0 := ⟨by kernel_rfl, by kernel_rfl⟩
instance : FieldTy Tryz.prog 34 9 9 4 0 := ⟨by kernel_rfl, by kernel_rfl⟩
instance : BuildTy Tryz.prog 34 [(0, 1), (1, 1), (2, 1), (3, 1), (4, 1), (5, 1), (6, 1), (7, 1), (8, 1), (9, 1)] [.int .i64 0, .int .i64 0, .bool false, .int .i64 0, .int .i64 0, .int .i64 0, .int .i64 0, .int .i64 0, .int .i64 0, .bool false] := ⟨fun parts => by kernel_rfl⟩
-- 35 deuce/api.Format
instance : Ty Tryz.prog 35 true 10 80 (.agg #[.int .i64 0, .int .i64 0, .bool false, .int .i64 0, .int .i64 0, .int .i64 0, .int .i64 0, .int .i64 0, .int .i64 0, .bool false]) [.int .i64 0, .int .i64 0, .bool false, .int .i64 0, .int .i64 0, .int .i64 0, .int .i64 0, .int .i64 0, .int .i64 0, .bool false] := ⟨by kernel_rfl, by kernel_rfl, rfl, rfl⟩
instance : FieldTy Tryz.prog 35 0 0 3 0 := ⟨by kernel_rfl, by kernel_rfl⟩
instance : FieldTy Tryz.prog 35 1 1 3 0 := ⟨by kernel_rfl, by kernel_rfl⟩
instance : FieldTy Tryz.prog 35 2 2 4 0 := ⟨by kernel_rfl, by kernel_rfl⟩
instance : FieldTy Tryz.prog 35 3 3 3 0 := ⟨by kernel_rfl, by kernel_rfl⟩
instance : FieldTy Tryz.prog 35 4 4 3 0 := ⟨by kernel_rfl, by kernel_rfl⟩
instance : FieldTy Tryz.prog 35 5 5 3 0 := ⟨by kernel_rfl, by kernel_rfl⟩
instance : FieldTy Tryz.prog 35 6 6 3 0 := ⟨by kernel_rfl, by kernel_rfl⟩
instance : FieldTy Tryz.prog 35 7 7 3 0 := ⟨by kernel_rfl, by kernel_rfl⟩
instance : FieldTy Tryz.prog 35 8 8 3 0 := ⟨by kernel_rfl, by kernel_rfl⟩
instance : FieldTy Tryz.prog 35 9 9 4 0 := ⟨by kernel_rfl, by kernel_rfl⟩
instance : BuildTy Tryz.prog 35 [(0, 1), (1, 1), (2, 1), (3, 1), (4, 1), (5, 1), (6, 1), (7, 1), (8, 1), (9, 1)] [.int .i64 0, .int .i64 0, .bool false, .int .i64 0, .int .i64 0, .int .i64 0, .int .i64 0, .int .i64 0, .int .i64 0, .bool false] := ⟨fun parts => by kernel_rfl⟩
-- 36 []api.Pair
instance : Ty Tryz.prog 36 false 1 24 (.slice none 0 0) [.slice none 0 0] := ⟨by kernel_rfl, by kernel_rfl, rfl, rfl⟩
instance : SliceTy Tryz.prog 36 38 := ⟨by kernel_rfl⟩
-- 37 struct { A int; B int }
instance : Ty Tryz.prog 37 true 2 16 (.agg #[.int .i64 0, .int .i64 0]) [.int .i64 0, .int .i64 0] := ⟨by kernel_rfl, by kernel_rfl, rfl, rfl⟩
instance : EqS Tryz.prog 37 2 := ⟨by kernel_rfl, by kernel_rfl, by kernel_rfl⟩
instance : FieldTy Tryz.prog 37 0 0 3 0 := ⟨by kernel_rfl, by kernel_rfl⟩
instance : FieldTy Tryz.prog 37 1 1 3 0 := ⟨by kernel_rfl, by kernel_rfl⟩
instance : BuildTy Tryz.prog 37 [(0, 1), (1, 1)] [.int .i64 0, .int .i64 0] := ⟨fun parts => by kernel_rfl⟩
-- 38 deuce/api.Pair
instance : Ty Tryz.prog 38 true 2 16 (.agg #[.int .i64 0, .int .i64 0]) [.int .i64 0, .int .i64 0] := ⟨by kernel_rfl, by kernel_rfl, rfl, rfl⟩
instance : EqS Tryz.prog 38 2 := ⟨by kernel_rfl, by kernel_rfl, by kernel_rfl⟩
instance : FieldTy Tryz.prog 38 0 0 3 0 := ⟨by kernel_rfl, by kernel_rfl⟩
instance : FieldTy Tryz.prog 38 1 1 3 0 := ⟨by kernel_rfl, by kernel_rfl⟩
instance : BuildTy Tryz.prog 38 [(0, 1), (1, 1)] [.int .i64 0, .int .i64 0] := ⟨fun parts => by kernel_rfl⟩
-- 39 struct { Sets []api.Pair; Games api.Pair; Points api.Pair }
instance : Ty Tryz.prog 39 true 5 56 (.agg #[.slice none 0 0, .int .i64 0, .int .i64 0, .int .i64 0, .int .i64 0]) [.slice none 0 0, .int .i64 0, .int .i64 0, .int .i64 0, .int .i64 0] := ⟨by kernel_rfl, by kernel_rfl, rfl, rfl⟩
instance : FieldTy Tryz.prog 39 0 0 36 0 := ⟨by kernel_rfl, by kernel_rfl⟩
instance : FieldTy Tryz.prog 39 1 1 38 1 := ⟨by kernel_rfl, by kernel_rfl⟩
instance : FieldTy Tryz.prog 39 2 3 38 1 := ⟨by kernel_rfl, by kernel_rfl⟩
instance : BuildTy Tryz.prog 39 [(0, 1), (1, 2), (3, 2)] [.slice none 0 0, .int .i64 0, .int .i64 0, .int .i64 0, .int .i64 0] := ⟨fun parts => by kernel_rfl⟩
-- 40 deuce/api.Board
instance : Ty Tryz.prog 40 true 5 56 (.agg #[.slice none 0 0, .int .i64 0, .int .i64 0, .int .i64 0, .int .i64 0]) [.slice none 0 0, .int .i64 0, .int .i64 0, .int .i64 0, .int .i64 0] := ⟨by kernel_rfl, by kernel_rfl, rfl, rfl⟩
instance : FieldTy Tryz.prog 40 0 0 36 0 := ⟨by kernel_rfl, by kernel_rfl⟩
instance : FieldTy Tryz.prog 40 1 1 38 1 := ⟨by kernel_rfl, by kernel_rfl⟩
instance : FieldTy Tryz.prog 40 2 3 38 1 := ⟨by kernel_rfl, by kernel_rfl⟩
instance : BuildTy Tryz.prog 40 [(0, 1), (1, 2), (3, 2)] [.slice none 0 0, .int .i64 0, .int .i64 0, .int .i64 0, .int .i64 0] := ⟨fun parts => by kernel_rfl⟩
-- 41 struct { Day int; Format api.Format; Board api.Board }
instance : Ty Tryz.prog 41 true 16 144 (.agg #[.int .i64 0, .int .i64 0, .int .i64 0, .bool false, .int .i64 0, .int .i64 0, .int .i64 0, .int .i64 0, .int .i64 0, .int .i64 0, .bool false, .slice none 0 0, .int .i64 0, .int .i64 0, .int .i64 0, .int .i64 0]) [.int .i64 0, .int .i64 0, .int .i64 0, .bool false, .int .i64 0, .int .i64 0, .int .i64 0, .int .i64 0, .int .i64 0, .int .i64 0, .bool false, .slice none 0 0, .int .i64 0, .int .i64 0, .int .i64 0, .int .i64 0] := ⟨by kernel_rfl, by kernel_rfl, rfl, rfl⟩
instance : FieldTy Tryz.prog 41 0 0 3 0 := ⟨by kernel_rfl, by kernel_rfl⟩
instance : FieldTy Tryz.prog 41 1 1 35 9 := ⟨by kernel_rfl, by kernel_rfl⟩
instance : FieldTy Tryz.prog 41 2 11 40 4 := ⟨by kernel_rfl, by kernel_rfl⟩
instance : BuildTy Tryz.prog 41 [(0, 1), (1, 10), (11, 5)] [.int .i64 0, .int .i64 0, .int .i64 0, .bool false, .int .i64 0, .int .i64 0, .int .i64 0, .int .i64 0, .int .i64 0, .int .i64 0, .bool false, .slice none 0 0, .int .i64 0, .int .i64 0, .int .i64 0, .int .i64 0] := ⟨fun parts => by kernel_rfl⟩
-- 42 deuce/api.Fixture
instance : Ty Tryz.prog 42 true 16 144 (.agg #[.int .i64 0, .int .i64 0, .int .i64 0, .bool false, .int .i64 0, .int .i64 0, .int .i64 0, .int .i64 0, .int .i64 0, .int .i64 0, .bool false, .slice none 0 0, .int .i64 0, .int .i64 0, .int .i64 0, .int .i64 0]) [.int .i64 0, .int .i64 0, .int .i64 0, .bool false, .int .i64 0, .int .i64 0, .int .i64 0, .int .i64 0, .int .i64 0, .int .i64 0, .bool false, .slice none 0 0, .int .i64 0, .int .i64 0, .int .i64 0, .int .i64 0] := ⟨by kernel_rfl, by kernel_rfl, rfl, rfl⟩
instance : FieldTy Tryz.prog 42 0 0 3 0 := ⟨by kernel_rfl, by kernel_rfl⟩
instance : FieldTy Tryz.prog 42 1 1 35 9 := ⟨by kernel_rfl, by kernel_rfl⟩
instance : FieldTy Tryz.prog 42 2 11 40 4 := ⟨by kernel_rfl, by kernel_rfl⟩
instance : BuildTy Tryz.prog 42 [(0, 1), (1, 10), (11, 5)] [.int .i64 0, .int .i64 0, .int .i64 0, .bool false, .int .i64 0, .int .i64 0, .int .i64 0, .int .i64 0, .int .i64 0, .int .i64 0, .bool false, .slice none 0 0, .int .i64 0, .int .i64 0, .int .i64 0, .int .i64 0] := ⟨fun parts => by kernel_rfl⟩
-- 43 struct { Board api.Board; Server int; Ends int; Balls int; Winner int }
instance : Ty Tryz.prog 43 true 9 88 (.agg #[.slice none 0 0, .int .i64 0, .int .i64 0, .int .i64 0, .int .i64 0, .int .i64 0, .int .i64 0, .int .i64 0, .int .i64 0]) [.slice none 0 0, .int .i64 0, .int .i64 0, .int .i64 0, .int .i64 0, .int .i64 0, .int .i64 0, .int .i64 0, .int .i64 0] := ⟨by kernel_rfl, by kernel_rfl, rfl, rfl⟩
instance : FieldTy Tryz.prog 43 0 0 40 4 := ⟨by kernel_rfl, by kernel_rfl⟩
instance : FieldTy Tryz.prog 43 1 5 3 0 := ⟨by kernel_rfl, by kernel_rfl⟩
instance : FieldTy Tryz.prog 43 2 6 3 0 := ⟨by kernel_rfl, by kernel_rfl⟩
instance : FieldTy Tryz.prog 43 3 7 3 0 := ⟨by kernel_rfl, by kernel_rfl⟩
instance : FieldTy Tryz.prog 43 4 8 3 0 := ⟨by kernel_rfl, by kernel_rfl⟩
instance : BuildTy Tryz.prog 43 [(0, 5), (5, 1), (6, 1), (7, 1), (8, 1)] [.slice none 0 0, .int .i64 0, .int .i64 0, .int .i64 0, .int .i64 0, .int .i64 0, .int .i64 0, .int .i64 0, .int .i64 0] := ⟨fun parts => by kernel_rfl⟩
-- 44 deuce/api.Score
instance : Ty Tryz.prog 44 true 9 88 (.agg #[.slice none 0 0, .int .i64 0, .int .i64 0, .int .i64 0, .int .i64 0, .int .i64 0, .int .i64 0, .int .i64 0, .int .i64 0]) [.slice none 0 0, .int .i64 0, .int .i64 0, .int .i64 0, .int .i64 0, .int .i64 0, .int .i64 0, .int .i64 0, .int .i64 0] := ⟨by kernel_rfl, by kernel_rfl, rfl, rfl⟩
instance : FieldTy Tryz.prog 44 0 0 40 4 := ⟨by kernel_rfl, by kernel_rfl⟩
instance : FieldTy Tryz.prog 44 1 5 3 0 := ⟨by kernel_rfl, by kernel_rfl⟩
instance : FieldTy Tryz.prog 44 2 6 3 0 := ⟨by kernel_rfl, by kernel_rfl⟩
instance : FieldTy Tryz.prog 44 3 7 3 0 := ⟨by kernel_rfl, by kernel_rfl⟩
instance : FieldTy Tryz.prog 44 4 8 3 0 := ⟨by kernel_rfl, by kernel_rfl⟩
instance : BuildTy Tryz.prog 44 [(0, 5), (5, 1), (6, 1), (7, 1), (8, 1)] [.slice none 0 0, .int .i64 0, .int .i64 0, .int .i64 0, .int .i64 0, .int .i64 0, .int .i64 0, .int .i64 0, .int .i64 0] := ⟨fun parts => by kernel_rfl⟩
-- 45 []api.Game
instance : Ty Tryz.prog 45 false 1 24 (.slice none 0 0) [.slice none 0 0] := ⟨by kernel_rfl, by kernel_rfl, rfl, rfl⟩
instance : SliceTy Tryz.prog 45 139 := ⟨by kernel_rfl⟩
-- 46 struct { Score api.Score; First int; Games []api.Game; Fresh bool }
instance : Ty Tryz.prog 46 true 12 128 (.agg #[.slice none 0 0, .int .i64 0, .int .i64 0, .int .i64 0, .int .i64 0, .int .i64 0, .int .i64 0, .int .i64 0, .int .i64 0, .int .i64 0, .slice none 0 0, .bool false]) [.slice none 0 0, .int .i64 0, .int .i64 0, .int .i64 0, .int .i64 0, .int .i64 0, .int .i64 0, .int .i64 0, .int .i64 0, .int .i64 0, .slice none 0 0, .bool false] := ⟨by kernel_rfl, by kernel_rfl, rfl, rfl⟩
instance : FieldTy Tryz.prog 46 0 0 44 8 := ⟨by kernel_rfl, by kernel_rfl⟩
instance : FieldTy Tryz.prog 46 1 9 3 0 := ⟨by kernel_rfl, by kernel_rfl⟩
instance : FieldTy Tryz.prog 46 2 10 45 0 := ⟨by kernel_rfl, by kernel_rfl⟩
instance : FieldTy Tryz.prog 46 3 11 4 0 := ⟨by kernel_rfl, by kernel_rfl⟩
instance : BuildTy Tryz.prog 46 [(0, 9), (9, 1), (10, 1), (11, 1)] [.slice none 0 0, .int .i64 0, .int .i64 0, .int .i64 0, .int .i64 0, .int .i64 0, .int .i64 0, .int .i64 0, .int .i64 0, .int .i64 0, .slice none 0 0, .bool false] := ⟨fun parts => by kernel_rfl⟩
-- 47 deuce/deuceref01.Match
instance : Ty Tryz.prog 47 true 12 128 (.agg #[.slice none 0 0, .int .i64 0, .int .i64 0, .int .i64 0, .int .i64 0, .int .i64 0, .int .i64 0, .int .i64 0, .int .i64 0, .int .i64 0, .slice none 0 0, .bool false]) [.slice none 0 0, .int .i64 0, .int .i64 0, .int .i64 0, .int .i64 0, .int .i64 0, .int .i64 0, .int .i64 0, .int .i64 0, .int .i64 0, .slice none 0 0, .bool false] := ⟨by kernel_rfl, by kernel_rfl, rfl, rfl⟩
instance : FieldTy Tryz.prog 47 0 0 44 8 := ⟨by kernel_rfl, by kernel_rfl⟩
instance : FieldTy Tryz.prog 47 1 9 3 0 := ⟨by kernel_rfl, by kernel_rfl⟩
instance : FieldTy Tryz.prog 47 2 10 45 0 := ⟨by kernel_rfl, by kernel_rfl⟩
instance : FieldTy Tryz.prog 47 3 11 4 0 := ⟨by kernel_rfl, by kernel_rfl⟩
instance : BuildTy Tryz.prog 47 [(0, 9), (9, 1), (10, 1), (11, 1)] [.slice none 0 0, .int .i64 0, .int .i64 0, .int .i64 0, .int .i64 0, .int .i64 0, .int .i64 0, .int .i64 0, .int .i64 0, .int .i64 0, .slice none 0 0, .bool false] := ⟨fun parts => by kernel_rfl⟩
-- 49 func(api.Format, int, []int) (deuceref01.Match, api.Errno)
instance : Ty Tryz.prog 49 false 1 8 (.nilFunc) [.nilFunc] := ⟨by kernel_rfl, by kernel_rfl, rfl, rfl⟩
-- 50 struct { First int; Points []int }
instance : Ty Tryz.prog 50 true 2 32 (.agg #[.int .i64 0, .slice none 0 0]) [.int .i64 0, .slice none 0 0] := ⟨by kernel_rfl, by kernel_rfl, rfl, rfl⟩
instance : FieldTy Tryz.prog 50 0 0 3 0 := ⟨by kernel_rfl, by kernel_rfl⟩
instance : FieldTy Tryz.prog 50 1 1 24 0 := ⟨by kernel_rfl, by kernel_rfl⟩
instance : BuildTy Tryz.prog 50 [(0, 1), (1, 1)] [.int .i64 0, .slice none 0 0] := ⟨fun parts => by kernel_rfl⟩
-- 51 deuce/deucelaw01.Points
instance : Ty Tryz.prog 51 true 2 32 (.agg #[.int .i64 0, .slice none 0 0]) [.int .i64 0, .slice none 0 0] := ⟨by kernel_rfl, by kernel_rfl, rfl, rfl⟩
instance : FieldTy Tryz.prog 51 0 0 3 0 := ⟨by kernel_rfl, by kernel_rfl⟩
instance : FieldTy Tryz.prog 51 1 1 24 0 := ⟨by kernel_rfl, by kernel_rfl⟩
instance : BuildTy Tryz.prog 51 [(0, 1), (1, 1)] [.int .i64 0, .slice none 0 0] := ⟨fun parts => by kernel_rfl⟩
-- 52 func(api.Board) bool
instance : Ty Tryz.prog 52 false 1 8 (.nilFunc) [.nilFunc] := ⟨by kernel_rfl, by kernel_rfl, rfl, rfl⟩
-- 54 func(api.Format, int, []int) (api.Score, api.Errno)
instance : Ty Tryz.prog 54 false 1 8 (.nilFunc) [.nilFunc] := ⟨by kernel_rfl, by kernel_rfl, rfl, rfl⟩
-- 55 struct { Low int; High int }
instance : Ty Tryz.prog 55 true 2 16 (.agg #[.int .i64 0, .int .i64 0]) [.int .i64 0, .int .i64 0] := ⟨by kernel_rfl, by kernel_rfl, rfl, rfl⟩
instance : EqS Tryz.prog 55 2 := ⟨by kernel_rfl, by kernel_rfl, by kernel_rfl⟩
instance : FieldTy Tryz.prog 55 0 0 3 0 := ⟨by kernel_rfl, by kernel_rfl⟩
instance : FieldTy Tryz.prog 55 1 1 3 0 := ⟨by kernel_rfl, by kernel_rfl⟩
instance : BuildTy Tryz.prog 55 [(0, 1), (1, 1)] [.int .i64 0, .int .i64 0] := ⟨fun parts => by kernel_rfl⟩
-- 56 deuce/api.Span
instance : Ty Tryz.prog 56 true 2 16 (.agg #[.int .i64 0, .int .i64 0]) [.int .i64 0, .int .i64 0] := ⟨by kernel_rfl, by kernel_rfl, rfl, rfl⟩
instance : EqS Tryz.prog 56 2 := ⟨by kernel_rfl, by kernel_rfl, by kernel_rfl⟩
instance : FieldTy Tryz.prog 56 0 0 3 0 := ⟨by kernel_rfl, by kernel_rfl⟩
instance : FieldTy Tryz.prog 56 1 1 3 0 := ⟨by kernel_rfl, by kernel_rfl⟩
instance : BuildTy Tryz.prog 56 [(0, 1), (1, 1)] [.int .i64 0, .int .i64 0] := ⟨fun parts => by kernel_rfl⟩
-- 58 func(api.Depot, int, int) (api.Span, api.Errno)
instance : Ty Tryz.prog 58 false 1 8 (.nilFunc) [.nilFunc] := ⟨by kernel_rfl, by kernel_rfl, rfl, rfl⟩
-- 59 struct { Day int; Item int; Count int }
instance : Ty Tryz.prog 59 true 3 24 (.agg #[.int .i64 0, .int .i64 0, .int .i64 0]) [.int .i64 0, .int .i64 0, .int .i64 0] := ⟨by kernel_rfl, by kernel_rfl, rfl, rfl⟩
instance : EqS Tryz.prog 59 3 := ⟨by kernel_rfl, by kernel_rfl, by kernel_rfl⟩
instance : FieldTy Tryz.prog 59 0 0 3 0 := ⟨by kernel_rfl, by kernel_rfl⟩
instance : FieldTy Tryz.prog 59 1 1 3 0 := ⟨by kernel_rfl, by kernel_rfl⟩
instance : FieldTy Tryz.prog 59 2 2 3 0 := ⟨by kernel_rfl, by kernel_rfl⟩
instance : BuildTy Tryz.prog 59 [(0, 1), (1, 1), (2, 1)] [.int .i64 0, .int .i64 0, .int .i64 0] := ⟨fun parts => by kernel_rfl⟩
-- 60 deuce/api.Crate
instance : Ty Tryz.prog 60 true 3 24 (.agg #[.int .i64 0, .int .i64 0, .int .i64 0]) [.int .i64 0, .int .i64 0, .int .i64 0] := ⟨by kernel_rfl, by kernel_rfl, rfl, rfl⟩
instance : EqS Tryz.prog 60 3 := ⟨by kernel_rfl, by kernel_rfl, by kernel_rfl⟩
instance : FieldTy Tryz.prog 60 0 0 3 0 := ⟨by kernel_rfl, by kernel_rfl⟩
instance : FieldTy Tryz.prog 60 1 1 3 0 := ⟨by kernel_rfl, by kernel_rfl⟩
instance : FieldTy Tryz.prog 60 2 2 3 0 := ⟨by kernel_rfl, by kernel_rfl⟩
instance : BuildTy Tryz.prog 60 [(0, 1), (1, 1), (2, 1)] [.int .i64 0, .int .i64 0, .int .i64 0] := ⟨fun parts => by kernel_rfl⟩
-- 61 func(api.Depot, []deucelaw01.Points, int) bool
instance : Ty Tryz.prog 61 false 1 8 (.nilFunc) [.nilFunc] := ⟨by kernel_rfl, by kernel_rfl, rfl, rfl⟩
-- 62 []api.Note
instance : Ty Tryz.prog 62 false 1 24 (.slice none 0 0) [.slice none 0 0] := ⟨by kernel_rfl, by kernel_rfl, rfl, rfl⟩
instance : SliceTy Tryz.prog 62 101 := ⟨by kernel_rfl⟩
-- 63 struct { Format api.Format; First int; Marks []api.Note }
instance : Ty Tryz.prog 63 true 12 112 (.agg #[.int .i64 0, .int .i64 0, .bool false, .int .i64 0, .int .i64 0, .int .i64 0, .int .i64 0, .int .i64 0, .int .i64 0, .bool false, .int .i64 0, .slice none 0 0]) [.int .i64 0, .int .i64 0, .bool false, .int .i64 0, .int .i64 0, .int .i64 0, .int .i64 0, .int .i64 0, .int .i64 0, .bool false, .int .i64 0, .slice none 0 0] := ⟨by kernel_rfl, by kernel_rfl, rfl, rfl⟩
instance : FieldTy Tryz.prog 63 0 0 35 9 := ⟨by kernel_rfl, by kernel_rfl⟩
instance : FieldTy Tryz.prog 63 1 10 3 0 := ⟨by kernel_rfl, by kernel_rfl⟩
instance : FieldTy Tryz.prog 63 2 11 62 0 := ⟨by kernel_rfl, by kernel_rfl⟩
instance : BuildTy Tryz.prog 63 [(0, 10), (10, 1), (11, 1)] [.int .i64 0, .int .i64 0, .bool false, .int .i64 0, .int .i64 0, .int .i64 0, .int .i64 0, .int .i64 0, .int .i64 0, .bool false, .int .i64 0, .slice none 0 0] := ⟨fun parts => by kernel_rfl⟩
-- 64 deuce/api.Card
instance : Ty Tryz.prog 64 true 12 112 (.agg #[.int .i64 0, .int .i64 0, .bool false, .int .i64 0, .int .i64 0, .int .i64 0, .int .i64 0, .int .i64 0, .int .i64 0, .bool false, .int .i64 0, .slice none 0 0]) [.int .i64 0, .int .i64 0, .bool false, .int .i64 0, .int .i64 0, .int .i64 0, .int .i64 0, .int .i64 0, .int .i64 0, .bool false, .int .i64 0, .slice none 0 0] := ⟨by kernel_rfl, by kernel_rfl, rfl, rfl⟩
instance : FieldTy Tryz.prog 64 0 0 35 9 := ⟨by kernel_rfl, by kernel_rfl⟩
instance : FieldTy Tryz.prog 64 1 10 3 0 := ⟨by kernel_rfl, by kernel_rfl⟩
instance : FieldTy Tryz.prog 64 2 11 62 0 := ⟨by kernel_rfl, by kernel_rfl⟩
instance : BuildTy Tryz.prog 64 [(0, 10), (10, 1), (11, 1)] [.int .i64 0, .int .i64 0, .bool false, .int .i64 0, .int .i64 0, .int .i64 0, .int .i64 0, .int .i64 0, .int .i64 0, .bool false, .int .i64 0, .slice none 0 0] := ⟨fun parts => by kernel_rfl⟩
-- 65 func(api.Card) bool
instance : Ty Tryz.prog 65 false 1 8 (.nilFunc) [.nilFunc] := ⟨by kernel_rfl, by kernel_rfl, rfl, rfl⟩
-- 66 func(api.Card) api.Errno
instance : Ty Tryz.prog 66 false 1 8 (.nilFunc) [.nilFunc] := ⟨by kernel_rfl, by kernel_rfl, rfl, rfl⟩
-- 68 func(api.Format) (api.Span, int, api.Errno)
instance : Ty Tryz.prog 68 false 1 8 (.nilFunc) [.nilFunc] := ⟨by kernel_rfl, by kernel_rfl, rfl, rfl⟩
-- 69 []api.Board
instance : Ty Tryz.prog 69 false 1 24 (.slice none 0 0) [.slice none 0 0] := ⟨by kernel_rfl, by kernel_rfl, rfl, rfl⟩
instance : SliceTy Tryz.prog 69 40 := ⟨by kernel_rfl⟩
-- 71 func(api.Card) ([]api.Board, api.Errno)
instance : Ty Tryz.prog 71 false 1 8 (.nilFunc) [.nilFunc] := ⟨by kernel_rfl, by kernel_rfl, rfl, rfl⟩
-- 73 func(api.Format, api.Board) (api.Span, api.Span, api.Errno)
instance : Ty Tryz.prog 73 false 1 8 (.nilFunc) [.nilFunc] := ⟨by kernel_rfl, by kernel_rfl, rfl, rfl⟩
-- 75 func(api.Format, api.Board) (bool, api.Errno)
instance : Ty Tryz.prog 75 false 1 8 (.nilFunc) [.nilFunc] := ⟨by kernel_rfl, by kernel_rfl, rfl, rfl⟩
-- 76 func(api.Format) bool
instance : Ty Tryz.prog 76 false 1 8 (.nilFunc) [.nilFunc] := ⟨by kernel_rfl, by kernel_rfl, rfl, rfl⟩
-- 77 func(int, int, int) bool
instance : Ty Tryz.prog 77 false 1 8 (.nilFunc) [.nilFunc] := ⟨by kernel_rfl, by kernel_rfl, rfl, rfl⟩
-- 78 func(api.Fixture) bool
instance : Ty Tryz.prog 78 false 1 8 (.nilFunc) [.nilFunc] := ⟨by kernel_rfl, by kernel_rfl, rfl, rfl⟩
-- 79 func() api.Depot
instance : Ty Tryz.prog 79 false 1 8 (.nilFunc) [.nilFunc] := ⟨by kernel_rfl, by kernel_rfl, rfl, rfl⟩
-- 80 func() api.Card
instance : Ty Tryz.prog 80 false 1 8 (.nilFunc) [.nilFunc] := ⟨by kernel_rfl, by kernel_rfl, rfl, rfl⟩
-- 82 func() (api.Format, []int)
instance : Ty Tryz.prog 82 false 1 8 (.nilFunc) [.nilFunc] := ⟨by kernel_rfl, by kernel_rfl, rfl, rfl⟩
-- 83 func(api.Format) api.Errno
instance : Ty Tryz.prog 83 false 1 8 (.nilFunc) [.nilFunc] := ⟨by kernel_rfl, by kernel_rfl, rfl, rfl⟩
-- 84 func(api.Format, int) deuceref01.Match
instance : Ty Tryz.prog 84 false 1 8 (.nilFunc) [.nilFunc] := ⟨by kernel_rfl, by kernel_rfl, rfl, rfl⟩
-- 85 func(api.Format, deuceref01.Match, int) deuceref01.Match
instance : Ty Tryz.prog 85 false 1 8 (.nilFunc) [.nilFunc] := ⟨by kernel_rfl, by kernel_rfl, rfl, rfl⟩
-- 86 func(api.Format, deuceref01.Match) int
instance : Ty Tryz.prog 86 false 1 8 (.nilFunc) [.nilFunc] := ⟨by kernel_rfl, by kernel_rfl, rfl, rfl⟩
-- 87 *score.match
instance : Ty Tryz.prog 87 false 1 8 (.pointer none) [.pointer none] := ⟨by kernel_rfl, by kernel_rfl, rfl, rfl⟩
-- 89 func(api.Format, int, []int) (*score.match, api.Errno)
instance : Ty Tryz.prog 89 false 1 8 (.nilFunc) [.nilFunc] := ⟨by kernel_rfl, by kernel_rfl, rfl, rfl⟩
-- 90 struct { api.Format }
instance : Ty Tryz.prog 90 true 10 80 (.agg #[.int .i64 0, .int .i64 0, .bool false, .int .i64 0, .int .i64 0, .int .i64 0, .int .i64 0, .int .i64 0, .int .i64 0, .bool false]) [.int .i64 0, .int .i64 0, .bool false, .int .i64 0, .int .i64 0, .int .i64 0, .int .i64 0, .int .i64 0, .int .i64 0, .bool false] := ⟨by kernel_rfl, by kernel_rfl, rfl, rfl⟩
instance : FieldTy Tryz.prog 90 0 0 35 9 := ⟨by kernel_rfl, by kernel_rfl⟩
instance : BuildTy Tryz.prog 90 [(0, 10)] [.int .i64 0, .int .i64 0, .bool false, .int .i64 0, .int .i64 0, .int .i64 0, .int .i64 0, .int .i64 0, .int .i64 0, .bool false] := ⟨fun parts => by kernel_rfl⟩
-- 91 deuce/score.rules
instance : Ty Tryz.prog 91 true 10 80 (.agg #[.int .i64 0, .int .i64 0, .bool false, .int .i64 0, .int .i64 0, .int .i64 0, .int .i64 0, .int .i64 0, .int .i64 0, .bool false]) [.int .i64 0, .int .i64 0, .bool false, .int .i64 0, .int .i64 0, .int .i64 0, .int .i64 0, .int .i64 0, .int .i64 0, .bool false] := ⟨by kernel_rfl, by kernel_rfl, rfl, rfl⟩
instance : FieldTy Tryz.prog 91 0 0 35 9 := ⟨by kernel_rfl, by kernel_rfl⟩
instance : BuildTy Tryz.prog 91 [(0, 10)] [.int .i64 0, .int .i64 0, .bool false, .int .i64 0, .int .i64 0, .int .i64 0, .int .i64 0, .int .i64 0, .int .i64 0, .bool false] := ⟨fun parts => by kernel_rfl⟩
-- 92 []bool
instance : Ty Tryz.prog 92 false 1 24 (.slice none 0 0) [.slice none 0 0] := ⟨by kernel_rfl, by kernel_rfl, rfl, rfl⟩
instance : SliceTy Tryz.prog 92 4 := ⟨by kernel_rfl⟩
-- 93 struct { score.rules; api.Score; first int; won api.Pair; ties []bool; games []api.Game }
instance : Ty Tryz.prog 93 true 24 240 (.agg #[.int .i64 0, .int .i64 0, .bool false, .int .i64 0, .int .i64 0, .int .i64 0, .int .i64 0, .int .i64 0, .int .i64 0, .bool false, .slice none 0 0, .int .i64 0, .int .i64 0, .int .i64 0, .int .i64 0, .int .i64 0, .int .i64 0, .int .i64 0, .int .i64 0, .int .i64 0, .int .i64 0, .int .i64 0, .slice none 0 0, .slice none 0 0]) [.int .i64 0, .int .i64 0, .bool false, .int .i64 0, .int .i64 0, .int .i64 0, .int .i64 0, .int .i64 0, .int .i64 0, .bool false, .slice none 0 0, .int .i64 0, .int .i64 0, .int .i64 0, .int .i64 0, .int .i64 0, .int .i64 0, .int .i64 0, .int .i64 0, .int .i64 0, .int .i64 0, .int .i64 0, .slice none 0 0, .slice none 0 0] := ⟨by kernel_rfl, by kernel_rfl, rfl, rfl⟩
instance : FieldTy Tryz.prog 93 0 0 91 9 := ⟨by kernel_rfl, by kernel_rfl⟩
instance : FieldTy Tryz.prog 93 1 10 44 8 := ⟨by kernel_rfl, by kernel_rfl⟩
instance : FieldTy Tryz.prog 93 2 19 3 0 := ⟨by kernel_rfl, by kernel_rfl⟩
instance : FieldTy Tryz.prog 93 3 20 38 1 := ⟨by kernel_rfl, by kernel_rfl⟩
instance : FieldTy Tryz.prog 93 4 22 92 0 := ⟨by kernel_rfl, by kernel_rfl⟩
instance : FieldTy Tryz.prog 93 5 23 45 0 := ⟨by kernel_rfl, by kernel_rfl⟩
instance : BuildTy Tryz.prog 93 [(0, 10), (10, 9), (19, 1), (20, 2), (22, 1), (23, 1)] [.int .i64 0, .int .i64 0, .bool false, .int .i64 0, .int .i64 0, .int .i64 0, .int .i64 0, .int .i64 0, .int .i64 0, .bool false, .slice none 0 0, .int .i64 0, .int .i64 0, .int .i64 0, .int .i64 0, .int .i64 0, .int .i64 0, .int .i64 0, .int .i64 0, .int .i64 0, .int .i64 0, .int .i64 0, .slice none 0 0, .slice none 0 0] := ⟨fun parts => by kernel_rfl⟩
-- 94 deuce/score.match
instance : Ty Tryz.prog 94 true 24 240 (.agg #[.int .i64 0, .int .i64 0, .bool false, .int .i64 0, .int .i64 0, .int .i64 0, .int .i64 0, .int .i64 0, .int .i64 0, .bool false, .slice none 0 0, .int .i64 0, .int .i64 0, .int .i64 0, .int .i64 0, .int .i64 0, .int .i64 0, .int .i64 0, .int .i64 0, .int .i64 0, .int .i64 0, .int .i64 0, .slice none 0 0, .slice none 0 0]) [.int .i64 0, .int .i64 0, .bool false, .int .i64 0, .int .i64 0, .int .i64 0, .int .i64 0, .int .i64 0, .int .i64 0, .bool false, .slice none 0 0, .int .i64 0, .int .i64 0, .int .i64 0, .int .i64 0, .int .i64 0, .int .i64 0, .int .i64 0, .int .i64 0, .int .i64 0, .int .i64 0, .int .i64 0, .slice none 0 0, .slice none 0 0] := ⟨by kernel_rfl, by kernel_rfl, rfl, rfl⟩
instance : FieldTy Tryz.prog 94 0 0 91 9 := ⟨by kernel_rfl, by kernel_rfl⟩
instance : FieldTy Tryz.prog 94 1 10 44 8 := ⟨by kernel_rfl, by kernel_rfl⟩
instance : FieldTy Tryz.prog 94 2 19 3 0 := ⟨by kernel_rfl, by kernel_rfl⟩
instance : FieldTy Tryz.prog 94 3 20 38 1 := ⟨by kernel_rfl, by kernel_rfl⟩
instance : FieldTy Tryz.prog 94 4 22 92 0 := ⟨by kernel_rfl, by kernel_rfl⟩
instance : FieldTy Tryz.prog 94 5 23 45 0 := ⟨by kernel_rfl, by kernel_rfl⟩
instance : BuildTy Tryz.prog 94 [(0, 10), (10, 9), (19, 1), (20, 2), (22, 1), (23, 1)] [.int .i64 0, .int .i64 0, .bool false, .int .i64 0, .int .i64 0, .int .i64 0, .int .i64 0, .int .i64 0, .int .i64 0, .bool false, .slice none 0 0, .int .i64 0, .int .i64 0, .int .i64 0, .int .i64 0, .int .i64 0, .int .i64 0, .int .i64 0, .int .i64 0, .int .i64 0, .int .i64 0, .int .i64 0, .slice none 0 0, .slice none 0 0] := ⟨fun parts => by kernel_rfl⟩
-- 95 [61]api.Span
instance : Ty Tryz.prog 95 true 122 976 (.agg #[.int .i64 0, .int .i64 0, .int .i64 0, .int .i64 0, .int .i64 0, .int .i64 0, .int .i64 0, .int .i64 0, .int .i64 0, .int .i64 0, .int .i64 0, .int .i64 0, .int .i64 0, .int .i64 0, .int .i64 0, .int .i64 0, .int .i64 0, .int .i64 0, .int .i64 0, .int .i64 0, .int .i64 0, .int .i64 0, .int .i64 0, .int .i64 0, .int .i64 0, .int .i64 0, .int .i64 0, .int .i64 0, .int .i64 0, .int .i64 0, .int .i64 0, .int .i64 0, .int .i64 0, .int .i64 0, .int .i64 0, .int .i64 0, .int .i64 0, .int .i64 0, .int .i64 0, .int .i64 0, .int .i64 0, .int .i64 0, .int .i64 0, .int .i64 0, .int .i64 0, .int .i64 0, .int .i64 0, .int .i64 0, .int .i64 0, .int .i64 0, .int .i64 0, .int .i64 0, .int .i64 0, .int .i64 0, .int .i64 0, .int .i64 0, .int .i64 0, .int .i64 0, .int .i64 0, .int .i64 0, .int .i64 0, .int .i64 0, .int .i64 0, .int .i64 0, .int .i64 0, .int .i64 0, .int .i64 0, .int .i64 0, .int .i64 0, .int .i64 0, .int .i64 0, .int .i64 0, .int .i64 0, .int .i64 0, .int .i64 0, .int .i64 0, .int .i64 0, .int .i64 0, .int .i64 0, .int .i64 0, .int .i64 0, .int .i64 0, .int .i64 0, .int .i64 0, .int .i64 0, .int .i64 0, .int .i64 0, .int .i64 0, .int .i64 0, .int .i64 0, .int .i64 0, .int .i64 0, .int .i64 0, .int .i64 0, .int .i64 0, .int .i64 0, .int .i64 0, .int .i64 0, .int .i64 0, .int .i64 0, .int .i64 0, .int .i64 0, .int .i64 0, .int .i64 0, .int .i64 0, .int .i64 0, .int .i64 0, .int .i64 0, .int .i64 0, .int .i64 0, .int .i64 0, .int .i64 0, .int .i64 0, .int .i64 0, .int .i64 0, .int .i64 0, .int .i64 0, .int .i64 0, .int .i64 0, .int .i64 0, .int .i64 0, .int .i64 0]) [.int .i64 0, .int .i64 0, .int .i64 0, .int .i64 0, .int .i64 0, .int .i64 0, .int .i64 0, .int .i64 0, .int .i64 0, .int .i64 0, .int .i64 0, .int .i64 0, .int .i64 0, .int .i64 0, .int .i64 0, .int .i64 0, .int .i64 0, .int .i64 0, .int .i64 0, .int .i64 0, .int .i64 0, .int .i64 0, .int .i64 0, .int .i64 0, .int .i64 0, .int .i64 0, .int .i64 0, .int .i64 0, .int .i64 0, .int .i64 0, .int .i64 0, .int .i64 0, .int .i64 0, .int .i64 0, .int .i64 0, .int .i64 0, .int .i64 0, .int .i64 0, .int .i64 0, .int .i64 0, .int .i64 0, .int .i64 0, .int .i64 0, .int .i64 0, .int .i64 0, .int .i64 0, .int .i64 0, .int .i64 0, .int .i64 0, .int .i64 0, .int .i64 0, .int .i64 0, .int .i64 0, .int .i64 0, .int .i64 0, .int .i64 0, .int .i64 0, .int .i64 0, .int .i64 0, .int .i64 0, .int .i64 0, .int .i64 0, .int .i64 0, .int .i64 0, .int .i64 0, .int .i64 0, .int .i64 0, .int .i64 0, .int .i64 0, .int .i64 0, .int .i64 0, .int .i64 0, .int .i64 0, .int .i64 0, .int .i64 0, .int .i64 0, .int .i64 0, .int .i64 0, .int .i64 0, .int .i64 0, .int .i64 0, .int .i64 0, .int .i64 0, .int .i64 0, .int .i64 0, .int .i64 0, .int .i64 0, .int .i64 0, .int .i64 0, .int .i64 0, .int .i64 0, .int .i64 0, .int .i64 0, .int .i64 0, .int .i64 0, .int .i64 0, .int .i64 0, .int .i64 0, .int .i64 0, .int .i64 0, .int .i64 0, .int .i64 0, .int .i64 0, .int .i64 0, .int .i64 0, .int .i64 0, .int .i64 0, .int .i64 0, .int .i64 0, .int .i64 0, .int .i64 0, .int .i64 0, .int .i64 0, .int .i64 0, .int .i64 0, .int .i64 0, .int .i64 0, .int .i64 0, .int .i64 0, .int .i64 0, .int .i64 0, .int .i64 0] := ⟨by kernel_rfl, by kernel_rfl, rfl, rfl⟩
instance : ArrayTy Tryz.prog 95 61 56 := ⟨by kernel_rfl⟩
-- 96 struct { need [61]api.Span; left [61]api.Span }
instance : Ty Tryz.prog 96 true 244 1952 (.agg #[.int .i64 0, .int .i64 0, .int .i64 0, .int .i64 0, .int .i64 0, .int .i64 0, .int .i64 0, .int .i64 0, .int .i64 0, .int .i64 0, .int .i64 0, .int .i64 0, .int .i64 0, .int .i64 0, .int .i64 0, .int .i64 0, .int .i64 0, .int .i64 0, .int .i64 0, .int .i64 0, .int .i64 0, .int .i64 0, .int .i64 0, .int .i64 0, .int .i64 0, .int .i64 0, .int .i64 0, .int .i64 0, .int .i64 0, .int .i64 0, .int .i64 0, .int .i64 0, .int .i64 0, .int .i64 0, .int .i64 0, .int .i64 0, .int .i64 0, .int .i64 0, .int .i64 0, .int .i64 0, .int .i64 0, .int .i64 0, .int .i64 0, .int .i64 0, .int .i64 0, .int .i64 0, .int .i64 0, .int .i64 0, .int .i64 0, .int .i64 0, .int .i64 0, .int .i64 0, .int .i64 0, .int .i64 0, .int .i64 0, .int .i64 0, .int .i64 0, .int .i64 0, .int .i64 0, .int .i64 0, .int .i64 0, .int .i64 0, .int .i64 0, .int .i64 0, .int .i64 0, .int .i64 0, .int .i64 0, .int .i64 0, .int .i64 0, .int .i64 0, .int .i64 0, .int .i64 0, .int .i64 0, .int .i64 0, .int .i64 0, .int .i64 0, .int .i64 0, .int .i64 0, .int .i64 0, .int .i64 0, .int .i64 0, .int .i64 0, .int .i64 0, .int .i64 0, .int .i64 0, .int .i64 0, .int .i64 0, .int .i64 0, .int .i64 0, .int .i64 0, .int .i64 0, .int .i64 0, .int .i64 0, .int .i64 0, .int .i64 0, .int .i64 0, .int .i64 0, .int .i64 0, .int .i64 0, .int .i64 0, .int .i64 0, .int .i64 0, .int .i64 0, .int .i64 0, .int .i64 0, .int .i64 0, .int .i64 0, .int .i64 0, .int .i64 0, .int .i64 0, .int .i64 0, .int .i64 0, .int .i64 0, .int .i64 0, .int .i64 0, .int .i64 0, .int .i64 0, .int .i64 0, .int .i64 0, .int .i64 0, .int .i64 0, .int .i64 0, .int .i64 0, .int .i64 0, .int .i64 0, .int .i64 0, .int .i64 0, .int .i64 0, .int .i64 0, .int .i64 0, .int .i64 0, .int .i64 0, .int .i64 0, .int .i64 0, .int .i64 0, .int .i64 0, .int .i64 0, .int .i64 0, .int .i64 0, .int .i64 0, .int .i64 0, .int .i64 0, .int .i64 0, .int .i64 0, .int .i64 0, .int .i64 0, .int .i64 0, .int .i64 0, .int .i64 0, .int .i64 0, .int .i64 0, .int .i64 0, .int .i64 0, .int .i64 0, .int .i64 0, .int .i64 0, .int .i64 0, .int .i64 0, .int .i64 0, .int .i64 0, .int .i64 0, .int .i64 0, .int .i64 0, .int .i64 0, .int .i64 0, .int .i64 0, .int .i64 0, .int .i64 0, .int .i64 0, .int .i64 0, .int .i64 0, .int .i64 0, .int .i64 0, .int .i64 0, .int .i64 0, .int .i64 0, .int .i64 0, .int .i64 0, .int .i64 0, .int .i64 0, .int .i64 0, .int .i64 0, .int .i64 0, .int .i64 0, .int .i64 0, .int .i64 0, .int .i64 0, .int .i64 0, .int .i64 0, .int .i64 0, .int .i64 0, .int .i64 0, .int .i64 0, .int .i64 0, .int .i64 0, .int .i64 0, .int .i64 0, .int .i64 0, .int .i64 0, .int .i64 0, .int .i64 0, .int .i64 0, .int .i64 0, .int .i64 0, .int .i64 0, .int .i64 0, .int .i64 0, .int .i64 0, .int .i64 0, .int .i64 0, .int .i64 0, .int .i64 0, .int .i64 0, .int .i64 0, .int .i64 0, .int .i64 0, .int .i64 0, .int .i64 0, .int .i64 0, .int .i64 0, .int .i64 0, .int .i64 0, .int .i64 0, .int .i64 0, .int .i64 0, .int .i64 0, .int .i64 0, .int .i64 0, .int .i64 0, .int .i64 0, .int .i64 0, .int .i64 0, .int .i64 0, .int .i64 0, .int .i64 0, .int .i64 0, .int .i64 0, .int .i64 0, .int .i64 0, .int .i64 0, .int .i64 0, .int .i64 0, .int .i64 0, .int .i64 0]) [.int .i64 0, .int .i64 0, .int .i64 0, .int .i64 0, .int .i64 0, .int .i64 0, .int .i64 0, .int .i64 0, .int .i64 0, .int .i64 0, .int .i64 0, .int .i64 0, .int .i64 0, .int .i64 0, .int .i64 0, .int .i64 0, .int .i64 0, .int .i64 0, .int .i64 0, .int .i64 0, .int .i64 0, .int .i64 0, .int .i64 0, .int .i64 0, .int .i64 0, .int .i64 0, .int .i64 0, .int .i64 0, .int .i64 0, .int .i64 0, .int .i64 0, .int .i64 0, .int .i64 0, .int .i64 0, .int .i64 0, .int .i64 0, .int .i64 0, .int .i64 0, .int .i64 0, .int .i64 0, .int .i64 0, .int .i64 0, .int .i64 0, .int .i64 0, .int .i64 0, .int .i64 0, .int .i64 0, .int .i64 0, .int .i64 0, .int .i64 0, .int .i64 0, .int .i64 0, .int .i64 0, .int .i64 0, .int .i64 0, .int .i64 0, .int .i64 0, .int .i64 0, .int .i64 0, .int .i64 0, .int .i64 0, .int .i64 0, .int .i64 0, .int .i64 0, .int .i64 0, .int .i64 0, .int .i64 0, .int .i64 0, .int .i64 0, .int .i64 0, .int .i64 0, .int .i64 0, .int .i64 0, .int .i64 0, .int .i64 0, .int .i64 0, .int .i64 0, .int .i64 0, .int .i64 0, .int .i64 0, .int .i64 0, .int .i64 0, .int .i64 0, .int .i64 0, .int .i64 0, .int .i64 0, .int .i64 0, .int .i64 0, .int .i64 0, .int .i64 0, .int .i64 0, .int .i64 0, .int .i64 0, .int .i64 0, .int .i64 0, .int .i64 0, .int .i64 0, .int .i64 0, .int .i64 0, .int .i64 0, .int .i64 0, .int .i64 0, .int .i64 0, .int .i64 0, .int .i64 0, .int .i64 0, .int .i64 0, .int .i64 0, .int .i64 0, .int .i64 0, .int .i64 0, .int .i64 0, .int .i64 0, .int .i64 0, .int .i64 0, .int .i64 0, .int .i64 0, .int .i64 0, .int .i64 0, .int .i64 0, .int .i64 0, .int .i64 0, .int .i64 0, .int .i64 0, .int .i64 0, .int .i64 0, .int .i64 0, .int .i64 0, .int .i64 0, .int .i64 0, .int .i64 0, .int .i64 0, .int .i64 0, .int .i64 0, .int .i64 0, .int .i64 0, .int .i64 0, .int .i64 0, .int .i64 0, .int .i64 0, .int .i64 0, .int .i64 0, .int .i64 0, .int .i64 0, .int .i64 0, .int .i64 0, .int .i64 0, .int .i64 0, .int .i64 0, .int .i64 0, .int .i64 0, .int .i64 0, .int .i64 0, .int .i64 0, .int .i64 0, .int .i64 0, .int .i64 0, .int .i64 0, .int .i64 0, .int .i64 0, .int .i64 0, .int .i64 0, .int .i64 0, .int .i64 0, .int .i64 0, .int .i64 0, .int .i64 0, .int .i64 0, .int .i64 0, .int .i64 0, .int .i64 0, .int .i64 0, .int .i64 0, .int .i64 0, .int .i64 0, .int .i64 0, .int .i64 0, .int .i64 0, .int .i64 0, .int .i64 0, .int .i64 0, .int .i64 0, .int .i64 0, .int .i64 0, .int .i64 0, .int .i64 0, .int .i64 0, .int .i64 0, .int .i64 0, .int .i64 0, .int .i64 0, .int .i64 0, .int .i64 0, .int .i64 0, .int .i64 0, .int .i64 0, .int .i64 0, .int .i64 0, .int .i64 0, .int .i64 0, .int .i64 0, .int .i64 0, .int .i64 0, .int .i64 0, .int .i64 0, .int .i64 0, .int .i64 0, .int .i64 0, .int .i64 0, .int .i64 0, .int .i64 0, .int .i64 0, .int .i64 0, .int .i64 0, .int .i64 0, .int .i64 0, .int .i64 0, .int .i64 0, .int .i64 0, .int .i64 0, .int .i64 0, .int .i64 0, .int .i64 0, .int .i64 0, .int .i64 0, .int .i64 0, .int .i64 0, .int .i64 0, .int .i64 0, .int .i64 0, .int .i64 0, .int .i64 0, .int .i64 0, .int .i64 0, .int .i64 0, .int .i64 0, .int .i64 0, .int .i64 0, .int .i64 0, .int .i64 0, .int .i64 0, .int .i64 0, .int .i64 0, .int .i64 0] := ⟨by kernel_rfl, by kernel_rfl, rfl, rfl⟩
instance : FieldTy Tryz.prog 96 0 0 95 121 := ⟨by kernel_rfl, by kernel_rfl⟩
instance : FieldTy Tryz.prog 96 1 122 95 121 := ⟨by kernel_rfl, by kernel_rfl⟩
instance : BuildTy Tryz.prog 96 [(0, 122), (122, 122)] [.int .i64 0, .int .i64 0, .int .i64 0, .int .i64 0, .int .i64 0, .int .i64 0, .int .i64 0, .int .i64 0, .int .i64 0, .int .i64 0, .int .i64 0, .int .i64 0, .int .i64 0, .int .i64 0, .int .i64 0, .int .i64 0, .int .i64 0, .int .i64 0, .int .i64 0, .int .i64 0, .int .i64 0, .int .i64 0, .int .i64 0, .int .i64 0, .int .i64 0, .int .i64 0, .int .i64 0, .int .i64 0, .int .i64 0, .int .i64 0, .int .i64 0, .int .i64 0, .int .i64 0, .int .i64 0, .int .i64 0, .int .i64 0, .int .i64 0, .int .i64 0, .int .i64 0, .int .i64 0, .int .i64 0, .int .i64 0, .int .i64 0, .int .i64 0, .int .i64 0, .int .i64 0, .int .i64 0, .int .i64 0, .int .i64 0, .int .i64 0, .int .i64 0, .int .i64 0, .int .i64 0, .int .i64 0, .int .i64 0, .int .i64 0, .int .i64 0, .int .i64 0, .int .i64 0, .int .i64 0, .int .i64 0, .int .i64 0, .int .i64 0, .int .i64 0, .int .i64 0, .int .i64 0, .int .i64 0, .int .i64 0, .int .i64 0, .int .i64 0, .int .i64 0, .int .i64 0, .int .i64 0, .int .i64 0, .int .i64 0, .int .i64 0, .int .i64 0, .int .i64 0, .int .i64 0, .int .i64 0, .int .i64 0, .int .i64 0, .int .i64 0, .int .i64 0, .int .i64 0, .int .i64 0, .int .i64 0, .int .i64 0, .int .i64 0, .int .i64 0, .int .i64 0, .int .i64 0, .int .i64 0, .int .i64 0, .int .i64 0, .int .i64 0, .int .i64 0, .int .i64 0, .int .i64 0, .int .i64 0, .int .i64 0, .int .i64 0, .int .i64 0, .int .i64 0, .int .i64 0, .int .i64 0, .int .i64 0, .int .i64 0, .int .i64 0, .int .i64 0, .int .i64 0, .int .i64 0, .int .i64 0, .int .i64 0, .int .i64 0, .int .i64 0, .int .i64 0, .int .i64 0, .int .i64 0, .int .i64 0, .int .i64 0, .int .i64 0, .int .i64 0, .int .i64 0, .int .i64 0, .int .i64 0, .int .i64 0, .int .i64 0, .int .i64 0, .int .i64 0, .int .i64 0, .int .i64 0, .int .i64 0, .int .i64 0, .int .i64 0, .int .i64 0, .int .i64 0, .int .i64 0, .int .i64 0, .int .i64 0, .int .i64 0, .int .i64 0, .int .i64 0, .int .i64 0, .int .i64 0, .int .i64 0, .int .i64 0, .int .i64 0, .int .i64 0, .int .i64 0, .int .i64 0, .int .i64 0, .int .i64 0, .int .i64 0, .int .i64 0, .int .i64 0, .int .i64 0, .int .i64 0, .int .i64 0, .int .i64 0, .int .i64 0, .int .i64 0, .int .i64 0, .int .i64 0, .int .i64 0, .int .i64 0, .int .i64 0, .int .i64 0, .int .i64 0, .int .i64 0, .int .i64 0, .int .i64 0, .int .i64 0, .int .i64 0, .int .i64 0, .int .i64 0, .int .i64 0, .int .i64 0, .int .i64 0, .int .i64 0, .int .i64 0, .int .i64 0, .int .i64 0, .int .i64 0, .int .i64 0, .int .i64 0, .int .i64 0, .int .i64 0, .int .i64 0, .int .i64 0, .int .i64 0, .int .i64 0, .int .i64 0, .int .i64 0, .int .i64 0, .int .i64 0, .int .i64 0, .int .i64 0, .int .i64 0, .int .i64 0, .int .i64 0, .int .i64 0, .int .i64 0, .int .i64 0, .int .i64 0, .int .i64 0, .int .i64 0, .int .i64 0, .int .i64 0, .int .i64 0, .int .i64 0, .int .i64 0, .int .i64 0, .int .i64 0, .int .i64 0, .int .i64 0, .int .i64 0, .int .i64 0, .int .i64 0, .int .i64 0, .int .i64 0, .int .i64 0, .int .i64 0, .int .i64 0, .int .i64 0, .int .i64 0, .int .i64 0, .int .i64 0, .int .i64 0, .int .i64 0, .int .i64 0, .int .i64 0, .int .i64 0, .int .i64 0, .int .i64 0, .int .i64 0, .int .i64 0, .int .i64 0, .int .i64 0, .int .i64 0, .int .i64 0, .int .i64 0, .int .i64 0, .int .i64 0] := ⟨fun parts => by kernel_rfl⟩
-- 97 deuce/balls.week
instance : Ty Tryz.prog 97 true 244 1952 (.agg #[.int .i64 0, .int .i64 0, .int .i64 0, .int .i64 0, .int .i64 0, .int .i64 0, .int .i64 0, .int .i64 0, .int .i64 0, .int .i64 0, .int .i64 0, .int .i64 0, .int .i64 0, .int .i64 0, .int .i64 0, .int .i64 0, .int .i64 0, .int .i64 0, .int .i64 0, .int .i64 0, .int .i64 0, .int .i64 0, .int .i64 0, .int .i64 0, .int .i64 0, .int .i64 0, .int .i64 0, .int .i64 0, .int .i64 0, .int .i64 0, .int .i64 0, .int .i64 0, .int .i64 0, .int .i64 0, .int .i64 0, .int .i64 0, .int .i64 0, .int .i64 0, .int .i64 0, .int .i64 0, .int .i64 0, .int .i64 0, .int .i64 0, .int .i64 0, .int .i64 0, .int .i64 0, .int .i64 0, .int .i64 0, .int .i64 0, .int .i64 0, .int .i64 0, .int .i64 0, .int .i64 0, .int .i64 0, .int .i64 0, .int .i64 0, .int .i64 0, .int .i64 0, .int .i64 0, .int .i64 0, .int .i64 0, .int .i64 0, .int .i64 0, .int .i64 0, .int .i64 0, .int .i64 0, .int .i64 0, .int .i64 0, .int .i64 0, .int .i64 0, .int .i64 0, .int .i64 0, .int .i64 0, .int .i64 0, .int .i64 0, .int .i64 0, .int .i64 0, .int .i64 0, .int .i64 0, .int .i64 0, .int .i64 0, .int .i64 0, .int .i64 0, .int .i64 0, .int .i64 0, .int .i64 0, .int .i64 0, .int .i64 0, .int .i64 0, .int .i64 0, .int .i64 0, .int .i64 0, .int .i64 0, .int .i64 0, .int .i64 0, .int .i64 0, .int .i64 0, .int .i64 0, .int .i64 0, .int .i64 0, .int .i64 0, .int .i64 0, .int .i64 0, .int .i64 0, .int .i64 0, .int .i64 0, .int .i64 0, .int .i64 0, .int .i64 0, .int .i64 0, .int .i64 0, .int .i64 0, .int .i64 0, .int .i64 0, .int .i64 0, .int .i64 0, .int .i64 0, .int .i64 0, .int .i64 0, .int .i64 0, .int .i64 0, .int .i64 0, .int .i64 0, .int .i64 0, .int .i64 0, .int .i64 0, .int .i64 0, .int .i64 0, .int .i64 0, .int .i64 0, .int .i64 0, .int .i64 0, .int .i64 0, .int .i64 0, .int .i64 0, .int .i64 0, .int .i64 0, .int .i64 0, .int .i64 0, .int .i64 0, .int .i64 0, .int .i64 0, .int .i64 0, .int .i64 0, .int .i64 0, .int .i64 0, .int .i64 0, .int .i64 0, .int .i64 0, .int .i64 0, .int .i64 0, .int .i64 0, .int .i64 0, .int .i64 0, .int .i64 0, .int .i64 0, .int .i64 0, .int .i64 0, .int .i64 0, .int .i64 0, .int .i64 0, .int .i64 0, .int .i64 0, .int .i64 0, .int .i64 0, .int .i64 0, .int .i64 0, .int .i64 0, .int .i64 0, .int .i64 0, .int .i64 0, .int .i64 0, .int .i64 0, .int .i64 0, .int .i64 0, .int .i64 0, .int .i64 0, .int .i64 0, .int .i64 0, .int .i64 0, .int .i64 0, .int .i64 0, .int .i64 0, .int .i64 0, .int .i64 0, .int .i64 0, .int .i64 0, .int .i64 0, .int .i64 0, .int .i64 0, .int .i64 0, .int .i64 0, .int .i64 0, .int .i64 0, .int .i64 0, .int .i64 0, .int .i64 0, .int .i64 0, .int .i64 0, .int .i64 0, .int .i64 0, .int .i64 0, .int .i64 0, .int .i64 0, .int .i64 0, .int .i64 0, .int .i64 0, .int .i64 0, .int .i64 0, .int .i64 0, .int .i64 0, .int .i64 0, .int .i64 0, .int .i64 0, .int .i64 0, .int .i64 0, .int .i64 0, .int .i64 0, .int .i64 0, .int .i64 0, .int .i64 0, .int .i64 0, .int .i64 0, .int .i64 0, .int .i64 0, .int .i64 0, .int .i64 0, .int .i64 0, .int .i64 0, .int .i64 0, .int .i64 0, .int .i64 0, .int .i64 0, .int .i64 0, .int .i64 0, .int .i64 0, .int .i64 0, .int .i64 0, .int .i64 0, .int .i64 0, .int .i64 0, .int .i64 0, .int .i64 0, .int .i64 0]) [.int .i64 0, .int .i64 0, .int .i64 0, .int .i64 0, .int .i64 0, .int .i64 0, .int .i64 0, .int .i64 0, .int .i64 0, .int .i64 0, .int .i64 0, .int .i64 0, .int .i64 0, .int .i64 0, .int .i64 0, .int .i64 0, .int .i64 0, .int .i64 0, .int .i64 0, .int .i64 0, .int .i64 0, .int .i64 0, .int .i64 0, .int .i64 0, .int .i64 0, .int .i64 0, .int .i64 0, .int .i64 0, .int .i64 0, .int .i64 0, .int .i64 0, .int .i64 0, .int .i64 0, .int .i64 0, .int .i64 0, .int .i64 0, .int .i64 0, .int .i64 0, .int .i64 0, .int .i64 0, .int .i64 0, .int .i64 0, .int .i64 0, .int .i64 0, .int .i64 0, .int .i64 0, .int .i64 0, .int .i64 0, .int .i64 0, .int .i64 0, .int .i64 0, .int .i64 0, .int .i64 0, .int .i64 0, .int .i64 0, .int .i64 0, .int .i64 0, .int .i64 0, .int .i64 0, .int .i64 0, .int .i64 0, .int .i64 0, .int .i64 0, .int .i64 0, .int .i64 0, .int .i64 0, .int .i64 0, .int .i64 0, .int .i64 0, .int .i64 0, .int .i64 0, .int .i64 0, .int .i64 0, .int .i64 0, .int .i64 0, .int .i64 0, .int .i64 0, .int .i64 0, .int .i64 0, .int .i64 0, .int .i64 0, .int .i64 0, .int .i64 0, .int .i64 0, .int .i64 0, .int .i64 0, .int .i64 0, .int .i64 0, .int .i64 0, .int .i64 0, .int .i64 0, .int .i64 0, .int .i64 0, .int .i64 0, .int .i64 0, .int .i64 0, .int .i64 0, .int .i64 0, .int .i64 0, .int .i64 0, .int .i64 0, .int .i64 0, .int .i64 0, .int .i64 0, .int .i64 0, .int .i64 0, .int .i64 0, .int .i64 0, .int .i64 0, .int .i64 0, .int .i64 0, .int .i64 0, .int .i64 0, .int .i64 0, .int .i64 0, .int .i64 0, .int .i64 0, .int .i64 0, .int .i64 0, .int .i64 0, .int .i64 0, .int .i64 0, .int .i64 0, .int .i64 0, .int .i64 0, .int .i64 0, .int .i64 0, .int .i64 0, .int .i64 0, .int .i64 0, .int .i64 0, .int .i64 0, .int .i64 0, .int .i64 0, .int .i64 0, .int .i64 0, .int .i64 0, .int .i64 0, .int .i64 0, .int .i64 0, .int .i64 0, .int .i64 0, .int .i64 0, .int .i64 0, .int .i64 0, .int .i64 0, .int .i64 0, .int .i64 0, .int .i64 0, .int .i64 0, .int .i64 0, .int .i64 0, .int .i64 0, .int .i64 0, .int .i64 0, .int .i64 0, .int .i64 0, .int .i64 0, .int .i64 0, .int .i64 0, .int .i64 0, .int .i64 0, .int .i64 0, .int .i64 0, .int .i64 0, .int .i64 0, .int .i64 0, .int .i64 0, .int .i64 0, .int .i64 0, .int .i64 0, .int .i64 0, .int .i64 0, .int .i64 0, .int .i64 0, .int .i64 0, .int .i64 0, .int .i64 0, .int .i64 0, .int .i64 0, .int .i64 0, .int .i64 0, .int .i64 0, .int .i64 0, .int .i64 0, .int .i64 0, .int .i64 0, .int .i64 0, .int .i64 0, .int .i64 0, .int .i64 0, .int .i64 0, .int .i64 0, .int .i64 0, .int .i64 0, .int .i64 0, .int .i64 0, .int .i64 0, .int .i64 0, .int .i64 0, .int .i64 0, .int .i64 0, .int .i64 0, .int .i64 0, .int .i64 0, .int .i64 0, .int .i64 0, .int .i64 0, .int .i64 0, .int .i64 0, .int .i64 0, .int .i64 0, .int .i64 0, .int .i64 0, .int .i64 0, .int .i64 0, .int .i64 0, .int .i64 0, .int .i64 0, .int .i64 0, .int .i64 0, .int .i64 0, .int .i64 0, .int .i64 0, .int .i64 0, .int .i64 0, .int .i64 0, .int .i64 0, .int .i64 0, .int .i64 0, .int .i64 0, .int .i64 0, .int .i64 0, .int .i64 0, .int .i64 0, .int .i64 0, .int .i64 0, .int .i64 0, .int .i64 0, .int .i64 0, .int .i64 0, .int .i64 0, .int .i64 0, .int .i64 0] := ⟨by kernel_rfl, by kernel_rfl, rfl, rfl⟩
instance : FieldTy Tryz.prog 97 0 0 95 121 := ⟨by kernel_rfl, by kernel_rfl⟩
instance : FieldTy Tryz.prog 97 1 122 95 121 := ⟨by kernel_rfl, by kernel_rfl⟩
instance : BuildTy Tryz.prog 97 [(0, 122), (122, 122)] [.int .i64 0, .int .i64 0, .int .i64 0, .int .i64 0, .int .i64 0, .int .i64 0, .int .i64 0, .int .i64 0, .int .i64 0, .int .i64 0, .int .i64 0, .int .i64 0, .int .i64 0, .int .i64 0, .int .i64 0, .int .i64 0, .int .i64 0, .int .i64 0, .int .i64 0, .int .i64 0, .int .i64 0, .int .i64 0, .int .i64 0, .int .i64 0, .int .i64 0, .int .i64 0, .int .i64 0, .int .i64 0, .int .i64 0, .int .i64 0, .int .i64 0, .int .i64 0, .int .i64 0, .int .i64 0, .int .i64 0, .int .i64 0, .int .i64 0, .int .i64 0, .int .i64 0, .int .i64 0, .int .i64 0, .int .i64 0, .int .i64 0, .int .i64 0, .int .i64 0, .int .i64 0, .int .i64 0, .int .i64 0, .int .i64 0, .int .i64 0, .int .i64 0, .int .i64 0, .int .i64 0, .int .i64 0, .int .i64 0, .int .i64 0, .int .i64 0, .int .i64 0, .int .i64 0, .int .i64 0, .int .i64 0, .int .i64 0, .int .i64 0, .int .i64 0, .int .i64 0, .int .i64 0, .int .i64 0, .int .i64 0, .int .i64 0, .int .i64 0, .int .i64 0, .int .i64 0, .int .i64 0, .int .i64 0, .int .i64 0, .int .i64 0, .int .i64 0, .int .i64 0, .int .i64 0, .int .i64 0, .int .i64 0, .int .i64 0, .int .i64 0, .int .i64 0, .int .i64 0, .int .i64 0, .int .i64 0, .int .i64 0, .int .i64 0, .int .i64 0, .int .i64 0, .int .i64 0, .int .i64 0, .int .i64 0, .int .i64 0, .int .i64 0, .int .i64 0, .int .i64 0, .int .i64 0, .int .i64 0, .int .i64 0, .int .i64 0, .int .i64 0, .int .i64 0, .int .i64 0, .int .i64 0, .int .i64 0, .int .i64 0, .int .i64 0, .int .i64 0, .int .i64 0, .int .i64 0, .int .i64 0, .int .i64 0, .int .i64 0, .int .i64 0, .int .i64 0, .int .i64 0, .int .i64 0, .int .i64 0, .int .i64 0, .int .i64 0, .int .i64 0, .int .i64 0, .int .i64 0, .int .i64 0, .int .i64 0, .int .i64 0, .int .i64 0, .int .i64 0, .int .i64 0, .int .i64 0, .int .i64 0, .int .i64 0, .int .i64 0, .int .i64 0, .int .i64 0, .int .i64 0, .int .i64 0, .int .i64 0, .int .i64 0, .int .i64 0, .int .i64 0, .int .i64 0, .int .i64 0, .int .i64 0, .int .i64 0, .int .i64 0, .int .i64 0, .int .i64 0, .int .i64 0, .int .i64 0, .int .i64 0, .int .i64 0, .int .i64 0, .int .i64 0, .int .i64 0, .int .i64 0, .int .i64 0, .int .i64 0, .int .i64 0, .int .i64 0, .int .i64 0, .int .i64 0, .int .i64 0, .int .i64 0, .int .i64 0, .int .i64 0, .int .i64 0, .int .i64 0, .int .i64 0, .int .i64 0, .int .i64 0, .int .i64 0, .int .i64 0, .int .i64 0, .int .i64 0, .int .i64 0, .int .i64 0, .int .i64 0, .int .i64 0, .int .i64 0, .int .i64 0, .int .i64 0, .int .i64 0, .int .i64 0, .int .i64 0, .int .i64 0, .int .i64 0, .int .i64 0, .int .i64 0, .int .i64 0, .int .i64 0, .int .i64 0, .int .i64 0, .int .i64 0, .int .i64 0, .int .i64 0, .int .i64 0, .int .i64 0, .int .i64 0, .int .i64 0, .int .i64 0, .int .i64 0, .int .i64 0, .int .i64 0, .int .i64 0, .int .i64 0, .int .i64 0, .int .i64 0, .int .i64 0, .int .i64 0, .int .i64 0, .int .i64 0, .int .i64 0, .int .i64 0, .int .i64 0, .int .i64 0, .int .i64 0, .int .i64 0, .int .i64 0, .int .i64 0, .int .i64 0, .int .i64 0, .int .i64 0, .int .i64 0, .int .i64 0, .int .i64 0, .int .i64 0, .int .i64 0, .int .i64 0, .int .i64 0, .int .i64 0, .int .i64 0, .int .i64 0, .int .i64 0, .int .i64 0, .int .i64 0, .int .i64 0, .int .i64 0, .int .i64 0, .int .i64 0, .int .i64 0, .int .i64 0] := ⟨fun parts => by kernel_rfl⟩
-- 99 func(api.Depot, int, int) (balls.week, api.Errno)
instance : Ty Tryz.prog 99 false 1 8 (.nilFunc) [.nilFunc] := ⟨by kernel_rfl, by kernel_rfl, rfl, rfl⟩
-- 100 struct { Kind int; Side int; Pair api.Pair }
instance : Ty Tryz.prog 100 true 4 32 (.agg #[.int .i64 0, .int .i64 0, .int .i64 0, .int .i64 0]) [.int .i64 0, .int .i64 0, .int .i64 0, .int .i64 0] := ⟨by kernel_rfl, by kernel_rfl, rfl, rfl⟩
instance : FieldTy Tryz.prog 100 0 0 3 0 := ⟨by kernel_rfl, by kernel_rfl⟩
instance : FieldTy Tryz.prog 100 1 1 3 0 := ⟨by kernel_rfl, by kernel_rfl⟩
instance : FieldTy Tryz.prog 100 2 2 38 1 := ⟨by kernel_rfl, by kernel_rfl⟩
instance : BuildTy Tryz.prog 100 [(0, 1), (1, 1), (2, 2)] [.int .i64 0, .int .i64 0, .int .i64 0, .int .i64 0] := ⟨fun parts => by kernel_rfl⟩
-- 101 deuce/api.Note
instance : Ty Tryz.prog 101 true 4 32 (.agg #[.int .i64 0, .int .i64 0, .int .i64 0, .int .i64 0]) [.int .i64 0, .int .i64 0, .int .i64 0, .int .i64 0] := ⟨by kernel_rfl, by kernel_rfl, rfl, rfl⟩
instance : FieldTy Tryz.prog 101 0 0 3 0 := ⟨by kernel_rfl, by kernel_rfl⟩
instance : FieldTy Tryz.prog 101 1 1 3 0 := ⟨by kernel_rfl, by kernel_rfl⟩
instance : FieldTy Tryz.prog 101 2 2 38 1 := ⟨by kernel_rfl, by kernel_rfl⟩
instance : BuildTy Tryz.prog 101 [(0, 1), (1, 1), (2, 2)] [.int .i64 0, .int .i64 0, .int .i64 0, .int .i64 0] := ⟨fun parts => by kernel_rfl⟩
-- 102 func(api.Note) bool
instance : Ty Tryz.prog 102 false 1 8 (.nilFunc) [.nilFunc] := ⟨by kernel_rfl, by kernel_rfl, rfl, rfl⟩
-- 103 func(api.Note) int
instance : Ty Tryz.prog 103 false 1 8 (.nilFunc) [.nilFunc] := ⟨by kernel_rfl, by kernel_rfl, rfl, rfl⟩
-- 105 func(score.set) (api.Span, int)
instance : Ty Tryz.prog 105 false 1 8 (.nilFunc) [.nilFunc] := ⟨by kernel_rfl, by kernel_rfl, rfl, rfl⟩
-- 106 struct { tie int; to int }
instance : Ty Tryz.prog 106 true 2 16 (.agg #[.int .i64 0, .int .i64 0]) [.int .i64 0, .int .i64 0] := ⟨by kernel_rfl, by kernel_rfl, rfl, rfl⟩
instance : EqS Tryz.prog 106 2 := ⟨by kernel_rfl, by kernel_rfl, by kernel_rfl⟩
instance : FieldTy Tryz.prog 106 0 0 3 0 := ⟨by kernel_rfl, by kernel_rfl⟩
instance : FieldTy Tryz.prog 106 1 1 3 0 := ⟨by kernel_rfl, by kernel_rfl⟩
instance : BuildTy Tryz.prog 106 [(0, 1), (1, 1)] [.int .i64 0, .int .i64 0] := ⟨fun parts => by kernel_rfl⟩
-- 107 deuce/score.set
instance : Ty Tryz.prog 107 true 2 16 (.agg #[.int .i64 0, .int .i64 0]) [.int .i64 0, .int .i64 0] := ⟨by kernel_rfl, by kernel_rfl, rfl, rfl⟩
instance : EqS Tryz.prog 107 2 := ⟨by kernel_rfl, by kernel_rfl, by kernel_rfl⟩
instance : FieldTy Tryz.prog 107 0 0 3 0 := ⟨by kernel_rfl, by kernel_rfl⟩
instance : FieldTy Tryz.prog 107 1 1 3 0 := ⟨by kernel_rfl, by kernel_rfl⟩
instance : BuildTy Tryz.prog 107 [(0, 1), (1, 1)] [.int .i64 0, .int .i64 0] := ⟨fun parts => by kernel_rfl⟩
-- 108 map[card.spot]*card.node
instance : Ty Tryz.prog 108 false 1 8 (.map none) [.map none] := ⟨by kernel_rfl, by kernel_rfl, rfl, rfl⟩
-- 109 deuce/card.crowd
instance : Ty Tryz.prog 109 false 1 8 (.map none) [.map none] := ⟨by kernel_rfl, by kernel_rfl, rfl, rfl⟩
-- 111 func(api.Card) (card.crowd, api.Errno)
instance : Ty Tryz.prog 111 false 1 8 (.nilFunc) [.nilFunc] := ⟨by kernel_rfl, by kernel_rfl, rfl, rfl⟩
-- 112 [5]api.Pair
instance : Ty Tryz.prog 112 true 10 80 (.agg #[.int .i64 0, .int .i64 0, .int .i64 0, .int .i64 0, .int .i64 0, .int .i64 0, .int .i64 0, .int .i64 0, .int .i64 0, .int .i64 0]) [.int .i64 0, .int .i64 0, .int .i64 0, .int .i64 0, .int .i64 0, .int .i64 0, .int .i64 0, .int .i64 0, .int .i64 0, .int .i64 0] := ⟨by kernel_rfl, by kernel_rfl, rfl, rfl⟩
instance : ArrayTy Tryz.prog 112 5 38 := ⟨by kernel_rfl⟩
-- 113 struct { first int; over int; sets [5]api.Pair; games api.Pair; points api.Pair }
instance : Ty Tryz.prog 113 true 16 128 (.agg #[.int .i64 0, .int .i64 0, .int .i64 0, .int .i64 0, .int .i64 0, .int .i64 0, .int .i64 0, .int .i64 0, .int .i64 0, .int .i64 0, .int .i64 0, .int .i64 0, .int .i64 0, .int .i64 0, .int .i64 0, .int .i64 0]) [.int .i64 0, .int .i64 0, .int .i64 0, .int .i64 0, .int .i64 0, .int .i64 0, .int .i64 0, .int .i64 0, .int .i64 0, .int .i64 0, .int .i64 0, .int .i64 0, .int .i64 0, .int .i64 0, .int .i64 0, .int .i64 0] := ⟨by kernel_rfl, by kernel_rfl, rfl, rfl⟩
instance : FieldTy Tryz.prog 113 0 0 3 0 := ⟨by kernel_rfl, by kernel_rfl⟩
instance : FieldTy Tryz.prog 113 1 1 3 0 := ⟨by kernel_rfl, by kernel_rfl⟩
instance : FieldTy Tryz.prog 113 2 2 112 9 := ⟨by kernel_rfl, by kernel_rfl⟩
instance : FieldTy Tryz.prog 113 3 12 38 1 := ⟨by kernel_rfl, by kernel_rfl⟩
instance : FieldTy Tryz.prog 113 4 14 38 1 := ⟨by kernel_rfl, by kernel_rfl⟩
instance : BuildTy Tryz.prog 113 [(0, 1), (1, 1), (2, 10), (12, 2), (14, 2)] [.int .i64 0, .int .i64 0, .int .i64 0, .int .i64 0, .int .i64 0, .int .i64 0, .int .i64 0, .int .i64 0, .int .i64 0, .int .i64 0, .int .i64 0, .int .i64 0, .int .i64 0, .int .i64 0, .int .i64 0, .int .i64 0] := ⟨fun parts => by kernel_rfl⟩
-- 114 deuce/card.spot
instance : Ty Tryz.prog 114 true 16 128 (.agg #[.int .i64 0, .int .i64 0, .int .i64 0, .int .i64 0, .int .i64 0, .int .i64 0, .int .i64 0, .int .i64 0, .int .i64 0, .int .i64 0, .int .i64 0, .int .i64 0, .int .i64 0, .int .i64 0, .int .i64 0, .int .i64 0]) [.int .i64 0, .int .i64 0, .int .i64 0, .int .i64 0, .int .i64 0, .int .i64 0, .int .i64 0, .int .i64 0, .int .i64 0, .int .i64 0, .int .i64 0, .int .i64 0, .int .i64 0, .int .i64 0, .int .i64 0, .int .i64 0] := ⟨by kernel_rfl, by kernel_rfl, rfl, rfl⟩
instance : FieldTy Tryz.prog 114 0 0 3 0 := ⟨by kernel_rfl, by kernel_rfl⟩
instance : FieldTy Tryz.prog 114 1 1 3 0 := ⟨by kernel_rfl, by kernel_rfl⟩
instance : FieldTy Tryz.prog 114 2 2 112 9 := ⟨by kernel_rfl, by kernel_rfl⟩
instance : FieldTy Tryz.prog 114 3 12 38 1 := ⟨by kernel_rfl, by kernel_rfl⟩
instance : FieldTy Tryz.prog 114 4 14 38 1 := ⟨by kernel_rfl, by kernel_rfl⟩
instance : BuildTy Tryz.prog 114 [(0, 1), (1, 1), (2, 10), (12, 2), (14, 2)] [.int .i64 0, .int .i64 0, .int .i64 0, .int .i64 0, .int .i64 0, .int .i64 0, .int .i64 0, .int .i64 0, .int .i64 0, .int .i64 0, .int .i64 0, .int .i64 0, .int .i64 0, .int .i64 0, .int .i64 0, .int .i64 0] := ⟨fun parts => by kernel_rfl⟩
-- 115 func() api.Board
instance : Ty Tryz.prog 115 false 1 8 (.nilFunc) [.nilFunc] := ⟨by kernel_rfl, by kernel_rfl, rfl, rfl⟩
-- 116 func(...int) int
instance : Ty Tryz.prog 116 false 1 8 (.nilFunc) [.nilFunc] := ⟨by kernel_rfl, by kernel_rfl, rfl, rfl⟩
-- 117 func([]api.Pair, []api.Pair, func(api.Pair, api.Pair) int) int
instance : Ty Tryz.prog 117 false 1 8 (.nilFunc) [.nilFunc] := ⟨by kernel_rfl, by kernel_rfl, rfl, rfl⟩
-- 118 func(api.Pair, api.Pair) int
instance : Ty Tryz.prog 118 false 1 8 (.nilFunc) [.nilFunc] := ⟨by kernel_rfl, by kernel_rfl, rfl, rfl⟩
-- 119 func(api.Board, api.Board) int
instance : Ty Tryz.prog 119 false 1 8 (.nilFunc) [.nilFunc] := ⟨by kernel_rfl, by kernel_rfl, rfl, rfl⟩
-- 120 func([]api.Board, func(api.Board, api.Board) int)
instance : Ty Tryz.prog 120 false 1 8 (.nilFunc) [.nilFunc] := ⟨by kernel_rfl, by kernel_rfl, rfl, rfl⟩
-- 121 func([]api.Board, func(api.Board, api.Board) bool) []api.Board
instance : Ty Tryz.prog 121 false 1 8 (.nilFunc) [.nilFunc] := ⟨by kernel_rfl, by kernel_rfl, rfl, rfl⟩
-- 122 func(api.Board, api.Board) bool
instance : Ty Tryz.prog 122 false 1 8 (.nilFunc) [.nilFunc] := ⟨by kernel_rfl, by kernel_rfl, rfl, rfl⟩
-- 123 func(api.Format, api.Board) api.Errno
instance : Ty Tryz.prog 123 false 1 8 (.nilFunc) [.nilFunc] := ⟨by kernel_rfl, by kernel_rfl, rfl, rfl⟩
-- 124 struct { changes api.Span; sets api.Span }
instance : Ty Tryz.prog 124 true 4 32 (.agg #[.int .i64 0, .int .i64 0, .int .i64 0, .int .i64 0]) [.int .i64 0, .int .i64 0, .int .i64 0, .int .i64 0] := ⟨by kernel_rfl, by kernel_rfl, rfl, rfl⟩
instance : FieldTy Tryz.prog 124 0 0 56 1 := ⟨by kernel_rfl, by kernel_rfl⟩
instance : FieldTy Tryz.prog 124 1 2 56 1 := ⟨by kernel_rfl, by kernel_rfl⟩
instance : BuildTy Tryz.prog 124 [(0, 2), (2, 2)] [.int .i64 0, .int .i64 0, .int .i64 0, .int .i64 0] := ⟨fun parts => by kernel_rfl⟩
-- 125 deuce/balls.bound
instance : Ty Tryz.prog 125 true 4 32 (.agg #[.int .i64 0, .int .i64 0, .int .i64 0, .int .i64 0]) [.int .i64 0, .int .i64 0, .int .i64 0, .int .i64 0] := ⟨by kernel_rfl, by kernel_rfl, rfl, rfl⟩
instance : FieldTy Tryz.prog 125 0 0 56 1 := ⟨by kernel_rfl, by kernel_rfl⟩
instance : FieldTy Tryz.prog 125 1 2 56 1 := ⟨by kernel_rfl, by kernel_rfl⟩
instance : BuildTy Tryz.prog 125 [(0, 2), (2, 2)] [.int .i64 0, .int .i64 0, .int .i64 0, .int .i64 0] := ⟨fun parts => by kernel_rfl⟩
-- 127 func(api.Format, api.Board) (balls.bound, bool)
instance : Ty Tryz.prog 127 false 1 8 (.nilFunc) [.nilFunc] := ⟨by kernel_rfl, by kernel_rfl, rfl, rfl⟩
-- 129 func(api.Board) (api.Pair, bool)
instance : Ty Tryz.prog 129 false 1 8 (.nilFunc) [.nilFunc] := ⟨by kernel_rfl, by kernel_rfl, rfl, rfl⟩
-- 130 func(api.Format, int) bool
instance : Ty Tryz.prog 130 false 1 8 (.nilFunc) [.nilFunc] := ⟨by kernel_rfl, by kernel_rfl, rfl, rfl⟩
-- 131 func(api.Format, deuceref01.Match) deuceref01.Match
instance : Ty Tryz.prog 131 false 1 8 (.nilFunc) [.nilFunc] := ⟨by kernel_rfl, by kernel_rfl, rfl, rfl⟩
-- 133 func(api.Format, api.Board) (bool, int)
instance : Ty Tryz.prog 133 false 1 8 (.nilFunc) [.nilFunc] := ⟨by kernel_rfl, by kernel_rfl, rfl, rfl⟩
-- 134 func(api.Pair, int) api.Pair
instance : Ty Tryz.prog 134 false 1 8 (.nilFunc) [.nilFunc] := ⟨by kernel_rfl, by kernel_rfl, rfl, rfl⟩
-- 135 func(api.Format, api.Pair) int
instance : Ty Tryz.prog 135 false 1 8 (.nilFunc) [.nilFunc] := ⟨by kernel_rfl, by kernel_rfl, rfl, rfl⟩
-- 136 func(api.Pair, int) int
instance : Ty Tryz.prog 136 false 1 8 (.nilFunc) [.nilFunc] := ⟨by kernel_rfl, by kernel_rfl, rfl, rfl⟩
-- 137 func(api.Format, int, int, bool, int) int
instance : Ty Tryz.prog 137 false 1 8 (.nilFunc) [.nilFunc] := ⟨by kernel_rfl, by kernel_rfl, rfl, rfl⟩
-- 138 struct { Set int; Tie bool; Server int; Winner int; Points api.Pair; Fresh bool }
instance : Ty Tryz.prog 138 true 7 56 (.agg #[.int .i64 0, .bool false, .int .i64 0, .int .i64 0, .int .i64 0, .int .i64 0, .bool false]) [.int .i64 0, .bool false, .int .i64 0, .int .i64 0, .int .i64 0, .int .i64 0, .bool false] := ⟨by kernel_rfl, by kernel_rfl, rfl, rfl⟩
instance : FieldTy Tryz.prog 138 0 0 3 0 := ⟨by kernel_rfl, by kernel_rfl⟩
instance : FieldTy Tryz.prog 138 1 1 4 0 := ⟨by kernel_rfl, by kernel_rfl⟩
instance : FieldTy Tryz.prog 138 2 2 3 0 := ⟨by kernel_rfl, by kernel_rfl⟩
instance : FieldTy Tryz.prog 138 3 3 3 0 := ⟨by kernel_rfl, by kernel_rfl⟩
instance : FieldTy Tryz.prog 138 4 4 38 1 := ⟨by kernel_rfl, by kernel_rfl⟩
instance : FieldTy Tryz.prog 138 5 6 4 0 := ⟨by kernel_rfl, by kernel_rfl⟩
instance : BuildTy Tryz.prog 138 [(0, 1), (1, 1), (2, 1), (3, 1), (4, 2), (6, 1)] [.int .i64 0, .bool false, .int .i64 0, .int .i64 0, .int .i64 0, .int .i64 0, .bool false] := ⟨fun parts => by kernel_rfl⟩
-- 139 deuce/api.Game
instance : Ty Tryz.prog 139 true 7 56 (.agg #[.int .i64 0, .bool false, .int .i64 0, .int .i64 0, .int .i64 0, .int .i64 0, .bool false]) [.int .i64 0, .bool false, .int .i64 0, .int .i64 0, .int .i64 0, .int .i64 0, .bool false] := ⟨by kernel_rfl, by kernel_rfl, rfl, rfl⟩
instance : FieldTy Tryz.prog 139 0 0 3 0 := ⟨by kernel_rfl, by kernel_rfl⟩
instance : FieldTy Tryz.prog 139 1 1 4 0 := ⟨by kernel_rfl, by kernel_rfl⟩
instance : FieldTy Tryz.prog 139 2 2 3 0 := ⟨by kernel_rfl, by kernel_rfl⟩
instance : FieldTy Tryz.prog 139 3 3 3 0 := ⟨by kernel_rfl, by kernel_rfl⟩
instance : FieldTy Tryz.prog 139 4 4 38 1 := ⟨by kernel_rfl, by kernel_rfl⟩
instance : FieldTy Tryz.prog 139 5 6 4 0 := ⟨by kernel_rfl, by kernel_rfl⟩
instance : BuildTy Tryz.prog 139 [(0, 1), (1, 1), (2, 1), (3, 1), (4, 2), (6, 1)] [.int .i64 0, .bool false, .int .i64 0, .int .i64 0, .int .i64 0, .int .i64 0, .bool false] := ⟨fun parts => by kernel_rfl⟩
-- 140 func([]api.Pair) api.Pair
instance : Ty Tryz.prog 140 false 1 8 (.nilFunc) [.nilFunc] := ⟨by kernel_rfl, by kernel_rfl, rfl, rfl⟩
-- 141 func(score.rules, int) *score.match
instance : Ty Tryz.prog 141 false 1 8 (.nilFunc) [.nilFunc] := ⟨by kernel_rfl, by kernel_rfl, rfl, rfl⟩
-- 142 func(int)
instance : Ty Tryz.prog 142 false 1 8 (.nilFunc) [.nilFunc] := ⟨by kernel_rfl, by kernel_rfl, rfl, rfl⟩
-- 143 func(api.Depot, int) balls.week
instance : Ty Tryz.prog 143 false 1 8 (.nilFunc) [.nilFunc] := ⟨by kernel_rfl, by kernel_rfl, rfl, rfl⟩
-- 144 func(int) bool
instance : Ty Tryz.prog 144 false 1 8 (.nilFunc) [.nilFunc] := ⟨by kernel_rfl, by kernel_rfl, rfl, rfl⟩
-- 146 func(api.Card) (card.crowd, int, api.Errno)
instance : Ty Tryz.prog 146 false 1 8 (.nilFunc) [.nilFunc] := ⟨by kernel_rfl, by kernel_rfl, rfl, rfl⟩
-- 147 func([]api.Pair) []api.Pair
instance : Ty Tryz.prog 147 false 1 8 (.nilFunc) [.nilFunc] := ⟨by kernel_rfl, by kernel_rfl, rfl, rfl⟩
-- 148 func([]api.Board, int, int, int, func(api.Board, api.Board) int)
instance : Ty Tryz.prog 148 false 1 8 (.nilFunc) [.nilFunc] := ⟨by kernel_rfl, by kernel_rfl, rfl, rfl⟩
-- 149 func(uint) int
instance : Ty Tryz.prog 149 false 1 8 (.nilFunc) [.nilFunc] := ⟨by kernel_rfl, by kernel_rfl, rfl, rfl⟩
-- 150 uint
instance : Ty Tryz.prog 150 false 1 8 (.int .u64 0) [.int .u64 0] := ⟨by kernel_rfl, by kernel_rfl, rfl, rfl⟩
-- 151 map[balls.spot]balls.bound
instance : Ty Tryz.prog 151 false 1 8 (.map none) [.map none] := ⟨by kernel_rfl, by kernel_rfl, rfl, rfl⟩
-- 152 struct { api.Format; known map[balls.spot]balls.bound }
instance : Ty Tryz.prog 152 true 11 88 (.agg #[.int .i64 0, .int .i64 0, .bool false, .int .i64 0, .int .i64 0, .int .i64 0, .int .i64 0, .int .i64 0, .int .i64 0, .bool false, .map none]) [.int .i64 0, .int .i64 0, .bool false, .int .i64 0, .int .i64 0, .int .i64 0, .int .i64 0, .int .i64 0, .int .i64 0, .bool false, .map none] := ⟨by kernel_rfl, by kernel_rfl, rfl, rfl⟩
instance : FieldTy Tryz.prog 152 0 0 35 9 := ⟨by kernel_rfl, by kernel_rfl⟩
instance : FieldTy Tryz.prog 152 1 10 151 0 := ⟨by kernel_rfl, by kernel_rfl⟩
instance : BuildTy Tryz.prog 152 [(0, 10), (10, 1)] [.int .i64 0, .int .i64 0, .bool false, .int .i64 0, .int .i64 0, .int .i64 0, .int .i64 0, .int .i64 0, .int .i64 0, .bool false, .map none] := ⟨fun parts => by kernel_rfl⟩
-- 153 deuce/balls.rest
instance : Ty Tryz.prog 153 true 11 88 (.agg #[.int .i64 0, .int .i64 0, .bool false, .int .i64 0, .int .i64 0, .int .i64 0, .int .i64 0, .int .i64 0, .int .i64 0, .bool false, .map none]) [.int .i64 0, .int .i64 0, .bool false, .int .i64 0, .int .i64 0, .int .i64 0, .int .i64 0, .int .i64 0, .int .i64 0, .bool false, .map none] := ⟨by kernel_rfl, by kernel_rfl, rfl, rfl⟩
instance : FieldTy Tryz.prog 153 0 0 35 9 := ⟨by kernel_rfl, by kernel_rfl⟩
instance : FieldTy Tryz.prog 153 1 10 151 0 := ⟨by kernel_rfl, by kernel_rfl⟩
instance : BuildTy Tryz.prog 153 [(0, 10), (10, 1)] [.int .i64 0, .int .i64 0, .bool false, .int .i64 0, .int .i64 0, .int .i64 0, .int .i64 0, .int .i64 0, .int .i64 0, .bool false, .map none] := ⟨fun parts => by kernel_rfl⟩
-- 154 [2]int
instance : Ty Tryz.prog 154 true 2 16 (.agg #[.int .i64 0, .int .i64 0]) [.int .i64 0, .int .i64 0] := ⟨by kernel_rfl, by kernel_rfl, rfl, rfl⟩
instance : ArrayTy Tryz.prog 154 2 3 := ⟨by kernel_rfl⟩
instance : EqA Tryz.prog 154 2 := ⟨by kernel_rfl, by kernel_rfl, by kernel_rfl, by kernel_rfl⟩
-- 155 struct { won api.Pair; games api.Pair; number int; ties [2]int }
instance : Ty Tryz.prog 155 true 7 56 (.agg #[.int .i64 0, .int .i64 0, .int .i64 0, .int .i64 0, .int .i64 0, .int .i64 0, .int .i64 0]) [.int .i64 0, .int .i64 0, .int .i64 0, .int .i64 0, .int .i64 0, .int .i64 0, .int .i64 0] := ⟨by kernel_rfl, by kernel_rfl, rfl, rfl⟩
instance : FieldTy Tryz.prog 155 0 0 38 1 := ⟨by kernel_rfl, by kernel_rfl⟩
instance : FieldTy Tryz.prog 155 1 2 38 1 := ⟨by kernel_rfl, by kernel_rfl⟩
instance : FieldTy Tryz.prog 155 2 4 3 0 := ⟨by kernel_rfl, by kernel_rfl⟩
instance : FieldTy Tryz.prog 155 3 5 154 1 := ⟨by kernel_rfl, by kernel_rfl⟩
instance : BuildTy Tryz.prog 155 [(0, 2), (2, 2), (4, 1), (5, 2)] [.int .i64 0, .int .i64 0, .int .i64 0, .int .i64 0, .int .i64 0, .int .i64 0, .int .i64 0] := ⟨fun parts => by kernel_rfl⟩
-- 156 deuce/balls.spot
instance : Ty Tryz.prog 156 true 7 56 (.agg #[.int .i64 0, .int .i64 0, .int .i64 0, .int .i64 0, .int .i64 0, .int .i64 0, .int .i64 0]) [.int .i64 0, .int .i64 0, .int .i64 0, .int .i64 0, .int .i64 0, .int .i64 0, .int .i64 0] := ⟨by kernel_rfl, by kernel_rfl, rfl, rfl⟩
instance : FieldTy Tryz.prog 156 0 0 38 1 := ⟨by kernel_rfl, by kernel_rfl⟩
instance : FieldTy Tryz.prog 156 1 2 38 1 := ⟨by kernel_rfl, by kernel_rfl⟩
instance : FieldTy Tryz.prog 156 2 4 3 0 := ⟨by kernel_rfl, by kernel_rfl⟩
instance : FieldTy Tryz.prog 156 3 5 154 1 := ⟨by kernel_rfl, by kernel_rfl⟩
instance : BuildTy Tryz.prog 156 [(0, 2), (2, 2), (4, 1), (5, 2)] [.int .i64 0, .int .i64 0, .int .i64 0, .int .i64 0, .int .i64 0, .int .i64 0, .int .i64 0] := ⟨fun parts => by kernel_rfl⟩
-- 157 func(balls.spot) balls.bound
instance : Ty Tryz.prog 157 false 1 8 (.nilFunc) [.nilFunc] := ⟨by kernel_rfl, by kernel_rfl, rfl, rfl⟩
-- 159 func(api.Board) (bool, bool)
instance : Ty Tryz.prog 159 false 1 8 (.nilFunc) [.nilFunc] := ⟨by kernel_rfl, by kernel_rfl, rfl, rfl⟩
-- 160 func(api.Pair) bool
instance : Ty Tryz.prog 160 false 1 8 (.nilFunc) [.nilFunc] := ⟨by kernel_rfl, by kernel_rfl, rfl, rfl⟩
-- 161 func([]api.Pair, func(api.Pair) bool) bool
instance : Ty Tryz.prog 161 false 1 8 (.nilFunc) [.nilFunc] := ⟨by kernel_rfl, by kernel_rfl, rfl, rfl⟩
-- 162 func(api.Board) []api.Pair
instance : Ty Tryz.prog 162 false 1 8 (.nilFunc) [.nilFunc] := ⟨by kernel_rfl, by kernel_rfl, rfl, rfl⟩
-- 164 func([]api.Pair) (api.Pair, int, bool)
instance : Ty Tryz.prog 164 false 1 8 (.nilFunc) [.nilFunc] := ⟨by kernel_rfl, by kernel_rfl, rfl, rfl⟩
-- 165 func(api.Pair) score.set
instance : Ty Tryz.prog 165 false 1 8 (.nilFunc) [.nilFunc] := ⟨by kernel_rfl, by kernel_rfl, rfl, rfl⟩
-- 166 struct { orders int; over bool }
instance : Ty Tryz.prog 166 true 2 16 (.agg #[.int .i64 0, .bool false]) [.int .i64 0, .bool false] := ⟨by kernel_rfl, by kernel_rfl, rfl, rfl⟩
instance : FieldTy Tryz.prog 166 0 0 3 0 := ⟨by kernel_rfl, by kernel_rfl⟩
instance : FieldTy Tryz.prog 166 1 1 4 0 := ⟨by kernel_rfl, by kernel_rfl⟩
instance : BuildTy Tryz.prog 166 [(0, 1), (1, 1)] [.int .i64 0, .bool false] := ⟨fun parts => by kernel_rfl⟩
-- 167 deuce/score.stand
instance : Ty Tryz.prog 167 true 2 16 (.agg #[.int .i64 0, .bool false]) [.int .i64 0, .bool false] := ⟨by kernel_rfl, by kernel_rfl, rfl, rfl⟩
instance : FieldTy Tryz.prog 167 0 0 3 0 := ⟨by kernel_rfl, by kernel_rfl⟩
instance : FieldTy Tryz.prog 167 1 1 4 0 := ⟨by kernel_rfl, by kernel_rfl⟩
instance : BuildTy Tryz.prog 167 [(0, 1), (1, 1)] [.int .i64 0, .bool false] := ⟨fun parts => by kernel_rfl⟩
-- 169 map[api.Pair]score.stand
instance : Ty Tryz.prog 169 false 1 8 (.map none) [.map none] := ⟨by kernel_rfl, by kernel_rfl, rfl, rfl⟩
-- 170 func(score.set) map[api.Pair]score.stand
instance : Ty Tryz.prog 170 false 1 8 (.nilFunc) [.nilFunc] := ⟨by kernel_rfl, by kernel_rfl, rfl, rfl⟩
-- 171 func(score.set, bool, api.Pair) int
instance : Ty Tryz.prog 171 false 1 8 (.nilFunc) [.nilFunc] := ⟨by kernel_rfl, by kernel_rfl, rfl, rfl⟩
-- 173 func(api.Format, bool) (int, int)
instance : Ty Tryz.prog 173 false 1 8 (.nilFunc) [.nilFunc] := ⟨by kernel_rfl, by kernel_rfl, rfl, rfl⟩
-- 174 func(api.Format, api.Board) bool
instance : Ty Tryz.prog 174 false 1 8 (.nilFunc) [.nilFunc] := ⟨by kernel_rfl, by kernel_rfl, rfl, rfl⟩
-- 175 func(api.Format, api.Pair) bool
instance : Ty Tryz.prog 175 false 1 8 (.nilFunc) [.nilFunc] := ⟨by kernel_rfl, by kernel_rfl, rfl, rfl⟩
-- 176 func() int
instance : Ty Tryz.prog 176 false 1 8 (.nilFunc) [.nilFunc] := ⟨by kernel_rfl, by kernel_rfl, rfl, rfl⟩
-- 177 func(api.Pair) int
instance : Ty Tryz.prog 177 false 1 8 (.nilFunc) [.nilFunc] := ⟨by kernel_rfl, by kernel_rfl, rfl, rfl⟩
-- 178 func(int) int
instance : Ty Tryz.prog 178 false 1 8 (.nilFunc) [.nilFunc] := ⟨by kernel_rfl, by kernel_rfl, rfl, rfl⟩
-- 179 func(api.Pair, int, int) int
instance : Ty Tryz.prog 179 false 1 8 (.nilFunc) [.nilFunc] := ⟨by kernel_rfl, by kernel_rfl, rfl, rfl⟩
-- 180 func([]int, func(int) bool) bool
instance : Ty Tryz.prog 180 false 1 8 (.nilFunc) [.nilFunc] := ⟨by kernel_rfl, by kernel_rfl, rfl, rfl⟩
-- 181 [3]api.Span
instance : Ty Tryz.prog 181 true 6 48 (.agg #[.int .i64 0, .int .i64 0, .int .i64 0, .int .i64 0, .int .i64 0, .int .i64 0]) [.int .i64 0, .int .i64 0, .int .i64 0, .int .i64 0, .int .i64 0, .int .i64 0] := ⟨by kernel_rfl, by kernel_rfl, rfl, rfl⟩
instance : ArrayTy Tryz.prog 181 3 56 := ⟨by kernel_rfl⟩
-- 182 deuce/balls.need
instance : Ty Tryz.prog 182 true 6 48 (.agg #[.int .i64 0, .int .i64 0, .int .i64 0, .int .i64 0, .int .i64 0, .int .i64 0]) [.int .i64 0, .int .i64 0, .int .i64 0, .int .i64 0, .int .i64 0, .int .i64 0] := ⟨by kernel_rfl, by kernel_rfl, rfl, rfl⟩
instance : ArrayTy Tryz.prog 182 3 56 := ⟨by kernel_rfl⟩
-- 183 func(api.Kit, api.Fixture) balls.need
instance : Ty Tryz.prog 183 false 1 8 (.nilFunc) [.nilFunc] := ⟨by kernel_rfl, by kernel_rfl, rfl, rfl⟩
-- 184 struct { api.Card }
instance : Ty Tryz.prog 184 true 12 112 (.agg #[.int .i64 0, .int .i64 0, .bool false, .int .i64 0, .int .i64 0, .int .i64 0, .int .i64 0, .int .i64 0, .int .i64 0, .bool false, .int .i64 0, .slice none 0 0]) [.int .i64 0, .int .i64 0, .bool false, .int .i64 0, .int .i64 0, .int .i64 0, .int .i64 0, .int .i64 0, .int .i64 0, .bool false, .int .i64 0, .slice none 0 0] := ⟨by kernel_rfl, by kernel_rfl, rfl, rfl⟩
instance : FieldTy Tryz.prog 184 0 0 64 11 := ⟨by kernel_rfl, by kernel_rfl⟩
instance : BuildTy Tryz.prog 184 [(0, 12)] [.int .i64 0, .int .i64 0, .bool false, .int .i64 0, .int .i64 0, .int .i64 0, .int .i64 0, .int .i64 0, .int .i64 0, .bool false, .int .i64 0, .slice none 0 0] := ⟨fun parts => by kernel_rfl⟩
-- 185 deuce/card.reader
instance : Ty Tryz.prog 185 true 12 112 (.agg #[.int .i64 0, .int .i64 0, .bool false, .int .i64 0, .int .i64 0, .int .i64 0, .int .i64 0, .int .i64 0, .int .i64 0, .bool false, .int .i64 0, .slice none 0 0]) [.int .i64 0, .int .i64 0, .bool false, .int .i64 0, .int .i64 0, .int .i64 0, .int .i64 0, .int .i64 0, .int .i64 0, .bool false, .int .i64 0, .slice none 0 0] := ⟨by kernel_rfl, by kernel_rfl, rfl, rfl⟩
instance : FieldTy Tryz.prog 185 0 0 64 11 := ⟨by kernel_rfl, by kernel_rfl⟩
instance : BuildTy Tryz.prog 185 [(0, 12)] [.int .i64 0, .int .i64 0, .bool false, .int .i64 0, .int .i64 0, .int .i64 0, .int .i64 0, .int .i64 0, .int .i64 0, .bool false, .int .i64 0, .slice none 0 0] := ⟨fun parts => by kernel_rfl⟩
-- 186 func() card.crowd
instance : Ty Tryz.prog 186 false 1 8 (.nilFunc) [.nilFunc] := ⟨by kernel_rfl, by kernel_rfl, rfl, rfl⟩
-- 187 func(card.crowd, api.Note) card.crowd
instance : Ty Tryz.prog 187 false 1 8 (.nilFunc) [.nilFunc] := ⟨by kernel_rfl, by kernel_rfl, rfl, rfl⟩
-- 188 func([]api.Board, int, int, func(api.Board, api.Board) int)
instance : Ty Tryz.prog 188 false 1 8 (.nilFunc) [.nilFunc] := ⟨by kernel_rfl, by kernel_rfl, rfl, rfl⟩
-- 189 slices.sortedHint
instance : Ty Tryz.prog 189 false 1 8 (.int .i64 0) [.int .i64 0] := ⟨by kernel_rfl, by kernel_rfl, rfl, rfl⟩
-- 191 func([]api.Board, int, int, func(api.Board, api.Board) int) (int, slices.sortedHint)
instance : Ty Tryz.prog 191 false 1 8 (.nilFunc) [.nilFunc] := ⟨by kernel_rfl, by kernel_rfl, rfl, rfl⟩
-- 192 func([]api.Board, int, int, func(api.Board, api.Board) int) bool
instance : Ty Tryz.prog 192 false 1 8 (.nilFunc) [.nilFunc] := ⟨by kernel_rfl, by kernel_rfl, rfl, rfl⟩
-- 193 func([]api.Board, int, int, int, func(api.Board, api.Board) int) int
instance : Ty Tryz.prog 193 false 1 8 (.nilFunc) [.nilFunc] := ⟨by kernel_rfl, by kernel_rfl, rfl, rfl⟩
-- 195 func([]api.Board, int, int, int, func(api.Board, api.Board) int) (int, bool)
instance : Ty Tryz.prog 195 false 1 8 (.nilFunc) [.nilFunc] := ⟨by kernel_rfl, by kernel_rfl, rfl, rfl⟩
-- 196 func(uint32) int
instance : Ty Tryz.prog 196 false 1 8 (.nilFunc) [.nilFunc] := ⟨by kernel_rfl, by kernel_rfl, rfl, rfl⟩
-- 197 uint32
instance : Ty Tryz.prog 197 false 1 4 (.int .u32 0) [.int .u32 0] := ⟨by kernel_rfl, by kernel_rfl, rfl, rfl⟩
-- 198 func(uint64) int
instance : Ty Tryz.prog 198 false 1 8 (.nilFunc) [.nilFunc] := ⟨by kernel_rfl, by kernel_rfl, rfl, rfl⟩
-- 199 uint64
instance : Ty Tryz.prog 199 false 1 8 (.int .u64 0) [.int .u64 0] := ⟨by kernel_rfl, by kernel_rfl, rfl, rfl⟩
-- 201 func(balls.spot, int) (balls.spot, bool, bool)
instance : Ty Tryz.prog 201 false 1 8 (.nilFunc) [.nilFunc] := ⟨by kernel_rfl, by kernel_rfl, rfl, rfl⟩
-- 202 func(balls.bound) balls.bound
instance : Ty Tryz.prog 202 false 1 8 (.nilFunc) [.nilFunc] := ⟨by kernel_rfl, by kernel_rfl, rfl, rfl⟩
-- 203 func([]api.Pair, func(api.Pair) bool) int
instance : Ty Tryz.prog 203 false 1 8 (.nilFunc) [.nilFunc] := ⟨by kernel_rfl, by kernel_rfl, rfl, rfl⟩
-- 204 [][]int
instance : Ty Tryz.prog 204 false 1 24 (.slice none 0 0) [.slice none 0 0] := ⟨by kernel_rfl, by kernel_rfl, rfl, rfl⟩
instance : SliceTy Tryz.prog 204 24 := ⟨by kernel_rfl⟩
-- 206 func(api.Format, bool) ([][]int, [][]int)
instance : Ty Tryz.prog 206 false 1 8 (.nilFunc) [.nilFunc] := ⟨by kernel_rfl, by kernel_rfl, rfl, rfl⟩
-- 207 func(api.Format, bool, int, api.Pair) bool
instance : Ty Tryz.prog 207 false 1 8 (.nilFunc) [.nilFunc] := ⟨by kernel_rfl, by kernel_rfl, rfl, rfl⟩
-- 208 func([]int, func(int) bool) int
instance : Ty Tryz.prog 208 false 1 8 (.nilFunc) [.nilFunc] := ⟨by kernel_rfl, by kernel_rfl, rfl, rfl⟩
-- 209 func(api.Span, int) api.Span
instance : Ty Tryz.prog 209 false 1 8 (.nilFunc) [.nilFunc] := ⟨by kernel_rfl, by kernel_rfl, rfl, rfl⟩
-- 210 func(*card.node)
instance : Ty Tryz.prog 210 false 1 8 (.nilFunc) [.nilFunc] := ⟨by kernel_rfl, by kernel_rfl, rfl, rfl⟩
-- 211 *card.node
instance : Ty Tryz.prog 211 false 1 8 (.pointer none) [.pointer none] := ⟨by kernel_rfl, by kernel_rfl, rfl, rfl⟩
-- 212 struct { card.spot; before *card.node; side int; many api.Span }
instance : Ty Tryz.prog 212 true 20 160 (.agg #[.int .i64 0, .int .i64 0, .int .i64 0, .int .i64 0, .int .i64 0, .int .i64 0, .int .i64 0, .int .i64 0, .int .i64 0, .int .i64 0, .int .i64 0, .int .i64 0, .int .i64 0, .int .i64 0, .int .i64 0, .int .i64 0, .pointer none, .int .i64 0, .int .i64 0, .int .i64 0]) [.int .i64 0, .int .i64 0, .int .i64 0, .int .i64 0, .int .i64 0, .int .i64 0, .int .i64 0, .int .i64 0, .int .i64 0, .int .i64 0, .int .i64 0, .int .i64 0, .int .i64 0, .int .i64 0, .int .i64 0, .int .i64 0, .pointer none, .int .i64 0, .int .i64 0, .int .i64 0] := ⟨by kernel_rfl, by kernel_rfl, rfl, rfl⟩
instance : FieldTy Tryz.prog 212 0 0 114 15 := ⟨by kernel_rfl, by kernel_rfl⟩
instance : FieldTy Tryz.prog 212 1 16 211 0 := ⟨by kernel_rfl, by kernel_rfl⟩
instance : FieldTy Tryz.prog 212 2 17 3 0 := ⟨by kernel_rfl, by kernel_rfl⟩
instance : FieldTy Tryz.prog 212 3 18 56 1 := ⟨by kernel_rfl, by kernel_rfl⟩
instance : BuildTy Tryz.prog 212 [(0, 16), (16, 1), (17, 1), (18, 2)] [.int .i64 0, .int .i64 0, .int .i64 0, .int .i64 0, .int .i64 0, .int .i64 0, .int .i64 0, .int .i64 0, .int .i64 0, .int .i64 0, .int .i64 0, .int .i64 0, .int .i64 0, .int .i64 0, .int .i64 0, .int .i64 0, .pointer none, .int .i64 0, .int .i64 0, .int .i64 0] := ⟨fun parts => by kernel_rfl⟩
-- 213 deuce/card.node
instance : Ty Tryz.prog 213 true 20 160 (.agg #[.int .i64 0, .int .i64 0, .int .i64 0, .int .i64 0, .int .i64 0, .int .i64 0, .int .i64 0, .int .i64 0, .int .i64 0, .int .i64 0, .int .i64 0, .int .i64 0, .int .i64 0, .int .i64 0, .int .i64 0, .int .i64 0, .pointer none, .int .i64 0, .int .i64 0, .int .i64 0]) [.int .i64 0, .int .i64 0, .int .i64 0, .int .i64 0, .int .i64 0, .int .i64 0, .int .i64 0, .int .i64 0, .int .i64 0, .int .i64 0, .int .i64 0, .int .i64 0, .int .i64 0, .int .i64 0, .int .i64 0, .int .i64 0, .pointer none, .int .i64 0, .int .i64 0, .int .i64 0] := ⟨by kernel_rfl, by kernel_rfl, rfl, rfl⟩
instance : FieldTy Tryz.prog 213 0 0 114 15 := ⟨by kernel_rfl, by kernel_rfl⟩
instance : FieldTy Tryz.prog 213 1 16 211 0 := ⟨by kernel_rfl, by kernel_rfl⟩
instance : FieldTy Tryz.prog 213 2 17 3 0 := ⟨by kernel_rfl, by kernel_rfl⟩
instance : FieldTy Tryz.prog 213 3 18 56 1 := ⟨by kernel_rfl, by kernel_rfl⟩
instance : BuildTy Tryz.prog 213 [(0, 16), (16, 1), (17, 1), (18, 2)] [.int .i64 0, .int .i64 0, .int .i64 0, .int .i64 0, .int .i64 0, .int .i64 0, .int .i64 0, .int .i64 0, .int .i64 0, .int .i64 0, .int .i64 0, .int .i64 0, .int .i64 0, .int .i64 0, .int .i64 0, .int .i64 0, .pointer none, .int .i64 0, .int .i64 0, .int .i64 0] := ⟨fun parts => by kernel_rfl⟩
-- 214 func(card.crowd, int) card.crowd
instance : Ty Tryz.prog 214 false 1 8 (.nilFunc) [.nilFunc] := ⟨by kernel_rfl, by kernel_rfl, rfl, rfl⟩
-- 215 func(api.Note, *card.node) bool
instance : Ty Tryz.prog 215 false 1 8 (.nilFunc) [.nilFunc] := ⟨by kernel_rfl, by kernel_rfl, rfl, rfl⟩
-- 216 slices.xorshift
instance : Ty Tryz.prog 216 false 1 8 (.int .u64 0) [.int .u64 0] := ⟨by kernel_rfl, by kernel_rfl, rfl, rfl⟩
-- 217 func(int) uint
instance : Ty Tryz.prog 217 false 1 8 (.nilFunc) [.nilFunc] := ⟨by kernel_rfl, by kernel_rfl, rfl, rfl⟩
-- 218 func() uint64
instance : Ty Tryz.prog 218 false 1 8 (.nilFunc) [.nilFunc] := ⟨by kernel_rfl, by kernel_rfl, rfl, rfl⟩
-- 219 func([]api.Board, int, *int, func(api.Board, api.Board) int) int
instance : Ty Tryz.prog 219 false 1 8 (.nilFunc) [.nilFunc] := ⟨by kernel_rfl, by kernel_rfl, rfl, rfl⟩
-- 220 *int
instance : Ty Tryz.prog 220 false 1 8 (.pointer none) [.pointer none] := ⟨by kernel_rfl, by kernel_rfl, rfl, rfl⟩
-- 221 func([]api.Board, int, int, int, *int, func(api.Board, api.Board) int) int
instance : Ty Tryz.prog 221 false 1 8 (.nilFunc) [.nilFunc] := ⟨by kernel_rfl, by kernel_rfl, rfl, rfl⟩
-- 222 func(api.Span, api.Span) api.Span
instance : Ty Tryz.prog 222 false 1 8 (.nilFunc) [.nilFunc] := ⟨by kernel_rfl, by kernel_rfl, rfl, rfl⟩
-- 224 func(*card.node, int) *card.node
instance : Ty Tryz.prog 224 false 1 8 (.nilFunc) [.nilFunc] := ⟨by kernel_rfl, by kernel_rfl, rfl, rfl⟩
-- 225 func() api.Pair
instance : Ty Tryz.prog 225 false 1 8 (.nilFunc) [.nilFunc] := ⟨by kernel_rfl, by kernel_rfl, rfl, rfl⟩
-- 226 func(*card.node) api.Score
instance : Ty Tryz.prog 226 false 1 8 (.nilFunc) [.nilFunc] := ⟨by kernel_rfl, by kernel_rfl, rfl, rfl⟩
-- 227 *slices.xorshift
instance : Ty Tryz.prog 227 false 1 8 (.pointer none) [.pointer none] := ⟨by kernel_rfl, by kernel_rfl, rfl, rfl⟩
-- 228 func([]api.Board, int, int, *int, func(api.Board, api.Board) int) (int, int)
instance : Ty Tryz.prog 228 false 1 8 (.nilFunc) [.nilFunc] := ⟨by kernel_rfl, by kernel_rfl, rfl, rfl⟩
-- 229 func(api.Pair, int, int, int) bool
instance : Ty Tryz.prog 229 false 1 8 (.nilFunc) [.nilFunc] := ⟨by kernel_rfl, by kernel_rfl, rfl, rfl⟩
-- 230 func() []int
instance : Ty Tryz.prog 230 false 1 8 (.nilFunc) [.nilFunc] := ⟨by kernel_rfl, by kernel_rfl, rfl, rfl⟩
-- 231 func([]int)
instance : Ty Tryz.prog 231 false 1 8 (.nilFunc) [.nilFunc] := ⟨by kernel_rfl, by kernel_rfl, rfl, rfl⟩
-- 232 func() string
instance : Ty Tryz.prog 232 false 1 8 (.nilFunc) [.nilFunc] := ⟨by kernel_rfl, by kernel_rfl, rfl, rfl⟩
-- 233 struct { _interface *abi.Type; concrete *abi.Type; asserted *abi.Type; missingMethod string }
instance : Ty Tryz.prog 233 true 4 40 (.agg #[.pointer none, .pointer none, .pointer none, .string ByteArray.empty]) [.pointer none, .pointer none, .pointer none, .string ByteArray.empty] := ⟨by kernel_rfl, by kernel_rfl, rfl, rfl⟩
instance : FieldTy Tryz.prog 233 0 0 17 0 := ⟨by kernel_rfl, by kernel_rfl⟩
instance : FieldTy Tryz.prog 233 1 1 17 0 := ⟨by kernel_rfl, by kernel_rfl⟩
instance : FieldTy Tryz.prog 233 2 2 17 0 := ⟨by kernel_rfl, by kernel_rfl⟩
instance : FieldTy Tryz.prog 233 3 3 9 0 := ⟨by kernel_rfl, by kernel_rfl⟩
instance : BuildTy Tryz.prog 233 [(0, 1), (1, 1), (2, 1), (3, 1)] [.pointer none, .pointer none, .pointer none, .string ByteArray.empty] := ⟨fun parts => by kernel_rfl⟩
-- 235 [0]*runtime.PanicNilError
instance : Ty Tryz.prog 235 true 0 0 (.agg #[]) [] := ⟨by kernel_rfl, by kernel_rfl, rfl, rfl⟩
instance : ArrayTy Tryz.prog 235 0 16 := ⟨by kernel_rfl⟩
-- 236 struct { _ [0]*runtime.PanicNilError }
instance : Ty Tryz.prog 236 true 0 0 (.agg #[]) [] := ⟨by kernel_rfl, by kernel_rfl, rfl, rfl⟩
-- 240 func(unsafe.Pointer, unsafe.Pointer) bool
instance : Ty Tryz.prog 240 false 1 8 (.nilFunc) [.nilFunc] := ⟨by kernel_rfl, by kernel_rfl, rfl, rfl⟩
-- 241 *uint8
instance : Ty Tryz.prog 241 false 1 8 (.pointer none) [.pointer none] := ⟨by kernel_rfl, by kernel_rfl, rfl, rfl⟩
-- 244 struct { Size_ uintptr; PtrBytes uintptr; Hash uint32; TFlag abi.TFlag; Align_ uint8; FieldAlign_ uint8; Kind_ abi.Kind; Equal func(unsafe.Pointer, unsafe.Pointer) bool; GCData *uint8; Str abi.NameOff; PtrToThis abi.TypeOff }
instance : Ty Tryz.prog 244 true 11 48 (.agg #[.int .u64 0, .int .u64 0, .int .u32 0, .int .u8 0, .int .u8 0, .int .u8 0, .int .u8 0, .nilFunc, .pointer none, .int .i32 0, .int .i32 0]) [.int .u64 0, .int .u64 0, .int .u32 0, .int .u8 0, .int .u8 0, .int .u8 0, .int .u8 0, .nilFunc, .pointer none, .int .i32 0, .int .i32 0] := ⟨by kernel_rfl, by kernel_rfl, rfl, rfl⟩
instance : FieldTy Tryz.prog 244 0 0 12 0 := ⟨by kernel_rfl, by kernel_rfl⟩
instance : FieldTy Tryz.prog 244 1 1 12 0 := ⟨by kernel_rfl, by kernel_rfl⟩
instance : FieldTy Tryz.prog 244 2 2 197 0 := ⟨by kernel_rfl, by kernel_rfl⟩
instance : FieldTy Tryz.prog 244 3 3 238 0 := ⟨by kernel_rfl, by kernel_rfl⟩
instance : FieldTy Tryz.prog 244 4 4 5 0 := ⟨by kernel_rfl, by kernel_rfl⟩
instance : FieldTy Tryz.prog 244 5 5 5 0 := ⟨by kernel_rfl, by kernel_rfl⟩
instance : FieldTy Tryz.prog 244 6 6 239 0 := ⟨by kernel_rfl, by kernel_rfl⟩
instance : FieldTy Tryz.prog 244 7 7 240 0 := ⟨by kernel_rfl, by kernel_rfl⟩
instance : FieldTy Tryz.prog 244 8 8 241 0 := ⟨by kernel_rfl, by kernel_rfl⟩
instance : FieldTy Tryz.prog 244 9 9 242 0 := ⟨by kernel_rfl, by kernel_rfl⟩
instance : FieldTy Tryz.prog 244 10 10 243 0 := ⟨by kernel_rfl, by kernel_rfl⟩
instance : BuildTy Tryz.prog 244 [(0, 1), (1, 1), (2, 1), (3, 1), (4, 1), (5, 1), (6, 1), (7, 1), (8, 1), (9, 1), (10, 1)] [.int .u64 0, .int .u64 0, .int .u32 0, .int .u8 0, .int .u8 0, .int .u8 0, .int .u8 0, .nilFunc, .pointer none, .int .i32 0, .int .i32 0] := ⟨fun parts => by kernel_rfl⟩
-- 246 unsafe.Pointer
instance : Ty Tryz.prog 246 false 1 8 (.pointer none) [.pointer none] := ⟨by kernel_rfl, by kernel_rfl, rfl, rfl⟩
-- deuce/deucetop.TopCans
instance : FnOk Tryz.prog 3 := ⟨by kernel_rfl⟩
-- deuce/deucetop.TopDoubt
instance : FnOk Tryz.prog 4 := ⟨by kernel_rfl⟩
-- deuce/deucelaw09.Far
instance : FnOk Tryz.prog 5 := ⟨by kernel_rfl⟩
-- deuce/deuceref09.Check
instance : FnOk Tryz.prog 6 := ⟨by kernel_rfl⟩
-- deuce/deucetop.stocked
instance : FnOk Tryz.prog 7 := ⟨by kernel_rfl⟩
-- deuce/deuceref01.Run
instance : FnOk Tryz.prog 8 := ⟨by kernel_rfl⟩
-- deuce/deuceref09.Begun
instance : FnOk Tryz.prog 9 := ⟨by kernel_rfl⟩
-- deuce/score.Play
instance : FnOk Tryz.prog 10 := ⟨by kernel_rfl⟩
-- deuce/balls.Need
instance : FnOk Tryz.prog 11 := ⟨by kernel_rfl⟩
-- deuce/balls.Left
instance : FnOk Tryz.prog 12 := ⟨by kernel_rfl⟩
-- deuce/deucelaw03.Far
instance : FnOk Tryz.prog 13 := ⟨by kernel_rfl⟩
-- deuce/deuceref03.Check
instance : FnOk Tryz.prog 14 := ⟨by kernel_rfl⟩
-- deuce/score.Range
instance : FnOk Tryz.prog 15 := ⟨by kernel_rfl⟩
-- deuce/card.Boards
instance : FnOk Tryz.prog 16 := ⟨by kernel_rfl⟩
-- deuce/balls.Rest
instance : FnOk Tryz.prog 17 := ⟨by kernel_rfl⟩
-- deuce/score.Arises
instance : FnOk Tryz.prog 18 := ⟨by kernel_rfl⟩
-- deuce/deucelaw09.far
instance : FnOk Tryz.prog 19 := ⟨by kernel_rfl⟩
-- deuce/deuceref09.within
instance : FnOk Tryz.prog 20 := ⟨by kernel_rfl⟩
-- deuce/deuceref09.isFixture
instance : FnOk Tryz.prog 21 := ⟨by kernel_rfl⟩
-- deuce/deucelaw09.Example
instance : FnOk Tryz.prog 22 := ⟨by kernel_rfl⟩
-- deuce/deucelaw03.Example
instance : FnOk Tryz.prog 23 := ⟨by kernel_rfl⟩
-- deuce/deucelaw01.Example
instance : FnOk Tryz.prog 24 := ⟨by kernel_rfl⟩
-- deuce/deuceref01.Check
instance : FnOk Tryz.prog 25 := ⟨by kernel_rfl⟩
-- deuce/deuceref01.within
instance : FnOk Tryz.prog 26 := ⟨by kernel_rfl⟩
-- deuce/deuceref01.Begin
instance : FnOk Tryz.prog 27 := ⟨by kernel_rfl⟩
-- deuce/deuceref01.Point
instance : FnOk Tryz.prog 28 := ⟨by kernel_rfl⟩
-- deuce/deuceref01.Next
instance : FnOk Tryz.prog 29 := ⟨by kernel_rfl⟩
-- deuce/score.play
instance : FnOk Tryz.prog 30 := ⟨by kernel_rfl⟩
-- deuce/balls.ask
instance : FnOk Tryz.prog 31 := ⟨by kernel_rfl⟩
-- deuce/deuceref03.within
instance : FnOk Tryz.prog 32 := ⟨by kernel_rfl⟩
-- deuce/deuceref03.IsMark
instance : FnOk Tryz.prog 33 := ⟨by kernel_rfl⟩
-- deuce/deuceref03.Most
instance : FnOk Tryz.prog 34 := ⟨by kernel_rfl⟩
-- deuce/score.Check
instance : FnOk Tryz.prog 35 := ⟨by kernel_rfl⟩
-- (deuce/score.rules).extent
instance : FnOk Tryz.prog 36 := ⟨by kernel_rfl⟩
-- deuce/card.possible
instance : FnOk Tryz.prog 37 := ⟨by kernel_rfl⟩
-- (deuce/card.spot).board
instance : FnOk Tryz.prog 38 := ⟨by kernel_rfl⟩
-- deuce/card.Boards$1
instance : FnOk Tryz.prog 39 := ⟨by kernel_rfl⟩
-- cmp.Or[int]
instance : FnOk Tryz.prog 40 := ⟨by kernel_rfl⟩
-- slices.CompareFunc[[]deuce/api.Pair,[]deuce/api.Pair,deuce/api.Pair,deuce/api.Pair]
instance : FnOk Tryz.prog 41 := ⟨by kernel_rfl⟩
-- deuce/card.order
instance : FnOk Tryz.prog 42 := ⟨by kernel_rfl⟩
-- slices.SortFunc[[]deuce/api.Board,deuce/api.Board]
instance : FnOk Tryz.prog 43 := ⟨by kernel_rfl⟩
-- slices.CompactFunc[[]deuce/api.Board,deuce/api.Board]
instance : FnOk Tryz.prog 44 := ⟨by kernel_rfl⟩
-- deuce/card.Boards$2
instance : FnOk Tryz.prog 45 := ⟨by kernel_rfl⟩
-- deuce/balls.check
instance : FnOk Tryz.prog 46 := ⟨by kernel_rfl⟩
-- deuce/balls.open
instance : FnOk Tryz.prog 47 := ⟨by kernel_rfl⟩
-- deuce/score.isBoard
instance : FnOk Tryz.prog 48 := ⟨by kernel_rfl⟩
-- (deuce/score.rules).arises
instance : FnOk Tryz.prog 49 := ⟨by kernel_rfl⟩
-- deuce/deuceref01.Range
instance : FnOk Tryz.prog 50 := ⟨by kernel_rfl⟩
-- deuce/deuceref01.Arises
instance : FnOk Tryz.prog 51 := ⟨by kernel_rfl⟩
-- deuce/deuceref01.isTie
instance : FnOk Tryz.prog 52 := ⟨by kernel_rfl⟩
-- deuce/deuceref01.begin
instance : FnOk Tryz.prog 53 := ⟨by kernel_rfl⟩
-- deuce/deuceref01.tied
instance : FnOk Tryz.prog 54 := ⟨by kernel_rfl⟩
-- deuce/deuceref01.plus
instance : FnOk Tryz.prog 55 := ⟨by kernel_rfl⟩
-- deuce/deuceref01.gameWinner
instance : FnOk Tryz.prog 56 := ⟨by kernel_rfl⟩
-- deuce/deuceref01.leads
instance : FnOk Tryz.prog 57 := ⟨by kernel_rfl⟩
-- deuce/deuceref01.Server
instance : FnOk Tryz.prog 58 := ⟨by kernel_rfl⟩
-- deuce/deuceref01.Won
instance : FnOk Tryz.prog 59 := ⟨by kernel_rfl⟩
-- deuce/score.begin
instance : FnOk Tryz.prog 60 := ⟨by kernel_rfl⟩
-- (*deuce/score.match).point
instance : FnOk Tryz.prog 61 := ⟨by kernel_rfl⟩
-- deuce/balls.Check
instance : FnOk Tryz.prog 62 := ⟨by kernel_rfl⟩
-- deuce/balls.within
instance : FnOk Tryz.prog 63 := ⟨by kernel_rfl⟩
-- deuce/balls.run
instance : FnOk Tryz.prog 64 := ⟨by kernel_rfl⟩
-- deuce/score.Check$1
instance : FnOk Tryz.prog 65 := ⟨by kernel_rfl⟩
-- deuce/score.within
instance : FnOk Tryz.prog 66 := ⟨by kernel_rfl⟩
-- deuce/card.all
instance : FnOk Tryz.prog 67 := ⟨by kernel_rfl⟩
-- slices.Clone[[]deuce/api.Pair,deuce/api.Pair]
instance : FnOk Tryz.prog 68 := ⟨by kernel_rfl⟩
-- slices.pdqsortCmpFunc[deuce/api.Board]
instance : FnOk Tryz.prog 69 := ⟨by kernel_rfl⟩
-- math/bits.Len
instance : FnOk Tryz.prog 70 := ⟨by kernel_rfl⟩
-- (deuce/balls.rest).tie
instance : FnOk Tryz.prog 71 := ⟨by kernel_rfl⟩
-- (deuce/balls.rest).from
instance : FnOk Tryz.prog 72 := ⟨by kernel_rfl⟩
-- deuce/balls.begun
instance : FnOk Tryz.prog 73 := ⟨by kernel_rfl⟩
-- deuce/score.isBoard$1
instance : FnOk Tryz.prog 74 := ⟨by kernel_rfl⟩
-- slices.ContainsFunc[[]deuce/api.Pair,deuce/api.Pair]
instance : FnOk Tryz.prog 75 := ⟨by kernel_rfl⟩
-- deuce/score.pairs
instance : FnOk Tryz.prog 76 := ⟨by kernel_rfl⟩
-- deuce/score.isBoard$2
instance : FnOk Tryz.prog 77 := ⟨by kernel_rfl⟩
-- (deuce/score.rules).sets
instance : FnOk Tryz.prog 78 := ⟨by kernel_rfl⟩
-- (deuce/score.rules).over
instance : FnOk Tryz.prog 79 := ⟨by kernel_rfl⟩
-- (deuce/score.rules).set
instance : FnOk Tryz.prog 80 := ⟨by kernel_rfl⟩
-- (deuce/score.rules).table
instance : FnOk Tryz.prog 81 := ⟨by kernel_rfl⟩
-- (deuce/score.set).breaks
instance : FnOk Tryz.prog 82 := ⟨by kernel_rfl⟩
-- (deuce/score.rules).arises$1
instance : FnOk Tryz.prog 83 := ⟨by kernel_rfl⟩
-- (deuce/score.rules).game
instance : FnOk Tryz.prog 84 := ⟨by kernel_rfl⟩
-- deuce/deuceref01.Rule
instance : FnOk Tryz.prog 85 := ⟨by kernel_rfl⟩
-- deuce/deuceref01.isBoard
instance : FnOk Tryz.prog 86 := ⟨by kernel_rfl⟩
-- deuce/deuceref01.arises
instance : FnOk Tryz.prog 87 := ⟨by kernel_rfl⟩
-- deuce/deuceref01.due
instance : FnOk Tryz.prog 88 := ⟨by kernel_rfl⟩
-- deuce/deuceref01.IsLast
instance : FnOk Tryz.prog 89 := ⟨by kernel_rfl⟩
-- (*deuce/score.match).next
instance : FnOk Tryz.prog 90 := ⟨by kernel_rfl⟩
-- (*deuce/score.match).number
instance : FnOk Tryz.prog 91 := ⟨by kernel_rfl⟩
-- deuce/score.add
instance : FnOk Tryz.prog 92 := ⟨by kernel_rfl⟩
-- deuce/score.sum
instance : FnOk Tryz.prog 93 := ⟨by kernel_rfl⟩
-- (*deuce/score.match).serves
instance : FnOk Tryz.prog 94 := ⟨by kernel_rfl⟩
-- (*deuce/score.match).fresh
instance : FnOk Tryz.prog 95 := ⟨by kernel_rfl⟩
-- deuce/score.leads
instance : FnOk Tryz.prog 96 := ⟨by kernel_rfl⟩
-- deuce/balls.Check$1
instance : FnOk Tryz.prog 97 := ⟨by kernel_rfl⟩
-- slices.ContainsFunc[[]int,int]
instance : FnOk Tryz.prog 98 := ⟨by kernel_rfl⟩
-- deuce/balls.Check$2
instance : FnOk Tryz.prog 99 := ⟨by kernel_rfl⟩
-- deuce/balls.needs
instance : FnOk Tryz.prog 100 := ⟨by kernel_rfl⟩
-- deuce/card.Check
instance : FnOk Tryz.prog 101 := ⟨by kernel_rfl⟩
-- (deuce/card.reader).begin
instance : FnOk Tryz.prog 102 := ⟨by kernel_rfl⟩
-- (deuce/card.reader).read
instance : FnOk Tryz.prog 103 := ⟨by kernel_rfl⟩
-- slices.insertionSortCmpFunc[deuce/api.Board]
instance : FnOk Tryz.prog 104 := ⟨by kernel_rfl⟩
-- slices.heapSortCmpFunc[deuce/api.Board]
instance : FnOk Tryz.prog 105 := ⟨by kernel_rfl⟩
-- slices.breakPatternsCmpFunc[deuce/api.Board]
instance : FnOk Tryz.prog 106 := ⟨by kernel_rfl⟩
-- slices.choosePivotCmpFunc[deuce/api.Board]
instance : FnOk Tryz.prog 107 := ⟨by kernel_rfl⟩
-- slices.reverseRangeCmpFunc[deuce/api.Board]
instance : FnOk Tryz.prog 108 := ⟨by kernel_rfl⟩
-- slices.partialInsertionSortCmpFunc[deuce/api.Board]
instance : FnOk Tryz.prog 109 := ⟨by kernel_rfl⟩
-- slices.partitionEqualCmpFunc[deuce/api.Board]
instance : FnOk Tryz.prog 110 := ⟨by kernel_rfl⟩
-- slices.partitionCmpFunc[deuce/api.Board]
instance : FnOk Tryz.prog 111 := ⟨by kernel_rfl⟩
-- math/bits.Len32
instance : FnOk Tryz.prog 112 := ⟨by kernel_rfl⟩
-- math/bits.Len64
instance : FnOk Tryz.prog 113 := ⟨by kernel_rfl⟩
-- (deuce/balls.rest).after
instance : FnOk Tryz.prog 114 := ⟨by kernel_rfl⟩
-- (deuce/balls.rest).due
instance : FnOk Tryz.prog 115 := ⟨by kernel_rfl⟩
-- (deuce/balls.bound).or
instance : FnOk Tryz.prog 116 := ⟨by kernel_rfl⟩
-- slices.IndexFunc[[]deuce/api.Pair,deuce/api.Pair]
instance : FnOk Tryz.prog 117 := ⟨by kernel_rfl⟩
-- deuce/deuceref01.orders
instance : FnOk Tryz.prog 118 := ⟨by kernel_rfl⟩
-- deuce/deuceref01.ArePoints
instance : FnOk Tryz.prog 119 := ⟨by kernel_rfl⟩
-- (deuce/score.rules).due
instance : FnOk Tryz.prog 120 := ⟨by kernel_rfl⟩
-- slices.IndexFunc[[]int,int]
instance : FnOk Tryz.prog 121 := ⟨by kernel_rfl⟩
-- deuce/balls.times
instance : FnOk Tryz.prog 122 := ⟨by kernel_rfl⟩
-- deuce/card.within
instance : FnOk Tryz.prog 123 := ⟨by kernel_rfl⟩
-- deuce/card.isMark
instance : FnOk Tryz.prog 124 := ⟨by kernel_rfl⟩
-- (deuce/card.crowd).put
instance : FnOk Tryz.prog 125 := ⟨by kernel_rfl⟩
-- (deuce/card.reader).play
instance : FnOk Tryz.prog 126 := ⟨by kernel_rfl⟩
-- (deuce/card.reader).holds
instance : FnOk Tryz.prog 127 := ⟨by kernel_rfl⟩
-- slices.siftDownCmpFunc[deuce/api.Board]
instance : FnOk Tryz.prog 128 := ⟨by kernel_rfl⟩
-- slices.nextPowerOfTwo
instance : FnOk Tryz.prog 129 := ⟨by kernel_rfl⟩
-- (*slices.xorshift).Next
instance : FnOk Tryz.prog 130 := ⟨by kernel_rfl⟩
-- slices.medianAdjacentCmpFunc[deuce/api.Board]
instance : FnOk Tryz.prog 131 := ⟨by kernel_rfl⟩
-- slices.medianCmpFunc[deuce/api.Board]
instance : FnOk Tryz.prog 132 := ⟨by kernel_rfl⟩
-- (deuce/balls.bound).or$1
instance : FnOk Tryz.prog 133 := ⟨by kernel_rfl⟩
-- deuce/card.isMark$1
instance : FnOk Tryz.prog 134 := ⟨by kernel_rfl⟩
-- deuce/card.isMark$2
instance : FnOk Tryz.prog 135 := ⟨by kernel_rfl⟩
-- (deuce/card.reader).next
instance : FnOk Tryz.prog 136 := ⟨by kernel_rfl⟩
-- (deuce/card.spot).won
instance : FnOk Tryz.prog 137 := ⟨by kernel_rfl⟩
-- (deuce/card.reader).score
instance : FnOk Tryz.prog 138 := ⟨by kernel_rfl⟩
-- slices.order2CmpFunc[deuce/api.Board]
instance : FnOk Tryz.prog 139 := ⟨by kernel_rfl⟩
-- deuce/card.more
instance : FnOk Tryz.prog 140 := ⟨by kernel_rfl⟩
-- deuce/card.leads
instance : FnOk Tryz.prog 141 := ⟨by kernel_rfl⟩
-- (*deuce/card.node).row
instance : FnOk Tryz.prog 142 := ⟨by kernel_rfl⟩
-- slices.Reverse[[]int,int]
instance : FnOk Tryz.prog 143 := ⟨by kernel_rfl⟩
end Go.Proofs.YtpmmgljndceplaaGreat

namespace Go.Proofs.YtpmmgljndceplaaGreat
open Go
instance : BuildArr Tryz.prog 95 2 [.int .i64 0, .int .i64 0, .int .i64 0, .int .i64 0, .int .i64 0, .int .i64 0, .int .i64 0, .int .i64 0, .int .i64 0, .int .i64 0, .int .i64 0, .int .i64 0, .int .i64 0, .int .i64 0, .int .i64 0, .int .i64 0, .int .i64 0, .int .i64 0, .int .i64 0, .int .i64 0, .int .i64 0, .int .i64 0, .int .i64 0, .int .i64 0, .int .i64 0, .int .i64 0, .int .i64 0, .int .i64 0, .int .i64 0, .int .i64 0, .int .i64 0, .int .i64 0, .int .i64 0, .int .i64 0, .int .i64 0, .int .i64 0, .int .i64 0, .int .i64 0, .int .i64 0, .int .i64 0, .int .i64 0, .int .i64 0, .int .i64 0, .int .i64 0, .int .i64 0, .int .i64 0, .int .i64 0, .int .i64 0, .int .i64 0, .int .i64 0, .int .i64 0, .int .i64 0, .int .i64 0, .int .i64 0, .int .i64 0, .int .i64 0, .int .i64 0, .int .i64 0, .int .i64 0, .int .i64 0, .int .i64 0, .int .i64 0, .int .i64 0, .int .i64 0, .int .i64 0, .int .i64 0, .int .i64 0, .int .i64 0, .int .i64 0, .int .i64 0, .int .i64 0, .int .i64 0, .int .i64 0, .int .i64 0, .int .i64 0, .int .i64 0, .int .i64 0, .int .i64 0, .int .i64 0, .int .i64 0, .int .i64 0, .int .i64 0, .int .i64 0, .int .i64 0, .int .i64 0, .int .i64 0, .int .i64 0, .int .i64 0, .int .i64 0, .int .i64 0, .int .i64 0, .int .i64 0, .int .i64 0, .int .i64 0, .int .i64 0, .int .i64 0, .int .i64 0, .int .i64 0, .int .i64 0, .int .i64 0, .int .i64 0, .int .i64 0, .int .i64 0, .int .i64 0, .int .i64 0, .int .i64 0, .int .i64 0, .int .i64 0, .int .i64 0, .int .i64 0, .int .i64 0, .int .i64 0, .int .i64 0, .int .i64 0, .int .i64 0, .int .i64 0, .int .i64 0, .int .i64 0, .int .i64 0, .int .i64 0, .int .i64 0, .int .i64 0] := ⟨fun parts => by kernel_rfl⟩
instance : BuildArr Tryz.prog 112 2 [.int .i64 0, .int .i64 0, .int .i64 0, .int .i64 0, .int .i64 0, .int .i64 0, .int .i64 0, .int .i64 0, .int .i64 0, .int .i64 0] := ⟨fun parts => by kernel_rfl⟩
instance : BuildArr Tryz.prog 154 1 [.int .i64 0, .int .i64 0] := ⟨fun parts => by kernel_rfl⟩
instance : BuildArr Tryz.prog 181 2 [.int .i64 0, .int .i64 0, .int .i64 0, .int .i64 0, .int .i64 0, .int .i64 0] := ⟨fun parts => by kernel_rfl⟩
instance : BuildArr Tryz.prog 182 2 [.int .i64 0, .int .i64 0, .int .i64 0, .int .i64 0, .int .i64 0, .int .i64 0] := ⟨fun parts => by kernel_rfl⟩
instance : BuildArr Tryz.prog 235 1 [] := ⟨fun parts => by kernel_rfl⟩
instance : FlatTy Tryz.prog 22 [false, false, false] := ⟨by kernel_rfl, by kernel_rfl, by kernel_rfl⟩
instance : FlatTy Tryz.prog 23 [false, false, false] := ⟨by kernel_rfl, by kernel_rfl, by kernel_rfl⟩
instance : FlatTy Tryz.prog 34 [false, false, true, false, false, false, false, false, false, true] := ⟨by kernel_rfl, by kernel_rfl, by kernel_rfl⟩
instance : FlatTy Tryz.prog 35 [false, false, true, false, false, false, false, false, false, true] := ⟨by kernel_rfl, by kernel_rfl, by kernel_rfl⟩
instance : FlatTy Tryz.prog 37 [false, false] := ⟨by kernel_rfl, by kernel_rfl, by kernel_rfl⟩
instance : FlatTy Tryz.prog 38 [false, false] := ⟨by kernel_rfl, by kernel_rfl, by kernel_rfl⟩
instance : FlatTy Tryz.prog 55 [false, false] := ⟨by kernel_rfl, by kernel_rfl, by kernel_rfl⟩
instance : FlatTy Tryz.prog 56 [false, false] := ⟨by kernel_rfl, by kernel_rfl, by kernel_rfl⟩
instance : FlatTy Tryz.prog 59 [false, false, false] := ⟨by kernel_rfl, by kernel_rfl, by kernel_rfl⟩
instance : FlatTy Tryz.prog 60 [false, false, false] := ⟨by kernel_rfl, by kernel_rfl, by kernel_rfl⟩
instance : FlatTy Tryz.prog 90 [false, false, true, false, false, false, false, false, false, true] := ⟨by kernel_rfl, by kernel_rfl, by kernel_rfl⟩
instance : FlatTy Tryz.prog 91 [false, false, true, false, false, false, false, false, false, true] := ⟨by kernel_rfl, by kernel_rfl, by kernel_rfl⟩
instance : FlatTy Tryz.prog 100 [false, false, false, false] := ⟨by kernel_rfl, by kernel_rfl, by kernel_rfl⟩
instance : FlatTy Tryz.prog 101 [false, false, false, false] := ⟨by kernel_rfl, by kernel_rfl, by kernel_rfl⟩
instance : FlatTy Tryz.prog 106 [false, false] := ⟨by kernel_rfl, by kernel_rfl, by kernel_rfl⟩
instance : FlatTy Tryz.prog 107 [false, false] := ⟨by kernel_rfl, by kernel_rfl, by kernel_rfl⟩
instance : MapTy Tryz.prog 108 114 211 := ⟨by kernel_rfl⟩
instance : MapTy Tryz.prog 109 114 211 := ⟨by kernel_rfl⟩
instance : FlatTy Tryz.prog 113 [false, false, false, false, false, false, false, false, false, false, false, false, false, false, false, false] := ⟨by kernel_rfl, by kernel_rfl, by kernel_rfl⟩
instance : FlatTy Tryz.prog 114 [false, false, false, false, false, false, false, false, false, false, false, false, false, false, false, false] := ⟨by kernel_rfl, by kernel_rfl, by kernel_rfl⟩
instance : FlatTy Tryz.prog 124 [false, false, false, false] := ⟨by kernel_rfl, by kernel_rfl, by kernel_rfl⟩
instance : FlatTy Tryz.prog 125 [false, false, false, false] := ⟨by kernel_rfl, by kernel_rfl, by kernel_rfl⟩
instance : FlatTy Tryz.prog 138 [false, true, false, false, false, false, true] := ⟨by kernel_rfl, by kernel_rfl, by kernel_rfl⟩
instance : FlatTy Tryz.prog 139 [false, true, false, false, false, false, true] := ⟨by kernel_rfl, by kernel_rfl, by kernel_rfl⟩
instance : MapTy Tryz.prog 151 156 125 := ⟨by kernel_rfl⟩
instance : FlatTy Tryz.prog 155 [false, false, false, false, false, false, false] := ⟨by kernel_rfl, by kernel_rfl, by kernel_rfl⟩
instance : FlatTy Tryz.prog 156 [false, false, false, false, false, false, false] := ⟨by kernel_rfl, by kernel_rfl, by kernel_rfl⟩
instance : FlatTy Tryz.prog 166 [false, true] := ⟨by kernel_rfl, by kernel_rfl, by kernel_rfl⟩
instance : FlatTy Tryz.prog 167 [false, true] := ⟨by kernel_rfl, by kernel_rfl, by kernel_rfl⟩
instance : MapTy Tryz.prog 169 38 167 := ⟨by kernel_rfl⟩
end Go.Proofs.YtpmmgljndceplaaGreat

namespace Go.Proofs.YtpmmgljndceplaaGreat
open Go Go.RowKit

def wi (n lo hi : Int) : Bool := decide (lo ≤ n) && decide (n ≤ hi)
theorem wi_iff {n lo hi : Int} : wi n lo hi = true ↔ lo ≤ n ∧ n ≤ hi := by simp [wi]
theorem wi_not {n lo hi : Int} : (!wi n lo hi) = false ↔ lo ≤ n ∧ n ≤ hi := by simp [wi]
theorem cdT' {α β : Type} (f : α → β) {c : Bool} {x y : α} (h : c = true) : f x = f (bif c then x else y) := by rw [h]; rfl
theorem cdF' {α β : Type} (f : α → β) {c : Bool} {x y : α} (h : c = false) : f y = f (bif c then x else y) := by rw [h]; rfl

structure Fmt where
 (sets games : Int) (noAd : Bool) (tie to ltie lto first thn : Int) (dbl : Bool)
abbrev Fmt.cells (f : Fmt) : List Value := [.int .i64 f.sets, .int .i64 f.games, .bool f.noAd, .int .i64 f.tie, .int .i64 f.to, .int .i64 f.ltie, .int .i64 f.lto, .int .i64 f.first, .int .i64 f.thn, .bool f.dbl]
abbrev Fmt.val (f : Fmt) : Value := .agg #[.int .i64 f.sets, .int .i64 f.games, .bool f.noAd, .int .i64 f.tie, .int .i64 f.to, .int .i64 f.ltie, .int .i64 f.lto, .int .i64 f.first, .int .i64 f.thn, .bool f.dbl]
abbrev Pr := Int × Int
abbrev pv (p : Pr) : Value := .agg #[.int .i64 p.1, .int .i64 p.2]
def tieB (f : Fmt) (n : Int) : Bool := decide (n = -1) || decide (n = 0) || decide (n = f.games - 1) || decide (n = f.games)
def fmtOk (f : Fmt) : Bool := wi f.sets 1 3 && wi f.games 1 8 && tieB f f.tie && tieB f f.ltie && wi f.to 1 15 && wi f.lto 1 15 && wi f.first 0 20 && wi f.thn 0 20
def chkF (f : Fmt) : Int := bif fmtOk f then 0 else 10
structure Fmt.Ok (f : Fmt) : Prop where
 s0 : 1 ≤ f.sets
 s1 : f.sets ≤ 3
 g0 : 1 ≤ f.games
 g1 : f.games ≤ 8
 t : f.tie = -1 ∨ f.tie = 0 ∨ f.tie = f.games - 1 ∨ f.tie = f.games
 lt : f.ltie = -1 ∨ f.ltie = 0 ∨ f.ltie = f.games - 1 ∨ f.ltie = f.games
 o0 : 1 ≤ f.to
 o1 : f.to ≤ 15
 l0 : 1 ≤ f.lto
 l1 : f.lto ≤ 15
 f0 : 0 ≤ f.first
 f1 : f.first ≤ 20
 n0 : 0 ≤ f.thn
 n1 : f.thn ≤ 20
theorem fmt_ok {f : Fmt} (h : fmtOk f = true) : f.Ok := by
 simp only [fmtOk, tieB, Bool.and_eq_true, Bool.or_eq_true, wi_iff, decide_eq_true_eq] at h
 constructor <;> omega
def Sm (p : Pr) : Prop := (-1000000 ≤ p.1 ∧ p.1 ≤ 1000000) ∧ -1000000 ≤ p.2 ∧ p.2 ≤ 1000000
def leadsV (p : Pr) (l b : Int) : Int := bif decide (l ≤ p.1) && decide (b ≤ p.1 - p.2) then 0 else bif decide (l ≤ p.2) && decide (b ≤ p.2 - p.1) then 1 else -1
def setV (f : Fmt) (won : Pr) : Pr := bif decide (won.1 = f.sets - 1) && decide (won.2 = f.sets - 1) then (f.ltie, f.lto) else (f.tie, f.to)
def brksV (s g : Pr) : Bool := decide (g.1 = s.1) && decide (g.2 = s.1)
def addV (p : Pr) (side : Int) : Pr := bif decide (side = 0) then (p.1 + 1, p.2) else (p.1, p.2 + 1)
def gameV (f : Fmt) (s : Pr) (tie : Bool) (p : Pr) : Int := bif tie then leadsV p s.2 2 else bif f.noAd then leadsV p 4 1 else leadsV p 4 2
def dueV (f : Fmt) (n : Int) : Bool := decide (0 < f.first) && (decide (n - f.first = 0) || decide (0 < n - f.first) && decide (0 < f.thn) && decide ((n - f.first) % f.thn = 0))
theorem leadsV_rng (p : Pr) (l b : Int) : -1 ≤ leadsV p l b ∧ leadsV p l b ≤ 1 := by
 unfold leadsV
 cases decide (l ≤ p.1) && decide (b ≤ p.1 - p.2)
 ·
  cases decide (l ≤ p.2) && decide (b ≤ p.2 - p.1) <;> simp
 ·
  simp
end Go.Proofs.YtpmmgljndceplaaGreat

namespace Go.Proofs.YtpmmgljndceplaaGreat
open Go Go.RowKit

theorem C_score_within (n lo hi : Int) (w : World) : C0 Tryz.prog 66 [.int .i64 n, .int .i64 lo, .int .i64 hi] w (.bool (wi n lo hi)) := by
 refine ⟨en Tryz.func66 Tryz.ntmps66 (St.init w) (h := fun F => ?_)⟩
 refine sr ?_
 refine ww ?_
 refine nr ?_
 iterate 4 refine ww ?_
 apply brAnd 4 10 14 (by exact rfl)
 ·
  intro hb0
  iterate 3 refine uw ?_
  refine ww ?_
  exact mg (by repeat (first | exact trivial | refine ⟨rfl, ?_⟩ | refine ⟨by rw [hb0]; rfl, ?_⟩)) slz_
 ·
  intro hb0
  repeat (first | refine uz ?_ | refine kz ?_ | refine wz ?_)
  exact mg (by repeat (first | exact trivial | refine ⟨rfl, ?_⟩ | refine ⟨by rw [hb0]; rfl, ?_⟩)) slz_
 refine ww ?_
 refine nq ?_
 refine rtn ?_
 refine q_ret (hR := ?_)
 exact fun w hS => ⟨rfl, hS.sub slz_⟩
theorem T_score_Check1 (f : Fmt) (n : Int) (hg : 1 ≤ f.games ∧ f.games ≤ 8) (a0 : Nat) : Tr Tryz.prog 65 [.int .i64 n, .pointer (some ⟨a0, 0, none⟩)] [.blk a0 35 f.cells] (fun _ : Unit => True) (fun _ => .bool (tieB f n)) (fun _ => [.blk a0 35 f.cells]) := by
 refine ⟨fun w0 w R hst => ?_⟩
 refine en Tryz.func65 Tryz.ntmps65 hst (h := fun F => ?_)
 refine sr ?_
 refine ww ?_
 refine nr ?_
 iterate 3 refine ww ?_
 apply brOr 3 6 9 (by exact rfl)
 ·
  intro hb0
  iterate 2 refine uw ?_
  refine ww ?_
  exact mg (by repeat (first | exact trivial | refine ⟨rfl, ?_⟩ | refine ⟨by rw [hb0]; rfl, ?_⟩)) slz_
 ·
  intro hb0
  repeat (first | refine uz ?_ | refine kz ?_ | refine wz ?_)
  exact mg (by repeat (first | exact trivial | refine ⟨rfl, ?_⟩ | refine ⟨by rw [hb0]; rfl, ?_⟩)) slz_
 refine ww ?_
 apply brOr 6 10 16 (by exact rfl)
 ·
  intro hb1
  iterate 5 refine uw ?_
  refine ww ?_
  exact mg (by repeat (first | exact trivial | refine ⟨rfl, ?_⟩ | refine ⟨by rw [hb1]; rfl, ?_⟩)) slz_
 ·
  intro hb1
  repeat (first | refine uz ?_ | refine kz ?_ | refine wz ?_)
  exact mg (by repeat (first | exact trivial | refine ⟨rfl, ?_⟩ | refine ⟨by rw [hb1]; rfl, ?_⟩)) slz_
 refine ww ?_
 apply brOr 5 17 22 (by exact rfl)
 ·
  intro hb2
  iterate 4 refine uw ?_
  refine ww ?_
  exact mg (by repeat (first | exact trivial | refine ⟨rfl, ?_⟩ | refine ⟨by rw [hb2]; rfl, ?_⟩)) slz_
 ·
  intro hb2
  repeat (first | refine uz ?_ | refine kz ?_ | refine wz ?_)
  exact mg (by repeat (first | exact trivial | refine ⟨rfl, ?_⟩ | refine ⟨by rw [hb2]; rfl, ?_⟩)) slz_
 refine ww ?_
 refine nq ?_
 refine rtn ?_
 refine q_ret (hR := ?_)
 exact fun w hS => ⟨(), trivial, rfl, hS⟩

theorem C_score_Check (f : Fmt) (w : World) : C0 Tryz.prog 35 [f.val] w (.int .i64 (chkF f)) := by
 refine ⟨en Tryz.func35 Tryz.ntmps35 (St.init w) (h := fun F => ?_)⟩
 refine sr ?_
 refine bxA (h := fun b0 => ?_)
 refine ww ?_
 refine nr ?_
 iterate 2 refine ww ?_
 refine nq ?_
 refine sq ?_
 refine sr ?_
 iterate 2 refine ww ?_
 refine cl0 (hc := fun w hS => C_score_within ..) (h := ?_)
 refine ww ?_
 apply brAnd 4 8 12 (by exact rfl)
 ·
  intro hb0
  iterate 2 refine uw ?_
  refine uz ?_
  refine cl0 (hc := fun w hS => C_score_within ..) (h := ?_)
  refine ww ?_
  exact mg (by repeat (first | exact trivial | refine ⟨rfl, ?_⟩ | refine ⟨by rw [hb0]; rfl, ?_⟩)) slz_
 ·
  intro hb0
  repeat (first | refine uz ?_ | refine kz ?_ | refine wz ?_)
  exact mg (by repeat (first | exact trivial | refine ⟨rfl, ?_⟩ | refine ⟨by rw [hb0]; rfl, ?_⟩)) slz_
 refine ww ?_
 apply brAnd 5 13 18 (by exact rfl)
 ·
  intro hb1
  have hg : 1 ≤ f.games ∧ f.games ≤ 8 := by simp only [Bool.and_eq_true, wi_iff] at hb1; omega
  iterate 3 refine uw ?_
  refine uz ?_
  refine clfT inferInstance (fi := []) (cap := [.pointer (some ⟨b0, 0, none⟩)]) (by exact rfl) (by repeat (first | exact Evs.nil | (apply Evs.cons; exact rfl))) (T_score_Check1 f f.tie hg b0) rfl (by repeat (first | exact Spl.nil | (apply Spl.cons; (repeat (first | exact At.here | apply At.there))))) (h := fun _ _ => ?_)
  refine ww ?_
  exact mg (by repeat (first | exact trivial | refine ⟨rfl, ?_⟩ | refine ⟨by rw [hb1]; rfl, ?_⟩)) slz_
 ·
  intro hb1
  repeat (first | refine uz ?_ | refine kz ?_ | refine wz ?_)
  exact mg (by repeat (first | exact trivial | refine ⟨rfl, ?_⟩ | refine ⟨by rw [hb1]; rfl, ?_⟩)) slz_
 refine ww ?_
 apply brAnd 5 19 24 (by exact rfl)
 ·
  intro hb2
  have hg : 1 ≤ f.games ∧ f.games ≤ 8 := by simp only [Bool.and_eq_true, wi_iff] at hb2; omega
  iterate 3 refine uw ?_
  refine uz ?_
  refine clfT inferInstance (fi := []) (cap := [.pointer (some ⟨b0, 0, none⟩)]) (by exact rfl) (by repeat (first | exact Evs.nil | (apply Evs.cons; exact rfl))) (T_score_Check1 f f.ltie hg b0) rfl (by repeat (first | exact Spl.nil | (apply Spl.cons; (repeat (first | exact At.here | apply At.there))))) (h := fun _ _ => ?_)
  refine ww ?_
  exact mg (by repeat (first | exact trivial | refine ⟨rfl, ?_⟩ | refine ⟨by rw [hb2]; rfl, ?_⟩)) slz_
 ·
  intro hb2
  repeat (first | refine uz ?_ | refine kz ?_ | refine wz ?_)
  exact mg (by repeat (first | exact trivial | refine ⟨rfl, ?_⟩ | refine ⟨by rw [hb2]; rfl, ?_⟩)) slz_
 refine ww ?_
 apply brAnd 4 25 29 (by exact rfl)
 ·
  intro hb3
  iterate 2 refine uw ?_
  refine uz ?_
  refine cl0 (hc := fun w hS => C_score_within ..) (h := ?_)
  refine ww ?_
  exact mg (by repeat (first | exact trivial | refine ⟨rfl, ?_⟩ | refine ⟨by rw [hb3]; rfl, ?_⟩)) slz_
 ·
  intro hb3
  repeat (first | refine uz ?_ | refine kz ?_ | refine wz ?_)
  exact mg (by repeat (first | exact trivial | refine ⟨rfl, ?_⟩ | refine ⟨by rw [hb3]; rfl, ?_⟩)) slz_
 refine ww ?_
 apply brAnd 4 30 34 (by exact rfl)
 ·
  intro hb4
  iterate 2 refine uw ?_
  refine uz ?_
  refine cl0 (hc := fun w hS => C_score_within ..) (h := ?_)
  refine ww ?_
  exact mg (by repeat (first | exact trivial | refine ⟨rfl, ?_⟩ | refine ⟨by rw [hb4]; rfl, ?_⟩)) slz_
 ·
  intro hb4
  repeat (first | refine uz ?_ | refine kz ?_ | refine wz ?_)
  exact mg (by repeat (first | exact trivial | refine ⟨rfl, ?_⟩ | refine ⟨by rw [hb4]; rfl, ?_⟩)) slz_
 refine ww ?_
 apply brAnd 4 35 39 (by exact rfl)
 ·
  intro hb5
  iterate 2 refine uw ?_
  refine uz ?_
  refine cl0 (hc := fun w hS => C_score_within ..) (h := ?_)
  refine ww ?_
  exact mg (by repeat (first | exact trivial | refine ⟨rfl, ?_⟩ | refine ⟨by rw [hb5]; rfl, ?_⟩)) slz_
 ·
  intro hb5
  repeat (first | refine uz ?_ | refine kz ?_ | refine wz ?_)
  exact mg (by repeat (first | exact trivial | refine ⟨rfl, ?_⟩ | refine ⟨by rw [hb5]; rfl, ?_⟩)) slz_
 refine ww ?_
 apply brAnd 4 40 44 (by exact rfl)
 ·
  intro hb6
  iterate 2 refine uw ?_
  refine uz ?_
  refine cl0 (hc := fun w hS => C_score_within ..) (h := ?_)
  refine ww ?_
  exact mg (by repeat (first | exact trivial | refine ⟨rfl, ?_⟩ | refine ⟨by rw [hb6]; rfl, ?_⟩)) slz_
 ·
  intro hb6
  repeat (first | refine uz ?_ | refine kz ?_ | refine wz ?_)
  exact mg (by repeat (first | exact trivial | refine ⟨rfl, ?_⟩ | refine ⟨by rw [hb6]; rfl, ?_⟩)) slz_
 refine nq ?_
 refine czz (fun h7 => ?_) fun h7 => ?_
 ·
  refine sr ?_
  refine ww ?_
  refine nq ?_
  refine rtn ?_
  refine q_then_ret ?_
  refine q_ret (hR := ?_)
  exact fun w hS => ⟨cdT' (fun x : Int => Ending.returned (Value.int .i64 x)) h7, hS.sub slz_⟩
 ·
  refine skp ?_
  refine q_seq ?_
  refine sr ?_
  refine ww ?_
  refine nq ?_
  refine rtn ?_
  refine q_ret (hR := ?_)
  exact fun w hS => ⟨cdF' (fun x : Int => Ending.returned (Value.int .i64 x)) h7, hS.sub slz_⟩

theorem C_score_leads (p : Pr) (l b : Int) (hp : Sm p) (w : World) : C0 Tryz.prog 96 [pv p, .int .i64 l, .int .i64 b] w (.int .i64 (leadsV p l b)) := by
 obtain ⟨⟨h1, h2⟩, h3, h4⟩ := hp
 refine ⟨en Tryz.func96 Tryz.ntmps96 (St.init w) (h := fun F => ?_)⟩
 refine sr ?_
 refine bxA (h := fun b0 => ?_)
 refine ww ?_
 refine nq ?_
 refine sq ?_
 refine bk ?_
 refine sr ?_
 iterate 5 refine ww ?_
 apply brAnd 8 12 20 (by exact rfl)
 ·
  intro hb0
  iterate 7 refine uw ?_
  refine ww ?_
  exact mg (by repeat (first | exact trivial | refine ⟨rfl, ?_⟩ | refine ⟨by rw [hb0]; rfl, ?_⟩)) slz_
 ·
  intro hb0
  repeat (first | refine uz ?_ | refine kz ?_ | refine wz ?_)
  exact mg (by repeat (first | exact trivial | refine ⟨rfl, ?_⟩ | refine ⟨by rw [hb0]; rfl, ?_⟩)) slz_
 refine ww ?_
 refine nq ?_
 refine czz (fun h1 => ?_) fun h1 => ?_
 ·
  refine sr ?_
  refine ww ?_
  refine nq ?_
  refine rtn ?_
  refine q_blk_ret ?_
  refine q_then_ret ?_
  refine q_ret (hR := ?_)
  exact fun w hS => ⟨cdT' (fun x : Int => Ending.returned (Value.int .i64 x)) h1, hS.sub slz_⟩
 ·
  refine sr ?_
  iterate 5 refine ww ?_
  apply brAnd 8 26 34 (by exact rfl)
  ·
   intro hb2
   iterate 7 refine uw ?_
   refine ww ?_
   exact mg (by repeat (first | exact trivial | refine ⟨rfl, ?_⟩ | refine ⟨by rw [hb2]; rfl, ?_⟩)) slz_
  ·
   intro hb2
   repeat (first | refine uz ?_ | refine kz ?_ | refine wz ?_)
   exact mg (by repeat (first | exact trivial | refine ⟨rfl, ?_⟩ | refine ⟨by rw [hb2]; rfl, ?_⟩)) slz_
  refine ww ?_
  refine nq ?_
  refine czz (fun h3 => ?_) fun h3 => ?_
  ·
   refine sr ?_
   refine ww ?_
   refine nq ?_
   refine rtn ?_
   refine q_blk_ret ?_
   refine q_then_ret ?_
   refine q_ret (hR := ?_)
   exact fun w hS => ⟨(cdT' (fun x : Int => Ending.returned (Value.int .i64 x)) h3).trans (cdF' (fun x : Int => Ending.returned (Value.int .i64 x)) h1), hS.sub slz_⟩
  ·
   refine skp ?_
   refine q_blk_norm ?_
   refine q_seq ?_
   refine sr ?_
   refine ww ?_
   refine nq ?_
   refine rtn ?_
   refine q_ret (hR := ?_)
   exact fun w hS => ⟨(cdF' (fun x : Int => Ending.returned (Value.int .i64 x)) h3).trans (cdF' (fun x : Int => Ending.returned (Value.int .i64 x)) h1), hS.sub slz_⟩

theorem C_rules_set (f : Fmt) (won : Pr) (hf : f.Ok) (w : World) : C0 Tryz.prog 80 [f.val, pv won] w (pv (setV f won)) := by
 have h1 := hf.s0
 have h2 := hf.s1
 refine ⟨en Tryz.func80 Tryz.ntmps80 (St.init w) (h := fun F => ?_)⟩
 refine sr ?_
 refine bxA (h := fun b0 => ?_)
 refine bxA (h := fun b1 => ?_)
 refine al (h := fun b2 => ?_)
 refine nq ?_
 refine sq ?_
 refine sr ?_
 iterate 8 refine ww ?_
 apply brAnd 8 12 20 (by exact rfl)
 ·
  intro hb0
  iterate 7 refine uw ?_
  refine ww ?_
  exact mg (by repeat (first | exact trivial | refine ⟨rfl, ?_⟩ | refine ⟨by rw [hb0]; rfl, ?_⟩)) slz_
 ·
  intro hb0
  repeat (first | refine uz ?_ | refine kz ?_ | refine wz ?_)
  exact mg (by repeat (first | exact trivial | refine ⟨rfl, ?_⟩ | refine ⟨by rw [hb0]; rfl, ?_⟩)) slz_
 refine nq ?_
 refine czz (fun h1 => ?_) fun h1 => ?_
 ·
  refine sr ?_
  iterate 7 refine ww ?_
  first | refine stA (h := ?_) | refine stEA (h := ?_)
  refine nq ?_
  refine rtn ?_
  refine q_then_ret ?_
  refine q_ret (hR := ?_)
  exact fun w hS => ⟨cdT' (x := (f.ltie, f.lto)) (fun p : Pr => Ending.returned (pv p)) h1, hS.sub slz_⟩
 ·
  refine skp ?_
  refine q_seq ?_
  refine sr ?_
  iterate 7 refine ww ?_
  first | refine stA (h := ?_) | refine stEA (h := ?_)
  refine nq ?_
  refine rtn ?_
  refine q_ret (hR := ?_)
  exact fun w hS => ⟨cdF' (y := (f.tie, f.to)) (fun p : Pr => Ending.returned (pv p)) h1, hS.sub slz_⟩

theorem C_set_breaks (s g : Pr) (w : World) : C0 Tryz.prog 82 [pv s, pv g] w (.bool (brksV s g)) := by
 refine ⟨en Tryz.func82 Tryz.ntmps82 (St.init w) (h := fun F => ?_)⟩
 refine sr ?_
 refine bxA (h := fun b0 => ?_)
 refine bxA (h := fun b1 => ?_)
 refine ww ?_
 refine nr ?_
 iterate 6 refine ww ?_
 apply brAnd 6 10 16 (by exact rfl)
 ·
  intro hb0
  iterate 5 refine uw ?_
  refine ww ?_
  exact mg (by repeat (first | exact trivial | refine ⟨rfl, ?_⟩ | refine ⟨by rw [hb0]; rfl, ?_⟩)) slz_
 ·
  intro hb0
  repeat (first | refine uz ?_ | refine kz ?_ | refine wz ?_)
  exact mg (by repeat (first | exact trivial | refine ⟨rfl, ?_⟩ | refine ⟨by rw [hb0]; rfl, ?_⟩)) slz_
 refine ww ?_
 refine nq ?_
 refine rtn ?_
 refine q_ret (hR := ?_)
 exact fun w hS => ⟨rfl, hS.sub slz_⟩

theorem C_score_add (p : Pr) (side : Int) (hp : Sm p) (w : World) : C0 Tryz.prog 92 [pv p, .int .i64 side] w (pv (addV p side)) := by
 obtain ⟨⟨h1, h2⟩, h3, h4⟩ := hp
 refine ⟨en Tryz.func92 Tryz.ntmps92 (St.init w) (h := fun F => ?_)⟩
 refine sr ?_
 refine bxA (h := fun b0 => ?_)
 refine al (h := fun b1 => ?_)
 refine nq ?_
 refine sq ?_
 refine sr ?_
 iterate 2 refine ww ?_
 refine nq ?_
 refine czz (fun h0 => ?_) fun h0 => ?_
 ·
  refine rg ?_
  iterate 4 refine ww ?_
  first | refine st (h := ?_) | refine stE (h := ?_)
  refine nr ?_
  refine ww ?_
  first | refine stA (h := ?_) | refine stEA (h := ?_)
  refine nq ?_
  refine rtn ?_
  refine q_ret (hR := ?_)
  exact fun w hS => ⟨cdT' (x := (p.1 + 1, p.2)) (fun p : Pr => Ending.returned (pv p)) h0, hS.sub slz_⟩
 ·
  refine rg ?_
  iterate 4 refine ww ?_
  first | refine st (h := ?_) | refine stE (h := ?_)
  refine nr ?_
  refine ww ?_
  first | refine stA (h := ?_) | refine stEA (h := ?_)
  refine nq ?_
  refine rtn ?_
  refine q_ret (hR := ?_)
  exact fun w hS => ⟨cdF' (y := (p.1, p.2 + 1)) (fun p : Pr => Ending.returned (pv p)) h0, hS.sub slz_⟩

theorem C_score_sum (p : Pr) (hp : Sm p) (w : World) : C0 Tryz.prog 93 [pv p] w (.int .i64 (p.1 + p.2)) := by
 obtain ⟨⟨h1, h2⟩, h3, h4⟩ := hp
 refine ⟨en Tryz.func93 Tryz.ntmps93 (St.init w) (h := fun F => ?_)⟩
 refine sr ?_
 refine bxA (h := fun b0 => ?_)
 refine ww ?_
 refine nr ?_
 iterate 6 refine ww ?_
 refine nq ?_
 refine rtn ?_
 refine q_ret (hR := ?_)
 exact fun w hS => ⟨rfl, hS.sub slz_⟩

theorem C_rules_game (f : Fmt) (s : Pr) (tie : Bool) (p : Pr) (hp : Sm p) (w : World) : C0 Tryz.prog 84 [f.val, pv s, .bool tie, pv p] w (.int .i64 (gameV f s tie p)) := by
 refine ⟨en Tryz.func84 Tryz.ntmps84 (St.init w) (h := fun F => ?_)⟩
 refine sr ?_
 refine bxA (h := fun b0 => ?_)
 refine bxA (h := fun b1 => ?_)
 refine bxA (h := fun b2 => ?_)
 refine ww ?_
 refine nq ?_
 refine sq ?_
 refine bk ?_
 refine sr ?_
 iterate 2 refine ww ?_
 refine nq ?_
 refine czz (fun h0 => ?_) fun h0 => ?_
 ·
  refine sr ?_
  iterate 3 refine ww ?_
  refine cl0 (hc := fun w hS => C_score_leads _ _ _ (by assumption) w) (h := ?_)
  refine ww ?_
  refine nq ?_
  refine rtn ?_
  refine q_blk_ret ?_
  refine q_then_ret ?_
  refine q_ret (hR := ?_)
  exact fun w hS => ⟨cdT' (fun x : Int => Ending.returned (Value.int .i64 x)) h0, hS.sub slz_⟩
 ·
  refine sr ?_
  iterate 4 refine ww ?_
  refine nq ?_
  refine czz (fun h1 => ?_) fun h1 => ?_
  ·
   refine sr ?_
   refine ww ?_
   refine cl0 (hc := fun w hS => C_score_leads _ _ _ (by assumption) w) (h := ?_)
   refine ww ?_
   refine nq ?_
   refine rtn ?_
   refine q_blk_ret ?_
   refine q_then_ret ?_
   refine q_ret (hR := ?_)
   exact fun w hS => ⟨(cdT' (fun x : Int => Ending.returned (Value.int .i64 x)) h1).trans (cdF' (fun x : Int => Ending.returned (Value.int .i64 x)) h0), hS.sub slz_⟩
  ·
   refine skp ?_
   refine q_blk_norm ?_
   refine q_seq ?_
   refine sr ?_
   refine ww ?_
   refine cl0 (hc := fun w hS => C_score_leads _ _ _ (by assumption) w) (h := ?_)
   refine ww ?_
   refine nq ?_
   refine rtn ?_
   refine q_ret (hR := ?_)
   exact fun w hS => ⟨(cdF' (fun x : Int => Ending.returned (Value.int .i64 x)) h1).trans (cdF' (fun x : Int => Ending.returned (Value.int .i64 x)) h0), hS.sub slz_⟩

theorem C_rules_due (f : Fmt) (n : Int) (hf : f.Ok) (hn : -1000000 ≤ n ∧ n ≤ 1000000) (w : World) : C0 Tryz.prog 120 [f.val, .int .i64 n] w (.bool (dueV f n)) := by
 have h1 := hf.f0
 have h2 := hf.f1
 have h3 := hf.n0
 refine ⟨en Tryz.func120 Tryz.ntmps120 (St.init w) (h := fun F => ?_)⟩
 refine sr ?_
 refine bxA (h := fun b0 => ?_)
 refine ww ?_
 refine nr ?_
 iterate 6 refine ww ?_
 refine nr ?_
 iterate 5 refine ww ?_
 apply brAnd 21 15 36 (by exact rfl)
 ·
  intro hb0
  iterate 3 refine uw ?_
  apply brOr 17 18 35 (by exact rfl)
  ·
   intro hb1
   iterate 3 refine uw ?_
   apply brAnd 5 21 26 (by exact rfl)
   ·
    intro hb2
    iterate 5 refine uw ?_
    exact mg (by repeat (first | exact trivial | refine ⟨rfl, ?_⟩ | refine ⟨by rw [hb2]; rfl, ?_⟩ | refine ⟨by rw [hb0]; rfl, ?_⟩ | refine ⟨by rw [hb1]; rfl, ?_⟩)) slz_
   ·
    intro hb2
    repeat (first | refine uz ?_ | refine kz ?_ | refine wz ?_)
    exact mg (by repeat (first | exact trivial | refine ⟨rfl, ?_⟩ | refine ⟨by rw [hb2]; rfl, ?_⟩ | refine ⟨by rw [hb0]; rfl, ?_⟩ | refine ⟨by rw [hb1]; rfl, ?_⟩)) slz_
   refine uw ?_
   apply brAnd 7 27 34 (by exact rfl)
   ·
    intro hb3
    obtain ⟨hng, hthn⟩ : 0 < n - f.first ∧ 0 < f.thn := by simp only [Bool.and_eq_true, decide_eq_true_eq] at hb3; omega
    iterate 7 refine uw ?_
    exact mg (by repeat (first | exact trivial | refine ⟨rfl, ?_⟩ | refine ⟨by rw [hb3]; rfl, ?_⟩ | refine ⟨by rw [hb0]; rfl, ?_⟩ | refine ⟨by rw [hb1]; rfl, ?_⟩)) slz_
   ·
    intro hb3
    repeat (first | refine uz ?_ | refine kz ?_ | refine wz ?_)
    exact mg (by repeat (first | exact trivial | refine ⟨rfl, ?_⟩ | refine ⟨by rw [hb3]; rfl, ?_⟩ | refine ⟨by rw [hb0]; rfl, ?_⟩ | refine ⟨by rw [hb1]; rfl, ?_⟩)) slz_
   refine uw ?_
   exact mg (by repeat (first | exact trivial | refine ⟨rfl, ?_⟩ | refine ⟨by rw [hb1]; rfl, ?_⟩ | refine ⟨by rw [hb0]; rfl, ?_⟩)) slz_
  ·
   intro hb1
   repeat (first | refine uz ?_ | refine kz ?_ | refine wz ?_)
   exact mg (by repeat (first | exact trivial | refine ⟨rfl, ?_⟩ | refine ⟨by rw [hb1]; rfl, ?_⟩ | refine ⟨by rw [hb0]; rfl, ?_⟩)) slz_
  refine ww ?_
  exact mg (by repeat (first | exact trivial | refine ⟨rfl, ?_⟩ | refine ⟨by rw [hb0]; rfl, ?_⟩)) slz_
 ·
  intro hb0
  repeat (first | refine uz ?_ | refine kz ?_ | refine wz ?_)
  exact mg (by repeat (first | exact trivial | refine ⟨rfl, ?_⟩ | refine ⟨by rw [hb0]; rfl, ?_⟩)) slz_
 refine ww ?_
 refine nq ?_
 refine rtn ?_
 refine q_ret (hR := ?_)
 exact fun w hS => ⟨rfl, hS.sub slz_⟩
end Go.Proofs.YtpmmgljndceplaaGreat

namespace Go.Proofs.YtpmmgljndceplaaGreat
open Go Go.RowKit

structure Gm where
 (set : Int) (tie : Bool) (server winner : Int) (pts : Pr) (fresh : Bool)
abbrev Gm.enc (g : Gm) : List Value := [.int .i64 g.set, .bool g.tie, .int .i64 g.server, .int .i64 g.winner, .int .i64 g.pts.1, .int .i64 g.pts.2, .bool g.fresh]
def encP (ps : List Pr) : List (List Value) := ps.map fun p => [.int .i64 p.1, .int .i64 p.2]
def encB (bs : List Bool) : List (List Value) := bs.map fun b => [.bool b]
def encG (gs : List Gm) : List (List Value) := gs.map Gm.enc
def encI (xs : List Int) : List (List Value) := xs.map fun x => [.int .i64 x]
theorem encP_app (ps : List Pr) (p : Pr) : encP ps ++ [[.int .i64 p.1, .int .i64 p.2]] = encP (ps ++ [p]) := by simp [encP]
theorem encB_app (bs : List Bool) (b : Bool) : encB bs ++ [[.bool b]] = encB (bs ++ [b]) := by simp [encB]
theorem encG_app (gs : List Gm) (g : Gm) : encG gs ++ [g.enc] = encG (gs ++ [g]) := by simp [encG]
theorem encI_len (xs : List Int) : (encI xs).length = xs.length := by simp [encI]
theorem encI_at {xs : List Int} {k : Nat} {x : Int} (h : xs[k]? = some x) : (encI xs)[k]? = some [.int .i64 x] := by simp [encI, h]
theorem encP_at {xs : List Pr} {k : Nat} {x : Pr} (h : xs[k]? = some x) : (encP xs)[k]? = some [.int .i64 x.1, .int .i64 x.2] := by simp [encP, h]
def tieI (l : List Bool) (i : Int) : Bool := l.getD i.toNat false
theorem encB_at {l : List Bool} {i : Int} (h : 0 ≤ i ∧ i < l.length) : (encB l)[i.toNat]? = some [.bool (tieI l i)] := by
 have hi : i.toNat < l.length := by omega
 simp [encB, tieI, List.getElem?_eq_getElem hi, List.getD_eq_getElem?_getD]
structure MS where
 (f : Fmt) (first : Int) (st : List Pr) (g p won : Pr) (server ends balls winner : Int) (ties : List Bool) (gs : List Gm)
structure MA where
 (sA tA gA : Option Addr) (sc tc gc : Nat)
abbrev MS.cells (m : MS) (a : MA) : List Value := [.int .i64 m.f.sets, .int .i64 m.f.games, .bool m.f.noAd, .int .i64 m.f.tie, .int .i64 m.f.to, .int .i64 m.f.ltie, .int .i64 m.f.lto, .int .i64 m.f.first, .int .i64 m.f.thn, .bool m.f.dbl,
 .slice a.sA m.st.length a.sc, .int .i64 m.g.1, .int .i64 m.g.2, .int .i64 m.p.1, .int .i64 m.p.2, .int .i64 m.server, .int .i64 m.ends, .int .i64 m.balls, .int .i64 m.winner, .int .i64 m.first, .int .i64 m.won.1, .int .i64 m.won.2, .slice a.tA m.ties.length a.tc, .slice a.gA m.gs.length a.gc]
abbrev MS.blk (m : MS) (a : MA) (b : Nat) : Ent := .blk b 94 (m.cells a)
abbrev MS.tiesE (m : MS) (a : MA) : Ent := .own a.tA a.tc 4 1 m.ties.length (encB m.ties)
abbrev MS.ents (m : MS) (a : MA) (b : Nat) : List Ent := [m.blk a b, .own a.sA a.sc 38 2 m.st.length (encP m.st), m.tiesE a, .own a.gA a.gc 139 7 m.gs.length (encG m.gs)]
def freshV (f : Fmt) (ties : List Bool) : Bool := !tieI ties ((ties.length : Int) - 1) && dueV f ((ties.length : Int) - 1) || decide (2 ≤ (ties.length : Int) - 1) && tieI ties ((ties.length : Int) - 1 - 2) && dueV f ((ties.length : Int) - 1 - 2)
def turnV (ties : List Bool) (pt : Int) : Int := bif tieI ties ((ties.length : Int) - 1) then (pt + 1) / 2 else 0
def servesV (f : Fmt) (first : Int) (ties : List Bool) (pt : Int) : Int :=
 bif !f.dbl then (first + ((ties.length : Int) - 1) + turnV ties pt) % 2 else
  (first + ((ties.length : Int) - 1) + turnV ties pt) % 2 + 2 * ((((ties.length : Int) - 1 + turnV ties pt % 2) / 2 + turnV ties pt / 2) % 2)
def tiesV (m : MS) : List Bool := m.ties ++ [brksV (setV m.f m.won) m.g]
def nextV (m : MS) : MS := bif decide (0 ≤ m.winner) then { m with server := -1 } else
 { m with ties := tiesV m, balls := bif freshV m.f (tiesV m) then m.balls + 1 else m.balls, server := servesV m.f m.first (tiesV m) 0 }
def begin0 (f : Fmt) (first : Int) : MS := ⟨f, first, [], (0, 0), (0, 0), (0, 0), 0, 0, 0, -1, [], []⟩
def beginV (f : Fmt) (first : Int) : MS := nextV (begin0 f first)
def MS.tie (m : MS) : Bool := tieI m.ties ((m.ties.length : Int) - 1)
def MS.w (m : MS) (side : Int) : Int := gameV m.f (setV m.f m.won) m.tie (addV m.p side)
def pointN (m : MS) (side : Int) : MS :=
 { m with p := addV m.p side, ends := bif m.tie && decide (((addV m.p side).1 + (addV m.p side).2) % 6 = 0) then m.ends + 1 else m.ends, server := servesV m.f m.first m.ties ((addV m.p side).1 + (addV m.p side).2) }
def gameG (m : MS) (side : Int) : Gm := ⟨m.st.length, m.tie, servesV m.f m.first m.ties 0, m.w side, addV m.p side, freshV m.f m.ties⟩
def setEnds (m : MS) (w : Int) : Bool := m.tie || decide (0 ≤ leadsV (addV m.g w) m.f.games 2)
def pointG (m : MS) (side : Int) : MS :=
 bif setEnds m (m.w side) then
  { m with gs := m.gs ++ [gameG m side], p := (0, 0), st := m.st ++ [addV m.g (m.w side)], g := (0, 0), won := addV m.won (m.w side), winner := bif decide (max (addV m.won (m.w side)).1 (addV m.won (m.w side)).2 = m.f.sets) then m.w side else m.winner }
 else { m with gs := m.gs ++ [gameG m side], p := (0, 0), g := addV m.g (m.w side) }
def pointE (m : MS) (side : Int) : MS :=
 { pointG m side with ends := bif decide (((addV m.g (m.w side)).1 + (addV m.g (m.w side)).2) % 2 = 1) && decide ((pointG m side).winner < 0) then m.ends + 1 else m.ends }
def pointV (m : MS) (side : Int) : MS := bif decide (m.w side < 0) then pointN m side else nextV (pointE m side)
structure MS.Bd (m : MS) (K : Int) : Prop where
 f : m.f.Ok
 fst : m.first = 0 ∨ m.first = 1
 k : 0 ≤ K ∧ K ≤ 1000
 t1 : 1 ≤ (m.ties.length : Int)
 t2 : (m.ties.length : Int) ≤ K + 1
 g : (0 ≤ m.g.1 ∧ m.g.1 ≤ K) ∧ 0 ≤ m.g.2 ∧ m.g.2 ≤ K
 p : (0 ≤ m.p.1 ∧ m.p.1 ≤ K) ∧ 0 ≤ m.p.2 ∧ m.p.2 ≤ K
 won : (0 ≤ m.won.1 ∧ m.won.1 ≤ K) ∧ 0 ≤ m.won.2 ∧ m.won.2 ≤ K
 e : 0 ≤ m.ends ∧ m.ends ≤ K
 b : 0 ≤ m.balls ∧ m.balls ≤ K + 1
 s : (m.st.length : Int) ≤ K
 gs : (m.gs.length : Int) ≤ K
end Go.Proofs.YtpmmgljndceplaaGreat

namespace Go.Proofs.YtpmmgljndceplaaGreat
open Go Go.RowKit

theorem T_number (m : MS) (a : MA) (b : Nat) (hb : 1 ≤ (m.ties.length : Int) ∧ (m.ties.length : Int) ≤ 100000) :
  Tr Tryz.prog 91 [.pointer (some ⟨b, 0, none⟩)] [m.blk a b] (fun _ : Unit => True) (fun _ => .int .i64 ((m.ties.length : Int) - 1)) (fun _ => [m.blk a b]) := by
 refine ⟨fun w0 w R hst => ?_⟩
 refine en Tryz.func91 Tryz.ntmps91 hst (h := fun F => ?_)
 refine sr ?_
 refine ww ?_
 refine nr ?_
 iterate 7 refine ww ?_
 refine nq ?_
 refine rtn ?_
 refine q_ret (hR := ?_)
 exact fun w hS => ⟨(), trivial, rfl, hS⟩

theorem T_fresh (m : MS) (a : MA) (b : Nat) (hf : m.f.Ok) (hb : 1 ≤ (m.ties.length : Int) ∧ (m.ties.length : Int) ≤ 100000) :
  Tr Tryz.prog 95 [.pointer (some ⟨b, 0, none⟩)] [m.blk a b, m.tiesE a] (fun _ : Unit => True) (fun _ => .bool (freshV m.f m.ties)) (fun _ => [m.blk a b, m.tiesE a]) := by
 refine ⟨fun w0 w R hst => ?_⟩
 have hk1 := encB_at (l := m.ties) (i := (m.ties.length : Int) - 1) (by omega)
 refine en Tryz.func95 Tryz.ntmps95 hst (h := fun F => ?_)
 refine sr ?_
 refine ww ?_
 refine nr ?_
 refine ww ?_
 refine clT (hc := T_number m a b hb) (h := fun _ _ => ?_)
 refine ww ?_
 refine nr ?_
 iterate 5 refine ww ?_
 refine wy ix ?_
 refine wy (ldE (hk := hk1)) ?_
 iterate 2 refine ww ?_
 apply brAnd 7 14 21 (by exact rfl)
 ·
  intro hb0
  iterate 5 refine uw ?_
  refine uz ?_
  refine cl0 (hc := fun w hS => C_rules_due _ _ (by assumption) (by omega) w) (h := ?_)
  refine ww ?_
  exact mg (by repeat (first | exact trivial | refine ⟨rfl, ?_⟩ | refine ⟨by rw [hb0]; rfl, ?_⟩)) slz_
 ·
  intro hb0
  repeat (first | refine uz ?_ | refine kz ?_ | refine wz ?_)
  exact mg (by repeat (first | exact trivial | refine ⟨rfl, ?_⟩ | refine ⟨by rw [hb0]; rfl, ?_⟩)) slz_
 refine ww ?_
 apply brOr 22 22 44 (by exact rfl)
 ·
  intro hb1
  iterate 3 refine uw ?_
  apply brAnd 9 25 34 (by exact rfl)
  ·
   intro hb2
   have hn2 : 2 ≤ (m.ties.length : Int) - 1 := by simpa using hb2
   have hk2 := encB_at (l := m.ties) (i := (m.ties.length : Int) - 1 - 2) (by omega)
   iterate 6 refine uw ?_
   refine uz ?_
   refine wy ix ?_
   refine uz ?_
   refine wy (ldE (hk := hk2)) ?_
   refine uw ?_
   exact mg (by repeat (first | exact trivial | refine ⟨rfl, ?_⟩ | refine ⟨by rw [hb2]; rfl, ?_⟩ | refine ⟨by rw [hb1]; rfl, ?_⟩)) slz_
  ·
   intro hb2
   repeat (first | refine uz ?_ | refine kz ?_ | refine wz ?_)
   exact mg (by repeat (first | exact trivial | refine ⟨rfl, ?_⟩ | refine ⟨by rw [hb2]; rfl, ?_⟩ | refine ⟨by rw [hb1]; rfl, ?_⟩)) slz_
  refine uw ?_
  apply brAnd 8 35 43 (by exact rfl)
  ·
   intro hb3
   have hn2 : 2 ≤ (m.ties.length : Int) - 1 := by simp only [Bool.and_eq_true, decide_eq_true_eq] at hb3; omega
   iterate 6 refine uw ?_
   refine uz ?_
   refine cl0 (hc := fun w hS => C_rules_due _ _ (by assumption) (by omega) w) (h := ?_)
   refine uw ?_
   exact mg (by repeat (first | exact trivial | refine ⟨rfl, ?_⟩ | refine ⟨by rw [hb3]; rfl, ?_⟩ | refine ⟨by rw [hb1]; rfl, ?_⟩)) slz_
  ·
   intro hb3
   repeat (first | refine uz ?_ | refine kz ?_ | refine wz ?_)
   exact mg (by repeat (first | exact trivial | refine ⟨rfl, ?_⟩ | refine ⟨by rw [hb3]; rfl, ?_⟩ | refine ⟨by rw [hb1]; rfl, ?_⟩)) slz_
  refine ww ?_
  exact mg (by repeat (first | exact trivial | refine ⟨rfl, ?_⟩ | refine ⟨by rw [hb1]; rfl, ?_⟩)) slz_
 ·
  intro hb1
  repeat (first | refine uz ?_ | refine kz ?_ | refine wz ?_)
  exact mg (by repeat (first | exact trivial | refine ⟨rfl, ?_⟩ | refine ⟨by rw [hb1]; rfl, ?_⟩)) slz_
 refine ww ?_
 refine nq ?_
 refine rtn ?_
 refine q_ret (hR := ?_)
 exact fun w hS => ⟨(), trivial, rfl, hS.sub slz_⟩

theorem T_serves (m : MS) (a : MA) (b : Nat) (pt : Int) (hf : 0 ≤ m.first ∧ m.first ≤ 1) (hp : 0 ≤ pt ∧ pt ≤ 100000) (hb : 1 ≤ (m.ties.length : Int) ∧ (m.ties.length : Int) ≤ 100000) :
  Tr Tryz.prog 94 [.pointer (some ⟨b, 0, none⟩), .int .i64 pt] [m.blk a b, m.tiesE a] (fun _ : Unit => True) (fun _ => .int .i64 (servesV m.f m.first m.ties pt)) (fun _ => [m.blk a b, m.tiesE a]) := by
 refine ⟨fun w0 w R hst => ?_⟩
 have hk1 := encB_at (l := m.ties) (i := (m.ties.length : Int) - 1) (by omega)
 refine en Tryz.func94 Tryz.ntmps94 hst (h := fun F => ?_)
 refine sr ?_
 refine ww ?_
 refine nr ?_
 refine ww ?_
 refine clT (hc := T_number m a b hb) (h := fun _ _ => ?_)
 iterate 2 refine ww ?_
 refine nq ?_
 refine sq ?_
 refine sr ?_
 iterate 5 refine ww ?_
 refine wy ix ?_
 refine wy (ldE (hk := hk1)) ?_
 refine nq ?_
 refine czz (fun h0 => ?_) fun h0 => ?_
 ·
  have ht : turnV m.ties pt = (pt + 1) / 2 := by rw [turnV, h0]; rfl
  refine rg ?_
  iterate 4 refine ww ?_
  refine nr ?_
  iterate 10 refine ww ?_
  refine nq ?_
  refine sq ?_
  refine sr ?_
  iterate 7 refine ww ?_
  refine nq ?_
  refine czz (fun h1 => ?_) fun h1 => ?_
  ·
   have hsv : servesV m.f m.first m.ties pt = (m.first + ((m.ties.length : Int) - 1) + turnV m.ties pt) % 2 := by rw [servesV, h1]; rfl
   refine sr ?_
   iterate 2 refine ww ?_
   refine nq ?_
   refine rtn ?_
   refine q_then_ret ?_
   refine q_ret (hR := ?_)
   rw [hsv, ht]
   exact fun w hS => ⟨(), trivial, rfl, hS.sub slz_⟩
  ·
   have hsv : servesV m.f m.first m.ties pt = (m.first + ((m.ties.length : Int) - 1) + turnV m.ties pt) % 2 + 2 * ((((m.ties.length : Int) - 1 + turnV m.ties pt % 2) / 2 + turnV m.ties pt / 2) % 2) := by rw [servesV, h1]; rfl
   refine skp ?_
   refine q_seq ?_
   refine sr ?_
   iterate 9 refine ww ?_
   refine nr ?_
   iterate 6 refine ww ?_
   refine nq ?_
   refine rtn ?_
   refine q_ret (hR := ?_)
   rw [hsv, ht]
   exact fun w hS => ⟨(), trivial, rfl, hS.sub slz_⟩
 ·
  have ht : turnV m.ties pt = 0 := by rw [turnV, h0]; rfl
  refine skp ?_
  refine q_seq ?_
  refine sr ?_
  iterate 10 refine ww ?_
  refine nq ?_
  refine sq ?_
  refine sr ?_
  iterate 7 refine ww ?_
  refine nq ?_
  refine czz (fun h2 => ?_) fun h2 => ?_
  ·
   have hsv : servesV m.f m.first m.ties pt = (m.first + ((m.ties.length : Int) - 1) + turnV m.ties pt) % 2 := by rw [servesV, h2]; rfl
   refine sr ?_
   iterate 2 refine ww ?_
   refine nq ?_
   refine rtn ?_
   refine q_then_ret ?_
   refine q_ret (hR := ?_)
   rw [hsv, ht]
   exact fun w hS => ⟨(), trivial, rfl, hS.sub slz_⟩
  ·
   have hsv : servesV m.f m.first m.ties pt = (m.first + ((m.ties.length : Int) - 1) + turnV m.ties pt) % 2 + 2 * ((((m.ties.length : Int) - 1 + turnV m.ties pt % 2) / 2 + turnV m.ties pt / 2) % 2) := by rw [servesV, h2]; rfl
   refine skp ?_
   refine q_seq ?_
   refine sr ?_
   iterate 9 refine ww ?_
   refine nr ?_
   iterate 6 refine ww ?_
   refine nq ?_
   refine rtn ?_
   refine q_ret (hR := ?_)
   rw [hsv, ht]
   exact fun w hS => ⟨(), trivial, rfl, hS.sub slz_⟩
end Go.Proofs.YtpmmgljndceplaaGreat

namespace Go.Proofs.YtpmmgljndceplaaGreat
open Go Go.RowKit

set_option maxRecDepth 100000 in
theorem T_next (m : MS) (a : MA) (b : Nat) (hf : m.f.Ok) (hfs : 0 ≤ m.first ∧ m.first ≤ 1) (ht : (m.ties.length : Int) ≤ 90000) (hbal : 0 ≤ m.balls ∧ m.balls ≤ 100000) :
  Tr Tryz.prog 90 [.pointer (some ⟨b, 0, none⟩)] (m.ents a b) (fun _ : MA => True) (fun _ => .tuple #[]) (fun a' => (nextV m).ents a' b) := by
 refine ⟨fun w0 w R hst => ?_⟩
 have hb1 : 1 ≤ ((tiesV m).length : Int) ∧ ((tiesV m).length : Int) ≤ 100000 := by
  have : (tiesV m).length = m.ties.length + 1 := by simp [tiesV]
  omega
 have hl : (tiesV m).length = m.ties.length + 1 := by simp [tiesV]
 have he : encB (tiesV m) = encB m.ties ++ [[.bool (brksV (setV m.f m.won) m.g)]] := (encB_app ..).symm
 refine en Tryz.func90 Tryz.ntmps90 hst (h := fun F => ?_)
 refine sq ?_
 refine sr ?_
 iterate 6 refine ww ?_
 refine nq ?_
 refine czz (fun h0 => ?_) fun h0 => ?_
 ·
  have hnx : nextV m = { m with server := -1 } := by rw [nextV, h0]; rfl
  refine sr ?_
  iterate 4 refine ww ?_
  first | refine st (h := ?_) | refine stE (h := ?_)
  refine nq ?_
  refine rtn ?_
  refine q_then_ret ?_
  refine q_ret (hR := ?_)
  rw [hnx]
  exact fun w hS => ⟨a, trivial, rfl, hS.sub slz_⟩
 ·
  have hw0 : decide (0 ≤ m.winner) = false := h0
  refine skp ?_
  refine q_seq ?_
  refine ct (X := Option Addr × Nat) (fun _ => True) (fun _ => [(0, .pointer (some ⟨b, 0, none⟩))]) (fun x => ({ m with ties := tiesV m } : MS).ents ⟨a.sA, x.1, a.gA, a.sc, x.2, a.gc⟩ b ++ R) (h1 := ?_) (h2 := ?_)
  ·
   refine rgD (by kernel_rfl) [(25, m.blk a b)] (by repeat (first | exact HS.nil | (apply HS.keep; (repeat (first | exact At.here | apply At.there))) | (apply HS.ro; (repeat (first | exact Rds.ro | exact Rds.own | apply Rds.there))))) (h := ?_)
   refine tw 0 ?_
   refine tw 1 ?_
   refine tw 2 ?_
   refine tw 3 ?_
   refine tw 4 ?_
   refine tw 5 ?_
   refine tw 6 ?_
   refine tw 7 ?_
   refine tw 8 ?_
   refine tw 9 ?_
   refine tw 10 ?_
   refine tw 11 ?_
   refine tw 12 ?_
   refine tw 14 ?_
   refine tw 15 ?_
   refine tw 16 ?_
   refine tw 17 ?_
   refine tw 18 ?_
   refine tw 19 ?_
   refine one 13 (h := ?_)
   refine cl0 (hc := fun w hS => C_rules_set _ _ (by assumption) w) (h := ?_)
   refine nx (h := ?_)
   refine one 20 (h := ?_)
   refine cl0 (hc := fun w hS => C_set_breaks _ _ w) (h := ?_)
   refine nx (h := ?_)
   refine one 21 (h := ?_)
   refine bs (h := fun b0 => ?_)
   refine nx (h := ?_)
   refine one 22 (h := ?_)
   first | refine ap (h := fun A1 c1 => ?_) | refine ap0 (h := fun A1 c1 => ?_)
   refine nx (h := ?_)
   refine tw 23 ?_
   refine tw 24 ?_
   refine one 25 (h := ?_)
   first | refine st (h := ?_) | refine stE (h := ?_)
   refine nx (h := ?_)
   refine dn (h := ?_)
   exact ctn ⟨_, _⟩ trivial sbz_ (by dsimp only [MS.ents, MS.blk, MS.cells, MS.tiesE]; rw [hl, he]; repeat (first | exact SubL.nil | (apply SubL.cons; (repeat (first | exact At.here | apply At.there))) | exact SubL.refl _ | apply SubL.skip))
  rintro ⟨A1, c1⟩ -
  dsimp only [MS.ents, MS.blk, MS.cells, MS.tiesE]
  refine sq ?_
  refine sr ?_
  refine ww ?_
  refine clT (hc := T_fresh { m with ties := tiesV m } ⟨a.sA, A1, a.gA, a.sc, c1, a.gc⟩ b hf hb1) (h := fun _ _ => ?_)
  dsimp only [MS.blk, MS.cells, MS.tiesE]
  refine nq ?_
  refine czz (fun h1 => ?_) fun h1 => ?_
  ·
   have hnx : nextV m = { m with ties := tiesV m, balls := m.balls + 1, server := servesV m.f m.first (tiesV m) 0 } := by rw [nextV, hw0, h1]; rfl
   refine rg ?_
   iterate 9 refine ww ?_
   first | refine st (h := ?_) | refine stE (h := ?_)
   refine nq ?_
   refine rg ?_
   iterate 2 refine ww ?_
   first
    | refine clT (hc := T_serves { m with ties := tiesV m, balls := m.balls + 1 } ⟨a.sA, A1, a.gA, a.sc, c1, a.gc⟩ b 0 hfs (by omega) hb1) (h := fun _ _ => ?_)
    | refine clT (hc := T_serves { m with ties := tiesV m } ⟨a.sA, A1, a.gA, a.sc, c1, a.gc⟩ b 0 hfs (by omega) hb1) (h := fun _ _ => ?_)
   iterate 3 refine ww ?_
   first | refine st (h := ?_) | refine stE (h := ?_)
   refine nl ?_
   refine q_end (hR := ?_)
   rw [hnx]
   exact fun w hS => ⟨⟨a.sA, A1, a.gA, a.sc, c1, a.gc⟩, trivial, rfl, hS.sub slz_⟩
  ·
   have hnx : nextV m = { m with ties := tiesV m, server := servesV m.f m.first (tiesV m) 0 } := by rw [nextV, hw0, h1]; rfl
   refine skp ?_
   refine q_seq ?_
   refine rg ?_
   iterate 2 refine ww ?_
   first
    | refine clT (hc := T_serves { m with ties := tiesV m, balls := m.balls + 1 } ⟨a.sA, A1, a.gA, a.sc, c1, a.gc⟩ b 0 hfs (by omega) hb1) (h := fun _ _ => ?_)
    | refine clT (hc := T_serves { m with ties := tiesV m } ⟨a.sA, A1, a.gA, a.sc, c1, a.gc⟩ b 0 hfs (by omega) hb1) (h := fun _ _ => ?_)
   iterate 3 refine ww ?_
   first | refine st (h := ?_) | refine stE (h := ?_)
   refine nl ?_
   refine q_end (hR := ?_)
   rw [hnx]
   exact fun w hS => ⟨⟨a.sA, A1, a.gA, a.sc, c1, a.gc⟩, trivial, rfl, hS.sub slz_⟩

set_option maxRecDepth 100000 in
theorem C_score_begin (f : Fmt) (first : Int) (hf : f.Ok) (hfs : 0 ≤ first ∧ first ≤ 1) (w : World) :
  CR Tryz.prog 60 [f.val, .int .i64 first] w (fun _ : Nat × MA => True) (fun x => .pointer (some ⟨x.1, 0, none⟩)) (fun x => (beginV f first).ents x.2 x.1) := by
 refine ⟨en Tryz.func60 Tryz.ntmps60 (St.init w) (h := fun F => ?_)⟩
 refine sr ?_
 refine bxA (h := fun b0 => ?_)
 refine ww ?_
 refine nr ?_
 iterate 3 refine ww ?_
 refine bxA (h := fun b1 => ?_)
 refine ww ?_
 refine nr ?_
 iterate 4 refine ww ?_
 first | refine st (h := ?_) | refine stE (h := ?_)
 refine nr ?_
 refine ww ?_
 refine WL.nilOwn 38 2 (h := ?_)
 refine WL.nilOwn 4 1 (h := ?_)
 refine WL.nilOwn 139 7 (h := ?_)
 refine clT (hc := T_next (begin0 f first) ⟨none, none, none, 0, 0, 0⟩ b1 hf hfs (by simp [begin0]) (by simp [begin0])) (h := fun x _ => ?_)
 refine nr ?_
 iterate 2 refine ww ?_
 refine nq ?_
 refine rtn ?_
 refine q_ret (hR := ?_)
 exact fun w hS => ⟨(b1, x), trivial, rfl, hS.sub slz_⟩
end Go.Proofs.YtpmmgljndceplaaGreat

namespace Go.Proofs.YtpmmgljndceplaaGreat
open Go Go.RowKit

theorem addV_bd {p : Pr} {K side : Int} (h : (0 ≤ p.1 ∧ p.1 ≤ K) ∧ 0 ≤ p.2 ∧ p.2 ≤ K) : (0 ≤ (addV p side).1 ∧ (addV p side).1 ≤ K + 1) ∧ 0 ≤ (addV p side).2 ∧ (addV p side).2 ≤ K + 1 := by
 unfold addV
 cases decide (side = 0) <;> simp only [cond_true, cond_false] <;> omega
theorem sm_of {p : Pr} {K : Int} (h : (0 ≤ p.1 ∧ p.1 ≤ K) ∧ 0 ≤ p.2 ∧ p.2 ≤ K) (hK : K ≤ 100000) : Sm p := ⟨by omega, by omega⟩

set_option maxRecDepth 100000 in
set_option maxHeartbeats 2000000 in
theorem T_point (m : MS) (a : MA) (b : Nat) (side K : Int) (hB : m.Bd K) :
  Tr Tryz.prog 61 [.pointer (some ⟨b, 0, none⟩), .int .i64 side] (m.ents a b) (fun _ : MA => True) (fun _ => .tuple #[]) (fun a' => (pointV m side).ents a' b) := by
 refine ⟨fun w0 w R hst => ?_⟩
 have hf := hB.f
 have hfs : 0 ≤ m.first ∧ m.first ≤ 1 := by have := hB.fst; omega
 have hK := hB.k
 have hb1 : 1 ≤ (m.ties.length : Int) ∧ (m.ties.length : Int) ≤ 100000 := ⟨hB.t1, by have := hB.t2; omega⟩
 have hb2 : (m.ties.length : Int) ≤ 90000 := by have := hB.t2; omega
 have hbb : 0 ≤ m.balls ∧ m.balls ≤ 100000 := by have := hB.b; omega
 have hbe := hB.e
 have hbs := hB.s
 have hbg := hB.gs
 have hSw := sm_of hB.won (by omega)
 have hSp := sm_of hB.p (by omega)
 have hSg := sm_of hB.g (by omega)
 have hp0 := addV_bd (side := side) hB.p
 have hg0 := addV_bd (side := m.w side) hB.g
 have hw0 := addV_bd (side := m.w side) hB.won
 have hSp' := sm_of hp0 (by omega)
 have hSg' := sm_of hg0 (by omega)
 have hk1 := encB_at (l := m.ties) (i := (m.ties.length : Int) - 1) (by omega)
 have hgl : (m.gs ++ [gameG m side]).length = m.gs.length + 1 := by simp
 have hge : encG (m.gs ++ [gameG m side]) = encG m.gs ++ [(gameG m side).enc] := (encG_app ..).symm
 have hsl : (m.st ++ [addV m.g (m.w side)]).length = m.st.length + 1 := by simp
 have hse' : encP (m.st ++ [addV m.g (m.w side)]) = encP m.st ++ [[.int .i64 (addV m.g (m.w side)).1, .int .i64 (addV m.g (m.w side)).2]] := (encP_app ..).symm
 refine en Tryz.func61 Tryz.ntmps61 hst (h := fun F => ?_)
 refine ct (X := Nat) (fun _ => True) (fun x => [(0, .pointer (some ⟨b, 0, none⟩)), (1, .int .i64 side), (4, .pointer (some ⟨x, 0, none⟩)), (5, .int .i64 ((m.ties.length : Int) - 1))]) (fun x => .blk x 107 [.int .i64 (setV m.f m.won).1, .int .i64 (setV m.f m.won).2] :: (m.ents a b ++ R)) (h1 := ?_) (h2 := ?_)
 ·
  refine rgD (by kernel_rfl) [(1000000, m.blk a b)] (by repeat (first | exact HS.nil | (apply HS.keep; (repeat (first | exact At.here | apply At.there))) | (apply HS.ro; (repeat (first | exact Rds.ro | exact Rds.own | apply Rds.there))))) (h := ?_)
  dsimp only [MS.ents, MS.blk, MS.cells, MS.tiesE]
  refine tw 0 ?_
  refine tw 1 ?_
  refine tw 2 ?_
  refine tw 3 ?_
  refine tw 4 ?_
  refine tw 5 ?_
  refine tw 6 ?_
  refine tw 7 ?_
  refine tw 9 ?_
  refine two 8 11 (h1 := ?_) (h2 := ?_)
  ·
   refine cl0 (hc := fun w hS => C_rules_set _ _ (by assumption) w) (h := ?_)
   refine nx (h := ?_)
   refine two 10 11 (h1 := ?_) (h2 := ?_)
   ·
    refine clT (hc := T_number m a b hb1) (h := fun _ _ => ?_)
    dsimp only [MS.ents, MS.blk, MS.cells, MS.tiesE]
    refine nx (h := ?_)
    refine one 11 (h := ?_)
    refine al (h := fun b0 => ?_)
    refine nx (h := ?_)
    refine one 12 (h := ?_)
    first | refine stA (h := ?_) | refine stEA (h := ?_)
    refine nx (h := ?_)
    refine tw 13 ?_
    refine dn (h := ?_)
    exact ctn _ trivial sbz_ slz_
   ·
    refine al (h := fun b1 => ?_)
    refine nx (h := ?_)
    refine one 10 (h := ?_)
    refine clT (hc := T_number m a b hb1) (h := fun _ _ => ?_)
    dsimp only [MS.ents, MS.blk, MS.cells, MS.tiesE]
    refine nx (h := ?_)
    refine one 12 (h := ?_)
    first | refine stA (h := ?_) | refine stEA (h := ?_)
    refine nx (h := ?_)
    refine tw 13 ?_
    refine dn (h := ?_)
    exact ctn _ trivial sbz_ slz_
  ·
   refine al (h := fun b2 => ?_)
   refine nx (h := ?_)
   refine one 8 (h := ?_)
   refine cl0 (hc := fun w hS => C_rules_set _ _ (by assumption) w) (h := ?_)
   refine nx (h := ?_)
   refine one 10 (h := ?_)
   refine clT (hc := T_number m a b hb1) (h := fun _ _ => ?_)
   dsimp only [MS.ents, MS.blk, MS.cells, MS.tiesE]
   refine nx (h := ?_)
   refine one 12 (h := ?_)
   first | refine stA (h := ?_) | refine stEA (h := ?_)
   refine nx (h := ?_)
   refine tw 13 ?_
   refine dn (h := ?_)
   exact ctn _ trivial sbz_ slz_
 rintro sB -
 dsimp only [MS.ents, MS.blk, MS.cells, MS.tiesE]
 refine sr ?_
 iterate 5 refine ww ?_
 refine wy ix ?_
 refine wy (ldE (hk := hk1)) ?_
 refine ww ?_
 refine nr ?_
 iterate 8 refine ww ?_
 refine cl0 (hc := fun w hS => C_score_add _ _ (by assumption) w) (h := ?_)
 iterate 4 refine ww ?_
 first | refine stA (h := ?_) | refine stEA (h := ?_)
 refine nr ?_
 iterate 6 refine ww ?_
 refine cl0 (hc := fun w hS => C_score_sum _ (by assumption) w) (h := ?_)
 refine ww ?_
 refine nq ?_
 refine sq ?_
 refine rgD (by kernel_rfl) [(1000000, ({ m with p := addV m.p side } : MS).blk a b), (1000000, .blk sB 107 [.int .i64 (setV m.f m.won).1, .int .i64 (setV m.f m.won).2])] (by repeat (first | exact HS.nil | (apply HS.keep; (repeat (first | exact At.here | apply At.there))) | (apply HS.ro; (repeat (first | exact Rds.ro | exact Rds.own | apply Rds.there))))) (h := ?_)
 dsimp only [MS.ents, MS.blk, MS.cells, MS.tiesE]
 refine tw 0 ?_
 refine tw 1 ?_
 refine tw 2 ?_
 refine tw 3 ?_
 refine tw 4 ?_
 refine tw 5 ?_
 refine tw 6 ?_
 refine tw 7 ?_
 refine tw 8 ?_
 refine tw 9 ?_
 refine tw 10 ?_
 refine tw 11 ?_
 refine one 12 (h := ?_)
 refine cl0 (hc := fun w hS => C_rules_game _ _ _ _ (by assumption) w) (h := ?_)
 refine nx (h := ?_)
 refine tw 13 ?_
 refine dn (h := ?_)
 refine q_seq ?_
 refine sq ?_
 refine sr ?_
 iterate 2 refine ww ?_
 refine nq ?_
 refine czz (fun h0 => ?_) fun h0 => ?_
 ·
  have hw : decide (m.w side < 0) = true := h0
  refine sq ?_
  refine sr ?_
  iterate 2 refine ww ?_
  apply brAnd 4 64 68 (by exact rfl)
  ·
   intro hb1
   iterate 3 refine uw ?_
   refine ww ?_
   exact mg (by repeat (first | exact trivial | refine ⟨rfl, ?_⟩ | refine ⟨by rw [hb1]; rfl, ?_⟩)) slz_
  ·
   intro hb1
   repeat (first | refine uz ?_ | refine kz ?_ | refine wz ?_)
   exact mg (by repeat (first | exact trivial | refine ⟨rfl, ?_⟩ | refine ⟨by rw [hb1]; rfl, ?_⟩)) slz_
  refine nq ?_
  refine czz (fun h2 => ?_) fun h2 => ?_
  ·
   have hpt : pointV m side = { m with p := addV m.p side, ends := m.ends + 1, server := servesV m.f m.first m.ties ((addV m.p side).1 + (addV m.p side).2) } := by
    have h' : (m.tie && decide (((addV m.p side).1 + (addV m.p side).2) % 6 = 0)) = true := h2
    rw [pointV, hw, cond_true, pointN, h']; rfl
   refine rg ?_
   iterate 9 refine ww ?_
   first | refine st (h := ?_) | refine stE (h := ?_)
   refine nr ?_
   iterate 3 refine ww ?_
   first
    | refine clT (hc := T_serves { m with p := addV m.p side, ends := m.ends + 1 } a b ((addV m.p side).1 + (addV m.p side).2) hfs (by omega) hb1) (h := fun _ _ => ?_)
    | refine clT (hc := T_serves { m with p := addV m.p side } a b ((addV m.p side).1 + (addV m.p side).2) hfs (by omega) hb1) (h := fun _ _ => ?_)
   dsimp only [MS.ents, MS.blk, MS.cells, MS.tiesE]
   iterate 3 refine ww ?_
   first | refine st (h := ?_) | refine stE (h := ?_)
   refine nq ?_
   refine rtn ?_
   refine q_then_ret ?_
   refine q_ret (hR := ?_)
   first
    | (rw [hpt]; exact fun w hS => ⟨a, trivial, rfl, hS.sub slz_⟩)
    | (rw [pointV, hw, cond_false, hE, hG]; exact fun w hS => ⟨a', trivial, rfl, hS.sub slz_⟩)
  ·
   have hpt : pointV m side = { m with p := addV m.p side, server := servesV m.f m.first m.ties ((addV m.p side).1 + (addV m.p side).2) } := by
    have h' : (m.tie && decide (((addV m.p side).1 + (addV m.p side).2) % 6 = 0)) = false := h2
    rw [pointV, hw, cond_true, pointN, h']; rfl
   refine skp ?_
   refine q_seq ?_
   refine sr ?_
   iterate 3 refine ww ?_
   first
    | refine clT (hc := T_serves { m with p := addV m.p side, ends := m.ends + 1 } a b ((addV m.p side).1 + (addV m.p side).2) hfs (by omega) hb1) (h := fun _ _ => ?_)
    | refine clT (hc := T_serves { m with p := addV m.p side } a b ((addV m.p side).1 + (addV m.p side).2) hfs (by omega) hb1) (h := fun _ _ => ?_)
   dsimp only [MS.ents, MS.blk, MS.cells, MS.tiesE]
   iterate 3 refine ww ?_
   first | refine st (h := ?_) | refine stE (h := ?_)
   refine nq ?_
   refine rtn ?_
   refine q_then_ret ?_
   refine q_ret (hR := ?_)
   first
    | (rw [hpt]; exact fun w hS => ⟨a, trivial, rfl, hS.sub slz_⟩)
    | (rw [pointV, hw, cond_false, hE, hG]; exact fun w hS => ⟨a', trivial, rfl, hS.sub slz_⟩)
 ·
  have hw : decide (m.w side < 0) = false := h0
  refine skp ?_
  refine q_seq ?_
  refine ct (X := Option Addr × Nat) (fun _ => True) (fun _ => [(0, .pointer (some ⟨b, 0, none⟩)), (6, .bool m.tie), (8, .int .i64 (m.w side))]) (fun x => ({ m with p := addV m.p side, gs := m.gs ++ [gameG m side] } : MS).ents ⟨a.sA, a.tA, x.1, a.sc, a.tc, x.2⟩ b ++ R) (h1 := ?_) (h2 := ?_)
  ·
   refine rgD (by kernel_rfl) [(29, ({ m with p := addV m.p side } : MS).blk a b)] (by repeat (first | exact HS.nil | (apply HS.keep; (repeat (first | exact At.here | apply At.there))) | (apply HS.ro; (repeat (first | exact Rds.ro | exact Rds.own | apply Rds.there))))) (h := ?_)
   dsimp only [MS.ents, MS.blk, MS.cells, MS.tiesE]
   refine tw 0 ?_
   refine tw 1 ?_
   refine tw 2 ?_
   refine tw 3 ?_
   refine tw 4 ?_
   refine tw 5 ?_
   refine tw 6 ?_
   refine tw 7 ?_
   refine tw 8 ?_
   refine tw 9 ?_
   refine tw 10 ?_
   refine tw 11 ?_
   refine tw 12 ?_
   refine tw 13 ?_
   refine tw 15 ?_
   refine tw 16 ?_
   refine tw 17 ?_
   refine tw 18 ?_
   refine tw 19 ?_
   refine tw 20 ?_
   refine tw 21 ?_
   refine tw 22 ?_
   refine one 14 (h := ?_)
   refine clT (hc := T_serves { m with p := addV m.p side } a b 0 hfs (by omega) hb1) (h := fun _ _ => ?_)
   dsimp only [MS.ents, MS.blk, MS.cells, MS.tiesE]
   refine nx (h := ?_)
   refine one 23 (h := ?_)
   refine clT (hc := T_fresh { m with p := addV m.p side } a b hf hb1) (h := fun _ _ => ?_)
   dsimp only [MS.ents, MS.blk, MS.cells, MS.tiesE]
   refine nx (h := ?_)
   refine tw 24 ?_
   refine one 25 (h := ?_)
   refine bs (h := fun b3 => ?_)
   refine nx (h := ?_)
   refine one 26 (h := ?_)
   first | refine ap (h := fun A1 c1 => ?_) | refine ap0 (h := fun A1 c1 => ?_)
   refine nx (h := ?_)
   refine tw 27 ?_
   refine tw 28 ?_
   refine one 29 (h := ?_)
   first | refine st (h := ?_) | refine stE (h := ?_)
   refine nx (h := ?_)
   refine dn (h := ?_)
   exact ctn ⟨_, _⟩ trivial sbz_ (by dsimp only [MS.ents, MS.blk, MS.cells, MS.tiesE]; rw [hgl, hge]; repeat (first | exact SubL.nil | (apply SubL.cons; (repeat (first | exact At.here | apply At.there))) | exact SubL.refl _ | apply SubL.skip))
  rintro ⟨gA1, gc1⟩ -
  dsimp only [MS.ents, MS.blk, MS.cells, MS.tiesE]
  refine sr ?_
  iterate 6 refine ww ?_
  first | refine stA (h := ?_) | refine stEA (h := ?_)
  refine nr ?_
  iterate 7 refine ww ?_
  refine cl0 (hc := fun w hS => C_score_add _ _ (by assumption) w) (h := ?_)
  refine al (h := fun b4 => ?_)
  first | refine stA (h := ?_) | refine stEA (h := ?_)
  refine nr ?_
  iterate 6 refine ww ?_
  first | refine stA (h := ?_) | refine stEA (h := ?_)
  refine nq ?_
  refine sq ?_
  refine ct1 145 (v := .bool (setEnds m (m.w side))) (h1 := ?_) (h2 := ?_)
  ·
   refine rgD (by kernel_rfl) [(1000000, ({ m with p := (0, 0), g := addV m.g (m.w side), gs := m.gs ++ [gameG m side] } : MS).blk ⟨a.sA, a.tA, gA1, a.sc, a.tc, gc1⟩ b), (1000000, .blk b4 38 [.int .i64 (addV m.g (m.w side)).1, .int .i64 (addV m.g (m.w side)).2])] (by repeat (first | exact HS.nil | (apply HS.keep; (repeat (first | exact At.here | apply At.there))) | (apply HS.ro; (repeat (first | exact Rds.ro | exact Rds.own | apply Rds.there))))) (h := ?_)
   dsimp only [MS.ents, MS.blk, MS.cells, MS.tiesE]
   refine tw 0 ?_
   refine tw 1 ?_
   refine brH (g := 135) (by exact rfl) (fun hb3 => ?_) (fun hb3 => ?_)
   ·
    refine tkS 2 (h := ?_)
    refine tkS 3 (h := ?_)
    refine tkS 4 (h := ?_)
    refine tkS 5 (h := ?_)
    refine tkS 6 (h := ?_)
    refine tkS 7 (h := ?_)
    refine tkS 8 (h := ?_)
    refine tkS 9 (h := ?_)
    refine tkS 10 (h := ?_)
    refine tw 11 ?_
    refine dn (h := ?_)
    exact ct1n (by repeat (first | exact trivial | refine ⟨rfl, ?_⟩ | refine ⟨by rw [setEnds, ‹m.tie = true›]; rfl, ?_⟩ | refine ⟨by rw [setEnds, ‹m.tie = false›]; rfl, ?_⟩)) slz_
   ·
    refine tw 2 ?_
    refine tw 3 ?_
    refine tw 4 ?_
    refine tw 5 ?_
    refine tw 6 ?_
    refine tw 7 ?_
    refine tw 8 ?_
    refine one 9 (h := ?_)
    refine uz ?_
    refine cl0 (hc := fun w hS => C_score_leads _ _ _ (by assumption) w) (h := ?_)
    refine nx (h := ?_)
    refine tw 10 ?_
    refine tw 11 ?_
    refine dn (h := ?_)
    exact ct1n (by repeat (first | exact trivial | refine ⟨rfl, ?_⟩ | refine ⟨by rw [setEnds, ‹m.tie = true›]; rfl, ?_⟩ | refine ⟨by rw [setEnds, ‹m.tie = false›]; rfl, ?_⟩)) slz_
  refine czz (fun h4 => ?_) fun h4 => ?_
  ·
   have hse : setEnds m (m.w side) = true := h4
   refine ct (X := Option Addr × Nat) (fun _ => True) (fun _ => [(0, .pointer (some ⟨b, 0, none⟩)), (8, .int .i64 (m.w side)), (9, .pointer (some ⟨b4, 0, none⟩))]) (fun x => .blk b4 38 [.int .i64 (addV m.g (m.w side)).1, .int .i64 (addV m.g (m.w side)).2] :: (({ m with p := (0, 0), g := addV m.g (m.w side), gs := m.gs ++ [gameG m side], st := m.st ++ [addV m.g (m.w side)] } : MS).ents ⟨x.1, a.tA, gA1, x.2, a.tc, gc1⟩ b ++ R)) (h1 := ?_) (h2 := ?_)
   ·
    refine rgD (by kernel_rfl) [(14, ({ m with p := (0, 0), g := addV m.g (m.w side), gs := m.gs ++ [gameG m side] } : MS).blk ⟨a.sA, a.tA, gA1, a.sc, a.tc, gc1⟩ b), (1000000, .blk b4 38 [.int .i64 (addV m.g (m.w side)).1, .int .i64 (addV m.g (m.w side)).2])] (by repeat (first | exact HS.nil | (apply HS.keep; (repeat (first | exact At.here | apply At.there))) | (apply HS.ro; (repeat (first | exact Rds.ro | exact Rds.own | apply Rds.there))))) (h := ?_)
    dsimp only [MS.ents, MS.blk, MS.cells, MS.tiesE]
    refine tw 0 ?_
    refine tw 1 ?_
    refine tw 2 ?_
    refine tw 3 ?_
    refine tw 4 ?_
    refine tw 5 ?_
    refine tw 6 ?_
    refine tw 7 ?_
    refine one 8 (h := ?_)
    refine bs (h := fun b5 => ?_)
    refine nx (h := ?_)
    refine one 9 (h := ?_)
    first | refine ap (h := fun A2 c2 => ?_) | refine ap0 (h := fun A2 c2 => ?_)
    refine nx (h := ?_)
    refine tw 10 ?_
    refine tw 11 ?_
    refine tw 12 ?_
    refine tw 13 ?_
    refine one 14 (h := ?_)
    first | refine st (h := ?_) | refine stE (h := ?_)
    refine nx (h := ?_)
    refine dn (h := ?_)
    exact ctn ⟨_, _⟩ trivial sbz_ (by dsimp only [MS.ents, MS.blk, MS.cells, MS.tiesE]; rw [hsl, hse']; repeat (first | exact SubL.nil | (apply SubL.cons; (repeat (first | exact At.here | apply At.there))) | exact SubL.refl _ | apply SubL.skip))
   rintro ⟨sA1, sc1⟩ -
   dsimp only [MS.ents, MS.blk, MS.cells, MS.tiesE]
   refine sr ?_
   iterate 6 refine ww ?_
   first | refine stA (h := ?_) | refine stEA (h := ?_)
   refine nr ?_
   iterate 6 refine ww ?_
   refine cl0 (hc := fun w hS => C_score_add _ _ (by assumption) w) (h := ?_)
   iterate 2 refine ww ?_
   first | refine stA (h := ?_) | refine stEA (h := ?_)
   refine nq ?_
   refine sq ?_
   refine rgD (by kernel_rfl) [(1000000, ({ m with p := (0, 0), g := (0, 0), gs := m.gs ++ [gameG m side], st := m.st ++ [addV m.g (m.w side)], won := addV m.won (m.w side) } : MS).blk ⟨sA1, a.tA, gA1, sc1, a.tc, gc1⟩ b)] (by repeat (first | exact HS.nil | (apply HS.keep; (repeat (first | exact At.here | apply At.there))) | (apply HS.ro; (repeat (first | exact Rds.ro | exact Rds.own | apply Rds.there))))) (h := ?_)
   dsimp only [MS.ents, MS.blk, MS.cells, MS.tiesE]
   refine tw 0 ?_
   refine tw 1 ?_
   refine tw 2 ?_
   refine tw 3 ?_
   refine tw 4 ?_
   refine tw 5 ?_
   refine tw 6 ?_
   refine tw 7 ?_
   refine tw 8 ?_
   refine tw 9 ?_
   refine tw 10 ?_
   refine tw 11 ?_
   refine tw 12 ?_
   refine tw 13 ?_
   refine tw 14 ?_
   refine tw 15 ?_
   refine tw 16 ?_
   refine tw 17 ?_
   refine dn (h := ?_)
   refine q_seq ?_
   refine czz (fun h5 => ?_) fun h5 => ?_
   ·
    have hG : pointG m side = { m with gs := m.gs ++ [gameG m side], p := (0, 0), st := m.st ++ [addV m.g (m.w side)], g := (0, 0), won := addV m.won (m.w side), winner := m.w side } := by rw [pointG, hse, h5]; rfl
    refine rg ?_
    iterate 5 refine ww ?_
    first | refine st (h := ?_) | refine stE (h := ?_)
    refine nq ?_
    refine sq ?_
    refine sr ?_
    refine ww ?_
    refine cl0 (hc := fun w hS => C_score_sum _ (by assumption) w) (h := ?_)
    iterate 3 refine ww ?_
    apply brAnd 7 202 209 (by exact rfl)
    ·
     intro hb6
     iterate 6 refine uw ?_
     refine ww ?_
     exact mg (by repeat (first | exact trivial | refine ⟨rfl, ?_⟩ | refine ⟨by rw [hb6]; rfl, ?_⟩)) slz_
    ·
     intro hb6
     repeat (first | refine uz ?_ | refine kz ?_ | refine wz ?_)
     exact mg (by repeat (first | exact trivial | refine ⟨rfl, ?_⟩ | refine ⟨by rw [hb6]; rfl, ?_⟩)) slz_
    refine nq ?_
    refine czz (fun h7 => ?_) fun h7 => ?_
    ·
     have hE : pointE m side = { pointG m side with ends := m.ends + 1 } := by rw [pointE, hG]; dsimp only; rw [h7]; rfl
     refine rg ?_
     iterate 9 refine ww ?_
     first | refine st (h := ?_) | refine stE (h := ?_)
     refine nq ?_
     refine rg ?_
     refine ww ?_
     first
      | refine clT (hc := T_next ⟨m.f, m.first, m.st ++ [addV m.g (m.w side)], (0, 0), (0, 0), addV m.won (m.w side), m.server, _, m.balls, _, m.ties, m.gs ++ [gameG m side]⟩ ⟨sA1, a.tA, gA1, sc1, a.tc, gc1⟩ b hf hfs hb2 hbb) (h := fun a' _ => ?_)
      | refine clT (hc := T_next ⟨m.f, m.first, m.st, addV m.g (m.w side), (0, 0), m.won, m.server, _, m.balls, _, m.ties, m.gs ++ [gameG m side]⟩ ⟨a.sA, a.tA, gA1, a.sc, a.tc, gc1⟩ b hf hfs hb2 hbb) (h := fun a' _ => ?_)
     refine nl ?_
     refine q_end (hR := ?_)
     first
      | (rw [hpt]; exact fun w hS => ⟨a, trivial, rfl, hS.sub slz_⟩)
      | (rw [pointV, hw, cond_false, hE, hG]; exact fun w hS => ⟨a', trivial, rfl, hS.sub slz_⟩)
    ·
     have hE : pointE m side = pointG m side := by rw [pointE, hG]; dsimp only; rw [h7]; rfl
     refine skp ?_
     refine q_seq ?_
     refine rg ?_
     refine ww ?_
     first
      | refine clT (hc := T_next ⟨m.f, m.first, m.st ++ [addV m.g (m.w side)], (0, 0), (0, 0), addV m.won (m.w side), m.server, _, m.balls, _, m.ties, m.gs ++ [gameG m side]⟩ ⟨sA1, a.tA, gA1, sc1, a.tc, gc1⟩ b hf hfs hb2 hbb) (h := fun a' _ => ?_)
      | refine clT (hc := T_next ⟨m.f, m.first, m.st, addV m.g (m.w side), (0, 0), m.won, m.server, _, m.balls, _, m.ties, m.gs ++ [gameG m side]⟩ ⟨a.sA, a.tA, gA1, a.sc, a.tc, gc1⟩ b hf hfs hb2 hbb) (h := fun a' _ => ?_)
     refine nl ?_
     refine q_end (hR := ?_)
     first
      | (rw [hpt]; exact fun w hS => ⟨a, trivial, rfl, hS.sub slz_⟩)
      | (rw [pointV, hw, cond_false, hE, hG]; exact fun w hS => ⟨a', trivial, rfl, hS.sub slz_⟩)
   ·
    have hG : pointG m side = { m with gs := m.gs ++ [gameG m side], p := (0, 0), st := m.st ++ [addV m.g (m.w side)], g := (0, 0), won := addV m.won (m.w side) } := by rw [pointG, hse, h5]; rfl
    refine skp ?_
    refine q_seq ?_
    refine sq ?_
    refine sr ?_
    refine ww ?_
    refine cl0 (hc := fun w hS => C_score_sum _ (by assumption) w) (h := ?_)
    iterate 3 refine ww ?_
    apply brAnd 7 202 209 (by exact rfl)
    ·
     intro hb8
     iterate 6 refine uw ?_
     refine ww ?_
     exact mg (by repeat (first | exact trivial | refine ⟨rfl, ?_⟩ | refine ⟨by rw [hb8]; rfl, ?_⟩)) slz_
    ·
     intro hb8
     repeat (first | refine uz ?_ | refine kz ?_ | refine wz ?_)
     exact mg (by repeat (first | exact trivial | refine ⟨rfl, ?_⟩ | refine ⟨by rw [hb8]; rfl, ?_⟩)) slz_
    refine nq ?_
    refine czz (fun h9 => ?_) fun h9 => ?_
    ·
     have hE : pointE m side = { pointG m side with ends := m.ends + 1 } := by rw [pointE, hG]; dsimp only; rw [h9]; rfl
     refine rg ?_
     iterate 9 refine ww ?_
     first | refine st (h := ?_) | refine stE (h := ?_)
     refine nq ?_
     refine rg ?_
     refine ww ?_
     first
      | refine clT (hc := T_next ⟨m.f, m.first, m.st ++ [addV m.g (m.w side)], (0, 0), (0, 0), addV m.won (m.w side), m.server, _, m.balls, _, m.ties, m.gs ++ [gameG m side]⟩ ⟨sA1, a.tA, gA1, sc1, a.tc, gc1⟩ b hf hfs hb2 hbb) (h := fun a' _ => ?_)
      | refine clT (hc := T_next ⟨m.f, m.first, m.st, addV m.g (m.w side), (0, 0), m.won, m.server, _, m.balls, _, m.ties, m.gs ++ [gameG m side]⟩ ⟨a.sA, a.tA, gA1, a.sc, a.tc, gc1⟩ b hf hfs hb2 hbb) (h := fun a' _ => ?_)
     refine nl ?_
     refine q_end (hR := ?_)
     first
      | (rw [hpt]; exact fun w hS => ⟨a, trivial, rfl, hS.sub slz_⟩)
      | (rw [pointV, hw, cond_false, hE, hG]; exact fun w hS => ⟨a', trivial, rfl, hS.sub slz_⟩)
    ·
     have hE : pointE m side = pointG m side := by rw [pointE, hG]; dsimp only; rw [h9]; rfl
     refine skp ?_
     refine q_seq ?_
     refine rg ?_
     refine ww ?_
     first
      | refine clT (hc := T_next ⟨m.f, m.first, m.st ++ [addV m.g (m.w side)], (0, 0), (0, 0), addV m.won (m.w side), m.server, _, m.balls, _, m.ties, m.gs ++ [gameG m side]⟩ ⟨sA1, a.tA, gA1, sc1, a.tc, gc1⟩ b hf hfs hb2 hbb) (h := fun a' _ => ?_)
      | refine clT (hc := T_next ⟨m.f, m.first, m.st, addV m.g (m.w side), (0, 0), m.won, m.server, _, m.balls, _, m.ties, m.gs ++ [gameG m side]⟩ ⟨a.sA, a.tA, gA1, a.sc, a.tc, gc1⟩ b hf hfs hb2 hbb) (h := fun a' _ => ?_)
     refine nl ?_
     refine q_end (hR := ?_)
     first
      | (rw [hpt]; exact fun w hS => ⟨a, trivial, rfl, hS.sub slz_⟩)
      | (rw [pointV, hw, cond_false, hE, hG]; exact fun w hS => ⟨a', trivial, rfl, hS.sub slz_⟩)
  ·
   have hse : setEnds m (m.w side) = false := h4
   have hG : pointG m side = { m with gs := m.gs ++ [gameG m side], p := (0, 0), g := addV m.g (m.w side) } := by rw [pointG, hse]; rfl
   refine skp ?_
   refine q_seq ?_
   refine sq ?_
   refine sr ?_
   refine ww ?_
   refine cl0 (hc := fun w hS => C_score_sum _ (by assumption) w) (h := ?_)
   iterate 3 refine ww ?_
   apply brAnd 7 202 209 (by exact rfl)
   ·
    intro hb10
    iterate 6 refine uw ?_
    refine ww ?_
    exact mg (by repeat (first | exact trivial | refine ⟨rfl, ?_⟩ | refine ⟨by rw [hb10]; rfl, ?_⟩)) slz_
   ·
    intro hb10
    repeat (first | refine uz ?_ | refine kz ?_ | refine wz ?_)
    exact mg (by repeat (first | exact trivial | refine ⟨rfl, ?_⟩ | refine ⟨by rw [hb10]; rfl, ?_⟩)) slz_
   refine nq ?_
   refine czz (fun h11 => ?_) fun h11 => ?_
   ·
    have hE : pointE m side = { pointG m side with ends := m.ends + 1 } := by rw [pointE, hG]; dsimp only; rw [h11]; rfl
    refine rg ?_
    iterate 9 refine ww ?_
    first | refine st (h := ?_) | refine stE (h := ?_)
    refine nq ?_
    refine rg ?_
    refine ww ?_
    first
     | refine clT (hc := T_next ⟨m.f, m.first, m.st ++ [addV m.g (m.w side)], (0, 0), (0, 0), addV m.won (m.w side), m.server, _, m.balls, _, m.ties, m.gs ++ [gameG m side]⟩ ⟨sA1, a.tA, gA1, sc1, a.tc, gc1⟩ b hf hfs hb2 hbb) (h := fun a' _ => ?_)
     | refine clT (hc := T_next ⟨m.f, m.first, m.st, addV m.g (m.w side), (0, 0), m.won, m.server, _, m.balls, _, m.ties, m.gs ++ [gameG m side]⟩ ⟨a.sA, a.tA, gA1, a.sc, a.tc, gc1⟩ b hf hfs hb2 hbb) (h := fun a' _ => ?_)
    refine nl ?_
    refine q_end (hR := ?_)
    first
     | (rw [hpt]; exact fun w hS => ⟨a, trivial, rfl, hS.sub slz_⟩)
     | (rw [pointV, hw, cond_false, hE, hG]; exact fun w hS => ⟨a', trivial, rfl, hS.sub slz_⟩)
   ·
    have hE : pointE m side = pointG m side := by rw [pointE, hG]; dsimp only; rw [h11]; rfl
    refine skp ?_
    refine q_seq ?_
    refine rg ?_
    refine ww ?_
    first
     | refine clT (hc := T_next ⟨m.f, m.first, m.st ++ [addV m.g (m.w side)], (0, 0), (0, 0), addV m.won (m.w side), m.server, _, m.balls, _, m.ties, m.gs ++ [gameG m side]⟩ ⟨sA1, a.tA, gA1, sc1, a.tc, gc1⟩ b hf hfs hb2 hbb) (h := fun a' _ => ?_)
     | refine clT (hc := T_next ⟨m.f, m.first, m.st, addV m.g (m.w side), (0, 0), m.won, m.server, _, m.balls, _, m.ties, m.gs ++ [gameG m side]⟩ ⟨a.sA, a.tA, gA1, a.sc, a.tc, gc1⟩ b hf hfs hb2 hbb) (h := fun a' _ => ?_)
    refine nl ?_
    refine q_end (hR := ?_)
    first
     | (rw [hpt]; exact fun w hS => ⟨a, trivial, rfl, hS.sub slz_⟩)
     | (rw [pointV, hw, cond_false, hE, hG]; exact fun w hS => ⟨a', trivial, rfl, hS.sub slz_⟩)
end Go.Proofs.YtpmmgljndceplaaGreat

namespace Go.Proofs.YtpmmgljndceplaaGreat
open Go Go.RowKit

def sideBad (s : Int) : Bool := !decide (s = 0) && !decide (s = 1)
def playTo (f : Fmt) (first : Int) (xs : List Int) : Nat → Option MS
 | 0 => some (beginV f first)
 | k + 1 => match playTo f first xs k, xs[k]? with
  | some m, some s => bif sideBad s || decide (0 ≤ m.winner) then none else some (pointV m s)
  | _, _ => none
def preE (f : Fmt) (first : Int) (n : Nat) : Int := bif !decide (chkF f = 0) then chkF f else bif sideBad first then 1 else bif decide ((600 : Int) < n) then 2 else 0
def playO (f : Fmt) (first : Int) (xs : List Int) : Option MS := bif !decide (preE f first xs.length = 0) then none else playTo f first xs xs.length
def playE (f : Fmt) (first : Int) (xs : List Int) : Int := bif !decide (preE f first xs.length = 0) then preE f first xs.length else match playTo f first xs xs.length with | some _ => 0 | none => 11
theorem playTo_succ {f : Fmt} {first : Int} {xs : List Int} {k : Nat} {m : MS} {s : Int} (h : playTo f first xs k = some m) (hs : xs[k]? = some s) : playTo f first xs (k + 1) = bif sideBad s || decide (0 ≤ m.winner) then none else some (pointV m s) := by rw [playTo, h, hs]
theorem playTo_none {f : Fmt} {first : Int} {xs : List Int} {j : Nat} (h : playTo f first xs j = none) : ∀ {k : Nat}, j ≤ k → playTo f first xs k = none
  | 0, hk => by obtain rfl : j = 0 := by omega
                exact h
  | k + 1, hk => by
    by_cases e : j = k + 1
    · subst e; exact h
    · rw [playTo, playTo_none h (k := k) (by omega)]
theorem chkF_ok {f : Fmt} (h : (!decide (chkF f = 0)) = false) : f.Ok := by
 cases hb : fmtOk f
 ·
  simp [chkF, hb] at h
 ·
  exact fmt_ok hb
theorem side_ok {s : Int} (h : sideBad s = false) : s = 0 ∨ s = 1 := by
 simp only [sideBad, Bool.and_eq_false_iff, Bool.not_eq_false', decide_eq_true_eq] at h
 exact h

theorem nextV_bd {m : MS} {K : Int} (hf : m.f.Ok) (hfs : m.first = 0 ∨ m.first = 1) (hk : 0 ≤ K ∧ K ≤ 1000) (ht : (m.ties.length : Int) ≤ K) (ht1 : 0 ≤ m.winner → 1 ≤ (m.ties.length : Int))
  (hg : (0 ≤ m.g.1 ∧ m.g.1 ≤ K) ∧ 0 ≤ m.g.2 ∧ m.g.2 ≤ K) (hp : (0 ≤ m.p.1 ∧ m.p.1 ≤ K) ∧ 0 ≤ m.p.2 ∧ m.p.2 ≤ K) (hw : (0 ≤ m.won.1 ∧ m.won.1 ≤ K) ∧ 0 ≤ m.won.2 ∧ m.won.2 ≤ K) (he : 0 ≤ m.ends ∧ m.ends ≤ K) (hb : 0 ≤ m.balls ∧ m.balls ≤ K) (hs : (m.st.length : Int) ≤ K) (hgs : (m.gs.length : Int) ≤ K) : (nextV m).Bd K := by
 unfold nextV
 cases hd : decide (0 ≤ m.winner)
 ·
  have hl : ((tiesV m).length : Int) = m.ties.length + 1 := by simp [tiesV]
  refine ⟨hf, hfs, hk, ?_, ?_, hg, hp, hw, he, ?_, hs, hgs⟩
  ·
   simp only [cond_false]; omega
  ·
   simp only [cond_false]; omega
  ·
   simp only [cond_false]
   cases freshV m.f (tiesV m) <;> simp only [cond_true, cond_false] <;> omega
 ·
  have h1 := ht1 (by simpa using hd)
  refine ⟨hf, hfs, hk, h1, ?_, hg, hp, hw, he, ?_, hs, hgs⟩
  ·
   simp only [cond_true]; omega
  ·
   simp only [cond_true]; omega
theorem beginV_bd {f : Fmt} {first : Int} (hf : f.Ok) (h1 : first = 0 ∨ first = 1) : (beginV f first).Bd 0 :=
 nextV_bd hf h1 (by omega) (by simp [begin0]) (by simp [begin0]) (by simp [begin0]) (by simp [begin0]) (by simp [begin0]) (by simp [begin0]) (by simp [begin0]) (by simp [begin0]) (by simp [begin0])
theorem pointV_bd {m : MS} {K side : Int} (h : m.Bd K) (hK : K < 1000) : (pointV m side).Bd (K + 1) := by
 obtain ⟨hf, hfs, hk, ht1, ht2, hg, hp, hw, he, hb, hs, hgs⟩ := h
 have hp' := addV_bd (side := side) hp
 have hg' := addV_bd (side := m.w side) hg
 have hw' := addV_bd (side := m.w side) hw
 unfold pointV
 cases hd : decide (m.w side < 0)
 ·
  simp only [cond_false]
  have hz : (0 ≤ (0 : Int) ∧ (0 : Int) ≤ K + 1) ∧ (0 : Int) ≤ 0 ∧ (0 : Int) ≤ K + 1 := by omega
  have hends : ∀ c : Bool, 0 ≤ (bif c then m.ends + 1 else m.ends) ∧ (bif c then m.ends + 1 else m.ends) ≤ K + 1 := fun c => by cases c <;> simp only [cond_true, cond_false] <;> omega
  have hl : ((m.gs ++ [gameG m side]).length : Int) ≤ K + 1 := by simp; omega
  have hl2 : ((m.st ++ [addV m.g (m.w side)]).length : Int) ≤ K + 1 := by simp; omega
  unfold pointE pointG
  cases setEnds m (m.w side)
  ·
   simp only [cond_false]
   exact nextV_bd hf hfs (by omega) (by dsimp only; omega) (fun _ => ht1) hg' hz (by dsimp only; omega) (hends _) (by dsimp only; omega) (by dsimp only; omega) hl
  ·
   simp only [cond_true]
   exact nextV_bd hf hfs (by omega) (by dsimp only; omega) (fun _ => ht1) hz hz hw' (hends _) (by dsimp only; omega) hl2 hl
 ·
  simp only [cond_true, pointN]
  refine ⟨hf, hfs, by omega, ht1, by dsimp only; omega, by dsimp only; omega, hp', by dsimp only; omega, ?_, by dsimp only; omega, by dsimp only; omega, by dsimp only; omega⟩
  dsimp only
  cases m.tie && decide (((addV m.p side).1 + (addV m.p side).2) % 6 = 0) <;> simp only [cond_true, cond_false] <;> omega
structure PZ where
 (k : Nat) (m : MS) (a : MA)

set_option maxRecDepth 100000 in
theorem C_play_none (f : Fmt) (first : Int) (xs : List Int) (A : Option Addr) (n c : Nat) (w : World) (h : Rd w A 1 n (encI xs)) (hn : n ≤ 9223372036854775807) (hO : playO f first xs = none) :
  C0 Tryz.prog 30 [f.val, .int .i64 first, .slice A n c] w (.tuple #[.pointer none, .int .i64 (playE f first xs)]) := by
 have hlen : xs.length = n := by have := h.len; rwa [encI_len] at this
 refine ⟨en Tryz.func30 Tryz.ntmps30 ((St.init w).share (e := .ro A 1 n (encI xs)) h rfl rfl rfl) (h := fun F => ?_)⟩
 refine sr ?_
 refine bxA (h := fun b0 => ?_)
 iterate 2 refine ww ?_
 refine nq ?_
 refine sq ?_
 refine sr ?_
 refine ww ?_
 refine cl0 (hc := fun w hS => C_score_Check _ w) (h := ?_)
 refine ww ?_
 refine nr ?_
 iterate 2 refine ww ?_
 refine nq ?_
 refine czz (fun h0 => ?_) fun h0 => ?_
 ·
  have hE : playE f first xs = chkF f := by simp only [playE, preE, h0, cond_true]
  refine sr ?_
  iterate 3 refine ww ?_
  refine nq ?_
  refine rtn ?_
  refine q_then_ret ?_
  refine q_ret (hR := ?_)
  rw [hE]
  exact fun w hS => ⟨rfl, hS.sub slz_⟩
 ·
  have hf := chkF_ok h0
  have hc0 : (!decide (chkF f = 0)) = false := h0
  refine skp ?_
  refine q_seq ?_
  refine sq ?_
  refine sr ?_
  iterate 3 refine ww ?_
  apply brAnd 3 19 22 (by exact rfl)
  ·
   intro hb1
   iterate 2 refine uw ?_
   refine ww ?_
   exact mg (by repeat (first | exact trivial | refine ⟨rfl, ?_⟩ | refine ⟨by rw [hb1]; rfl, ?_⟩)) slz_
  ·
   intro hb1
   repeat (first | refine uz ?_ | refine kz ?_ | refine wz ?_)
   exact mg (by repeat (first | exact trivial | refine ⟨rfl, ?_⟩ | refine ⟨by rw [hb1]; rfl, ?_⟩)) slz_
  refine nq ?_
  refine czz (fun h2 => ?_) fun h2 => ?_
  ·
   have hE : playE f first xs = 1 := by
    have h' : sideBad first = true := h2
    simp only [playE, preE, hc0, h', cond_true, cond_false]; rfl
   refine sr ?_
   iterate 2 refine ww ?_
   refine nq ?_
   refine rtn ?_
   refine q_then_ret ?_
   refine q_ret (hR := ?_)
   rw [hE]
   exact fun w hS => ⟨rfl, hS.sub slz_⟩
  ·
   have hfs := side_ok (s := first) h2
   have hs0 : sideBad first = false := h2
   refine skp ?_
   refine q_seq ?_
   refine sq ?_
   refine sr ?_
   iterate 3 refine ww ?_
   refine nq ?_
   refine czz (fun h3 => ?_) fun h3 => ?_
   ·
    have hE : playE f first xs = 2 := by
     have h' : decide ((600 : Int) < xs.length) = true := by rw [hlen]; exact h3
     simp only [playE, preE, hc0, hs0, h', cond_true, cond_false]; rfl
    refine sr ?_
    iterate 2 refine ww ?_
    refine nq ?_
    refine rtn ?_
    refine q_then_ret ?_
    refine q_ret (hR := ?_)
    rw [hE]
    exact fun w hS => ⟨rfl, hS.sub slz_⟩
   ·
    have hn6 : n ≤ 600 := by simp only [decide_eq_false_iff_not] at h3; omega
    have hp0 : preE f first xs.length = 0 := by
     have h' : decide ((600 : Int) < xs.length) = false := by rw [hlen]; exact h3
     simp only [preE, hc0, hs0, h', cond_false]
    refine skp ?_
    refine q_seq ?_
    refine sr ?_
    iterate 3 refine ww ?_
    refine cl (hc := fun w hS => C_score_begin f first hf (by omega) w) (h := fun x1 _ => ?_)
    refine ww ?_
    refine nq ?_
    refine sq ?_
    refine sr ?_
    iterate 3 refine ww ?_
    refine nq ?_
    refine bk ?_
    refine lp (X := PZ) (I := fun z => z.k ≤ n ∧ playTo f first xs z.k = some z.m ∧ z.m.Bd z.k) (le := fun z => [(9, .pointer (some ⟨x1.1, 0, none⟩)), (30, .slice A n c), (31, .int .i64 n), (32, .int .i64 z.k)]) (Le := fun z => z.m.ents z.a x1.1 ++ [.ro A 1 n (encI xs)]) (μ := fun z => n - z.k) ⟨0, beginV f first, x1.2⟩ ⟨Nat.zero_le _, rfl, beginV_bd hf hfs⟩ sbz_ slz_ (fun z hz => ?_)
    obtain ⟨hzk, hzr, hzb⟩ := hz
    refine sr ?_
    refine ww ?_
    refine nq ?_
    refine sq ?_
    refine czz (fun h4 => ?_) fun h4 => ?_
    ·
     have hkn : z.k < n := by simp only [decide_eq_true_eq] at h4; omega
     obtain ⟨s, hs⟩ : ∃ s, xs[z.k]? = some s := ⟨_, List.getElem?_eq_getElem (by omega)⟩
     have hse := encI_at hs
     have hstep := playTo_succ hzr hs
     refine skp ?_
     refine q_seq ?_
     refine sq ?_
     refine bk ?_
     refine sr ?_
     refine wy (ix (hb := by omega)) ?_
     refine wy (ldE (hk := hse)) ?_
     refine ww ?_
     refine nq ?_
     refine sq ?_
     refine sr ?_
     iterate 3 refine ww ?_
     apply brAnd 3 38 41 (by exact rfl)
     ·
      intro hb5
      iterate 2 refine uw ?_
      refine ww ?_
      exact mg (by repeat (first | exact trivial | refine ⟨rfl, ?_⟩ | refine ⟨by rw [hb5]; rfl, ?_⟩)) slz_
     ·
      intro hb5
      repeat (first | refine uz ?_ | refine kz ?_ | refine wz ?_)
      exact mg (by repeat (first | exact trivial | refine ⟨rfl, ?_⟩ | refine ⟨by rw [hb5]; rfl, ?_⟩)) slz_
     refine ww ?_
     apply brOr 7 42 49 (by exact rfl)
     ·
      intro hb6
      iterate 6 refine uw ?_
      refine ww ?_
      exact mg (by repeat (first | exact trivial | refine ⟨rfl, ?_⟩ | refine ⟨by rw [hb6]; rfl, ?_⟩)) slz_
     ·
      intro hb6
      repeat (first | refine uz ?_ | refine kz ?_ | refine wz ?_)
      exact mg (by repeat (first | exact trivial | refine ⟨rfl, ?_⟩ | refine ⟨by rw [hb6]; rfl, ?_⟩)) slz_
     refine nq ?_
     refine czz (fun h7 => ?_) fun h7 => ?_
     ·
      have hE : playE f first xs = 11 := by
       have h' : (sideBad s || decide (0 ≤ z.m.winner)) = true := h7
       rw [h'] at hstep
       have := playTo_none (k := xs.length) hstep (by omega)
       rw [playE, hp0, this]; rfl
      refine sr ?_
      iterate 2 refine ww ?_
      refine nq ?_
      refine rtn ?_
      refine q_then_ret ?_
      refine q_blk_ret ?_
      iterate 2 refine q_then_ret ?_
      refine q_blk_ret ?_
      refine q_then_ret ?_
      refine q_ret (hR := ?_)
      rw [hE]
      exact fun w hS => ⟨rfl, hS.sub slz_⟩
     ·
      have hnx : playTo f first xs (z.k + 1) = some (pointV z.m s) := by
       have h' : (sideBad s || decide (0 ≤ z.m.winner)) = false := h7
       rw [hstep, h']; rfl
      refine skp ?_
      refine q_seq ?_
      refine rg ?_
      iterate 2 refine ww ?_
      refine clT (hc := T_point z.m z.a x1.1 s z.k hzb) (h := fun x2 _ => ?_)
      refine nl ?_
      refine q_blk_norm ?_
      refine q_seq ?_
      refine rg ?_
      iterate 2 refine ww ?_
      refine nl ?_
      refine rn (x := z) ⟨z.k + 1, pointV z.m s, x2⟩ ⟨by dsimp only; omega, hnx, by have := pointV_bd (side := s) hzb (by omega); simpa using this⟩ (by dsimp only; omega) sbz_ slz_
    ·
     exfalso
     have hkn : z.k = n := by simp only [decide_eq_false_iff_not] at h4; omega
     rw [playO, hp0, hlen, ← hkn, hzr] at hO
     cases hO
set_option maxRecDepth 100000 in
theorem C_play_some (f : Fmt) (first : Int) (xs : List Int) (A : Option Addr) (n c : Nat) (w : World) (h : Rd w A 1 n (encI xs)) (hn : n ≤ 9223372036854775807) {m : MS} (hO : playO f first xs = some m) :
  CR Tryz.prog 30 [f.val, .int .i64 first, .slice A n c] w (fun _ : Nat × MA => True) (fun x => .tuple #[.pointer (some ⟨x.1, 0, none⟩), .int .i64 0]) (fun x => m.ents x.2 x.1) := by
 have hlen : xs.length = n := by have := h.len; rwa [encI_len] at this
 refine ⟨en Tryz.func30 Tryz.ntmps30 ((St.init w).share (e := .ro A 1 n (encI xs)) h rfl rfl rfl) (h := fun F => ?_)⟩
 refine sr ?_
 refine bxA (h := fun b0 => ?_)
 iterate 2 refine ww ?_
 refine nq ?_
 refine sq ?_
 refine sr ?_
 refine ww ?_
 refine cl0 (hc := fun w hS => C_score_Check _ w) (h := ?_)
 refine ww ?_
 refine nr ?_
 iterate 2 refine ww ?_
 refine nq ?_
 refine czz (fun h0 => ?_) fun h0 => ?_
 ·
  exfalso
  have hp : (!decide (preE f first xs.length = 0)) = true := by
   have h' : (!decide (chkF f = 0)) = true := h0
   simp only [preE, h', cond_true]
  rw [playO, hp] at hO
  cases hO
 ·
  have hf := chkF_ok h0
  have hc0 : (!decide (chkF f = 0)) = false := h0
  refine skp ?_
  refine q_seq ?_
  refine sq ?_
  refine sr ?_
  iterate 3 refine ww ?_
  apply brAnd 3 19 22 (by exact rfl)
  ·
   intro hb1
   iterate 2 refine uw ?_
   refine ww ?_
   exact mg (by repeat (first | exact trivial | refine ⟨rfl, ?_⟩ | refine ⟨by rw [hb1]; rfl, ?_⟩)) slz_
  ·
   intro hb1
   repeat (first | refine uz ?_ | refine kz ?_ | refine wz ?_)
   exact mg (by repeat (first | exact trivial | refine ⟨rfl, ?_⟩ | refine ⟨by rw [hb1]; rfl, ?_⟩)) slz_
  refine nq ?_
  refine czz (fun h2 => ?_) fun h2 => ?_
  ·
   exfalso
   have hp : (!decide (preE f first xs.length = 0)) = true := by
    have h' : sideBad first = true := h2
    simp only [preE, hc0, h', cond_true, cond_false]; rfl
   rw [playO, hp] at hO
   cases hO
  ·
   have hfs := side_ok (s := first) h2
   have hs0 : sideBad first = false := h2
   refine skp ?_
   refine q_seq ?_
   refine sq ?_
   refine sr ?_
   iterate 3 refine ww ?_
   refine nq ?_
   refine czz (fun h3 => ?_) fun h3 => ?_
   ·
    exfalso
    have hp : (!decide (preE f first xs.length = 0)) = true := by
     have h' : decide ((600 : Int) < xs.length) = true := by rw [hlen]; exact h3
     simp only [preE, hc0, hs0, h', cond_true, cond_false]; rfl
    rw [playO, hp] at hO
    cases hO
   ·
    have hn6 : n ≤ 600 := by simp only [decide_eq_false_iff_not] at h3; omega
    have hp0 : preE f first xs.length = 0 := by
     have h' : decide ((600 : Int) < xs.length) = false := by rw [hlen]; exact h3
     simp only [preE, hc0, hs0, h', cond_false]
    refine skp ?_
    refine q_seq ?_
    refine sr ?_
    iterate 3 refine ww ?_
    refine cl (hc := fun w hS => C_score_begin f first hf (by omega) w) (h := fun x1 _ => ?_)
    refine ww ?_
    refine nq ?_
    refine sq ?_
    refine sr ?_
    iterate 3 refine ww ?_
    refine nq ?_
    refine bk ?_
    refine lp (X := PZ) (I := fun z => z.k ≤ n ∧ playTo f first xs z.k = some z.m ∧ z.m.Bd z.k) (le := fun z => [(9, .pointer (some ⟨x1.1, 0, none⟩)), (30, .slice A n c), (31, .int .i64 n), (32, .int .i64 z.k)]) (Le := fun z => z.m.ents z.a x1.1 ++ [.ro A 1 n (encI xs)]) (μ := fun z => n - z.k) ⟨0, beginV f first, x1.2⟩ ⟨Nat.zero_le _, rfl, beginV_bd hf hfs⟩ sbz_ slz_ (fun z hz => ?_)
    obtain ⟨hzk, hzr, hzb⟩ := hz
    refine sr ?_
    refine ww ?_
    refine nq ?_
    refine sq ?_
    refine czz (fun h4 => ?_) fun h4 => ?_
    ·
     have hkn : z.k < n := by simp only [decide_eq_true_eq] at h4; omega
     obtain ⟨s, hs⟩ : ∃ s, xs[z.k]? = some s := ⟨_, List.getElem?_eq_getElem (by omega)⟩
     have hse := encI_at hs
     have hstep := playTo_succ hzr hs
     refine skp ?_
     refine q_seq ?_
     refine sq ?_
     refine bk ?_
     refine sr ?_
     refine wy (ix (hb := by omega)) ?_
     refine wy (ldE (hk := hse)) ?_
     refine ww ?_
     refine nq ?_
     refine sq ?_
     refine sr ?_
     iterate 3 refine ww ?_
     apply brAnd 3 38 41 (by exact rfl)
     ·
      intro hb5
      iterate 2 refine uw ?_
      refine ww ?_
      exact mg (by repeat (first | exact trivial | refine ⟨rfl, ?_⟩ | refine ⟨by rw [hb5]; rfl, ?_⟩)) slz_
     ·
      intro hb5
      repeat (first | refine uz ?_ | refine kz ?_ | refine wz ?_)
      exact mg (by repeat (first | exact trivial | refine ⟨rfl, ?_⟩ | refine ⟨by rw [hb5]; rfl, ?_⟩)) slz_
     refine ww ?_
     apply brOr 7 42 49 (by exact rfl)
     ·
      intro hb6
      iterate 6 refine uw ?_
      refine ww ?_
      exact mg (by repeat (first | exact trivial | refine ⟨rfl, ?_⟩ | refine ⟨by rw [hb6]; rfl, ?_⟩)) slz_
     ·
      intro hb6
      repeat (first | refine uz ?_ | refine kz ?_ | refine wz ?_)
      exact mg (by repeat (first | exact trivial | refine ⟨rfl, ?_⟩ | refine ⟨by rw [hb6]; rfl, ?_⟩)) slz_
     refine nq ?_
     refine czz (fun h7 => ?_) fun h7 => ?_
     ·
      exfalso
      have h' : (sideBad s || decide (0 ≤ z.m.winner)) = true := h7
      rw [h'] at hstep
      have := playTo_none (k := xs.length) hstep (by omega)
      rw [playO, hp0, this] at hO
      cases hO
     ·
      have hnx : playTo f first xs (z.k + 1) = some (pointV z.m s) := by
       have h' : (sideBad s || decide (0 ≤ z.m.winner)) = false := h7
       rw [hstep, h']; rfl
      refine skp ?_
      refine q_seq ?_
      refine rg ?_
      iterate 2 refine ww ?_
      refine clT (hc := T_point z.m z.a x1.1 s z.k hzb) (h := fun x2 _ => ?_)
      refine nl ?_
      refine q_blk_norm ?_
      refine q_seq ?_
      refine rg ?_
      iterate 2 refine ww ?_
      refine nl ?_
      refine rn (x := z) ⟨z.k + 1, pointV z.m s, x2⟩ ⟨by dsimp only; omega, hnx, by have := pointV_bd (side := s) hzb (by omega); simpa using this⟩ (by dsimp only; omega) sbz_ slz_
    ·
     have hkn : z.k = n := by simp only [decide_eq_false_iff_not] at h4; omega
     rw [playO, hp0, hlen, ← hkn, hzr] at hO
     obtain rfl : z.m = m := by simpa using hO
     refine et ?_
     iterate 2 refine q_then_exit ?_
     refine q_blk_hit ?_
     refine q_seq ?_
     refine sr ?_
     iterate 3 refine ww ?_
     refine nq ?_
     refine rtn ?_
     refine q_ret (hR := ?_)
     exact fun w hS => ⟨(x1.1, z.a), trivial, rfl, hS.sub slz_⟩

structure Sc where
 (st : List Pr) (g p : Pr) (server ends balls winner : Int)
def MS.sc (m : MS) : Sc := ⟨m.st, m.g, m.p, m.server, m.ends, m.balls, m.winner⟩
def scO (o : Option MS) : Sc := match o with | some m => m.sc | none => ⟨[], (0, 0), (0, 0), 0, 0, 0, 0⟩
def gsO (o : Option MS) : List Gm := match o with | some m => m.gs | none => []
abbrev Sc.cells (s : Sc) (A : Option Addr) (c : Nat) : List Value := [.slice A s.st.length c, .int .i64 s.g.1, .int .i64 s.g.2, .int .i64 s.p.1, .int .i64 s.p.2, .int .i64 s.server, .int .i64 s.ends, .int .i64 s.balls, .int .i64 s.winner]
abbrev Sc.val (s : Sc) (A : Option Addr) (c : Nat) : Value := .agg #[.slice A s.st.length c, .int .i64 s.g.1, .int .i64 s.g.2, .int .i64 s.p.1, .int .i64 s.p.2, .int .i64 s.server, .int .i64 s.ends, .int .i64 s.balls, .int .i64 s.winner]
theorem playE_none {f : Fmt} {first : Int} {xs : List Int} (h : playO f first xs = none) : ¬ playE f first xs = 0 := by
 unfold playO at h
 unfold playE
 cases hp : !decide (preE f first xs.length = 0)
 ·
  rw [hp] at h
  simp only [cond_false] at h ⊢
  rw [h]; decide
 ·
  simp only [cond_true]
  simpa using hp
theorem playE_some {f : Fmt} {first : Int} {xs : List Int} {m : MS} (h : playO f first xs = some m) : playE f first xs = 0 := by
 unfold playO at h
 unfold playE
 cases hp : !decide (preE f first xs.length = 0)
 ·
  rw [hp] at h
  simp only [cond_false] at h ⊢
  rw [h]
 ·
  rw [hp] at h; cases h

set_option maxRecDepth 100000 in
theorem C_score_Play_n (f : Fmt) (first : Int) (xs : List Int) (A : Option Addr) (n c : Nat) (w : World) (h : Rd w A 1 n (encI xs)) (hn : n ≤ 9223372036854775807) (hO : playO f first xs = none) :
  CR Tryz.prog 10 [f.val, .int .i64 first, .slice A n c] w (fun _ : Option Addr × Nat => True) (fun x => .tuple #[(scO (playO f first xs)).val x.1 x.2, .int .i64 (playE f first xs)]) (fun x => [.own x.1 x.2 38 2 (scO (playO f first xs)).st.length (encP (scO (playO f first xs)).st)]) := by
 have hE := playE_none hO
 rw [hO]
 refine ⟨en Tryz.func10 Tryz.ntmps10 ((St.init w).share (e := .ro A 1 n (encI xs)) h rfl rfl rfl) (h := fun F => ?_)⟩
 refine sr ?_
 refine bxA (h := fun b0 => ?_)
 refine al (h := fun b1 => ?_)
 refine ww ?_
 refine nr ?_
 iterate 3 refine ww ?_
 refine cl0 (hc := fun w hS => C_play_none f first xs A n c w (hS.get rdz_) hn hO) (h := ?_)
 iterate 5 refine ww ?_
 refine nq ?_
 iterate 2 refine sq ?_
 refine WC.nilOwn 38 2 (h := ?_)
 refine rg ?_
 iterate 2 refine ww ?_
 refine nq ?_
 refine czz (fun h0 => ?_) fun h0 => ?_
 ·
  refine sr ?_
  iterate 2 refine ww ?_
  first | refine stA (h := ?_) | refine stEA (h := ?_)
  refine ww ?_
  refine nq ?_
  refine rtn ?_
  refine q_then_ret ?_
  refine q_ret (hR := ?_)
  exact fun w hS => ⟨(none, 0), trivial, rfl, hS.sub slz_⟩
 ·
  exfalso
  simp at h0
  exact hE h0

set_option maxRecDepth 100000 in
theorem C_score_Play_s (f : Fmt) (first : Int) (xs : List Int) (A : Option Addr) (n c : Nat) (w : World) (h : Rd w A 1 n (encI xs)) (hn : n ≤ 9223372036854775807) {m : MS} (hO : playO f first xs = some m) :
  CR Tryz.prog 10 [f.val, .int .i64 first, .slice A n c] w (fun _ : Option Addr × Nat => True) (fun x => .tuple #[(scO (playO f first xs)).val x.1 x.2, .int .i64 (playE f first xs)]) (fun x => [.own x.1 x.2 38 2 (scO (playO f first xs)).st.length (encP (scO (playO f first xs)).st)]) := by
 have hE := playE_some hO
 rw [hE, hO]
 refine ⟨en Tryz.func10 Tryz.ntmps10 ((St.init w).share (e := .ro A 1 n (encI xs)) h rfl rfl rfl) (h := fun F => ?_)⟩
 refine sr ?_
 refine bxA (h := fun b0 => ?_)
 refine al (h := fun b1 => ?_)
 refine ww ?_
 refine nr ?_
 iterate 3 refine ww ?_
 refine cl (hc := fun w hS => C_play_some f first xs A n c w (hS.get rdz_) hn hO) (h := fun x _ => ?_)
 iterate 5 refine ww ?_
 refine nq ?_
 refine sq ?_
 refine sr ?_
 iterate 2 refine ww ?_
 refine nq ?_
 refine czz (fun h0 => ?_) fun h0 => ?_
 ·
  exact absurd h0 (by decide)
 ·
  refine skp ?_
  refine q_seq ?_
  refine sr ?_
  iterate 4 refine ww ?_
  first | refine stA (h := ?_) | refine stEA (h := ?_)
  refine ww ?_
  refine nq ?_
  refine rtn ?_
  refine q_ret (hR := ?_)
  exact fun w hS => ⟨(x.2.sA, x.2.sc), trivial, rfl, hS.sub slz_⟩

theorem C_score_Play (f : Fmt) (first : Int) (xs : List Int) (A : Option Addr) (n c : Nat) (w : World) (h : Rd w A 1 n (encI xs)) (hn : n ≤ 9223372036854775807) :
  CR Tryz.prog 10 [f.val, .int .i64 first, .slice A n c] w (fun _ : Option Addr × Nat => True) (fun x => .tuple #[(scO (playO f first xs)).val x.1 x.2, .int .i64 (playE f first xs)]) (fun x => [.own x.1 x.2 38 2 (scO (playO f first xs)).st.length (encP (scO (playO f first xs)).st)]) := by
 cases hO : playO f first xs with
 | none => have := C_score_Play_n f first xs A n c w h hn hO; rwa [hO] at this
 | some m => have := C_score_Play_s f first xs A n c w h hn hO; rwa [hO] at this

end Go.Proofs.YtpmmgljndceplaaGreat

namespace Go.Proofs.YtpmmgljndceplaaGreat
open Go Go.RowKit

abbrev Stn := Int × Bool
abbrev Tb := List (Pr × Stn)
def tget : Tb → Pr → Option Stn
 | [], _ => none
 | e :: t, p => if p = e.1 then some e.2 else tget t p
def tput : Tb → Pr → Stn → Tb
 | [], p, v => [(p, v)]
 | e :: t, p, v => if p = e.1 then (p, v) :: t else e :: tput t p v
abbrev encS (v : Stn) : Value := .agg #[.int .i64 v.1, .bool v.2]
abbrev keyP (p : Pr) : List Fl := [.i p.1, .i p.2]
def encT (t : Tb) : List (List Fl × Value) := t.map fun e => (keyP e.1, encS e.2)
theorem keyP_inj {p q : Pr} : keyP p = keyP q ↔ p = q := by
 simp only [List.cons.injEq, Fl.i.injEq, and_true]
 exact ⟨fun ⟨a, b⟩ => Prod.ext a b, fun h => by rw [h]; exact ⟨rfl, rfl⟩⟩
theorem encT_shape (t : Tb) : ∀ p ∈ encT t, shapeOf p.1 = [false, false] := fun p hp => by
 obtain ⟨e, _, rfl⟩ := List.mem_map.1 hp
 rfl
theorem lkp_enc : ∀ (t : Tb) (p : Pr), lkp (encT t) (keyP p) = (tget t p).map encS
 | [], p => rfl
 | e :: t, p => by
  have ih := lkp_enc t p
  by_cases h : p = e.1
  ·
   rw [tget, if_pos h]
   simp [encT, lkp, h]
  ·
   rw [tget, if_neg h, ← ih]
   have : ¬ keyP p = keyP e.1 := fun h' => h (keyP_inj.1 h')
   simp only [encT, lkp, List.map_cons, List.find?_cons, decide_eq_false this]
theorem upd_enc : ∀ (t : Tb) (p : Pr) (v : Stn), updM (encT t) (keyP p) (encS v) = encT (tput t p v)
 | [], p, v => rfl
 | e :: t, p, v => by
  have ih := upd_enc t p v
  by_cases h : p = e.1
  ·
   rw [tput, if_pos h]
   simp [encT, updM, h]
  ·
   rw [tput, if_neg h]
   have : ¬ keyP p = keyP e.1 := fun h' => h (keyP_inj.1 h')
   simp only [encT, List.map_cons, updM, if_neg this] at ih ⊢
   rw [ih]
def tat (t : Tb) (p : Pr) : Stn := (tget t p).getD (0, false)
theorem getD_enc (o : Option Stn) : (o.map encS).getD (.agg #[.int .i64 0, .bool false]) = encS (o.getD (0, false)) := by cases o <;> rfl
theorem getD_tat (t : Tb) (p : Pr) : ((tget t p).map encS).getD (.agg #[.int .i64 0, .bool false]) = encS (tat t p) := getD_enc _
theorem isSome_enc (o : Option Stn) : (o.map encS).isSome = o.isSome := by cases o <;> rfl
def tOk (t : Tb) : Prop := ∀ e ∈ t, 0 ≤ e.2.1 ∧ e.2.1 ≤ 1000000000001
theorem tOk_at {t : Tb} (h : tOk t) (p : Pr) : 0 ≤ (tat t p).1 ∧ (tat t p).1 ≤ 1000000000001 := by
 unfold tat
 induction t with
 | nil => simp [tget]
 | cons e t ih =>
  rw [tget]
  by_cases hp : p = e.1
  ·
   rw [if_pos hp]; exact h e (by simp)
  ·
   rw [if_neg hp]; exact ih fun x hx => h x (by simp [hx])
theorem tOk_put {t : Tb} (h : tOk t) (p : Pr) (v : Stn) (hv : 0 ≤ v.1 ∧ v.1 ≤ 1000000000001) : tOk (tput t p v) := by
 induction t with
 | nil => intro e he; simp only [tput, List.mem_singleton] at he; subst he; exact hv
 | cons e t ih =>
  intro x hx
  rw [tput] at hx
  split at hx
  ·
   rcases List.mem_cons.1 hx with rfl | hx
   ·
    exact hv
   ·
    exact h x (by simp [hx])
  ·
   rcases List.mem_cons.1 hx with rfl | hx
   ·
    exact h _ (by simp)
   ·
    exact ih (fun x hx => h x (by simp [hx])) x hx
def newS (f : Fmt) (s p : Pr) (now : Stn) (t : Tb) (side : Int) : Stn := (min 1000000000001 ((tat t (addV p side)).1 + now.1), brksV s p || decide (0 ≤ leadsV (addV p side) f.games 2))
def sideTo (f : Fmt) (s p : Pr) (now : Stn) (t : Tb) : Nat → Tb
 | 0 => t
 | k + 1 => tput (sideTo f s p now t k) (addV p k) (newS f s p now (sideTo f s p now t k) k)
def pairT (f : Fmt) (s p : Pr) (t : Tb) : Tb := bif !(tget t p).isSome || (tat t p).2 then t else sideTo f s p (tat t p) t 2
def loA (all : Nat) : Int := max 0 ((all : Int) - 40 - 1)
def rowTo (f : Fmt) (s : Pr) (all : Nat) (t : Tb) : Nat → Tb
 | 0 => t
 | j + 1 => pairT f s (loA all + j, (all : Int) - (loA all + j)) (rowTo f s all t j)
def cntA (all : Nat) : Nat := (min (all : Int) 41 - loA all + 1).toNat
def tblTo (f : Fmt) (s : Pr) : Nat → Tb
 | 0 => [((0, 0), (1, false))]
 | k + 1 => rowTo f s k (tblTo f s k) (cntA k)
def tableV (f : Fmt) (s : Pr) : Tb := tblTo f s 82
theorem tOk_side {f : Fmt} {s p : Pr} {now : Stn} {t : Tb} (h : tOk t) (hn : 0 ≤ now.1 ∧ now.1 ≤ 1000000000001) : ∀ k, tOk (sideTo f s p now t k)
 | 0 => h
 | k + 1 => by
  have ih := tOk_side (f := f) (s := s) (p := p) h hn k
  have ha := tOk_at ih (addV p k)
  exact tOk_put ih _ _ (by simp only [newS]; omega)
theorem tOk_pair {f : Fmt} {s p : Pr} {t : Tb} (h : tOk t) : tOk (pairT f s p t) := by
 unfold pairT
 cases !(tget t p).isSome || (tat t p).2
 ·
  exact tOk_side h (tOk_at h p) 2
 ·
  exact h
theorem tOk_row {f : Fmt} {s : Pr} {all : Nat} {t : Tb} (h : tOk t) : ∀ j, tOk (rowTo f s all t j)
 | 0 => h
 | j + 1 => tOk_pair (tOk_row h j)
theorem tOk_tbl (f : Fmt) (s : Pr) : ∀ k, tOk (tblTo f s k)
 | 0 => fun e he => by simp only [tblTo, List.mem_singleton] at he; subst he; decide
 | k + 1 => tOk_row (tOk_tbl f s k) _
structure TZ where
 (k : Nat) (es : Array MapEntry) (c : Nat)
end Go.Proofs.YtpmmgljndceplaaGreat

namespace Go.Proofs.YtpmmgljndceplaaGreat
open Go Go.RowKit

set_option maxRecDepth 100000 in
set_option maxHeartbeats 1000000 in
theorem C_rules_table (f : Fmt) (s : Pr) (w : World) : CR Tryz.prog 81 [f.val, pv s] w (fun x : Nat × Array MapEntry × Nat => MapIs x.2.1 (encT (tableV f s))) (fun x => .map (some x.1)) (fun x => [.obj x.1 (.map x.2.1 x.2.2)]) := by
 refine ⟨en Tryz.func81 Tryz.ntmps81 (St.init w) (h := fun F => ?_)⟩
 refine sr ?_
 refine bxA (h := fun b0 => ?_)
 refine bxA (h := fun b1 => ?_)
 refine ww ?_
 refine nr ?_
 refine mkm (h := fun b2 => ?_)
 iterate 2 refine ww ?_
 refine mupI (kv := []) (hm := mapIs0) (hs := fun p hp => by cases hp) (h := fun es0 c0 hm0 => ?_)
 iterate 2 refine ww ?_
 refine nq ?_
 refine sq ?_
 refine sr ?_
 refine ww ?_
 refine nq ?_
 refine bk ?_
 refine lp (X := TZ) (I := fun z => z.k ≤ 82 ∧ MapIs z.es (encT (tblTo f s z.k))) (le := fun z => [(2, .pointer (some ⟨b0, 0, none⟩)), (3, .pointer (some ⟨b1, 0, none⟩)), (5, .map (some b2)), (18, .int .i64 z.k)]) (Le := fun z => [.obj b2 (.map z.es z.c), .blk b0 91 f.cells, .blk b1 107 [.int .i64 s.1, .int .i64 s.2]]) (μ := fun z => 82 - z.k) ⟨0, es0, c0⟩ ⟨Nat.zero_le _, hm0⟩ sbz_ slz_ (fun z hz => ?_)
 obtain ⟨hzk, hzm⟩ := hz
 refine sr ?_
 refine ww ?_
 refine nq ?_
 refine sq ?_
 refine czz (fun h0 => ?_) fun h0 => ?_
 ·
  have hzn : z.k < 82 := by simp only [decide_eq_true_eq] at h0; omega
  have hlo : 0 ≤ loA z.k ∧ loA z.k ≤ 41 ∧ loA z.k ≤ z.k := by unfold loA; omega
  have hcn : (cntA z.k : Int) = min (z.k : Int) 41 - loA z.k + 1 := by unfold cntA loA; omega
  refine skp ?_
  refine q_seq ?_
  refine sq ?_
  refine bk ?_
  refine sr ?_
  iterate 2 refine ww ?_
  refine nr ?_
  iterate 5 refine ww ?_
  refine nq ?_
  refine bk ?_
  refine lp (X := TZ) (I := fun u => u.k ≤ cntA z.k ∧ MapIs u.es (encT (rowTo f s z.k (tblTo f s z.k) u.k))) (le := fun u => [(2, .pointer (some ⟨b0, 0, none⟩)), (3, .pointer (some ⟨b1, 0, none⟩)), (5, .map (some b2)), (6, .int .i64 z.k), (18, .int .i64 z.k), (7, .int .i64 (loA z.k + (u.k : Int)))]) (Le := fun u => [.obj b2 (.map u.es u.c), .blk b0 91 f.cells, .blk b1 107 [.int .i64 s.1, .int .i64 s.2]]) (μ := fun u => cntA z.k - u.k) ⟨0, z.es, z.c⟩ ⟨Nat.zero_le _, hzm⟩ (by repeat (first | exact trivial | refine ⟨rfl, ?_⟩ | refine ⟨by rw [show loA z.k + ((0 : Nat) : Int) = loA z.k by omega]; rfl, ?_⟩)) slz_ (fun u hu => ?_)
  obtain ⟨huk, hum⟩ := hu
  refine sq ?_
  refine sr ?_
  iterate 4 refine ww ?_
  refine nq ?_
  refine czz (fun h1 => ?_) fun h1 => ?_
  ·
   have hun : (u.k : Int) < cntA z.k := by simp only [decide_eq_true_eq] at h1; omega
   have hSp : Sm (loA z.k + (u.k : Int), (z.k : Int) - (loA z.k + (u.k : Int))) := ⟨by dsimp only; omega, by dsimp only; omega⟩
   have hut := tOk_row (f := f) (s := s) (all := z.k) (tOk_tbl f s z.k) u.k
   have hnow := tOk_at hut (loA z.k + (u.k : Int), (z.k : Int) - (loA z.k + (u.k : Int)))
   refine skp ?_
   refine q_seq ?_
   refine sq ?_
   refine bk ?_
   refine sr ?_
   iterate 5 refine ww ?_
   refine al (h := fun b3 => ?_)
   first | refine stA (h := ?_) | refine stEA (h := ?_)
   refine nr ?_
   iterate 2 refine ww ?_
   refine wy (lkC (kv := encT (rowTo f s z.k (tblTo f s z.k) u.k)) (hm := hum) (hs := encT_shape _)) ?_
   rw [lkp_enc (p := (loA z.k + (u.k : Int), (z.k : Int) - (loA z.k + (u.k : Int)))), getD_tat, isSome_enc]
   iterate 3 refine ww ?_
   refine al (h := fun b4 => ?_)
   first | refine stA (h := ?_) | refine stEA (h := ?_)
   refine ww ?_
   refine nq ?_
   refine sq ?_
   refine sr ?_
   iterate 3 refine ww ?_
   apply brOr 3 44 47 (by exact rfl)
   ·
    intro hb2
    iterate 2 refine uw ?_
    refine ww ?_
    exact mg (by repeat (first | exact trivial | refine ⟨rfl, ?_⟩ | refine ⟨by rw [hb2]; rfl, ?_⟩)) slz_
   ·
    intro hb2
    repeat (first | refine uz ?_ | refine kz ?_ | refine wz ?_)
    exact mg (by repeat (first | exact trivial | refine ⟨rfl, ?_⟩ | refine ⟨by rw [hb2]; rfl, ?_⟩)) slz_
   refine nq ?_
   refine czz (fun h3 => ?_) fun h3 => ?_
   ·
    have hpr : rowTo f s z.k (tblTo f s z.k) (u.k + 1) = rowTo f s z.k (tblTo f s z.k) u.k := by rw [rowTo, pairT, h3]; rfl
    refine et ?_
    refine q_then_exit ?_
    refine q_blk_hit ?_
    refine q_seq ?_
    refine rg ?_
    iterate 3 refine ww ?_
    refine nl ?_
    first
     | refine rn (x := u) ⟨u.k + 1, v.es, v.c⟩ ⟨by dsimp only; omega, by dsimp only; rw [hpr, ← hvn]; exact hvm⟩ (by dsimp only; omega) (by repeat (first | exact trivial | refine ⟨rfl, ?_⟩ | refine ⟨by rw [show loA z.k + ((u.k + 1 : Nat) : Int) = loA z.k + (u.k : Int) + 1 by omega]; rfl, ?_⟩)) slz_
     | refine rn (x := u) ⟨u.k + 1, u.es, u.c⟩ ⟨by dsimp only; omega, by dsimp only; rw [hpr]; exact hum⟩ (by dsimp only; omega) (by repeat (first | exact trivial | refine ⟨rfl, ?_⟩ | refine ⟨by rw [show loA z.k + ((u.k + 1 : Nat) : Int) = loA z.k + (u.k : Int) + 1 by omega]; rfl, ?_⟩)) slz_
   ·
    have hpr : rowTo f s z.k (tblTo f s z.k) (u.k + 1) = sideTo f s (loA z.k + (u.k : Int), (z.k : Int) - (loA z.k + (u.k : Int))) (tat (rowTo f s z.k (tblTo f s z.k) u.k) (loA z.k + (u.k : Int), (z.k : Int) - (loA z.k + (u.k : Int)))) (rowTo f s z.k (tblTo f s z.k) u.k) 2 := by rw [rowTo, pairT, h3]; rfl
    refine skp ?_
    refine q_seq ?_
    refine sr ?_
    refine ww ?_
    refine nq ?_
    refine bk ?_
    refine lp (X := TZ) (I := fun v => v.k ≤ 2 ∧ MapIs v.es (encT (sideTo f s (loA z.k + (u.k : Int), (z.k : Int) - (loA z.k + (u.k : Int))) (tat (rowTo f s z.k (tblTo f s z.k) u.k) (loA z.k + (u.k : Int), (z.k : Int) - (loA z.k + (u.k : Int)))) (rowTo f s z.k (tblTo f s z.k) u.k) v.k))) (le := fun v => [(2, .pointer (some ⟨b0, 0, none⟩)), (3, .pointer (some ⟨b1, 0, none⟩)), (5, .map (some b2)), (6, .int .i64 z.k), (18, .int .i64 z.k), (7, .int .i64 (loA z.k + (u.k : Int))), (8, .pointer (some ⟨b3, 0, none⟩)), (9, .pointer (some ⟨b4, 0, none⟩)), (48, .int .i64 v.k)]) (Le := fun v => [.obj b2 (.map v.es v.c), .blk b3 38 [.int .i64 (loA z.k + (u.k : Int)), .int .i64 ((z.k : Int) - (loA z.k + (u.k : Int)))], .blk b4 167 [.int .i64 (tat (rowTo f s z.k (tblTo f s z.k) u.k) (loA z.k + (u.k : Int), (z.k : Int) - (loA z.k + (u.k : Int)))).1, .bool (tat (rowTo f s z.k (tblTo f s z.k) u.k) (loA z.k + (u.k : Int), (z.k : Int) - (loA z.k + (u.k : Int)))).2], .blk b0 91 f.cells, .blk b1 107 [.int .i64 s.1, .int .i64 s.2]]) (μ := fun v => 2 - v.k) ⟨0, u.es, u.c⟩ ⟨Nat.zero_le _, hum⟩ sbz_ slz_ (fun v hv => ?_)
    obtain ⟨hvk, hvm⟩ := hv
    refine sr ?_
    refine ww ?_
    refine nq ?_
    refine sq ?_
    refine czz (fun h4 => ?_) fun h4 => ?_
    ·
     have hvn : v.k < 2 := by simp only [decide_eq_true_eq] at h4; omega
     have hsb := tOk_side (f := f) (s := s) (p := (loA z.k + (u.k : Int), (z.k : Int) - (loA z.k + (u.k : Int)))) hut hnow v.k
     have hnx := tOk_at hsb (addV (loA z.k + (u.k : Int), (z.k : Int) - (loA z.k + (u.k : Int))) v.k)
     have hSq : Sm (addV (loA z.k + (u.k : Int), (z.k : Int) - (loA z.k + (u.k : Int))) v.k) := sm_of (K := 1000) (addV_bd (K := 999) ⟨by dsimp only; omega, by dsimp only; omega⟩) (by omega)
     refine skp ?_
     refine q_seq ?_
     refine sq ?_
     refine bk ?_
     refine sr ?_
     iterate 2 refine ww ?_
     refine nr ?_
     iterate 2 refine ww ?_
     refine cl0 (hc := fun w hS => C_score_add (loA z.k + (u.k : Int), (z.k : Int) - (loA z.k + (u.k : Int))) v.k hSp w) (h := ?_)
     refine al (h := fun b5 => ?_)
     first | refine stA (h := ?_) | refine stEA (h := ?_)
     refine nr ?_
     iterate 2 refine ww ?_
     refine wy (lkN (kv := encT (sideTo f s (loA z.k + (u.k : Int), (z.k : Int) - (loA z.k + (u.k : Int))) (tat (rowTo f s z.k (tblTo f s z.k) u.k) (loA z.k + (u.k : Int), (z.k : Int) - (loA z.k + (u.k : Int)))) (rowTo f s z.k (tblTo f s z.k) u.k) v.k)) (hm := hvm) (hs := encT_shape _)) ?_
     rw [lkp_enc (p := addV (loA z.k + (u.k : Int), (z.k : Int) - (loA z.k + (u.k : Int))) v.k), getD_tat]
     refine al (h := fun b6 => ?_)
     first | refine stA (h := ?_) | refine stEA (h := ?_)
     refine nr ?_
     iterate 7 refine ww ?_
     first | refine st (h := ?_) | refine stE (h := ?_)
     refine nr ?_
     iterate 2 refine ww ?_
     refine cl0 (hc := fun w hS => C_set_breaks s (loA z.k + (u.k : Int), (z.k : Int) - (loA z.k + (u.k : Int))) w) (h := ?_)
     refine ww ?_
     apply brOr 7 67 74 (by exact rfl)
     ·
      intro hb5
      iterate 4 refine uw ?_
      refine uz ?_
      refine cl0 (hc := fun w hS => C_score_leads _ _ _ (by assumption) w) (h := ?_)
      refine uw ?_
      refine ww ?_
      exact mg (by repeat (first | exact trivial | refine ⟨rfl, ?_⟩ | refine ⟨by rw [hb5]; rfl, ?_⟩)) slz_
     ·
      intro hb5
      repeat (first | refine uz ?_ | refine kz ?_ | refine wz ?_)
      exact mg (by repeat (first | exact trivial | refine ⟨rfl, ?_⟩ | refine ⟨by rw [hb5]; rfl, ?_⟩)) slz_
     refine ww ?_
     first | refine st (h := ?_) | refine stE (h := ?_)
     refine nq ?_
     refine rg ?_
     iterate 3 refine ww ?_
     refine mup (kv := encT (sideTo f s (loA z.k + (u.k : Int), (z.k : Int) - (loA z.k + (u.k : Int))) (tat (rowTo f s z.k (tblTo f s z.k) u.k) (loA z.k + (u.k : Int), (z.k : Int) - (loA z.k + (u.k : Int)))) (rowTo f s z.k (tblTo f s z.k) u.k) v.k)) (hm := hvm) (hs := encT_shape _) (h := fun es1 c1 hm1 => ?_)
     have hvu : MapIs es1 (encT (sideTo f s (loA z.k + (u.k : Int), (z.k : Int) - (loA z.k + (u.k : Int))) (tat (rowTo f s z.k (tblTo f s z.k) u.k) (loA z.k + (u.k : Int), (z.k : Int) - (loA z.k + (u.k : Int)))) (rowTo f s z.k (tblTo f s z.k) u.k) (v.k + 1))) := by rw [sideTo, ← upd_enc]; exact hm1
     refine nl ?_
     refine q_blk_norm ?_
     refine q_seq ?_
     refine rg ?_
     iterate 2 refine ww ?_
     refine nl ?_
     refine rn (x := v) ⟨v.k + 1, es1, c1⟩ ⟨by dsimp only; omega, hvu⟩ (by dsimp only; omega) sbz_ slz_
    ·
     have hvn : v.k = 2 := by simp only [decide_eq_false_iff_not] at h4; omega
     refine et ?_
     iterate 2 refine q_then_exit ?_
     refine q_blk_hit ?_
     refine q_blk_norm ?_
     refine q_seq ?_
     refine rg ?_
     iterate 3 refine ww ?_
     refine nl ?_
     first
      | refine rn (x := u) ⟨u.k + 1, v.es, v.c⟩ ⟨by dsimp only; omega, by dsimp only; rw [hpr, ← hvn]; exact hvm⟩ (by dsimp only; omega) (by repeat (first | exact trivial | refine ⟨rfl, ?_⟩ | refine ⟨by rw [show loA z.k + ((u.k + 1 : Nat) : Int) = loA z.k + (u.k : Int) + 1 by omega]; rfl, ?_⟩)) slz_
      | refine rn (x := u) ⟨u.k + 1, u.es, u.c⟩ ⟨by dsimp only; omega, by dsimp only; rw [hpr]; exact hum⟩ (by dsimp only; omega) (by repeat (first | exact trivial | refine ⟨rfl, ?_⟩ | refine ⟨by rw [show loA z.k + ((u.k + 1 : Nat) : Int) = loA z.k + (u.k : Int) + 1 by omega]; rfl, ?_⟩)) slz_
  ·
   have hun : u.k = cntA z.k := by simp only [decide_eq_false_iff_not] at h1; omega
   refine et ?_
   iterate 2 refine q_then_exit ?_
   refine q_blk_hit ?_
   refine q_blk_norm ?_
   refine q_seq ?_
   refine rg ?_
   iterate 2 refine ww ?_
   refine nl ?_
   refine rn (x := z) ⟨z.k + 1, u.es, u.c⟩ ⟨by dsimp only; omega, by dsimp only; rw [tblTo, ← hun]; exact hum⟩ (by dsimp only; omega) sbz_ slz_
 ·
  have hzn : z.k = 82 := by simp only [decide_eq_false_iff_not] at h0; omega
  refine et ?_
  iterate 2 refine q_then_exit ?_
  refine q_blk_hit ?_
  refine q_seq ?_
  refine sr ?_
  iterate 2 refine ww ?_
  refine nq ?_
  refine rtn ?_
  refine q_ret (hR := ?_)
  exact fun w hS => ⟨(b2, z.es, z.c), by dsimp only; rw [tableV, ← hzn]; exact hzm, rfl, hS.sub slz_⟩
end Go.Proofs.YtpmmgljndceplaaGreat

namespace Go.Proofs.YtpmmgljndceplaaGreat
open Go Go.RowKit

theorem C_IndexFuncP {A : Option Addr} {n c : Nat} {es : List (List Value)} {g : FuncId} (hg : FnOk Tryz.prog g) (fi cap : List Value) (Lp : List Ent) (p : Nat → Bool) (hn : n ≤ 9223372036854775807)
  (hp : ∀ k cs, es[k]? = some cs → Tr Tryz.prog g (fi ++ [.agg cs.toArray] ++ cap) (.ro A 2 n es :: Lp) (fun _ : Unit => True) (fun _ => .bool (p k)) (fun _ => .ro A 2 n es :: Lp)) :
  Tr Tryz.prog 117 [.slice A n c, .func (.func g) fi.toArray cap.toArray] (.ro A 2 n es :: Lp) (Fst p n) (fun j => .int .i64 j) (fun _ => .ro A 2 n es :: Lp) := by
 refine ⟨fun w0 w R hst => ?_⟩
 have hlen : es.length = n := (hst.ok (.ro A 2 n es) (by simp)).len
 refine en Tryz.func117 Tryz.ntmps117 hst (h := fun F => ?_)
 refine sr ?_
 refine ww ?_
 refine nq ?_
 refine sq ?_
 refine sr ?_
 iterate 3 refine ww ?_
 refine nq ?_
 refine bk ?_
 refine lp (X := Nat) (I := fun k => k ≤ n ∧ ∀ i, i < k → p i = false) (le := fun k => [(0, .slice A n c), (1, .func (.func g) fi.toArray cap.toArray), (7, .int .i64 n), (8, .int .i64 k)]) (Le := fun _ => .ro A 2 n es :: (Lp ++ R)) (μ := fun k => n - k) 0 ⟨by omega, fun i hi => by omega⟩ sbz_ (SubL.refl _) (fun k hk => ?_)
 obtain ⟨hk, hall⟩ := hk
 refine sr ?_
 refine ww ?_
 refine nq ?_
 refine sq ?_
 refine czz (fun h0 => ?_) fun h0 => ?_
 ·
  have hkn : k < n := by simp only [decide_eq_true_eq] at h0; omega
  have hes : es[k]? = some es[k] := List.getElem?_eq_getElem (by omega)
  refine skp ?_
  refine q_seq ?_
  refine sq ?_
  refine bk ?_
  refine sr ?_
  iterate 2 refine ww ?_
  refine nr ?_
  iterate 3 refine ww ?_
  refine wy ix ?_
  refine wy (ldEW (k := k) (cs := es[k]) (hk := hes)) ?_
  refine clfT hg (fi := fi) (cap := cap) (by exact rfl) (by repeat (first | exact Evs.nil | (apply Evs.cons; exact rfl))) (hp k _ hes) rfl (Spl.cons .here (Spl.app _ _)) (h := fun _ _ => ?_)
  refine nq ?_
  refine czz (fun h1 => ?_) fun h1 => ?_
  ·
   refine sr ?_
   iterate 2 refine ww ?_
   refine nq ?_
   refine rtn ?_
   refine q_blk_ret ?_
   iterate 2 refine q_then_ret ?_
   refine q_blk_ret ?_
   refine q_then_ret ?_
   refine q_ret (hR := ?_)
   exact fun w hS => ⟨_, .inl ⟨k, hkn, rfl, by assumption, hall⟩, rfl, hS⟩
  ·
   refine skp ?_
   refine q_blk_norm ?_
   refine q_seq ?_
   refine rg ?_
   iterate 2 refine ww ?_
   refine nl ?_
   refine rn (k + 1) ⟨by omega, fun i hi => ?_⟩ (by omega) sbz_ (SubL.refl _)
   rcases Nat.lt_succ_iff_lt_or_eq.1 hi with h | rfl
   ·
    exact hall i h
   ·
    assumption
 ·
  have hkn : k = n := by simp only [decide_eq_false_iff_not] at h0; omega
  refine et ?_
  iterate 2 refine q_then_exit ?_
  refine q_blk_hit ?_
  refine q_seq ?_
  refine sr ?_
  refine ww ?_
  refine nq ?_
  refine rtn ?_
  refine q_ret (hR := ?_)
  exact fun w hS => ⟨_, .inr ⟨rfl, by subst hkn; exact hall⟩, rfl, hS⟩

theorem C_ContainsFuncP {A : Option Addr} {n c : Nat} {es : List (List Value)} {g : FuncId} (hg : FnOk Tryz.prog g) (fi cap : List Value) (Lp : List Ent) (p : Nat → Bool) (hn : n ≤ 9223372036854775807)
  (hp : ∀ k cs, es[k]? = some cs → Tr Tryz.prog g (fi ++ [.agg cs.toArray] ++ cap) (.ro A 2 n es :: Lp) (fun _ : Unit => True) (fun _ => .bool (p k)) (fun _ => .ro A 2 n es :: Lp)) :
  Tr Tryz.prog 75 [.slice A n c, .func (.func g) fi.toArray cap.toArray] (.ro A 2 n es :: Lp) (fun _ : Unit => True) (fun _ => .bool ((List.range n).any p)) (fun _ => .ro A 2 n es :: Lp) := by
 refine ⟨fun w0 w R hst => ?_⟩
 refine en Tryz.func75 Tryz.ntmps75 hst (h := fun F => ?_)
 refine sr ?_
 refine ww ?_
 refine nr ?_
 iterate 2 refine ww ?_
 refine clT (hc := C_IndexFuncP hg fi cap Lp p hn hp) (hs := Spl.cons .here (Spl.app _ _)) (h := fun x0 hx0 => ?_)
 iterate 2 refine ww ?_
 refine nq ?_
 refine rtn ?_
 refine q_ret (hR := ?_)
 exact fun w hS => ⟨(), trivial, by simp only [resV, hx0.any], hS⟩

theorem C_ClonePairs (A : Option Addr) (n c : Nat) (es : List (List Value)) (w : World) (h : Rd w A 2 n es) (hn : n ≤ 100000000) :
  CR Tryz.prog 68 [.slice A n c] w (fun _ : Option Addr × Nat => True) (fun p => .slice p.1 n p.2) (fun p => [.own p.1 p.2 38 2 n es]) := by
 refine ⟨en Tryz.func68 Tryz.ntmps68 ((St.init w).share (e := .ro A 2 n es) h rfl rfl rfl) (h := fun F => ?_)⟩
 refine sr ?_
 refine ww ?_
 refine WL.nilOwn 38 2 (h := ?_)
 refine nq ?_
 refine sq ?_
 refine sr ?_
 refine ww ?_
 refine wy eqlN ?_
 refine nq ?_
 refine czz (fun h0 => ?_) fun h0 => ?_
 ·
  refine sr ?_
  refine ww ?_
  refine nq ?_
  refine rtn ?_
  refine q_then_ret ?_
  refine q_ret (hR := ?_)
  have hn0 : n = 0 := by
   rcases Nat.eq_zero_or_pos n with e | e
   ·
    exact e
   ·
    obtain ⟨ad, rfl⟩ := h.some_ e
    cases h0
  have hes : es = [] := by have := h.len; rw [hn0] at this; exact List.length_eq_zero_iff.1 this
  exact fun w hS => ⟨(none, 0), trivial, by rw [hn0]; rfl, by rw [hn0, hes]; exact hS.sub slz_⟩
 ·
  refine skp ?_
  refine q_seq ?_
  refine sr ?_
  refine bs (h := fun b0 => ?_)
  refine ww ?_
  first | refine ap (h := fun A1 c1 => ?_) | refine ap0 (h := fun A1 c1 => ?_)
  refine ww ?_
  refine nq ?_
  refine rtn ?_
  refine q_ret (hR := ?_)
  exact fun w hS => ⟨(_, _), trivial, by simp only [Nat.zero_add]; rfl, by simp only [Nat.zero_add, List.nil_append] at hS; exact hS.sub slz_⟩

structure Brd where
 (st : List Pr) (g p : Pr)
abbrev Brd.val (b : Brd) (A : Option Addr) (n c : Nat) : Value := .agg #[.slice A n c, .int .i64 b.g.1, .int .i64 b.g.2, .int .i64 b.p.1, .int .i64 b.p.2]
abbrev Brd.cells (b : Brd) (A : Option Addr) (n c : Nat) : List Value := [.slice A n c, .int .i64 b.g.1, .int .i64 b.g.2, .int .i64 b.p.1, .int .i64 b.p.2]
def Brd.all (b : Brd) : List Pr := b.st ++ [b.g, b.p]
def fitP (p : Pr) : Bool := wi p.1 0 40 && wi p.2 0 40
def brdOk (b : Brd) : Bool := decide ((b.st.length : Int) ≤ 5) && !(b.all.any fun p => !fitP p)

theorem C_isBoard1 (p : Pr) (w : World) : C0 Tryz.prog 74 [pv p] w (.bool (fitP p)) := by
 refine ⟨en Tryz.func74 Tryz.ntmps74 (St.init w) (h := fun F => ?_)⟩
 refine sr ?_
 refine bxA (h := fun b0 => ?_)
 refine ww ?_
 refine nr ?_
 iterate 2 refine ww ?_
 refine cl0 (hc := fun w hS => C_score_within ..) (h := ?_)
 refine ww ?_
 apply brAnd 4 6 10 (by exact rfl)
 ·
  intro hb0
  iterate 2 refine uw ?_
  refine uz ?_
  refine cl0 (hc := fun w hS => C_score_within ..) (h := ?_)
  refine ww ?_
  exact mg (by repeat (first | exact trivial | refine ⟨rfl, ?_⟩ | refine ⟨by rw [hb0]; rfl, ?_⟩)) slz_
 ·
  intro hb0
  repeat (first | refine uz ?_ | refine kz ?_ | refine wz ?_)
  exact mg (by repeat (first | exact trivial | refine ⟨rfl, ?_⟩ | refine ⟨by rw [hb0]; rfl, ?_⟩)) slz_
 refine ww ?_
 refine nq ?_
 refine rtn ?_
 refine q_ret (hR := ?_)
 exact fun w hS => ⟨rfl, hS.sub slz_⟩
theorem T_isBoard2 (p : Pr) (a0 : Nat) (Le : Ent) : Tr Tryz.prog 77 [pv p, .pointer (some ⟨a0, 0, none⟩)] [Le, .blk a0 160 [.func (.func 74) #[] #[]]] (fun _ : Unit => True) (fun _ => .bool (!fitP p)) (fun _ => [Le, .blk a0 160 [.func (.func 74) #[] #[]]]) := by
 refine ⟨fun w0 w R hst => ?_⟩
 refine en Tryz.func77 Tryz.ntmps77 hst (h := fun F => ?_)
 refine sr ?_
 refine bxA (h := fun b0 => ?_)
 refine ww ?_
 refine nr ?_
 iterate 2 refine ww ?_
 refine clfT inferInstance (fi := []) (cap := []) (by exact rfl) (by repeat (first | exact Evs.nil | (apply Evs.cons; exact rfl))) (C0.tr [] (C_isBoard1 p)) rfl Spl.nil (h := fun _ _ => ?_)
 iterate 2 refine ww ?_
 refine nq ?_
 refine rtn ?_
 refine q_ret (hR := ?_)
 exact fun w hS => ⟨(), trivial, rfl, hS.sub slz_⟩

theorem C_score_pairs (b : Brd) (A : Option Addr) (n c : Nat) (w : World) (h : Rd w A 2 n (encP b.st)) (hn : n ≤ 1000000) :
  CR Tryz.prog 76 [b.val A n c] w (fun _ : Option Addr × Nat => True) (fun p => .slice p.1 (n + 2) p.2) (fun p => [.own p.1 p.2 38 2 (n + 2) (encP b.all)]) := by
 have he : encP b.all = encP b.st ++ [[.int .i64 b.g.1, .int .i64 b.g.2], [.int .i64 b.p.1, .int .i64 b.p.2]] := by simp [encP, Brd.all]
 refine ⟨en Tryz.func76 Tryz.ntmps76 ((St.init w).share (e := .ro A 2 n (encP b.st)) h rfl rfl rfl) (h := fun F => ?_)⟩
 refine sr ?_
 refine bxA (h := fun b0 => ?_)
 refine ww ?_
 refine nq ?_
 refine sq ?_
 refine rgD0 (by kernel_rfl) (h := ?_)
 refine tw 0 ?_
 refine tw 1 ?_
 refine tw 3 ?_
 refine tw 4 ?_
 refine tw 5 ?_
 refine tw 6 ?_
 refine two 2 7 (h1 := ?_) (h2 := ?_)
 ·
  refine cl (hc := fun w hS => C_ClonePairs A n c (encP b.st) w (hS.get rdz_) (by omega)) (h := fun x0 _ => ?_)
  refine nx (h := ?_)
  refine one 7 (h := ?_)
  refine bs (h := fun b1 => ?_)
  refine nx (h := ?_)
  refine one 8 (h := ?_)
  first | refine ap (h := fun A1 c1 => ?_) | refine ap0 (h := fun A1 c1 => ?_)
  refine nx (h := ?_)
  refine tw 9 ?_
  refine dn (h := ?_)
  refine q_seq ?_
  refine rtn ?_
  refine q_ret (hR := ?_)
  rw [he]
  exact fun w hS => ⟨(_, _), trivial, rfl, hS.sub slz_⟩
 ·
  refine bs (h := fun b2 => ?_)
  refine nx (h := ?_)
  refine one 2 (h := ?_)
  refine cl (hc := fun w hS => C_ClonePairs A n c (encP b.st) w (hS.get rdz_) (by omega)) (h := fun x0 _ => ?_)
  refine nx (h := ?_)
  refine one 8 (h := ?_)
  first | refine ap (h := fun A2 c2 => ?_) | refine ap0 (h := fun A2 c2 => ?_)
  refine nx (h := ?_)
  refine tw 9 ?_
  refine dn (h := ?_)
  refine q_seq ?_
  refine rtn ?_
  refine q_ret (hR := ?_)
  rw [he]
  exact fun w hS => ⟨(_, _), trivial, rfl, hS.sub slz_⟩

set_option maxRecDepth 100000 in
theorem C_isBoard (b : Brd) (A : Option Addr) (n c : Nat) (w : World) (h : Rd w A 2 n (encP b.st)) (hn : n ≤ 9223372036854775807) : C0 Tryz.prog 48 [b.val A n c] w (.bool (brdOk b)) := by
 have hlen : b.st.length = n := by have := h.len; simpa [encP] using this
 have hal : b.all.length = n + 2 := by simp [Brd.all, hlen]
 refine ⟨en Tryz.func48 Tryz.ntmps48 ((St.init w).share (e := .ro A 2 n (encP b.st)) h rfl rfl rfl) (h := fun F => ?_)⟩
 refine sr ?_
 refine bxA (h := fun b0 => ?_)
 refine ww ?_
 refine nr ?_
 refine al (h := fun b1 => ?_)
 first | refine st (h := ?_) | refine stE (h := ?_)
 refine nr ?_
 iterate 5 refine ww ?_
 apply brAnd 6 8 14 (by exact rfl)
 ·
  intro hb0
  have hn5 : n ≤ 5 := by simp only [decide_eq_true_eq] at hb0; omega
  refine uw ?_
  refine uz ?_
  refine cl (hc := fun w hS => C_score_pairs b A n c w (hS.get rdz_) (by omega)) (h := fun x0 _ => ?_)
  refine uw ?_
  refine uz ?_
  refine WL.toRo (A := x0.1) atz_ (h := ?_)
  refine clT (hc := C_ContainsFuncP (A := x0.1) (n := n + 2) (c := x0.2) (es := encP b.all) (g := 77) inferInstance [] [.pointer (some ⟨b1, 0, none⟩)] [.blk b1 160 [.func (.func 74) #[] #[]]] (pAt b.all fun p => !fitP p) (by omega) (fun k cs hk => by
   obtain ⟨p, hp, rfl⟩ := enc_at hk
   rw [pAt_eq hp]
   exact T_isBoard2 p b1 _)) (hs := by repeat (first | exact Spl.nil | (apply Spl.cons; (repeat (first | exact At.here | apply At.there))))) (h := fun _ _ => ?_)
  rw [← hal, pAt_any]
  refine uw ?_
  refine ww ?_
  exact mg (by repeat (first | exact trivial | refine ⟨rfl, ?_⟩ | refine ⟨by rw [hb0]; rfl, ?_⟩)) slz_
 ·
  intro hb0
  repeat (first | refine uz ?_ | refine kz ?_ | refine wz ?_)
  exact mg (by repeat (first | exact trivial | refine ⟨rfl, ?_⟩ | refine ⟨by rw [hb0]; rfl, ?_⟩)) slz_
 refine ww ?_
 refine nq ?_
 refine rtn ?_
 refine q_ret (hR := ?_)
 exact fun w hS => ⟨by rw [brdOk, hlen]; rfl, hS.sub slz_⟩
end Go.Proofs.YtpmmgljndceplaaGreat

namespace Go.Proofs.YtpmmgljndceplaaGreat
open Go Go.RowKit

abbrev i2 : List Sp := [.int .i64, .int .i64]
theorem i2_open {w : World} {cs : List Value} (h : Mts w i2 cs) : ∃ p : Pr, cs = [.int .i64 p.1, .int .i64 p.2] := by
 obtain ⟨a, cs, rfl, _, h⟩ := Mts.int_inv h
 obtain ⟨b, cs, rfl, _, h⟩ := h.int_inv
 rw [h.nil_inv]
 exact ⟨(a, b), rfl⟩
end Go.Proofs.YtpmmgljndceplaaGreat

namespace Go.Proofs.YtpmmgljndceplaaGreat
open Go Go.RowKit

def tPos (t : Tb) : Prop := ∀ e ∈ t, 1 ≤ e.2.1
theorem tPos_get {t : Tb} (h : tPos t) {p : Pr} (hp : (tget t p).isSome = true) : 1 ≤ (tat t p).1 := by
 unfold tat
 induction t with
 | nil => simp [tget] at hp
 | cons e t ih =>
  rw [tget] at hp ⊢
  by_cases hpe : p = e.1
  ·
   rw [if_pos hpe]; exact h e (by simp)
  ·
   rw [if_neg hpe] at hp ⊢; exact ih (fun x hx => h x (by simp [hx])) hp
theorem tPos_put {t : Tb} (h : tPos t) (p : Pr) (v : Stn) (hv : 1 ≤ v.1) : tPos (tput t p v) := by
 induction t with
 | nil => intro e he; simp only [tput, List.mem_singleton] at he; subst he; exact hv
 | cons e t ih =>
  intro x hx
  rw [tput] at hx
  split at hx
  ·
   rcases List.mem_cons.1 hx with rfl | hx
   ·
    exact hv
   ·
    exact h x (by simp [hx])
  ·
   rcases List.mem_cons.1 hx with rfl | hx
   ·
    exact h _ (by simp)
   ·
    exact ih (fun x hx => h x (by simp [hx])) x hx
theorem tPos_side {f : Fmt} {s p : Pr} {now : Stn} {t : Tb} (ho : tOk t) (h : tPos t) (hn : 1 ≤ now.1 ∧ now.1 ≤ 1000000000001) : ∀ k, tPos (sideTo f s p now t k)
 | 0 => h
 | k + 1 => by
  have ih := tPos_side (f := f) (s := s) (p := p) ho h hn k
  have ha := tOk_at (tOk_side (f := f) (s := s) (p := p) ho (now := now) (by omega) k) (addV p k)
  exact tPos_put ih _ _ (by simp only [newS]; omega)
theorem tPos_pair {f : Fmt} {s p : Pr} {t : Tb} (ho : tOk t) (h : tPos t) : tPos (pairT f s p t) := by
 unfold pairT
 cases hb : !(tget t p).isSome || (tat t p).2
 ·
  simp only [Bool.or_eq_false_iff, Bool.not_eq_false'] at hb
  exact tPos_side ho h ⟨tPos_get h hb.1, (tOk_at ho p).2⟩ 2
 ·
  exact h
theorem tPos_row {f : Fmt} {s : Pr} {all : Nat} {t : Tb} (ho : tOk t) (h : tPos t) : ∀ j, tPos (rowTo f s all t j)
 | 0 => h
 | j + 1 => tPos_pair (tOk_row ho j) (tPos_row ho h j)
theorem tPos_tbl (f : Fmt) (s : Pr) : ∀ k, tPos (tblTo f s k)
 | 0 => fun e he => by simp only [tblTo, List.mem_singleton] at he; subst he; decide
 | k + 1 => tPos_row (tOk_tbl f s k) (tPos_tbl f s k) _

def overV (f : Fmt) (won : Pr) : Bool := decide (max won.1 won.2 = f.sets)
structure SR where
 (won : Pr) (ord : Int) (ok : Bool)
def setSide (p : Pr) : Int := bif decide (p.1 < p.2) then 1 else 0
def setStep (tb : Pr → Tb) (f : Fmt) (r : SR) (p : Pr) : SR :=
 bif !(tget (tb (setV f r.won)) p).isSome || !(tat (tb (setV f r.won)) p).2 || overV f r.won then ⟨r.won, 0, false⟩
 else ⟨addV r.won (setSide p), bif decide (1000000000001 / r.ord < (tat (tb (setV f r.won)) p).1) then 1000000000001 else r.ord * (tat (tb (setV f r.won)) p).1, true⟩
def setsTo (tb : Pr → Tb) (f : Fmt) (l : List Pr) : Nat → SR
 | 0 => ⟨(0, 0), 1, true⟩
 | k + 1 => match l[k]? with
  | some p => bif (setsTo tb f l k).ok then setStep tb f (setsTo tb f l k) p else setsTo tb f l k
  | none => setsTo tb f l k
theorem setsTo_succ {tb : Pr → Tb} {f : Fmt} {l : List Pr} {k : Nat} {p : Pr} (hp : l[k]? = some p) (ho : (setsTo tb f l k).ok = true) : setsTo tb f l (k + 1) = setStep tb f (setsTo tb f l k) p := by rw [setsTo, hp]; simp only [ho, cond_true]
theorem setsTo_stop {tb : Pr → Tb} {f : Fmt} {l : List Pr} {j : Nat} (h : (setsTo tb f l j).ok = false) : ∀ {k : Nat}, j ≤ k → setsTo tb f l k = setsTo tb f l j
  | 0, hk => by obtain rfl : j = 0 := by omega
                rfl
  | k + 1, hk => by
    by_cases e : j = k + 1
    · subst e; rfl
    · have ih := setsTo_stop h (k := k) (by omega)
      rw [setsTo, ih]
      cases l[k]? with
      | none => rfl
      | some p => simp only [h, cond_false]
structure SZ where
 (k : Nat) (won : Pr) (ord : Int)

theorem C_rules_over (f : Fmt) (won : Pr) (w : World) : C0 Tryz.prog 79 [f.val, pv won] w (.bool (overV f won)) := by
 refine ⟨en Tryz.func79 Tryz.ntmps79 (St.init w) (h := fun F => ?_)⟩
 refine sr ?_
 refine bxA (h := fun b0 => ?_)
 refine bxA (h := fun b1 => ?_)
 refine ww ?_
 refine nr ?_
 iterate 10 refine ww ?_
 refine nq ?_
 refine rtn ?_
 refine q_ret (hR := ?_)
 exact fun w hS => ⟨rfl, hS.sub slz_⟩

set_option maxRecDepth 100000 in
set_option maxHeartbeats 1000000 in
theorem C_rules_sets' (tb : Pr → Tb) (f : Fmt) (l : List Pr) (hb1 : ∀ s, tOk (tb s)) (hb2 : ∀ s, tPos (tb s)) (hb3 : ∀ (s : Pr) (w : World), CR Tryz.prog 81 [f.val, pv s] w (fun x : Nat × Array MapEntry × Nat => MapIs x.2.1 (encT (tb s))) (fun x => .map (some x.1)) (fun x => [.obj x.1 (.map x.2.1 x.2.2)])) (hf : f.Ok) (A : Option Addr) (n c : Nat) (w : World) (h : Rd w A 2 n (encP l)) (hn : n ≤ 1000) :
  C0 Tryz.prog 78 [f.val, .slice A n c] w (.tuple #[pv (setsTo tb f l l.length).won, .int .i64 (setsTo tb f l l.length).ord, .bool (setsTo tb f l l.length).ok]) := by
 have hlen : l.length = n := by have := h.len; simpa [encP] using this
 refine ⟨en Tryz.func78 Tryz.ntmps78 ((St.init w).share (e := .ro A 2 n (encP l)) h rfl rfl rfl) (h := fun F => ?_)⟩
 refine sr ?_
 refine bxA (h := fun b0 => ?_)
 refine al (h := fun b1 => ?_)
 iterate 2 refine ww ?_
 refine nr ?_
 refine ww ?_
 refine nq ?_
 refine sq ?_
 refine sr ?_
 iterate 3 refine ww ?_
 refine nq ?_
 refine bk ?_
 refine lp (X := SZ) (I := fun z => z.k ≤ n ∧ setsTo tb f l z.k = ⟨z.won, z.ord, true⟩ ∧ (1 ≤ z.ord ∧ z.ord ≤ 1000000000001) ∧ ((0 ≤ z.won.1 ∧ z.won.1 ≤ (z.k : Int)) ∧ 0 ≤ z.won.2 ∧ z.won.2 ≤ (z.k : Int))) (le := fun z => [(2, .pointer (some ⟨b0, 0, none⟩)), (4, .pointer (some ⟨b1, 0, none⟩)), (5, .int .i64 z.ord), (12, .slice A n c), (13, .int .i64 n), (14, .int .i64 z.k)]) (Le := fun z => [.blk b0 91 f.cells, .blk b1 38 [.int .i64 z.won.1, .int .i64 z.won.2], .ro A 2 n (encP l)]) (μ := fun z => n - z.k) ⟨0, (0, 0), 1⟩ ⟨Nat.zero_le _, rfl, by dsimp only; omega, by simp⟩ sbz_ slz_ (fun z hz => ?_)
 obtain ⟨hzk, hzr, hzo, hzw⟩ := hz
 refine sr ?_
 refine ww ?_
 refine nq ?_
 refine sq ?_
 refine czz (fun h0 => ?_) fun h0 => ?_
 ·
  have hkn : z.k < n := by simp only [decide_eq_true_eq] at h0; omega
  obtain ⟨p, hp⟩ : ∃ p, l[z.k]? = some p := ⟨_, List.getElem?_eq_getElem (by omega)⟩
  have hpe := encP_at hp
  have hstep := setsTo_succ (tb := tb) (f := f) hp (by rw [hzr])
  rw [hzr] at hstep
  have hto := tOk_at (hb1 (setV f z.won)) p
  have hSw : Sm z.won := sm_of hzw (by omega)
  refine skp ?_
  refine q_seq ?_
  refine sq ?_
  refine bk ?_
  refine sr ?_
  refine wy (ix (hb := by omega)) ?_
  refine wy (ldEW (k := z.k) (hk := hpe)) ?_
  refine al (h := fun b2 => ?_)
  first | refine stA (h := ?_) | refine stEA (h := ?_)
  refine nq ?_
  refine ct (X := Nat) (fun _ => True) (fun x => [(2, .pointer (some ⟨b0, 0, none⟩)), (4, .pointer (some ⟨b1, 0, none⟩)), (8, .pointer (some ⟨b2, 0, none⟩)), (5, .int .i64 z.ord), (12, .slice A n c), (13, .int .i64 n), (14, .int .i64 z.k), (9, .pointer (some ⟨x, 0, none⟩)), (10, .bool (tget (tb (setV f z.won)) p).isSome)]) (fun x => [.blk x 167 [.int .i64 (tat (tb (setV f z.won)) p).1, .bool (tat (tb (setV f z.won)) p).2], .blk b0 91 f.cells, .blk b1 38 [.int .i64 z.won.1, .int .i64 z.won.2], .blk b2 38 [.int .i64 p.1, .int .i64 p.2], .ro A 2 n (encP l)]) (h1 := ?_) (h2 := ?_)
  ·
   refine rgD (by kernel_rfl) [(1000000, .blk b0 91 f.cells), (1000000, .blk b1 38 [.int .i64 z.won.1, .int .i64 z.won.2]), (1000000, .blk b2 38 [.int .i64 p.1, .int .i64 p.2])] (by repeat (first | exact HS.nil | (apply HS.keep; (repeat (first | exact At.here | apply At.there))) | (apply HS.ro; (repeat (first | exact Rds.ro | exact Rds.own | apply Rds.there))))) (h := ?_)
   refine tw 0 ?_
   refine tw 1 ?_
   refine tw 2 ?_
   refine tw 5 ?_
   refine two 3 10 (h1 := ?_) (h2 := ?_)
   ·
    refine cl0 (hc := fun w hS => C_rules_set _ _ (by assumption) w) (h := ?_)
    refine nx (h := ?_)
    refine two 4 10 (h1 := ?_) (h2 := ?_)
    ·
     refine cl (hc := fun w hS => hb3 (setV f z.won) w) (h := fun xt hxt => ?_)
     refine nx (h := ?_)
     refine two 6 10 (h1 := ?_) (h2 := ?_)
     ·
      refine wy (lkC (kv := encT (tb (setV f z.won))) (hm := hxt) (hs := encT_shape _)) ?_
      rw [lkp_enc (p := p), getD_tat, isSome_enc]
      refine nx (h := ?_)
      refine tw 7 ?_
      refine tw 8 ?_
      refine tw 9 ?_
      refine one 10 (h := ?_)
      refine al (h := fun b3 => ?_)
      refine nx (h := ?_)
      refine one 11 (h := ?_)
      first | refine stA (h := ?_) | refine stEA (h := ?_)
      refine nx (h := ?_)
      refine tw 12 ?_
      refine dn (h := ?_)
      exact ctn _ trivial sbz_ slz_
     ·
      refine al (h := fun b4 => ?_)
      refine nx (h := ?_)
      refine one 6 (h := ?_)
      refine wy (lkC (kv := encT (tb (setV f z.won))) (hm := hxt) (hs := encT_shape _)) ?_
      rw [lkp_enc (p := p), getD_tat, isSome_enc]
      refine nx (h := ?_)
      refine tw 7 ?_
      refine tw 8 ?_
      refine tw 9 ?_
      refine one 11 (h := ?_)
      first | refine stA (h := ?_) | refine stEA (h := ?_)
      refine nx (h := ?_)
      refine tw 12 ?_
      refine dn (h := ?_)
      exact ctn _ trivial sbz_ slz_
    ·
     refine al (h := fun b5 => ?_)
     refine nx (h := ?_)
     refine one 4 (h := ?_)
     refine cl (hc := fun w hS => hb3 (setV f z.won) w) (h := fun xt hxt => ?_)
     refine nx (h := ?_)
     refine one 6 (h := ?_)
     refine wy (lkC (kv := encT (tb (setV f z.won))) (hm := hxt) (hs := encT_shape _)) ?_
     rw [lkp_enc (p := p), getD_tat, isSome_enc]
     refine nx (h := ?_)
     refine tw 7 ?_
     refine tw 8 ?_
     refine tw 9 ?_
     refine one 11 (h := ?_)
     first | refine stA (h := ?_) | refine stEA (h := ?_)
     refine nx (h := ?_)
     refine tw 12 ?_
     refine dn (h := ?_)
     exact ctn _ trivial sbz_ slz_
   ·
    refine al (h := fun b6 => ?_)
    refine nx (h := ?_)
    refine one 3 (h := ?_)
    refine cl0 (hc := fun w hS => C_rules_set _ _ (by assumption) w) (h := ?_)
    refine nx (h := ?_)
    refine one 4 (h := ?_)
    refine cl (hc := fun w hS => hb3 (setV f z.won) w) (h := fun xt hxt => ?_)
    refine nx (h := ?_)
    refine one 6 (h := ?_)
    refine wy (lkC (kv := encT (tb (setV f z.won))) (hm := hxt) (hs := encT_shape _)) ?_
    rw [lkp_enc (p := p), getD_tat, isSome_enc]
    refine nx (h := ?_)
    refine tw 7 ?_
    refine tw 8 ?_
    refine tw 9 ?_
    refine one 11 (h := ?_)
    first | refine stA (h := ?_) | refine stEA (h := ?_)
    refine nx (h := ?_)
    refine tw 12 ?_
    refine dn (h := ?_)
    exact ctn _ trivial sbz_ slz_
  rintro x9 -
  refine sq ?_
  refine sr ?_
  iterate 3 refine ww ?_
  apply brOr 4 30 34 (by exact rfl)
  ·
   intro hb1
   iterate 3 refine uw ?_
   refine ww ?_
   exact mg (by repeat (first | exact trivial | refine ⟨rfl, ?_⟩ | refine ⟨by rw [hb1]; rfl, ?_⟩)) slz_
  ·
   intro hb1
   repeat (first | refine uz ?_ | refine kz ?_ | refine wz ?_)
   exact mg (by repeat (first | exact trivial | refine ⟨rfl, ?_⟩ | refine ⟨by rw [hb1]; rfl, ?_⟩)) slz_
  refine ww ?_
  apply brOr 4 35 39 (by exact rfl)
  ·
   intro hb2
   iterate 2 refine uw ?_
   refine uz ?_
   refine cl0 (hc := fun w hS => C_rules_over _ _ w) (h := ?_)
   refine ww ?_
   exact mg (by repeat (first | exact trivial | refine ⟨rfl, ?_⟩ | refine ⟨by rw [hb2]; rfl, ?_⟩)) slz_
  ·
   intro hb2
   repeat (first | refine uz ?_ | refine kz ?_ | refine wz ?_)
   exact mg (by repeat (first | exact trivial | refine ⟨rfl, ?_⟩ | refine ⟨by rw [hb2]; rfl, ?_⟩)) slz_
  refine nq ?_
  refine czz (fun h3 => ?_) fun h3 => ?_
  ·
   have hfin : setsTo tb f l l.length = ⟨z.won, 0, false⟩ := by
    have h' : (!(tget (tb (setV f z.won)) p).isSome || !(tat (tb (setV f z.won)) p).2 || overV f z.won) = true := h3
    have hs : setsTo tb f l (z.k + 1) = ⟨z.won, 0, false⟩ := by rw [hstep, setStep]; dsimp only; rw [h']; rfl
    rw [setsTo_stop (j := z.k + 1) (by rw [hs]) (by omega), hs]
   refine sr ?_
   refine ww ?_
   first | refine stA (h := ?_) | refine stEA (h := ?_)
   iterate 2 refine ww ?_
   refine nq ?_
   refine rtn ?_
   refine q_then_ret ?_
   refine q_blk_ret ?_
   iterate 2 refine q_then_ret ?_
   refine q_blk_ret ?_
   refine q_then_ret ?_
   refine q_ret (hR := ?_)
   rw [hfin]
   exact fun w hS => ⟨rfl, hS.sub slz_⟩
  ·
   have h' : (!(tget (tb (setV f z.won)) p).isSome || !(tat (tb (setV f z.won)) p).2 || overV f z.won) = false := h3
   have hsome : (tget (tb (setV f z.won)) p).isSome = true := by simp only [Bool.or_eq_false_iff, Bool.not_eq_false'] at h'; exact h'.1.1
   have hpos : 1 ≤ (tat (tb (setV f z.won)) p).1 := tPos_get (hb2 _) hsome
   refine skp ?_
   refine q_seq ?_
   iterate 2 refine sq ?_
   refine rgD0 (by kernel_rfl) (h := ?_)
   refine tw 0 ?_
   refine tw 1 ?_
   refine tw 2 ?_
   refine tw 3 ?_
   refine tw 4 ?_
   refine dn (h := ?_)
   refine q_seq ?_
   refine czz (fun h4 => ?_) fun h4 => ?_
   ·
    have hord : (bif decide (1000000000001 / z.ord < (tat (tb (setV f z.won)) p).1) then 1000000000001 else z.ord * (tat (tb (setV f z.won)) p).1) = 1000000000001 := by rw [h4]; rfl
    have hob : (1 : Int) ≤ 1000000000001 ∧ (1000000000001 : Int) ≤ 1000000000001 := by omega
    refine rg ?_
    refine ww ?_
    refine nr ?_
    refine ww ?_
    refine nq ?_
    refine sq ?_
    refine sr ?_
    iterate 5 refine ww ?_
    refine nq ?_
    refine czz (fun h5 => ?_) fun h5 => ?_
    ·
     have hsd : setSide p = 1 := by rw [setSide, h5]; rfl
     refine rg ?_
     refine ww ?_
     refine nq ?_
     refine rg ?_
     iterate 2 refine ww ?_
     refine cl0 (hc := fun w hS => C_score_add _ _ (by assumption) w) (h := ?_)
     first | refine stA (h := ?_) | refine stEA (h := ?_)
     refine nl ?_
     refine q_blk_norm ?_
     refine q_seq ?_
     refine rg ?_
     iterate 2 refine ww ?_
     refine nl ?_
     refine rn (x := z) ⟨z.k + 1, addV z.won (setSide p), _⟩ ⟨by dsimp only; omega, by rw [hstep, setStep]; dsimp only; rw [h', hord]; rfl, hob, by have := addV_bd (side := setSide p) hzw; simpa using this⟩ (by dsimp only; omega) sbz_ (by (try dsimp only); rw [hsd]; repeat (first | exact SubL.nil | (apply SubL.cons; (repeat (first | exact At.here | apply At.there)))))
    ·
     have hsd : setSide p = 0 := by rw [setSide, h5]; rfl
     refine skp ?_
     refine q_seq ?_
     refine rg ?_
     iterate 2 refine ww ?_
     refine cl0 (hc := fun w hS => C_score_add _ _ (by assumption) w) (h := ?_)
     first | refine stA (h := ?_) | refine stEA (h := ?_)
     refine nl ?_
     refine q_blk_norm ?_
     refine q_seq ?_
     refine rg ?_
     iterate 2 refine ww ?_
     refine nl ?_
     refine rn (x := z) ⟨z.k + 1, addV z.won (setSide p), _⟩ ⟨by dsimp only; omega, by rw [hstep, setStep]; dsimp only; rw [h', hord]; rfl, hob, by have := addV_bd (side := setSide p) hzw; simpa using this⟩ (by dsimp only; omega) sbz_ (by (try dsimp only); rw [hsd]; repeat (first | exact SubL.nil | (apply SubL.cons; (repeat (first | exact At.here | apply At.there)))))
   ·
    have hord : (bif decide (1000000000001 / z.ord < (tat (tb (setV f z.won)) p).1) then 1000000000001 else z.ord * (tat (tb (setV f z.won)) p).1) = z.ord * (tat (tb (setV f z.won)) p).1 := by rw [h4]; rfl
    have hob : 1 ≤ z.ord * (tat (tb (setV f z.won)) p).1 ∧ z.ord * (tat (tb (setV f z.won)) p).1 ≤ 1000000000001 := by
     have h1 : (tat (tb (setV f z.won)) p).1 ≤ 1000000000001 / z.ord := by simpa using h4
     have h2 := (Int.le_ediv_iff_mul_le (by omega : (0 : Int) < z.ord)).1 h1
     rw [Int.mul_comm] at h2
     exact ⟨Int.mul_pos (by omega) (by omega), h2⟩
    refine rg ?_
    iterate 5 refine ww ?_
    refine nr ?_
    refine ww ?_
    refine nq ?_
    refine sq ?_
    refine sr ?_
    iterate 5 refine ww ?_
    refine nq ?_
    refine czz (fun h6 => ?_) fun h6 => ?_
    ·
     have hsd : setSide p = 1 := by rw [setSide, h6]; rfl
     refine rg ?_
     refine ww ?_
     refine nq ?_
     refine rg ?_
     iterate 2 refine ww ?_
     refine cl0 (hc := fun w hS => C_score_add _ _ (by assumption) w) (h := ?_)
     first | refine stA (h := ?_) | refine stEA (h := ?_)
     refine nl ?_
     refine q_blk_norm ?_
     refine q_seq ?_
     refine rg ?_
     iterate 2 refine ww ?_
     refine nl ?_
     refine rn (x := z) ⟨z.k + 1, addV z.won (setSide p), _⟩ ⟨by dsimp only; omega, by rw [hstep, setStep]; dsimp only; rw [h', hord]; rfl, hob, by have := addV_bd (side := setSide p) hzw; simpa using this⟩ (by dsimp only; omega) sbz_ (by (try dsimp only); rw [hsd]; repeat (first | exact SubL.nil | (apply SubL.cons; (repeat (first | exact At.here | apply At.there)))))
    ·
     have hsd : setSide p = 0 := by rw [setSide, h6]; rfl
     refine skp ?_
     refine q_seq ?_
     refine rg ?_
     iterate 2 refine ww ?_
     refine cl0 (hc := fun w hS => C_score_add _ _ (by assumption) w) (h := ?_)
     first | refine stA (h := ?_) | refine stEA (h := ?_)
     refine nl ?_
     refine q_blk_norm ?_
     refine q_seq ?_
     refine rg ?_
     iterate 2 refine ww ?_
     refine nl ?_
     refine rn (x := z) ⟨z.k + 1, addV z.won (setSide p), _⟩ ⟨by dsimp only; omega, by rw [hstep, setStep]; dsimp only; rw [h', hord]; rfl, hob, by have := addV_bd (side := setSide p) hzw; simpa using this⟩ (by dsimp only; omega) sbz_ (by (try dsimp only); rw [hsd]; repeat (first | exact SubL.nil | (apply SubL.cons; (repeat (first | exact At.here | apply At.there)))))
 ·
  have hkn : z.k = n := by simp only [decide_eq_false_iff_not] at h0; omega
  have hfin : setsTo tb f l l.length = ⟨z.won, z.ord, true⟩ := by rw [hlen, ← hkn]; exact hzr
  refine et ?_
  iterate 2 refine q_then_exit ?_
  refine q_blk_hit ?_
  refine q_seq ?_
  refine sr ?_
  iterate 2 refine ww ?_
  first | refine stA (h := ?_) | refine stEA (h := ?_)
  iterate 2 refine ww ?_
  refine nq ?_
  refine rtn ?_
  refine q_ret (hR := ?_)
  rw [hfin]
  exact fun w hS => ⟨rfl, hS.sub slz_⟩
theorem tOk_table (f : Fmt) (s : Pr) : tOk (tableV f s) := tOk_tbl f s 82
theorem tPos_table (f : Fmt) (s : Pr) : tPos (tableV f s) := tPos_tbl f s 82
end Go.Proofs.YtpmmgljndceplaaGreat

namespace Go.Proofs.YtpmmgljndceplaaGreat
open Go Go.RowKit

theorem brd_len {b : Brd} (h : brdOk b = true) : b.st.length ≤ 5 := by
 simp only [brdOk, Bool.and_eq_true, decide_eq_true_eq] at h
 omega
theorem brd_fit {b : Brd} (h : brdOk b = true) : ∀ p ∈ b.all, (0 ≤ p.1 ∧ p.1 ≤ 40) ∧ 0 ≤ p.2 ∧ p.2 ≤ 40 := fun p hp => by
 simp only [brdOk, Bool.and_eq_true, Bool.not_eq_true', List.any_eq_false] at h
 have := h.2 p hp
 have h2 : fitP p = true := by simpa using this
 simp only [fitP, Bool.and_eq_true, wi_iff] at h2
 exact h2

end Go.Proofs.YtpmmgljndceplaaGreat

namespace Go.Proofs.YtpmmgljndceplaaGreat
open Go Go.RowKit

def isZ (p : Pr) : Bool := decide ([p.1, p.2] = [(0 : Int), 0])
def befV (f : Fmt) (s : Pr) (tie : Bool) (p : Pr) : Bool := decide (0 ≤ min p.1 p.2) && decide (gameV f s tie p < 0)
def arisesT (tb : Pr → Tb) (f : Fmt) (b : Brd) : Pr × Bool :=
 bif !(setsTo tb f b.st b.st.length).ok then ((setsTo tb f b.st b.st.length).won, false)
 else bif overV f (setsTo tb f b.st b.st.length).won then ((setsTo tb f b.st b.st.length).won, isZ b.g && isZ b.p)
 else bif !(tget (tb (setV f (setsTo tb f b.st b.st.length).won)) b.g).isSome || (tat (tb (setV f (setsTo tb f b.st b.st.length).won)) b.g).2 then ((setsTo tb f b.st b.st.length).won, false)
 else bif isZ b.p then ((setsTo tb f b.st b.st.length).won, true)
 else ((setsTo tb f b.st b.st.length).won, (befV f (setV f (setsTo tb f b.st b.st.length).won) (brksV (setV f (setsTo tb f b.st b.st.length).won) b.g) (b.p.1 - 1, b.p.2) || befV f (setV f (setsTo tb f b.st b.st.length).won) (brksV (setV f (setsTo tb f b.st b.st.length).won) b.g) (b.p.1, b.p.2 - 1)) && befV f (setV f (setsTo tb f b.st b.st.length).won) (brksV (setV f (setsTo tb f b.st b.st.length).won) b.g) b.p)
def arisesV (f : Fmt) (b : Brd) : Pr × Bool := arisesT (tableV f) f b

theorem T_arises1 (f : Fmt) (s : Pr) (tie : Bool) (p : Pr) (hp : Sm p) (a0 a1 a2 : Nat) :
  Tr Tryz.prog 83 [pv p, .pointer (some ⟨a0, 0, none⟩), .pointer (some ⟨a1, 0, none⟩), .pointer (some ⟨a2, 0, none⟩)] [.blk a0 91 f.cells, .blk a1 107 [.int .i64 s.1, .int .i64 s.2], .blk a2 4 [.bool tie]] (fun _ : Unit => True) (fun _ => .bool (befV f s tie p)) (fun _ => [.blk a0 91 f.cells, .blk a1 107 [.int .i64 s.1, .int .i64 s.2], .blk a2 4 [.bool tie]]) := by
 refine ⟨fun w0 w R hst => ?_⟩
 refine en Tryz.func83 Tryz.ntmps83 hst (h := fun F => ?_)
 refine sr ?_
 refine bxA (h := fun b0 => ?_)
 refine ww ?_
 refine nr ?_
 iterate 7 refine ww ?_
 apply brAnd 7 12 19 (by exact rfl)
 ·
  intro hb0
  iterate 4 refine uw ?_
  refine uz ?_
  refine cl0 (hc := fun w hS => C_rules_game f s tie p hp w) (h := ?_)
  refine uw ?_
  refine ww ?_
  exact mg (by repeat (first | exact trivial | refine ⟨rfl, ?_⟩ | refine ⟨by rw [hb0]; rfl, ?_⟩)) slz_
 ·
  intro hb0
  repeat (first | refine uz ?_ | refine kz ?_ | refine wz ?_)
  exact mg (by repeat (first | exact trivial | refine ⟨rfl, ?_⟩ | refine ⟨by rw [hb0]; rfl, ?_⟩)) slz_
 refine ww ?_
 refine nq ?_
 refine rtn ?_
 refine q_ret (hR := ?_)
 exact fun w hS => ⟨(), trivial, rfl, hS.sub slz_⟩

set_option maxRecDepth 100000 in
set_option maxHeartbeats 2000000 in
theorem C_rules_arises' (tb : Pr → Tb) (f : Fmt) (b : Brd) (hb1 : ∀ s, tOk (tb s)) (hb2 : ∀ s, tPos (tb s)) (hb3 : ∀ (s : Pr) (w : World), CR Tryz.prog 81 [f.val, pv s] w (fun x : Nat × Array MapEntry × Nat => MapIs x.2.1 (encT (tb s))) (fun x => .map (some x.1)) (fun x => [.obj x.1 (.map x.2.1 x.2.2)])) (hf : f.Ok) (hbp : (0 ≤ b.p.1 ∧ b.p.1 ≤ 1000) ∧ 0 ≤ b.p.2 ∧ b.p.2 ≤ 1000) (A : Option Addr) (n c : Nat) (w : World) (h : Rd w A 2 n (encP b.st)) (hn : n ≤ 1000) :
  C0 Tryz.prog 49 [f.val, b.val A n c] w (.tuple #[pv (arisesT tb f b).1, .bool (arisesT tb f b).2]) := by
 have hSp : Sm b.p := sm_of hbp (by omega)
 have hSp1 : Sm (b.p.1 - 1, b.p.2) := ⟨by dsimp only; omega, by dsimp only; omega⟩
 have hSp2 : Sm (b.p.1, b.p.2 - 1) := ⟨by dsimp only; omega, by dsimp only; omega⟩
 obtain ⟨r, hr⟩ : ∃ r, r = setsTo tb f b.st b.st.length := ⟨_, rfl⟩
 unfold arisesT
 rw [← hr]
 refine ⟨en Tryz.func49 Tryz.ntmps49 ((St.init w).share (e := .ro A 2 n (encP b.st)) h rfl rfl rfl) (h := fun F => ?_)⟩
 refine sr ?_
 refine bxA (h := fun b0 => ?_)
 refine bxA (h := fun b1 => ?_)
 refine al (h := fun b2 => ?_)
 refine ww ?_
 refine nr ?_
 iterate 3 refine ww ?_
 refine cl0 (hc := fun w hS => C_rules_sets' tb f b.st hb1 hb2 hb3 hf A n c w (hS.get rdz_) hn) (h := ?_)
 rw [← hr]
 iterate 4 refine ww ?_
 first | refine stA (h := ?_) | refine stEA (h := ?_)
 refine ww ?_
 refine nq ?_
 refine sq ?_
 refine sr ?_
 iterate 2 refine ww ?_
 refine nq ?_
 refine czz (fun h0 => ?_) fun h0 => ?_
 ·
  refine sr ?_
  refine ww ?_
  first | refine stA (h := ?_) | refine stEA (h := ?_)
  refine ww ?_
  refine nq ?_
  refine rtn ?_
  refine q_then_ret ?_
  refine q_ret (hR := ?_)
  exact fun w hS => ⟨by rw [h0]; rfl, hS.sub slz_⟩
 ·
  have kA : (!r.ok) = false := h0
  refine skp ?_
  refine q_seq ?_
  refine sq ?_
  refine sr ?_
  iterate 2 refine ww ?_
  refine cl0 (hc := fun w hS => C_rules_over _ _ w) (h := ?_)
  refine nq ?_
  refine czz (fun h1 => ?_) fun h1 => ?_
  ·
   have kB : overV f r.won = true := h1
   refine sq ?_
   refine rgD (by kernel_rfl) [(11, .blk b2 38 [.int .i64 r.won.1, .int .i64 r.won.2]), (1000000, .blk b1 40 (b.cells A n c))] (by repeat (first | exact HS.nil | (apply HS.keep; (repeat (first | exact At.here | apply At.there))) | (apply HS.ro; (repeat (first | exact Rds.ro | exact Rds.own | apply Rds.there))))) (h := ?_)
   refine tw 0 ?_
   refine tw 1 ?_
   refine tw 2 ?_
   refine tw 3 ?_
   refine tk 4 (hy := eqlT) (h := ?_)
   refine tw 5 ?_
   refine brH (g := 32) (by exact rfl) (fun hb2 => ?_) (fun hb2 => ?_)
   ·
    have kZ : isZ b.g = true := hb2
    refine tw 6 ?_
    refine tw 7 ?_
    refine tw 8 ?_
    refine tk 9 (hy := eqlT) (h := ?_)
    refine tw 10 ?_
    refine one 11 (h := ?_)
    first | refine stA (h := ?_) | refine stEA (h := ?_)
    refine nx (h := ?_)
    refine tw 12 ?_
    refine dn (h := ?_)
    refine q_seq ?_
    refine rtn ?_
    refine q_then_ret ?_
    refine q_ret (hR := ?_)
    first
     | (rw [kA, kB, kC, kD, kE]; exact fun w hS => ⟨rfl, hS.sub slz_⟩)
     | (rw [kA, kB, kC, kD]; exact fun w hS => ⟨rfl, hS.sub slz_⟩)
     | (rw [kA, kB, kC]; exact fun w hS => ⟨rfl, hS.sub slz_⟩)
     | (rw [kA, kB, kZ]; exact fun w hS => ⟨rfl, hS.sub slz_⟩)
   ·
    have kZ : isZ b.g = false := hb2
    refine tkS 6 (h := ?_)
    refine tkS 7 (h := ?_)
    refine tkS 8 (h := ?_)
    refine tkS 9 (h := ?_)
    refine tw 10 ?_
    refine one 11 (h := ?_)
    first | refine stA (h := ?_) | refine stEA (h := ?_)
    refine nx (h := ?_)
    refine tw 12 ?_
    refine dn (h := ?_)
    refine q_seq ?_
    refine rtn ?_
    refine q_then_ret ?_
    refine q_ret (hR := ?_)
    first
     | (rw [kA, kB, kC, kD, kE]; exact fun w hS => ⟨rfl, hS.sub slz_⟩)
     | (rw [kA, kB, kC, kD]; exact fun w hS => ⟨rfl, hS.sub slz_⟩)
     | (rw [kA, kB, kC]; exact fun w hS => ⟨rfl, hS.sub slz_⟩)
     | (rw [kA, kB, kZ]; exact fun w hS => ⟨rfl, hS.sub slz_⟩)
  ·
   have kB : overV f r.won = false := h1
   refine skp ?_
   refine q_seq ?_
   refine sr ?_
   iterate 2 refine ww ?_
   refine cl0 (hc := fun w hS => C_rules_set _ _ (by assumption) w) (h := ?_)
   refine al (h := fun b3 => ?_)
   first | refine stA (h := ?_) | refine stEA (h := ?_)
   refine nq ?_
   refine ct (X := Nat) (fun _ => True) (fun x => [(2, .pointer (some ⟨b0, 0, none⟩)), (3, .pointer (some ⟨b1, 0, none⟩)), (4, .pointer (some ⟨b2, 0, none⟩)), (6, .pointer (some ⟨b3, 0, none⟩)), (7, .pointer (some ⟨x, 0, none⟩)), (8, .bool (tget (tb (setV f r.won)) b.g).isSome)]) (fun x => [.blk x 167 [.int .i64 (tat (tb (setV f r.won)) b.g).1, .bool (tat (tb (setV f r.won)) b.g).2], .blk b0 91 f.cells, .blk b1 40 (b.cells A n c), .blk b2 38 [.int .i64 r.won.1, .int .i64 r.won.2], .blk b3 107 [.int .i64 (setV f r.won).1, .int .i64 (setV f r.won).2]]) (h1 := ?_) (h2 := ?_)
   ·
    refine rgD (by kernel_rfl) [(1000000, .blk b0 91 f.cells), (1000000, .blk b3 107 [.int .i64 (setV f r.won).1, .int .i64 (setV f r.won).2]), (1000000, .blk b1 40 (b.cells A n c))] (by repeat (first | exact HS.nil | (apply HS.keep; (repeat (first | exact At.here | apply At.there))) | (apply HS.ro; (repeat (first | exact Rds.ro | exact Rds.own | apply Rds.there))))) (h := ?_)
    refine tw 0 ?_
    refine tw 1 ?_
    refine tw 3 ?_
    refine tw 4 ?_
    refine two 2 9 (h1 := ?_) (h2 := ?_)
    ·
     refine cl (hc := fun w hS => hb3 (setV f r.won) w) (h := fun xt hxt => ?_)
     refine nx (h := ?_)
     refine two 5 9 (h1 := ?_) (h2 := ?_)
     ·
      refine wy (lkC (kv := encT (tb (setV f r.won))) (hm := hxt) (hs := encT_shape _)) ?_
      rw [lkp_enc (p := b.g), getD_tat, isSome_enc]
      refine nx (h := ?_)
      refine tw 6 ?_
      refine tw 7 ?_
      refine tw 8 ?_
      refine one 9 (h := ?_)
      refine al (h := fun b4 => ?_)
      refine nx (h := ?_)
      refine one 10 (h := ?_)
      first | refine stA (h := ?_) | refine stEA (h := ?_)
      refine nx (h := ?_)
      refine tw 11 ?_
      refine dn (h := ?_)
      exact ctn _ trivial sbz_ slz_
     ·
      refine al (h := fun b5 => ?_)
      refine nx (h := ?_)
      refine one 5 (h := ?_)
      refine wy (lkC (kv := encT (tb (setV f r.won))) (hm := hxt) (hs := encT_shape _)) ?_
      rw [lkp_enc (p := b.g), getD_tat, isSome_enc]
      refine nx (h := ?_)
      refine tw 6 ?_
      refine tw 7 ?_
      refine tw 8 ?_
      refine one 10 (h := ?_)
      first | refine stA (h := ?_) | refine stEA (h := ?_)
      refine nx (h := ?_)
      refine tw 11 ?_
      refine dn (h := ?_)
      exact ctn _ trivial sbz_ slz_
    ·
     refine al (h := fun b6 => ?_)
     refine nx (h := ?_)
     refine one 2 (h := ?_)
     refine cl (hc := fun w hS => hb3 (setV f r.won) w) (h := fun xt hxt => ?_)
     refine nx (h := ?_)
     refine one 5 (h := ?_)
     refine wy (lkC (kv := encT (tb (setV f r.won))) (hm := hxt) (hs := encT_shape _)) ?_
     rw [lkp_enc (p := b.g), getD_tat, isSome_enc]
     refine nx (h := ?_)
     refine tw 6 ?_
     refine tw 7 ?_
     refine tw 8 ?_
     refine one 10 (h := ?_)
     first | refine stA (h := ?_) | refine stEA (h := ?_)
     refine nx (h := ?_)
     refine tw 11 ?_
     refine dn (h := ?_)
     exact ctn _ trivial sbz_ slz_
   rintro x7 -
   obtain ⟨x6, hx6⟩ : ∃ x6, x6 = b3 := ⟨_, rfl⟩
   rw [← hx6]
   refine sq ?_
   refine sr ?_
   iterate 3 refine ww ?_
   apply brOr 3 52 55 (by exact rfl)
   ·
    intro hb3
    iterate 2 refine uw ?_
    refine ww ?_
    exact mg (by repeat (first | exact trivial | refine ⟨rfl, ?_⟩ | refine ⟨by rw [hb3]; rfl, ?_⟩)) slz_
   ·
    intro hb3
    repeat (first | refine uz ?_ | refine kz ?_ | refine wz ?_)
    exact mg (by repeat (first | exact trivial | refine ⟨rfl, ?_⟩ | refine ⟨by rw [hb3]; rfl, ?_⟩)) slz_
   refine nq ?_
   refine czz (fun h4 => ?_) fun h4 => ?_
   ·
    have kC : (!(tget (tb (setV f r.won)) b.g).isSome || (tat (tb (setV f r.won)) b.g).2) = true := h4
    refine sr ?_
    refine ww ?_
    first | refine stA (h := ?_) | refine stEA (h := ?_)
    refine ww ?_
    refine nq ?_
    refine rtn ?_
    refine q_then_ret ?_
    refine q_ret (hR := ?_)
    first
     | (rw [kA, kB, kC, kD, kE]; exact fun w hS => ⟨rfl, hS.sub slz_⟩)
     | (rw [kA, kB, kC, kD]; exact fun w hS => ⟨rfl, hS.sub slz_⟩)
     | (rw [kA, kB, kC]; exact fun w hS => ⟨rfl, hS.sub slz_⟩)
     | (rw [kA, kB, kZ]; exact fun w hS => ⟨rfl, hS.sub slz_⟩)
   ·
    have kC : (!(tget (tb (setV f r.won)) b.g).isSome || (tat (tb (setV f r.won)) b.g).2) = false := h4
    refine skp ?_
    refine q_seq ?_
    refine ct (X := Nat × Nat) (fun _ => True) (fun x => [(2, .pointer (some ⟨b0, 0, none⟩)), (3, .pointer (some ⟨b1, 0, none⟩)), (4, .pointer (some ⟨b2, 0, none⟩)), (6, .pointer (some ⟨x6, 0, none⟩)), (9, .pointer (some ⟨x.1, 0, none⟩)), (10, .pointer (some ⟨x.2, 0, none⟩))]) (fun x => [.blk x.1 4 [.bool (brksV (setV f r.won) b.g)], .blk x.2 38 [.int .i64 b.p.1, .int .i64 b.p.2], .blk b0 91 f.cells, .blk b1 40 (b.cells A n c), .blk b2 38 [.int .i64 r.won.1, .int .i64 r.won.2], .blk x6 107 [.int .i64 (setV f r.won).1, .int .i64 (setV f r.won).2]]) (h1 := ?_) (h2 := ?_)
    ·
     refine rgD (by kernel_rfl) [(1000000, .blk x6 107 [.int .i64 (setV f r.won).1, .int .i64 (setV f r.won).2]), (1000000, .blk b1 40 (b.cells A n c))] (by repeat (first | exact HS.nil | (apply HS.keep; (repeat (first | exact At.here | apply At.there))) | (apply HS.ro; (repeat (first | exact Rds.ro | exact Rds.own | apply Rds.there))))) (h := ?_)
     refine tw 0 ?_
     refine tw 1 ?_
     refine tw 2 ?_
     refine tw 4 ?_
     refine tw 5 ?_
     refine fan [3, 6, 7] (h := ⟨⟨_, by exact rfl, ?_⟩, ⟨_, by exact rfl, ?_⟩, ⟨_, by exact rfl, ?_⟩, trivial⟩)
     ·
      refine cl0 (hc := fun w hS => C_set_breaks (setV f r.won) b.g w) (h := ?_)
      refine nx (h := ?_)
      refine two 6 7 (h1 := ?_) (h2 := ?_)
      ·
       refine al (h := fun b7 => ?_)
       refine nx (h := ?_)
       refine one 7 (h := ?_)
       refine al (h := fun b8 => ?_)
       refine nx (h := ?_)
       refine one 8 (h := ?_)
       first | refine st (h := ?_) | refine stE (h := ?_)
       refine nx (h := ?_)
       refine one 9 (h := ?_)
       first | refine stA (h := ?_) | refine stEA (h := ?_)
       refine nx (h := ?_)
       refine dn (h := ?_)
       exact ctn ⟨_, _⟩ trivial sbz_ slz_
      ·
       refine al (h := fun b9 => ?_)
       refine nx (h := ?_)
       refine one 6 (h := ?_)
       refine al (h := fun b10 => ?_)
       refine nx (h := ?_)
       refine one 8 (h := ?_)
       first | refine st (h := ?_) | refine stE (h := ?_)
       refine nx (h := ?_)
       refine one 9 (h := ?_)
       first | refine stA (h := ?_) | refine stEA (h := ?_)
       refine nx (h := ?_)
       refine dn (h := ?_)
       exact ctn ⟨_, _⟩ trivial sbz_ slz_
     ·
      refine al (h := fun b11 => ?_)
      refine nx (h := ?_)
      refine two 3 7 (h1 := ?_) (h2 := ?_)
      ·
       refine cl0 (hc := fun w hS => C_set_breaks (setV f r.won) b.g w) (h := ?_)
       refine nx (h := ?_)
       refine one 7 (h := ?_)
       refine al (h := fun b12 => ?_)
       refine nx (h := ?_)
       refine one 8 (h := ?_)
       first | refine st (h := ?_) | refine stE (h := ?_)
       refine nx (h := ?_)
       refine one 9 (h := ?_)
       first | refine stA (h := ?_) | refine stEA (h := ?_)
       refine nx (h := ?_)
       refine dn (h := ?_)
       exact ctn ⟨_, _⟩ trivial sbz_ slz_
      ·
       refine al (h := fun b13 => ?_)
       refine nx (h := ?_)
       refine one 3 (h := ?_)
       refine cl0 (hc := fun w hS => C_set_breaks (setV f r.won) b.g w) (h := ?_)
       refine nx (h := ?_)
       refine one 8 (h := ?_)
       first | refine st (h := ?_) | refine stE (h := ?_)
       refine nx (h := ?_)
       refine one 9 (h := ?_)
       first | refine stA (h := ?_) | refine stEA (h := ?_)
       refine nx (h := ?_)
       refine dn (h := ?_)
       exact ctn ⟨_, _⟩ trivial sbz_ slz_
     ·
      refine al (h := fun b14 => ?_)
      refine nx (h := ?_)
      refine two 3 6 (h1 := ?_) (h2 := ?_)
      ·
       refine cl0 (hc := fun w hS => C_set_breaks (setV f r.won) b.g w) (h := ?_)
       refine nx (h := ?_)
       refine one 6 (h := ?_)
       refine al (h := fun b15 => ?_)
       refine nx (h := ?_)
       refine one 8 (h := ?_)
       first | refine st (h := ?_) | refine stE (h := ?_)
       refine nx (h := ?_)
       refine one 9 (h := ?_)
       first | refine stA (h := ?_) | refine stEA (h := ?_)
       refine nx (h := ?_)
       refine dn (h := ?_)
       exact ctn ⟨_, _⟩ trivial sbz_ slz_
      ·
       refine al (h := fun b16 => ?_)
       refine nx (h := ?_)
       refine one 3 (h := ?_)
       refine cl0 (hc := fun w hS => C_set_breaks (setV f r.won) b.g w) (h := ?_)
       refine nx (h := ?_)
       refine one 8 (h := ?_)
       first | refine st (h := ?_) | refine stE (h := ?_)
       refine nx (h := ?_)
       refine one 9 (h := ?_)
       first | refine stA (h := ?_) | refine stEA (h := ?_)
       refine nx (h := ?_)
       refine dn (h := ?_)
       exact ctn ⟨_, _⟩ trivial sbz_ slz_
    rintro ⟨x9, x10⟩ -
    refine sr ?_
    iterate 2 refine ww ?_
    refine nq ?_
    refine sq ?_
    refine sr ?_
    iterate 2 refine ww ?_
    refine wy eqlT ?_
    refine nq ?_
    refine czz (fun h5 => ?_) fun h5 => ?_
    ·
     have kD : isZ b.p = true := h5
     refine sr ?_
     refine ww ?_
     first | refine stA (h := ?_) | refine stEA (h := ?_)
     refine ww ?_
     refine nq ?_
     refine rtn ?_
     refine q_then_ret ?_
     refine q_ret (hR := ?_)
     first
      | (rw [kA, kB, kC, kD, kE]; exact fun w hS => ⟨rfl, hS.sub slz_⟩)
      | (rw [kA, kB, kC, kD]; exact fun w hS => ⟨rfl, hS.sub slz_⟩)
      | (rw [kA, kB, kC]; exact fun w hS => ⟨rfl, hS.sub slz_⟩)
      | (rw [kA, kB, kZ]; exact fun w hS => ⟨rfl, hS.sub slz_⟩)
    ·
     have kD : isZ b.p = false := h5
     refine skp ?_
     refine q_seq ?_
     refine sr ?_
     iterate 7 refine ww ?_
     refine clfT inferInstance (fi := []) (cap := [.pointer (some ⟨b0, 0, none⟩), .pointer (some ⟨x6, 0, none⟩), .pointer (some ⟨x9, 0, none⟩)]) (by exact rfl) (by repeat (first | exact Evs.nil | (apply Evs.cons; exact rfl))) (T_arises1 f (setV f r.won) (brksV (setV f r.won) b.g) (b.p.1 - 1, b.p.2) hSp1 b0 x6 x9) rfl (by repeat (first | exact Spl.nil | (apply Spl.cons; (repeat (first | exact At.here | apply At.there))))) (h := fun _ _ => ?_)
     refine ww ?_
     apply brOr 9 76 85 (by exact rfl)
     ·
      intro hb6
      iterate 7 refine uw ?_
      refine uz ?_
      refine clfT inferInstance (fi := []) (cap := [.pointer (some ⟨b0, 0, none⟩), .pointer (some ⟨x6, 0, none⟩), .pointer (some ⟨x9, 0, none⟩)]) (by exact rfl) (by repeat (first | exact Evs.nil | (apply Evs.cons; exact rfl))) (T_arises1 f (setV f r.won) (brksV (setV f r.won) b.g) (b.p.1, b.p.2 - 1) hSp2 b0 x6 x9) rfl (by repeat (first | exact Spl.nil | (apply Spl.cons; (repeat (first | exact At.here | apply At.there))))) (h := fun _ _ => ?_)
      refine ww ?_
      exact mg (by repeat (first | exact trivial | refine ⟨rfl, ?_⟩ | refine ⟨by rw [hb6]; rfl, ?_⟩)) slz_
     ·
      intro hb6
      repeat (first | refine uz ?_ | refine kz ?_ | refine wz ?_)
      exact mg (by repeat (first | exact trivial | refine ⟨rfl, ?_⟩ | refine ⟨by rw [hb6]; rfl, ?_⟩)) slz_
     refine ww ?_
     refine nq ?_
     refine sq ?_
     refine rgD (by kernel_rfl) [(7, .blk b2 38 [.int .i64 r.won.1, .int .i64 r.won.2]), (1000000, .blk x10 38 [.int .i64 b.p.1, .int .i64 b.p.2])] (by repeat (first | exact HS.nil | (apply HS.keep; (repeat (first | exact At.here | apply At.there))) | (apply HS.ro; (repeat (first | exact Rds.ro | exact Rds.own | apply Rds.there))))) (h := ?_)
     refine tw 0 ?_
     refine tw 1 ?_
     refine tw 2 ?_
     refine brH (g := 88) (by exact rfl) (fun hb7 => ?_) (fun hb7 => ?_)
     ·
      have kE : (befV f (setV f r.won) (brksV (setV f r.won) b.g) (b.p.1 - 1, b.p.2) || befV f (setV f r.won) (brksV (setV f r.won) b.g) (b.p.1, b.p.2 - 1)) = true := hb7
      refine tw 3 ?_
      refine tw 4 ?_
      refine one 5 (h := ?_)
      refine uz ?_
      refine clfT inferInstance (fi := []) (cap := [.pointer (some ⟨b0, 0, none⟩), .pointer (some ⟨x6, 0, none⟩), .pointer (some ⟨x9, 0, none⟩)]) (by exact rfl) (by repeat (first | exact Evs.nil | (apply Evs.cons; exact rfl))) (T_arises1 f (setV f r.won) (brksV (setV f r.won) b.g) b.p hSp b0 x6 x9) rfl (by repeat (first | exact Spl.nil | (apply Spl.cons; (repeat (first | exact At.here | apply At.there))))) (h := fun _ _ => ?_)
      refine nx (h := ?_)
      refine tw 6 ?_
      refine one 7 (h := ?_)
      first | refine stA (h := ?_) | refine stEA (h := ?_)
      refine nx (h := ?_)
      refine tw 8 ?_
      refine dn (h := ?_)
      refine q_seq ?_
      refine rtn ?_
      refine q_ret (hR := ?_)
      first
       | (rw [kA, kB, kC, kD, kE]; exact fun w hS => ⟨rfl, hS.sub slz_⟩)
       | (rw [kA, kB, kC, kD]; exact fun w hS => ⟨rfl, hS.sub slz_⟩)
       | (rw [kA, kB, kC]; exact fun w hS => ⟨rfl, hS.sub slz_⟩)
       | (rw [kA, kB, kZ]; exact fun w hS => ⟨rfl, hS.sub slz_⟩)
     ·
      have kE : (befV f (setV f r.won) (brksV (setV f r.won) b.g) (b.p.1 - 1, b.p.2) || befV f (setV f r.won) (brksV (setV f r.won) b.g) (b.p.1, b.p.2 - 1)) = false := hb7
      refine tkS 3 (h := ?_)
      refine tkS 4 (h := ?_)
      refine tkS 5 (h := ?_)
      refine tw 6 ?_
      refine one 7 (h := ?_)
      first | refine stA (h := ?_) | refine stEA (h := ?_)
      refine nx (h := ?_)
      refine tw 8 ?_
      refine dn (h := ?_)
      refine q_seq ?_
      refine rtn ?_
      refine q_ret (hR := ?_)
      first
       | (rw [kA, kB, kC, kD, kE]; exact fun w hS => ⟨rfl, hS.sub slz_⟩)
       | (rw [kA, kB, kC, kD]; exact fun w hS => ⟨rfl, hS.sub slz_⟩)
       | (rw [kA, kB, kC]; exact fun w hS => ⟨rfl, hS.sub slz_⟩)
       | (rw [kA, kB, kZ]; exact fun w hS => ⟨rfl, hS.sub slz_⟩)
theorem C_rules_arises (f : Fmt) (b : Brd) (hf : f.Ok) (hbp : (0 ≤ b.p.1 ∧ b.p.1 ≤ 1000) ∧ 0 ≤ b.p.2 ∧ b.p.2 ≤ 1000) (A : Option Addr) (n c : Nat) (w : World) (h : Rd w A 2 n (encP b.st)) (hn : n ≤ 1000) :
  C0 Tryz.prog 49 [f.val, b.val A n c] w (.tuple #[pv (arisesV f b).1, .bool (arisesV f b).2]) :=
 C_rules_arises' (tableV f) f b (tOk_table f) (tPos_table f) (C_rules_table f) hf hbp A n c w h hn
end Go.Proofs.YtpmmgljndceplaaGreat

namespace Go.Proofs.YtpmmgljndceplaaGreat
open Go Go.RowKit

end Go.Proofs.YtpmmgljndceplaaGreat

namespace Go.Proofs.YtpmmgljndceplaaGreat
open Go Go.RowKit

end Go.Proofs.YtpmmgljndceplaaGreat

namespace Go.Proofs.YtpmmgljndceplaaGreat
open Go Go.RowKit

def WonOk (f : Fmt) (p : Pr) : Prop := (0 ≤ p.1 ∧ p.1 ≤ f.sets) ∧ 0 ≤ p.2 ∧ p.2 ≤ f.sets
theorem setStep_won {tb : Pr → Tb} {f : Fmt} {r : SR} {p : Pr} (h : WonOk f r.won) : WonOk f (setStep tb f r p).won := by
 unfold setStep
 cases hb : !(tget (tb (setV f r.won)) p).isSome || !(tat (tb (setV f r.won)) p).2 || overV f r.won
 ·
  simp only [cond_false]
  have ho : overV f r.won = false := by simp only [Bool.or_eq_false_iff] at hb; exact hb.2
  have hm : ¬ max r.won.1 r.won.2 = f.sets := by simpa [overV] using ho
  have := h
  unfold WonOk at this ⊢
  unfold addV
  cases decide (setSide p = 0) <;> simp only [cond_true, cond_false] <;> omega
 ·
  exact h
theorem setsTo_won {tb : Pr → Tb} {f : Fmt} {l : List Pr} (hs : 0 ≤ f.sets) : ∀ k, WonOk f (setsTo tb f l k).won
 | 0 => by unfold WonOk; simp only [setsTo]; omega
 | k + 1 => by
  have ih := setsTo_won (tb := tb) (l := l) hs k
  rw [setsTo]
  cases l[k]? with
  | none => exact ih
  | some p =>
   dsimp only
   cases (setsTo tb f l k).ok
   ·
    exact ih
   ·
    exact setStep_won ih
theorem arises_won (tb : Pr → Tb) (f : Fmt) (b : Brd) : (arisesT tb f b).1 = (setsTo tb f b.st b.st.length).won := by
 unfold arisesT
 repeat (first | rfl | (cases (_ : Bool) <;> rfl) | (rw [Bool.cond_eq_ite]; split))
end Go.Proofs.YtpmmgljndceplaaGreat
