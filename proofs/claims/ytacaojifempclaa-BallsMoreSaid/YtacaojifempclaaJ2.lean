/- The texts of the walk, part 2. -/
import Derived.Test.YtacaojifempclaaJ1
import Derived.Test.YtacaojifempclaaProg
import Derived.KernelRfl
import Derived.Laws.MakeOwn
namespace Go.Proofs.Ytacaojifempclaa
open Go

-- 1 func()
instance : Ty Try.prog 1 false 1 8 (.nilFunc) [.nilFunc] := ⟨by kernel_rfl, by kernel_rfl, rfl, rfl⟩
-- 2 int64
instance : Ty Try.prog 2 false 1 8 (.int .i64 0) [.int .i64 0] := ⟨by kernel_rfl, by kernel_rfl, rfl, rfl⟩
-- 3 int
instance : Ty Try.prog 3 false 1 8 (.int .i64 0) [.int .i64 0] := ⟨by kernel_rfl, by kernel_rfl, rfl, rfl⟩
-- 4 bool
instance : Ty Try.prog 4 false 1 1 (.bool false) [.bool false] := ⟨by kernel_rfl, by kernel_rfl, rfl, rfl⟩
-- 5 uint8
instance : Ty Try.prog 5 false 1 1 (.int .u8 0) [.int .u8 0] := ⟨by kernel_rfl, by kernel_rfl, rfl, rfl⟩
-- 7 struct { x int64; y int; signed bool; code abi.BoundsErrorCode }
instance : Ty Try.prog 7 true 4 24 (.agg #[.int .i64 0, .int .i64 0, .bool false, .int .u8 0]) [.int .i64 0, .int .i64 0, .bool false, .int .u8 0] := ⟨by kernel_rfl, by kernel_rfl, rfl, rfl⟩
instance : FieldTy Try.prog 7 0 0 2 0 := ⟨by kernel_rfl, by kernel_rfl⟩
instance : FieldTy Try.prog 7 1 1 3 0 := ⟨by kernel_rfl, by kernel_rfl⟩
instance : FieldTy Try.prog 7 2 2 4 0 := ⟨by kernel_rfl, by kernel_rfl⟩
instance : FieldTy Try.prog 7 3 3 6 0 := ⟨by kernel_rfl, by kernel_rfl⟩
instance : BuildTy Try.prog 7 [(0, 1), (1, 1), (2, 1), (3, 1)] [.int .i64 0, .int .i64 0, .bool false, .int .u8 0] := ⟨fun parts => by kernel_rfl⟩
-- 9 string
instance : Ty Try.prog 9 false 1 16 (.string ByteArray.empty) [.string ByteArray.empty] := ⟨by kernel_rfl, by kernel_rfl, rfl, rfl⟩
-- 12 uintptr
instance : Ty Try.prog 12 false 1 8 (.int .u64 0) [.int .u64 0] := ⟨by kernel_rfl, by kernel_rfl, rfl, rfl⟩
-- 13 struct { msg string; addr uintptr }
instance : Ty Try.prog 13 true 2 24 (.agg #[.string ByteArray.empty, .int .u64 0]) [.string ByteArray.empty, .int .u64 0] := ⟨by kernel_rfl, by kernel_rfl, rfl, rfl⟩
instance : FieldTy Try.prog 13 0 0 9 0 := ⟨by kernel_rfl, by kernel_rfl⟩
instance : FieldTy Try.prog 13 1 1 12 0 := ⟨by kernel_rfl, by kernel_rfl⟩
instance : BuildTy Try.prog 13 [(0, 1), (1, 1)] [.string ByteArray.empty, .int .u64 0] := ⟨fun parts => by kernel_rfl⟩
-- 18 struct { typ *abi.Type }
instance : Ty Try.prog 18 true 1 8 (.agg #[.pointer none]) [.pointer none] := ⟨by kernel_rfl, by kernel_rfl, rfl, rfl⟩
instance : FieldTy Try.prog 18 0 0 17 0 := ⟨by kernel_rfl, by kernel_rfl⟩
instance : BuildTy Try.prog 18 [(0, 1)] [.pointer none] := ⟨fun parts => by kernel_rfl⟩
-- 20 
instance : Ty Try.prog 20 false 1 16 (.nilIface) [.nilIface] := ⟨by kernel_rfl, by kernel_rfl, rfl, rfl⟩
-- 21 int32
instance : Ty Try.prog 21 false 1 4 (.int .i32 0) [.int .i32 0] := ⟨by kernel_rfl, by kernel_rfl, rfl, rfl⟩
-- 22 struct { Sets int; Games int; NoAd bool; Tie int; To int; LastTie int; LastTo int; First int; Then int; Doubles bool }
instance : Ty Try.prog 22 true 10 80 (.agg #[.int .i64 0, .int .i64 0, .bool false, .int .i64 0, .int .i64 0, .int .i64 0, .int .i64 0, .int .i64 0, .int .i64 0, .bool false]) [.int .i64 0, .int .i64 0, .bool false, .int .i64 0, .int .i64 0, .int .i64 0, .int .i64 0, .int .i64 0, .int .i64 0, .bool false] := ⟨by kernel_rfl, by kernel_rfl, rfl, rfl⟩
instance : FieldTy Try.prog 22 0 0 3 0 := ⟨by kernel_rfl, by kernel_rfl⟩
instance : FieldTy Try.prog 22 1 1 3 0 := ⟨by kernel_rfl, by kernel_rfl⟩
instance : FieldTy Try.prog 22 2 2 4 0 := ⟨by kernel_rfl, by kernel_rfl⟩
instance : FieldTy Try.prog 22 3 3 3 0 := ⟨by kernel_rfl, by kernel_rfl⟩
instance : FieldTy Try.prog 22 4 4 3 0 := ⟨by kernel_rfl, by kernel_rfl⟩
instance : FieldTy Try.prog 22 5 5 3 0 := ⟨by kernel_rfl, by kernel_rfl⟩
instance : FieldTy Try.prog 22 6 6 3 0 := ⟨by kernel_rfl, by kernel_rfl⟩
instance : FieldTy Try.prog 22 7 7 3 0 := ⟨by kernel_rfl, by kernel_rfl⟩
instance : FieldTy Try.prog 22 8 8 3 0 := ⟨by kernel_rfl, by kernel_rfl⟩
instance : FieldTy Try.prog 22 9 9 4 0 := ⟨by kernel_rfl, by kernel_rfl⟩
instance : BuildTy Try.prog 22 [(0, 1), (1, 1), (2, 1), (3, 1), (4, 1), (5, 1), (6, 1), (7, 1), (8, 1), (9, 1)] [.int .i64 0, .int .i64 0, .bool false, .int .i64 0, .int .i64 0, .int .i64 0, .int .i64 0, .int .i64 0, .int .i64 0, .bool false] := ⟨fun parts => by kernel_rfl⟩
-- 23 deuce/api.Format
instance : Ty Try.prog 23 true 10 80 (.agg #[.int .i64 0, .int .i64 0, .bool false, .int .i64 0, .int .i64 0, .int .i64 0, .int .i64 0, .int .i64 0, .int .i64 0, .bool false]) [.int .i64 0, .int .i64 0, .bool false, .int .i64 0, .int .i64 0, .int .i64 0, .int .i64 0, .int .i64 0, .int .i64 0, .bool false] := ⟨by kernel_rfl, by kernel_rfl, rfl, rfl⟩
instance : FieldTy Try.prog 23 0 0 3 0 := ⟨by kernel_rfl, by kernel_rfl⟩
instance : FieldTy Try.prog 23 1 1 3 0 := ⟨by kernel_rfl, by kernel_rfl⟩
instance : FieldTy Try.prog 23 2 2 4 0 := ⟨by kernel_rfl, by kernel_rfl⟩
instance : FieldTy Try.prog 23 3 3 3 0 := ⟨by kernel_rfl, by kernel_rfl⟩
instance : FieldTy Try.prog 23 4 4 3 0 := ⟨by kernel_rfl, by kernel_rfl⟩
instance : FieldTy Try.prog 23 5 5 3 0 := ⟨by kernel_rfl, by kernel_rfl⟩
instance : FieldTy Try.prog 23 6 6 3 0 := ⟨by kernel_rfl, by kernel_rfl⟩
instance : FieldTy Try.prog 23 7 7 3 0 := ⟨by kernel_rfl, by kernel_rfl⟩
instance : FieldTy Try.prog 23 8 8 3 0 := ⟨by kernel_rfl, by kernel_rfl⟩
instance : FieldTy Try.prog 23 9 9 4 0 := ⟨by kernel_rfl, by kernel_rfl⟩
instance : BuildTy Try.prog 23 [(0, 1), (1, 1), (2, 1), (3, 1), (4, 1), (5, 1), (6, 1), (7, 1), (8, 1), (9, 1)] [.int .i64 0, .int .i64 0, .bool false, .int .i64 0, .int .i64 0, .int .i64 0, .int .i64 0, .int .i64 0, .int .i64 0, .bool false] := ⟨fun parts => by kernel_rfl⟩
-- 24 []api.Pair
instance : Ty Try.prog 24 false 1 24 (.slice none 0 0) [.slice none 0 0] := ⟨by kernel_rfl, by kernel_rfl, rfl, rfl⟩
instance : SliceTy Try.prog 24 26 := ⟨by kernel_rfl⟩
-- 25 struct { A int; B int }
instance : Ty Try.prog 25 true 2 16 (.agg #[.int .i64 0, .int .i64 0]) [.int .i64 0, .int .i64 0] := ⟨by kernel_rfl, by kernel_rfl, rfl, rfl⟩
instance : EqS Try.prog 25 2 := ⟨by kernel_rfl, by kernel_rfl, by kernel_rfl⟩
instance : FieldTy Try.prog 25 0 0 3 0 := ⟨by kernel_rfl, by kernel_rfl⟩
instance : FieldTy Try.prog 25 1 1 3 0 := ⟨by kernel_rfl, by kernel_rfl⟩
instance : BuildTy Try.prog 25 [(0, 1), (1, 1)] [.int .i64 0, .int .i64 0] := ⟨fun parts => by kernel_rfl⟩
-- 26 deuce/api.Pair
instance : Ty Try.prog 26 true 2 16 (.agg #[.int .i64 0, .int .i64 0]) [.int .i64 0, .int .i64 0] := ⟨by kernel_rfl, by kernel_rfl, rfl, rfl⟩
instance : EqS Try.prog 26 2 := ⟨by kernel_rfl, by kernel_rfl, by kernel_rfl⟩
instance : FieldTy Try.prog 26 0 0 3 0 := ⟨by kernel_rfl, by kernel_rfl⟩
instance : FieldTy Try.prog 26 1 1 3 0 := ⟨by kernel_rfl, by kernel_rfl⟩
instance : BuildTy Try.prog 26 [(0, 1), (1, 1)] [.int .i64 0, .int .i64 0] := ⟨fun parts => by kernel_rfl⟩
-- 27 struct { Sets []api.Pair; Games api.Pair; Points api.Pair }
instance : Ty Try.prog 27 true 5 56 (.agg #[.slice none 0 0, .int .i64 0, .int .i64 0, .int .i64 0, .int .i64 0]) [.slice none 0 0, .int .i64 0, .int .i64 0, .int .i64 0, .int .i64 0] := ⟨by kernel_rfl, by kernel_rfl, rfl, rfl⟩
instance : FieldTy Try.prog 27 0 0 24 0 := ⟨by kernel_rfl, by kernel_rfl⟩
instance : FieldTy Try.prog 27 1 1 26 1 := ⟨by kernel_rfl, by kernel_rfl⟩
instance : FieldTy Try.prog 27 2 3 26 1 := ⟨by kernel_rfl, by kernel_rfl⟩
instance : BuildTy Try.prog 27 [(0, 1), (1, 2), (3, 2)] [.slice none 0 0, .int .i64 0, .int .i64 0, .int .i64 0, .int .i64 0] := ⟨fun parts => by kernel_rfl⟩
-- 28 deuce/api.Board
instance : Ty Try.prog 28 true 5 56 (.agg #[.slice none 0 0, .int .i64 0, .int .i64 0, .int .i64 0, .int .i64 0]) [.slice none 0 0, .int .i64 0, .int .i64 0, .int .i64 0, .int .i64 0] := ⟨by kernel_rfl, by kernel_rfl, rfl, rfl⟩
instance : FieldTy Try.prog 28 0 0 24 0 := ⟨by kernel_rfl, by kernel_rfl⟩
instance : FieldTy Try.prog 28 1 1 26 1 := ⟨by kernel_rfl, by kernel_rfl⟩
instance : FieldTy Try.prog 28 2 3 26 1 := ⟨by kernel_rfl, by kernel_rfl⟩
instance : BuildTy Try.prog 28 [(0, 1), (1, 2), (3, 2)] [.slice none 0 0, .int .i64 0, .int .i64 0, .int .i64 0, .int .i64 0] := ⟨fun parts => by kernel_rfl⟩
-- 29 func() bool
instance : Ty Try.prog 29 false 1 8 (.nilFunc) [.nilFunc] := ⟨by kernel_rfl, by kernel_rfl, rfl, rfl⟩
-- 30 deuce/api.Errno
instance : Ty Try.prog 30 false 1 8 (.int .i64 0) [.int .i64 0] := ⟨by kernel_rfl, by kernel_rfl, rfl, rfl⟩
-- 32 func(api.Format, api.Board) (bool, api.Errno)
instance : Ty Try.prog 32 false 1 8 (.nilFunc) [.nilFunc] := ⟨by kernel_rfl, by kernel_rfl, rfl, rfl⟩
-- 34 func(api.Format, api.Board, int) (int, api.Errno)
instance : Ty Try.prog 34 false 1 8 (.nilFunc) [.nilFunc] := ⟨by kernel_rfl, by kernel_rfl, rfl, rfl⟩
-- 35 func(api.Board, api.Board) bool
instance : Ty Try.prog 35 false 1 8 (.nilFunc) [.nilFunc] := ⟨by kernel_rfl, by kernel_rfl, rfl, rfl⟩
-- 36 func(api.Format, api.Board, int) bool
instance : Ty Try.prog 36 false 1 8 (.nilFunc) [.nilFunc] := ⟨by kernel_rfl, by kernel_rfl, rfl, rfl⟩
-- 37 func(api.Format) bool
instance : Ty Try.prog 37 false 1 8 (.nilFunc) [.nilFunc] := ⟨by kernel_rfl, by kernel_rfl, rfl, rfl⟩
-- 38 struct { Low int; High int }
instance : Ty Try.prog 38 true 2 16 (.agg #[.int .i64 0, .int .i64 0]) [.int .i64 0, .int .i64 0] := ⟨by kernel_rfl, by kernel_rfl, rfl, rfl⟩
instance : EqS Try.prog 38 2 := ⟨by kernel_rfl, by kernel_rfl, by kernel_rfl⟩
instance : FieldTy Try.prog 38 0 0 3 0 := ⟨by kernel_rfl, by kernel_rfl⟩
instance : FieldTy Try.prog 38 1 1 3 0 := ⟨by kernel_rfl, by kernel_rfl⟩
instance : BuildTy Try.prog 38 [(0, 1), (1, 1)] [.int .i64 0, .int .i64 0] := ⟨fun parts => by kernel_rfl⟩
-- 39 deuce/api.Span
instance : Ty Try.prog 39 true 2 16 (.agg #[.int .i64 0, .int .i64 0]) [.int .i64 0, .int .i64 0] := ⟨by kernel_rfl, by kernel_rfl, rfl, rfl⟩
instance : EqS Try.prog 39 2 := ⟨by kernel_rfl, by kernel_rfl, by kernel_rfl⟩
instance : FieldTy Try.prog 39 0 0 3 0 := ⟨by kernel_rfl, by kernel_rfl⟩
instance : FieldTy Try.prog 39 1 1 3 0 := ⟨by kernel_rfl, by kernel_rfl⟩
instance : BuildTy Try.prog 39 [(0, 1), (1, 1)] [.int .i64 0, .int .i64 0] := ⟨fun parts => by kernel_rfl⟩
-- 41 func(api.Format, api.Board) (api.Span, api.Span, api.Errno)
instance : Ty Try.prog 41 false 1 8 (.nilFunc) [.nilFunc] := ⟨by kernel_rfl, by kernel_rfl, rfl, rfl⟩
-- 42 func(api.Format, api.Board) bool
instance : Ty Try.prog 42 false 1 8 (.nilFunc) [.nilFunc] := ⟨by kernel_rfl, by kernel_rfl, rfl, rfl⟩
-- 43 struct { Each int; Towels int; Frames int }
instance : Ty Try.prog 43 true 3 24 (.agg #[.int .i64 0, .int .i64 0, .int .i64 0]) [.int .i64 0, .int .i64 0, .int .i64 0] := ⟨by kernel_rfl, by kernel_rfl, rfl, rfl⟩
instance : EqS Try.prog 43 3 := ⟨by kernel_rfl, by kernel_rfl, by kernel_rfl⟩
instance : FieldTy Try.prog 43 0 0 3 0 := ⟨by kernel_rfl, by kernel_rfl⟩
instance : FieldTy Try.prog 43 1 1 3 0 := ⟨by kernel_rfl, by kernel_rfl⟩
instance : FieldTy Try.prog 43 2 2 3 0 := ⟨by kernel_rfl, by kernel_rfl⟩
instance : BuildTy Try.prog 43 [(0, 1), (1, 1), (2, 1)] [.int .i64 0, .int .i64 0, .int .i64 0] := ⟨fun parts => by kernel_rfl⟩
-- 44 deuce/api.Kit
instance : Ty Try.prog 44 true 3 24 (.agg #[.int .i64 0, .int .i64 0, .int .i64 0]) [.int .i64 0, .int .i64 0, .int .i64 0] := ⟨by kernel_rfl, by kernel_rfl, rfl, rfl⟩
instance : EqS Try.prog 44 3 := ⟨by kernel_rfl, by kernel_rfl, by kernel_rfl⟩
instance : FieldTy Try.prog 44 0 0 3 0 := ⟨by kernel_rfl, by kernel_rfl⟩
instance : FieldTy Try.prog 44 1 1 3 0 := ⟨by kernel_rfl, by kernel_rfl⟩
instance : FieldTy Try.prog 44 2 2 3 0 := ⟨by kernel_rfl, by kernel_rfl⟩
instance : BuildTy Try.prog 44 [(0, 1), (1, 1), (2, 1)] [.int .i64 0, .int .i64 0, .int .i64 0] := ⟨fun parts => by kernel_rfl⟩
-- 45 []int
instance : Ty Try.prog 45 false 1 24 (.slice none 0 0) [.slice none 0 0] := ⟨by kernel_rfl, by kernel_rfl, rfl, rfl⟩
instance : SliceTy Try.prog 45 3 := ⟨by kernel_rfl⟩
-- 46 []api.Fixture
instance : Ty Try.prog 46 false 1 24 (.slice none 0 0) [.slice none 0 0] := ⟨by kernel_rfl, by kernel_rfl, rfl, rfl⟩
instance : SliceTy Try.prog 46 60 := ⟨by kernel_rfl⟩
-- 47 []api.Crate
instance : Ty Try.prog 47 false 1 24 (.slice none 0 0) [.slice none 0 0] := ⟨by kernel_rfl, by kernel_rfl, rfl, rfl⟩
instance : SliceTy Try.prog 47 62 := ⟨by kernel_rfl⟩
-- 48 struct { Kit api.Kit; Stock []int; Fixtures []api.Fixture; Crates []api.Crate }
instance : Ty Try.prog 48 true 6 96 (.agg #[.int .i64 0, .int .i64 0, .int .i64 0, .slice none 0 0, .slice none 0 0, .slice none 0 0]) [.int .i64 0, .int .i64 0, .int .i64 0, .slice none 0 0, .slice none 0 0, .slice none 0 0] := ⟨by kernel_rfl, by kernel_rfl, rfl, rfl⟩
instance : FieldTy Try.prog 48 0 0 44 2 := ⟨by kernel_rfl, by kernel_rfl⟩
instance : FieldTy Try.prog 48 1 3 45 0 := ⟨by kernel_rfl, by kernel_rfl⟩
instance : FieldTy Try.prog 48 2 4 46 0 := ⟨by kernel_rfl, by kernel_rfl⟩
instance : FieldTy Try.prog 48 3 5 47 0 := ⟨by kernel_rfl, by kernel_rfl⟩
instance : BuildTy Try.prog 48 [(0, 3), (3, 1), (4, 1), (5, 1)] [.int .i64 0, .int .i64 0, .int .i64 0, .slice none 0 0, .slice none 0 0, .slice none 0 0] := ⟨fun parts => by kernel_rfl⟩
-- 49 deuce/api.Depot
instance : Ty Try.prog 49 true 6 96 (.agg #[.int .i64 0, .int .i64 0, .int .i64 0, .slice none 0 0, .slice none 0 0, .slice none 0 0]) [.int .i64 0, .int .i64 0, .int .i64 0, .slice none 0 0, .slice none 0 0, .slice none 0 0] := ⟨by kernel_rfl, by kernel_rfl, rfl, rfl⟩
instance : FieldTy Try.prog 49 0 0 44 2 := ⟨by kernel_rfl, by kernel_rfl⟩
instance : FieldTy Try.prog 49 1 3 45 0 := ⟨by kernel_rfl, by kernel_rfl⟩
instance : FieldTy Try.prog 49 2 4 46 0 := ⟨by kernel_rfl, by kernel_rfl⟩
instance : FieldTy Try.prog 49 3 5 47 0 := ⟨by kernel_rfl, by kernel_rfl⟩
instance : BuildTy Try.prog 49 [(0, 3), (3, 1), (4, 1), (5, 1)] [.int .i64 0, .int .i64 0, .int .i64 0, .slice none 0 0, .slice none 0 0, .slice none 0 0] := ⟨fun parts => by kernel_rfl⟩
-- 50 struct { Item int; Day int }
instance : Ty Try.prog 50 true 2 16 (.agg #[.int .i64 0, .int .i64 0]) [.int .i64 0, .int .i64 0] := ⟨by kernel_rfl, by kernel_rfl, rfl, rfl⟩
instance : EqS Try.prog 50 2 := ⟨by kernel_rfl, by kernel_rfl, by kernel_rfl⟩
instance : FieldTy Try.prog 50 0 0 3 0 := ⟨by kernel_rfl, by kernel_rfl⟩
instance : FieldTy Try.prog 50 1 1 3 0 := ⟨by kernel_rfl, by kernel_rfl⟩
instance : BuildTy Try.prog 50 [(0, 1), (1, 1)] [.int .i64 0, .int .i64 0] := ⟨fun parts => by kernel_rfl⟩
-- 51 deuce/deucelaw09.Day
instance : Ty Try.prog 51 true 2 16 (.agg #[.int .i64 0, .int .i64 0]) [.int .i64 0, .int .i64 0] := ⟨by kernel_rfl, by kernel_rfl, rfl, rfl⟩
instance : EqS Try.prog 51 2 := ⟨by kernel_rfl, by kernel_rfl, by kernel_rfl⟩
instance : FieldTy Try.prog 51 0 0 3 0 := ⟨by kernel_rfl, by kernel_rfl⟩
instance : FieldTy Try.prog 51 1 1 3 0 := ⟨by kernel_rfl, by kernel_rfl⟩
instance : BuildTy Try.prog 51 [(0, 1), (1, 1)] [.int .i64 0, .int .i64 0] := ⟨fun parts => by kernel_rfl⟩
-- 52 func(api.Depot, deucelaw09.Day) bool
instance : Ty Try.prog 52 false 1 8 (.nilFunc) [.nilFunc] := ⟨by kernel_rfl, by kernel_rfl, rfl, rfl⟩
-- 53 func(api.Depot, int, int) (int, api.Errno)
instance : Ty Try.prog 53 false 1 8 (.nilFunc) [.nilFunc] := ⟨by kernel_rfl, by kernel_rfl, rfl, rfl⟩
-- 55 func(api.Depot, int, int) (api.Span, api.Errno)
instance : Ty Try.prog 55 false 1 8 (.nilFunc) [.nilFunc] := ⟨by kernel_rfl, by kernel_rfl, rfl, rfl⟩
-- 56 func(api.Depot, deucelaw09.Day, int) api.Depot
instance : Ty Try.prog 56 false 1 8 (.nilFunc) [.nilFunc] := ⟨by kernel_rfl, by kernel_rfl, rfl, rfl⟩
-- 57 func(api.Depot, deucelaw09.Day, int) bool
instance : Ty Try.prog 57 false 1 8 (.nilFunc) [.nilFunc] := ⟨by kernel_rfl, by kernel_rfl, rfl, rfl⟩
-- 58 func(api.Depot) api.Depot
instance : Ty Try.prog 58 false 1 8 (.nilFunc) [.nilFunc] := ⟨by kernel_rfl, by kernel_rfl, rfl, rfl⟩
-- 59 struct { Day int; Format api.Format; Board api.Board }
instance : Ty Try.prog 59 true 16 144 (.agg #[.int .i64 0, .int .i64 0, .int .i64 0, .bool false, .int .i64 0, .int .i64 0, .int .i64 0, .int .i64 0, .int .i64 0, .int .i64 0, .bool false, .slice none 0 0, .int .i64 0, .int .i64 0, .int .i64 0, .int .i64 0]) [.int .i64 0, .int .i64 0, .int .i64 0, .bool false, .int .i64 0, .int .i64 0, .int .i64 0, .int .i64 0, .int .i64 0, .int .i64 0, .bool false, .slice none 0 0, .int .i64 0, .int .i64 0, .int .i64 0, .int .i64 0] := ⟨by kernel_rfl, by kernel_rfl, rfl, rfl⟩
instance : FieldTy Try.prog 59 0 0 3 0 := ⟨by kernel_rfl, by kernel_rfl⟩
instance : FieldTy Try.prog 59 1 1 23 9 := ⟨by kernel_rfl, by kernel_rfl⟩
instance : FieldTy Try.prog 59 2 11 28 4 := ⟨by kernel_rfl, by kernel_rfl⟩
instance : BuildTy Try.prog 59 [(0, 1), (1, 10), (11, 5)] [.int .i64 0, .int .i64 0, .int .i64 0, .bool false, .int .i64 0, .int .i64 0, .int .i64 0, .int .i64 0, .int .i64 0, .int .i64 0, .bool false, .slice none 0 0, .int .i64 0, .int .i64 0, .int .i64 0, .int .i64 0] := ⟨fun parts => by kernel_rfl⟩
-- 60 deuce/api.Fixture
instance : Ty Try.prog 60 true 16 144 (.agg #[.int .i64 0, .int .i64 0, .int .i64 0, .bool false, .int .i64 0, .int .i64 0, .int .i64 0, .int .i64 0, .int .i64 0, .int .i64 0, .bool false, .slice none 0 0, .int .i64 0, .int .i64 0, .int .i64 0, .int .i64 0]) [.int .i64 0, .int .i64 0, .int .i64 0, .bool false, .int .i64 0, .int .i64 0, .int .i64 0, .int .i64 0, .int .i64 0, .int .i64 0, .bool false, .slice none 0 0, .int .i64 0, .int .i64 0, .int .i64 0, .int .i64 0] := ⟨by kernel_rfl, by kernel_rfl, rfl, rfl⟩
instance : FieldTy Try.prog 60 0 0 3 0 := ⟨by kernel_rfl, by kernel_rfl⟩
instance : FieldTy Try.prog 60 1 1 23 9 := ⟨by kernel_rfl, by kernel_rfl⟩
instance : FieldTy Try.prog 60 2 11 28 4 := ⟨by kernel_rfl, by kernel_rfl⟩
instance : BuildTy Try.prog 60 [(0, 1), (1, 10), (11, 5)] [.int .i64 0, .int .i64 0, .int .i64 0, .bool false, .int .i64 0, .int .i64 0, .int .i64 0, .int .i64 0, .int .i64 0, .int .i64 0, .bool false, .slice none 0 0, .int .i64 0, .int .i64 0, .int .i64 0, .int .i64 0] := ⟨fun parts => by kernel_rfl⟩
-- 61 struct { Day int; Item int; Count int }
instance : Ty Try.prog 61 true 3 24 (.agg #[.int .i64 0, .int .i64 0, .int .i64 0]) [.int .i64 0, .int .i64 0, .int .i64 0] := ⟨by kernel_rfl, by kernel_rfl, rfl, rfl⟩
instance : EqS Try.prog 61 3 := ⟨by kernel_rfl, by kernel_rfl, by kernel_rfl⟩
instance : FieldTy Try.prog 61 0 0 3 0 := ⟨by kernel_rfl, by kernel_rfl⟩
instance : FieldTy Try.prog 61 1 1 3 0 := ⟨by kernel_rfl, by kernel_rfl⟩
instance : FieldTy Try.prog 61 2 2 3 0 := ⟨by kernel_rfl, by kernel_rfl⟩
instance : BuildTy Try.prog 61 [(0, 1), (1, 1), (2, 1)] [.int .i64 0, .int .i64 0, .int .i64 0] := ⟨fun parts => by kernel_rfl⟩
-- 62 deuce/api.Crate
instance : Ty Try.prog 62 true 3 24 (.agg #[.int .i64 0, .int .i64 0, .int .i64 0]) [.int .i64 0, .int .i64 0, .int .i64 0] := ⟨by kernel_rfl, by kernel_rfl, rfl, rfl⟩
instance : EqS Try.prog 62 3 := ⟨by kernel_rfl, by kernel_rfl, by kernel_rfl⟩
instance : FieldTy Try.prog 62 0 0 3 0 := ⟨by kernel_rfl, by kernel_rfl⟩
instance : FieldTy Try.prog 62 1 1 3 0 := ⟨by kernel_rfl, by kernel_rfl⟩
instance : FieldTy Try.prog 62 2 2 3 0 := ⟨by kernel_rfl, by kernel_rfl⟩
instance : BuildTy Try.prog 62 [(0, 1), (1, 1), (2, 1)] [.int .i64 0, .int .i64 0, .int .i64 0] := ⟨fun parts => by kernel_rfl⟩
-- 64 func(api.Depot, int) (int, int, api.Errno)
instance : Ty Try.prog 64 false 1 8 (.nilFunc) [.nilFunc] := ⟨by kernel_rfl, by kernel_rfl, rfl, rfl⟩
-- 65 func(int, int) bool
instance : Ty Try.prog 65 false 1 8 (.nilFunc) [.nilFunc] := ⟨by kernel_rfl, by kernel_rfl, rfl, rfl⟩
-- 66 func(api.Depot, api.Crate, api.Fixture) bool
instance : Ty Try.prog 66 false 1 8 (.nilFunc) [.nilFunc] := ⟨by kernel_rfl, by kernel_rfl, rfl, rfl⟩
-- 67 func(api.Depot) bool
instance : Ty Try.prog 67 false 1 8 (.nilFunc) [.nilFunc] := ⟨by kernel_rfl, by kernel_rfl, rfl, rfl⟩
-- 68 func(api.Depot) api.Errno
instance : Ty Try.prog 68 false 1 8 (.nilFunc) [.nilFunc] := ⟨by kernel_rfl, by kernel_rfl, rfl, rfl⟩
-- 70 func() (api.Format, []int)
instance : Ty Try.prog 70 false 1 8 (.nilFunc) [.nilFunc] := ⟨by kernel_rfl, by kernel_rfl, rfl, rfl⟩
-- 71 struct { Board api.Board; Server int; Ends int; Balls int; Winner int }
instance : Ty Try.prog 71 true 9 88 (.agg #[.slice none 0 0, .int .i64 0, .int .i64 0, .int .i64 0, .int .i64 0, .int .i64 0, .int .i64 0, .int .i64 0, .int .i64 0]) [.slice none 0 0, .int .i64 0, .int .i64 0, .int .i64 0, .int .i64 0, .int .i64 0, .int .i64 0, .int .i64 0, .int .i64 0] := ⟨by kernel_rfl, by kernel_rfl, rfl, rfl⟩
instance : FieldTy Try.prog 71 0 0 28 4 := ⟨by kernel_rfl, by kernel_rfl⟩
instance : FieldTy Try.prog 71 1 5 3 0 := ⟨by kernel_rfl, by kernel_rfl⟩
instance : FieldTy Try.prog 71 2 6 3 0 := ⟨by kernel_rfl, by kernel_rfl⟩
instance : FieldTy Try.prog 71 3 7 3 0 := ⟨by kernel_rfl, by kernel_rfl⟩
instance : FieldTy Try.prog 71 4 8 3 0 := ⟨by kernel_rfl, by kernel_rfl⟩
instance : BuildTy Try.prog 71 [(0, 5), (5, 1), (6, 1), (7, 1), (8, 1)] [.slice none 0 0, .int .i64 0, .int .i64 0, .int .i64 0, .int .i64 0, .int .i64 0, .int .i64 0, .int .i64 0, .int .i64 0] := ⟨fun parts => by kernel_rfl⟩
-- 72 deuce/api.Score
instance : Ty Try.prog 72 true 9 88 (.agg #[.slice none 0 0, .int .i64 0, .int .i64 0, .int .i64 0, .int .i64 0, .int .i64 0, .int .i64 0, .int .i64 0, .int .i64 0]) [.slice none 0 0, .int .i64 0, .int .i64 0, .int .i64 0, .int .i64 0, .int .i64 0, .int .i64 0, .int .i64 0, .int .i64 0] := ⟨by kernel_rfl, by kernel_rfl, rfl, rfl⟩
instance : FieldTy Try.prog 72 0 0 28 4 := ⟨by kernel_rfl, by kernel_rfl⟩
instance : FieldTy Try.prog 72 1 5 3 0 := ⟨by kernel_rfl, by kernel_rfl⟩
instance : FieldTy Try.prog 72 2 6 3 0 := ⟨by kernel_rfl, by kernel_rfl⟩
instance : FieldTy Try.prog 72 3 7 3 0 := ⟨by kernel_rfl, by kernel_rfl⟩
instance : FieldTy Try.prog 72 4 8 3 0 := ⟨by kernel_rfl, by kernel_rfl⟩
instance : BuildTy Try.prog 72 [(0, 5), (5, 1), (6, 1), (7, 1), (8, 1)] [.slice none 0 0, .int .i64 0, .int .i64 0, .int .i64 0, .int .i64 0, .int .i64 0, .int .i64 0, .int .i64 0, .int .i64 0] := ⟨fun parts => by kernel_rfl⟩
-- 74 func(api.Format, int, []int) (api.Score, api.Errno)
instance : Ty Try.prog 74 false 1 8 (.nilFunc) [.nilFunc] := ⟨by kernel_rfl, by kernel_rfl, rfl, rfl⟩
-- 75 func(api.Format, []api.Pair) (int, api.Errno)
instance : Ty Try.prog 75 false 1 8 (.nilFunc) [.nilFunc] := ⟨by kernel_rfl, by kernel_rfl, rfl, rfl⟩
-- 76 func(api.Format) api.Errno
instance : Ty Try.prog 76 false 1 8 (.nilFunc) [.nilFunc] := ⟨by kernel_rfl, by kernel_rfl, rfl, rfl⟩
-- 77 func(api.Board) bool
instance : Ty Try.prog 77 false 1 8 (.nilFunc) [.nilFunc] := ⟨by kernel_rfl, by kernel_rfl, rfl, rfl⟩
-- 79 struct { api.Format }
instance : Ty Try.prog 79 true 10 80 (.agg #[.int .i64 0, .int .i64 0, .bool false, .int .i64 0, .int .i64 0, .int .i64 0, .int .i64 0, .int .i64 0, .int .i64 0, .bool false]) [.int .i64 0, .int .i64 0, .bool false, .int .i64 0, .int .i64 0, .int .i64 0, .int .i64 0, .int .i64 0, .int .i64 0, .bool false] := ⟨by kernel_rfl, by kernel_rfl, rfl, rfl⟩
instance : FieldTy Try.prog 79 0 0 23 9 := ⟨by kernel_rfl, by kernel_rfl⟩
instance : BuildTy Try.prog 79 [(0, 10)] [.int .i64 0, .int .i64 0, .bool false, .int .i64 0, .int .i64 0, .int .i64 0, .int .i64 0, .int .i64 0, .int .i64 0, .bool false] := ⟨fun parts => by kernel_rfl⟩
-- 80 deuce/score.rules
instance : Ty Try.prog 80 true 10 80 (.agg #[.int .i64 0, .int .i64 0, .bool false, .int .i64 0, .int .i64 0, .int .i64 0, .int .i64 0, .int .i64 0, .int .i64 0, .bool false]) [.int .i64 0, .int .i64 0, .bool false, .int .i64 0, .int .i64 0, .int .i64 0, .int .i64 0, .int .i64 0, .int .i64 0, .bool false] := ⟨by kernel_rfl, by kernel_rfl, rfl, rfl⟩
instance : FieldTy Try.prog 80 0 0 23 9 := ⟨by kernel_rfl, by kernel_rfl⟩
instance : BuildTy Try.prog 80 [(0, 10)] [.int .i64 0, .int .i64 0, .bool false, .int .i64 0, .int .i64 0, .int .i64 0, .int .i64 0, .int .i64 0, .int .i64 0, .bool false] := ⟨fun parts => by kernel_rfl⟩
-- 81 func(api.Board) (api.Pair, bool)
instance : Ty Try.prog 81 false 1 8 (.nilFunc) [.nilFunc] := ⟨by kernel_rfl, by kernel_rfl, rfl, rfl⟩
-- 82 func(api.Pair) bool
instance : Ty Try.prog 82 false 1 8 (.nilFunc) [.nilFunc] := ⟨by kernel_rfl, by kernel_rfl, rfl, rfl⟩
-- 83 func(api.Pair, int, int) int
instance : Ty Try.prog 83 false 1 8 (.nilFunc) [.nilFunc] := ⟨by kernel_rfl, by kernel_rfl, rfl, rfl⟩
-- 84 func(score.place, api.Pair, int, int, map[score.place]int) int
instance : Ty Try.prog 84 false 1 8 (.nilFunc) [.nilFunc] := ⟨by kernel_rfl, by kernel_rfl, rfl, rfl⟩
-- 85 struct { won api.Pair; games api.Pair }
instance : Ty Try.prog 85 true 4 32 (.agg #[.int .i64 0, .int .i64 0, .int .i64 0, .int .i64 0]) [.int .i64 0, .int .i64 0, .int .i64 0, .int .i64 0] := ⟨by kernel_rfl, by kernel_rfl, rfl, rfl⟩
instance : FieldTy Try.prog 85 0 0 26 1 := ⟨by kernel_rfl, by kernel_rfl⟩
instance : FieldTy Try.prog 85 1 2 26 1 := ⟨by kernel_rfl, by kernel_rfl⟩
instance : BuildTy Try.prog 85 [(0, 2), (2, 2)] [.int .i64 0, .int .i64 0, .int .i64 0, .int .i64 0] := ⟨fun parts => by kernel_rfl⟩
-- 86 deuce/score.place
instance : Ty Try.prog 86 true 4 32 (.agg #[.int .i64 0, .int .i64 0, .int .i64 0, .int .i64 0]) [.int .i64 0, .int .i64 0, .int .i64 0, .int .i64 0] := ⟨by kernel_rfl, by kernel_rfl, rfl, rfl⟩
instance : FieldTy Try.prog 86 0 0 26 1 := ⟨by kernel_rfl, by kernel_rfl⟩
instance : FieldTy Try.prog 86 1 2 26 1 := ⟨by kernel_rfl, by kernel_rfl⟩
instance : BuildTy Try.prog 86 [(0, 2), (2, 2)] [.int .i64 0, .int .i64 0, .int .i64 0, .int .i64 0] := ⟨fun parts => by kernel_rfl⟩
-- 87 func() int
instance : Ty Try.prog 87 false 1 8 (.nilFunc) [.nilFunc] := ⟨by kernel_rfl, by kernel_rfl, rfl, rfl⟩
-- 88 map[score.place]int
instance : Ty Try.prog 88 false 1 8 (.map none) [.map none] := ⟨by kernel_rfl, by kernel_rfl, rfl, rfl⟩
-- 89 func(int, int, int) bool
instance : Ty Try.prog 89 false 1 8 (.nilFunc) [.nilFunc] := ⟨by kernel_rfl, by kernel_rfl, rfl, rfl⟩
-- 90 func([]api.Pair) api.Pair
instance : Ty Try.prog 90 false 1 8 (.nilFunc) [.nilFunc] := ⟨by kernel_rfl, by kernel_rfl, rfl, rfl⟩
-- 91 func(api.Pair) api.Pair
instance : Ty Try.prog 91 false 1 8 (.nilFunc) [.nilFunc] := ⟨by kernel_rfl, by kernel_rfl, rfl, rfl⟩
-- 92 [][]int
instance : Ty Try.prog 92 false 1 24 (.slice none 0 0) [.slice none 0 0] := ⟨by kernel_rfl, by kernel_rfl, rfl, rfl⟩
instance : SliceTy Try.prog 92 45 := ⟨by kernel_rfl⟩
-- 93 func(api.Format, int, int) [][]int
instance : Ty Try.prog 93 false 1 8 (.nilFunc) [.nilFunc] := ⟨by kernel_rfl, by kernel_rfl, rfl, rfl⟩
-- 95 func(api.Format, api.Board) (bool, int)
instance : Ty Try.prog 95 false 1 8 (.nilFunc) [.nilFunc] := ⟨by kernel_rfl, by kernel_rfl, rfl, rfl⟩
-- 96 func(api.Pair, int) int
instance : Ty Try.prog 96 false 1 8 (.nilFunc) [.nilFunc] := ⟨by kernel_rfl, by kernel_rfl, rfl, rfl⟩
-- 97 func(api.Pair, int) api.Pair
instance : Ty Try.prog 97 false 1 8 (.nilFunc) [.nilFunc] := ⟨by kernel_rfl, by kernel_rfl, rfl, rfl⟩
-- 98 func(api.Format, int, int) int
instance : Ty Try.prog 98 false 1 8 (.nilFunc) [.nilFunc] := ⟨by kernel_rfl, by kernel_rfl, rfl, rfl⟩
-- 99 func(int, int, int, bool) int
instance : Ty Try.prog 99 false 1 8 (.nilFunc) [.nilFunc] := ⟨by kernel_rfl, by kernel_rfl, rfl, rfl⟩
-- 100 func() api.Depot
instance : Ty Try.prog 100 false 1 8 (.nilFunc) [.nilFunc] := ⟨by kernel_rfl, by kernel_rfl, rfl, rfl⟩
-- 101 func(api.Format, api.Board) api.Errno
instance : Ty Try.prog 101 false 1 8 (.nilFunc) [.nilFunc] := ⟨by kernel_rfl, by kernel_rfl, rfl, rfl⟩
-- 102 struct { changes api.Span; sets api.Span }
instance : Ty Try.prog 102 true 4 32 (.agg #[.int .i64 0, .int .i64 0, .int .i64 0, .int .i64 0]) [.int .i64 0, .int .i64 0, .int .i64 0, .int .i64 0] := ⟨by kernel_rfl, by kernel_rfl, rfl, rfl⟩
instance : FieldTy Try.prog 102 0 0 39 1 := ⟨by kernel_rfl, by kernel_rfl⟩
instance : FieldTy Try.prog 102 1 2 39 1 := ⟨by kernel_rfl, by kernel_rfl⟩
instance : BuildTy Try.prog 102 [(0, 2), (2, 2)] [.int .i64 0, .int .i64 0, .int .i64 0, .int .i64 0] := ⟨fun parts => by kernel_rfl⟩
-- 103 deuce/balls.bound
instance : Ty Try.prog 103 true 4 32 (.agg #[.int .i64 0, .int .i64 0, .int .i64 0, .int .i64 0]) [.int .i64 0, .int .i64 0, .int .i64 0, .int .i64 0] := ⟨by kernel_rfl, by kernel_rfl, rfl, rfl⟩
instance : FieldTy Try.prog 103 0 0 39 1 := ⟨by kernel_rfl, by kernel_rfl⟩
instance : FieldTy Try.prog 103 1 2 39 1 := ⟨by kernel_rfl, by kernel_rfl⟩
instance : BuildTy Try.prog 103 [(0, 2), (2, 2)] [.int .i64 0, .int .i64 0, .int .i64 0, .int .i64 0] := ⟨fun parts => by kernel_rfl⟩
-- 105 func(api.Format, api.Board) (balls.bound, bool)
instance : Ty Try.prog 105 false 1 8 (.nilFunc) [.nilFunc] := ⟨by kernel_rfl, by kernel_rfl, rfl, rfl⟩
-- 107 func(api.Format) (api.Span, int, api.Errno)
instance : Ty Try.prog 107 false 1 8 (.nilFunc) [.nilFunc] := ⟨by kernel_rfl, by kernel_rfl, rfl, rfl⟩
-- 108 struct { Changes api.Span; Sets api.Span }
instance : Ty Try.prog 108 true 4 32 (.agg #[.int .i64 0, .int .i64 0, .int .i64 0, .int .i64 0]) [.int .i64 0, .int .i64 0, .int .i64 0, .int .i64 0] := ⟨by kernel_rfl, by kernel_rfl, rfl, rfl⟩
instance : FieldTy Try.prog 108 0 0 39 1 := ⟨by kernel_rfl, by kernel_rfl⟩
instance : FieldTy Try.prog 108 1 2 39 1 := ⟨by kernel_rfl, by kernel_rfl⟩
instance : BuildTy Try.prog 108 [(0, 2), (2, 2)] [.int .i64 0, .int .i64 0, .int .i64 0, .int .i64 0] := ⟨fun parts => by kernel_rfl⟩
-- 109 deuce/deuceref09.Course
instance : Ty Try.prog 109 true 4 32 (.agg #[.int .i64 0, .int .i64 0, .int .i64 0, .int .i64 0]) [.int .i64 0, .int .i64 0, .int .i64 0, .int .i64 0] := ⟨by kernel_rfl, by kernel_rfl, rfl, rfl⟩
instance : FieldTy Try.prog 109 0 0 39 1 := ⟨by kernel_rfl, by kernel_rfl⟩
instance : FieldTy Try.prog 109 1 2 39 1 := ⟨by kernel_rfl, by kernel_rfl⟩
instance : BuildTy Try.prog 109 [(0, 2), (2, 2)] [.int .i64 0, .int .i64 0, .int .i64 0, .int .i64 0] := ⟨fun parts => by kernel_rfl⟩
-- 110 func(api.Format, api.Board) deuceref09.Course
instance : Ty Try.prog 110 false 1 8 (.nilFunc) [.nilFunc] := ⟨by kernel_rfl, by kernel_rfl, rfl, rfl⟩
-- 111 [61]api.Span
instance : Ty Try.prog 111 true 122 976 (.agg #[.int .i64 0, .int .i64 0, .int .i64 0, .int .i64 0, .int .i64 0, .int .i64 0, .int .i64 0, .int .i64 0, .int .i64 0, .int .i64 0, .int .i64 0, .int .i64 0, .int .i64 0, .int .i64 0, .int .i64 0, .int .i64 0, .int .i64 0, .int .i64 0, .int .i64 0, .int .i64 0, .int .i64 0, .int .i64 0, .int .i64 0, .int .i64 0, .int .i64 0, .int .i64 0, .int .i64 0, .int .i64 0, .int .i64 0, .int .i64 0, .int .i64 0, .int .i64 0, .int .i64 0, .int .i64 0, .int .i64 0, .int .i64 0, .int .i64 0, .int .i64 0, .int .i64 0, .int .i64 0, .int .i64 0, .int .i64 0, .int .i64 0, .int .i64 0, .int .i64 0, .int .i64 0, .int .i64 0, .int .i64 0, .int .i64 0, .int .i64 0, .int .i64 0, .int .i64 0, .int .i64 0, .int .i64 0, .int .i64 0, .int .i64 0, .int .i64 0, .int .i64 0, .int .i64 0, .int .i64 0, .int .i64 0, .int .i64 0, .int .i64 0, .int .i64 0, .int .i64 0, .int .i64 0, .int .i64 0, .int .i64 0, .int .i64 0, .int .i64 0, .int .i64 0, .int .i64 0, .int .i64 0, .int .i64 0, .int .i64 0, .int .i64 0, .int .i64 0, .int .i64 0, .int .i64 0, .int .i64 0, .int .i64 0, .int .i64 0, .int .i64 0, .int .i64 0, .int .i64 0, .int .i64 0, .int .i64 0, .int .i64 0, .int .i64 0, .int .i64 0, .int .i64 0, .int .i64 0, .int .i64 0, .int .i64 0, .int .i64 0, .int .i64 0, .int .i64 0, .int .i64 0, .int .i64 0, .int .i64 0, .int .i64 0, .int .i64 0, .int .i64 0, .int .i64 0, .int .i64 0, .int .i64 0, .int .i64 0, .int .i64 0, .int .i64 0, .int .i64 0, .int .i64 0, .int .i64 0, .int .i64 0, .int .i64 0, .int .i64 0, .int .i64 0, .int .i64 0, .int .i64 0, .int .i64 0, .int .i64 0, .int .i64 0, .int .i64 0]) [.int .i64 0, .int .i64 0, .int .i64 0, .int .i64 0, .int .i64 0, .int .i64 0, .int .i64 0, .int .i64 0, .int .i64 0, .int .i64 0, .int .i64 0, .int .i64 0, .int .i64 0, .int .i64 0, .int .i64 0, .int .i64 0, .int .i64 0, .int .i64 0, .int .i64 0, .int .i64 0, .int .i64 0, .int .i64 0, .int .i64 0, .int .i64 0, .int .i64 0, .int .i64 0, .int .i64 0, .int .i64 0, .int .i64 0, .int .i64 0, .int .i64 0, .int .i64 0, .int .i64 0, .int .i64 0, .int .i64 0, .int .i64 0, .int .i64 0, .int .i64 0, .int .i64 0, .int .i64 0, .int .i64 0, .int .i64 0, .int .i64 0, .int .i64 0, .int .i64 0, .int .i64 0, .int .i64 0, .int .i64 0, .int .i64 0, .int .i64 0, .int .i64 0, .int .i64 0, .int .i64 0, .int .i64 0, .int .i64 0, .int .i64 0, .int .i64 0, .int .i64 0, .int .i64 0, .int .i64 0, .int .i64 0, .int .i64 0, .int .i64 0, .int .i64 0, .int .i64 0, .int .i64 0, .int .i64 0, .int .i64 0, .int .i64 0, .int .i64 0, .int .i64 0, .int .i64 0, .int .i64 0, .int .i64 0, .int .i64 0, .int .i64 0, .int .i64 0, .int .i64 0, .int .i64 0, .int .i64 0, .int .i64 0, .int .i64 0, .int .i64 0, .int .i64 0, .int .i64 0, .int .i64 0, .int .i64 0, .int .i64 0, .int .i64 0, .int .i64 0, .int .i64 0, .int .i64 0, .int .i64 0, .int .i64 0, .int .i64 0, .int .i64 0, .int .i64 0, .int .i64 0, .int .i64 0, .int .i64 0, .int .i64 0, .int .i64 0, .int .i64 0, .int .i64 0, .int .i64 0, .int .i64 0, .int .i64 0, .int .i64 0, .int .i64 0, .int .i64 0, .int .i64 0, .int .i64 0, .int .i64 0, .int .i64 0, .int .i64 0, .int .i64 0, .int .i64 0, .int .i64 0, .int .i64 0, .int .i64 0, .int .i64 0, .int .i64 0] := ⟨by kernel_rfl, by kernel_rfl, rfl, rfl⟩
instance : ArrayTy Try.prog 111 61 39 := ⟨by kernel_rfl⟩
-- 112 struct { need [61]api.Span; left [61]api.Span }
instance : Ty Try.prog 112 true 244 1952 (.agg #[.int .i64 0, .int .i64 0, .int .i64 0, .int .i64 0, .int .i64 0, .int .i64 0, .int .i64 0, .int .i64 0, .int .i64 0, .int .i64 0, .int .i64 0, .int .i64 0, .int .i64 0, .int .i64 0, .int .i64 0, .int .i64 0, .int .i64 0, .int .i64 0, .int .i64 0, .int .i64 0, .int .i64 0, .int .i64 0, .int .i64 0, .int .i64 0, .int .i64 0, .int .i64 0, .int .i64 0, .int .i64 0, .int .i64 0, .int .i64 0, .int .i64 0, .int .i64 0, .int .i64 0, .int .i64 0, .int .i64 0, .int .i64 0, .int .i64 0, .int .i64 0, .int .i64 0, .int .i64 0, .int .i64 0, .int .i64 0, .int .i64 0, .int .i64 0, .int .i64 0, .int .i64 0, .int .i64 0, .int .i64 0, .int .i64 0, .int .i64 0, .int .i64 0, .int .i64 0, .int .i64 0, .int .i64 0, .int .i64 0, .int .i64 0, .int .i64 0, .int .i64 0, .int .i64 0, .int .i64 0, .int .i64 0, .int .i64 0, .int .i64 0, .int .i64 0, .int .i64 0, .int .i64 0, .int .i64 0, .int .i64 0, .int .i64 0, .int .i64 0, .int .i64 0, .int .i64 0, .int .i64 0, .int .i64 0, .int .i64 0, .int .i64 0, .int .i64 0, .int .i64 0, .int .i64 0, .int .i64 0, .int .i64 0, .int .i64 0, .int .i64 0, .int .i64 0, .int .i64 0, .int .i64 0, .int .i64 0, .int .i64 0, .int .i64 0, .int .i64 0, .int .i64 0, .int .i64 0, .int .i64 0, .int .i64 0, .int .i64 0, .int .i64 0, .int .i64 0, .int .i64 0, .int .i64 0, .int .i64 0, .int .i64 0, .int .i64 0, .int .i64 0, .int .i64 0, .int .i64 0, .int .i64 0, .int .i64 0, .int .i64 0, .int .i64 0, .int .i64 0, .int .i64 0, .int .i64 0, .int .i64 0, .int .i64 0, .int .i64 0, .int .i64 0, .int .i64 0, .int .i64 0, .int .i64 0, .int .i64 0, .int .i64 0, .int .i64 0, .int .i64 0, .int .i64 0, .int .i64 0, .int .i64 0, .int .i64 0, .int .i64 0, .int .i64 0, .int .i64 0, .int .i64 0, .int .i64 0, .int .i64 0, .int .i64 0, .int .i64 0, .int .i64 0, .int .i64 0, .int .i64 0, .int .i64 0, .int .i64 0, .int .i64 0, .int .i64 0, .int .i64 0, .int .i64 0, .int .i64 0, .int .i64 0, .int .i64 0, .int .i64 0, .int .i64 0, .int .i64 0, .int .i64 0, .int .i64 0, .int .i64 0, .int .i64 0, .int .i64 0, .int .i64 0, .int .i64 0, .int .i64 0, .int .i64 0, .int .i64 0, .int .i64 0, .int .i64 0, .int .i64 0, .int .i64 0, .int .i64 0, .int .i64 0, .int .i64 0, .int .i64 0, .int .i64 0, .int .i64 0, .int .i64 0, .int .i64 0, .int .i64 0, .int .i64 0, .int .i64 0, .int .i64 0, .int .i64 0, .int .i64 0, .int .i64 0, .int .i64 0, .int .i64 0, .int .i64 0, .int .i64 0, .int .i64 0, .int .i64 0, .int .i64 0, .int .i64 0, .int .i64 0, .int .i64 0, .int .i64 0, .int .i64 0, .int .i64 0, .int .i64 0, .int .i64 0, .int .i64 0, .int .i64 0, .int .i64 0, .int .i64 0, .int .i64 0, .int .i64 0, .int .i64 0, .int .i64 0, .int .i64 0, .int .i64 0, .int .i64 0, .int .i64 0, .int .i64 0, .int .i64 0, .int .i64 0, .int .i64 0, .int .i64 0, .int .i64 0, .int .i64 0, .int .i64 0, .int .i64 0, .int .i64 0, .int .i64 0, .int .i64 0, .int .i64 0, .int .i64 0, .int .i64 0, .int .i64 0, .int .i64 0, .int .i64 0, .int .i64 0, .int .i64 0, .int .i64 0, .int .i64 0, .int .i64 0, .int .i64 0, .int .i64 0, .int .i64 0, .int .i64 0, .int .i64 0, .int .i64 0, .int .i64 0, .int .i64 0, .int .i64 0, .int .i64 0, .int .i64 0, .int .i64 0, .int .i64 0, .int .i64 0, .int .i64 0]) [.int .i64 0, .int .i64 0, .int .i64 0, .int .i64 0, .int .i64 0, .int .i64 0, .int .i64 0, .int .i64 0, .int .i64 0, .int .i64 0, .int .i64 0, .int .i64 0, .int .i64 0, .int .i64 0, .int .i64 0, .int .i64 0, .int .i64 0, .int .i64 0, .int .i64 0, .int .i64 0, .int .i64 0, .int .i64 0, .int .i64 0, .int .i64 0, .int .i64 0, .int .i64 0, .int .i64 0, .int .i64 0, .int .i64 0, .int .i64 0, .int .i64 0, .int .i64 0, .int .i64 0, .int .i64 0, .int .i64 0, .int .i64 0, .int .i64 0, .int .i64 0, .int .i64 0, .int .i64 0, .int .i64 0, .int .i64 0, .int .i64 0, .int .i64 0, .int .i64 0, .int .i64 0, .int .i64 0, .int .i64 0, .int .i64 0, .int .i64 0, .int .i64 0, .int .i64 0, .int .i64 0, .int .i64 0, .int .i64 0, .int .i64 0, .int .i64 0, .int .i64 0, .int .i64 0, .int .i64 0, .int .i64 0, .int .i64 0, .int .i64 0, .int .i64 0, .int .i64 0, .int .i64 0, .int .i64 0, .int .i64 0, .int .i64 0, .int .i64 0, .int .i64 0, .int .i64 0, .int .i64 0, .int .i64 0, .int .i64 0, .int .i64 0, .int .i64 0, .int .i64 0, .int .i64 0, .int .i64 0, .int .i64 0, .int .i64 0, .int .i64 0, .int .i64 0, .int .i64 0, .int .i64 0, .int .i64 0, .int .i64 0, .int .i64 0, .int .i64 0, .int .i64 0, .int .i64 0, .int .i64 0, .int .i64 0, .int .i64 0, .int .i64 0, .int .i64 0, .int .i64 0, .int .i64 0, .int .i64 0, .int .i64 0, .int .i64 0, .int .i64 0, .int .i64 0, .int .i64 0, .int .i64 0, .int .i64 0, .int .i64 0, .int .i64 0, .int .i64 0, .int .i64 0, .int .i64 0, .int .i64 0, .int .i64 0, .int .i64 0, .int .i64 0, .int .i64 0, .int .i64 0, .int .i64 0, .int .i64 0, .int .i64 0, .int .i64 0, .int .i64 0, .int .i64 0, .int .i64 0, .int .i64 0, .int .i64 0, .int .i64 0, .int .i64 0, .int .i64 0, .int .i64 0, .int .i64 0, .int .i64 0, .int .i64 0, .int .i64 0, .int .i64 0, .int .i64 0, .int .i64 0, .int .i64 0, .int .i64 0, .int .i64 0, .int .i64 0, .int .i64 0, .int .i64 0, .int .i64 0, .int .i64 0, .int .i64 0, .int .i64 0, .int .i64 0, .int .i64 0, .int .i64 0, .int .i64 0, .int .i64 0, .int .i64 0, .int .i64 0, .int .i64 0, .int .i64 0, .int .i64 0, .int .i64 0, .int .i64 0, .int .i64 0, .int .i64 0, .int .i64 0, .int .i64 0, .int .i64 0, .int .i64 0, .int .i64 0, .int .i64 0, .int .i64 0, .int .i64 0, .int .i64 0, .int .i64 0, .int .i64 0, .int .i64 0, .int .i64 0, .int .i64 0, .int .i64 0, .int .i64 0, .int .i64 0, .int .i64 0, .int .i64 0, .int .i64 0, .int .i64 0, .int .i64 0, .int .i64 0, .int .i64 0, .int .i64 0, .int .i64 0, .int .i64 0, .int .i64 0, .int .i64 0, .int .i64 0, .int .i64 0, .int .i64 0, .int .i64 0, .int .i64 0, .int .i64 0, .int .i64 0, .int .i64 0, .int .i64 0, .int .i64 0, .int .i64 0, .int .i64 0, .int .i64 0, .int .i64 0, .int .i64 0, .int .i64 0, .int .i64 0, .int .i64 0, .int .i64 0, .int .i64 0, .int .i64 0, .int .i64 0, .int .i64 0, .int .i64 0, .int .i64 0, .int .i64 0, .int .i64 0, .int .i64 0, .int .i64 0, .int .i64 0, .int .i64 0, .int .i64 0, .int .i64 0, .int .i64 0, .int .i64 0, .int .i64 0, .int .i64 0, .int .i64 0, .int .i64 0, .int .i64 0, .int .i64 0, .int .i64 0, .int .i64 0, .int .i64 0, .int .i64 0, .int .i64 0, .int .i64 0, .int .i64 0, .int .i64 0, .int .i64 0, .int .i64 0, .int .i64 0, .int .i64 0] := ⟨by kernel_rfl, by kernel_rfl, rfl, rfl⟩
instance : FieldTy Try.prog 112 0 0 111 121 := ⟨by kernel_rfl, by kernel_rfl⟩
instance : FieldTy Try.prog 112 1 122 111 121 := ⟨by kernel_rfl, by kernel_rfl⟩
instance : BuildTy Try.prog 112 [(0, 122), (122, 122)] [.int .i64 0, .int .i64 0, .int .i64 0, .int .i64 0, .int .i64 0, .int .i64 0, .int .i64 0, .int .i64 0, .int .i64 0, .int .i64 0, .int .i64 0, .int .i64 0, .int .i64 0, .int .i64 0, .int .i64 0, .int .i64 0, .int .i64 0, .int .i64 0, .int .i64 0, .int .i64 0, .int .i64 0, .int .i64 0, .int .i64 0, .int .i64 0, .int .i64 0, .int .i64 0, .int .i64 0, .int .i64 0, .int .i64 0, .int .i64 0, .int .i64 0, .int .i64 0, .int .i64 0, .int .i64 0, .int .i64 0, .int .i64 0, .int .i64 0, .int .i64 0, .int .i64 0, .int .i64 0, .int .i64 0, .int .i64 0, .int .i64 0, .int .i64 0, .int .i64 0, .int .i64 0, .int .i64 0, .int .i64 0, .int .i64 0, .int .i64 0, .int .i64 0, .int .i64 0, .int .i64 0, .int .i64 0, .int .i64 0, .int .i64 0, .int .i64 0, .int .i64 0, .int .i64 0, .int .i64 0, .int .i64 0, .int .i64 0, .int .i64 0, .int .i64 0, .int .i64 0, .int .i64 0, .int .i64 0, .int .i64 0, .int .i64 0, .int .i64 0, .int .i64 0, .int .i64 0, .int .i64 0, .int .i64 0, .int .i64 0, .int .i64 0, .int .i64 0, .int .i64 0, .int .i64 0, .int .i64 0, .int .i64 0, .int .i64 0, .int .i64 0, .int .i64 0, .int .i64 0, .int .i64 0, .int .i64 0, .int .i64 0, .int .i64 0, .int .i64 0, .int .i64 0, .int .i64 0, .int .i64 0, .int .i64 0, .int .i64 0, .int .i64 0, .int .i64 0, .int .i64 0, .int .i64 0, .int .i64 0, .int .i64 0, .int .i64 0, .int .i64 0, .int .i64 0, .int .i64 0, .int .i64 0, .int .i64 0, .int .i64 0, .int .i64 0, .int .i64 0, .int .i64 0, .int .i64 0, .int .i64 0, .int .i64 0, .int .i64 0, .int .i64 0, .int .i64 0, .int .i64 0, .int .i64 0, .int .i64 0, .int .i64 0, .int .i64 0, .int .i64 0, .int .i64 0, .int .i64 0, .int .i64 0, .int .i64 0, .int .i64 0, .int .i64 0, .int .i64 0, .int .i64 0, .int .i64 0, .int .i64 0, .int .i64 0, .int .i64 0, .int .i64 0, .int .i64 0, .int .i64 0, .int .i64 0, .int .i64 0, .int .i64 0, .int .i64 0, .int .i64 0, .int .i64 0, .int .i64 0, .int .i64 0, .int .i64 0, .int .i64 0, .int .i64 0, .int .i64 0, .int .i64 0, .int .i64 0, .int .i64 0, .int .i64 0, .int .i64 0, .int .i64 0, .int .i64 0, .int .i64 0, .int .i64 0, .int .i64 0, .int .i64 0, .int .i64 0, .int .i64 0, .int .i64 0, .int .i64 0, .int .i64 0, .int .i64 0, .int .i64 0, .int .i64 0, .int .i64 0, .int .i64 0, .int .i64 0, .int .i64 0, .int .i64 0, .int .i64 0, .int .i64 0, .int .i64 0, .int .i64 0, .int .i64 0, .int .i64 0, .int .i64 0, .int .i64 0, .int .i64 0, .int .i64 0, .int .i64 0, .int .i64 0, .int .i64 0, .int .i64 0, .int .i64 0, .int .i64 0, .int .i64 0, .int .i64 0, .int .i64 0, .int .i64 0, .int .i64 0, .int .i64 0, .int .i64 0, .int .i64 0, .int .i64 0, .int .i64 0, .int .i64 0, .int .i64 0, .int .i64 0, .int .i64 0, .int .i64 0, .int .i64 0, .int .i64 0, .int .i64 0, .int .i64 0, .int .i64 0, .int .i64 0, .int .i64 0, .int .i64 0, .int .i64 0, .int .i64 0, .int .i64 0, .int .i64 0, .int .i64 0, .int .i64 0, .int .i64 0, .int .i64 0, .int .i64 0, .int .i64 0, .int .i64 0, .int .i64 0, .int .i64 0, .int .i64 0, .int .i64 0, .int .i64 0, .int .i64 0, .int .i64 0, .int .i64 0, .int .i64 0, .int .i64 0, .int .i64 0, .int .i64 0, .int .i64 0, .int .i64 0, .int .i64 0, .int .i64 0, .int .i64 0, .int .i64 0, .int .i64 0, .int .i64 0] := ⟨fun parts => by kernel_rfl⟩
-- 113 deuce/balls.week
instance : Ty Try.prog 113 true 244 1952 (.agg #[.int .i64 0, .int .i64 0, .int .i64 0, .int .i64 0, .int .i64 0, .int .i64 0, .int .i64 0, .int .i64 0, .int .i64 0, .int .i64 0, .int .i64 0, .int .i64 0, .int .i64 0, .int .i64 0, .int .i64 0, .int .i64 0, .int .i64 0, .int .i64 0, .int .i64 0, .int .i64 0, .int .i64 0, .int .i64 0, .int .i64 0, .int .i64 0, .int .i64 0, .int .i64 0, .int .i64 0, .int .i64 0, .int .i64 0, .int .i64 0, .int .i64 0, .int .i64 0, .int .i64 0, .int .i64 0, .int .i64 0, .int .i64 0, .int .i64 0, .int .i64 0, .int .i64 0, .int .i64 0, .int .i64 0, .int .i64 0, .int .i64 0, .int .i64 0, .int .i64 0, .int .i64 0, .int .i64 0, .int .i64 0, .int .i64 0, .int .i64 0, .int .i64 0, .int .i64 0, .int .i64 0, .int .i64 0, .int .i64 0, .int .i64 0, .int .i64 0, .int .i64 0, .int .i64 0, .int .i64 0, .int .i64 0, .int .i64 0, .int .i64 0, .int .i64 0, .int .i64 0, .int .i64 0, .int .i64 0, .int .i64 0, .int .i64 0, .int .i64 0, .int .i64 0, .int .i64 0, .int .i64 0, .int .i64 0, .int .i64 0, .int .i64 0, .int .i64 0, .int .i64 0, .int .i64 0, .int .i64 0, .int .i64 0, .int .i64 0, .int .i64 0, .int .i64 0, .int .i64 0, .int .i64 0, .int .i64 0, .int .i64 0, .int .i64 0, .int .i64 0, .int .i64 0, .int .i64 0, .int .i64 0, .int .i64 0, .int .i64 0, .int .i64 0, .int .i64 0, .int .i64 0, .int .i64 0, .int .i64 0, .int .i64 0, .int .i64 0, .int .i64 0, .int .i64 0, .int .i64 0, .int .i64 0, .int .i64 0, .int .i64 0, .int .i64 0, .int .i64 0, .int .i64 0, .int .i64 0, .int .i64 0, .int .i64 0, .int .i64 0, .int .i64 0, .int .i64 0, .int .i64 0, .int .i64 0, .int .i64 0, .int .i64 0, .int .i64 0, .int .i64 0, .int .i64 0, .int .i64 0, .int .i64 0, .int .i64 0, .int .i64 0, .int .i64 0, .int .i64 0, .int .i64 0, .int .i64 0, .int .i64 0, .int .i64 0, .int .i64 0, .int .i64 0, .int .i64 0, .int .i64 0, .int .i64 0, .int .i64 0, .int .i64 0, .int .i64 0, .int .i64 0, .int .i64 0, .int .i64 0, .int .i64 0, .int .i64 0, .int .i64 0, .int .i64 0, .int .i64 0, .int .i64 0, .int .i64 0, .int .i64 0, .int .i64 0, .int .i64 0, .int .i64 0, .int .i64 0, .int .i64 0, .int .i64 0, .int .i64 0, .int .i64 0, .int .i64 0, .int .i64 0, .int .i64 0, .int .i64 0, .int .i64 0, .int .i64 0, .int .i64 0, .int .i64 0, .int .i64 0, .int .i64 0, .int .i64 0, .int .i64 0, .int .i64 0, .int .i64 0, .int .i64 0, .int .i64 0, .int .i64 0, .int .i64 0, .int .i64 0, .int .i64 0, .int .i64 0, .int .i64 0, .int .i64 0, .int .i64 0, .int .i64 0, .int .i64 0, .int .i64 0, .int .i64 0, .int .i64 0, .int .i64 0, .int .i64 0, .int .i64 0, .int .i64 0, .int .i64 0, .int .i64 0, .int .i64 0, .int .i64 0, .int .i64 0, .int .i64 0, .int .i64 0, .int .i64 0, .int .i64 0, .int .i64 0, .int .i64 0, .int .i64 0, .int .i64 0, .int .i64 0, .int .i64 0, .int .i64 0, .int .i64 0, .int .i64 0, .int .i64 0, .int .i64 0, .int .i64 0, .int .i64 0, .int .i64 0, .int .i64 0, .int .i64 0, .int .i64 0, .int .i64 0, .int .i64 0, .int .i64 0, .int .i64 0, .int .i64 0, .int .i64 0, .int .i64 0, .int .i64 0, .int .i64 0, .int .i64 0, .int .i64 0, .int .i64 0, .int .i64 0, .int .i64 0, .int .i64 0, .int .i64 0, .int .i64 0, .int .i64 0, .int .i64 0, .int .i64 0, .int .i64 0, .int .i64 0, .int .i64 0, .int .i64 0]) [.int .i64 0, .int .i64 0, .int .i64 0, .int .i64 0, .int .i64 0, .int .i64 0, .int .i64 0, .int .i64 0, .int .i64 0, .int .i64 0, .int .i64 0, .int .i64 0, .int .i64 0, .int .i64 0, .int .i64 0, .int .i64 0, .int .i64 0, .int .i64 0, .int .i64 0, .int .i64 0, .int .i64 0, .int .i64 0, .int .i64 0, .int .i64 0, .int .i64 0, .int .i64 0, .int .i64 0, .int .i64 0, .int .i64 0, .int .i64 0, .int .i64 0, .int .i64 0, .int .i64 0, .int .i64 0, .int .i64 0, .int .i64 0, .int .i64 0, .int .i64 0, .int .i64 0, .int .i64 0, .int .i64 0, .int .i64 0, .int .i64 0, .int .i64 0, .int .i64 0, .int .i64 0, .int .i64 0, .int .i64 0, .int .i64 0, .int .i64 0, .int .i64 0, .int .i64 0, .int .i64 0, .int .i64 0, .int .i64 0, .int .i64 0, .int .i64 0, .int .i64 0, .int .i64 0, .int .i64 0, .int .i64 0, .int .i64 0, .int .i64 0, .int .i64 0, .int .i64 0, .int .i64 0, .int .i64 0, .int .i64 0, .int .i64 0, .int .i64 0, .int .i64 0, .int .i64 0, .int .i64 0, .int .i64 0, .int .i64 0, .int .i64 0, .int .i64 0, .int .i64 0, .int .i64 0, .int .i64 0, .int .i64 0, .int .i64 0, .int .i64 0, .int .i64 0, .int .i64 0, .int .i64 0, .int .i64 0, .int .i64 0, .int .i64 0, .int .i64 0, .int .i64 0, .int .i64 0, .int .i64 0, .int .i64 0, .int .i64 0, .int .i64 0, .int .i64 0, .int .i64 0, .int .i64 0, .int .i64 0, .int .i64 0, .int .i64 0, .int .i64 0, .int .i64 0, .int .i64 0, .int .i64 0, .int .i64 0, .int .i64 0, .int .i64 0, .int .i64 0, .int .i64 0, .int .i64 0, .int .i64 0, .int .i64 0, .int .i64 0, .int .i64 0, .int .i64 0, .int .i64 0, .int .i64 0, .int .i64 0, .int .i64 0, .int .i64 0, .int .i64 0, .int .i64 0, .int .i64 0, .int .i64 0, .int .i64 0, .int .i64 0, .int .i64 0, .int .i64 0, .int .i64 0, .int .i64 0, .int .i64 0, .int .i64 0, .int .i64 0, .int .i64 0, .int .i64 0, .int .i64 0, .int .i64 0, .int .i64 0, .int .i64 0, .int .i64 0, .int .i64 0, .int .i64 0, .int .i64 0, .int .i64 0, .int .i64 0, .int .i64 0, .int .i64 0, .int .i64 0, .int .i64 0, .int .i64 0, .int .i64 0, .int .i64 0, .int .i64 0, .int .i64 0, .int .i64 0, .int .i64 0, .int .i64 0, .int .i64 0, .int .i64 0, .int .i64 0, .int .i64 0, .int .i64 0, .int .i64 0, .int .i64 0, .int .i64 0, .int .i64 0, .int .i64 0, .int .i64 0, .int .i64 0, .int .i64 0, .int .i64 0, .int .i64 0, .int .i64 0, .int .i64 0, .int .i64 0, .int .i64 0, .int .i64 0, .int .i64 0, .int .i64 0, .int .i64 0, .int .i64 0, .int .i64 0, .int .i64 0, .int .i64 0, .int .i64 0, .int .i64 0, .int .i64 0, .int .i64 0, .int .i64 0, .int .i64 0, .int .i64 0, .int .i64 0, .int .i64 0, .int .i64 0, .int .i64 0, .int .i64 0, .int .i64 0, .int .i64 0, .int .i64 0, .int .i64 0, .int .i64 0, .int .i64 0, .int .i64 0, .int .i64 0, .int .i64 0, .int .i64 0, .int .i64 0, .int .i64 0, .int .i64 0, .int .i64 0, .int .i64 0, .int .i64 0, .int .i64 0, .int .i64 0, .int .i64 0, .int .i64 0, .int .i64 0, .int .i64 0, .int .i64 0, .int .i64 0, .int .i64 0, .int .i64 0, .int .i64 0, .int .i64 0, .int .i64 0, .int .i64 0, .int .i64 0, .int .i64 0, .int .i64 0, .int .i64 0, .int .i64 0, .int .i64 0, .int .i64 0, .int .i64 0, .int .i64 0, .int .i64 0, .int .i64 0, .int .i64 0, .int .i64 0, .int .i64 0, .int .i64 0, .int .i64 0] := ⟨by kernel_rfl, by kernel_rfl, rfl, rfl⟩
instance : FieldTy Try.prog 113 0 0 111 121 := ⟨by kernel_rfl, by kernel_rfl⟩
instance : FieldTy Try.prog 113 1 122 111 121 := ⟨by kernel_rfl, by kernel_rfl⟩
instance : BuildTy Try.prog 113 [(0, 122), (122, 122)] [.int .i64 0, .int .i64 0, .int .i64 0, .int .i64 0, .int .i64 0, .int .i64 0, .int .i64 0, .int .i64 0, .int .i64 0, .int .i64 0, .int .i64 0, .int .i64 0, .int .i64 0, .int .i64 0, .int .i64 0, .int .i64 0, .int .i64 0, .int .i64 0, .int .i64 0, .int .i64 0, .int .i64 0, .int .i64 0, .int .i64 0, .int .i64 0, .int .i64 0, .int .i64 0, .int .i64 0, .int .i64 0, .int .i64 0, .int .i64 0, .int .i64 0, .int .i64 0, .int .i64 0, .int .i64 0, .int .i64 0, .int .i64 0, .int .i64 0, .int .i64 0, .int .i64 0, .int .i64 0, .int .i64 0, .int .i64 0, .int .i64 0, .int .i64 0, .int .i64 0, .int .i64 0, .int .i64 0, .int .i64 0, .int .i64 0, .int .i64 0, .int .i64 0, .int .i64 0, .int .i64 0, .int .i64 0, .int .i64 0, .int .i64 0, .int .i64 0, .int .i64 0, .int .i64 0, .int .i64 0, .int .i64 0, .int .i64 0, .int .i64 0, .int .i64 0, .int .i64 0, .int .i64 0, .int .i64 0, .int .i64 0, .int .i64 0, .int .i64 0, .int .i64 0, .int .i64 0, .int .i64 0, .int .i64 0, .int .i64 0, .int .i64 0, .int .i64 0, .int .i64 0, .int .i64 0, .int .i64 0, .int .i64 0, .int .i64 0, .int .i64 0, .int .i64 0, .int .i64 0, .int .i64 0, .int .i64 0, .int .i64 0, .int .i64 0, .int .i64 0, .int .i64 0, .int .i64 0, .int .i64 0, .int .i64 0, .int .i64 0, .int .i64 0, .int .i64 0, .int .i64 0, .int .i64 0, .int .i64 0, .int .i64 0, .int .i64 0, .int .i64 0, .int .i64 0, .int .i64 0, .int .i64 0, .int .i64 0, .int .i64 0, .int .i64 0, .int .i64 0, .int .i64 0, .int .i64 0, .int .i64 0, .int .i64 0, .int .i64 0, .int .i64 0, .int .i64 0, .int .i64 0, .int .i64 0, .int .i64 0, .int .i64 0, .int .i64 0, .int .i64 0, .int .i64 0, .int .i64 0, .int .i64 0, .int .i64 0, .int .i64 0, .int .i64 0, .int .i64 0, .int .i64 0, .int .i64 0, .int .i64 0, .int .i64 0, .int .i64 0, .int .i64 0, .int .i64 0, .int .i64 0, .int .i64 0, .int .i64 0, .int .i64 0, .int .i64 0, .int .i64 0, .int .i64 0, .int .i64 0, .int .i64 0, .int .i64 0, .int .i64 0, .int .i64 0, .int .i64 0, .int .i64 0, .int .i64 0, .int .i64 0, .int .i64 0, .int .i64 0, .int .i64 0, .int .i64 0, .int .i64 0, .int .i64 0, .int .i64 0, .int .i64 0, .int .i64 0, .int .i64 0, .int .i64 0, .int .i64 0, .int .i64 0, .int .i64 0, .int .i64 0, .int .i64 0, .int .i64 0, .int .i64 0, .int .i64 0, .int .i64 0, .int .i64 0, .int .i64 0, .int .i64 0, .int .i64 0, .int .i64 0, .int .i64 0, .int .i64 0, .int .i64 0, .int .i64 0, .int .i64 0, .int .i64 0, .int .i64 0, .int .i64 0, .int .i64 0, .int .i64 0, .int .i64 0, .int .i64 0, .int .i64 0, .int .i64 0, .int .i64 0, .int .i64 0, .int .i64 0, .int .i64 0, .int .i64 0, .int .i64 0, .int .i64 0, .int .i64 0, .int .i64 0, .int .i64 0, .int .i64 0, .int .i64 0, .int .i64 0, .int .i64 0, .int .i64 0, .int .i64 0, .int .i64 0, .int .i64 0, .int .i64 0, .int .i64 0, .int .i64 0, .int .i64 0, .int .i64 0, .int .i64 0, .int .i64 0, .int .i64 0, .int .i64 0, .int .i64 0, .int .i64 0, .int .i64 0, .int .i64 0, .int .i64 0, .int .i64 0, .int .i64 0, .int .i64 0, .int .i64 0, .int .i64 0, .int .i64 0, .int .i64 0, .int .i64 0, .int .i64 0, .int .i64 0, .int .i64 0, .int .i64 0, .int .i64 0, .int .i64 0, .int .i64 0, .int .i64 0, .int .i64 0, .int .i64 0, .int .i64 0, .int .i64 0] := ⟨fun parts => by kernel_rfl⟩
-- 115 func(api.Depot, int, int) (balls.week, api.Errno)
instance : Ty Try.prog 115 false 1 8 (.nilFunc) [.nilFunc] := ⟨by kernel_rfl, by kernel_rfl, rfl, rfl⟩
-- 116 []api.Span
instance : Ty Try.prog 116 false 1 24 (.slice none 0 0) [.slice none 0 0] := ⟨by kernel_rfl, by kernel_rfl, rfl, rfl⟩
instance : SliceTy Try.prog 116 39 := ⟨by kernel_rfl⟩
-- 117 func([]api.Span, func(api.Span) bool) int
instance : Ty Try.prog 117 false 1 8 (.nilFunc) [.nilFunc] := ⟨by kernel_rfl, by kernel_rfl, rfl, rfl⟩
-- 118 func(api.Span) bool
instance : Ty Try.prog 118 false 1 8 (.nilFunc) [.nilFunc] := ⟨by kernel_rfl, by kernel_rfl, rfl, rfl⟩
-- 119 func(int) bool
instance : Ty Try.prog 119 false 1 8 (.nilFunc) [.nilFunc] := ⟨by kernel_rfl, by kernel_rfl, rfl, rfl⟩
-- 120 func([]int, func(int) bool) bool
instance : Ty Try.prog 120 false 1 8 (.nilFunc) [.nilFunc] := ⟨by kernel_rfl, by kernel_rfl, rfl, rfl⟩
-- 121 func(api.Fixture) bool
instance : Ty Try.prog 121 false 1 8 (.nilFunc) [.nilFunc] := ⟨by kernel_rfl, by kernel_rfl, rfl, rfl⟩
-- 122 func(api.Depot, int, int) api.Errno
instance : Ty Try.prog 122 false 1 8 (.nilFunc) [.nilFunc] := ⟨by kernel_rfl, by kernel_rfl, rfl, rfl⟩
-- 123 func(api.Depot, int, int) api.Span
instance : Ty Try.prog 123 false 1 8 (.nilFunc) [.nilFunc] := ⟨by kernel_rfl, by kernel_rfl, rfl, rfl⟩
-- 124 func(api.Depot, int) []api.Span
instance : Ty Try.prog 124 false 1 8 (.nilFunc) [.nilFunc] := ⟨by kernel_rfl, by kernel_rfl, rfl, rfl⟩
-- 125 *score.match
instance : Ty Try.prog 125 false 1 8 (.pointer none) [.pointer none] := ⟨by kernel_rfl, by kernel_rfl, rfl, rfl⟩
-- 127 func(api.Format, int, []int) (*score.match, api.Errno)
instance : Ty Try.prog 127 false 1 8 (.nilFunc) [.nilFunc] := ⟨by kernel_rfl, by kernel_rfl, rfl, rfl⟩
-- 128 []bool
instance : Ty Try.prog 128 false 1 24 (.slice none 0 0) [.slice none 0 0] := ⟨by kernel_rfl, by kernel_rfl, rfl, rfl⟩
instance : SliceTy Try.prog 128 4 := ⟨by kernel_rfl⟩
-- 129 []api.Game
instance : Ty Try.prog 129 false 1 24 (.slice none 0 0) [.slice none 0 0] := ⟨by kernel_rfl, by kernel_rfl, rfl, rfl⟩
instance : SliceTy Try.prog 129 188 := ⟨by kernel_rfl⟩
-- 130 struct { score.rules; api.Score; first int; won api.Pair; ties []bool; games []api.Game }
instance : Ty Try.prog 130 true 24 240 (.agg #[.int .i64 0, .int .i64 0, .bool false, .int .i64 0, .int .i64 0, .int .i64 0, .int .i64 0, .int .i64 0, .int .i64 0, .bool false, .slice none 0 0, .int .i64 0, .int .i64 0, .int .i64 0, .int .i64 0, .int .i64 0, .int .i64 0, .int .i64 0, .int .i64 0, .int .i64 0, .int .i64 0, .int .i64 0, .slice none 0 0, .slice none 0 0]) [.int .i64 0, .int .i64 0, .bool false, .int .i64 0, .int .i64 0, .int .i64 0, .int .i64 0, .int .i64 0, .int .i64 0, .bool false, .slice none 0 0, .int .i64 0, .int .i64 0, .int .i64 0, .int .i64 0, .int .i64 0, .int .i64 0, .int .i64 0, .int .i64 0, .int .i64 0, .int .i64 0, .int .i64 0, .slice none 0 0, .slice none 0 0] := ⟨by kernel_rfl, by kernel_rfl, rfl, rfl⟩
instance : FieldTy Try.prog 130 0 0 80 9 := ⟨by kernel_rfl, by kernel_rfl⟩
instance : FieldTy Try.prog 130 1 10 72 8 := ⟨by kernel_rfl, by kernel_rfl⟩
instance : FieldTy Try.prog 130 2 19 3 0 := ⟨by kernel_rfl, by kernel_rfl⟩
instance : FieldTy Try.prog 130 3 20 26 1 := ⟨by kernel_rfl, by kernel_rfl⟩
instance : FieldTy Try.prog 130 4 22 128 0 := ⟨by kernel_rfl, by kernel_rfl⟩
instance : FieldTy Try.prog 130 5 23 129 0 := ⟨by kernel_rfl, by kernel_rfl⟩
instance : BuildTy Try.prog 130 [(0, 10), (10, 9), (19, 1), (20, 2), (22, 1), (23, 1)] [.int .i64 0, .int .i64 0, .bool false, .int .i64 0, .int .i64 0, .int .i64 0, .int .i64 0, .int .i64 0, .int .i64 0, .bool false, .slice none 0 0, .int .i64 0, .int .i64 0, .int .i64 0, .int .i64 0, .int .i64 0, .int .i64 0, .int .i64 0, .int .i64 0, .int .i64 0, .int .i64 0, .int .i64 0, .slice none 0 0, .slice none 0 0] := ⟨fun parts => by kernel_rfl⟩
-- 131 deuce/score.match
instance : Ty Try.prog 131 true 24 240 (.agg #[.int .i64 0, .int .i64 0, .bool false, .int .i64 0, .int .i64 0, .int .i64 0, .int .i64 0, .int .i64 0, .int .i64 0, .bool false, .slice none 0 0, .int .i64 0, .int .i64 0, .int .i64 0, .int .i64 0, .int .i64 0, .int .i64 0, .int .i64 0, .int .i64 0, .int .i64 0, .int .i64 0, .int .i64 0, .slice none 0 0, .slice none 0 0]) [.int .i64 0, .int .i64 0, .bool false, .int .i64 0, .int .i64 0, .int .i64 0, .int .i64 0, .int .i64 0, .int .i64 0, .bool false, .slice none 0 0, .int .i64 0, .int .i64 0, .int .i64 0, .int .i64 0, .int .i64 0, .int .i64 0, .int .i64 0, .int .i64 0, .int .i64 0, .int .i64 0, .int .i64 0, .slice none 0 0, .slice none 0 0] := ⟨by kernel_rfl, by kernel_rfl, rfl, rfl⟩
instance : FieldTy Try.prog 131 0 0 80 9 := ⟨by kernel_rfl, by kernel_rfl⟩
instance : FieldTy Try.prog 131 1 10 72 8 := ⟨by kernel_rfl, by kernel_rfl⟩
instance : FieldTy Try.prog 131 2 19 3 0 := ⟨by kernel_rfl, by kernel_rfl⟩
instance : FieldTy Try.prog 131 3 20 26 1 := ⟨by kernel_rfl, by kernel_rfl⟩
instance : FieldTy Try.prog 131 4 22 128 0 := ⟨by kernel_rfl, by kernel_rfl⟩
instance : FieldTy Try.prog 131 5 23 129 0 := ⟨by kernel_rfl, by kernel_rfl⟩
instance : BuildTy Try.prog 131 [(0, 10), (10, 9), (19, 1), (20, 2), (22, 1), (23, 1)] [.int .i64 0, .int .i64 0, .bool false, .int .i64 0, .int .i64 0, .int .i64 0, .int .i64 0, .int .i64 0, .int .i64 0, .bool false, .slice none 0 0, .int .i64 0, .int .i64 0, .int .i64 0, .int .i64 0, .int .i64 0, .int .i64 0, .int .i64 0, .int .i64 0, .int .i64 0, .int .i64 0, .int .i64 0, .slice none 0 0, .slice none 0 0] := ⟨fun parts => by kernel_rfl⟩
-- 133 func([]api.Pair) (api.Pair, int, bool)
instance : Ty Try.prog 133 false 1 8 (.nilFunc) [.nilFunc] := ⟨by kernel_rfl, by kernel_rfl, rfl, rfl⟩
-- 134 func([]api.Pair, func(api.Pair) bool) bool
instance : Ty Try.prog 134 false 1 8 (.nilFunc) [.nilFunc] := ⟨by kernel_rfl, by kernel_rfl, rfl, rfl⟩
-- 135 func(api.Board) []api.Pair
instance : Ty Try.prog 135 false 1 8 (.nilFunc) [.nilFunc] := ⟨by kernel_rfl, by kernel_rfl, rfl, rfl⟩
-- 136 struct { tie int; to int }
instance : Ty Try.prog 136 true 2 16 (.agg #[.int .i64 0, .int .i64 0]) [.int .i64 0, .int .i64 0] := ⟨by kernel_rfl, by kernel_rfl, rfl, rfl⟩
instance : EqS Try.prog 136 2 := ⟨by kernel_rfl, by kernel_rfl, by kernel_rfl⟩
instance : FieldTy Try.prog 136 0 0 3 0 := ⟨by kernel_rfl, by kernel_rfl⟩
instance : FieldTy Try.prog 136 1 1 3 0 := ⟨by kernel_rfl, by kernel_rfl⟩
instance : BuildTy Try.prog 136 [(0, 1), (1, 1)] [.int .i64 0, .int .i64 0] := ⟨fun parts => by kernel_rfl⟩
-- 137 deuce/score.set
instance : Ty Try.prog 137 true 2 16 (.agg #[.int .i64 0, .int .i64 0]) [.int .i64 0, .int .i64 0] := ⟨by kernel_rfl, by kernel_rfl, rfl, rfl⟩
instance : EqS Try.prog 137 2 := ⟨by kernel_rfl, by kernel_rfl, by kernel_rfl⟩
instance : FieldTy Try.prog 137 0 0 3 0 := ⟨by kernel_rfl, by kernel_rfl⟩
instance : FieldTy Try.prog 137 1 1 3 0 := ⟨by kernel_rfl, by kernel_rfl⟩
instance : BuildTy Try.prog 137 [(0, 1), (1, 1)] [.int .i64 0, .int .i64 0] := ⟨fun parts => by kernel_rfl⟩
-- 138 func(api.Pair) score.set
instance : Ty Try.prog 138 false 1 8 (.nilFunc) [.nilFunc] := ⟨by kernel_rfl, by kernel_rfl, rfl, rfl⟩
-- 139 struct { orders int; over bool }
instance : Ty Try.prog 139 true 2 16 (.agg #[.int .i64 0, .bool false]) [.int .i64 0, .bool false] := ⟨by kernel_rfl, by kernel_rfl, rfl, rfl⟩
instance : FieldTy Try.prog 139 0 0 3 0 := ⟨by kernel_rfl, by kernel_rfl⟩
instance : FieldTy Try.prog 139 1 1 4 0 := ⟨by kernel_rfl, by kernel_rfl⟩
instance : BuildTy Try.prog 139 [(0, 1), (1, 1)] [.int .i64 0, .bool false] := ⟨fun parts => by kernel_rfl⟩
-- 140 deuce/score.stand
instance : Ty Try.prog 140 true 2 16 (.agg #[.int .i64 0, .bool false]) [.int .i64 0, .bool false] := ⟨by kernel_rfl, by kernel_rfl, rfl, rfl⟩
instance : FieldTy Try.prog 140 0 0 3 0 := ⟨by kernel_rfl, by kernel_rfl⟩
instance : FieldTy Try.prog 140 1 1 4 0 := ⟨by kernel_rfl, by kernel_rfl⟩
instance : BuildTy Try.prog 140 [(0, 1), (1, 1)] [.int .i64 0, .bool false] := ⟨fun parts => by kernel_rfl⟩
-- 142 map[api.Pair]score.stand
instance : Ty Try.prog 142 false 1 8 (.map none) [.map none] := ⟨by kernel_rfl, by kernel_rfl, rfl, rfl⟩
-- 143 func(score.set) map[api.Pair]score.stand
instance : Ty Try.prog 143 false 1 8 (.nilFunc) [.nilFunc] := ⟨by kernel_rfl, by kernel_rfl, rfl, rfl⟩
-- 144 func(score.set, bool, api.Pair) int
instance : Ty Try.prog 144 false 1 8 (.nilFunc) [.nilFunc] := ⟨by kernel_rfl, by kernel_rfl, rfl, rfl⟩
-- 145 func(api.Format, int) bool
instance : Ty Try.prog 145 false 1 8 (.nilFunc) [.nilFunc] := ⟨by kernel_rfl, by kernel_rfl, rfl, rfl⟩
-- 147 func(api.Format, bool) ([][]int, [][]int)
instance : Ty Try.prog 147 false 1 8 (.nilFunc) [.nilFunc] := ⟨by kernel_rfl, by kernel_rfl, rfl, rfl⟩
-- 148 func(api.Format, api.Pair) bool
instance : Ty Try.prog 148 false 1 8 (.nilFunc) [.nilFunc] := ⟨by kernel_rfl, by kernel_rfl, rfl, rfl⟩
-- 149 func(api.Format, bool, int, api.Pair) bool
instance : Ty Try.prog 149 false 1 8 (.nilFunc) [.nilFunc] := ⟨by kernel_rfl, by kernel_rfl, rfl, rfl⟩
-- 151 func(score.set, bool, api.Pair, int) int
instance : Ty Try.prog 151 false 1 8 (.nilFunc) [.nilFunc] := ⟨by kernel_rfl, by kernel_rfl, rfl, rfl⟩
-- 153 func(api.Format, bool) (int, int)
instance : Ty Try.prog 153 false 1 8 (.nilFunc) [.nilFunc] := ⟨by kernel_rfl, by kernel_rfl, rfl, rfl⟩
-- 154 map[balls.spot]balls.bound
instance : Ty Try.prog 154 false 1 8 (.map none) [.map none] := ⟨by kernel_rfl, by kernel_rfl, rfl, rfl⟩
-- 155 struct { api.Format; known map[balls.spot]balls.bound }
instance : Ty Try.prog 155 true 11 88 (.agg #[.int .i64 0, .int .i64 0, .bool false, .int .i64 0, .int .i64 0, .int .i64 0, .int .i64 0, .int .i64 0, .int .i64 0, .bool false, .map none]) [.int .i64 0, .int .i64 0, .bool false, .int .i64 0, .int .i64 0, .int .i64 0, .int .i64 0, .int .i64 0, .int .i64 0, .bool false, .map none] := ⟨by kernel_rfl, by kernel_rfl, rfl, rfl⟩
instance : FieldTy Try.prog 155 0 0 23 9 := ⟨by kernel_rfl, by kernel_rfl⟩
instance : FieldTy Try.prog 155 1 10 154 0 := ⟨by kernel_rfl, by kernel_rfl⟩
instance : BuildTy Try.prog 155 [(0, 10), (10, 1)] [.int .i64 0, .int .i64 0, .bool false, .int .i64 0, .int .i64 0, .int .i64 0, .int .i64 0, .int .i64 0, .int .i64 0, .bool false, .map none] := ⟨fun parts => by kernel_rfl⟩
-- 156 deuce/balls.rest
instance : Ty Try.prog 156 true 11 88 (.agg #[.int .i64 0, .int .i64 0, .bool false, .int .i64 0, .int .i64 0, .int .i64 0, .int .i64 0, .int .i64 0, .int .i64 0, .bool false, .map none]) [.int .i64 0, .int .i64 0, .bool false, .int .i64 0, .int .i64 0, .int .i64 0, .int .i64 0, .int .i64 0, .int .i64 0, .bool false, .map none] := ⟨by kernel_rfl, by kernel_rfl, rfl, rfl⟩
instance : FieldTy Try.prog 156 0 0 23 9 := ⟨by kernel_rfl, by kernel_rfl⟩
instance : FieldTy Try.prog 156 1 10 154 0 := ⟨by kernel_rfl, by kernel_rfl⟩
instance : BuildTy Try.prog 156 [(0, 10), (10, 1)] [.int .i64 0, .int .i64 0, .bool false, .int .i64 0, .int .i64 0, .int .i64 0, .int .i64 0, .int .i64 0, .int .i64 0, .bool false, .map none] := ⟨fun parts => by kernel_rfl⟩
-- 157 [2]int
instance : Ty Try.prog 157 true 2 16 (.agg #[.int .i64 0, .int .i64 0]) [.int .i64 0, .int .i64 0] := ⟨by kernel_rfl, by kernel_rfl, rfl, rfl⟩
instance : ArrayTy Try.prog 157 2 3 := ⟨by kernel_rfl⟩
instance : EqA Try.prog 157 2 := ⟨by kernel_rfl, by kernel_rfl, by kernel_rfl, by kernel_rfl⟩
-- 158 struct { won api.Pair; games api.Pair; number int; ties [2]int }
instance : Ty Try.prog 158 true 7 56 (.agg #[.int .i64 0, .int .i64 0, .int .i64 0, .int .i64 0, .int .i64 0, .int .i64 0, .int .i64 0]) [.int .i64 0, .int .i64 0, .int .i64 0, .int .i64 0, .int .i64 0, .int .i64 0, .int .i64 0] := ⟨by kernel_rfl, by kernel_rfl, rfl, rfl⟩
instance : FieldTy Try.prog 158 0 0 26 1 := ⟨by kernel_rfl, by kernel_rfl⟩
instance : FieldTy Try.prog 158 1 2 26 1 := ⟨by kernel_rfl, by kernel_rfl⟩
instance : FieldTy Try.prog 158 2 4 3 0 := ⟨by kernel_rfl, by kernel_rfl⟩
instance : FieldTy Try.prog 158 3 5 157 1 := ⟨by kernel_rfl, by kernel_rfl⟩
instance : BuildTy Try.prog 158 [(0, 2), (2, 2), (4, 1), (5, 2)] [.int .i64 0, .int .i64 0, .int .i64 0, .int .i64 0, .int .i64 0, .int .i64 0, .int .i64 0] := ⟨fun parts => by kernel_rfl⟩
-- 159 deuce/balls.spot
instance : Ty Try.prog 159 true 7 56 (.agg #[.int .i64 0, .int .i64 0, .int .i64 0, .int .i64 0, .int .i64 0, .int .i64 0, .int .i64 0]) [.int .i64 0, .int .i64 0, .int .i64 0, .int .i64 0, .int .i64 0, .int .i64 0, .int .i64 0] := ⟨by kernel_rfl, by kernel_rfl, rfl, rfl⟩
instance : FieldTy Try.prog 159 0 0 26 1 := ⟨by kernel_rfl, by kernel_rfl⟩
instance : FieldTy Try.prog 159 1 2 26 1 := ⟨by kernel_rfl, by kernel_rfl⟩
instance : FieldTy Try.prog 159 2 4 3 0 := ⟨by kernel_rfl, by kernel_rfl⟩
instance : FieldTy Try.prog 159 3 5 157 1 := ⟨by kernel_rfl, by kernel_rfl⟩
instance : BuildTy Try.prog 159 [(0, 2), (2, 2), (4, 1), (5, 2)] [.int .i64 0, .int .i64 0, .int .i64 0, .int .i64 0, .int .i64 0, .int .i64 0, .int .i64 0] := ⟨fun parts => by kernel_rfl⟩
-- 160 func(api.Pair, api.Pair) int
instance : Ty Try.prog 160 false 1 8 (.nilFunc) [.nilFunc] := ⟨by kernel_rfl, by kernel_rfl, rfl, rfl⟩
-- 161 func(balls.spot) balls.bound
instance : Ty Try.prog 161 false 1 8 (.nilFunc) [.nilFunc] := ⟨by kernel_rfl, by kernel_rfl, rfl, rfl⟩
-- 163 func(api.Board) (bool, bool)
instance : Ty Try.prog 163 false 1 8 (.nilFunc) [.nilFunc] := ⟨by kernel_rfl, by kernel_rfl, rfl, rfl⟩
-- 164 []deuceref09.Course
instance : Ty Try.prog 164 false 1 24 (.slice none 0 0) [.slice none 0 0] := ⟨by kernel_rfl, by kernel_rfl, rfl, rfl⟩
instance : SliceTy Try.prog 164 109 := ⟨by kernel_rfl⟩
-- 165 func(api.Format, int, int) []deuceref09.Course
instance : Ty Try.prog 165 false 1 8 (.nilFunc) [.nilFunc] := ⟨by kernel_rfl, by kernel_rfl, rfl, rfl⟩
-- 166 func(api.Pair, api.Pair, int) int
instance : Ty Try.prog 166 false 1 8 (.nilFunc) [.nilFunc] := ⟨by kernel_rfl, by kernel_rfl, rfl, rfl⟩
-- 167 func(api.Depot, int) balls.week
instance : Ty Try.prog 167 false 1 8 (.nilFunc) [.nilFunc] := ⟨by kernel_rfl, by kernel_rfl, rfl, rfl⟩
-- 168 func([]int, func(int) bool) int
instance : Ty Try.prog 168 false 1 8 (.nilFunc) [.nilFunc] := ⟨by kernel_rfl, by kernel_rfl, rfl, rfl⟩
-- 169 func(api.Depot, api.Fixture, int) api.Span
instance : Ty Try.prog 169 false 1 8 (.nilFunc) [.nilFunc] := ⟨by kernel_rfl, by kernel_rfl, rfl, rfl⟩
-- 170 func(score.rules, int) *score.match
instance : Ty Try.prog 170 false 1 8 (.nilFunc) [.nilFunc] := ⟨by kernel_rfl, by kernel_rfl, rfl, rfl⟩
-- 171 func(int)
instance : Ty Try.prog 171 false 1 8 (.nilFunc) [.nilFunc] := ⟨by kernel_rfl, by kernel_rfl, rfl, rfl⟩
-- 172 func([]api.Pair, func(api.Pair) bool) int
instance : Ty Try.prog 172 false 1 8 (.nilFunc) [.nilFunc] := ⟨by kernel_rfl, by kernel_rfl, rfl, rfl⟩
-- 173 func([]api.Pair) []api.Pair
instance : Ty Try.prog 173 false 1 8 (.nilFunc) [.nilFunc] := ⟨by kernel_rfl, by kernel_rfl, rfl, rfl⟩
-- 175 func(score.set) (api.Span, int)
instance : Ty Try.prog 175 false 1 8 (.nilFunc) [.nilFunc] := ⟨by kernel_rfl, by kernel_rfl, rfl, rfl⟩
-- 177 func(balls.spot, int) (balls.spot, bool, bool)
instance : Ty Try.prog 177 false 1 8 (.nilFunc) [.nilFunc] := ⟨by kernel_rfl, by kernel_rfl, rfl, rfl⟩
-- 178 func(balls.bound) balls.bound
instance : Ty Try.prog 178 false 1 8 (.nilFunc) [.nilFunc] := ⟨by kernel_rfl, by kernel_rfl, rfl, rfl⟩
-- 179 func(deuceref09.Course, deuceref09.Course) deuceref09.Course
instance : Ty Try.prog 179 false 1 8 (.nilFunc) [.nilFunc] := ⟨by kernel_rfl, by kernel_rfl, rfl, rfl⟩
-- 180 func(api.Format, api.Pair, api.Pair, int, int, int, []deuceref09.Course) deuceref09.Course
instance : Ty Try.prog 180 false 1 8 (.nilFunc) [.nilFunc] := ⟨by kernel_rfl, by kernel_rfl, rfl, rfl⟩
-- 181 [3]api.Span
instance : Ty Try.prog 181 true 6 48 (.agg #[.int .i64 0, .int .i64 0, .int .i64 0, .int .i64 0, .int .i64 0, .int .i64 0]) [.int .i64 0, .int .i64 0, .int .i64 0, .int .i64 0, .int .i64 0, .int .i64 0] := ⟨by kernel_rfl, by kernel_rfl, rfl, rfl⟩
instance : ArrayTy Try.prog 181 3 39 := ⟨by kernel_rfl⟩
-- 182 deuce/balls.need
instance : Ty Try.prog 182 true 6 48 (.agg #[.int .i64 0, .int .i64 0, .int .i64 0, .int .i64 0, .int .i64 0, .int .i64 0]) [.int .i64 0, .int .i64 0, .int .i64 0, .int .i64 0, .int .i64 0, .int .i64 0] := ⟨by kernel_rfl, by kernel_rfl, rfl, rfl⟩
instance : ArrayTy Try.prog 182 3 39 := ⟨by kernel_rfl⟩
-- 183 func(api.Kit, api.Fixture) balls.need
instance : Ty Try.prog 183 false 1 8 (.nilFunc) [.nilFunc] := ⟨by kernel_rfl, by kernel_rfl, rfl, rfl⟩
-- 184 func(api.Span, int) api.Span
instance : Ty Try.prog 184 false 1 8 (.nilFunc) [.nilFunc] := ⟨by kernel_rfl, by kernel_rfl, rfl, rfl⟩
-- 185 func(api.Pair) int
instance : Ty Try.prog 185 false 1 8 (.nilFunc) [.nilFunc] := ⟨by kernel_rfl, by kernel_rfl, rfl, rfl⟩
-- 186 func(int) int
instance : Ty Try.prog 186 false 1 8 (.nilFunc) [.nilFunc] := ⟨by kernel_rfl, by kernel_rfl, rfl, rfl⟩
-- 187 struct { Set int; Tie bool; Server int; Winner int; Points api.Pair; Fresh bool }
instance : Ty Try.prog 187 true 7 56 (.agg #[.int .i64 0, .bool false, .int .i64 0, .int .i64 0, .int .i64 0, .int .i64 0, .bool false]) [.int .i64 0, .bool false, .int .i64 0, .int .i64 0, .int .i64 0, .int .i64 0, .bool false] := ⟨by kernel_rfl, by kernel_rfl, rfl, rfl⟩
instance : FieldTy Try.prog 187 0 0 3 0 := ⟨by kernel_rfl, by kernel_rfl⟩
instance : FieldTy Try.prog 187 1 1 4 0 := ⟨by kernel_rfl, by kernel_rfl⟩
instance : FieldTy Try.prog 187 2 2 3 0 := ⟨by kernel_rfl, by kernel_rfl⟩
instance : FieldTy Try.prog 187 3 3 3 0 := ⟨by kernel_rfl, by kernel_rfl⟩
instance : FieldTy Try.prog 187 4 4 26 1 := ⟨by kernel_rfl, by kernel_rfl⟩
instance : FieldTy Try.prog 187 5 6 4 0 := ⟨by kernel_rfl, by kernel_rfl⟩
instance : BuildTy Try.prog 187 [(0, 1), (1, 1), (2, 1), (3, 1), (4, 2), (6, 1)] [.int .i64 0, .bool false, .int .i64 0, .int .i64 0, .int .i64 0, .int .i64 0, .bool false] := ⟨fun parts => by kernel_rfl⟩
-- 188 deuce/api.Game
instance : Ty Try.prog 188 true 7 56 (.agg #[.int .i64 0, .bool false, .int .i64 0, .int .i64 0, .int .i64 0, .int .i64 0, .bool false]) [.int .i64 0, .bool false, .int .i64 0, .int .i64 0, .int .i64 0, .int .i64 0, .bool false] := ⟨by kernel_rfl, by kernel_rfl, rfl, rfl⟩
instance : FieldTy Try.prog 188 0 0 3 0 := ⟨by kernel_rfl, by kernel_rfl⟩
instance : FieldTy Try.prog 188 1 1 4 0 := ⟨by kernel_rfl, by kernel_rfl⟩
instance : FieldTy Try.prog 188 2 2 3 0 := ⟨by kernel_rfl, by kernel_rfl⟩
instance : FieldTy Try.prog 188 3 3 3 0 := ⟨by kernel_rfl, by kernel_rfl⟩
instance : FieldTy Try.prog 188 4 4 26 1 := ⟨by kernel_rfl, by kernel_rfl⟩
instance : FieldTy Try.prog 188 5 6 4 0 := ⟨by kernel_rfl, by kernel_rfl⟩
instance : BuildTy Try.prog 188 [(0, 1), (1, 1), (2, 1), (3, 1), (4, 2), (6, 1)] [.int .i64 0, .bool false, .int .i64 0, .int .i64 0, .int .i64 0, .int .i64 0, .bool false] := ⟨fun parts => by kernel_rfl⟩
-- 189 *int
instance : Ty Try.prog 189 false 1 8 (.pointer none) [.pointer none] := ⟨by kernel_rfl, by kernel_rfl, rfl, rfl⟩
-- 190 func(api.Span, api.Span) api.Span
instance : Ty Try.prog 190 false 1 8 (.nilFunc) [.nilFunc] := ⟨by kernel_rfl, by kernel_rfl, rfl, rfl⟩
-- 191 func(api.Format, bool, api.Pair) bool
instance : Ty Try.prog 191 false 1 8 (.nilFunc) [.nilFunc] := ⟨by kernel_rfl, by kernel_rfl, rfl, rfl⟩
-- 192 func(api.Format, bool, api.Pair, int) bool
instance : Ty Try.prog 192 false 1 8 (.nilFunc) [.nilFunc] := ⟨by kernel_rfl, by kernel_rfl, rfl, rfl⟩
-- 193 func() string
instance : Ty Try.prog 193 false 1 8 (.nilFunc) [.nilFunc] := ⟨by kernel_rfl, by kernel_rfl, rfl, rfl⟩
-- 194 struct { _interface *abi.Type; concrete *abi.Type; asserted *abi.Type; missingMethod string }
instance : Ty Try.prog 194 true 4 40 (.agg #[.pointer none, .pointer none, .pointer none, .string ByteArray.empty]) [.pointer none, .pointer none, .pointer none, .string ByteArray.empty] := ⟨by kernel_rfl, by kernel_rfl, rfl, rfl⟩
instance : FieldTy Try.prog 194 0 0 17 0 := ⟨by kernel_rfl, by kernel_rfl⟩
instance : FieldTy Try.prog 194 1 1 17 0 := ⟨by kernel_rfl, by kernel_rfl⟩
instance : FieldTy Try.prog 194 2 2 17 0 := ⟨by kernel_rfl, by kernel_rfl⟩
instance : FieldTy Try.prog 194 3 3 9 0 := ⟨by kernel_rfl, by kernel_rfl⟩
instance : BuildTy Try.prog 194 [(0, 1), (1, 1), (2, 1), (3, 1)] [.pointer none, .pointer none, .pointer none, .string ByteArray.empty] := ⟨fun parts => by kernel_rfl⟩
-- 196 [0]*runtime.PanicNilError
instance : Ty Try.prog 196 true 0 0 (.agg #[]) [] := ⟨by kernel_rfl, by kernel_rfl, rfl, rfl⟩
instance : ArrayTy Try.prog 196 0 16 := ⟨by kernel_rfl⟩
-- 197 struct { _ [0]*runtime.PanicNilError }
instance : Ty Try.prog 197 true 0 0 (.agg #[]) [] := ⟨by kernel_rfl, by kernel_rfl, rfl, rfl⟩
-- 199 uint32
instance : Ty Try.prog 199 false 1 4 (.int .u32 0) [.int .u32 0] := ⟨by kernel_rfl, by kernel_rfl, rfl, rfl⟩
-- 202 func(unsafe.Pointer, unsafe.Pointer) bool
instance : Ty Try.prog 202 false 1 8 (.nilFunc) [.nilFunc] := ⟨by kernel_rfl, by kernel_rfl, rfl, rfl⟩
-- 203 *uint8
instance : Ty Try.prog 203 false 1 8 (.pointer none) [.pointer none] := ⟨by kernel_rfl, by kernel_rfl, rfl, rfl⟩
-- 206 struct { Size_ uintptr; PtrBytes uintptr; Hash uint32; TFlag abi.TFlag; Align_ uint8; FieldAlign_ uint8; Kind_ abi.Kind; Equal func(unsafe.Pointer, unsafe.Pointer) bool; GCData *uint8; Str abi.NameOff; PtrToThis abi.TypeOff }
instance : Ty Try.prog 206 true 11 48 (.agg #[.int .u64 0, .int .u64 0, .int .u32 0, .int .u8 0, .int .u8 0, .int .u8 0, .int .u8 0, .nilFunc, .pointer none, .int .i32 0, .int .i32 0]) [.int .u64 0, .int .u64 0, .int .u32 0, .int .u8 0, .int .u8 0, .int .u8 0, .int .u8 0, .nilFunc, .pointer none, .int .i32 0, .int .i32 0] := ⟨by kernel_rfl, by kernel_rfl, rfl, rfl⟩
instance : FieldTy Try.prog 206 0 0 12 0 := ⟨by kernel_rfl, by kernel_rfl⟩
instance : FieldTy Try.prog 206 1 1 12 0 := ⟨by kernel_rfl, by kernel_rfl⟩
instance : FieldTy Try.prog 206 2 2 199 0 := ⟨by kernel_rfl, by kernel_rfl⟩
instance : FieldTy Try.prog 206 3 3 200 0 := ⟨by kernel_rfl, by kernel_rfl⟩
instance : FieldTy Try.prog 206 4 4 5 0 := ⟨by kernel_rfl, by kernel_rfl⟩
instance : FieldTy Try.prog 206 5 5 5 0 := ⟨by kernel_rfl, by kernel_rfl⟩
instance : FieldTy Try.prog 206 6 6 201 0 := ⟨by kernel_rfl, by kernel_rfl⟩
instance : FieldTy Try.prog 206 7 7 202 0 := ⟨by kernel_rfl, by kernel_rfl⟩
instance : FieldTy Try.prog 206 8 8 203 0 := ⟨by kernel_rfl, by kernel_rfl⟩
instance : FieldTy Try.prog 206 9 9 204 0 := ⟨by kernel_rfl, by kernel_rfl⟩
instance : FieldTy Try.prog 206 10 10 205 0 := ⟨by kernel_rfl, by kernel_rfl⟩
instance : BuildTy Try.prog 206 [(0, 1), (1, 1), (2, 1), (3, 1), (4, 1), (5, 1), (6, 1), (7, 1), (8, 1), (9, 1), (10, 1)] [.int .u64 0, .int .u64 0, .int .u32 0, .int .u8 0, .int .u8 0, .int .u8 0, .int .u8 0, .nilFunc, .pointer none, .int .i32 0, .int .i32 0] := ⟨fun parts => by kernel_rfl⟩
-- 208 unsafe.Pointer
instance : Ty Try.prog 208 false 1 8 (.pointer none) [.pointer none] := ⟨by kernel_rfl, by kernel_rfl, rfl, rfl⟩
-- deuce/deucelaw01.ScoreBoards
instance : FnOk Try.prog 3 := ⟨by kernel_rfl⟩
-- deuce/deucelaw09.BallsRests
instance : FnOk Try.prog 4 := ⟨by kernel_rfl⟩
-- deuce/deucelaw09.BallsOrder
instance : FnOk Try.prog 5 := ⟨by kernel_rfl⟩
-- deuce/deucelaw09.BallsSums
instance : FnOk Try.prog 6 := ⟨by kernel_rfl⟩
-- deuce/deucelaw09.BallsShort
instance : FnOk Try.prog 7 := ⟨by kernel_rfl⟩
-- deuce/deucelaw09.BallsMore
instance : FnOk Try.prog 8 := ⟨by kernel_rfl⟩
-- deuce/deucelaw09.BallsDepots
instance : FnOk Try.prog 9 := ⟨by kernel_rfl⟩
-- deuce/deucelaw01.works
instance : FnOk Try.prog 10 := ⟨by kernel_rfl⟩
-- deuce/score.Arises
instance : FnOk Try.prog 11 := ⟨by kernel_rfl⟩
-- deuce/deuceref01.Arises
instance : FnOk Try.prog 12 := ⟨by kernel_rfl⟩
-- deuce/score.Least
instance : FnOk Try.prog 13 := ⟨by kernel_rfl⟩
-- deuce/deuceref01.Least
instance : FnOk Try.prog 14 := ⟨by kernel_rfl⟩
-- deuce/deucelaw01.sameBoard
instance : FnOk Try.prog 15 := ⟨by kernel_rfl⟩
-- deuce/deucelaw09.far
instance : FnOk Try.prog 16 := ⟨by kernel_rfl⟩
-- deuce/deucelaw09.works
instance : FnOk Try.prog 17 := ⟨by kernel_rfl⟩
-- deuce/balls.Rest
instance : FnOk Try.prog 18 := ⟨by kernel_rfl⟩
-- deuce/deuceref09.Rest
instance : FnOk Try.prog 19 := ⟨by kernel_rfl⟩
-- deuce/deucelaw09.ready
instance : FnOk Try.prog 20 := ⟨by kernel_rfl⟩
-- deuce/balls.Order
instance : FnOk Try.prog 21 := ⟨by kernel_rfl⟩
-- deuce/balls.Left
instance : FnOk Try.prog 22 := ⟨by kernel_rfl⟩
-- deuce/deucelaw09.with
instance : FnOk Try.prog 23 := ⟨by kernel_rfl⟩
-- deuce/balls.Need
instance : FnOk Try.prog 24 := ⟨by kernel_rfl⟩
-- deuce/deuceref09.Copy
instance : FnOk Try.prog 25 := ⟨by kernel_rfl⟩
-- deuce/balls.Short
instance : FnOk Try.prog 26 := ⟨by kernel_rfl⟩
-- deuce/deucelaw09.earlier
instance : FnOk Try.prog 27 := ⟨by kernel_rfl⟩
-- deuce/deucelaw09.Far
instance : FnOk Try.prog 28 := ⟨by kernel_rfl⟩
-- deuce/balls.Check
instance : FnOk Try.prog 29 := ⟨by kernel_rfl⟩
-- deuce/deuceref09.Check
instance : FnOk Try.prog 30 := ⟨by kernel_rfl⟩
-- deuce/deuceref09.Need
instance : FnOk Try.prog 31 := ⟨by kernel_rfl⟩
-- deuce/deuceref09.Left
instance : FnOk Try.prog 32 := ⟨by kernel_rfl⟩
-- deuce/deuceref09.Short
instance : FnOk Try.prog 33 := ⟨by kernel_rfl⟩
-- deuce/deuceref09.Order
instance : FnOk Try.prog 34 := ⟨by kernel_rfl⟩
-- deuce/deucelaw01.Example
instance : FnOk Try.prog 35 := ⟨by kernel_rfl⟩
-- deuce/score.Play
instance : FnOk Try.prog 36 := ⟨by kernel_rfl⟩
-- deuce/score.Ways
instance : FnOk Try.prog 37 := ⟨by kernel_rfl⟩
-- deuce/score.Check
instance : FnOk Try.prog 38 := ⟨by kernel_rfl⟩
-- deuce/score.isBoard
instance : FnOk Try.prog 39 := ⟨by kernel_rfl⟩
-- (deuce/score.rules).arises
instance : FnOk Try.prog 40 := ⟨by kernel_rfl⟩
-- deuce/deuceref01.Check
instance : FnOk Try.prog 41 := ⟨by kernel_rfl⟩
-- deuce/deuceref01.isBoard
instance : FnOk Try.prog 42 := ⟨by kernel_rfl⟩
-- deuce/deuceref01.arises
instance : FnOk Try.prog 43 := ⟨by kernel_rfl⟩
-- (deuce/score.rules).over
instance : FnOk Try.prog 44 := ⟨by kernel_rfl⟩
-- deuce/score.leads
instance : FnOk Try.prog 45 := ⟨by kernel_rfl⟩
-- (deuce/score.rules).least
instance : FnOk Try.prog 46 := ⟨by kernel_rfl⟩
-- (deuce/score.rules).most
instance : FnOk Try.prog 47 := ⟨by kernel_rfl⟩
-- deuce/deuceref01.within
instance : FnOk Try.prog 48 := ⟨by kernel_rfl⟩
-- deuce/deuceref01.Won
instance : FnOk Try.prog 49 := ⟨by kernel_rfl⟩
-- deuce/deuceref01.swapped
instance : FnOk Try.prog 50 := ⟨by kernel_rfl⟩
-- deuce/deuceref01.costs
instance : FnOk Try.prog 51 := ⟨by kernel_rfl⟩
-- deuce/deuceref01.tied
instance : FnOk Try.prog 52 := ⟨by kernel_rfl⟩
-- deuce/deuceref01.leads
instance : FnOk Try.prog 53 := ⟨by kernel_rfl⟩
-- deuce/deuceref01.plus
instance : FnOk Try.prog 54 := ⟨by kernel_rfl⟩
-- deuce/deuceref01.from
instance : FnOk Try.prog 55 := ⟨by kernel_rfl⟩
-- deuce/deuceref01.need
instance : FnOk Try.prog 56 := ⟨by kernel_rfl⟩
-- deuce/deucelaw09.Example
instance : FnOk Try.prog 57 := ⟨by kernel_rfl⟩
-- deuce/balls.check
instance : FnOk Try.prog 58 := ⟨by kernel_rfl⟩
-- deuce/balls.open
instance : FnOk Try.prog 59 := ⟨by kernel_rfl⟩
-- deuce/deuceref01.Range
instance : FnOk Try.prog 60 := ⟨by kernel_rfl⟩
-- deuce/deuceref09.rest
instance : FnOk Try.prog 61 := ⟨by kernel_rfl⟩
-- deuce/balls.ask
instance : FnOk Try.prog 62 := ⟨by kernel_rfl⟩
-- slices.IndexFunc[[]deuce/api.Span,deuce/api.Span]
instance : FnOk Try.prog 63 := ⟨by kernel_rfl⟩
-- deuce/balls.Short$1
instance : FnOk Try.prog 64 := ⟨by kernel_rfl⟩
-- deuce/balls.Short$2
instance : FnOk Try.prog 65 := ⟨by kernel_rfl⟩
-- deuce/balls.Check$1
instance : FnOk Try.prog 66 := ⟨by kernel_rfl⟩
-- deuce/balls.within
instance : FnOk Try.prog 67 := ⟨by kernel_rfl⟩
-- slices.ContainsFunc[[]int,int]
instance : FnOk Try.prog 68 := ⟨by kernel_rfl⟩
-- deuce/balls.Check$2
instance : FnOk Try.prog 69 := ⟨by kernel_rfl⟩
-- deuce/deuceref09.within
instance : FnOk Try.prog 70 := ⟨by kernel_rfl⟩
-- deuce/deuceref09.isFixture
instance : FnOk Try.prog 71 := ⟨by kernel_rfl⟩
-- deuce/deuceref09.check
instance : FnOk Try.prog 72 := ⟨by kernel_rfl⟩
-- deuce/deuceref09.need
instance : FnOk Try.prog 73 := ⟨by kernel_rfl⟩
-- deuce/deuceref09.lefts
instance : FnOk Try.prog 74 := ⟨by kernel_rfl⟩
-- deuce/score.play
instance : FnOk Try.prog 75 := ⟨by kernel_rfl⟩
-- (deuce/score.rules).sets
instance : FnOk Try.prog 76 := ⟨by kernel_rfl⟩
-- deuce/score.Check$1
instance : FnOk Try.prog 77 := ⟨by kernel_rfl⟩
-- deuce/score.within
instance : FnOk Try.prog 78 := ⟨by kernel_rfl⟩
-- deuce/score.isBoard$1
instance : FnOk Try.prog 79 := ⟨by kernel_rfl⟩
-- slices.ContainsFunc[[]deuce/api.Pair,deuce/api.Pair]
instance : FnOk Try.prog 80 := ⟨by kernel_rfl⟩
-- deuce/score.pairs
instance : FnOk Try.prog 81 := ⟨by kernel_rfl⟩
-- deuce/score.isBoard$2
instance : FnOk Try.prog 82 := ⟨by kernel_rfl⟩
-- (deuce/score.rules).set
instance : FnOk Try.prog 83 := ⟨by kernel_rfl⟩
-- (deuce/score.rules).table
instance : FnOk Try.prog 84 := ⟨by kernel_rfl⟩
-- (deuce/score.set).breaks
instance : FnOk Try.prog 85 := ⟨by kernel_rfl⟩
-- (deuce/score.rules).arises$1
instance : FnOk Try.prog 86 := ⟨by kernel_rfl⟩
-- (deuce/score.rules).game
instance : FnOk Try.prog 87 := ⟨by kernel_rfl⟩
-- deuce/deuceref01.isTie
instance : FnOk Try.prog 88 := ⟨by kernel_rfl⟩
-- deuce/deuceref01.orders
instance : FnOk Try.prog 89 := ⟨by kernel_rfl⟩
-- deuce/deuceref01.IsLast
instance : FnOk Try.prog 90 := ⟨by kernel_rfl⟩
-- deuce/deuceref01.ArePoints
instance : FnOk Try.prog 91 := ⟨by kernel_rfl⟩
-- deuce/score.add
instance : FnOk Try.prog 92 := ⟨by kernel_rfl⟩
-- (deuce/score.rules).takes
instance : FnOk Try.prog 93 := ⟨by kernel_rfl⟩
-- deuce/deuceref01.Rule
instance : FnOk Try.prog 94 := ⟨by kernel_rfl⟩
-- deuce/score.Range
instance : FnOk Try.prog 95 := ⟨by kernel_rfl⟩
-- (deuce/balls.rest).tie
instance : FnOk Try.prog 96 := ⟨by kernel_rfl⟩
-- (deuce/balls.rest).from
instance : FnOk Try.prog 97 := ⟨by kernel_rfl⟩
-- deuce/balls.begun
instance : FnOk Try.prog 98 := ⟨by kernel_rfl⟩
-- deuce/deuceref09.courses
instance : FnOk Try.prog 99 := ⟨by kernel_rfl⟩
-- deuce/deuceref09.place
instance : FnOk Try.prog 100 := ⟨by kernel_rfl⟩
-- deuce/balls.run
instance : FnOk Try.prog 101 := ⟨by kernel_rfl⟩
-- slices.IndexFunc[[]int,int]
instance : FnOk Try.prog 102 := ⟨by kernel_rfl⟩
-- deuce/deuceref09.Needs
instance : FnOk Try.prog 103 := ⟨by kernel_rfl⟩
-- deuce/score.begin
instance : FnOk Try.prog 104 := ⟨by kernel_rfl⟩
-- (*deuce/score.match).point
instance : FnOk Try.prog 105 := ⟨by kernel_rfl⟩
-- slices.IndexFunc[[]deuce/api.Pair,deuce/api.Pair]
instance : FnOk Try.prog 106 := ⟨by kernel_rfl⟩
-- slices.Clone[[]deuce/api.Pair,deuce/api.Pair]
instance : FnOk Try.prog 107 := ⟨by kernel_rfl⟩
-- (deuce/score.rules).extent
instance : FnOk Try.prog 108 := ⟨by kernel_rfl⟩
-- (deuce/balls.rest).after
instance : FnOk Try.prog 109 := ⟨by kernel_rfl⟩
-- (deuce/balls.rest).due
instance : FnOk Try.prog 110 := ⟨by kernel_rfl⟩
-- (deuce/balls.bound).or
instance : FnOk Try.prog 111 := ⟨by kernel_rfl⟩
-- deuce/deuceref09.joined
instance : FnOk Try.prog 112 := ⟨by kernel_rfl⟩
-- deuce/deuceref09.after
instance : FnOk Try.prog 113 := ⟨by kernel_rfl⟩
-- deuce/balls.needs
instance : FnOk Try.prog 114 := ⟨by kernel_rfl⟩
-- deuce/deuceref09.Begun
instance : FnOk Try.prog 115 := ⟨by kernel_rfl⟩
-- deuce/deuceref09.times
instance : FnOk Try.prog 116 := ⟨by kernel_rfl⟩
-- (*deuce/score.match).next
instance : FnOk Try.prog 117 := ⟨by kernel_rfl⟩
-- (*deuce/score.match).number
instance : FnOk Try.prog 118 := ⟨by kernel_rfl⟩
-- deuce/score.sum
instance : FnOk Try.prog 119 := ⟨by kernel_rfl⟩
-- (*deuce/score.match).serves
instance : FnOk Try.prog 120 := ⟨by kernel_rfl⟩
-- (*deuce/score.match).fresh
instance : FnOk Try.prog 121 := ⟨by kernel_rfl⟩
-- (deuce/balls.bound).or$1
instance : FnOk Try.prog 122 := ⟨by kernel_rfl⟩
-- deuce/deuceref09.isTie
instance : FnOk Try.prog 123 := ⟨by kernel_rfl⟩
-- deuce/deuceref09.ended
instance : FnOk Try.prog 124 := ⟨by kernel_rfl⟩
-- deuce/deuceref09.due
instance : FnOk Try.prog 125 := ⟨by kernel_rfl⟩
-- deuce/balls.times
instance : FnOk Try.prog 126 := ⟨by kernel_rfl⟩
-- (deuce/score.rules).due
instance : FnOk Try.prog 127 := ⟨by kernel_rfl⟩
end Go.Proofs.Ytacaojifempclaa

namespace Go.Proofs.Ytacaojifempclaa
open Go
instance : BuildArr Try.prog 111 2 [.int .i64 0, .int .i64 0, .int .i64 0, .int .i64 0, .int .i64 0, .int .i64 0, .int .i64 0, .int .i64 0, .int .i64 0, .int .i64 0, .int .i64 0, .int .i64 0, .int .i64 0, .int .i64 0, .int .i64 0, .int .i64 0, .int .i64 0, .int .i64 0, .int .i64 0, .int .i64 0, .int .i64 0, .int .i64 0, .int .i64 0, .int .i64 0, .int .i64 0, .int .i64 0, .int .i64 0, .int .i64 0, .int .i64 0, .int .i64 0, .int .i64 0, .int .i64 0, .int .i64 0, .int .i64 0, .int .i64 0, .int .i64 0, .int .i64 0, .int .i64 0, .int .i64 0, .int .i64 0, .int .i64 0, .int .i64 0, .int .i64 0, .int .i64 0, .int .i64 0, .int .i64 0, .int .i64 0, .int .i64 0, .int .i64 0, .int .i64 0, .int .i64 0, .int .i64 0, .int .i64 0, .int .i64 0, .int .i64 0, .int .i64 0, .int .i64 0, .int .i64 0, .int .i64 0, .int .i64 0, .int .i64 0, .int .i64 0, .int .i64 0, .int .i64 0, .int .i64 0, .int .i64 0, .int .i64 0, .int .i64 0, .int .i64 0, .int .i64 0, .int .i64 0, .int .i64 0, .int .i64 0, .int .i64 0, .int .i64 0, .int .i64 0, .int .i64 0, .int .i64 0, .int .i64 0, .int .i64 0, .int .i64 0, .int .i64 0, .int .i64 0, .int .i64 0, .int .i64 0, .int .i64 0, .int .i64 0, .int .i64 0, .int .i64 0, .int .i64 0, .int .i64 0, .int .i64 0, .int .i64 0, .int .i64 0, .int .i64 0, .int .i64 0, .int .i64 0, .int .i64 0, .int .i64 0, .int .i64 0, .int .i64 0, .int .i64 0, .int .i64 0, .int .i64 0, .int .i64 0, .int .i64 0, .int .i64 0, .int .i64 0, .int .i64 0, .int .i64 0, .int .i64 0, .int .i64 0, .int .i64 0, .int .i64 0, .int .i64 0, .int .i64 0, .int .i64 0, .int .i64 0, .int .i64 0, .int .i64 0, .int .i64 0, .int .i64 0] := ⟨fun parts => by kernel_rfl⟩
instance : BuildArr Try.prog 157 1 [.int .i64 0, .int .i64 0] := ⟨fun parts => by kernel_rfl⟩
instance : BuildArr Try.prog 181 2 [.int .i64 0, .int .i64 0, .int .i64 0, .int .i64 0, .int .i64 0, .int .i64 0] := ⟨fun parts => by kernel_rfl⟩
instance : BuildArr Try.prog 182 2 [.int .i64 0, .int .i64 0, .int .i64 0, .int .i64 0, .int .i64 0, .int .i64 0] := ⟨fun parts => by kernel_rfl⟩
instance : BuildArr Try.prog 196 1 [] := ⟨fun parts => by kernel_rfl⟩
instance : FlatTy Try.prog 22 [false, false, true, false, false, false, false, false, false, true] := ⟨by kernel_rfl, by kernel_rfl, by kernel_rfl⟩
instance : FlatTy Try.prog 23 [false, false, true, false, false, false, false, false, false, true] := ⟨by kernel_rfl, by kernel_rfl, by kernel_rfl⟩
instance : FlatTy Try.prog 25 [false, false] := ⟨by kernel_rfl, by kernel_rfl, by kernel_rfl⟩
instance : FlatTy Try.prog 26 [false, false] := ⟨by kernel_rfl, by kernel_rfl, by kernel_rfl⟩
instance : FlatTy Try.prog 38 [false, false] := ⟨by kernel_rfl, by kernel_rfl, by kernel_rfl⟩
instance : FlatTy Try.prog 39 [false, false] := ⟨by kernel_rfl, by kernel_rfl, by kernel_rfl⟩
instance : FlatTy Try.prog 43 [false, false, false] := ⟨by kernel_rfl, by kernel_rfl, by kernel_rfl⟩
instance : FlatTy Try.prog 44 [false, false, false] := ⟨by kernel_rfl, by kernel_rfl, by kernel_rfl⟩
instance : FlatTy Try.prog 50 [false, false] := ⟨by kernel_rfl, by kernel_rfl, by kernel_rfl⟩
instance : FlatTy Try.prog 51 [false, false] := ⟨by kernel_rfl, by kernel_rfl, by kernel_rfl⟩
instance : FlatTy Try.prog 61 [false, false, false] := ⟨by kernel_rfl, by kernel_rfl, by kernel_rfl⟩
instance : FlatTy Try.prog 62 [false, false, false] := ⟨by kernel_rfl, by kernel_rfl, by kernel_rfl⟩
instance : FlatTy Try.prog 79 [false, false, true, false, false, false, false, false, false, true] := ⟨by kernel_rfl, by kernel_rfl, by kernel_rfl⟩
instance : FlatTy Try.prog 80 [false, false, true, false, false, false, false, false, false, true] := ⟨by kernel_rfl, by kernel_rfl, by kernel_rfl⟩
instance : FlatTy Try.prog 85 [false, false, false, false] := ⟨by kernel_rfl, by kernel_rfl, by kernel_rfl⟩
instance : FlatTy Try.prog 86 [false, false, false, false] := ⟨by kernel_rfl, by kernel_rfl, by kernel_rfl⟩
instance : MapTy Try.prog 88 86 3 := ⟨by kernel_rfl⟩
instance : FlatTy Try.prog 102 [false, false, false, false] := ⟨by kernel_rfl, by kernel_rfl, by kernel_rfl⟩
instance : FlatTy Try.prog 103 [false, false, false, false] := ⟨by kernel_rfl, by kernel_rfl, by kernel_rfl⟩
instance : FlatTy Try.prog 108 [false, false, false, false] := ⟨by kernel_rfl, by kernel_rfl, by kernel_rfl⟩
instance : FlatTy Try.prog 109 [false, false, false, false] := ⟨by kernel_rfl, by kernel_rfl, by kernel_rfl⟩
instance : FlatTy Try.prog 136 [false, false] := ⟨by kernel_rfl, by kernel_rfl, by kernel_rfl⟩
instance : FlatTy Try.prog 137 [false, false] := ⟨by kernel_rfl, by kernel_rfl, by kernel_rfl⟩
instance : FlatTy Try.prog 139 [false, true] := ⟨by kernel_rfl, by kernel_rfl, by kernel_rfl⟩
instance : FlatTy Try.prog 140 [false, true] := ⟨by kernel_rfl, by kernel_rfl, by kernel_rfl⟩
instance : MapTy Try.prog 142 26 140 := ⟨by kernel_rfl⟩
instance : MapTy Try.prog 154 159 103 := ⟨by kernel_rfl⟩
instance : FlatTy Try.prog 158 [false, false, false, false, false, false, false] := ⟨by kernel_rfl, by kernel_rfl, by kernel_rfl⟩
instance : FlatTy Try.prog 159 [false, false, false, false, false, false, false] := ⟨by kernel_rfl, by kernel_rfl, by kernel_rfl⟩
instance : FlatTy Try.prog 187 [false, true, false, false, false, false, true] := ⟨by kernel_rfl, by kernel_rfl, by kernel_rfl⟩
instance : FlatTy Try.prog 188 [false, true, false, false, false, false, true] := ⟨by kernel_rfl, by kernel_rfl, by kernel_rfl⟩
end Go.Proofs.Ytacaojifempclaa

namespace Go.Proofs.Ytacaojifempclaa
open Go Go.RowKit

def wi (n lo hi : Int) : Bool := decide (lo ≤ n) && decide (n ≤ hi)
theorem wi_iff {n lo hi : Int} : wi n lo hi = true ↔ lo ≤ n ∧ n ≤ hi := by simp [wi]
theorem wi_not {n lo hi : Int} : (!wi n lo hi) = false ↔ lo ≤ n ∧ n ≤ hi := by simp [wi]
theorem cdT' {α β : Type} (f : α → β) {c : Bool} {x y : α} (h : c = true) : f x = f (bif c then x else y) := by rw [h]; rfl
theorem cdF' {α β : Type} (f : α → β) {c : Bool} {x y : α} (h : c = false) : f y = f (bif c then x else y) := by rw [h]; rfl

structure Fmt where
  (sets games : Int) (noAd : Bool) (tie to ltie lto first thn : Int) (dbl : Bool)
abbrev Fmt.cells (f : Fmt) : List Value := [.int .i64 f.sets, .int .i64 f.games, .bool f.noAd, .int .i64 f.tie, .int .i64 f.to, .int .i64 f.ltie, .int .i64 f.lto, .int .i64 f.first, .int .i64 f.thn, .bool f.dbl]
abbrev Fmt.val (f : Fmt) : Value := .agg #[.int .i64 f.sets, .int .i64 f.games, .bool f.noAd, .int .i64 f.tie, .int .i64 f.to, .int .i64 f.ltie, .int .i64 f.lto, .int .i64 f.first, .int .i64 f.thn, .bool f.dbl]
abbrev Pr := Int × Int
abbrev pv (p : Pr) : Value := .agg #[.int .i64 p.1, .int .i64 p.2]
def tieB (f : Fmt) (n : Int) : Bool := decide (n = -1) || decide (n = 0) || decide (n = f.games - 1) || decide (n = f.games)
def fmtOk (f : Fmt) : Bool := wi f.sets 1 3 && wi f.games 1 8 && tieB f f.tie && tieB f f.ltie && wi f.to 1 15 && wi f.lto 1 15 && wi f.first 0 20 && wi f.thn 0 20
def chkF (f : Fmt) : Int := bif fmtOk f then 0 else 10
structure Fmt.Ok (f : Fmt) : Prop where
  s0 : 1 ≤ f.sets
  s1 : f.sets ≤ 3
  g0 : 1 ≤ f.games
  g1 : f.games ≤ 8
  t : f.tie = -1 ∨ f.tie = 0 ∨ f.tie = f.games - 1 ∨ f.tie = f.games
  lt : f.ltie = -1 ∨ f.ltie = 0 ∨ f.ltie = f.games - 1 ∨ f.ltie = f.games
  o0 : 1 ≤ f.to
  o1 : f.to ≤ 15
  l0 : 1 ≤ f.lto
  l1 : f.lto ≤ 15
  f0 : 0 ≤ f.first
  f1 : f.first ≤ 20
  n0 : 0 ≤ f.thn
  n1 : f.thn ≤ 20
theorem fmt_ok {f : Fmt} (h : fmtOk f = true) : f.Ok := by
  simp only [fmtOk, tieB, Bool.and_eq_true, Bool.or_eq_true, wi_iff, decide_eq_true_eq] at h
  constructor <;> omega
def Sm (p : Pr) : Prop := (-1000000 ≤ p.1 ∧ p.1 ≤ 1000000) ∧ -1000000 ≤ p.2 ∧ p.2 ≤ 1000000
def leadsV (p : Pr) (l b : Int) : Int := bif decide (l ≤ p.1) && decide (b ≤ p.1 - p.2) then 0 else bif decide (l ≤ p.2) && decide (b ≤ p.2 - p.1) then 1 else -1
def setV (f : Fmt) (won : Pr) : Pr := bif decide (won.1 = f.sets - 1) && decide (won.2 = f.sets - 1) then (f.ltie, f.lto) else (f.tie, f.to)
def brksV (s g : Pr) : Bool := decide (g.1 = s.1) && decide (g.2 = s.1)
def addV (p : Pr) (side : Int) : Pr := bif decide (side = 0) then (p.1 + 1, p.2) else (p.1, p.2 + 1)
def gameV (f : Fmt) (s : Pr) (tie : Bool) (p : Pr) : Int := bif tie then leadsV p s.2 2 else bif f.noAd then leadsV p 4 1 else leadsV p 4 2
def dueV (f : Fmt) (n : Int) : Bool := decide (0 < f.first) && (decide (n - f.first = 0) || decide (0 < n - f.first) && decide (0 < f.thn) && decide ((n - f.first) % f.thn = 0))
theorem leadsV_rng (p : Pr) (l b : Int) : -1 ≤ leadsV p l b ∧ leadsV p l b ≤ 1 := by
  unfold leadsV
  cases decide (l ≤ p.1) && decide (b ≤ p.1 - p.2)
  · cases decide (l ≤ p.2) && decide (b ≤ p.2 - p.1) <;> simp
  · simp
end Go.Proofs.Ytacaojifempclaa

namespace Go.Proofs.Ytacaojifempclaa
open Go Go.RowKit

theorem C_score_within (n lo hi : Int) (w : World) : C0 Try.prog 78 [.int .i64 n, .int .i64 lo, .int .i64 hi] w (.bool (wi n lo hi)) := by
  refine ⟨en Try.func78 Try.ntmps78 (St.init w) (h := fun F => ?_)⟩
  refine sq (h := ?_)
  refine rg (h := ?_)
  refine WL.y (hy := asg) (h := ?_)
  refine nl (h := ?_)
  refine q_seq (h := ?_)
  refine sq (h := ?_)
  refine rg (h := ?_)
  refine WL.y (hy := mv) (h := ?_)
  refine WL.y (hy := mv) (h := ?_)
  refine WL.y (hy := leq) (h := ?_)
  refine WL.y (hy := mv) (h := ?_)
  apply brAnd 4 10 14 (by exact rfl)
  · intro hb0
    refine un (h := ?_)
    refine WL.y (hy := mv) (h := ?_)
    refine un (h := ?_)
    refine WL.y (hy := mv) (h := ?_)
    refine un (h := ?_)
    refine WL.y (hy := leq) (h := ?_)
    refine WL.y (hy := (by first | exact pkT | exact pkF)) (h := ?_)
    exact mg (by repeat (first | exact trivial | refine ⟨rfl, ?_⟩ | refine ⟨by rw [hb0]; rfl, ?_⟩)) (by repeat (first | exact SubL.nil | (apply SubL.cons; (repeat (first | exact At.here | apply At.there))) | exact SubL.refl _ | apply SubL.skip))
  · intro hb0
    repeat (first | refine un (h := ?_) | refine sk (h := ?_) | refine WL.y (hy := pkF) (h := ?_) | refine WL.y (hy := pkT) (h := ?_))
    exact mg (by repeat (first | exact trivial | refine ⟨rfl, ?_⟩ | refine ⟨by rw [hb0]; rfl, ?_⟩)) (by repeat (first | exact SubL.nil | (apply SubL.cons; (repeat (first | exact At.here | apply At.there))) | exact SubL.refl _ | apply SubL.skip))
  refine WL.y (hy := asg) (h := ?_)
  refine nl (h := ?_)
  refine q_seq (h := ?_)
  refine rtn (h := ?_)
  refine q_ret (hR := ?_)
  exact fun w hS => ⟨rfl, hS.sub (by repeat (first | exact SubL.nil | (apply SubL.cons; (repeat (first | exact At.here | apply At.there))) | exact SubL.refl _ | apply SubL.skip))⟩
theorem T_score_Check1 (f : Fmt) (n : Int) (hg : 1 ≤ f.games ∧ f.games ≤ 8) (a0 : Nat) : Tr Try.prog 77 [.int .i64 n, .pointer (some ⟨a0, 0, none⟩)] [.blk a0 23 f.cells] (fun _ : Unit => True) (fun _ => .bool (tieB f n)) (fun _ => [.blk a0 23 f.cells]) := by
  refine ⟨fun w0 w R hst => ?_⟩
  refine en Try.func77 Try.ntmps77 hst (h := fun F => ?_)
  refine sq (h := ?_)
  refine rg (h := ?_)
  refine WL.y (hy := asg) (h := ?_)
  refine nl (h := ?_)
  refine q_seq (h := ?_)
  refine sq (h := ?_)
  refine rg (h := ?_)
  refine WL.y (hy := mv) (h := ?_)
  refine WL.y (hy := eql) (h := ?_)
  refine WL.y (hy := mv) (h := ?_)
  apply brOr 3 6 9 (by exact rfl)
  · intro hb0
    refine un (h := ?_)
    refine WL.y (hy := mv) (h := ?_)
    refine un (h := ?_)
    refine WL.y (hy := eql) (h := ?_)
    refine WL.y (hy := (by first | exact pkT | exact pkF)) (h := ?_)
    exact mg (by repeat (first | exact trivial | refine ⟨rfl, ?_⟩ | refine ⟨by rw [hb0]; rfl, ?_⟩)) (by repeat (first | exact SubL.nil | (apply SubL.cons; (repeat (first | exact At.here | apply At.there))) | exact SubL.refl _ | apply SubL.skip))
  · intro hb0
    repeat (first | refine un (h := ?_) | refine sk (h := ?_) | refine WL.y (hy := pkF) (h := ?_) | refine WL.y (hy := pkT) (h := ?_))
    exact mg (by repeat (first | exact trivial | refine ⟨rfl, ?_⟩ | refine ⟨by rw [hb0]; rfl, ?_⟩)) (by repeat (first | exact SubL.nil | (apply SubL.cons; (repeat (first | exact At.here | apply At.there))) | exact SubL.refl _ | apply SubL.skip))
  refine WL.y (hy := mv) (h := ?_)
  apply brOr 6 10 16 (by exact rfl)
  · intro hb1
    refine un (h := ?_)
    refine WL.y (hy := mv) (h := ?_)
    refine un (h := ?_)
    refine WL.y (hy := (by first | exact fa | exact faE)) (h := ?_)
    refine un (h := ?_)
    refine WL.y (hy := (by first | exact ld | exact ldE)) (h := ?_)
    refine un (h := ?_)
    refine WL.y (hy := subI) (h := ?_)
    refine un (h := ?_)
    refine WL.y (hy := eql) (h := ?_)
    refine WL.y (hy := (by first | exact pkT | exact pkF)) (h := ?_)
    exact mg (by repeat (first | exact trivial | refine ⟨rfl, ?_⟩ | refine ⟨by rw [hb1]; rfl, ?_⟩)) (by repeat (first | exact SubL.nil | (apply SubL.cons; (repeat (first | exact At.here | apply At.there))) | exact SubL.refl _ | apply SubL.skip))
  · intro hb1
    repeat (first | refine un (h := ?_) | refine sk (h := ?_) | refine WL.y (hy := pkF) (h := ?_) | refine WL.y (hy := pkT) (h := ?_))
    exact mg (by repeat (first | exact trivial | refine ⟨rfl, ?_⟩ | refine ⟨by rw [hb1]; rfl, ?_⟩)) (by repeat (first | exact SubL.nil | (apply SubL.cons; (repeat (first | exact At.here | apply At.there))) | exact SubL.refl _ | apply SubL.skip))
  refine WL.y (hy := mv) (h := ?_)
  apply brOr 5 17 22 (by exact rfl)
  · intro hb2
    refine un (h := ?_)
    refine WL.y (hy := mv) (h := ?_)
    refine un (h := ?_)
    refine WL.y (hy := (by first | exact fa | exact faE)) (h := ?_)
    refine un (h := ?_)
    refine WL.y (hy := (by first | exact ld | exact ldE)) (h := ?_)
    refine un (h := ?_)
    refine WL.y (hy := eql) (h := ?_)
    refine WL.y (hy := (by first | exact pkT | exact pkF)) (h := ?_)
    exact mg (by repeat (first | exact trivial | refine ⟨rfl, ?_⟩ | refine ⟨by rw [hb2]; rfl, ?_⟩)) (by repeat (first | exact SubL.nil | (apply SubL.cons; (repeat (first | exact At.here | apply At.there))) | exact SubL.refl _ | apply SubL.skip))
  · intro hb2
    repeat (first | refine un (h := ?_) | refine sk (h := ?_) | refine WL.y (hy := pkF) (h := ?_) | refine WL.y (hy := pkT) (h := ?_))
    exact mg (by repeat (first | exact trivial | refine ⟨rfl, ?_⟩ | refine ⟨by rw [hb2]; rfl, ?_⟩)) (by repeat (first | exact SubL.nil | (apply SubL.cons; (repeat (first | exact At.here | apply At.there))) | exact SubL.refl _ | apply SubL.skip))
  refine WL.y (hy := asg) (h := ?_)
  refine nl (h := ?_)
  refine q_seq (h := ?_)
  refine rtn (h := ?_)
  refine q_ret (hR := ?_)
  exact fun w hS => ⟨(), trivial, rfl, hS⟩

theorem C_score_Check (f : Fmt) (w : World) : C0 Try.prog 38 [f.val] w (.int .i64 (chkF f)) := by
  refine ⟨en Try.func38 Try.ntmps38 (St.init w) (h := fun F => ?_)⟩
  refine sq (h := ?_)
  refine rg (h := ?_)
  refine bxA (h := fun b0 => ?_)
  refine WL.y (hy := asg) (h := ?_)
  refine nl (h := ?_)
  refine q_seq (h := ?_)
  refine sq (h := ?_)
  refine rg (h := ?_)
  refine WL.y (hy := mkf) (h := ?_)
  refine WL.y (hy := asg) (h := ?_)
  refine nl (h := ?_)
  refine q_seq (h := ?_)
  refine sq (h := ?_)
  refine sq (h := ?_)
  refine rg (h := ?_)
  refine WL.y (hy := (by first | exact fa | exact faE)) (h := ?_)
  refine WL.y (hy := (by first | exact ld | exact ldE)) (h := ?_)
  refine cl0 (hc := fun w hS => C_score_within ..) (h := ?_)
  refine WL.y (hy := mv) (h := ?_)
  apply brAnd 4 8 12 (by exact rfl)
  · intro hb0
    refine un (h := ?_)
    refine WL.y (hy := (by first | exact fa | exact faE)) (h := ?_)
    refine un (h := ?_)
    refine WL.y (hy := (by first | exact ld | exact ldE)) (h := ?_)
    refine un (h := ?_)
    refine cl0 (hc := fun w hS => C_score_within ..) (h := ?_)
    refine WL.y (hy := (by first | exact pkT | exact pkF)) (h := ?_)
    exact mg (by repeat (first | exact trivial | refine ⟨rfl, ?_⟩ | refine ⟨by rw [hb0]; rfl, ?_⟩)) (by repeat (first | exact SubL.nil | (apply SubL.cons; (repeat (first | exact At.here | apply At.there))) | exact SubL.refl _ | apply SubL.skip))
  · intro hb0
    repeat (first | refine un (h := ?_) | refine sk (h := ?_) | refine WL.y (hy := pkF) (h := ?_) | refine WL.y (hy := pkT) (h := ?_))
    exact mg (by repeat (first | exact trivial | refine ⟨rfl, ?_⟩ | refine ⟨by rw [hb0]; rfl, ?_⟩)) (by repeat (first | exact SubL.nil | (apply SubL.cons; (repeat (first | exact At.here | apply At.there))) | exact SubL.refl _ | apply SubL.skip))
  refine WL.y (hy := mv) (h := ?_)
  apply brAnd 5 13 18 (by exact rfl)
  · intro hb1
    have hg : 1 ≤ f.games ∧ f.games ≤ 8 := by simp only [Bool.and_eq_true, wi_iff] at hb1; omega
    refine un (h := ?_)
    refine WL.y (hy := mv) (h := ?_)
    refine un (h := ?_)
    refine WL.y (hy := (by first | exact fa | exact faE)) (h := ?_)
    refine un (h := ?_)
    refine WL.y (hy := (by first | exact ld | exact ldE)) (h := ?_)
    refine un (h := ?_)
    refine clfT inferInstance (fi := []) (cap := [.pointer (some ⟨b0, 0, none⟩)]) (by exact rfl) (by repeat (first | exact Evs.nil | (apply Evs.cons; exact rfl))) (T_score_Check1 f f.tie hg b0) rfl (by repeat (first | exact Spl.nil | (apply Spl.cons; (repeat (first | exact At.here | apply At.there))))) (h := fun _ _ => ?_)
    refine WL.y (hy := (by first | exact pkT | exact pkF)) (h := ?_)
    exact mg (by repeat (first | exact trivial | refine ⟨rfl, ?_⟩ | refine ⟨by rw [hb1]; rfl, ?_⟩)) (by repeat (first | exact SubL.nil | (apply SubL.cons; (repeat (first | exact At.here | apply At.there))) | exact SubL.refl _ | apply SubL.skip))
  · intro hb1
    repeat (first | refine un (h := ?_) | refine sk (h := ?_) | refine WL.y (hy := pkF) (h := ?_) | refine WL.y (hy := pkT) (h := ?_))
    exact mg (by repeat (first | exact trivial | refine ⟨rfl, ?_⟩ | refine ⟨by rw [hb1]; rfl, ?_⟩)) (by repeat (first | exact SubL.nil | (apply SubL.cons; (repeat (first | exact At.here | apply At.there))) | exact SubL.refl _ | apply SubL.skip))
  refine WL.y (hy := mv) (h := ?_)
  apply brAnd 5 19 24 (by exact rfl)
  · intro hb2
    have hg : 1 ≤ f.games ∧ f.games ≤ 8 := by simp only [Bool.and_eq_true, wi_iff] at hb2; omega
    refine un (h := ?_)
    refine WL.y (hy := mv) (h := ?_)
    refine un (h := ?_)
    refine WL.y (hy := (by first | exact fa | exact faE)) (h := ?_)
    refine un (h := ?_)
    refine WL.y (hy := (by first | exact ld | exact ldE)) (h := ?_)
    refine un (h := ?_)
    refine clfT inferInstance (fi := []) (cap := [.pointer (some ⟨b0, 0, none⟩)]) (by exact rfl) (by repeat (first | exact Evs.nil | (apply Evs.cons; exact rfl))) (T_score_Check1 f f.ltie hg b0) rfl (by repeat (first | exact Spl.nil | (apply Spl.cons; (repeat (first | exact At.here | apply At.there))))) (h := fun _ _ => ?_)
    refine WL.y (hy := (by first | exact pkT | exact pkF)) (h := ?_)
    exact mg (by repeat (first | exact trivial | refine ⟨rfl, ?_⟩ | refine ⟨by rw [hb2]; rfl, ?_⟩)) (by repeat (first | exact SubL.nil | (apply SubL.cons; (repeat (first | exact At.here | apply At.there))) | exact SubL.refl _ | apply SubL.skip))
  · intro hb2
    repeat (first | refine un (h := ?_) | refine sk (h := ?_) | refine WL.y (hy := pkF) (h := ?_) | refine WL.y (hy := pkT) (h := ?_))
    exact mg (by repeat (first | exact trivial | refine ⟨rfl, ?_⟩ | refine ⟨by rw [hb2]; rfl, ?_⟩)) (by repeat (first | exact SubL.nil | (apply SubL.cons; (repeat (first | exact At.here | apply At.there))) | exact SubL.refl _ | apply SubL.skip))
  refine WL.y (hy := mv) (h := ?_)
  apply brAnd 4 25 29 (by exact rfl)
  · intro hb3
    refine un (h := ?_)
    refine WL.y (hy := (by first | exact fa | exact faE)) (h := ?_)
    refine un (h := ?_)
    refine WL.y (hy := (by first | exact ld | exact ldE)) (h := ?_)
    refine un (h := ?_)
    refine cl0 (hc := fun w hS => C_score_within ..) (h := ?_)
    refine WL.y (hy := (by first | exact pkT | exact pkF)) (h := ?_)
    exact mg (by repeat (first | exact trivial | refine ⟨rfl, ?_⟩ | refine ⟨by rw [hb3]; rfl, ?_⟩)) (by repeat (first | exact SubL.nil | (apply SubL.cons; (repeat (first | exact At.here | apply At.there))) | exact SubL.refl _ | apply SubL.skip))
  · intro hb3
    repeat (first | refine un (h := ?_) | refine sk (h := ?_) | refine WL.y (hy := pkF) (h := ?_) | refine WL.y (hy := pkT) (h := ?_))
    exact mg (by repeat (first | exact trivial | refine ⟨rfl, ?_⟩ | refine ⟨by rw [hb3]; rfl, ?_⟩)) (by repeat (first | exact SubL.nil | (apply SubL.cons; (repeat (first | exact At.here | apply At.there))) | exact SubL.refl _ | apply SubL.skip))
  refine WL.y (hy := mv) (h := ?_)
  apply brAnd 4 30 34 (by exact rfl)
  · intro hb4
    refine un (h := ?_)
    refine WL.y (hy := (by first | exact fa | exact faE)) (h := ?_)
    refine un (h := ?_)
    refine WL.y (hy := (by first | exact ld | exact ldE)) (h := ?_)
    refine un (h := ?_)
    refine cl0 (hc := fun w hS => C_score_within ..) (h := ?_)
    refine WL.y (hy := (by first | exact pkT | exact pkF)) (h := ?_)
    exact mg (by repeat (first | exact trivial | refine ⟨rfl, ?_⟩ | refine ⟨by rw [hb4]; rfl, ?_⟩)) (by repeat (first | exact SubL.nil | (apply SubL.cons; (repeat (first | exact At.here | apply At.there))) | exact SubL.refl _ | apply SubL.skip))
  · intro hb4
    repeat (first | refine un (h := ?_) | refine sk (h := ?_) | refine WL.y (hy := pkF) (h := ?_) | refine WL.y (hy := pkT) (h := ?_))
    exact mg (by repeat (first | exact trivial | refine ⟨rfl, ?_⟩ | refine ⟨by rw [hb4]; rfl, ?_⟩)) (by repeat (first | exact SubL.nil | (apply SubL.cons; (repeat (first | exact At.here | apply At.there))) | exact SubL.refl _ | apply SubL.skip))
  refine WL.y (hy := mv) (h := ?_)
  apply brAnd 4 35 39 (by exact rfl)
  · intro hb5
    refine un (h := ?_)
    refine WL.y (hy := (by first | exact fa | exact faE)) (h := ?_)
    refine un (h := ?_)
    refine WL.y (hy := (by first | exact ld | exact ldE)) (h := ?_)
    refine un (h := ?_)
    refine cl0 (hc := fun w hS => C_score_within ..) (h := ?_)
    refine WL.y (hy := (by first | exact pkT | exact pkF)) (h := ?_)
    exact mg (by repeat (first | exact trivial | refine ⟨rfl, ?_⟩ | refine ⟨by rw [hb5]; rfl, ?_⟩)) (by repeat (first | exact SubL.nil | (apply SubL.cons; (repeat (first | exact At.here | apply At.there))) | exact SubL.refl _ | apply SubL.skip))
  · intro hb5
    repeat (first | refine un (h := ?_) | refine sk (h := ?_) | refine WL.y (hy := pkF) (h := ?_) | refine WL.y (hy := pkT) (h := ?_))
    exact mg (by repeat (first | exact trivial | refine ⟨rfl, ?_⟩ | refine ⟨by rw [hb5]; rfl, ?_⟩)) (by repeat (first | exact SubL.nil | (apply SubL.cons; (repeat (first | exact At.here | apply At.there))) | exact SubL.refl _ | apply SubL.skip))
  refine WL.y (hy := mv) (h := ?_)
  apply brAnd 4 40 44 (by exact rfl)
  · intro hb6
    refine un (h := ?_)
    refine WL.y (hy := (by first | exact fa | exact faE)) (h := ?_)
    refine un (h := ?_)
    refine WL.y (hy := (by first | exact ld | exact ldE)) (h := ?_)
    refine un (h := ?_)
    refine cl0 (hc := fun w hS => C_score_within ..) (h := ?_)
    refine WL.y (hy := (by first | exact pkT | exact pkF)) (h := ?_)
    exact mg (by repeat (first | exact trivial | refine ⟨rfl, ?_⟩ | refine ⟨by rw [hb6]; rfl, ?_⟩)) (by repeat (first | exact SubL.nil | (apply SubL.cons; (repeat (first | exact At.here | apply At.there))) | exact SubL.refl _ | apply SubL.skip))
  · intro hb6
    repeat (first | refine un (h := ?_) | refine sk (h := ?_) | refine WL.y (hy := pkF) (h := ?_) | refine WL.y (hy := pkT) (h := ?_))
    exact mg (by repeat (first | exact trivial | refine ⟨rfl, ?_⟩ | refine ⟨by rw [hb6]; rfl, ?_⟩)) (by repeat (first | exact SubL.nil | (apply SubL.cons; (repeat (first | exact At.here | apply At.there))) | exact SubL.refl _ | apply SubL.skip))
  refine nl (h := ?_)
  refine q_seq (h := ?_)
  refine cd (by exact rfl) (fun h7 => ?_) (fun h7 => ?_)
  · skip
    refine sq (h := ?_)
    refine rg (h := ?_)
    refine WL.y (hy := asg) (h := ?_)
    refine nl (h := ?_)
    refine q_seq (h := ?_)
    refine rtn (h := ?_)
    refine q_then_ret (h := ?_)
    refine q_ret (hR := ?_)
    exact fun w hS => ⟨cdT' (fun x : Int => Ending.returned (Value.int .i64 x)) h7, hS.sub (by repeat (first | exact SubL.nil | (apply SubL.cons; (repeat (first | exact At.here | apply At.there))) | exact SubL.refl _ | apply SubL.skip))⟩
  · skip
    refine skp (h := ?_)
    refine q_seq (h := ?_)
    refine sq (h := ?_)
    refine rg (h := ?_)
    refine WL.y (hy := asg) (h := ?_)
    refine nl (h := ?_)
    refine q_seq (h := ?_)
    refine rtn (h := ?_)
    refine q_ret (hR := ?_)
    exact fun w hS => ⟨cdF' (fun x : Int => Ending.returned (Value.int .i64 x)) h7, hS.sub (by repeat (first | exact SubL.nil | (apply SubL.cons; (repeat (first | exact At.here | apply At.there))) | exact SubL.refl _ | apply SubL.skip))⟩

theorem C_score_leads (p : Pr) (l b : Int) (hp : Sm p) (w : World) : C0 Try.prog 45 [pv p, .int .i64 l, .int .i64 b] w (.int .i64 (leadsV p l b)) := by
  obtain ⟨⟨h1, h2⟩, h3, h4⟩ := hp
  refine ⟨en Try.func45 Try.ntmps45 (St.init w) (h := fun F => ?_)⟩
  refine sq (h := ?_)
  refine rg (h := ?_)
  refine bxA (h := fun b0 => ?_)
  refine WL.y (hy := asg) (h := ?_)
  refine nl (h := ?_)
  refine q_seq (h := ?_)
  refine sq (h := ?_)
  refine bk (h := ?_)
  refine sq (h := ?_)
  refine rg (h := ?_)
  refine WL.y (hy := (by first | exact fa | exact faE)) (h := ?_)
  refine WL.y (hy := (by first | exact ld | exact ldE)) (h := ?_)
  refine WL.y (hy := mv) (h := ?_)
  refine WL.y (hy := geq) (h := ?_)
  refine WL.y (hy := mv) (h := ?_)
  apply brAnd 8 12 20 (by exact rfl)
  · intro hb0
    refine un (h := ?_)
    refine WL.y (hy := (by first | exact fa | exact faE)) (h := ?_)
    refine un (h := ?_)
    refine WL.y (hy := (by first | exact ld | exact ldE)) (h := ?_)
    refine un (h := ?_)
    refine WL.y (hy := (by first | exact fa | exact faE)) (h := ?_)
    refine un (h := ?_)
    refine WL.y (hy := (by first | exact ld | exact ldE)) (h := ?_)
    refine un (h := ?_)
    refine WL.y (hy := subI) (h := ?_)
    refine un (h := ?_)
    refine WL.y (hy := mv) (h := ?_)
    refine un (h := ?_)
    refine WL.y (hy := geq) (h := ?_)
    refine WL.y (hy := (by first | exact pkT | exact pkF)) (h := ?_)
    exact mg (by repeat (first | exact trivial | refine ⟨rfl, ?_⟩ | refine ⟨by rw [hb0]; rfl, ?_⟩)) (by repeat (first | exact SubL.nil | (apply SubL.cons; (repeat (first | exact At.here | apply At.there))) | exact SubL.refl _ | apply SubL.skip))
  · intro hb0
    repeat (first | refine un (h := ?_) | refine sk (h := ?_) | refine WL.y (hy := pkF) (h := ?_) | refine WL.y (hy := pkT) (h := ?_))
    exact mg (by repeat (first | exact trivial | refine ⟨rfl, ?_⟩ | refine ⟨by rw [hb0]; rfl, ?_⟩)) (by repeat (first | exact SubL.nil | (apply SubL.cons; (repeat (first | exact At.here | apply At.there))) | exact SubL.refl _ | apply SubL.skip))
  refine WL.y (hy := asg) (h := ?_)
  refine nl (h := ?_)
  refine q_seq (h := ?_)
  refine cd (by exact rfl) (fun h1 => ?_) (fun h1 => ?_)
  · skip
    refine sq (h := ?_)
    refine rg (h := ?_)
    refine WL.y (hy := asg) (h := ?_)
    refine nl (h := ?_)
    refine q_seq (h := ?_)
    refine rtn (h := ?_)
    refine q_blk_ret (h := ?_)
    refine q_then_ret (h := ?_)
    refine q_ret (hR := ?_)
    exact fun w hS => ⟨cdT' (fun x : Int => Ending.returned (Value.int .i64 x)) h1, hS.sub (by repeat (first | exact SubL.nil | (apply SubL.cons; (repeat (first | exact At.here | apply At.there))) | exact SubL.refl _ | apply SubL.skip))⟩
  · skip
    refine sq (h := ?_)
    refine rg (h := ?_)
    refine WL.y (hy := (by first | exact fa | exact faE)) (h := ?_)
    refine WL.y (hy := (by first | exact ld | exact ldE)) (h := ?_)
    refine WL.y (hy := mv) (h := ?_)
    refine WL.y (hy := geq) (h := ?_)
    refine WL.y (hy := mv) (h := ?_)
    apply brAnd 8 26 34 (by exact rfl)
    · intro hb2
      refine un (h := ?_)
      refine WL.y (hy := (by first | exact fa | exact faE)) (h := ?_)
      refine un (h := ?_)
      refine WL.y (hy := (by first | exact ld | exact ldE)) (h := ?_)
      refine un (h := ?_)
      refine WL.y (hy := (by first | exact fa | exact faE)) (h := ?_)
      refine un (h := ?_)
      refine WL.y (hy := (by first | exact ld | exact ldE)) (h := ?_)
      refine un (h := ?_)
      refine WL.y (hy := subI) (h := ?_)
      refine un (h := ?_)
      refine WL.y (hy := mv) (h := ?_)
      refine un (h := ?_)
      refine WL.y (hy := geq) (h := ?_)
      refine WL.y (hy := (by first | exact pkT | exact pkF)) (h := ?_)
      exact mg (by repeat (first | exact trivial | refine ⟨rfl, ?_⟩ | refine ⟨by rw [hb2]; rfl, ?_⟩)) (by repeat (first | exact SubL.nil | (apply SubL.cons; (repeat (first | exact At.here | apply At.there))) | exact SubL.refl _ | apply SubL.skip))
    · intro hb2
      repeat (first | refine un (h := ?_) | refine sk (h := ?_) | refine WL.y (hy := pkF) (h := ?_) | refine WL.y (hy := pkT) (h := ?_))
      exact mg (by repeat (first | exact trivial | refine ⟨rfl, ?_⟩ | refine ⟨by rw [hb2]; rfl, ?_⟩)) (by repeat (first | exact SubL.nil | (apply SubL.cons; (repeat (first | exact At.here | apply At.there))) | exact SubL.refl _ | apply SubL.skip))
    refine WL.y (hy := asg) (h := ?_)
    refine nl (h := ?_)
    refine q_seq (h := ?_)
    refine cd (by exact rfl) (fun h3 => ?_) (fun h3 => ?_)
    · skip
      refine sq (h := ?_)
      refine rg (h := ?_)
      refine WL.y (hy := asg) (h := ?_)
      refine nl (h := ?_)
      refine q_seq (h := ?_)
      refine rtn (h := ?_)
      refine q_blk_ret (h := ?_)
      refine q_then_ret (h := ?_)
      refine q_ret (hR := ?_)
      exact fun w hS => ⟨(cdT' (fun x : Int => Ending.returned (Value.int .i64 x)) h3).trans (cdF' (fun x : Int => Ending.returned (Value.int .i64 x)) h1), hS.sub (by repeat (first | exact SubL.nil | (apply SubL.cons; (repeat (first | exact At.here | apply At.there))) | exact SubL.refl _ | apply SubL.skip))⟩
    · skip
      refine skp (h := ?_)
      refine q_blk_norm (h := ?_)
      refine q_seq (h := ?_)
      refine sq (h := ?_)
      refine rg (h := ?_)
      refine WL.y (hy := asg) (h := ?_)
      refine nl (h := ?_)
      refine q_seq (h := ?_)
      refine rtn (h := ?_)
      refine q_ret (hR := ?_)
      exact fun w hS => ⟨(cdF' (fun x : Int => Ending.returned (Value.int .i64 x)) h3).trans (cdF' (fun x : Int => Ending.returned (Value.int .i64 x)) h1), hS.sub (by repeat (first | exact SubL.nil | (apply SubL.cons; (repeat (first | exact At.here | apply At.there))) | exact SubL.refl _ | apply SubL.skip))⟩

theorem C_rules_set (f : Fmt) (won : Pr) (hf : f.Ok) (w : World) : C0 Try.prog 83 [f.val, pv won] w (pv (setV f won)) := by
  have h1 := hf.s0
  have h2 := hf.s1
  refine ⟨en Try.func83 Try.ntmps83 (St.init w) (h := fun F => ?_)⟩
  refine sq (h := ?_)
  refine rg (h := ?_)
  refine bxA (h := fun b0 => ?_)
  refine bxA (h := fun b1 => ?_)
  refine al (h := fun b2 => ?_)
  refine nl (h := ?_)
  refine q_seq (h := ?_)
  refine sq (h := ?_)
  refine sq (h := ?_)
  refine rg (h := ?_)
  refine WL.y (hy := (by first | exact fa | exact faE)) (h := ?_)
  refine WL.y (hy := (by first | exact ld | exact ldE)) (h := ?_)
  refine WL.y (hy := (by first | exact fa | exact faE)) (h := ?_)
  refine WL.y (hy := (by first | exact fa | exact faE)) (h := ?_)
  refine WL.y (hy := (by first | exact ld | exact ldE)) (h := ?_)
  refine WL.y (hy := subI) (h := ?_)
  refine WL.y (hy := eql) (h := ?_)
  refine WL.y (hy := mv) (h := ?_)
  apply brAnd 8 12 20 (by exact rfl)
  · intro hb0
    refine un (h := ?_)
    refine WL.y (hy := (by first | exact fa | exact faE)) (h := ?_)
    refine un (h := ?_)
    refine WL.y (hy := (by first | exact ld | exact ldE)) (h := ?_)
    refine un (h := ?_)
    refine WL.y (hy := (by first | exact fa | exact faE)) (h := ?_)
    refine un (h := ?_)
    refine WL.y (hy := (by first | exact fa | exact faE)) (h := ?_)
    refine un (h := ?_)
    refine WL.y (hy := (by first | exact ld | exact ldE)) (h := ?_)
    refine un (h := ?_)
    refine WL.y (hy := subI) (h := ?_)
    refine un (h := ?_)
    refine WL.y (hy := eql) (h := ?_)
    refine WL.y (hy := (by first | exact pkT | exact pkF)) (h := ?_)
    exact mg (by repeat (first | exact trivial | refine ⟨rfl, ?_⟩ | refine ⟨by rw [hb0]; rfl, ?_⟩)) (by repeat (first | exact SubL.nil | (apply SubL.cons; (repeat (first | exact At.here | apply At.there))) | exact SubL.refl _ | apply SubL.skip))
  · intro hb0
    repeat (first | refine un (h := ?_) | refine sk (h := ?_) | refine WL.y (hy := pkF) (h := ?_) | refine WL.y (hy := pkT) (h := ?_))
    exact mg (by repeat (first | exact trivial | refine ⟨rfl, ?_⟩ | refine ⟨by rw [hb0]; rfl, ?_⟩)) (by repeat (first | exact SubL.nil | (apply SubL.cons; (repeat (first | exact At.here | apply At.there))) | exact SubL.refl _ | apply SubL.skip))
  refine nl (h := ?_)
  refine q_seq (h := ?_)
  refine cd (by exact rfl) (fun h1 => ?_) (fun h1 => ?_)
  · skip
    refine sq (h := ?_)
    refine rg (h := ?_)
    refine WL.y (hy := (by first | exact fa | exact faE)) (h := ?_)
    refine WL.y (hy := (by first | exact fa | exact faE)) (h := ?_)
    refine WL.y (hy := (by first | exact ld | exact ldE)) (h := ?_)
    refine WL.y (hy := (by first | exact fa | exact faE)) (h := ?_)
    refine WL.y (hy := (by first | exact fa | exact faE)) (h := ?_)
    refine WL.y (hy := (by first | exact ld | exact ldE)) (h := ?_)
    refine WL.y (hy := bd) (h := ?_)
    first | refine stA (h := ?_) | refine stEA (h := ?_)
    refine nl (h := ?_)
    refine q_seq (h := ?_)
    refine rtn (h := ?_)
    refine q_then_ret (h := ?_)
    refine q_ret (hR := ?_)
    exact fun w hS => ⟨cdT' (x := (f.ltie, f.lto)) (fun p : Pr => Ending.returned (pv p)) h1, hS.sub (by repeat (first | exact SubL.nil | (apply SubL.cons; (repeat (first | exact At.here | apply At.there))) | exact SubL.refl _ | apply SubL.skip))⟩
  · skip
    refine skp (h := ?_)
    refine q_seq (h := ?_)
    refine sq (h := ?_)
    refine rg (h := ?_)
    refine WL.y (hy := (by first | exact fa | exact faE)) (h := ?_)
    refine WL.y (hy := (by first | exact fa | exact faE)) (h := ?_)
    refine WL.y (hy := (by first | exact ld | exact ldE)) (h := ?_)
    refine WL.y (hy := (by first | exact fa | exact faE)) (h := ?_)
    refine WL.y (hy := (by first | exact fa | exact faE)) (h := ?_)
    refine WL.y (hy := (by first | exact ld | exact ldE)) (h := ?_)
    refine WL.y (hy := bd) (h := ?_)
    first | refine stA (h := ?_) | refine stEA (h := ?_)
    refine nl (h := ?_)
    refine q_seq (h := ?_)
    refine rtn (h := ?_)
    refine q_ret (hR := ?_)
    exact fun w hS => ⟨cdF' (y := (f.tie, f.to)) (fun p : Pr => Ending.returned (pv p)) h1, hS.sub (by repeat (first | exact SubL.nil | (apply SubL.cons; (repeat (first | exact At.here | apply At.there))) | exact SubL.refl _ | apply SubL.skip))⟩

theorem C_set_breaks (s g : Pr) (w : World) : C0 Try.prog 85 [pv s, pv g] w (.bool (brksV s g)) := by
  refine ⟨en Try.func85 Try.ntmps85 (St.init w) (h := fun F => ?_)⟩
  refine sq (h := ?_)
  refine rg (h := ?_)
  refine bxA (h := fun b0 => ?_)
  refine bxA (h := fun b1 => ?_)
  refine WL.y (hy := asg) (h := ?_)
  refine nl (h := ?_)
  refine q_seq (h := ?_)
  refine sq (h := ?_)
  refine rg (h := ?_)
  refine WL.y (hy := (by first | exact fa | exact faE)) (h := ?_)
  refine WL.y (hy := (by first | exact ld | exact ldE)) (h := ?_)
  refine WL.y (hy := (by first | exact fa | exact faE)) (h := ?_)
  refine WL.y (hy := (by first | exact ld | exact ldE)) (h := ?_)
  refine WL.y (hy := eql) (h := ?_)
  refine WL.y (hy := mv) (h := ?_)
  apply brAnd 6 10 16 (by exact rfl)
  · intro hb0
    refine un (h := ?_)
    refine WL.y (hy := (by first | exact fa | exact faE)) (h := ?_)
    refine un (h := ?_)
    refine WL.y (hy := (by first | exact ld | exact ldE)) (h := ?_)
    refine un (h := ?_)
    refine WL.y (hy := (by first | exact fa | exact faE)) (h := ?_)
    refine un (h := ?_)
    refine WL.y (hy := (by first | exact ld | exact ldE)) (h := ?_)
    refine un (h := ?_)
    refine WL.y (hy := eql) (h := ?_)
    refine WL.y (hy := (by first | exact pkT | exact pkF)) (h := ?_)
    exact mg (by repeat (first | exact trivial | refine ⟨rfl, ?_⟩ | refine ⟨by rw [hb0]; rfl, ?_⟩)) (by repeat (first | exact SubL.nil | (apply SubL.cons; (repeat (first | exact At.here | apply At.there))) | exact SubL.refl _ | apply SubL.skip))
  · intro hb0
    repeat (first | refine un (h := ?_) | refine sk (h := ?_) | refine WL.y (hy := pkF) (h := ?_) | refine WL.y (hy := pkT) (h := ?_))
    exact mg (by repeat (first | exact trivial | refine ⟨rfl, ?_⟩ | refine ⟨by rw [hb0]; rfl, ?_⟩)) (by repeat (first | exact SubL.nil | (apply SubL.cons; (repeat (first | exact At.here | apply At.there))) | exact SubL.refl _ | apply SubL.skip))
  refine WL.y (hy := asg) (h := ?_)
  refine nl (h := ?_)
  refine q_seq (h := ?_)
  refine rtn (h := ?_)
  refine q_ret (hR := ?_)
  exact fun w hS => ⟨rfl, hS.sub (by repeat (first | exact SubL.nil | (apply SubL.cons; (repeat (first | exact At.here | apply At.there))) | exact SubL.refl _ | apply SubL.skip))⟩

theorem C_score_add (p : Pr) (side : Int) (hp : Sm p) (w : World) : C0 Try.prog 92 [pv p, .int .i64 side] w (pv (addV p side)) := by
  obtain ⟨⟨h1, h2⟩, h3, h4⟩ := hp
  refine ⟨en Try.func92 Try.ntmps92 (St.init w) (h := fun F => ?_)⟩
  refine sq (h := ?_)
  refine rg (h := ?_)
  refine bxA (h := fun b0 => ?_)
  refine al (h := fun b1 => ?_)
  refine nl (h := ?_)
  refine q_seq (h := ?_)
  refine sq (h := ?_)
  refine sq (h := ?_)
  refine rg (h := ?_)
  refine WL.y (hy := mv) (h := ?_)
  refine WL.y (hy := eql) (h := ?_)
  refine nl (h := ?_)
  refine q_seq (h := ?_)
  refine cd (by exact rfl) (fun h0 => ?_) (fun h0 => ?_)
  · skip
    refine rg (h := ?_)
    refine WL.y (hy := (by first | exact fa | exact faE)) (h := ?_)
    refine WL.y (hy := (by first | exact ld | exact ldE)) (h := ?_)
    refine WL.y (hy := addI) (h := ?_)
    refine WL.y (hy := (by first | exact fa | exact faE)) (h := ?_)
    first | refine st (h := ?_) | refine stE (h := ?_)
    refine nl (h := ?_)
    refine q_seq (h := ?_)
    refine sq (h := ?_)
    refine rg (h := ?_)
    refine WL.y (hy := (by first | exact ldA | exact ldEA)) (h := ?_)
    first | refine stA (h := ?_) | refine stEA (h := ?_)
    refine nl (h := ?_)
    refine q_seq (h := ?_)
    refine rtn (h := ?_)
    refine q_ret (hR := ?_)
    exact fun w hS => ⟨cdT' (x := (p.1 + 1, p.2)) (fun p : Pr => Ending.returned (pv p)) h0, hS.sub (by repeat (first | exact SubL.nil | (apply SubL.cons; (repeat (first | exact At.here | apply At.there))) | exact SubL.refl _ | apply SubL.skip))⟩
  · skip
    refine rg (h := ?_)
    refine WL.y (hy := (by first | exact fa | exact faE)) (h := ?_)
    refine WL.y (hy := (by first | exact ld | exact ldE)) (h := ?_)
    refine WL.y (hy := addI) (h := ?_)
    refine WL.y (hy := (by first | exact fa | exact faE)) (h := ?_)
    first | refine st (h := ?_) | refine stE (h := ?_)
    refine nl (h := ?_)
    refine q_seq (h := ?_)
    refine sq (h := ?_)
    refine rg (h := ?_)
    refine WL.y (hy := (by first | exact ldA | exact ldEA)) (h := ?_)
    first | refine stA (h := ?_) | refine stEA (h := ?_)
    refine nl (h := ?_)
    refine q_seq (h := ?_)
    refine rtn (h := ?_)
    refine q_ret (hR := ?_)
    exact fun w hS => ⟨cdF' (y := (p.1, p.2 + 1)) (fun p : Pr => Ending.returned (pv p)) h0, hS.sub (by repeat (first | exact SubL.nil | (apply SubL.cons; (repeat (first | exact At.here | apply At.there))) | exact SubL.refl _ | apply SubL.skip))⟩

theorem C_rules_game (f : Fmt) (s : Pr) (tie : Bool) (p : Pr) (hp : Sm p) (w : World) : C0 Try.prog 87 [f.val, pv s, .bool tie, pv p] w (.int .i64 (gameV f s tie p)) := by
  refine ⟨en Try.func87 Try.ntmps87 (St.init w) (h := fun F => ?_)⟩
  refine sq (h := ?_)
  refine rg (h := ?_)
  refine bxA (h := fun b0 => ?_)
  refine bxA (h := fun b1 => ?_)
  refine bxA (h := fun b2 => ?_)
  refine WL.y (hy := asg) (h := ?_)
  refine nl (h := ?_)
  refine q_seq (h := ?_)
  refine sq (h := ?_)
  refine bk (h := ?_)
  refine sq (h := ?_)
  refine rg (h := ?_)
  refine WL.y (hy := mv) (h := ?_)
  refine WL.y (hy := asg) (h := ?_)
  refine nl (h := ?_)
  refine q_seq (h := ?_)
  refine cd (by exact rfl) (fun h0 => ?_) (fun h0 => ?_)
  · skip
    refine sq (h := ?_)
    refine rg (h := ?_)
    refine WL.y (hy := (by first | exact ldA | exact ldEA)) (h := ?_)
    refine WL.y (hy := (by first | exact fa | exact faE)) (h := ?_)
    refine WL.y (hy := (by first | exact ld | exact ldE)) (h := ?_)
    refine cl0 (hc := fun w hS => C_score_leads _ _ _ (by assumption) w) (h := ?_)
    refine WL.y (hy := asg) (h := ?_)
    refine nl (h := ?_)
    refine q_seq (h := ?_)
    refine rtn (h := ?_)
    refine q_blk_ret (h := ?_)
    refine q_then_ret (h := ?_)
    refine q_ret (hR := ?_)
    exact fun w hS => ⟨cdT' (fun x : Int => Ending.returned (Value.int .i64 x)) h0, hS.sub (by repeat (first | exact SubL.nil | (apply SubL.cons; (repeat (first | exact At.here | apply At.there))) | exact SubL.refl _ | apply SubL.skip))⟩
  · skip
    refine sq (h := ?_)
    refine rg (h := ?_)
    refine WL.y (hy := (by first | exact fa | exact faE)) (h := ?_)
    refine WL.y (hy := (by first | exact fa | exact faE)) (h := ?_)
    refine WL.y (hy := (by first | exact ld | exact ldE)) (h := ?_)
    refine WL.y (hy := asg) (h := ?_)
    refine nl (h := ?_)
    refine q_seq (h := ?_)
    refine cd (by exact rfl) (fun h1 => ?_) (fun h1 => ?_)
    · skip
      refine sq (h := ?_)
      refine rg (h := ?_)
      refine WL.y (hy := (by first | exact ldA | exact ldEA)) (h := ?_)
      refine cl0 (hc := fun w hS => C_score_leads _ _ _ (by assumption) w) (h := ?_)
      refine WL.y (hy := asg) (h := ?_)
      refine nl (h := ?_)
      refine q_seq (h := ?_)
      refine rtn (h := ?_)
      refine q_blk_ret (h := ?_)
      refine q_then_ret (h := ?_)
      refine q_ret (hR := ?_)
      exact fun w hS => ⟨(cdT' (fun x : Int => Ending.returned (Value.int .i64 x)) h1).trans (cdF' (fun x : Int => Ending.returned (Value.int .i64 x)) h0), hS.sub (by repeat (first | exact SubL.nil | (apply SubL.cons; (repeat (first | exact At.here | apply At.there))) | exact SubL.refl _ | apply SubL.skip))⟩
    · skip
      refine skp (h := ?_)
      refine q_blk_norm (h := ?_)
      refine q_seq (h := ?_)
      refine sq (h := ?_)
      refine rg (h := ?_)
      refine WL.y (hy := (by first | exact ldA | exact ldEA)) (h := ?_)
      refine cl0 (hc := fun w hS => C_score_leads _ _ _ (by assumption) w) (h := ?_)
      refine WL.y (hy := asg) (h := ?_)
      refine nl (h := ?_)
      refine q_seq (h := ?_)
      refine rtn (h := ?_)
      refine q_ret (hR := ?_)
      exact fun w hS => ⟨(cdF' (fun x : Int => Ending.returned (Value.int .i64 x)) h1).trans (cdF' (fun x : Int => Ending.returned (Value.int .i64 x)) h0), hS.sub (by repeat (first | exact SubL.nil | (apply SubL.cons; (repeat (first | exact At.here | apply At.there))) | exact SubL.refl _ | apply SubL.skip))⟩

end Go.Proofs.Ytacaojifempclaa

namespace Go.Proofs.Ytacaojifempclaa
open Go Go.RowKit

structure Gm where
  (set : Int) (tie : Bool) (server winner : Int) (pts : Pr) (fresh : Bool)
abbrev Gm.enc (g : Gm) : List Value := [.int .i64 g.set, .bool g.tie, .int .i64 g.server, .int .i64 g.winner, .int .i64 g.pts.1, .int .i64 g.pts.2, .bool g.fresh]
def encP (ps : List Pr) : List (List Value) := ps.map fun p => [.int .i64 p.1, .int .i64 p.2]
def encI (xs : List Int) : List (List Value) := xs.map fun x => [.int .i64 x]
theorem encI_at {xs : List Int} {k : Nat} {x : Int} (h : xs[k]? = some x) : (encI xs)[k]? = some [.int .i64 x] := by simp [encI, h]
theorem encP_at {xs : List Pr} {k : Nat} {x : Pr} (h : xs[k]? = some x) : (encP xs)[k]? = some [.int .i64 x.1, .int .i64 x.2] := by simp [encP, h]
def tieI (l : List Bool) (i : Int) : Bool := l.getD i.toNat false
structure MS where
  (f : Fmt) (first : Int) (st : List Pr) (g p won : Pr) (server ends balls winner : Int) (ties : List Bool) (gs : List Gm)
structure MA where
  (sA tA gA : Option Addr) (sc tc gc : Nat)
abbrev MS.cells (m : MS) (a : MA) : List Value := [.int .i64 m.f.sets, .int .i64 m.f.games, .bool m.f.noAd, .int .i64 m.f.tie, .int .i64 m.f.to, .int .i64 m.f.ltie, .int .i64 m.f.lto, .int .i64 m.f.first, .int .i64 m.f.thn, .bool m.f.dbl,
  .slice a.sA m.st.length a.sc, .int .i64 m.g.1, .int .i64 m.g.2, .int .i64 m.p.1, .int .i64 m.p.2, .int .i64 m.server, .int .i64 m.ends, .int .i64 m.balls, .int .i64 m.winner, .int .i64 m.first, .int .i64 m.won.1, .int .i64 m.won.2, .slice a.tA m.ties.length a.tc, .slice a.gA m.gs.length a.gc]
abbrev MS.blk (m : MS) (a : MA) (b : Nat) : Ent := .blk b 131 (m.cells a)
def MS.tie (m : MS) : Bool := tieI m.ties ((m.ties.length : Int) - 1)
def MS.w (m : MS) (side : Int) : Int := gameV m.f (setV m.f m.won) m.tie (addV m.p side)
end Go.Proofs.Ytacaojifempclaa

namespace Go.Proofs.Ytacaojifempclaa
open Go Go.RowKit

end Go.Proofs.Ytacaojifempclaa

namespace Go.Proofs.Ytacaojifempclaa
open Go Go.RowKit

end Go.Proofs.Ytacaojifempclaa

namespace Go.Proofs.Ytacaojifempclaa
open Go Go.RowKit

theorem addV_bd {p : Pr} {K side : Int} (h : (0 ≤ p.1 ∧ p.1 ≤ K) ∧ 0 ≤ p.2 ∧ p.2 ≤ K) : (0 ≤ (addV p side).1 ∧ (addV p side).1 ≤ K + 1) ∧ 0 ≤ (addV p side).2 ∧ (addV p side).2 ≤ K + 1 := by
  unfold addV
  cases decide (side = 0) <;> simp only [cond_true, cond_false] <;> omega
theorem sm_of {p : Pr} {K : Int} (h : (0 ≤ p.1 ∧ p.1 ≤ K) ∧ 0 ≤ p.2 ∧ p.2 ≤ K) (hK : K ≤ 100000) : Sm p := ⟨by omega, by omega⟩

end Go.Proofs.Ytacaojifempclaa

namespace Go.Proofs.Ytacaojifempclaa
open Go Go.RowKit

theorem chkF_ok {f : Fmt} (h : (!decide (chkF f = 0)) = false) : f.Ok := by
  cases hb : fmtOk f
  · simp [chkF, hb] at h
  · exact fmt_ok hb
structure Sc where
  (st : List Pr) (g p : Pr) (server ends balls winner : Int)
def MS.sc (m : MS) : Sc := ⟨m.st, m.g, m.p, m.server, m.ends, m.balls, m.winner⟩
abbrev Sc.cells (s : Sc) (A : Option Addr) (c : Nat) : List Value := [.slice A s.st.length c, .int .i64 s.g.1, .int .i64 s.g.2, .int .i64 s.p.1, .int .i64 s.p.2, .int .i64 s.server, .int .i64 s.ends, .int .i64 s.balls, .int .i64 s.winner]
abbrev Sc.val (s : Sc) (A : Option Addr) (c : Nat) : Value := .agg #[.slice A s.st.length c, .int .i64 s.g.1, .int .i64 s.g.2, .int .i64 s.p.1, .int .i64 s.p.2, .int .i64 s.server, .int .i64 s.ends, .int .i64 s.balls, .int .i64 s.winner]
end Go.Proofs.Ytacaojifempclaa

namespace Go.Proofs.Ytacaojifempclaa
open Go Go.RowKit

abbrev Stn := Int × Bool
abbrev Tb := List (Pr × Stn)
def tget : Tb → Pr → Option Stn
  | [], _ => none
  | e :: t, p => if p = e.1 then some e.2 else tget t p
def tput : Tb → Pr → Stn → Tb
  | [], p, v => [(p, v)]
  | e :: t, p, v => if p = e.1 then (p, v) :: t else e :: tput t p v
abbrev encS (v : Stn) : Value := .agg #[.int .i64 v.1, .bool v.2]
abbrev keyP (p : Pr) : List Fl := [.i p.1, .i p.2]
def encT (t : Tb) : List (List Fl × Value) := t.map fun e => (keyP e.1, encS e.2)
theorem keyP_inj {p q : Pr} : keyP p = keyP q ↔ p = q := by
  simp only [List.cons.injEq, Fl.i.injEq, and_true]
  exact ⟨fun ⟨a, b⟩ => Prod.ext a b, fun h => by rw [h]; exact ⟨rfl, rfl⟩⟩
theorem encT_shape (t : Tb) : ∀ p ∈ encT t, shapeOf p.1 = [false, false] := fun p hp => by
  obtain ⟨e, _, rfl⟩ := List.mem_map.1 hp
  rfl
theorem lkp_enc : ∀ (t : Tb) (p : Pr), lkp (encT t) (keyP p) = (tget t p).map encS
  | [], p => rfl
  | e :: t, p => by
    have ih := lkp_enc t p
    by_cases h : p = e.1
    · rw [tget, if_pos h]
      simp [encT, lkp, h]
    · rw [tget, if_neg h, ← ih]
      have : ¬ keyP p = keyP e.1 := fun h' => h (keyP_inj.1 h')
      simp only [encT, lkp, List.map_cons, List.find?_cons, decide_eq_false this]
theorem upd_enc : ∀ (t : Tb) (p : Pr) (v : Stn), updM (encT t) (keyP p) (encS v) = encT (tput t p v)
  | [], p, v => rfl
  | e :: t, p, v => by
    have ih := upd_enc t p v
    by_cases h : p = e.1
    · rw [tput, if_pos h]
      simp [encT, updM, h]
    · rw [tput, if_neg h]
      have : ¬ keyP p = keyP e.1 := fun h' => h (keyP_inj.1 h')
      simp only [encT, List.map_cons, updM, if_neg this] at ih ⊢
      rw [ih]
def tat (t : Tb) (p : Pr) : Stn := (tget t p).getD (0, false)
theorem getD_enc (o : Option Stn) : (o.map encS).getD (.agg #[.int .i64 0, .bool false]) = encS (o.getD (0, false)) := by cases o <;> rfl
theorem getD_tat (t : Tb) (p : Pr) : ((tget t p).map encS).getD (.agg #[.int .i64 0, .bool false]) = encS (tat t p) := getD_enc _
theorem isSome_enc (o : Option Stn) : (o.map encS).isSome = o.isSome := by cases o <;> rfl
def tOk (t : Tb) : Prop := ∀ e ∈ t, 0 ≤ e.2.1 ∧ e.2.1 ≤ 1000000000001
theorem tOk_at {t : Tb} (h : tOk t) (p : Pr) : 0 ≤ (tat t p).1 ∧ (tat t p).1 ≤ 1000000000001 := by
  unfold tat
  induction t with
  | nil => simp [tget]
  | cons e t ih =>
    rw [tget]
    by_cases hp : p = e.1
    · rw [if_pos hp]; exact h e (by simp)
    · rw [if_neg hp]; exact ih fun x hx => h x (by simp [hx])
theorem tOk_put {t : Tb} (h : tOk t) (p : Pr) (v : Stn) (hv : 0 ≤ v.1 ∧ v.1 ≤ 1000000000001) : tOk (tput t p v) := by
  induction t with
  | nil => intro e he; simp only [tput, List.mem_singleton] at he; subst he; exact hv
  | cons e t ih =>
    intro x hx
    rw [tput] at hx
    split at hx
    · rcases List.mem_cons.1 hx with rfl | hx
      · exact hv
      · exact h x (by simp [hx])
    · rcases List.mem_cons.1 hx with rfl | hx
      · exact h _ (by simp)
      · exact ih (fun x hx => h x (by simp [hx])) x hx
def newS (f : Fmt) (s p : Pr) (now : Stn) (t : Tb) (side : Int) : Stn := (min 1000000000001 ((tat t (addV p side)).1 + now.1), brksV s p || decide (0 ≤ leadsV (addV p side) f.games 2))
def sideTo (f : Fmt) (s p : Pr) (now : Stn) (t : Tb) : Nat → Tb
  | 0 => t
  | k + 1 => tput (sideTo f s p now t k) (addV p k) (newS f s p now (sideTo f s p now t k) k)
def pairT (f : Fmt) (s p : Pr) (t : Tb) : Tb := bif !(tget t p).isSome || (tat t p).2 then t else sideTo f s p (tat t p) t 2
def loA (all : Nat) : Int := max 0 ((all : Int) - 40 - 1)
def rowTo (f : Fmt) (s : Pr) (all : Nat) (t : Tb) : Nat → Tb
  | 0 => t
  | j + 1 => pairT f s (loA all + j, (all : Int) - (loA all + j)) (rowTo f s all t j)
def cntA (all : Nat) : Nat := (min (all : Int) 41 - loA all + 1).toNat
def tblTo (f : Fmt) (s : Pr) : Nat → Tb
  | 0 => [((0, 0), (1, false))]
  | k + 1 => rowTo f s k (tblTo f s k) (cntA k)
def tableV (f : Fmt) (s : Pr) : Tb := tblTo f s 82
theorem tOk_side {f : Fmt} {s p : Pr} {now : Stn} {t : Tb} (h : tOk t) (hn : 0 ≤ now.1 ∧ now.1 ≤ 1000000000001) : ∀ k, tOk (sideTo f s p now t k)
  | 0 => h
  | k + 1 => by
    have ih := tOk_side (f := f) (s := s) (p := p) h hn k
    have ha := tOk_at ih (addV p k)
    exact tOk_put ih _ _ (by simp only [newS]; omega)
theorem tOk_pair {f : Fmt} {s p : Pr} {t : Tb} (h : tOk t) : tOk (pairT f s p t) := by
  unfold pairT
  cases !(tget t p).isSome || (tat t p).2
  · exact tOk_side h (tOk_at h p) 2
  · exact h
theorem tOk_row {f : Fmt} {s : Pr} {all : Nat} {t : Tb} (h : tOk t) : ∀ j, tOk (rowTo f s all t j)
  | 0 => h
  | j + 1 => tOk_pair (tOk_row h j)
theorem tOk_tbl (f : Fmt) (s : Pr) : ∀ k, tOk (tblTo f s k)
  | 0 => fun e he => by simp only [tblTo, List.mem_singleton] at he; subst he; decide
  | k + 1 => tOk_row (tOk_tbl f s k) _
structure TZ where
  (k : Nat) (es : Array MapEntry) (c : Nat)
end Go.Proofs.Ytacaojifempclaa

namespace Go.Proofs.Ytacaojifempclaa
open Go Go.RowKit

set_option maxRecDepth 100000 in
set_option maxHeartbeats 1000000 in
theorem C_rules_table (f : Fmt) (s : Pr) (w : World) : CR Try.prog 84 [f.val, pv s] w (fun x : Nat × Array MapEntry × Nat => MapIs x.2.1 (encT (tableV f s))) (fun x => .map (some x.1)) (fun x => [.obj x.1 (.map x.2.1 x.2.2)]) := by
  refine ⟨en Try.func84 Try.ntmps84 (St.init w) (h := fun F => ?_)⟩
  refine sq (h := ?_)
  refine rg (h := ?_)
  refine bxA (h := fun b0 => ?_)
  refine bxA (h := fun b1 => ?_)
  refine WL.y (hy := asg) (h := ?_)
  refine nl (h := ?_)
  refine q_seq (h := ?_)
  refine sq (h := ?_)
  refine rg (h := ?_)
  refine mkm (h := fun b2 => ?_)
  refine WL.y (hy := bd) (h := ?_)
  refine WL.y (hy := bd) (h := ?_)
  refine mupI (kv := []) (hm := mapIs0) (hs := fun p hp => by cases hp) (h := fun es0 c0 hm0 => ?_)
  refine WL.y (hy := mv) (h := ?_)
  refine WL.y (hy := asg) (h := ?_)
  refine nl (h := ?_)
  refine q_seq (h := ?_)
  refine sq (h := ?_)
  refine sq (h := ?_)
  refine rg (h := ?_)
  refine WL.y (hy := mv) (h := ?_)
  refine nl (h := ?_)
  refine q_seq (h := ?_)
  refine bk (h := ?_)
  refine lp (X := TZ) (I := fun z => z.k ≤ 82 ∧ MapIs z.es (encT (tblTo f s z.k))) (le := fun z => [(2, .pointer (some ⟨b0, 0, none⟩)), (3, .pointer (some ⟨b1, 0, none⟩)), (5, .map (some b2)), (18, .int .i64 z.k)]) (Le := fun z => [.obj b2 (.map z.es z.c), .blk b0 80 f.cells, .blk b1 137 [.int .i64 s.1, .int .i64 s.2]]) (μ := fun z => 82 - z.k) ⟨0, es0, c0⟩ ⟨Nat.zero_le _, hm0⟩ (by repeat (first | exact trivial | refine ⟨rfl, ?_⟩)) (by repeat (first | exact SubL.nil | (apply SubL.cons; (repeat (first | exact At.here | apply At.there))) | exact SubL.refl _ | apply SubL.skip)) (fun z hz => ?_)
  obtain ⟨hzk, hzm⟩ := hz
  refine sq (h := ?_)
  refine rg (h := ?_)
  refine WL.y (hy := lss) (h := ?_)
  refine nl (h := ?_)
  refine q_seq (h := ?_)
  refine sq (h := ?_)
  refine cd (by exact rfl) (fun h0 => ?_) (fun h0 => ?_)
  · skip
    have hzn : z.k < 82 := by simp only [decide_eq_true_eq] at h0; omega
    have hlo : 0 ≤ loA z.k ∧ loA z.k ≤ 41 ∧ loA z.k ≤ z.k := by unfold loA; omega
    have hcn : (cntA z.k : Int) = min (z.k : Int) 41 - loA z.k + 1 := by unfold cntA loA; omega
    refine skp (h := ?_)
    refine q_seq (h := ?_)
    refine sq (h := ?_)
    refine bk (h := ?_)
    refine sq (h := ?_)
    refine rg (h := ?_)
    refine WL.y (hy := mv) (h := ?_)
    refine WL.y (hy := asg) (h := ?_)
    refine nl (h := ?_)
    refine q_seq (h := ?_)
    refine sq (h := ?_)
    refine rg (h := ?_)
    refine WL.y (hy := mv) (h := ?_)
    refine WL.y (hy := subI) (h := ?_)
    refine WL.y (hy := subI) (h := ?_)
    refine WL.y (hy := maxI) (h := ?_)
    refine WL.y (hy := asg) (h := ?_)
    refine nl (h := ?_)
    refine q_seq (h := ?_)
    refine bk (h := ?_)
    refine lp (X := TZ) (I := fun u => u.k ≤ cntA z.k ∧ MapIs u.es (encT (rowTo f s z.k (tblTo f s z.k) u.k))) (le := fun u => [(2, .pointer (some ⟨b0, 0, none⟩)), (3, .pointer (some ⟨b1, 0, none⟩)), (5, .map (some b2)), (6, .int .i64 z.k), (18, .int .i64 z.k), (7, .int .i64 (loA z.k + (u.k : Int)))]) (Le := fun u => [.obj b2 (.map u.es u.c), .blk b0 80 f.cells, .blk b1 137 [.int .i64 s.1, .int .i64 s.2]]) (μ := fun u => cntA z.k - u.k) ⟨0, z.es, z.c⟩ ⟨Nat.zero_le _, hzm⟩ (by repeat (first | exact trivial | refine ⟨rfl, ?_⟩ | refine ⟨by rw [show loA z.k + ((0 : Nat) : Int) = loA z.k by omega]; rfl, ?_⟩)) (by repeat (first | exact SubL.nil | (apply SubL.cons; (repeat (first | exact At.here | apply At.there))) | exact SubL.refl _ | apply SubL.skip)) (fun u hu => ?_)
    obtain ⟨huk, hum⟩ := hu
    refine sq (h := ?_)
    refine sq (h := ?_)
    refine rg (h := ?_)
    refine WL.y (hy := mv) (h := ?_)
    refine WL.y (hy := mv) (h := ?_)
    refine WL.y (hy := minI) (h := ?_)
    refine WL.y (hy := leq) (h := ?_)
    refine nl (h := ?_)
    refine q_seq (h := ?_)
    refine cd (by exact rfl) (fun h1 => ?_) (fun h1 => ?_)
    · skip
      have hun : (u.k : Int) < cntA z.k := by simp only [decide_eq_true_eq] at h1; omega
      have hSp : Sm (loA z.k + (u.k : Int), (z.k : Int) - (loA z.k + (u.k : Int))) := ⟨by dsimp only; omega, by dsimp only; omega⟩
      have hut := tOk_row (f := f) (s := s) (all := z.k) (tOk_tbl f s z.k) u.k
      have hnow := tOk_at hut (loA z.k + (u.k : Int), (z.k : Int) - (loA z.k + (u.k : Int)))
      refine skp (h := ?_)
      refine q_seq (h := ?_)
      refine sq (h := ?_)
      refine bk (h := ?_)
      refine sq (h := ?_)
      refine rg (h := ?_)
      refine WL.y (hy := mv) (h := ?_)
      refine WL.y (hy := mv) (h := ?_)
      refine WL.y (hy := mv) (h := ?_)
      refine WL.y (hy := subI) (h := ?_)
      refine WL.y (hy := bd) (h := ?_)
      refine al (h := fun b3 => ?_)
      first | refine stA (h := ?_) | refine stEA (h := ?_)
      refine nl (h := ?_)
      refine q_seq (h := ?_)
      refine sq (h := ?_)
      refine rg (h := ?_)
      refine WL.y (hy := mv) (h := ?_)
      refine WL.y (hy := (by first | exact ldA | exact ldEA)) (h := ?_)
      refine WL.y (hy := lkC (kv := encT (rowTo f s z.k (tblTo f s z.k) u.k)) (hm := hum) (hs := encT_shape _)) (h := ?_)
      rw [lkp_enc (p := (loA z.k + (u.k : Int), (z.k : Int) - (loA z.k + (u.k : Int)))), getD_tat, isSome_enc]
      refine WL.y (hy := mv) (h := ?_)
      refine WL.y (hy := ex) (h := ?_)
      refine WL.y (hy := ex) (h := ?_)
      refine al (h := fun b4 => ?_)
      first | refine stA (h := ?_) | refine stEA (h := ?_)
      refine WL.y (hy := asg) (h := ?_)
      refine nl (h := ?_)
      refine q_seq (h := ?_)
      refine sq (h := ?_)
      refine sq (h := ?_)
      refine rg (h := ?_)
      refine WL.y (hy := mv) (h := ?_)
      refine WL.y (hy := notB) (h := ?_)
      refine WL.y (hy := mv) (h := ?_)
      apply brOr 3 44 47 (by exact rfl)
      · intro hb2
        refine un (h := ?_)
        refine WL.y (hy := (by first | exact fa | exact faE)) (h := ?_)
        refine un (h := ?_)
        refine WL.y (hy := (by first | exact ld | exact ldE)) (h := ?_)
        refine WL.y (hy := (by first | exact pkT | exact pkF)) (h := ?_)
        exact mg (by repeat (first | exact trivial | refine ⟨rfl, ?_⟩ | refine ⟨by rw [hb2]; rfl, ?_⟩)) (by repeat (first | exact SubL.nil | (apply SubL.cons; (repeat (first | exact At.here | apply At.there))) | exact SubL.refl _ | apply SubL.skip))
      · intro hb2
        repeat (first | refine un (h := ?_) | refine sk (h := ?_) | refine WL.y (hy := pkF) (h := ?_) | refine WL.y (hy := pkT) (h := ?_))
        exact mg (by repeat (first | exact trivial | refine ⟨rfl, ?_⟩ | refine ⟨by rw [hb2]; rfl, ?_⟩)) (by repeat (first | exact SubL.nil | (apply SubL.cons; (repeat (first | exact At.here | apply At.there))) | exact SubL.refl _ | apply SubL.skip))
      refine nl (h := ?_)
      refine q_seq (h := ?_)
      refine cd (by exact rfl) (fun h3 => ?_) (fun h3 => ?_)
      · skip
        have hpr : rowTo f s z.k (tblTo f s z.k) (u.k + 1) = rowTo f s z.k (tblTo f s z.k) u.k := by rw [rowTo, pairT, h3]; rfl
        refine et (h := ?_)
        refine q_then_exit (h := ?_)
        refine q_blk_hit (h := ?_)
        refine q_seq (h := ?_)
        refine rg (h := ?_)
        refine WL.y (hy := mv) (h := ?_)
        refine WL.y (hy := addI) (h := ?_)
        refine WL.y (hy := asg) (h := ?_)
        refine nl (h := ?_)
        first
          | refine rn (x := u) ⟨u.k + 1, v.es, v.c⟩ ⟨by dsimp only; omega, by dsimp only; rw [hpr, ← hvn]; exact hvm⟩ (by dsimp only; omega) (by repeat (first | exact trivial | refine ⟨rfl, ?_⟩ | refine ⟨by rw [show loA z.k + ((u.k + 1 : Nat) : Int) = loA z.k + (u.k : Int) + 1 by omega]; rfl, ?_⟩)) (by repeat (first | exact SubL.nil | (apply SubL.cons; (repeat (first | exact At.here | apply At.there))) | exact SubL.refl _ | apply SubL.skip))
          | refine rn (x := u) ⟨u.k + 1, u.es, u.c⟩ ⟨by dsimp only; omega, by dsimp only; rw [hpr]; exact hum⟩ (by dsimp only; omega) (by repeat (first | exact trivial | refine ⟨rfl, ?_⟩ | refine ⟨by rw [show loA z.k + ((u.k + 1 : Nat) : Int) = loA z.k + (u.k : Int) + 1 by omega]; rfl, ?_⟩)) (by repeat (first | exact SubL.nil | (apply SubL.cons; (repeat (first | exact At.here | apply At.there))) | exact SubL.refl _ | apply SubL.skip))
      · skip
        have hpr : rowTo f s z.k (tblTo f s z.k) (u.k + 1) = sideTo f s (loA z.k + (u.k : Int), (z.k : Int) - (loA z.k + (u.k : Int))) (tat (rowTo f s z.k (tblTo f s z.k) u.k) (loA z.k + (u.k : Int), (z.k : Int) - (loA z.k + (u.k : Int)))) (rowTo f s z.k (tblTo f s z.k) u.k) 2 := by rw [rowTo, pairT, h3]; rfl
        refine skp (h := ?_)
        refine q_seq (h := ?_)
        refine sq (h := ?_)
        refine rg (h := ?_)
        refine WL.y (hy := mv) (h := ?_)
        refine nl (h := ?_)
        refine q_seq (h := ?_)
        refine bk (h := ?_)
        refine lp (X := TZ) (I := fun v => v.k ≤ 2 ∧ MapIs v.es (encT (sideTo f s (loA z.k + (u.k : Int), (z.k : Int) - (loA z.k + (u.k : Int))) (tat (rowTo f s z.k (tblTo f s z.k) u.k) (loA z.k + (u.k : Int), (z.k : Int) - (loA z.k + (u.k : Int)))) (rowTo f s z.k (tblTo f s z.k) u.k) v.k))) (le := fun v => [(2, .pointer (some ⟨b0, 0, none⟩)), (3, .pointer (some ⟨b1, 0, none⟩)), (5, .map (some b2)), (6, .int .i64 z.k), (18, .int .i64 z.k), (7, .int .i64 (loA z.k + (u.k : Int))), (8, .pointer (some ⟨b3, 0, none⟩)), (9, .pointer (some ⟨b4, 0, none⟩)), (48, .int .i64 v.k)]) (Le := fun v => [.obj b2 (.map v.es v.c), .blk b3 26 [.int .i64 (loA z.k + (u.k : Int)), .int .i64 ((z.k : Int) - (loA z.k + (u.k : Int)))], .blk b4 140 [.int .i64 (tat (rowTo f s z.k (tblTo f s z.k) u.k) (loA z.k + (u.k : Int), (z.k : Int) - (loA z.k + (u.k : Int)))).1, .bool (tat (rowTo f s z.k (tblTo f s z.k) u.k) (loA z.k + (u.k : Int), (z.k : Int) - (loA z.k + (u.k : Int)))).2], .blk b0 80 f.cells, .blk b1 137 [.int .i64 s.1, .int .i64 s.2]]) (μ := fun v => 2 - v.k) ⟨0, u.es, u.c⟩ ⟨Nat.zero_le _, hum⟩ (by repeat (first | exact trivial | refine ⟨rfl, ?_⟩)) (by repeat (first | exact SubL.nil | (apply SubL.cons; (repeat (first | exact At.here | apply At.there))) | exact SubL.refl _ | apply SubL.skip)) (fun v hv => ?_)
        obtain ⟨hvk, hvm⟩ := hv
        refine sq (h := ?_)
        refine rg (h := ?_)
        refine WL.y (hy := lss) (h := ?_)
        refine nl (h := ?_)
        refine q_seq (h := ?_)
        refine sq (h := ?_)
        refine cd (by exact rfl) (fun h4 => ?_) (fun h4 => ?_)
        · skip
          have hvn : v.k < 2 := by simp only [decide_eq_true_eq] at h4; omega
          have hsb := tOk_side (f := f) (s := s) (p := (loA z.k + (u.k : Int), (z.k : Int) - (loA z.k + (u.k : Int)))) hut hnow v.k
          have hnx := tOk_at hsb (addV (loA z.k + (u.k : Int), (z.k : Int) - (loA z.k + (u.k : Int))) v.k)
          have hSq : Sm (addV (loA z.k + (u.k : Int), (z.k : Int) - (loA z.k + (u.k : Int))) v.k) := sm_of (K := 1000) (addV_bd (K := 999) ⟨by dsimp only; omega, by dsimp only; omega⟩) (by omega)
          refine skp (h := ?_)
          refine q_seq (h := ?_)
          refine sq (h := ?_)
          refine bk (h := ?_)
          refine sq (h := ?_)
          refine rg (h := ?_)
          refine WL.y (hy := mv) (h := ?_)
          refine WL.y (hy := asg) (h := ?_)
          refine nl (h := ?_)
          refine q_seq (h := ?_)
          refine sq (h := ?_)
          refine rg (h := ?_)
          refine WL.y (hy := (by first | exact ldA | exact ldEA)) (h := ?_)
          refine WL.y (hy := mv) (h := ?_)
          refine cl0 (hc := fun w hS => C_score_add (loA z.k + (u.k : Int), (z.k : Int) - (loA z.k + (u.k : Int))) v.k hSp w) (h := ?_)
          refine al (h := fun b5 => ?_)
          first | refine stA (h := ?_) | refine stEA (h := ?_)
          refine nl (h := ?_)
          refine q_seq (h := ?_)
          refine sq (h := ?_)
          refine rg (h := ?_)
          refine WL.y (hy := mv) (h := ?_)
          refine WL.y (hy := (by first | exact ldA | exact ldEA)) (h := ?_)
          refine WL.y (hy := lkN (kv := encT (sideTo f s (loA z.k + (u.k : Int), (z.k : Int) - (loA z.k + (u.k : Int))) (tat (rowTo f s z.k (tblTo f s z.k) u.k) (loA z.k + (u.k : Int), (z.k : Int) - (loA z.k + (u.k : Int)))) (rowTo f s z.k (tblTo f s z.k) u.k) v.k)) (hm := hvm) (hs := encT_shape _)) (h := ?_)
          rw [lkp_enc (p := addV (loA z.k + (u.k : Int), (z.k : Int) - (loA z.k + (u.k : Int))) v.k), getD_tat]
          refine al (h := fun b6 => ?_)
          first | refine stA (h := ?_) | refine stEA (h := ?_)
          refine nl (h := ?_)
          refine q_seq (h := ?_)
          refine sq (h := ?_)
          refine rg (h := ?_)
          refine WL.y (hy := (by first | exact fa | exact faE)) (h := ?_)
          refine WL.y (hy := (by first | exact ld | exact ldE)) (h := ?_)
          refine WL.y (hy := (by first | exact fa | exact faE)) (h := ?_)
          refine WL.y (hy := (by first | exact ld | exact ldE)) (h := ?_)
          refine WL.y (hy := addI) (h := ?_)
          refine WL.y (hy := minI) (h := ?_)
          refine WL.y (hy := (by first | exact fa | exact faE)) (h := ?_)
          first | refine st (h := ?_) | refine stE (h := ?_)
          refine nl (h := ?_)
          refine q_seq (h := ?_)
          refine sq (h := ?_)
          refine rg (h := ?_)
          refine WL.y (hy := (by first | exact ldA | exact ldEA)) (h := ?_)
          refine WL.y (hy := (by first | exact ldA | exact ldEA)) (h := ?_)
          refine cl0 (hc := fun w hS => C_set_breaks s (loA z.k + (u.k : Int), (z.k : Int) - (loA z.k + (u.k : Int))) w) (h := ?_)
          refine WL.y (hy := mv) (h := ?_)
          apply brOr 7 67 74 (by exact rfl)
          · intro hb5
            refine un (h := ?_)
            refine WL.y (hy := (by first | exact ldA | exact ldEA)) (h := ?_)
            refine un (h := ?_)
            refine WL.y (hy := (by first | exact fa | exact faE)) (h := ?_)
            refine un (h := ?_)
            refine WL.y (hy := (by first | exact fa | exact faE)) (h := ?_)
            refine un (h := ?_)
            refine WL.y (hy := (by first | exact ld | exact ldE)) (h := ?_)
            refine un (h := ?_)
            refine cl0 (hc := fun w hS => C_score_leads _ _ _ (by assumption) w) (h := ?_)
            refine un (h := ?_)
            refine WL.y (hy := geq) (h := ?_)
            refine WL.y (hy := (by first | exact pkT | exact pkF)) (h := ?_)
            exact mg (by repeat (first | exact trivial | refine ⟨rfl, ?_⟩ | refine ⟨by rw [hb5]; rfl, ?_⟩)) (by repeat (first | exact SubL.nil | (apply SubL.cons; (repeat (first | exact At.here | apply At.there))) | exact SubL.refl _ | apply SubL.skip))
          · intro hb5
            repeat (first | refine un (h := ?_) | refine sk (h := ?_) | refine WL.y (hy := pkF) (h := ?_) | refine WL.y (hy := pkT) (h := ?_))
            exact mg (by repeat (first | exact trivial | refine ⟨rfl, ?_⟩ | refine ⟨by rw [hb5]; rfl, ?_⟩)) (by repeat (first | exact SubL.nil | (apply SubL.cons; (repeat (first | exact At.here | apply At.there))) | exact SubL.refl _ | apply SubL.skip))
          refine WL.y (hy := (by first | exact fa | exact faE)) (h := ?_)
          first | refine st (h := ?_) | refine stE (h := ?_)
          refine nl (h := ?_)
          refine q_seq (h := ?_)
          refine rg (h := ?_)
          refine WL.y (hy := mv) (h := ?_)
          refine WL.y (hy := (by first | exact ldA | exact ldEA)) (h := ?_)
          refine WL.y (hy := (by first | exact ldA | exact ldEA)) (h := ?_)
          refine mup (kv := encT (sideTo f s (loA z.k + (u.k : Int), (z.k : Int) - (loA z.k + (u.k : Int))) (tat (rowTo f s z.k (tblTo f s z.k) u.k) (loA z.k + (u.k : Int), (z.k : Int) - (loA z.k + (u.k : Int)))) (rowTo f s z.k (tblTo f s z.k) u.k) v.k)) (hm := hvm) (hs := encT_shape _) (h := fun es1 c1 hm1 => ?_)
          have hvu : MapIs es1 (encT (sideTo f s (loA z.k + (u.k : Int), (z.k : Int) - (loA z.k + (u.k : Int))) (tat (rowTo f s z.k (tblTo f s z.k) u.k) (loA z.k + (u.k : Int), (z.k : Int) - (loA z.k + (u.k : Int)))) (rowTo f s z.k (tblTo f s z.k) u.k) (v.k + 1))) := by rw [sideTo, ← upd_enc]; exact hm1
          refine nl (h := ?_)
          refine q_blk_norm (h := ?_)
          refine q_seq (h := ?_)
          refine rg (h := ?_)
          refine WL.y (hy := addI) (h := ?_)
          refine WL.y (hy := mv) (h := ?_)
          refine nl (h := ?_)
          refine rn (x := v) ⟨v.k + 1, es1, c1⟩ ⟨by dsimp only; omega, hvu⟩ (by dsimp only; omega) (by repeat (first | exact trivial | refine ⟨rfl, ?_⟩)) (by repeat (first | exact SubL.nil | (apply SubL.cons; (repeat (first | exact At.here | apply At.there))) | exact SubL.refl _ | apply SubL.skip))
        · skip
          have hvn : v.k = 2 := by simp only [decide_eq_false_iff_not] at h4; omega
          refine et (h := ?_)
          refine q_then_exit (h := ?_)
          refine q_then_exit (h := ?_)
          refine q_blk_hit (h := ?_)
          refine q_blk_norm (h := ?_)
          refine q_seq (h := ?_)
          refine rg (h := ?_)
          refine WL.y (hy := mv) (h := ?_)
          refine WL.y (hy := addI) (h := ?_)
          refine WL.y (hy := asg) (h := ?_)
          refine nl (h := ?_)
          first
            | refine rn (x := u) ⟨u.k + 1, v.es, v.c⟩ ⟨by dsimp only; omega, by dsimp only; rw [hpr, ← hvn]; exact hvm⟩ (by dsimp only; omega) (by repeat (first | exact trivial | refine ⟨rfl, ?_⟩ | refine ⟨by rw [show loA z.k + ((u.k + 1 : Nat) : Int) = loA z.k + (u.k : Int) + 1 by omega]; rfl, ?_⟩)) (by repeat (first | exact SubL.nil | (apply SubL.cons; (repeat (first | exact At.here | apply At.there))) | exact SubL.refl _ | apply SubL.skip))
            | refine rn (x := u) ⟨u.k + 1, u.es, u.c⟩ ⟨by dsimp only; omega, by dsimp only; rw [hpr]; exact hum⟩ (by dsimp only; omega) (by repeat (first | exact trivial | refine ⟨rfl, ?_⟩ | refine ⟨by rw [show loA z.k + ((u.k + 1 : Nat) : Int) = loA z.k + (u.k : Int) + 1 by omega]; rfl, ?_⟩)) (by repeat (first | exact SubL.nil | (apply SubL.cons; (repeat (first | exact At.here | apply At.there))) | exact SubL.refl _ | apply SubL.skip))
    · skip
      have hun : u.k = cntA z.k := by simp only [decide_eq_false_iff_not] at h1; omega
      refine et (h := ?_)
      refine q_then_exit (h := ?_)
      refine q_then_exit (h := ?_)
      refine q_blk_hit (h := ?_)
      refine q_blk_norm (h := ?_)
      refine q_seq (h := ?_)
      refine rg (h := ?_)
      refine WL.y (hy := addI) (h := ?_)
      refine WL.y (hy := mv) (h := ?_)
      refine nl (h := ?_)
      refine rn (x := z) ⟨z.k + 1, u.es, u.c⟩ ⟨by dsimp only; omega, by dsimp only; rw [tblTo, ← hun]; exact hum⟩ (by dsimp only; omega) (by repeat (first | exact trivial | refine ⟨rfl, ?_⟩)) (by repeat (first | exact SubL.nil | (apply SubL.cons; (repeat (first | exact At.here | apply At.there))) | exact SubL.refl _ | apply SubL.skip))
  · skip
    have hzn : z.k = 82 := by simp only [decide_eq_false_iff_not] at h0; omega
    refine et (h := ?_)
    refine q_then_exit (h := ?_)
    refine q_then_exit (h := ?_)
    refine q_blk_hit (h := ?_)
    refine q_seq (h := ?_)
    refine sq (h := ?_)
    refine rg (h := ?_)
    refine WL.y (hy := mv) (h := ?_)
    refine WL.y (hy := asg) (h := ?_)
    refine nl (h := ?_)
    refine q_seq (h := ?_)
    refine rtn (h := ?_)
    refine q_ret (hR := ?_)
    exact fun w hS => ⟨(b2, z.es, z.c), by dsimp only; rw [tableV, ← hzn]; exact hzm, rfl, hS.sub (by repeat (first | exact SubL.nil | (apply SubL.cons; (repeat (first | exact At.here | apply At.there))) | exact SubL.refl _ | apply SubL.skip))⟩
end Go.Proofs.Ytacaojifempclaa

namespace Go.Proofs.Ytacaojifempclaa
open Go Go.RowKit

def pAt {α : Type} (ss : List α) (q : α → Bool) (k : Nat) : Bool := match ss[k]? with
  | some s => q s
  | none => false
theorem pAt_eq {α : Type} {ss : List α} {q : α → Bool} {k : Nat} {s : α} (h : ss[k]? = some s) : pAt ss q k = q s := by simp only [pAt, h]
theorem pAt_any {α : Type} (ss : List α) (q : α → Bool) : (List.range ss.length).any (pAt ss q) = ss.any q := by
  rw [Bool.eq_iff_iff]
  simp only [List.any_eq_true, List.mem_range]
  constructor
  · rintro ⟨k, hk, h⟩
    simp only [pAt, List.getElem?_eq_getElem hk] at h
    exact ⟨ss[k], List.getElem_mem hk, h⟩
  · rintro ⟨s, hs, h⟩
    obtain ⟨k, hk, rfl⟩ := List.getElem_of_mem hs
    exact ⟨k, hk, by simp only [pAt, List.getElem?_eq_getElem hk]; exact h⟩
def Fst (p : Nat → Bool) (n : Nat) (j : Int) : Prop := (∃ k : Nat, k < n ∧ j = k ∧ p k = true ∧ ∀ i, i < k → p i = false) ∨ (j = -1 ∧ ∀ i, i < n → p i = false)
theorem Fst.any {p : Nat → Bool} {n : Nat} {j : Int} (h : Fst p n j) : decide (0 ≤ j) = (List.range n).any p := by
  rcases h with ⟨k, hk, rfl, hp, _⟩ | ⟨rfl, hp⟩
  · rw [decide_eq_true (by omega)]
    exact (List.any_eq_true.2 ⟨k, by simpa using hk, hp⟩).symm
  · rw [decide_eq_false (by omega)]
    exact (List.any_eq_false.2 fun k hk => by simp [hp k (by simpa using hk)]).symm

theorem enc_at {α : Type} {f : α → List Value} {ss : List α} {k : Nat} {cs : List Value} (h : (ss.map f)[k]? = some cs) : ∃ s, ss[k]? = some s ∧ cs = f s := by
  rw [List.getElem?_map] at h
  cases hs : ss[k]? with
  | none => simp [hs] at h
  | some s => exact ⟨s, rfl, by simpa [hs] using h.symm⟩
theorem C0.tr {P : Program} {f : FuncId} {vs : List Value} {v : Value} (Lp : List Ent) (h : ∀ w, C0 P f vs w v) : Tr P f vs Lp (fun _ : Unit => True) (fun _ => v) (fun _ => Lp) :=
  ⟨fun w0 w R hst => Calls.mono (h w).out fun e w' ⟨he, hs⟩ => ⟨(), trivial, he, by simpa using hst.join hs rfl⟩⟩

end Go.Proofs.Ytacaojifempclaa

namespace Go.Proofs.Ytacaojifempclaa
open Go Go.RowKit

theorem C_IndexFuncP {A : Option Addr} {n c : Nat} {es : List (List Value)} {g : FuncId} (hg : FnOk Try.prog g) (fi cap : List Value) (Lp : List Ent) (p : Nat → Bool) (hn : n ≤ 9223372036854775807)
    (hp : ∀ k cs, es[k]? = some cs → Tr Try.prog g (fi ++ [.agg cs.toArray] ++ cap) (.ro A 2 n es :: Lp) (fun _ : Unit => True) (fun _ => .bool (p k)) (fun _ => .ro A 2 n es :: Lp)) :
    Tr Try.prog 106 [.slice A n c, .func (.func g) fi.toArray cap.toArray] (.ro A 2 n es :: Lp) (Fst p n) (fun j => .int .i64 j) (fun _ => .ro A 2 n es :: Lp) := by
  refine ⟨fun w0 w R hst => ?_⟩
  have hlen : es.length = n := (hst.ok (.ro A 2 n es) (by simp)).len
  refine en Try.func106 Try.ntmps106 hst (h := fun F => ?_)
  refine sq (h := ?_)
  refine rg (h := ?_)
  refine WL.y (hy := asg) (h := ?_)
  refine nl (h := ?_)
  refine q_seq (h := ?_)
  refine sq (h := ?_)
  refine sq (h := ?_)
  refine rg (h := ?_)
  refine WL.y (hy := mv) (h := ?_)
  refine WL.y (hy := lenS) (h := ?_)
  refine WL.y (hy := mv) (h := ?_)
  refine nl (h := ?_)
  refine q_seq (h := ?_)
  refine bk (h := ?_)
  refine lp (X := Nat) (I := fun k => k ≤ n ∧ ∀ i, i < k → p i = false) (le := fun k => [(0, .slice A n c), (1, .func (.func g) fi.toArray cap.toArray), (7, .int .i64 n), (8, .int .i64 k)]) (Le := fun _ => .ro A 2 n es :: (Lp ++ R)) (μ := fun k => n - k) 0 ⟨by omega, fun i hi => by omega⟩ (by repeat (first | exact trivial | refine ⟨rfl, ?_⟩)) (SubL.refl _) (fun k hk => ?_)
  obtain ⟨hk, hall⟩ := hk
  refine sq (h := ?_)
  refine rg (h := ?_)
  refine WL.y (hy := lss) (h := ?_)
  refine nl (h := ?_)
  refine q_seq (h := ?_)
  refine sq (h := ?_)
  refine cd (by exact rfl) (fun h0 => ?_) (fun h0 => ?_)
  · skip
    have hkn : k < n := by simp only [decide_eq_true_eq] at h0; omega
    have hes : es[k]? = some es[k] := List.getElem?_eq_getElem (by omega)
    refine skp (h := ?_)
    refine q_seq (h := ?_)
    refine sq (h := ?_)
    refine bk (h := ?_)
    refine sq (h := ?_)
    refine rg (h := ?_)
    refine WL.y (hy := mv) (h := ?_)
    refine WL.y (hy := asg) (h := ?_)
    refine nl (h := ?_)
    refine q_seq (h := ?_)
    refine sq (h := ?_)
    refine rg (h := ?_)
    refine WL.y (hy := mv) (h := ?_)
    refine WL.y (hy := mv) (h := ?_)
    refine WL.y (hy := mv) (h := ?_)
    refine WL.y (hy := ix) (h := ?_)
    refine WL.y (hy := ldEW (k := k) (cs := es[k]) (hk := hes)) (h := ?_)
    refine clfT hg (fi := fi) (cap := cap) (by exact rfl) (by repeat (first | exact Evs.nil | (apply Evs.cons; exact rfl))) (hp k _ hes) rfl (Spl.cons .here (Spl.app _ _)) (h := fun _ _ => ?_)
    refine nl (h := ?_)
    refine q_seq (h := ?_)
    refine cd (by exact rfl) (fun h1 => ?_) (fun h1 => ?_)
    · skip
      refine sq (h := ?_)
      refine rg (h := ?_)
      refine WL.y (hy := mv) (h := ?_)
      refine WL.y (hy := asg) (h := ?_)
      refine nl (h := ?_)
      refine q_seq (h := ?_)
      refine rtn (h := ?_)
      refine q_blk_ret (h := ?_)
      refine q_then_ret (h := ?_)
      refine q_then_ret (h := ?_)
      refine q_blk_ret (h := ?_)
      refine q_then_ret (h := ?_)
      refine q_ret (hR := ?_)
      exact fun w hS => ⟨_, .inl ⟨k, hkn, rfl, by assumption, hall⟩, rfl, hS⟩
    · skip
      refine skp (h := ?_)
      refine q_blk_norm (h := ?_)
      refine q_seq (h := ?_)
      refine rg (h := ?_)
      refine WL.y (hy := addI) (h := ?_)
      refine WL.y (hy := mv) (h := ?_)
      refine nl (h := ?_)
      refine rn (k + 1) ⟨by omega, fun i hi => ?_⟩ (by omega) (by repeat (first | exact trivial | refine ⟨rfl, ?_⟩)) (SubL.refl _)
      rcases Nat.lt_succ_iff_lt_or_eq.1 hi with h | rfl
      · exact hall i h
      · assumption
  · skip
    have hkn : k = n := by simp only [decide_eq_false_iff_not] at h0; omega
    refine et (h := ?_)
    refine q_then_exit (h := ?_)
    refine q_then_exit (h := ?_)
    refine q_blk_hit (h := ?_)
    refine q_seq (h := ?_)
    refine sq (h := ?_)
    refine rg (h := ?_)
    refine WL.y (hy := asg) (h := ?_)
    refine nl (h := ?_)
    refine q_seq (h := ?_)
    refine rtn (h := ?_)
    refine q_ret (hR := ?_)
    exact fun w hS => ⟨_, .inr ⟨rfl, by subst hkn; exact hall⟩, rfl, hS⟩

theorem C_ContainsFuncP {A : Option Addr} {n c : Nat} {es : List (List Value)} {g : FuncId} (hg : FnOk Try.prog g) (fi cap : List Value) (Lp : List Ent) (p : Nat → Bool) (hn : n ≤ 9223372036854775807)
    (hp : ∀ k cs, es[k]? = some cs → Tr Try.prog g (fi ++ [.agg cs.toArray] ++ cap) (.ro A 2 n es :: Lp) (fun _ : Unit => True) (fun _ => .bool (p k)) (fun _ => .ro A 2 n es :: Lp)) :
    Tr Try.prog 80 [.slice A n c, .func (.func g) fi.toArray cap.toArray] (.ro A 2 n es :: Lp) (fun _ : Unit => True) (fun _ => .bool ((List.range n).any p)) (fun _ => .ro A 2 n es :: Lp) := by
  refine ⟨fun w0 w R hst => ?_⟩
  refine en Try.func80 Try.ntmps80 hst (h := fun F => ?_)
  refine sq (h := ?_)
  refine rg (h := ?_)
  refine WL.y (hy := asg) (h := ?_)
  refine nl (h := ?_)
  refine q_seq (h := ?_)
  refine sq (h := ?_)
  refine rg (h := ?_)
  refine WL.y (hy := mv) (h := ?_)
  refine WL.y (hy := mv) (h := ?_)
  refine clT (hc := C_IndexFuncP hg fi cap Lp p hn hp) (hs := Spl.cons .here (Spl.app _ _)) (h := fun x0 hx0 => ?_)
  refine WL.y (hy := geq) (h := ?_)
  refine WL.y (hy := asg) (h := ?_)
  refine nl (h := ?_)
  refine q_seq (h := ?_)
  refine rtn (h := ?_)
  refine q_ret (hR := ?_)
  exact fun w hS => ⟨(), trivial, by simp only [resV, hx0.any], hS⟩

theorem C_ClonePairs (A : Option Addr) (n c : Nat) (es : List (List Value)) (w : World) (h : Rd w A 2 n es) (hn : n ≤ 100000000) :
    CR Try.prog 107 [.slice A n c] w (fun _ : Option Addr × Nat => True) (fun p => .slice p.1 n p.2) (fun p => [.own p.1 p.2 26 2 n es]) := by
  refine ⟨en Try.func107 Try.ntmps107 ((St.init w).share (e := .ro A 2 n es) h rfl rfl rfl) (h := fun F => ?_)⟩
  refine sq (h := ?_)
  refine rg (h := ?_)
  refine WL.y (hy := asg) (h := ?_)
  refine WL.nilOwn 26 2 (h := ?_)
  refine nl (h := ?_)
  refine q_seq (h := ?_)
  refine sq (h := ?_)
  refine sq (h := ?_)
  refine rg (h := ?_)
  refine WL.y (hy := mv) (h := ?_)
  refine WL.y (hy := eqlN) (h := ?_)
  refine nl (h := ?_)
  refine q_seq (h := ?_)
  refine cd (by exact rfl) (fun h0 => ?_) (fun h0 => ?_)
  · skip
    refine sq (h := ?_)
    refine rg (h := ?_)
    refine WL.y (hy := asg) (h := ?_)
    refine nl (h := ?_)
    refine q_seq (h := ?_)
    refine rtn (h := ?_)
    refine q_then_ret (h := ?_)
    refine q_ret (hR := ?_)
    have hn0 : n = 0 := by
      rcases Nat.eq_zero_or_pos n with e | e
      · exact e
      · obtain ⟨ad, rfl⟩ := h.some_ e
        cases h0
    have hes : es = [] := by have := h.len; rw [hn0] at this; exact List.length_eq_zero_iff.1 this
    exact fun w hS => ⟨(none, 0), trivial, by rw [hn0]; rfl, by rw [hn0, hes]; exact hS.sub (by repeat (first | exact SubL.nil | (apply SubL.cons; (repeat (first | exact At.here | apply At.there))) | exact SubL.refl _ | apply SubL.skip))⟩
  · skip
    refine skp (h := ?_)
    refine q_seq (h := ?_)
    refine sq (h := ?_)
    refine rg (h := ?_)
    refine bs (h := fun b0 => ?_)
    refine WL.y (hy := mv) (h := ?_)
    first | refine ap (h := fun A1 c1 => ?_) | refine ap0 (h := fun A1 c1 => ?_)
    refine WL.y (hy := asg) (h := ?_)
    refine nl (h := ?_)
    refine q_seq (h := ?_)
    refine rtn (h := ?_)
    refine q_ret (hR := ?_)
    exact fun w hS => ⟨(_, _), trivial, by simp only [Nat.zero_add]; rfl, by simp only [Nat.zero_add, List.nil_append] at hS; exact hS.sub (by repeat (first | exact SubL.nil | (apply SubL.cons; (repeat (first | exact At.here | apply At.there))) | exact SubL.refl _ | apply SubL.skip))⟩

structure Brd where
  (st : List Pr) (g p : Pr)
abbrev Brd.val (b : Brd) (A : Option Addr) (n c : Nat) : Value := .agg #[.slice A n c, .int .i64 b.g.1, .int .i64 b.g.2, .int .i64 b.p.1, .int .i64 b.p.2]
abbrev Brd.cells (b : Brd) (A : Option Addr) (n c : Nat) : List Value := [.slice A n c, .int .i64 b.g.1, .int .i64 b.g.2, .int .i64 b.p.1, .int .i64 b.p.2]
def Brd.all (b : Brd) : List Pr := b.st ++ [b.g, b.p]
def fitP (p : Pr) : Bool := wi p.1 0 40 && wi p.2 0 40
def brdOk (b : Brd) : Bool := decide ((b.st.length : Int) ≤ 5) && !(b.all.any fun p => !fitP p)

theorem C_isBoard1 (p : Pr) (w : World) : C0 Try.prog 79 [pv p] w (.bool (fitP p)) := by
  refine ⟨en Try.func79 Try.ntmps79 (St.init w) (h := fun F => ?_)⟩
  refine sq (h := ?_)
  refine rg (h := ?_)
  refine bxA (h := fun b0 => ?_)
  refine WL.y (hy := asg) (h := ?_)
  refine nl (h := ?_)
  refine q_seq (h := ?_)
  refine sq (h := ?_)
  refine rg (h := ?_)
  refine WL.y (hy := (by first | exact fa | exact faE)) (h := ?_)
  refine WL.y (hy := (by first | exact ld | exact ldE)) (h := ?_)
  refine cl0 (hc := fun w hS => C_score_within ..) (h := ?_)
  refine WL.y (hy := mv) (h := ?_)
  apply brAnd 4 6 10 (by exact rfl)
  · intro hb0
    refine un (h := ?_)
    refine WL.y (hy := (by first | exact fa | exact faE)) (h := ?_)
    refine un (h := ?_)
    refine WL.y (hy := (by first | exact ld | exact ldE)) (h := ?_)
    refine un (h := ?_)
    refine cl0 (hc := fun w hS => C_score_within ..) (h := ?_)
    refine WL.y (hy := (by first | exact pkT | exact pkF)) (h := ?_)
    exact mg (by repeat (first | exact trivial | refine ⟨rfl, ?_⟩ | refine ⟨by rw [hb0]; rfl, ?_⟩)) (by repeat (first | exact SubL.nil | (apply SubL.cons; (repeat (first | exact At.here | apply At.there))) | exact SubL.refl _ | apply SubL.skip))
  · intro hb0
    repeat (first | refine un (h := ?_) | refine sk (h := ?_) | refine WL.y (hy := pkF) (h := ?_) | refine WL.y (hy := pkT) (h := ?_))
    exact mg (by repeat (first | exact trivial | refine ⟨rfl, ?_⟩ | refine ⟨by rw [hb0]; rfl, ?_⟩)) (by repeat (first | exact SubL.nil | (apply SubL.cons; (repeat (first | exact At.here | apply At.there))) | exact SubL.refl _ | apply SubL.skip))
  refine WL.y (hy := asg) (h := ?_)
  refine nl (h := ?_)
  refine q_seq (h := ?_)
  refine rtn (h := ?_)
  refine q_ret (hR := ?_)
  exact fun w hS => ⟨rfl, hS.sub (by repeat (first | exact SubL.nil | (apply SubL.cons; (repeat (first | exact At.here | apply At.there))) | exact SubL.refl _ | apply SubL.skip))⟩
theorem T_isBoard2 (p : Pr) (a0 : Nat) (Le : Ent) : Tr Try.prog 82 [pv p, .pointer (some ⟨a0, 0, none⟩)] [Le, .blk a0 82 [.func (.func 79) #[] #[]]] (fun _ : Unit => True) (fun _ => .bool (!fitP p)) (fun _ => [Le, .blk a0 82 [.func (.func 79) #[] #[]]]) := by
  refine ⟨fun w0 w R hst => ?_⟩
  refine en Try.func82 Try.ntmps82 hst (h := fun F => ?_)
  refine sq (h := ?_)
  refine rg (h := ?_)
  refine bxA (h := fun b0 => ?_)
  refine WL.y (hy := asg) (h := ?_)
  refine nl (h := ?_)
  refine q_seq (h := ?_)
  refine sq (h := ?_)
  refine rg (h := ?_)
  refine WL.y (hy := (by first | exact ld | exact ldE)) (h := ?_)
  refine WL.y (hy := (by first | exact ldA | exact ldEA)) (h := ?_)
  refine clfT inferInstance (fi := []) (cap := []) (by exact rfl) (by repeat (first | exact Evs.nil | (apply Evs.cons; exact rfl))) (C0.tr [] (C_isBoard1 p)) rfl Spl.nil (h := fun _ _ => ?_)
  refine WL.y (hy := notB) (h := ?_)
  refine WL.y (hy := asg) (h := ?_)
  refine nl (h := ?_)
  refine q_seq (h := ?_)
  refine rtn (h := ?_)
  refine q_ret (hR := ?_)
  exact fun w hS => ⟨(), trivial, rfl, hS.sub (by repeat (first | exact SubL.nil | (apply SubL.cons; (repeat (first | exact At.here | apply At.there))) | exact SubL.refl _ | apply SubL.skip))⟩

theorem C_score_pairs (b : Brd) (A : Option Addr) (n c : Nat) (w : World) (h : Rd w A 2 n (encP b.st)) (hn : n ≤ 1000000) :
    CR Try.prog 81 [b.val A n c] w (fun _ : Option Addr × Nat => True) (fun p => .slice p.1 (n + 2) p.2) (fun p => [.own p.1 p.2 26 2 (n + 2) (encP b.all)]) := by
  have he : encP b.all = encP b.st ++ [[.int .i64 b.g.1, .int .i64 b.g.2], [.int .i64 b.p.1, .int .i64 b.p.2]] := by simp [encP, Brd.all]
  refine ⟨en Try.func81 Try.ntmps81 ((St.init w).share (e := .ro A 2 n (encP b.st)) h rfl rfl rfl) (h := fun F => ?_)⟩
  refine sq (h := ?_)
  refine rg (h := ?_)
  refine bxA (h := fun b0 => ?_)
  refine WL.y (hy := asg) (h := ?_)
  refine nl (h := ?_)
  refine q_seq (h := ?_)
  refine sq (h := ?_)
  refine rgD0 (by kernel_rfl) (h := ?_)
  refine tk 0 (hy := (by first | exact fa | exact faE)) (h := ?_)
  refine tk 1 (hy := (by first | exact ld | exact ldE)) (h := ?_)
  refine tk 3 (hy := (by first | exact fa | exact faE)) (h := ?_)
  refine tk 4 (hy := (by first | exact ldA | exact ldEA)) (h := ?_)
  refine tk 5 (hy := (by first | exact fa | exact faE)) (h := ?_)
  refine tk 6 (hy := (by first | exact ldA | exact ldEA)) (h := ?_)
  refine two 2 7 (h1 := ?_) (h2 := ?_)
  · skip
    refine cl (hc := fun w hS => C_ClonePairs A n c (encP b.st) w (hS.get (by repeat (first | exact Rds.ro | exact Rds.own | apply Rds.there))) (by omega)) (h := fun x0 _ => ?_)
    refine nx (h := ?_)
    refine one 7 (h := ?_)
    refine bs (h := fun b1 => ?_)
    refine nx (h := ?_)
    refine one 8 (h := ?_)
    first | refine ap (h := fun A1 c1 => ?_) | refine ap0 (h := fun A1 c1 => ?_)
    refine nx (h := ?_)
    refine tk 9 (hy := asg) (h := ?_)
    refine dn (h := ?_)
    refine q_seq (h := ?_)
    refine rtn (h := ?_)
    refine q_ret (hR := ?_)
    rw [he]
    exact fun w hS => ⟨(_, _), trivial, rfl, hS.sub (by repeat (first | exact SubL.nil | (apply SubL.cons; (repeat (first | exact At.here | apply At.there))) | exact SubL.refl _ | apply SubL.skip))⟩
  · skip
    refine bs (h := fun b2 => ?_)
    refine nx (h := ?_)
    refine one 2 (h := ?_)
    refine cl (hc := fun w hS => C_ClonePairs A n c (encP b.st) w (hS.get (by repeat (first | exact Rds.ro | exact Rds.own | apply Rds.there))) (by omega)) (h := fun x0 _ => ?_)
    refine nx (h := ?_)
    refine one 8 (h := ?_)
    first | refine ap (h := fun A2 c2 => ?_) | refine ap0 (h := fun A2 c2 => ?_)
    refine nx (h := ?_)
    refine tk 9 (hy := asg) (h := ?_)
    refine dn (h := ?_)
    refine q_seq (h := ?_)
    refine rtn (h := ?_)
    refine q_ret (hR := ?_)
    rw [he]
    exact fun w hS => ⟨(_, _), trivial, rfl, hS.sub (by repeat (first | exact SubL.nil | (apply SubL.cons; (repeat (first | exact At.here | apply At.there))) | exact SubL.refl _ | apply SubL.skip))⟩

set_option maxRecDepth 100000 in
theorem C_isBoard (b : Brd) (A : Option Addr) (n c : Nat) (w : World) (h : Rd w A 2 n (encP b.st)) (hn : n ≤ 9223372036854775807) : C0 Try.prog 39 [b.val A n c] w (.bool (brdOk b)) := by
  have hlen : b.st.length = n := by have := h.len; simpa [encP] using this
  have hal : b.all.length = n + 2 := by simp [Brd.all, hlen]
  refine ⟨en Try.func39 Try.ntmps39 ((St.init w).share (e := .ro A 2 n (encP b.st)) h rfl rfl rfl) (h := fun F => ?_)⟩
  refine sq (h := ?_)
  refine rg (h := ?_)
  refine bxA (h := fun b0 => ?_)
  refine WL.y (hy := asg) (h := ?_)
  refine nl (h := ?_)
  refine q_seq (h := ?_)
  refine sq (h := ?_)
  refine rg (h := ?_)
  refine al (h := fun b1 => ?_)
  first | refine st (h := ?_) | refine stE (h := ?_)
  refine nl (h := ?_)
  refine q_seq (h := ?_)
  refine sq (h := ?_)
  refine rg (h := ?_)
  refine WL.y (hy := (by first | exact fa | exact faE)) (h := ?_)
  refine WL.y (hy := (by first | exact ld | exact ldE)) (h := ?_)
  refine WL.y (hy := lenS) (h := ?_)
  refine WL.y (hy := leq) (h := ?_)
  refine WL.y (hy := mv) (h := ?_)
  apply brAnd 6 8 14 (by exact rfl)
  · intro hb0
    have hn5 : n ≤ 5 := by simp only [decide_eq_true_eq] at hb0; omega
    refine un (h := ?_)
    refine WL.y (hy := (by first | exact ldA | exact ldEA)) (h := ?_)
    refine un (h := ?_)
    refine cl (hc := fun w hS => C_score_pairs b A n c w (hS.get (by repeat (first | exact Rds.ro | exact Rds.own | apply Rds.there))) (by omega)) (h := fun x0 _ => ?_)
    refine un (h := ?_)
    refine WL.y (hy := mkf) (h := ?_)
    refine un (h := ?_)
    refine WL.toRo (A := x0.1) (by repeat (first | exact At.here | apply At.there)) (h := ?_)
    refine clT (hc := C_ContainsFuncP (A := x0.1) (n := n + 2) (c := x0.2) (es := encP b.all) (g := 82) inferInstance [] [.pointer (some ⟨b1, 0, none⟩)] [.blk b1 82 [.func (.func 79) #[] #[]]] (pAt b.all fun p => !fitP p) (by omega) (fun k cs hk => by
      obtain ⟨p, hp, rfl⟩ := enc_at hk
      rw [pAt_eq hp]
      exact T_isBoard2 p b1 _)) (hs := by repeat (first | exact Spl.nil | (apply Spl.cons; (repeat (first | exact At.here | apply At.there))))) (h := fun _ _ => ?_)
    rw [← hal, pAt_any]
    refine un (h := ?_)
    refine WL.y (hy := notB) (h := ?_)
    refine WL.y (hy := (by first | exact pkT | exact pkF)) (h := ?_)
    exact mg (by repeat (first | exact trivial | refine ⟨rfl, ?_⟩ | refine ⟨by rw [hb0]; rfl, ?_⟩)) (by repeat (first | exact SubL.nil | (apply SubL.cons; (repeat (first | exact At.here | apply At.there))) | exact SubL.refl _ | apply SubL.skip))
  · intro hb0
    repeat (first | refine un (h := ?_) | refine sk (h := ?_) | refine WL.y (hy := pkF) (h := ?_) | refine WL.y (hy := pkT) (h := ?_))
    exact mg (by repeat (first | exact trivial | refine ⟨rfl, ?_⟩ | refine ⟨by rw [hb0]; rfl, ?_⟩)) (by repeat (first | exact SubL.nil | (apply SubL.cons; (repeat (first | exact At.here | apply At.there))) | exact SubL.refl _ | apply SubL.skip))
  refine WL.y (hy := asg) (h := ?_)
  refine nl (h := ?_)
  refine q_seq (h := ?_)
  refine rtn (h := ?_)
  refine q_ret (hR := ?_)
  exact fun w hS => ⟨by rw [brdOk, hlen]; rfl, hS.sub (by repeat (first | exact SubL.nil | (apply SubL.cons; (repeat (first | exact At.here | apply At.there))) | exact SubL.refl _ | apply SubL.skip))⟩
end Go.Proofs.Ytacaojifempclaa

namespace Go.Proofs.Ytacaojifempclaa
open Go Go.RowKit

abbrev i2 : List Sp := [.int .i64, .int .i64]
theorem i2_open {w : World} {cs : List Value} (h : Mts w i2 cs) : ∃ p : Pr, cs = [.int .i64 p.1, .int .i64 p.2] := by
  obtain ⟨a, cs, rfl, _, h⟩ := Mts.int_inv h
  obtain ⟨b, cs, rfl, _, h⟩ := h.int_inv
  rw [h.nil_inv]
  exact ⟨(a, b), rfl⟩
end Go.Proofs.Ytacaojifempclaa

namespace Go.Proofs.Ytacaojifempclaa
open Go Go.RowKit

def tPos (t : Tb) : Prop := ∀ e ∈ t, 1 ≤ e.2.1
theorem tPos_get {t : Tb} (h : tPos t) {p : Pr} (hp : (tget t p).isSome = true) : 1 ≤ (tat t p).1 := by
  unfold tat
  induction t with
  | nil => simp [tget] at hp
  | cons e t ih =>
    rw [tget] at hp ⊢
    by_cases hpe : p = e.1
    · rw [if_pos hpe]; exact h e (by simp)
    · rw [if_neg hpe] at hp ⊢; exact ih (fun x hx => h x (by simp [hx])) hp
theorem tPos_put {t : Tb} (h : tPos t) (p : Pr) (v : Stn) (hv : 1 ≤ v.1) : tPos (tput t p v) := by
  induction t with
  | nil => intro e he; simp only [tput, List.mem_singleton] at he; subst he; exact hv
  | cons e t ih =>
    intro x hx
    rw [tput] at hx
    split at hx
    · rcases List.mem_cons.1 hx with rfl | hx
      · exact hv
      · exact h x (by simp [hx])
    · rcases List.mem_cons.1 hx with rfl | hx
      · exact h _ (by simp)
      · exact ih (fun x hx => h x (by simp [hx])) x hx
theorem tPos_side {f : Fmt} {s p : Pr} {now : Stn} {t : Tb} (ho : tOk t) (h : tPos t) (hn : 1 ≤ now.1 ∧ now.1 ≤ 1000000000001) : ∀ k, tPos (sideTo f s p now t k)
  | 0 => h
  | k + 1 => by
    have ih := tPos_side (f := f) (s := s) (p := p) ho h hn k
    have ha := tOk_at (tOk_side (f := f) (s := s) (p := p) ho (now := now) (by omega) k) (addV p k)
    exact tPos_put ih _ _ (by simp only [newS]; omega)
theorem tPos_pair {f : Fmt} {s p : Pr} {t : Tb} (ho : tOk t) (h : tPos t) : tPos (pairT f s p t) := by
  unfold pairT
  cases hb : !(tget t p).isSome || (tat t p).2
  · simp only [Bool.or_eq_false_iff, Bool.not_eq_false'] at hb
    exact tPos_side ho h ⟨tPos_get h hb.1, (tOk_at ho p).2⟩ 2
  · exact h
theorem tPos_row {f : Fmt} {s : Pr} {all : Nat} {t : Tb} (ho : tOk t) (h : tPos t) : ∀ j, tPos (rowTo f s all t j)
  | 0 => h
  | j + 1 => tPos_pair (tOk_row ho j) (tPos_row ho h j)
theorem tPos_tbl (f : Fmt) (s : Pr) : ∀ k, tPos (tblTo f s k)
  | 0 => fun e he => by simp only [tblTo, List.mem_singleton] at he; subst he; decide
  | k + 1 => tPos_row (tOk_tbl f s k) (tPos_tbl f s k) _

def overV (f : Fmt) (won : Pr) : Bool := decide (max won.1 won.2 = f.sets)
structure SR where
  (won : Pr) (ord : Int) (ok : Bool)
def setSide (p : Pr) : Int := bif decide (p.1 < p.2) then 1 else 0
def setStep (tb : Pr → Tb) (f : Fmt) (r : SR) (p : Pr) : SR :=
  bif !(tget (tb (setV f r.won)) p).isSome || !(tat (tb (setV f r.won)) p).2 || overV f r.won then ⟨r.won, 0, false⟩
  else ⟨addV r.won (setSide p), bif decide (1000000000001 / r.ord < (tat (tb (setV f r.won)) p).1) then 1000000000001 else r.ord * (tat (tb (setV f r.won)) p).1, true⟩
def setsTo (tb : Pr → Tb) (f : Fmt) (l : List Pr) : Nat → SR
  | 0 => ⟨(0, 0), 1, true⟩
  | k + 1 => match l[k]? with
    | some p => bif (setsTo tb f l k).ok then setStep tb f (setsTo tb f l k) p else setsTo tb f l k
    | none => setsTo tb f l k
theorem setsTo_succ {tb : Pr → Tb} {f : Fmt} {l : List Pr} {k : Nat} {p : Pr} (hp : l[k]? = some p) (ho : (setsTo tb f l k).ok = true) : setsTo tb f l (k + 1) = setStep tb f (setsTo tb f l k) p := by rw [setsTo, hp]; simp only [ho, cond_true]
theorem setsTo_stop {tb : Pr → Tb} {f : Fmt} {l : List Pr} {j : Nat} (h : (setsTo tb f l j).ok = false) : ∀ {k : Nat}, j ≤ k → setsTo tb f l k = setsTo tb f l j
  | 0, hk => by obtain rfl : j = 0 := by omega
                rfl
  | k + 1, hk => by
    by_cases e : j = k + 1
    · subst e; rfl
    · have ih := setsTo_stop h (k := k) (by omega)
      rw [setsTo, ih]
      cases l[k]? with
      | none => rfl
      | some p => simp only [h, cond_false]
structure SZ where
  (k : Nat) (won : Pr) (ord : Int)

theorem C_rules_over (f : Fmt) (won : Pr) (w : World) : C0 Try.prog 44 [f.val, pv won] w (.bool (overV f won)) := by
  refine ⟨en Try.func44 Try.ntmps44 (St.init w) (h := fun F => ?_)⟩
  refine sq (h := ?_)
  refine rg (h := ?_)
  refine bxA (h := fun b0 => ?_)
  refine bxA (h := fun b1 => ?_)
  refine WL.y (hy := asg) (h := ?_)
  refine nl (h := ?_)
  refine q_seq (h := ?_)
  refine sq (h := ?_)
  refine rg (h := ?_)
  refine WL.y (hy := (by first | exact fa | exact faE)) (h := ?_)
  refine WL.y (hy := (by first | exact ld | exact ldE)) (h := ?_)
  refine WL.y (hy := (by first | exact fa | exact faE)) (h := ?_)
  refine WL.y (hy := (by first | exact ld | exact ldE)) (h := ?_)
  refine WL.y (hy := maxI) (h := ?_)
  refine WL.y (hy := (by first | exact fa | exact faE)) (h := ?_)
  refine WL.y (hy := (by first | exact fa | exact faE)) (h := ?_)
  refine WL.y (hy := (by first | exact ld | exact ldE)) (h := ?_)
  refine WL.y (hy := eql) (h := ?_)
  refine WL.y (hy := asg) (h := ?_)
  refine nl (h := ?_)
  refine q_seq (h := ?_)
  refine rtn (h := ?_)
  refine q_ret (hR := ?_)
  exact fun w hS => ⟨rfl, hS.sub (by repeat (first | exact SubL.nil | (apply SubL.cons; (repeat (first | exact At.here | apply At.there))) | exact SubL.refl _ | apply SubL.skip))⟩

set_option maxRecDepth 100000 in
set_option maxHeartbeats 1000000 in
theorem C_rules_sets' (tb : Pr → Tb) (f : Fmt) (l : List Pr) (hb1 : ∀ s, tOk (tb s)) (hb2 : ∀ s, tPos (tb s)) (hb3 : ∀ (s : Pr) (w : World), CR Try.prog 84 [f.val, pv s] w (fun x : Nat × Array MapEntry × Nat => MapIs x.2.1 (encT (tb s))) (fun x => .map (some x.1)) (fun x => [.obj x.1 (.map x.2.1 x.2.2)])) (hf : f.Ok) (A : Option Addr) (n c : Nat) (w : World) (h : Rd w A 2 n (encP l)) (hn : n ≤ 1000) :
    C0 Try.prog 76 [f.val, .slice A n c] w (.tuple #[pv (setsTo tb f l l.length).won, .int .i64 (setsTo tb f l l.length).ord, .bool (setsTo tb f l l.length).ok]) := by
  have hlen : l.length = n := by have := h.len; simpa [encP] using this
  refine ⟨en Try.func76 Try.ntmps76 ((St.init w).share (e := .ro A 2 n (encP l)) h rfl rfl rfl) (h := fun F => ?_)⟩
  refine sq (h := ?_)
  refine rg (h := ?_)
  refine bxA (h := fun b0 => ?_)
  refine al (h := fun b1 => ?_)
  refine WL.y (hy := asg) (h := ?_)
  refine WL.y (hy := asg) (h := ?_)
  refine nl (h := ?_)
  refine q_seq (h := ?_)
  refine sq (h := ?_)
  refine rg (h := ?_)
  refine WL.y (hy := asg) (h := ?_)
  refine nl (h := ?_)
  refine q_seq (h := ?_)
  refine sq (h := ?_)
  refine sq (h := ?_)
  refine rg (h := ?_)
  refine WL.y (hy := mv) (h := ?_)
  refine WL.y (hy := lenS) (h := ?_)
  refine WL.y (hy := mv) (h := ?_)
  refine nl (h := ?_)
  refine q_seq (h := ?_)
  refine bk (h := ?_)
  refine lp (X := SZ) (I := fun z => z.k ≤ n ∧ setsTo tb f l z.k = ⟨z.won, z.ord, true⟩ ∧ (1 ≤ z.ord ∧ z.ord ≤ 1000000000001) ∧ ((0 ≤ z.won.1 ∧ z.won.1 ≤ (z.k : Int)) ∧ 0 ≤ z.won.2 ∧ z.won.2 ≤ (z.k : Int))) (le := fun z => [(2, .pointer (some ⟨b0, 0, none⟩)), (4, .pointer (some ⟨b1, 0, none⟩)), (5, .int .i64 z.ord), (12, .slice A n c), (13, .int .i64 n), (14, .int .i64 z.k)]) (Le := fun z => [.blk b0 80 f.cells, .blk b1 26 [.int .i64 z.won.1, .int .i64 z.won.2], .ro A 2 n (encP l)]) (μ := fun z => n - z.k) ⟨0, (0, 0), 1⟩ ⟨Nat.zero_le _, rfl, by dsimp only; omega, by simp⟩ (by repeat (first | exact trivial | refine ⟨rfl, ?_⟩)) (by repeat (first | exact SubL.nil | (apply SubL.cons; (repeat (first | exact At.here | apply At.there))) | exact SubL.refl _ | apply SubL.skip)) (fun z hz => ?_)
  obtain ⟨hzk, hzr, hzo, hzw⟩ := hz
  refine sq (h := ?_)
  refine rg (h := ?_)
  refine WL.y (hy := lss) (h := ?_)
  refine nl (h := ?_)
  refine q_seq (h := ?_)
  refine sq (h := ?_)
  refine cd (by exact rfl) (fun h0 => ?_) (fun h0 => ?_)
  · skip
    have hkn : z.k < n := by simp only [decide_eq_true_eq] at h0; omega
    obtain ⟨p, hp⟩ : ∃ p, l[z.k]? = some p := ⟨_, List.getElem?_eq_getElem (by omega)⟩
    have hpe := encP_at hp
    have hstep := setsTo_succ (tb := tb) (f := f) hp (by rw [hzr])
    rw [hzr] at hstep
    have hto := tOk_at (hb1 (setV f z.won)) p
    have hSw : Sm z.won := sm_of hzw (by omega)
    refine skp (h := ?_)
    refine q_seq (h := ?_)
    refine sq (h := ?_)
    refine bk (h := ?_)
    refine sq (h := ?_)
    refine rg (h := ?_)
    refine WL.y (hy := ix (hb := by omega)) (h := ?_)
    refine WL.y (hy := ldEW (k := z.k) (hk := hpe)) (h := ?_)
    refine al (h := fun b2 => ?_)
    first | refine stA (h := ?_) | refine stEA (h := ?_)
    refine nl (h := ?_)
    refine q_seq (h := ?_)
    refine ct (X := Nat) (fun _ => True) (fun x => [(2, .pointer (some ⟨b0, 0, none⟩)), (4, .pointer (some ⟨b1, 0, none⟩)), (8, .pointer (some ⟨b2, 0, none⟩)), (5, .int .i64 z.ord), (12, .slice A n c), (13, .int .i64 n), (14, .int .i64 z.k), (9, .pointer (some ⟨x, 0, none⟩)), (10, .bool (tget (tb (setV f z.won)) p).isSome)]) (fun x => [.blk x 140 [.int .i64 (tat (tb (setV f z.won)) p).1, .bool (tat (tb (setV f z.won)) p).2], .blk b0 80 f.cells, .blk b1 26 [.int .i64 z.won.1, .int .i64 z.won.2], .blk b2 26 [.int .i64 p.1, .int .i64 p.2], .ro A 2 n (encP l)]) (h1 := ?_) (h2 := ?_)
    · skip
      refine rgD (by kernel_rfl) [(1000000, .blk b0 80 f.cells), (1000000, .blk b1 26 [.int .i64 z.won.1, .int .i64 z.won.2]), (1000000, .blk b2 26 [.int .i64 p.1, .int .i64 p.2])] (by repeat (first | exact HS.nil | (apply HS.keep; (repeat (first | exact At.here | apply At.there))) | (apply HS.ro; (repeat (first | exact Rds.ro | exact Rds.own | apply Rds.there))))) (h := ?_)
      refine tk 0 (hy := (by first | exact ldA | exact ldEA)) (h := ?_)
      refine tk 1 (hy := (by first | exact ldA | exact ldEA)) (h := ?_)
      refine tk 2 (hy := (by first | exact ldA | exact ldEA)) (h := ?_)
      refine tk 5 (hy := (by first | exact ldA | exact ldEA)) (h := ?_)
      refine two 3 10 (h1 := ?_) (h2 := ?_)
      · skip
        refine cl0 (hc := fun w hS => C_rules_set _ _ (by assumption) w) (h := ?_)
        refine nx (h := ?_)
        refine two 4 10 (h1 := ?_) (h2 := ?_)
        · skip
          refine cl (hc := fun w hS => hb3 (setV f z.won) w) (h := fun xt hxt => ?_)
          refine nx (h := ?_)
          refine two 6 10 (h1 := ?_) (h2 := ?_)
          · skip
            refine WL.y (hy := lkC (kv := encT (tb (setV f z.won))) (hm := hxt) (hs := encT_shape _)) (h := ?_)
            rw [lkp_enc (p := p), getD_tat, isSome_enc]
            refine nx (h := ?_)
            refine tk 7 (hy := mv) (h := ?_)
            refine tk 8 (hy := ex) (h := ?_)
            refine tk 9 (hy := ex) (h := ?_)
            refine one 10 (h := ?_)
            refine al (h := fun b3 => ?_)
            refine nx (h := ?_)
            refine one 11 (h := ?_)
            first | refine stA (h := ?_) | refine stEA (h := ?_)
            refine nx (h := ?_)
            refine tk 12 (hy := asg) (h := ?_)
            refine dn (h := ?_)
            exact ctn _ trivial (by repeat (first | exact trivial | refine ⟨rfl, ?_⟩)) (by repeat (first | exact SubL.nil | (apply SubL.cons; (repeat (first | exact At.here | apply At.there))) | exact SubL.refl _ | apply SubL.skip))
          · skip
            refine al (h := fun b4 => ?_)
            refine nx (h := ?_)
            refine one 6 (h := ?_)
            refine WL.y (hy := lkC (kv := encT (tb (setV f z.won))) (hm := hxt) (hs := encT_shape _)) (h := ?_)
            rw [lkp_enc (p := p), getD_tat, isSome_enc]
            refine nx (h := ?_)
            refine tk 7 (hy := mv) (h := ?_)
            refine tk 8 (hy := ex) (h := ?_)
            refine tk 9 (hy := ex) (h := ?_)
            refine one 11 (h := ?_)
            first | refine stA (h := ?_) | refine stEA (h := ?_)
            refine nx (h := ?_)
            refine tk 12 (hy := asg) (h := ?_)
            refine dn (h := ?_)
            exact ctn _ trivial (by repeat (first | exact trivial | refine ⟨rfl, ?_⟩)) (by repeat (first | exact SubL.nil | (apply SubL.cons; (repeat (first | exact At.here | apply At.there))) | exact SubL.refl _ | apply SubL.skip))
        · skip
          refine al (h := fun b5 => ?_)
          refine nx (h := ?_)
          refine one 4 (h := ?_)
          refine cl (hc := fun w hS => hb3 (setV f z.won) w) (h := fun xt hxt => ?_)
          refine nx (h := ?_)
          refine one 6 (h := ?_)
          refine WL.y (hy := lkC (kv := encT (tb (setV f z.won))) (hm := hxt) (hs := encT_shape _)) (h := ?_)
          rw [lkp_enc (p := p), getD_tat, isSome_enc]
          refine nx (h := ?_)
          refine tk 7 (hy := mv) (h := ?_)
          refine tk 8 (hy := ex) (h := ?_)
          refine tk 9 (hy := ex) (h := ?_)
          refine one 11 (h := ?_)
          first | refine stA (h := ?_) | refine stEA (h := ?_)
          refine nx (h := ?_)
          refine tk 12 (hy := asg) (h := ?_)
          refine dn (h := ?_)
          exact ctn _ trivial (by repeat (first | exact trivial | refine ⟨rfl, ?_⟩)) (by repeat (first | exact SubL.nil | (apply SubL.cons; (repeat (first | exact At.here | apply At.there))) | exact SubL.refl _ | apply SubL.skip))
      · skip
        refine al (h := fun b6 => ?_)
        refine nx (h := ?_)
        refine one 3 (h := ?_)
        refine cl0 (hc := fun w hS => C_rules_set _ _ (by assumption) w) (h := ?_)
        refine nx (h := ?_)
        refine one 4 (h := ?_)
        refine cl (hc := fun w hS => hb3 (setV f z.won) w) (h := fun xt hxt => ?_)
        refine nx (h := ?_)
        refine one 6 (h := ?_)
        refine WL.y (hy := lkC (kv := encT (tb (setV f z.won))) (hm := hxt) (hs := encT_shape _)) (h := ?_)
        rw [lkp_enc (p := p), getD_tat, isSome_enc]
        refine nx (h := ?_)
        refine tk 7 (hy := mv) (h := ?_)
        refine tk 8 (hy := ex) (h := ?_)
        refine tk 9 (hy := ex) (h := ?_)
        refine one 11 (h := ?_)
        first | refine stA (h := ?_) | refine stEA (h := ?_)
        refine nx (h := ?_)
        refine tk 12 (hy := asg) (h := ?_)
        refine dn (h := ?_)
        exact ctn _ trivial (by repeat (first | exact trivial | refine ⟨rfl, ?_⟩)) (by repeat (first | exact SubL.nil | (apply SubL.cons; (repeat (first | exact At.here | apply At.there))) | exact SubL.refl _ | apply SubL.skip))
    rintro x9 -
    refine sq (h := ?_)
    refine sq (h := ?_)
    refine rg (h := ?_)
    refine WL.y (hy := mv) (h := ?_)
    refine WL.y (hy := notB) (h := ?_)
    refine WL.y (hy := mv) (h := ?_)
    apply brOr 4 30 34 (by exact rfl)
    · intro hb1
      refine un (h := ?_)
      refine WL.y (hy := (by first | exact fa | exact faE)) (h := ?_)
      refine un (h := ?_)
      refine WL.y (hy := (by first | exact ld | exact ldE)) (h := ?_)
      refine un (h := ?_)
      refine WL.y (hy := notB) (h := ?_)
      refine WL.y (hy := (by first | exact pkT | exact pkF)) (h := ?_)
      exact mg (by repeat (first | exact trivial | refine ⟨rfl, ?_⟩ | refine ⟨by rw [hb1]; rfl, ?_⟩)) (by repeat (first | exact SubL.nil | (apply SubL.cons; (repeat (first | exact At.here | apply At.there))) | exact SubL.refl _ | apply SubL.skip))
    · intro hb1
      repeat (first | refine un (h := ?_) | refine sk (h := ?_) | refine WL.y (hy := pkF) (h := ?_) | refine WL.y (hy := pkT) (h := ?_))
      exact mg (by repeat (first | exact trivial | refine ⟨rfl, ?_⟩ | refine ⟨by rw [hb1]; rfl, ?_⟩)) (by repeat (first | exact SubL.nil | (apply SubL.cons; (repeat (first | exact At.here | apply At.there))) | exact SubL.refl _ | apply SubL.skip))
    refine WL.y (hy := mv) (h := ?_)
    apply brOr 4 35 39 (by exact rfl)
    · intro hb2
      refine un (h := ?_)
      refine WL.y (hy := (by first | exact ldA | exact ldEA)) (h := ?_)
      refine un (h := ?_)
      refine WL.y (hy := (by first | exact ldA | exact ldEA)) (h := ?_)
      refine un (h := ?_)
      refine cl0 (hc := fun w hS => C_rules_over _ _ w) (h := ?_)
      refine WL.y (hy := (by first | exact pkT | exact pkF)) (h := ?_)
      exact mg (by repeat (first | exact trivial | refine ⟨rfl, ?_⟩ | refine ⟨by rw [hb2]; rfl, ?_⟩)) (by repeat (first | exact SubL.nil | (apply SubL.cons; (repeat (first | exact At.here | apply At.there))) | exact SubL.refl _ | apply SubL.skip))
    · intro hb2
      repeat (first | refine un (h := ?_) | refine sk (h := ?_) | refine WL.y (hy := pkF) (h := ?_) | refine WL.y (hy := pkT) (h := ?_))
      exact mg (by repeat (first | exact trivial | refine ⟨rfl, ?_⟩ | refine ⟨by rw [hb2]; rfl, ?_⟩)) (by repeat (first | exact SubL.nil | (apply SubL.cons; (repeat (first | exact At.here | apply At.there))) | exact SubL.refl _ | apply SubL.skip))
    refine nl (h := ?_)
    refine q_seq (h := ?_)
    refine cd (by exact rfl) (fun h3 => ?_) (fun h3 => ?_)
    · skip
      have hfin : setsTo tb f l l.length = ⟨z.won, 0, false⟩ := by
        have h' : (!(tget (tb (setV f z.won)) p).isSome || !(tat (tb (setV f z.won)) p).2 || overV f z.won) = true := h3
        have hs : setsTo tb f l (z.k + 1) = ⟨z.won, 0, false⟩ := by rw [hstep, setStep]; dsimp only; rw [h']; rfl
        rw [setsTo_stop (j := z.k + 1) (by rw [hs]) (by omega), hs]
      refine sq (h := ?_)
      refine rg (h := ?_)
      refine WL.y (hy := (by first | exact ldA | exact ldEA)) (h := ?_)
      first | refine stA (h := ?_) | refine stEA (h := ?_)
      refine WL.y (hy := asg) (h := ?_)
      refine WL.y (hy := asg) (h := ?_)
      refine nl (h := ?_)
      refine q_seq (h := ?_)
      refine rtn (h := ?_)
      refine q_then_ret (h := ?_)
      refine q_blk_ret (h := ?_)
      refine q_then_ret (h := ?_)
      refine q_then_ret (h := ?_)
      refine q_blk_ret (h := ?_)
      refine q_then_ret (h := ?_)
      refine q_ret (hR := ?_)
      rw [hfin]
      exact fun w hS => ⟨rfl, hS.sub (by repeat (first | exact SubL.nil | (apply SubL.cons; (repeat (first | exact At.here | apply At.there))) | exact SubL.refl _ | apply SubL.skip))⟩
    · skip
      have h' : (!(tget (tb (setV f z.won)) p).isSome || !(tat (tb (setV f z.won)) p).2 || overV f z.won) = false := h3
      have hsome : (tget (tb (setV f z.won)) p).isSome = true := by simp only [Bool.or_eq_false_iff, Bool.not_eq_false'] at h'; exact h'.1.1
      have hpos : 1 ≤ (tat (tb (setV f z.won)) p).1 := tPos_get (hb2 _) hsome
      refine skp (h := ?_)
      refine q_seq (h := ?_)
      refine sq (h := ?_)
      refine sq (h := ?_)
      refine rgD0 (by kernel_rfl) (h := ?_)
      refine tk 0 (hy := (by first | exact fa | exact faE)) (h := ?_)
      refine tk 1 (hy := (by first | exact ld | exact ldE)) (h := ?_)
      refine tk 2 (hy := mv) (h := ?_)
      refine tk 3 (hy := quoI) (h := ?_)
      refine tk 4 (hy := gtr) (h := ?_)
      refine dn (h := ?_)
      refine q_seq (h := ?_)
      refine cd (by exact rfl) (fun h4 => ?_) (fun h4 => ?_)
      · skip
        have hord : (bif decide (1000000000001 / z.ord < (tat (tb (setV f z.won)) p).1) then 1000000000001 else z.ord * (tat (tb (setV f z.won)) p).1) = 1000000000001 := by rw [h4]; rfl
        have hob : (1 : Int) ≤ 1000000000001 ∧ (1000000000001 : Int) ≤ 1000000000001 := by omega
        refine rg (h := ?_)
        refine WL.y (hy := asg) (h := ?_)
        refine nl (h := ?_)
        refine q_seq (h := ?_)
        refine sq (h := ?_)
        refine rg (h := ?_)
        refine WL.y (hy := asg) (h := ?_)
        refine nl (h := ?_)
        refine q_seq (h := ?_)
        refine sq (h := ?_)
        refine sq (h := ?_)
        refine rg (h := ?_)
        refine WL.y (hy := (by first | exact fa | exact faE)) (h := ?_)
        refine WL.y (hy := (by first | exact ld | exact ldE)) (h := ?_)
        refine WL.y (hy := (by first | exact fa | exact faE)) (h := ?_)
        refine WL.y (hy := (by first | exact ld | exact ldE)) (h := ?_)
        refine WL.y (hy := gtr) (h := ?_)
        refine nl (h := ?_)
        refine q_seq (h := ?_)
        refine cd (by exact rfl) (fun h5 => ?_) (fun h5 => ?_)
        · skip
          have hsd : setSide p = 1 := by rw [setSide, h5]; rfl
          refine rg (h := ?_)
          refine WL.y (hy := asg) (h := ?_)
          refine nl (h := ?_)
          refine q_seq (h := ?_)
          refine rg (h := ?_)
          refine WL.y (hy := (by first | exact ldA | exact ldEA)) (h := ?_)
          refine WL.y (hy := mv) (h := ?_)
          refine cl0 (hc := fun w hS => C_score_add _ _ (by assumption) w) (h := ?_)
          first | refine stA (h := ?_) | refine stEA (h := ?_)
          refine nl (h := ?_)
          refine q_blk_norm (h := ?_)
          refine q_seq (h := ?_)
          refine rg (h := ?_)
          refine WL.y (hy := addI) (h := ?_)
          refine WL.y (hy := mv) (h := ?_)
          refine nl (h := ?_)
          refine rn (x := z) ⟨z.k + 1, addV z.won (setSide p), _⟩ ⟨by dsimp only; omega, by rw [hstep, setStep]; dsimp only; rw [h', hord]; rfl, hob, by have := addV_bd (side := setSide p) hzw; simpa using this⟩ (by dsimp only; omega) (by repeat (first | exact trivial | refine ⟨rfl, ?_⟩)) (by (try dsimp only); rw [hsd]; repeat (first | exact SubL.nil | (apply SubL.cons; (repeat (first | exact At.here | apply At.there)))))
        · skip
          have hsd : setSide p = 0 := by rw [setSide, h5]; rfl
          refine skp (h := ?_)
          refine q_seq (h := ?_)
          refine rg (h := ?_)
          refine WL.y (hy := (by first | exact ldA | exact ldEA)) (h := ?_)
          refine WL.y (hy := mv) (h := ?_)
          refine cl0 (hc := fun w hS => C_score_add _ _ (by assumption) w) (h := ?_)
          first | refine stA (h := ?_) | refine stEA (h := ?_)
          refine nl (h := ?_)
          refine q_blk_norm (h := ?_)
          refine q_seq (h := ?_)
          refine rg (h := ?_)
          refine WL.y (hy := addI) (h := ?_)
          refine WL.y (hy := mv) (h := ?_)
          refine nl (h := ?_)
          refine rn (x := z) ⟨z.k + 1, addV z.won (setSide p), _⟩ ⟨by dsimp only; omega, by rw [hstep, setStep]; dsimp only; rw [h', hord]; rfl, hob, by have := addV_bd (side := setSide p) hzw; simpa using this⟩ (by dsimp only; omega) (by repeat (first | exact trivial | refine ⟨rfl, ?_⟩)) (by (try dsimp only); rw [hsd]; repeat (first | exact SubL.nil | (apply SubL.cons; (repeat (first | exact At.here | apply At.there)))))
      · skip
        have hord : (bif decide (1000000000001 / z.ord < (tat (tb (setV f z.won)) p).1) then 1000000000001 else z.ord * (tat (tb (setV f z.won)) p).1) = z.ord * (tat (tb (setV f z.won)) p).1 := by rw [h4]; rfl
        have hob : 1 ≤ z.ord * (tat (tb (setV f z.won)) p).1 ∧ z.ord * (tat (tb (setV f z.won)) p).1 ≤ 1000000000001 := by
          have h1 : (tat (tb (setV f z.won)) p).1 ≤ 1000000000001 / z.ord := by simpa using h4
          have h2 := (Int.le_ediv_iff_mul_le (by omega : (0 : Int) < z.ord)).1 h1
          rw [Int.mul_comm] at h2
          exact ⟨Int.mul_pos (by omega) (by omega), h2⟩
        refine rg (h := ?_)
        refine WL.y (hy := mv) (h := ?_)
        refine WL.y (hy := (by first | exact fa | exact faE)) (h := ?_)
        refine WL.y (hy := (by first | exact ld | exact ldE)) (h := ?_)
        refine WL.y (hy := mulI) (h := ?_)
        refine WL.y (hy := asg) (h := ?_)
        refine nl (h := ?_)
        refine q_seq (h := ?_)
        refine sq (h := ?_)
        refine rg (h := ?_)
        refine WL.y (hy := asg) (h := ?_)
        refine nl (h := ?_)
        refine q_seq (h := ?_)
        refine sq (h := ?_)
        refine sq (h := ?_)
        refine rg (h := ?_)
        refine WL.y (hy := (by first | exact fa | exact faE)) (h := ?_)
        refine WL.y (hy := (by first | exact ld | exact ldE)) (h := ?_)
        refine WL.y (hy := (by first | exact fa | exact faE)) (h := ?_)
        refine WL.y (hy := (by first | exact ld | exact ldE)) (h := ?_)
        refine WL.y (hy := gtr) (h := ?_)
        refine nl (h := ?_)
        refine q_seq (h := ?_)
        refine cd (by exact rfl) (fun h6 => ?_) (fun h6 => ?_)
        · skip
          have hsd : setSide p = 1 := by rw [setSide, h6]; rfl
          refine rg (h := ?_)
          refine WL.y (hy := asg) (h := ?_)
          refine nl (h := ?_)
          refine q_seq (h := ?_)
          refine rg (h := ?_)
          refine WL.y (hy := (by first | exact ldA | exact ldEA)) (h := ?_)
          refine WL.y (hy := mv) (h := ?_)
          refine cl0 (hc := fun w hS => C_score_add _ _ (by assumption) w) (h := ?_)
          first | refine stA (h := ?_) | refine stEA (h := ?_)
          refine nl (h := ?_)
          refine q_blk_norm (h := ?_)
          refine q_seq (h := ?_)
          refine rg (h := ?_)
          refine WL.y (hy := addI) (h := ?_)
          refine WL.y (hy := mv) (h := ?_)
          refine nl (h := ?_)
          refine rn (x := z) ⟨z.k + 1, addV z.won (setSide p), _⟩ ⟨by dsimp only; omega, by rw [hstep, setStep]; dsimp only; rw [h', hord]; rfl, hob, by have := addV_bd (side := setSide p) hzw; simpa using this⟩ (by dsimp only; omega) (by repeat (first | exact trivial | refine ⟨rfl, ?_⟩)) (by (try dsimp only); rw [hsd]; repeat (first | exact SubL.nil | (apply SubL.cons; (repeat (first | exact At.here | apply At.there)))))
        · skip
          have hsd : setSide p = 0 := by rw [setSide, h6]; rfl
          refine skp (h := ?_)
          refine q_seq (h := ?_)
          refine rg (h := ?_)
          refine WL.y (hy := (by first | exact ldA | exact ldEA)) (h := ?_)
          refine WL.y (hy := mv) (h := ?_)
          refine cl0 (hc := fun w hS => C_score_add _ _ (by assumption) w) (h := ?_)
          first | refine stA (h := ?_) | refine stEA (h := ?_)
          refine nl (h := ?_)
          refine q_blk_norm (h := ?_)
          refine q_seq (h := ?_)
          refine rg (h := ?_)
          refine WL.y (hy := addI) (h := ?_)
          refine WL.y (hy := mv) (h := ?_)
          refine nl (h := ?_)
          refine rn (x := z) ⟨z.k + 1, addV z.won (setSide p), _⟩ ⟨by dsimp only; omega, by rw [hstep, setStep]; dsimp only; rw [h', hord]; rfl, hob, by have := addV_bd (side := setSide p) hzw; simpa using this⟩ (by dsimp only; omega) (by repeat (first | exact trivial | refine ⟨rfl, ?_⟩)) (by (try dsimp only); rw [hsd]; repeat (first | exact SubL.nil | (apply SubL.cons; (repeat (first | exact At.here | apply At.there)))))
  · skip
    have hkn : z.k = n := by simp only [decide_eq_false_iff_not] at h0; omega
    have hfin : setsTo tb f l l.length = ⟨z.won, z.ord, true⟩ := by rw [hlen, ← hkn]; exact hzr
    refine et (h := ?_)
    refine q_then_exit (h := ?_)
    refine q_then_exit (h := ?_)
    refine q_blk_hit (h := ?_)
    refine q_seq (h := ?_)
    refine sq (h := ?_)
    refine rg (h := ?_)
    refine WL.y (hy := (by first | exact ldA | exact ldEA)) (h := ?_)
    refine WL.y (hy := mv) (h := ?_)
    first | refine stA (h := ?_) | refine stEA (h := ?_)
    refine WL.y (hy := asg) (h := ?_)
    refine WL.y (hy := asg) (h := ?_)
    refine nl (h := ?_)
    refine q_seq (h := ?_)
    refine rtn (h := ?_)
    refine q_ret (hR := ?_)
    rw [hfin]
    exact fun w hS => ⟨rfl, hS.sub (by repeat (first | exact SubL.nil | (apply SubL.cons; (repeat (first | exact At.here | apply At.there))) | exact SubL.refl _ | apply SubL.skip))⟩
theorem tOk_table (f : Fmt) (s : Pr) : tOk (tableV f s) := tOk_tbl f s 82
theorem tPos_table (f : Fmt) (s : Pr) : tPos (tableV f s) := tPos_tbl f s 82
end Go.Proofs.Ytacaojifempclaa

namespace Go.Proofs.Ytacaojifempclaa
open Go Go.RowKit

theorem brd_len {b : Brd} (h : brdOk b = true) : b.st.length ≤ 5 := by
  simp only [brdOk, Bool.and_eq_true, decide_eq_true_eq] at h
  omega
theorem brd_fit {b : Brd} (h : brdOk b = true) : ∀ p ∈ b.all, (0 ≤ p.1 ∧ p.1 ≤ 40) ∧ 0 ≤ p.2 ∧ p.2 ≤ 40 := fun p hp => by
  simp only [brdOk, Bool.and_eq_true, Bool.not_eq_true', List.any_eq_false] at h
  have := h.2 p hp
  have h2 : fitP p = true := by simpa using this
  simp only [fitP, Bool.and_eq_true, wi_iff] at h2
  exact h2

end Go.Proofs.Ytacaojifempclaa

namespace Go.Proofs.Ytacaojifempclaa
open Go Go.RowKit

def isZ (p : Pr) : Bool := decide ([p.1, p.2] = [(0 : Int), 0])
def befV (f : Fmt) (s : Pr) (tie : Bool) (p : Pr) : Bool := decide (0 ≤ min p.1 p.2) && decide (gameV f s tie p < 0)
def arisesT (tb : Pr → Tb) (f : Fmt) (b : Brd) : Pr × Bool :=
  bif !(setsTo tb f b.st b.st.length).ok then ((setsTo tb f b.st b.st.length).won, false)
  else bif overV f (setsTo tb f b.st b.st.length).won then ((setsTo tb f b.st b.st.length).won, isZ b.g && isZ b.p)
  else bif !(tget (tb (setV f (setsTo tb f b.st b.st.length).won)) b.g).isSome || (tat (tb (setV f (setsTo tb f b.st b.st.length).won)) b.g).2 then ((setsTo tb f b.st b.st.length).won, false)
  else bif isZ b.p then ((setsTo tb f b.st b.st.length).won, true)
  else ((setsTo tb f b.st b.st.length).won, (befV f (setV f (setsTo tb f b.st b.st.length).won) (brksV (setV f (setsTo tb f b.st b.st.length).won) b.g) (b.p.1 - 1, b.p.2) || befV f (setV f (setsTo tb f b.st b.st.length).won) (brksV (setV f (setsTo tb f b.st b.st.length).won) b.g) (b.p.1, b.p.2 - 1)) && befV f (setV f (setsTo tb f b.st b.st.length).won) (brksV (setV f (setsTo tb f b.st b.st.length).won) b.g) b.p)
def arisesV (f : Fmt) (b : Brd) : Pr × Bool := arisesT (tableV f) f b

theorem T_arises1 (f : Fmt) (s : Pr) (tie : Bool) (p : Pr) (hp : Sm p) (a0 a1 a2 : Nat) :
    Tr Try.prog 86 [pv p, .pointer (some ⟨a0, 0, none⟩), .pointer (some ⟨a1, 0, none⟩), .pointer (some ⟨a2, 0, none⟩)] [.blk a0 80 f.cells, .blk a1 137 [.int .i64 s.1, .int .i64 s.2], .blk a2 4 [.bool tie]] (fun _ : Unit => True) (fun _ => .bool (befV f s tie p)) (fun _ => [.blk a0 80 f.cells, .blk a1 137 [.int .i64 s.1, .int .i64 s.2], .blk a2 4 [.bool tie]]) := by
  refine ⟨fun w0 w R hst => ?_⟩
  refine en Try.func86 Try.ntmps86 hst (h := fun F => ?_)
  refine sq (h := ?_)
  refine rg (h := ?_)
  refine bxA (h := fun b0 => ?_)
  refine WL.y (hy := asg) (h := ?_)
  refine nl (h := ?_)
  refine q_seq (h := ?_)
  refine sq (h := ?_)
  refine rg (h := ?_)
  refine WL.y (hy := (by first | exact fa | exact faE)) (h := ?_)
  refine WL.y (hy := (by first | exact ld | exact ldE)) (h := ?_)
  refine WL.y (hy := (by first | exact fa | exact faE)) (h := ?_)
  refine WL.y (hy := (by first | exact ld | exact ldE)) (h := ?_)
  refine WL.y (hy := minI) (h := ?_)
  refine WL.y (hy := geq) (h := ?_)
  refine WL.y (hy := mv) (h := ?_)
  apply brAnd 7 12 19 (by exact rfl)
  · intro hb0
    refine un (h := ?_)
    refine WL.y (hy := (by first | exact ldA | exact ldEA)) (h := ?_)
    refine un (h := ?_)
    refine WL.y (hy := (by first | exact ldA | exact ldEA)) (h := ?_)
    refine un (h := ?_)
    refine WL.y (hy := (by first | exact ld | exact ldE)) (h := ?_)
    refine un (h := ?_)
    refine WL.y (hy := (by first | exact ldA | exact ldEA)) (h := ?_)
    refine un (h := ?_)
    refine cl0 (hc := fun w hS => C_rules_game f s tie p hp w) (h := ?_)
    refine un (h := ?_)
    refine WL.y (hy := lss) (h := ?_)
    refine WL.y (hy := (by first | exact pkT | exact pkF)) (h := ?_)
    exact mg (by repeat (first | exact trivial | refine ⟨rfl, ?_⟩ | refine ⟨by rw [hb0]; rfl, ?_⟩)) (by repeat (first | exact SubL.nil | (apply SubL.cons; (repeat (first | exact At.here | apply At.there))) | exact SubL.refl _ | apply SubL.skip))
  · intro hb0
    repeat (first | refine un (h := ?_) | refine sk (h := ?_) | refine WL.y (hy := pkF) (h := ?_) | refine WL.y (hy := pkT) (h := ?_))
    exact mg (by repeat (first | exact trivial | refine ⟨rfl, ?_⟩ | refine ⟨by rw [hb0]; rfl, ?_⟩)) (by repeat (first | exact SubL.nil | (apply SubL.cons; (repeat (first | exact At.here | apply At.there))) | exact SubL.refl _ | apply SubL.skip))
  refine WL.y (hy := asg) (h := ?_)
  refine nl (h := ?_)
  refine q_seq (h := ?_)
  refine rtn (h := ?_)
  refine q_ret (hR := ?_)
  exact fun w hS => ⟨(), trivial, rfl, hS.sub (by repeat (first | exact SubL.nil | (apply SubL.cons; (repeat (first | exact At.here | apply At.there))) | exact SubL.refl _ | apply SubL.skip))⟩

set_option maxRecDepth 100000 in
set_option maxHeartbeats 2000000 in
theorem C_rules_arises' (tb : Pr → Tb) (f : Fmt) (b : Brd) (hb1 : ∀ s, tOk (tb s)) (hb2 : ∀ s, tPos (tb s)) (hb3 : ∀ (s : Pr) (w : World), CR Try.prog 84 [f.val, pv s] w (fun x : Nat × Array MapEntry × Nat => MapIs x.2.1 (encT (tb s))) (fun x => .map (some x.1)) (fun x => [.obj x.1 (.map x.2.1 x.2.2)])) (hf : f.Ok) (hbp : (0 ≤ b.p.1 ∧ b.p.1 ≤ 1000) ∧ 0 ≤ b.p.2 ∧ b.p.2 ≤ 1000) (A : Option Addr) (n c : Nat) (w : World) (h : Rd w A 2 n (encP b.st)) (hn : n ≤ 1000) :
    C0 Try.prog 40 [f.val, b.val A n c] w (.tuple #[pv (arisesT tb f b).1, .bool (arisesT tb f b).2]) := by
  have hSp : Sm b.p := sm_of hbp (by omega)
  have hSp1 : Sm (b.p.1 - 1, b.p.2) := ⟨by dsimp only; omega, by dsimp only; omega⟩
  have hSp2 : Sm (b.p.1, b.p.2 - 1) := ⟨by dsimp only; omega, by dsimp only; omega⟩
  obtain ⟨r, hr⟩ : ∃ r, r = setsTo tb f b.st b.st.length := ⟨_, rfl⟩
  unfold arisesT
  rw [← hr]
  refine ⟨en Try.func40 Try.ntmps40 ((St.init w).share (e := .ro A 2 n (encP b.st)) h rfl rfl rfl) (h := fun F => ?_)⟩
  refine sq (h := ?_)
  refine rg (h := ?_)
  refine bxA (h := fun b0 => ?_)
  refine bxA (h := fun b1 => ?_)
  refine al (h := fun b2 => ?_)
  refine WL.y (hy := asg) (h := ?_)
  refine nl (h := ?_)
  refine q_seq (h := ?_)
  refine sq (h := ?_)
  refine rg (h := ?_)
  refine WL.y (hy := (by first | exact ldA | exact ldEA)) (h := ?_)
  refine WL.y (hy := (by first | exact fa | exact faE)) (h := ?_)
  refine WL.y (hy := (by first | exact ld | exact ldE)) (h := ?_)
  refine cl0 (hc := fun w hS => C_rules_sets' tb f b.st hb1 hb2 hb3 hf A n c w (hS.get (by repeat (first | exact Rds.ro | exact Rds.own | apply Rds.there))) hn) (h := ?_)
  rw [← hr]
  refine WL.y (hy := mv) (h := ?_)
  refine WL.y (hy := ex) (h := ?_)
  refine WL.y (hy := ex) (h := ?_)
  refine WL.y (hy := ex) (h := ?_)
  first | refine stA (h := ?_) | refine stEA (h := ?_)
  refine WL.y (hy := asg) (h := ?_)
  refine nl (h := ?_)
  refine q_seq (h := ?_)
  refine sq (h := ?_)
  refine sq (h := ?_)
  refine rg (h := ?_)
  refine WL.y (hy := mv) (h := ?_)
  refine WL.y (hy := notB) (h := ?_)
  refine nl (h := ?_)
  refine q_seq (h := ?_)
  refine cd (by exact rfl) (fun h0 => ?_) (fun h0 => ?_)
  · skip
    refine sq (h := ?_)
    refine rg (h := ?_)
    refine WL.y (hy := (by first | exact ldA | exact ldEA)) (h := ?_)
    first | refine stA (h := ?_) | refine stEA (h := ?_)
    refine WL.y (hy := asg) (h := ?_)
    refine nl (h := ?_)
    refine q_seq (h := ?_)
    refine rtn (h := ?_)
    refine q_then_ret (h := ?_)
    refine q_ret (hR := ?_)
    exact fun w hS => ⟨by rw [h0]; rfl, hS.sub (by repeat (first | exact SubL.nil | (apply SubL.cons; (repeat (first | exact At.here | apply At.there))) | exact SubL.refl _ | apply SubL.skip))⟩
  · skip
    have kA : (!r.ok) = false := h0
    refine skp (h := ?_)
    refine q_seq (h := ?_)
    refine sq (h := ?_)
    refine sq (h := ?_)
    refine rg (h := ?_)
    refine WL.y (hy := (by first | exact ldA | exact ldEA)) (h := ?_)
    refine WL.y (hy := (by first | exact ldA | exact ldEA)) (h := ?_)
    refine cl0 (hc := fun w hS => C_rules_over _ _ w) (h := ?_)
    refine nl (h := ?_)
    refine q_seq (h := ?_)
    refine cd (by exact rfl) (fun h1 => ?_) (fun h1 => ?_)
    · skip
      have kB : overV f r.won = true := h1
      refine sq (h := ?_)
      refine rgD (by kernel_rfl) [(11, .blk b2 26 [.int .i64 r.won.1, .int .i64 r.won.2]), (1000000, .blk b1 28 (b.cells A n c))] (by repeat (first | exact HS.nil | (apply HS.keep; (repeat (first | exact At.here | apply At.there))) | (apply HS.ro; (repeat (first | exact Rds.ro | exact Rds.own | apply Rds.there))))) (h := ?_)
      refine tk 0 (hy := (by first | exact ldA | exact ldEA)) (h := ?_)
      refine tk 1 (hy := (by first | exact fa | exact faE)) (h := ?_)
      refine tk 2 (hy := (by first | exact ldA | exact ldEA)) (h := ?_)
      refine tk 3 (hy := bd) (h := ?_)
      refine tk 4 (hy := eqlT) (h := ?_)
      refine tk 5 (hy := mv) (h := ?_)
      refine brH (g := 32) (by exact rfl) (fun hb2 => ?_) (fun hb2 => ?_)
      · skip
        have kZ : isZ b.g = true := hb2
        refine tk 6 (hy := (by first | exact fa | exact faE)) (h := ?_)
        refine tk 7 (hy := (by first | exact ldA | exact ldEA)) (h := ?_)
        refine tk 8 (hy := bd) (h := ?_)
        refine tk 9 (hy := eqlT) (h := ?_)
        refine tk 10 (hy := (by first | exact pkT | exact pkF)) (h := ?_)
        refine one 11 (h := ?_)
        first | refine stA (h := ?_) | refine stEA (h := ?_)
        refine nx (h := ?_)
        refine tk 12 (hy := asg) (h := ?_)
        refine dn (h := ?_)
        refine q_seq (h := ?_)
        refine rtn (h := ?_)
        refine q_then_ret (h := ?_)
        refine q_ret (hR := ?_)
        first
          | (rw [kA, kB, kC, kD, kE]; exact fun w hS => ⟨rfl, hS.sub (by repeat (first | exact SubL.nil | (apply SubL.cons; (repeat (first | exact At.here | apply At.there))) | exact SubL.refl _ | apply SubL.skip))⟩)
          | (rw [kA, kB, kC, kD]; exact fun w hS => ⟨rfl, hS.sub (by repeat (first | exact SubL.nil | (apply SubL.cons; (repeat (first | exact At.here | apply At.there))) | exact SubL.refl _ | apply SubL.skip))⟩)
          | (rw [kA, kB, kC]; exact fun w hS => ⟨rfl, hS.sub (by repeat (first | exact SubL.nil | (apply SubL.cons; (repeat (first | exact At.here | apply At.there))) | exact SubL.refl _ | apply SubL.skip))⟩)
          | (rw [kA, kB, kZ]; exact fun w hS => ⟨rfl, hS.sub (by repeat (first | exact SubL.nil | (apply SubL.cons; (repeat (first | exact At.here | apply At.there))) | exact SubL.refl _ | apply SubL.skip))⟩)
      · skip
        have kZ : isZ b.g = false := hb2
        refine tkS 6 (h := ?_)
        refine tkS 7 (h := ?_)
        refine tkS 8 (h := ?_)
        refine tkS 9 (h := ?_)
        refine tk 10 (hy := (by first | exact pkT | exact pkF)) (h := ?_)
        refine one 11 (h := ?_)
        first | refine stA (h := ?_) | refine stEA (h := ?_)
        refine nx (h := ?_)
        refine tk 12 (hy := asg) (h := ?_)
        refine dn (h := ?_)
        refine q_seq (h := ?_)
        refine rtn (h := ?_)
        refine q_then_ret (h := ?_)
        refine q_ret (hR := ?_)
        first
          | (rw [kA, kB, kC, kD, kE]; exact fun w hS => ⟨rfl, hS.sub (by repeat (first | exact SubL.nil | (apply SubL.cons; (repeat (first | exact At.here | apply At.there))) | exact SubL.refl _ | apply SubL.skip))⟩)
          | (rw [kA, kB, kC, kD]; exact fun w hS => ⟨rfl, hS.sub (by repeat (first | exact SubL.nil | (apply SubL.cons; (repeat (first | exact At.here | apply At.there))) | exact SubL.refl _ | apply SubL.skip))⟩)
          | (rw [kA, kB, kC]; exact fun w hS => ⟨rfl, hS.sub (by repeat (first | exact SubL.nil | (apply SubL.cons; (repeat (first | exact At.here | apply At.there))) | exact SubL.refl _ | apply SubL.skip))⟩)
          | (rw [kA, kB, kZ]; exact fun w hS => ⟨rfl, hS.sub (by repeat (first | exact SubL.nil | (apply SubL.cons; (repeat (first | exact At.here | apply At.there))) | exact SubL.refl _ | apply SubL.skip))⟩)
    · skip
      have kB : overV f r.won = false := h1
      refine skp (h := ?_)
      refine q_seq (h := ?_)
      refine sq (h := ?_)
      refine rg (h := ?_)
      refine WL.y (hy := (by first | exact ldA | exact ldEA)) (h := ?_)
      refine WL.y (hy := (by first | exact ldA | exact ldEA)) (h := ?_)
      refine cl0 (hc := fun w hS => C_rules_set _ _ (by assumption) w) (h := ?_)
      refine al (h := fun b3 => ?_)
      first | refine stA (h := ?_) | refine stEA (h := ?_)
      refine nl (h := ?_)
      refine q_seq (h := ?_)
      refine ct (X := Nat) (fun _ => True) (fun x => [(2, .pointer (some ⟨b0, 0, none⟩)), (3, .pointer (some ⟨b1, 0, none⟩)), (4, .pointer (some ⟨b2, 0, none⟩)), (6, .pointer (some ⟨b3, 0, none⟩)), (7, .pointer (some ⟨x, 0, none⟩)), (8, .bool (tget (tb (setV f r.won)) b.g).isSome)]) (fun x => [.blk x 140 [.int .i64 (tat (tb (setV f r.won)) b.g).1, .bool (tat (tb (setV f r.won)) b.g).2], .blk b0 80 f.cells, .blk b1 28 (b.cells A n c), .blk b2 26 [.int .i64 r.won.1, .int .i64 r.won.2], .blk b3 137 [.int .i64 (setV f r.won).1, .int .i64 (setV f r.won).2]]) (h1 := ?_) (h2 := ?_)
      · skip
        refine rgD (by kernel_rfl) [(1000000, .blk b0 80 f.cells), (1000000, .blk b3 137 [.int .i64 (setV f r.won).1, .int .i64 (setV f r.won).2]), (1000000, .blk b1 28 (b.cells A n c))] (by repeat (first | exact HS.nil | (apply HS.keep; (repeat (first | exact At.here | apply At.there))) | (apply HS.ro; (repeat (first | exact Rds.ro | exact Rds.own | apply Rds.there))))) (h := ?_)
        refine tk 0 (hy := (by first | exact ldA | exact ldEA)) (h := ?_)
        refine tk 1 (hy := (by first | exact ldA | exact ldEA)) (h := ?_)
        refine tk 3 (hy := (by first | exact fa | exact faE)) (h := ?_)
        refine tk 4 (hy := (by first | exact ldA | exact ldEA)) (h := ?_)
        refine two 2 9 (h1 := ?_) (h2 := ?_)
        · skip
          refine cl (hc := fun w hS => hb3 (setV f r.won) w) (h := fun xt hxt => ?_)
          refine nx (h := ?_)
          refine two 5 9 (h1 := ?_) (h2 := ?_)
          · skip
            refine WL.y (hy := lkC (kv := encT (tb (setV f r.won))) (hm := hxt) (hs := encT_shape _)) (h := ?_)
            rw [lkp_enc (p := b.g), getD_tat, isSome_enc]
            refine nx (h := ?_)
            refine tk 6 (hy := mv) (h := ?_)
            refine tk 7 (hy := ex) (h := ?_)
            refine tk 8 (hy := ex) (h := ?_)
            refine one 9 (h := ?_)
            refine al (h := fun b4 => ?_)
            refine nx (h := ?_)
            refine one 10 (h := ?_)
            first | refine stA (h := ?_) | refine stEA (h := ?_)
            refine nx (h := ?_)
            refine tk 11 (hy := asg) (h := ?_)
            refine dn (h := ?_)
            exact ctn _ trivial (by repeat (first | exact trivial | refine ⟨rfl, ?_⟩)) (by repeat (first | exact SubL.nil | (apply SubL.cons; (repeat (first | exact At.here | apply At.there))) | exact SubL.refl _ | apply SubL.skip))
          · skip
            refine al (h := fun b5 => ?_)
            refine nx (h := ?_)
            refine one 5 (h := ?_)
            refine WL.y (hy := lkC (kv := encT (tb (setV f r.won))) (hm := hxt) (hs := encT_shape _)) (h := ?_)
            rw [lkp_enc (p := b.g), getD_tat, isSome_enc]
            refine nx (h := ?_)
            refine tk 6 (hy := mv) (h := ?_)
            refine tk 7 (hy := ex) (h := ?_)
            refine tk 8 (hy := ex) (h := ?_)
            refine one 10 (h := ?_)
            first | refine stA (h := ?_) | refine stEA (h := ?_)
            refine nx (h := ?_)
            refine tk 11 (hy := asg) (h := ?_)
            refine dn (h := ?_)
            exact ctn _ trivial (by repeat (first | exact trivial | refine ⟨rfl, ?_⟩)) (by repeat (first | exact SubL.nil | (apply SubL.cons; (repeat (first | exact At.here | apply At.there))) | exact SubL.refl _ | apply SubL.skip))
        · skip
          refine al (h := fun b6 => ?_)
          refine nx (h := ?_)
          refine one 2 (h := ?_)
          refine cl (hc := fun w hS => hb3 (setV f r.won) w) (h := fun xt hxt => ?_)
          refine nx (h := ?_)
          refine one 5 (h := ?_)
          refine WL.y (hy := lkC (kv := encT (tb (setV f r.won))) (hm := hxt) (hs := encT_shape _)) (h := ?_)
          rw [lkp_enc (p := b.g), getD_tat, isSome_enc]
          refine nx (h := ?_)
          refine tk 6 (hy := mv) (h := ?_)
          refine tk 7 (hy := ex) (h := ?_)
          refine tk 8 (hy := ex) (h := ?_)
          refine one 10 (h := ?_)
          first | refine stA (h := ?_) | refine stEA (h := ?_)
          refine nx (h := ?_)
          refine tk 11 (hy := asg) (h := ?_)
          refine dn (h := ?_)
          exact ctn _ trivial (by repeat (first | exact trivial | refine ⟨rfl, ?_⟩)) (by repeat (first | exact SubL.nil | (apply SubL.cons; (repeat (first | exact At.here | apply At.there))) | exact SubL.refl _ | apply SubL.skip))
      rintro x7 -
      obtain ⟨x6, hx6⟩ : ∃ x6, x6 = b3 := ⟨_, rfl⟩
      rw [← hx6]
      refine sq (h := ?_)
      refine sq (h := ?_)
      refine rg (h := ?_)
      refine WL.y (hy := mv) (h := ?_)
      refine WL.y (hy := notB) (h := ?_)
      refine WL.y (hy := mv) (h := ?_)
      apply brOr 3 52 55 (by exact rfl)
      · intro hb3
        refine un (h := ?_)
        refine WL.y (hy := (by first | exact fa | exact faE)) (h := ?_)
        refine un (h := ?_)
        refine WL.y (hy := (by first | exact ld | exact ldE)) (h := ?_)
        refine WL.y (hy := (by first | exact pkT | exact pkF)) (h := ?_)
        exact mg (by repeat (first | exact trivial | refine ⟨rfl, ?_⟩ | refine ⟨by rw [hb3]; rfl, ?_⟩)) (by repeat (first | exact SubL.nil | (apply SubL.cons; (repeat (first | exact At.here | apply At.there))) | exact SubL.refl _ | apply SubL.skip))
      · intro hb3
        repeat (first | refine un (h := ?_) | refine sk (h := ?_) | refine WL.y (hy := pkF) (h := ?_) | refine WL.y (hy := pkT) (h := ?_))
        exact mg (by repeat (first | exact trivial | refine ⟨rfl, ?_⟩ | refine ⟨by rw [hb3]; rfl, ?_⟩)) (by repeat (first | exact SubL.nil | (apply SubL.cons; (repeat (first | exact At.here | apply At.there))) | exact SubL.refl _ | apply SubL.skip))
      refine nl (h := ?_)
      refine q_seq (h := ?_)
      refine cd (by exact rfl) (fun h4 => ?_) (fun h4 => ?_)
      · skip
        have kC : (!(tget (tb (setV f r.won)) b.g).isSome || (tat (tb (setV f r.won)) b.g).2) = true := h4
        refine sq (h := ?_)
        refine rg (h := ?_)
        refine WL.y (hy := (by first | exact ldA | exact ldEA)) (h := ?_)
        first | refine stA (h := ?_) | refine stEA (h := ?_)
        refine WL.y (hy := asg) (h := ?_)
        refine nl (h := ?_)
        refine q_seq (h := ?_)
        refine rtn (h := ?_)
        refine q_then_ret (h := ?_)
        refine q_ret (hR := ?_)
        first
          | (rw [kA, kB, kC, kD, kE]; exact fun w hS => ⟨rfl, hS.sub (by repeat (first | exact SubL.nil | (apply SubL.cons; (repeat (first | exact At.here | apply At.there))) | exact SubL.refl _ | apply SubL.skip))⟩)
          | (rw [kA, kB, kC, kD]; exact fun w hS => ⟨rfl, hS.sub (by repeat (first | exact SubL.nil | (apply SubL.cons; (repeat (first | exact At.here | apply At.there))) | exact SubL.refl _ | apply SubL.skip))⟩)
          | (rw [kA, kB, kC]; exact fun w hS => ⟨rfl, hS.sub (by repeat (first | exact SubL.nil | (apply SubL.cons; (repeat (first | exact At.here | apply At.there))) | exact SubL.refl _ | apply SubL.skip))⟩)
          | (rw [kA, kB, kZ]; exact fun w hS => ⟨rfl, hS.sub (by repeat (first | exact SubL.nil | (apply SubL.cons; (repeat (first | exact At.here | apply At.there))) | exact SubL.refl _ | apply SubL.skip))⟩)
      · skip
        have kC : (!(tget (tb (setV f r.won)) b.g).isSome || (tat (tb (setV f r.won)) b.g).2) = false := h4
        refine skp (h := ?_)
        refine q_seq (h := ?_)
        refine ct (X := Nat × Nat) (fun _ => True) (fun x => [(2, .pointer (some ⟨b0, 0, none⟩)), (3, .pointer (some ⟨b1, 0, none⟩)), (4, .pointer (some ⟨b2, 0, none⟩)), (6, .pointer (some ⟨x6, 0, none⟩)), (9, .pointer (some ⟨x.1, 0, none⟩)), (10, .pointer (some ⟨x.2, 0, none⟩))]) (fun x => [.blk x.1 4 [.bool (brksV (setV f r.won) b.g)], .blk x.2 26 [.int .i64 b.p.1, .int .i64 b.p.2], .blk b0 80 f.cells, .blk b1 28 (b.cells A n c), .blk b2 26 [.int .i64 r.won.1, .int .i64 r.won.2], .blk x6 137 [.int .i64 (setV f r.won).1, .int .i64 (setV f r.won).2]]) (h1 := ?_) (h2 := ?_)
        · skip
          refine rgD (by kernel_rfl) [(1000000, .blk x6 137 [.int .i64 (setV f r.won).1, .int .i64 (setV f r.won).2]), (1000000, .blk b1 28 (b.cells A n c))] (by repeat (first | exact HS.nil | (apply HS.keep; (repeat (first | exact At.here | apply At.there))) | (apply HS.ro; (repeat (first | exact Rds.ro | exact Rds.own | apply Rds.there))))) (h := ?_)
          refine tk 0 (hy := (by first | exact ldA | exact ldEA)) (h := ?_)
          refine tk 1 (hy := (by first | exact fa | exact faE)) (h := ?_)
          refine tk 2 (hy := (by first | exact ldA | exact ldEA)) (h := ?_)
          refine tk 4 (hy := (by first | exact fa | exact faE)) (h := ?_)
          refine tk 5 (hy := (by first | exact ldA | exact ldEA)) (h := ?_)
          refine fan [3, 6, 7] (h := ⟨⟨_, by exact rfl, ?_⟩, ⟨_, by exact rfl, ?_⟩, ⟨_, by exact rfl, ?_⟩, trivial⟩)
          · skip
            refine cl0 (hc := fun w hS => C_set_breaks (setV f r.won) b.g w) (h := ?_)
            refine nx (h := ?_)
            refine two 6 7 (h1 := ?_) (h2 := ?_)
            · skip
              refine al (h := fun b7 => ?_)
              refine nx (h := ?_)
              refine one 7 (h := ?_)
              refine al (h := fun b8 => ?_)
              refine nx (h := ?_)
              refine one 8 (h := ?_)
              first | refine st (h := ?_) | refine stE (h := ?_)
              refine nx (h := ?_)
              refine one 9 (h := ?_)
              first | refine stA (h := ?_) | refine stEA (h := ?_)
              refine nx (h := ?_)
              refine dn (h := ?_)
              exact ctn ⟨_, _⟩ trivial (by repeat (first | exact trivial | refine ⟨rfl, ?_⟩)) (by repeat (first | exact SubL.nil | (apply SubL.cons; (repeat (first | exact At.here | apply At.there))) | exact SubL.refl _ | apply SubL.skip))
            · skip
              refine al (h := fun b9 => ?_)
              refine nx (h := ?_)
              refine one 6 (h := ?_)
              refine al (h := fun b10 => ?_)
              refine nx (h := ?_)
              refine one 8 (h := ?_)
              first | refine st (h := ?_) | refine stE (h := ?_)
              refine nx (h := ?_)
              refine one 9 (h := ?_)
              first | refine stA (h := ?_) | refine stEA (h := ?_)
              refine nx (h := ?_)
              refine dn (h := ?_)
              exact ctn ⟨_, _⟩ trivial (by repeat (first | exact trivial | refine ⟨rfl, ?_⟩)) (by repeat (first | exact SubL.nil | (apply SubL.cons; (repeat (first | exact At.here | apply At.there))) | exact SubL.refl _ | apply SubL.skip))
          · skip
            refine al (h := fun b11 => ?_)
            refine nx (h := ?_)
            refine two 3 7 (h1 := ?_) (h2 := ?_)
            · skip
              refine cl0 (hc := fun w hS => C_set_breaks (setV f r.won) b.g w) (h := ?_)
              refine nx (h := ?_)
              refine one 7 (h := ?_)
              refine al (h := fun b12 => ?_)
              refine nx (h := ?_)
              refine one 8 (h := ?_)
              first | refine st (h := ?_) | refine stE (h := ?_)
              refine nx (h := ?_)
              refine one 9 (h := ?_)
              first | refine stA (h := ?_) | refine stEA (h := ?_)
              refine nx (h := ?_)
              refine dn (h := ?_)
              exact ctn ⟨_, _⟩ trivial (by repeat (first | exact trivial | refine ⟨rfl, ?_⟩)) (by repeat (first | exact SubL.nil | (apply SubL.cons; (repeat (first | exact At.here | apply At.there))) | exact SubL.refl _ | apply SubL.skip))
            · skip
              refine al (h := fun b13 => ?_)
              refine nx (h := ?_)
              refine one 3 (h := ?_)
              refine cl0 (hc := fun w hS => C_set_breaks (setV f r.won) b.g w) (h := ?_)
              refine nx (h := ?_)
              refine one 8 (h := ?_)
              first | refine st (h := ?_) | refine stE (h := ?_)
              refine nx (h := ?_)
              refine one 9 (h := ?_)
              first | refine stA (h := ?_) | refine stEA (h := ?_)
              refine nx (h := ?_)
              refine dn (h := ?_)
              exact ctn ⟨_, _⟩ trivial (by repeat (first | exact trivial | refine ⟨rfl, ?_⟩)) (by repeat (first | exact SubL.nil | (apply SubL.cons; (repeat (first | exact At.here | apply At.there))) | exact SubL.refl _ | apply SubL.skip))
          · skip
            refine al (h := fun b14 => ?_)
            refine nx (h := ?_)
            refine two 3 6 (h1 := ?_) (h2 := ?_)
            · skip
              refine cl0 (hc := fun w hS => C_set_breaks (setV f r.won) b.g w) (h := ?_)
              refine nx (h := ?_)
              refine one 6 (h := ?_)
              refine al (h := fun b15 => ?_)
              refine nx (h := ?_)
              refine one 8 (h := ?_)
              first | refine st (h := ?_) | refine stE (h := ?_)
              refine nx (h := ?_)
              refine one 9 (h := ?_)
              first | refine stA (h := ?_) | refine stEA (h := ?_)
              refine nx (h := ?_)
              refine dn (h := ?_)
              exact ctn ⟨_, _⟩ trivial (by repeat (first | exact trivial | refine ⟨rfl, ?_⟩)) (by repeat (first | exact SubL.nil | (apply SubL.cons; (repeat (first | exact At.here | apply At.there))) | exact SubL.refl _ | apply SubL.skip))
            · skip
              refine al (h := fun b16 => ?_)
              refine nx (h := ?_)
              refine one 3 (h := ?_)
              refine cl0 (hc := fun w hS => C_set_breaks (setV f r.won) b.g w) (h := ?_)
              refine nx (h := ?_)
              refine one 8 (h := ?_)
              first | refine st (h := ?_) | refine stE (h := ?_)
              refine nx (h := ?_)
              refine one 9 (h := ?_)
              first | refine stA (h := ?_) | refine stEA (h := ?_)
              refine nx (h := ?_)
              refine dn (h := ?_)
              exact ctn ⟨_, _⟩ trivial (by repeat (first | exact trivial | refine ⟨rfl, ?_⟩)) (by repeat (first | exact SubL.nil | (apply SubL.cons; (repeat (first | exact At.here | apply At.there))) | exact SubL.refl _ | apply SubL.skip))
        rintro ⟨x9, x10⟩ -
        refine sq (h := ?_)
        refine rg (h := ?_)
        refine WL.y (hy := mkf) (h := ?_)
        refine WL.y (hy := asg) (h := ?_)
        refine nl (h := ?_)
        refine q_seq (h := ?_)
        refine sq (h := ?_)
        refine sq (h := ?_)
        refine rg (h := ?_)
        refine WL.y (hy := (by first | exact ldA | exact ldEA)) (h := ?_)
        refine WL.y (hy := bd) (h := ?_)
        refine WL.y (hy := eqlT) (h := ?_)
        refine nl (h := ?_)
        refine q_seq (h := ?_)
        refine cd (by exact rfl) (fun h5 => ?_) (fun h5 => ?_)
        · skip
          have kD : isZ b.p = true := h5
          refine sq (h := ?_)
          refine rg (h := ?_)
          refine WL.y (hy := (by first | exact ldA | exact ldEA)) (h := ?_)
          first | refine stA (h := ?_) | refine stEA (h := ?_)
          refine WL.y (hy := asg) (h := ?_)
          refine nl (h := ?_)
          refine q_seq (h := ?_)
          refine rtn (h := ?_)
          refine q_then_ret (h := ?_)
          refine q_ret (hR := ?_)
          first
            | (rw [kA, kB, kC, kD, kE]; exact fun w hS => ⟨rfl, hS.sub (by repeat (first | exact SubL.nil | (apply SubL.cons; (repeat (first | exact At.here | apply At.there))) | exact SubL.refl _ | apply SubL.skip))⟩)
            | (rw [kA, kB, kC, kD]; exact fun w hS => ⟨rfl, hS.sub (by repeat (first | exact SubL.nil | (apply SubL.cons; (repeat (first | exact At.here | apply At.there))) | exact SubL.refl _ | apply SubL.skip))⟩)
            | (rw [kA, kB, kC]; exact fun w hS => ⟨rfl, hS.sub (by repeat (first | exact SubL.nil | (apply SubL.cons; (repeat (first | exact At.here | apply At.there))) | exact SubL.refl _ | apply SubL.skip))⟩)
            | (rw [kA, kB, kZ]; exact fun w hS => ⟨rfl, hS.sub (by repeat (first | exact SubL.nil | (apply SubL.cons; (repeat (first | exact At.here | apply At.there))) | exact SubL.refl _ | apply SubL.skip))⟩)
        · skip
          have kD : isZ b.p = false := h5
          refine skp (h := ?_)
          refine q_seq (h := ?_)
          refine sq (h := ?_)
          refine rg (h := ?_)
          refine WL.y (hy := mv) (h := ?_)
          refine WL.y (hy := (by first | exact fa | exact faE)) (h := ?_)
          refine WL.y (hy := (by first | exact ld | exact ldE)) (h := ?_)
          refine WL.y (hy := subI) (h := ?_)
          refine WL.y (hy := (by first | exact fa | exact faE)) (h := ?_)
          refine WL.y (hy := (by first | exact ld | exact ldE)) (h := ?_)
          refine WL.y (hy := bd) (h := ?_)
          refine clfT inferInstance (fi := []) (cap := [.pointer (some ⟨b0, 0, none⟩), .pointer (some ⟨x6, 0, none⟩), .pointer (some ⟨x9, 0, none⟩)]) (by exact rfl) (by repeat (first | exact Evs.nil | (apply Evs.cons; exact rfl))) (T_arises1 f (setV f r.won) (brksV (setV f r.won) b.g) (b.p.1 - 1, b.p.2) hSp1 b0 x6 x9) rfl (by repeat (first | exact Spl.nil | (apply Spl.cons; (repeat (first | exact At.here | apply At.there))))) (h := fun _ _ => ?_)
          refine WL.y (hy := mv) (h := ?_)
          apply brOr 9 76 85 (by exact rfl)
          · intro hb6
            refine un (h := ?_)
            refine WL.y (hy := mv) (h := ?_)
            refine un (h := ?_)
            refine WL.y (hy := (by first | exact fa | exact faE)) (h := ?_)
            refine un (h := ?_)
            refine WL.y (hy := (by first | exact ld | exact ldE)) (h := ?_)
            refine un (h := ?_)
            refine WL.y (hy := (by first | exact fa | exact faE)) (h := ?_)
            refine un (h := ?_)
            refine WL.y (hy := (by first | exact ld | exact ldE)) (h := ?_)
            refine un (h := ?_)
            refine WL.y (hy := subI) (h := ?_)
            refine un (h := ?_)
            refine WL.y (hy := bd) (h := ?_)
            refine un (h := ?_)
            refine clfT inferInstance (fi := []) (cap := [.pointer (some ⟨b0, 0, none⟩), .pointer (some ⟨x6, 0, none⟩), .pointer (some ⟨x9, 0, none⟩)]) (by exact rfl) (by repeat (first | exact Evs.nil | (apply Evs.cons; exact rfl))) (T_arises1 f (setV f r.won) (brksV (setV f r.won) b.g) (b.p.1, b.p.2 - 1) hSp2 b0 x6 x9) rfl (by repeat (first | exact Spl.nil | (apply Spl.cons; (repeat (first | exact At.here | apply At.there))))) (h := fun _ _ => ?_)
            refine WL.y (hy := (by first | exact pkT | exact pkF)) (h := ?_)
            exact mg (by repeat (first | exact trivial | refine ⟨rfl, ?_⟩ | refine ⟨by rw [hb6]; rfl, ?_⟩)) (by repeat (first | exact SubL.nil | (apply SubL.cons; (repeat (first | exact At.here | apply At.there))) | exact SubL.refl _ | apply SubL.skip))
          · intro hb6
            repeat (first | refine un (h := ?_) | refine sk (h := ?_) | refine WL.y (hy := pkF) (h := ?_) | refine WL.y (hy := pkT) (h := ?_))
            exact mg (by repeat (first | exact trivial | refine ⟨rfl, ?_⟩ | refine ⟨by rw [hb6]; rfl, ?_⟩)) (by repeat (first | exact SubL.nil | (apply SubL.cons; (repeat (first | exact At.here | apply At.there))) | exact SubL.refl _ | apply SubL.skip))
          refine WL.y (hy := asg) (h := ?_)
          refine nl (h := ?_)
          refine q_seq (h := ?_)
          refine sq (h := ?_)
          refine rgD (by kernel_rfl) [(7, .blk b2 26 [.int .i64 r.won.1, .int .i64 r.won.2]), (1000000, .blk x10 26 [.int .i64 b.p.1, .int .i64 b.p.2])] (by repeat (first | exact HS.nil | (apply HS.keep; (repeat (first | exact At.here | apply At.there))) | (apply HS.ro; (repeat (first | exact Rds.ro | exact Rds.own | apply Rds.there))))) (h := ?_)
          refine tk 0 (hy := (by first | exact ldA | exact ldEA)) (h := ?_)
          refine tk 1 (hy := mv) (h := ?_)
          refine tk 2 (hy := mv) (h := ?_)
          refine brH (g := 88) (by exact rfl) (fun hb7 => ?_) (fun hb7 => ?_)
          · skip
            have kE : (befV f (setV f r.won) (brksV (setV f r.won) b.g) (b.p.1 - 1, b.p.2) || befV f (setV f r.won) (brksV (setV f r.won) b.g) (b.p.1, b.p.2 - 1)) = true := hb7
            refine tk 3 (hy := mv) (h := ?_)
            refine tk 4 (hy := (by first | exact ldA | exact ldEA)) (h := ?_)
            refine one 5 (h := ?_)
            refine un (h := ?_)
            refine clfT inferInstance (fi := []) (cap := [.pointer (some ⟨b0, 0, none⟩), .pointer (some ⟨x6, 0, none⟩), .pointer (some ⟨x9, 0, none⟩)]) (by exact rfl) (by repeat (first | exact Evs.nil | (apply Evs.cons; exact rfl))) (T_arises1 f (setV f r.won) (brksV (setV f r.won) b.g) b.p hSp b0 x6 x9) rfl (by repeat (first | exact Spl.nil | (apply Spl.cons; (repeat (first | exact At.here | apply At.there))))) (h := fun _ _ => ?_)
            refine nx (h := ?_)
            refine tk 6 (hy := (by first | exact pkT | exact pkF)) (h := ?_)
            refine one 7 (h := ?_)
            first | refine stA (h := ?_) | refine stEA (h := ?_)
            refine nx (h := ?_)
            refine tk 8 (hy := asg) (h := ?_)
            refine dn (h := ?_)
            refine q_seq (h := ?_)
            refine rtn (h := ?_)
            refine q_ret (hR := ?_)
            first
              | (rw [kA, kB, kC, kD, kE]; exact fun w hS => ⟨rfl, hS.sub (by repeat (first | exact SubL.nil | (apply SubL.cons; (repeat (first | exact At.here | apply At.there))) | exact SubL.refl _ | apply SubL.skip))⟩)
              | (rw [kA, kB, kC, kD]; exact fun w hS => ⟨rfl, hS.sub (by repeat (first | exact SubL.nil | (apply SubL.cons; (repeat (first | exact At.here | apply At.there))) | exact SubL.refl _ | apply SubL.skip))⟩)
              | (rw [kA, kB, kC]; exact fun w hS => ⟨rfl, hS.sub (by repeat (first | exact SubL.nil | (apply SubL.cons; (repeat (first | exact At.here | apply At.there))) | exact SubL.refl _ | apply SubL.skip))⟩)
              | (rw [kA, kB, kZ]; exact fun w hS => ⟨rfl, hS.sub (by repeat (first | exact SubL.nil | (apply SubL.cons; (repeat (first | exact At.here | apply At.there))) | exact SubL.refl _ | apply SubL.skip))⟩)
          · skip
            have kE : (befV f (setV f r.won) (brksV (setV f r.won) b.g) (b.p.1 - 1, b.p.2) || befV f (setV f r.won) (brksV (setV f r.won) b.g) (b.p.1, b.p.2 - 1)) = false := hb7
            refine tkS 3 (h := ?_)
            refine tkS 4 (h := ?_)
            refine tkS 5 (h := ?_)
            refine tk 6 (hy := (by first | exact pkT | exact pkF)) (h := ?_)
            refine one 7 (h := ?_)
            first | refine stA (h := ?_) | refine stEA (h := ?_)
            refine nx (h := ?_)
            refine tk 8 (hy := asg) (h := ?_)
            refine dn (h := ?_)
            refine q_seq (h := ?_)
            refine rtn (h := ?_)
            refine q_ret (hR := ?_)
            first
              | (rw [kA, kB, kC, kD, kE]; exact fun w hS => ⟨rfl, hS.sub (by repeat (first | exact SubL.nil | (apply SubL.cons; (repeat (first | exact At.here | apply At.there))) | exact SubL.refl _ | apply SubL.skip))⟩)
              | (rw [kA, kB, kC, kD]; exact fun w hS => ⟨rfl, hS.sub (by repeat (first | exact SubL.nil | (apply SubL.cons; (repeat (first | exact At.here | apply At.there))) | exact SubL.refl _ | apply SubL.skip))⟩)
              | (rw [kA, kB, kC]; exact fun w hS => ⟨rfl, hS.sub (by repeat (first | exact SubL.nil | (apply SubL.cons; (repeat (first | exact At.here | apply At.there))) | exact SubL.refl _ | apply SubL.skip))⟩)
              | (rw [kA, kB, kZ]; exact fun w hS => ⟨rfl, hS.sub (by repeat (first | exact SubL.nil | (apply SubL.cons; (repeat (first | exact At.here | apply At.there))) | exact SubL.refl _ | apply SubL.skip))⟩)
theorem C_rules_arises (f : Fmt) (b : Brd) (hf : f.Ok) (hbp : (0 ≤ b.p.1 ∧ b.p.1 ≤ 1000) ∧ 0 ≤ b.p.2 ∧ b.p.2 ≤ 1000) (A : Option Addr) (n c : Nat) (w : World) (h : Rd w A 2 n (encP b.st)) (hn : n ≤ 1000) :
    C0 Try.prog 40 [f.val, b.val A n c] w (.tuple #[pv (arisesV f b).1, .bool (arisesV f b).2]) :=
  C_rules_arises' (tableV f) f b (tOk_table f) (tPos_table f) (C_rules_table f) hf hbp A n c w h hn
end Go.Proofs.Ytacaojifempclaa

namespace Go.Proofs.Ytacaojifempclaa
open Go Go.RowKit

end Go.Proofs.Ytacaojifempclaa

namespace Go.Proofs.Ytacaojifempclaa
open Go Go.RowKit

end Go.Proofs.Ytacaojifempclaa

namespace Go.Proofs.Ytacaojifempclaa
open Go Go.RowKit

def WonOk (f : Fmt) (p : Pr) : Prop := (0 ≤ p.1 ∧ p.1 ≤ f.sets) ∧ 0 ≤ p.2 ∧ p.2 ≤ f.sets
theorem setStep_won {tb : Pr → Tb} {f : Fmt} {r : SR} {p : Pr} (h : WonOk f r.won) : WonOk f (setStep tb f r p).won := by
  unfold setStep
  cases hb : !(tget (tb (setV f r.won)) p).isSome || !(tat (tb (setV f r.won)) p).2 || overV f r.won
  · simp only [cond_false]
    have ho : overV f r.won = false := by simp only [Bool.or_eq_false_iff] at hb; exact hb.2
    have hm : ¬ max r.won.1 r.won.2 = f.sets := by simpa [overV] using ho
    have := h
    unfold WonOk at this ⊢
    unfold addV
    cases decide (setSide p = 0) <;> simp only [cond_true, cond_false] <;> omega
  · exact h
theorem setsTo_won {tb : Pr → Tb} {f : Fmt} {l : List Pr} (hs : 0 ≤ f.sets) : ∀ k, WonOk f (setsTo tb f l k).won
  | 0 => by unfold WonOk; simp only [setsTo]; omega
  | k + 1 => by
    have ih := setsTo_won (tb := tb) (l := l) hs k
    rw [setsTo]
    cases l[k]? with
    | none => exact ih
    | some p =>
      dsimp only
      cases (setsTo tb f l k).ok
      · exact ih
      · exact setStep_won ih
theorem arises_won (tb : Pr → Tb) (f : Fmt) (b : Brd) : (arisesT tb f b).1 = (setsTo tb f b.st b.st.length).won := by
  unfold arisesT
  repeat (first | rfl | (cases (_ : Bool) <;> rfl) | (rw [Bool.cond_eq_ite]; split))
end Go.Proofs.Ytacaojifempclaa

namespace Go.Proofs.Ytacaojifempclaa
open Go Go.RowKit

def TieOk (f : Fmt) (s : Pr) : Prop := 1 ≤ f.games ∧ (s.1 = -1 ∨ s.1 = 0 ∨ s.1 = f.games - 1 ∨ s.1 = f.games)
theorem tie_ok {f : Fmt} (hf : f.Ok) (won : Pr) : TieOk f (setV f won) := by
  have h1 := hf.g0
  have h2 := hf.t
  have h3 := hf.lt
  unfold setV
  cases decide (won.1 = f.sets - 1) && decide (won.2 = f.sets - 1)
  · exact ⟨h1, h2⟩
  · exact ⟨h1, h3⟩
def OpenP (f : Fmt) (s : Pr) (a b : Int) : Prop := 0 ≤ a ∧ 0 ≤ b ∧ ((a < f.games ∧ b < f.games) ∨ (a - b ≤ 1 ∧ b - a ≤ 1)) ∧ (s.1 < 0 ∨ a < s.1 ∨ b < s.1 ∨ (a = s.1 ∧ b = s.1))
instance (f : Fmt) (s : Pr) (a b : Int) : Decidable (OpenP f s a b) := by unfold OpenP; infer_instance
def EndP (f : Fmt) (s : Pr) (a b : Int) (k : Int) : Bool := brksV s (a, b) || decide (0 ≤ leadsV (addV (a, b) k) f.games 2)
theorem end0 (f : Fmt) (s : Pr) (a b : Int) : EndP f s a b 0 = true ↔ (a = s.1 ∧ b = s.1) ∨ (f.games ≤ a + 1 ∧ 2 ≤ a + 1 - b) ∨ (f.games ≤ b ∧ 2 ≤ b - (a + 1)) := by
  unfold EndP brksV leadsV addV
  simp only [decide_true, cond_true, Bool.or_eq_true, Bool.and_eq_true, decide_eq_true_eq]
  by_cases h1 : f.games ≤ a + 1 ∧ 2 ≤ a + 1 - b
  · simp [h1.1, h1.2]
  · have e1 : (decide (f.games ≤ a + 1) && decide (2 ≤ a + 1 - b)) = false := by simpa using h1
    rw [e1]
    by_cases h2 : f.games ≤ b ∧ 2 ≤ b - (a + 1)
    · simp [h2.1, h2.2]
    · have e2 : (decide (f.games ≤ b) && decide (2 ≤ b - (a + 1))) = false := by simpa using h2
      rw [e2]
      simp; omega
theorem end1 (f : Fmt) (s : Pr) (a b : Int) : EndP f s a b 1 = true ↔ (a = s.1 ∧ b = s.1) ∨ (f.games ≤ a ∧ 2 ≤ a - (b + 1)) ∨ (f.games ≤ b + 1 ∧ 2 ≤ b + 1 - a) := by
  unfold EndP brksV leadsV addV
  rw [show decide ((1 : Int) = 0) = false from rfl]
  simp only [cond_false, Bool.or_eq_true, Bool.and_eq_true, decide_eq_true_eq]
  by_cases h1 : f.games ≤ a ∧ 2 ≤ a - (b + 1)
  · simp [h1.1, h1.2]
  · have e1 : (decide (f.games ≤ a) && decide (2 ≤ a - (b + 1))) = false := by simpa using h1
    rw [e1]
    by_cases h2 : f.games ≤ b + 1 ∧ 2 ≤ b + 1 - a
    · simp [h2.1, h2.2]
    · have e2 : (decide (f.games ≤ b + 1) && decide (2 ≤ b + 1 - a)) = false := by simpa using h2
      rw [e2]
      simp; omega
theorem end0_no (f : Fmt) (s : Pr) (a b : Int) : EndP f s a b 0 = false ↔ ¬ ((a = s.1 ∧ b = s.1) ∨ (f.games ≤ a + 1 ∧ 2 ≤ a + 1 - b) ∨ (f.games ≤ b ∧ 2 ≤ b - (a + 1))) := by
  rw [← end0, Bool.not_eq_true]
theorem end1_no (f : Fmt) (s : Pr) (a b : Int) : EndP f s a b 1 = false ↔ ¬ ((a = s.1 ∧ b = s.1) ∨ (f.games ≤ a ∧ 2 ≤ a - (b + 1)) ∨ (f.games ≤ b + 1 ∧ 2 ≤ b + 1 - a)) := by
  rw [← end1, Bool.not_eq_true]
def expT (f : Fmt) (s : Pr) (a b : Int) : Option Bool :=
  if a = 0 ∧ b = 0 then some false else if OpenP f s (a - 1) b then some (EndP f s (a - 1) b 0) else if OpenP f s a (b - 1) then some (EndP f s a (b - 1) 1) else none
section
variable {f : Fmt} {s : Pr}
theorem ends_agree (h : TieOk f s) {a b : Int} (h1 : OpenP f s (a - 1) b) (h2 : OpenP f s a (b - 1)) : EndP f s (a - 1) b 0 = EndP f s a (b - 1) 1 := by
  rw [Bool.eq_iff_iff, end0, end1]
  unfold OpenP at h1 h2
  unfold TieOk at h
  omega
theorem open_end (h : TieOk f s) {a b : Int} (h1 : OpenP f s a b) : (a = 0 ∧ b = 0) ∨ (OpenP f s (a - 1) b ∧ EndP f s (a - 1) b 0 = false) ∨ (¬ OpenP f s (a - 1) b ∧ OpenP f s a (b - 1) ∧ EndP f s a (b - 1) 1 = false) := by
  rw [end0_no, end1_no]
  unfold OpenP at *
  unfold TieOk at h
  omega
theorem exp_open (h : TieOk f s) (a b : Int) : expT f s a b = some false ↔ OpenP f s a b := by
  constructor
  · intro he
    unfold expT at he
    by_cases h0 : a = 0 ∧ b = 0
    · unfold OpenP TieOk at *; omega
    · rw [if_neg h0] at he
      by_cases h1 : OpenP f s (a - 1) b
      · rw [if_pos h1] at he
        have := (end0_no f s (a - 1) b).1 (Option.some.inj he)
        unfold OpenP TieOk at *; omega
      · rw [if_neg h1] at he
        by_cases h2 : OpenP f s a (b - 1)
        · rw [if_pos h2] at he
          have := (end1_no f s a (b - 1)).1 (Option.some.inj he)
          unfold OpenP TieOk at *; omega
        · rw [if_neg h2] at he; cases he
  · intro ho
    unfold expT
    rcases open_end h ho with h0 | ⟨h1, h2⟩ | ⟨h1, h2, h3⟩
    · rw [if_pos h0]
    · by_cases h0 : a = 0 ∧ b = 0
      · rw [if_pos h0]
      · rw [if_neg h0, if_pos h1, h2]
    · by_cases h0 : a = 0 ∧ b = 0
      · rw [if_pos h0]
      · rw [if_neg h0, if_neg h1, if_pos h2, h3]
end
theorem tgetU_put : ∀ (t : Tb) (p : Pr) (v : Stn) (q : Pr), tget (tput t p v) q = if q = p then some v else tget t q
  | [], p, v, q => rfl
  | e :: t, p, v, q => by
    rw [tput]
    by_cases h : p = e.1
    · rw [if_pos h, tget, tget]
      by_cases hq : q = p
      · rw [if_pos hq, if_pos hq]
      · rw [if_neg hq, if_neg hq, if_neg (fun e' => hq (e'.trans h.symm))]
    · rw [if_neg h, tget, tget, tgetU_put t p v q]
      by_cases hq : q = e.1
      · rw [if_pos hq, if_pos hq, if_neg (fun e' => h (e'.symm.trans hq))]
      · rw [if_neg hq, if_neg hq]
def rwT (f : Fmt) (s : Pr) (x a b : Int) : Option Bool :=
  if OpenP f s (a - 1) b ∧ a - 1 < x then some (EndP f s (a - 1) b 0) else if OpenP f s a (b - 1) ∧ a < x then some (EndP f s a (b - 1) 1) else none
def flag (t : Tb) (p : Pr) : Option Bool := (tget t p).map (·.2)
theorem flag_put (t : Tb) (p : Pr) (v : Stn) (q : Pr) : flag (tput t p v) q = if q = p then some v.2 else flag t q := by
  unfold flag
  rw [tgetU_put]
  by_cases h : q = p
  · rw [if_pos h, if_pos h]; rfl
  · rw [if_neg h, if_neg h]
structure RowOk (f : Fmt) (s : Pr) (all : Nat) (x : Int) (t : Tb) : Prop where
  old : ∀ a b : Int, a ≤ 41 → b ≤ 41 → a + b ≤ all → flag t (a, b) = expT f s a b
  now : ∀ a b : Int, a ≤ 41 → b ≤ 41 → a + b = all + 1 → flag t (a, b) = rwT f s x a b
  more : ∀ a b : Int, a ≤ 41 → b ≤ 41 → (all : Int) + 1 < a + b → flag t (a, b) = none
theorem pair_flag (p : Pr) (t : Tb) : (!(tget t p).isSome || (tat t p).2) = !decide (flag t p = some false) := by
  unfold flag tat
  cases tget t p with
  | none => rfl
  | some v =>
    obtain ⟨n, b⟩ := v
    cases b <;> simp
theorem rowU_step {f : Fmt} {s : Pr} (h : TieOk f s) {all : Nat} {t : Tb} {a : Int} (ha : a ≤ 41 ∧ (all : Int) - a ≤ 41) (hr : RowOk f s all a t) : RowOk f s all (a + 1) (pairT f s (a, (all : Int) - a) t) := by
  have hfl := hr.old a (all - a) (by omega) (by omega) (by omega)
  have hpf := pair_flag (a, (all : Int) - a) t
  unfold pairT
  by_cases ho : OpenP f s a (all - a)
  · have hb : (!(tget t (a, (all : Int) - a)).isSome || (tat t (a, (all : Int) - a)).2) = false := by
      rw [hpf, hfl, decide_eq_true ((exp_open h a _).2 ho)]; rfl
    rw [hb, cond_false]
    have e0 : addV (a, (all : Int) - a) ((0 : Nat) : Int) = (a + 1, (all : Int) - a) := rfl
    have e1 : addV (a, (all : Int) - a) ((1 : Nat) : Int) = (a, (all : Int) - a + 1) := rfl
    have hfg : ∀ q : Pr, flag (sideTo f s (a, (all : Int) - a) (tat t (a, (all : Int) - a)) t 2) q = if q = (a, (all : Int) - a + 1) then some (EndP f s a (all - a) 1) else if q = (a + 1, (all : Int) - a) then some (EndP f s a (all - a) 0) else flag t q := fun q => by
      rw [sideTo, flag_put, e1, sideTo, flag_put, e0, sideTo]
      rfl
    refine ⟨fun x y hx hy hxy => ?_, fun x y hx hy hxy => ?_, fun x y hx hy hxy => ?_⟩
    · rw [hfg, if_neg (fun e => by injection e; omega), if_neg (fun e => by injection e; omega)]
      exact hr.old x y hx hy hxy
    · rw [hfg]
      by_cases h1 : x = a
      · obtain rfl : y = (all : Int) - a + 1 := by omega
        subst h1
        rw [if_pos rfl, rwT]
        by_cases hA : OpenP f s (x - 1) ((all : Int) - x + 1)
        · rw [if_pos ⟨hA, by omega⟩, ends_agree h hA (by rw [Int.add_sub_cancel]; exact ho), Int.add_sub_cancel]
        · rw [if_neg (fun e => hA e.1), if_pos ⟨by rw [Int.add_sub_cancel]; exact ho, by omega⟩, Int.add_sub_cancel]
      · rw [if_neg (fun e => h1 (by injection e))]
        by_cases h2 : x = a + 1
        · obtain rfl : y = (all : Int) - a := by omega
          subst h2
          rw [if_pos rfl, rwT, Int.add_sub_cancel, if_pos ⟨ho, by omega⟩]
        · rw [if_neg (fun e => h2 (by injection e)), hr.now x y hx hy hxy, rwT, rwT]
          have k1 : (OpenP f s (x - 1) y ∧ x - 1 < a) ↔ (OpenP f s (x - 1) y ∧ x - 1 < a + 1) := and_congr_right fun _ => by omega
          have k2 : (OpenP f s x (y - 1) ∧ x < a) ↔ (OpenP f s x (y - 1) ∧ x < a + 1) := and_congr_right fun _ => by omega
          simp only [k1, k2]
    · rw [hfg, if_neg (fun e => by injection e; omega), if_neg (fun e => by injection e; omega)]
      exact hr.more x y hx hy hxy
  · have hb : (!(tget t (a, (all : Int) - a)).isSome || (tat t (a, (all : Int) - a)).2) = true := by
      rw [hpf, hfl, decide_eq_false (fun e => ho ((exp_open h a _).1 e))]; rfl
    rw [hb, cond_true]
    refine ⟨hr.old, fun x y hx hy hxy => ?_, hr.more⟩
    rw [hr.now x y hx hy hxy, rwT, rwT]
    have k1 : (OpenP f s (x - 1) y ∧ x - 1 < a) ↔ (OpenP f s (x - 1) y ∧ x - 1 < a + 1) := ⟨fun e => ⟨e.1, by omega⟩, fun e => ⟨e.1, by
      by_cases e2 : x - 1 = a
      · exfalso; apply ho
        have := e.1
        rwa [e2, show y = (all : Int) - a by omega] at this
      · omega⟩⟩
    have k2 : (OpenP f s x (y - 1) ∧ x < a) ↔ (OpenP f s x (y - 1) ∧ x < a + 1) := ⟨fun e => ⟨e.1, by omega⟩, fun e => ⟨e.1, by
      by_cases e2 : x = a
      · exfalso; apply ho
        have := e.1
        rwa [e2, show y - 1 = (all : Int) - a by omega] at this
      · omega⟩⟩
    simp only [k1, k2]
theorem row_ok {f : Fmt} {s : Pr} (h : TieOk f s) {all : Nat} {t : Tb} (h0 : RowOk f s all (loA all) t) : ∀ j, j ≤ cntA all → RowOk f s all (loA all + j) (rowTo f s all t j)
  | 0, _ => by rw [rowTo, show loA all + ((0 : Nat) : Int) = loA all by omega]; exact h0
  | j + 1, hj => by
    have ih := row_ok h h0 j (by omega)
    have := rowU_step h (a := loA all + j) (by unfold cntA at hj; unfold loA at *; omega) ih
    rw [rowTo, show loA all + ((j + 1 : Nat) : Int) = loA all + j + 1 by omega]
    exact this
theorem tbl_ok {f : Fmt} {s : Pr} (h : TieOk f s) : ∀ K : Nat, RowOk f s K (loA K) (tblTo f s K)
  | 0 => by
    have hf : ∀ q : Pr, flag (tblTo f s 0) q = if q = (0, 0) then some false else none := fun q => by
      unfold flag tblTo
      rw [tget, tget]
      by_cases e : q = (0, 0)
      · rw [if_pos e, if_pos e]; rfl
      · rw [if_neg e, if_neg e]; rfl
    refine ⟨fun a b ha hb hab => ?_, fun a b ha hb hab => ?_, fun a b ha hb hab => ?_⟩
    · rw [hf]
      unfold expT
      by_cases e : a = 0 ∧ b = 0
      · rw [if_pos e, if_pos (by rw [e.1, e.2])]
      · rw [if_neg e, if_neg (fun e' => e (by injection e' with h1 h2; exact ⟨h1, h2⟩)), if_neg, if_neg]
        · unfold OpenP; omega
        · unfold OpenP; omega
    · rw [hf, if_neg (fun e => by injection e; omega), rwT, if_neg, if_neg]
      · unfold OpenP loA; omega
      · unfold OpenP loA; omega
    · rw [hf, if_neg (fun e => by injection e; omega)]
  | K + 1 => by
    have ih := row_ok h (tbl_ok h K) (cntA K) (Nat.le_refl _)
    rw [tblTo]
    refine ⟨fun a b ha hb hab => ?_, fun a b ha hb hab => ?_, fun a b ha hb hab => ?_⟩
    · by_cases e : a + b ≤ (K : Int)
      · exact ih.old a b ha hb e
      · have e0 : ¬ (a = 0 ∧ b = 0) := by omega
        rw [expT, if_neg e0, ih.now a b ha hb (by omega), rwT]
        have k1 : (OpenP f s (a - 1) b ∧ a - 1 < loA K + cntA K) ↔ OpenP f s (a - 1) b := ⟨fun e => e.1, fun e => ⟨e, by unfold OpenP at e; unfold loA cntA loA; omega⟩⟩
        have k2 : (OpenP f s a (b - 1) ∧ a < loA K + cntA K) ↔ OpenP f s a (b - 1) := ⟨fun e => e.1, fun e => ⟨e, by unfold OpenP at e; unfold loA cntA loA; omega⟩⟩
        simp only [k1, k2]
    · rw [ih.more a b ha hb (by omega), rwT, if_neg, if_neg]
      · unfold OpenP loA; omega
      · unfold OpenP loA; omega
    · exact ih.more a b ha hb (by omega)
theorem table_flag {f : Fmt} {s : Pr} (h : TieOk f s) {p : Pr} (h1 : p.1 ≤ 41) (h2 : p.2 ≤ 41) : flag (tableV f s) p = expT f s p.1 p.2 :=
  (tbl_ok h 82).old p.1 p.2 h1 h2 (by omega)
end Go.Proofs.Ytacaojifempclaa

namespace Go.Proofs.Ytacaojifempclaa
open Go Go.RowKit

def gcost (s : Pr) (a b : Int) : Int := bif brksV s (a, b) then max s.2 2 else 4
def EO (f : Fmt) (s : Pr) (a b : Int) : Bool := brksV s (a, b) || (decide (f.games ≤ a + 1) && decide (2 ≤ a + 1 - b))
def trG (f : Fmt) (s : Pr) (far lim W L : Int) : Nat → Int → Int → Int
  | 0, _, _ => far
  | n + 1, a, b => if lim ≤ a ∨ lim ≤ b then far else min far (gcost s a b + min (bif EO f s a b then W else trG f s far lim W L n (a + 1) b) (bif EO f s b a then L else trG f s far lim W L n a (b + 1)))
section
variable {f : Fmt} {s : Pr}
theorem open_swap {a b : Int} (h : OpenP f s a b) : OpenP f s b a := by unfold OpenP at *; omega
theorem end_swap' (a b : Int) : EndP f s b a 0 = EndP f s a b 1 := by
  rw [Bool.eq_iff_iff, end0, end1]; omega
theorem open_next (ht : TieOk f s) {a b : Int} (h : OpenP f s a b) (he : EndP f s a b 0 = false) : OpenP f s (a + 1) b := by
  rw [end0_no] at he
  unfold OpenP TieOk at *; omega
theorem open_next' (ht : TieOk f s) {a b : Int} (h : OpenP f s a b) (he : EndP f s a b 1 = false) : OpenP f s a (b + 1) :=
  open_swap (open_next ht (open_swap h) (by rw [end_swap']; exact he))
theorem eo_is (ht : TieOk f s) {a b : Int} (h : OpenP f s a b) : EO f s a b = EndP f s a b 0 := by
  rw [Bool.eq_iff_iff, end0, EO, brksV, Bool.or_eq_true, Bool.and_eq_true, Bool.and_eq_true, decide_eq_true_eq, decide_eq_true_eq, decide_eq_true_eq, decide_eq_true_eq]
  unfold OpenP TieOk at *; omega
theorem eo_is' (ht : TieOk f s) {a b : Int} (h : OpenP f s a b) : EO f s b a = EndP f s a b 1 := by
  rw [eo_is ht (open_swap h), end_swap']
variable {far lim W L : Int}
end
theorem open0 {f : Fmt} {s : Pr} (ht : TieOk f s) : OpenP f s 0 0 := by unfold OpenP TieOk at *; omega
section
variable {f : Fmt}
end
end Go.Proofs.Ytacaojifempclaa

namespace Go.Proofs.Ytacaojifempclaa
open Go Go.RowKit

def lst (s : Pr) (tie : Bool) : Int := bif tie then s.2 else 4
def byG (f : Fmt) (tie : Bool) : Int := bif tie then 2 else bif f.noAd then 1 else 2
theorem game_is (f : Fmt) (s : Pr) (tie : Bool) (p : Pr) : gameV f s tie p = leadsV p (lst s tie) (byG f tie) := by
  unfold gameV lst byG
  cases tie
  · cases f.noAd <;> rfl
  · rfl
def ownP (side : Int) (p : Pr) : Pr := bif decide (side = 0) then p else (p.2, p.1)
theorem own0 (p : Pr) : ownP 0 p = p := rfl
theorem own1 (p : Pr) : ownP 1 p = (p.2, p.1) := rfl
section
variable {f : Fmt} {side : Int}
theorem isZ_iff (p : Pr) : isZ p = true ↔ p = (0, 0) := by
  unfold isZ
  rw [decide_eq_true_eq]
  obtain ⟨a, b⟩ := p
  simp
end
end Go.Proofs.Ytacaojifempclaa

namespace Go.Proofs.Ytacaojifempclaa
open Go Go.RowKit

section
variable {f : Fmt} {side : Int}
end
end Go.Proofs.Ytacaojifempclaa

namespace Go.Proofs.Ytacaojifempclaa
open Go Go.RowKit

section
variable {P : Program} {n : Nat} {D : List Deferred} {l : Env} {w0 : World} {L : List Ent} {op : Op}
theorem Yd.tr {b : Bool} (h : Yd P n D l w0 L op (.bool b)) (hb : b = true) : Yd P n D l w0 L op (.bool true) := hb ▸ h
theorem Yd.fl {b : Bool} (h : Yd P n D l w0 L op (.bool b)) (hb : b = false) : Yd P n D l w0 L op (.bool false) := hb ▸ h
theorem Yd.to {v v' : Value} (h : Yd P n D l w0 L op v) (hb : v = v') : Yd P n D l w0 L op v' := hb ▸ h
end

section
variable {P : Program}
end
section rules
variable {F : Fence} {P : Program} {ops : Array Oper} {Q : Exit → Act → World → Prop} {rest : List Oper} {n : Nat} {D : List Deferred} {l : Env} {w0 : World} {L M : List Ent}
variable {d : Nat} {ty : TypeId} {pos : String} {aft : Array Edge}
end rules
end Go.Proofs.Ytacaojifempclaa

namespace Go.Proofs.Ytacaojifempclaa
open Go Go.RowKit

theorem made_flat (zl : List Value) (hpos : 0 < zl.length) (n : Nat) : (madeCells zl.toArray (n * zl.length)).toList = (List.replicate n zl).flatten := by
  refine List.ext_getElem? fun i => ?_
  have hes : ∀ c ∈ List.replicate n zl, c.length = zl.length := fun c hc => by rw [(List.mem_replicate.1 hc).2]
  have hfl : (List.replicate n zl).flatten.length = n * zl.length := by rw [flatten_len hes, List.length_replicate]
  by_cases hi : i < n * zl.length
  · have hk : i / zl.length < n := (Nat.div_lt_iff_lt_mul hpos).2 hi
    have hj : i % zl.length < zl.length := Nat.mod_lt _ hpos
    have h1 := flatten_get hes (k := i / zl.length) (cs := zl) (j := i % zl.length) (v := zl[i % zl.length]) (by simp [hk]) (List.getElem?_eq_getElem hj)
    rw [Nat.div_add_mod'] at h1
    rw [h1]
    simp [madeCells, hi, hj]
  · have h2 : (madeCells zl.toArray (n * zl.length)).toList.length = n * zl.length := by simp [madeCells]
    rw [List.getElem?_eq_none (by rw [h2]; omega), List.getElem?_eq_none (by rw [hfl]; omega)]

section rules
variable {F : Fence} {P : Program} {ops : Array Oper} {Q : Exit → Act → World → Prop} {rest : List Oper} {n : Nat} {D : List Deferred} {l : Env} {w0 : World} {L M : List Ent}
variable {d : Nat} {ty : TypeId} {pos : String} {aft : Array Edge}

theorem mks {x y : Operand} {t T : TypeId} (m : Nat) (hT : SliceTy P t T := by infer_instance) {agg : Bool} {size bytes : Nat} {z : Value} {zl : List Value} (hE : Ty P T agg size bytes z zl := by infer_instance) {kl kc : IntKind} (hx : ev l x = some (.int kl (m : Int)) := by exact rfl) (hy : ev l y = some (.int kc (m : Int)) := by exact rfl)
    (hb : bytes * m ≤ 281474976710656 := by omega) (hlm : m ≤ 9223372036854775807 := by omega) (hpos : 0 < size := by omega) (h1 : zl.all (·.oneCell') = true := by rfl) (hd : Nat.blt d n = true := by rfl)
    (h : ∀ b, WL F P ops Q rest n D ((d, .slice (some ⟨b, 0, none⟩) m m) :: l) w0 (.own (some ⟨b, 0, none⟩) m T size m (List.replicate m zl) :: L)) : WL F P ops Q (⟨some d, .makeSlice t x y, ty, pos, aft, none⟩ :: rest) n D l w0 L :=
  WL.value (X := Nat) (φ := fun _ => True) (val := fun b => .slice (some ⟨b, 0, none⟩) m m) (L' := fun b => .own (some ⟨b, 0, none⟩) m T size m (List.replicate m zl) :: L) (by simp) hd (fun ac w hfr hst => by
    obtain ⟨i, hi, hi1, hi2, h3⟩ := ty_info hE
    have hzl : zl.length = size := hE.zs
    have hes : ∀ c ∈ List.replicate m zl, c.length = size := fun c hc => by rw [(List.mem_replicate.1 hc).2, hzl]
    have hfl := flatten_len hes
    rw [List.length_replicate] at hfl
    have hmade : madeCells z.cells (m * i.size) = (List.replicate m zl).flatten.toArray := by
      rw [hi1, hE.zc, ← hzl]
      exact Array.toList_inj.1 (by rw [made_flat zl (by omega) m])
    have hrun := run_make (P := P) (w := w) t T i z hT.und hi h3 kl kc (m : Int) (m : Int) (by omega) (Int.le_refl _) (by rw [hi2, ← Int.natCast_mul]; omega) (by omega)
    rw [Int.toNat_natCast, hmade] at hrun
    refine ⟨w.heap.size, w.alloc (.cells (List.replicate m zl).flatten.toArray T), trivial, ?_, ?_⟩
    · simp [execOp, hfr.eval hx, hfr.eval hy, hrun]
    · have hone : ∀ c ∈ List.replicate m zl, ∀ v ∈ c, v.oneCell' = true := fun c hc v hv => by
        rw [(List.mem_replicate.1 hc).2] at hv
        exact List.all_eq_true.1 h1 v hv
      have hown : (w.alloc (.cells (List.replicate m zl).flatten.toArray T)).ownsRow 0 T size (.slice (some ⟨w.heap.size, 0, none⟩) m m) m (List.replicate m zl).flatten :=
        ⟨by rw [hfl], .inr ⟨w.heap.size, m, (List.replicate m zl).flatten.toArray, rfl, Nat.zero_le _, heap_alloc_new w _, Nat.le_refl _, by simp only [maxLen]; omega, by simp [hfl], by rw [← hfl]; exact List.take_length⟩⟩
      refine St.add (M := [_]) hst ((Below.refl _ w).alloc (Nat.le_refl _) _) (fun e he => ?_) (fun e he b hb' => ?_) (List.pairwise_singleton _ _)
      · simp only [List.mem_singleton] at he; subst he
        exact ⟨hown, rd_own hown (by simp) hes hone⟩
      · simp only [List.mem_singleton] at he; subst he
        obtain ⟨ad, had, rfl⟩ := hb'
        injection had with had; subst had; exact Nat.le_refl _) (fun b _ => h b)
end rules
end Go.Proofs.Ytacaojifempclaa
