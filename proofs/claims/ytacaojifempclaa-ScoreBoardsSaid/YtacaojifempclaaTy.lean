/- The types and functions of this seat's program, as instances of the walk's classes; each is a closed fact that the kernel reckons. -/
import Derived.Test.YtacaojifempclaaW9
import Derived.Test.YtacaojifempclaaProg
import Derived.KernelRfl
namespace Go.Proofs.Ytacaojifempclaa
open Go

-- 1 func()
instance : Ty Try.prog 1 false 1 8 (.nilFunc) [.nilFunc] := ⟨by kernel_rfl, by kernel_rfl, rfl, rfl⟩
-- 2 int64
instance : Ty Try.prog 2 false 1 8 (.int .i64 0) [.int .i64 0] := ⟨by kernel_rfl, by kernel_rfl, rfl, rfl⟩
-- 3 int
instance : Ty Try.prog 3 false 1 8 (.int .i64 0) [.int .i64 0] := ⟨by kernel_rfl, by kernel_rfl, rfl, rfl⟩
-- 4 bool
instance : Ty Try.prog 4 false 1 1 (.bool false) [.bool false] := ⟨by kernel_rfl, by kernel_rfl, rfl, rfl⟩
-- 5 uint8
instance : Ty Try.prog 5 false 1 1 (.int .u8 0) [.int .u8 0] := ⟨by kernel_rfl, by kernel_rfl, rfl, rfl⟩
-- 7 struct { x int64; y int; signed bool; code abi.BoundsErrorCode }
instance : Ty Try.prog 7 true 4 24 (.agg #[.int .i64 0, .int .i64 0, .bool false, .int .u8 0]) [.int .i64 0, .int .i64 0, .bool false, .int .u8 0] := ⟨by kernel_rfl, by kernel_rfl, rfl, rfl⟩
instance : FieldTy Try.prog 7 0 0 2 0 := ⟨by kernel_rfl, by kernel_rfl⟩
instance : FieldTy Try.prog 7 1 1 3 0 := ⟨by kernel_rfl, by kernel_rfl⟩
instance : FieldTy Try.prog 7 2 2 4 0 := ⟨by kernel_rfl, by kernel_rfl⟩
instance : FieldTy Try.prog 7 3 3 6 0 := ⟨by kernel_rfl, by kernel_rfl⟩
instance : BuildTy Try.prog 7 [(0, 1), (1, 1), (2, 1), (3, 1)] [.int .i64 0, .int .i64 0, .bool false, .int .u8 0] := ⟨fun parts => by kernel_rfl⟩
-- 9 string
instance : Ty Try.prog 9 false 1 16 (.string ByteArray.empty) [.string ByteArray.empty] := ⟨by kernel_rfl, by kernel_rfl, rfl, rfl⟩
-- 12 uintptr
instance : Ty Try.prog 12 false 1 8 (.int .u64 0) [.int .u64 0] := ⟨by kernel_rfl, by kernel_rfl, rfl, rfl⟩
-- 13 struct { msg string; addr uintptr }
instance : Ty Try.prog 13 true 2 24 (.agg #[.string ByteArray.empty, .int .u64 0]) [.string ByteArray.empty, .int .u64 0] := ⟨by kernel_rfl, by kernel_rfl, rfl, rfl⟩
instance : FieldTy Try.prog 13 0 0 9 0 := ⟨by kernel_rfl, by kernel_rfl⟩
instance : FieldTy Try.prog 13 1 1 12 0 := ⟨by kernel_rfl, by kernel_rfl⟩
instance : BuildTy Try.prog 13 [(0, 1), (1, 1)] [.string ByteArray.empty, .int .u64 0] := ⟨fun parts => by kernel_rfl⟩
-- 18 struct { typ *abi.Type }
instance : Ty Try.prog 18 true 1 8 (.agg #[.pointer none]) [.pointer none] := ⟨by kernel_rfl, by kernel_rfl, rfl, rfl⟩
instance : FieldTy Try.prog 18 0 0 17 0 := ⟨by kernel_rfl, by kernel_rfl⟩
instance : BuildTy Try.prog 18 [(0, 1)] [.pointer none] := ⟨fun parts => by kernel_rfl⟩
-- 20 
instance : Ty Try.prog 20 false 1 16 (.nilIface) [.nilIface] := ⟨by kernel_rfl, by kernel_rfl, rfl, rfl⟩
-- 21 int32
instance : Ty Try.prog 21 false 1 4 (.int .i32 0) [.int .i32 0] := ⟨by kernel_rfl, by kernel_rfl, rfl, rfl⟩
-- 22 struct { Sets int; Games int; NoAd bool; Tie int; To int; LastTie int; LastTo int; First int; Then int; Doubles bool }
instance : Ty Try.prog 22 true 10 80 (.agg #[.int .i64 0, .int .i64 0, .bool false, .int .i64 0, .int .i64 0, .int .i64 0, .int .i64 0, .int .i64 0, .int .i64 0, .bool false]) [.int .i64 0, .int .i64 0, .bool false, .int .i64 0, .int .i64 0, .int .i64 0, .int .i64 0, .int .i64 0, .int .i64 0, .bool false] := ⟨by kernel_rfl, by kernel_rfl, rfl, rfl⟩
instance : FieldTy Try.prog 22 0 0 3 0 := ⟨by kernel_rfl, by kernel_rfl⟩
instance : FieldTy Try.prog 22 1 1 3 0 := ⟨by kernel_rfl, by kernel_rfl⟩
instance : FieldTy Try.prog 22 2 2 4 0 := ⟨by kernel_rfl, by kernel_rfl⟩
instance : FieldTy Try.prog 22 3 3 3 0 := ⟨by kernel_rfl, by kernel_rfl⟩
instance : FieldTy Try.prog 22 4 4 3 0 := ⟨by kernel_rfl, by kernel_rfl⟩
instance : FieldTy Try.prog 22 5 5 3 0 := ⟨by kernel_rfl, by kernel_rfl⟩
instance : FieldTy Try.prog 22 6 6 3 0 := ⟨by kernel_rfl, by kernel_rfl⟩
instance : FieldTy Try.prog 22 7 7 3 0 := ⟨by kernel_rfl, by kernel_rfl⟩
instance : FieldTy Try.prog 22 8 8 3 0 := ⟨by kernel_rfl, by kernel_rfl⟩
instance : FieldTy Try.prog 22 9 9 4 0 := ⟨by kernel_rfl, by kernel_rfl⟩
instance : BuildTy Try.prog 22 [(0, 1), (1, 1), (2, 1), (3, 1), (4, 1), (5, 1), (6, 1), (7, 1), (8, 1), (9, 1)] [.int .i64 0, .int .i64 0, .bool false, .int .i64 0, .int .i64 0, .int .i64 0, .int .i64 0, .int .i64 0, .int .i64 0, .bool false] := ⟨fun parts => by kernel_rfl⟩
-- 23 deuce/api.Format
instance : Ty Try.prog 23 true 10 80 (.agg #[.int .i64 0, .int .i64 0, .bool false, .int .i64 0, .int .i64 0, .int .i64 0, .int .i64 0, .int .i64 0, .int .i64 0, .bool false]) [.int .i64 0, .int .i64 0, .bool false, .int .i64 0, .int .i64 0, .int .i64 0, .int .i64 0, .int .i64 0, .int .i64 0, .bool false] := ⟨by kernel_rfl, by kernel_rfl, rfl, rfl⟩
instance : FieldTy Try.prog 23 0 0 3 0 := ⟨by kernel_rfl, by kernel_rfl⟩
instance : FieldTy Try.prog 23 1 1 3 0 := ⟨by kernel_rfl, by kernel_rfl⟩
instance : FieldTy Try.prog 23 2 2 4 0 := ⟨by kernel_rfl, by kernel_rfl⟩
instance : FieldTy Try.prog 23 3 3 3 0 := ⟨by kernel_rfl, by kernel_rfl⟩
instance : FieldTy Try.prog 23 4 4 3 0 := ⟨by kernel_rfl, by kernel_rfl⟩
instance : FieldTy Try.prog 23 5 5 3 0 := ⟨by kernel_rfl, by kernel_rfl⟩
instance : FieldTy Try.prog 23 6 6 3 0 := ⟨by kernel_rfl, by kernel_rfl⟩
instance : FieldTy Try.prog 23 7 7 3 0 := ⟨by kernel_rfl, by kernel_rfl⟩
instance : FieldTy Try.prog 23 8 8 3 0 := ⟨by kernel_rfl, by kernel_rfl⟩
instance : FieldTy Try.prog 23 9 9 4 0 := ⟨by kernel_rfl, by kernel_rfl⟩
instance : BuildTy Try.prog 23 [(0, 1), (1, 1), (2, 1), (3, 1), (4, 1), (5, 1), (6, 1), (7, 1), (8, 1), (9, 1)] [.int .i64 0, .int .i64 0, .bool false, .int .i64 0, .int .i64 0, .int .i64 0, .int .i64 0, .int .i64 0, .int .i64 0, .bool false] := ⟨fun parts => by kernel_rfl⟩
-- 24 []api.Pair
instance : Ty Try.prog 24 false 1 24 (.slice none 0 0) [.slice none 0 0] := ⟨by kernel_rfl, by kernel_rfl, rfl, rfl⟩
instance : SliceTy Try.prog 24 26 := ⟨by kernel_rfl⟩
-- 25 struct { A int; B int }
instance : Ty Try.prog 25 true 2 16 (.agg #[.int .i64 0, .int .i64 0]) [.int .i64 0, .int .i64 0] := ⟨by kernel_rfl, by kernel_rfl, rfl, rfl⟩
instance : EqS Try.prog 25 2 := ⟨by kernel_rfl, by kernel_rfl, by kernel_rfl⟩
instance : FieldTy Try.prog 25 0 0 3 0 := ⟨by kernel_rfl, by kernel_rfl⟩
instance : FieldTy Try.prog 25 1 1 3 0 := ⟨by kernel_rfl, by kernel_rfl⟩
instance : BuildTy Try.prog 25 [(0, 1), (1, 1)] [.int .i64 0, .int .i64 0] := ⟨fun parts => by kernel_rfl⟩
-- 26 deuce/api.Pair
instance : Ty Try.prog 26 true 2 16 (.agg #[.int .i64 0, .int .i64 0]) [.int .i64 0, .int .i64 0] := ⟨by kernel_rfl, by kernel_rfl, rfl, rfl⟩
instance : EqS Try.prog 26 2 := ⟨by kernel_rfl, by kernel_rfl, by kernel_rfl⟩
instance : FieldTy Try.prog 26 0 0 3 0 := ⟨by kernel_rfl, by kernel_rfl⟩
instance : FieldTy Try.prog 26 1 1 3 0 := ⟨by kernel_rfl, by kernel_rfl⟩
instance : BuildTy Try.prog 26 [(0, 1), (1, 1)] [.int .i64 0, .int .i64 0] := ⟨fun parts => by kernel_rfl⟩
-- 27 struct { Sets []api.Pair; Games api.Pair; Points api.Pair }
instance : Ty Try.prog 27 true 5 56 (.agg #[.slice none 0 0, .int .i64 0, .int .i64 0, .int .i64 0, .int .i64 0]) [.slice none 0 0, .int .i64 0, .int .i64 0, .int .i64 0, .int .i64 0] := ⟨by kernel_rfl, by kernel_rfl, rfl, rfl⟩
instance : FieldTy Try.prog 27 0 0 24 0 := ⟨by kernel_rfl, by kernel_rfl⟩
instance : FieldTy Try.prog 27 1 1 26 1 := ⟨by kernel_rfl, by kernel_rfl⟩
instance : FieldTy Try.prog 27 2 3 26 1 := ⟨by kernel_rfl, by kernel_rfl⟩
instance : BuildTy Try.prog 27 [(0, 1), (1, 2), (3, 2)] [.slice none 0 0, .int .i64 0, .int .i64 0, .int .i64 0, .int .i64 0] := ⟨fun parts => by kernel_rfl⟩
-- 28 deuce/api.Board
instance : Ty Try.prog 28 true 5 56 (.agg #[.slice none 0 0, .int .i64 0, .int .i64 0, .int .i64 0, .int .i64 0]) [.slice none 0 0, .int .i64 0, .int .i64 0, .int .i64 0, .int .i64 0] := ⟨by kernel_rfl, by kernel_rfl, rfl, rfl⟩
instance : FieldTy Try.prog 28 0 0 24 0 := ⟨by kernel_rfl, by kernel_rfl⟩
instance : FieldTy Try.prog 28 1 1 26 1 := ⟨by kernel_rfl, by kernel_rfl⟩
instance : FieldTy Try.prog 28 2 3 26 1 := ⟨by kernel_rfl, by kernel_rfl⟩
instance : BuildTy Try.prog 28 [(0, 1), (1, 2), (3, 2)] [.slice none 0 0, .int .i64 0, .int .i64 0, .int .i64 0, .int .i64 0] := ⟨fun parts => by kernel_rfl⟩
-- 29 func() bool
instance : Ty Try.prog 29 false 1 8 (.nilFunc) [.nilFunc] := ⟨by kernel_rfl, by kernel_rfl, rfl, rfl⟩
-- 30 deuce/api.Errno
instance : Ty Try.prog 30 false 1 8 (.int .i64 0) [.int .i64 0] := ⟨by kernel_rfl, by kernel_rfl, rfl, rfl⟩
-- 32 func(api.Format, api.Board) (bool, api.Errno)
instance : Ty Try.prog 32 false 1 8 (.nilFunc) [.nilFunc] := ⟨by kernel_rfl, by kernel_rfl, rfl, rfl⟩
-- 34 func(api.Format, api.Board, int) (int, api.Errno)
instance : Ty Try.prog 34 false 1 8 (.nilFunc) [.nilFunc] := ⟨by kernel_rfl, by kernel_rfl, rfl, rfl⟩
-- 35 func(api.Board, api.Board) bool
instance : Ty Try.prog 35 false 1 8 (.nilFunc) [.nilFunc] := ⟨by kernel_rfl, by kernel_rfl, rfl, rfl⟩
-- 36 func(api.Format, api.Board, int) bool
instance : Ty Try.prog 36 false 1 8 (.nilFunc) [.nilFunc] := ⟨by kernel_rfl, by kernel_rfl, rfl, rfl⟩
-- 37 func(api.Format) bool
instance : Ty Try.prog 37 false 1 8 (.nilFunc) [.nilFunc] := ⟨by kernel_rfl, by kernel_rfl, rfl, rfl⟩
-- 38 struct { Low int; High int }
instance : Ty Try.prog 38 true 2 16 (.agg #[.int .i64 0, .int .i64 0]) [.int .i64 0, .int .i64 0] := ⟨by kernel_rfl, by kernel_rfl, rfl, rfl⟩
instance : EqS Try.prog 38 2 := ⟨by kernel_rfl, by kernel_rfl, by kernel_rfl⟩
instance : FieldTy Try.prog 38 0 0 3 0 := ⟨by kernel_rfl, by kernel_rfl⟩
instance : FieldTy Try.prog 38 1 1 3 0 := ⟨by kernel_rfl, by kernel_rfl⟩
instance : BuildTy Try.prog 38 [(0, 1), (1, 1)] [.int .i64 0, .int .i64 0] := ⟨fun parts => by kernel_rfl⟩
-- 39 deuce/api.Span
instance : Ty Try.prog 39 true 2 16 (.agg #[.int .i64 0, .int .i64 0]) [.int .i64 0, .int .i64 0] := ⟨by kernel_rfl, by kernel_rfl, rfl, rfl⟩
instance : EqS Try.prog 39 2 := ⟨by kernel_rfl, by kernel_rfl, by kernel_rfl⟩
instance : FieldTy Try.prog 39 0 0 3 0 := ⟨by kernel_rfl, by kernel_rfl⟩
instance : FieldTy Try.prog 39 1 1 3 0 := ⟨by kernel_rfl, by kernel_rfl⟩
instance : BuildTy Try.prog 39 [(0, 1), (1, 1)] [.int .i64 0, .int .i64 0] := ⟨fun parts => by kernel_rfl⟩
-- 41 func(api.Format, api.Board) (api.Span, api.Span, api.Errno)
instance : Ty Try.prog 41 false 1 8 (.nilFunc) [.nilFunc] := ⟨by kernel_rfl, by kernel_rfl, rfl, rfl⟩
-- 42 func(api.Format, api.Board) bool
instance : Ty Try.prog 42 false 1 8 (.nilFunc) [.nilFunc] := ⟨by kernel_rfl, by kernel_rfl, rfl, rfl⟩
-- 43 struct { Each int; Towels int; Frames int }
instance : Ty Try.prog 43 true 3 24 (.agg #[.int .i64 0, .int .i64 0, .int .i64 0]) [.int .i64 0, .int .i64 0, .int .i64 0] := ⟨by kernel_rfl, by kernel_rfl, rfl, rfl⟩
instance : EqS Try.prog 43 3 := ⟨by kernel_rfl, by kernel_rfl, by kernel_rfl⟩
instance : FieldTy Try.prog 43 0 0 3 0 := ⟨by kernel_rfl, by kernel_rfl⟩
instance : FieldTy Try.prog 43 1 1 3 0 := ⟨by kernel_rfl, by kernel_rfl⟩
instance : FieldTy Try.prog 43 2 2 3 0 := ⟨by kernel_rfl, by kernel_rfl⟩
instance : BuildTy Try.prog 43 [(0, 1), (1, 1), (2, 1)] [.int .i64 0, .int .i64 0, .int .i64 0] := ⟨fun parts => by kernel_rfl⟩
-- 44 deuce/api.Kit
instance : Ty Try.prog 44 true 3 24 (.agg #[.int .i64 0, .int .i64 0, .int .i64 0]) [.int .i64 0, .int .i64 0, .int .i64 0] := ⟨by kernel_rfl, by kernel_rfl, rfl, rfl⟩
instance : EqS Try.prog 44 3 := ⟨by kernel_rfl, by kernel_rfl, by kernel_rfl⟩
instance : FieldTy Try.prog 44 0 0 3 0 := ⟨by kernel_rfl, by kernel_rfl⟩
instance : FieldTy Try.prog 44 1 1 3 0 := ⟨by kernel_rfl, by kernel_rfl⟩
instance : FieldTy Try.prog 44 2 2 3 0 := ⟨by kernel_rfl, by kernel_rfl⟩
instance : BuildTy Try.prog 44 [(0, 1), (1, 1), (2, 1)] [.int .i64 0, .int .i64 0, .int .i64 0] := ⟨fun parts => by kernel_rfl⟩
-- 45 []int
instance : Ty Try.prog 45 false 1 24 (.slice none 0 0) [.slice none 0 0] := ⟨by kernel_rfl, by kernel_rfl, rfl, rfl⟩
instance : SliceTy Try.prog 45 3 := ⟨by kernel_rfl⟩
-- 46 []api.Fixture
instance : Ty Try.prog 46 false 1 24 (.slice none 0 0) [.slice none 0 0] := ⟨by kernel_rfl, by kernel_rfl, rfl, rfl⟩
instance : SliceTy Try.prog 46 60 := ⟨by kernel_rfl⟩
-- 47 []api.Crate
instance : Ty Try.prog 47 false 1 24 (.slice none 0 0) [.slice none 0 0] := ⟨by kernel_rfl, by kernel_rfl, rfl, rfl⟩
instance : SliceTy Try.prog 47 62 := ⟨by kernel_rfl⟩
-- 48 struct { Kit api.Kit; Stock []int; Fixtures []api.Fixture; Crates []api.Crate }
instance : Ty Try.prog 48 true 6 96 (.agg #[.int .i64 0, .int .i64 0, .int .i64 0, .slice none 0 0, .slice none 0 0, .slice none 0 0]) [.int .i64 0, .int .i64 0, .int .i64 0, .slice none 0 0, .slice none 0 0, .slice none 0 0] := ⟨by kernel_rfl, by kernel_rfl, rfl, rfl⟩
instance : FieldTy Try.prog 48 0 0 44 2 := ⟨by kernel_rfl, by kernel_rfl⟩
instance : FieldTy Try.prog 48 1 3 45 0 := ⟨by kernel_rfl, by kernel_rfl⟩
instance : FieldTy Try.prog 48 2 4 46 0 := ⟨by kernel_rfl, by kernel_rfl⟩
instance : FieldTy Try.prog 48 3 5 47 0 := ⟨by kernel_rfl, by kernel_rfl⟩
instance : BuildTy Try.prog 48 [(0, 3), (3, 1), (4, 1), (5, 1)] [.int .i64 0, .int .i64 0, .int .i64 0, .slice none 0 0, .slice none 0 0, .slice none 0 0] := ⟨fun parts => by kernel_rfl⟩
-- 49 deuce/api.Depot
instance : Ty Try.prog 49 true 6 96 (.agg #[.int .i64 0, .int .i64 0, .int .i64 0, .slice none 0 0, .slice none 0 0, .slice none 0 0]) [.int .i64 0, .int .i64 0, .int .i64 0, .slice none 0 0, .slice none 0 0, .slice none 0 0] := ⟨by kernel_rfl, by kernel_rfl, rfl, rfl⟩
instance : FieldTy Try.prog 49 0 0 44 2 := ⟨by kernel_rfl, by kernel_rfl⟩
instance : FieldTy Try.prog 49 1 3 45 0 := ⟨by kernel_rfl, by kernel_rfl⟩
instance : FieldTy Try.prog 49 2 4 46 0 := ⟨by kernel_rfl, by kernel_rfl⟩
instance : FieldTy Try.prog 49 3 5 47 0 := ⟨by kernel_rfl, by kernel_rfl⟩
instance : BuildTy Try.prog 49 [(0, 3), (3, 1), (4, 1), (5, 1)] [.int .i64 0, .int .i64 0, .int .i64 0, .slice none 0 0, .slice none 0 0, .slice none 0 0] := ⟨fun parts => by kernel_rfl⟩
-- 50 struct { Item int; Day int }
instance : Ty Try.prog 50 true 2 16 (.agg #[.int .i64 0, .int .i64 0]) [.int .i64 0, .int .i64 0] := ⟨by kernel_rfl, by kernel_rfl, rfl, rfl⟩
instance : EqS Try.prog 50 2 := ⟨by kernel_rfl, by kernel_rfl, by kernel_rfl⟩
instance : FieldTy Try.prog 50 0 0 3 0 := ⟨by kernel_rfl, by kernel_rfl⟩
instance : FieldTy Try.prog 50 1 1 3 0 := ⟨by kernel_rfl, by kernel_rfl⟩
instance : BuildTy Try.prog 50 [(0, 1), (1, 1)] [.int .i64 0, .int .i64 0] := ⟨fun parts => by kernel_rfl⟩
-- 51 deuce/deucelaw09.Day
instance : Ty Try.prog 51 true 2 16 (.agg #[.int .i64 0, .int .i64 0]) [.int .i64 0, .int .i64 0] := ⟨by kernel_rfl, by kernel_rfl, rfl, rfl⟩
instance : EqS Try.prog 51 2 := ⟨by kernel_rfl, by kernel_rfl, by kernel_rfl⟩
instance : FieldTy Try.prog 51 0 0 3 0 := ⟨by kernel_rfl, by kernel_rfl⟩
instance : FieldTy Try.prog 51 1 1 3 0 := ⟨by kernel_rfl, by kernel_rfl⟩
instance : BuildTy Try.prog 51 [(0, 1), (1, 1)] [.int .i64 0, .int .i64 0] := ⟨fun parts => by kernel_rfl⟩
-- 52 func(api.Depot, deucelaw09.Day) bool
instance : Ty Try.prog 52 false 1 8 (.nilFunc) [.nilFunc] := ⟨by kernel_rfl, by kernel_rfl, rfl, rfl⟩
-- 53 func(api.Depot, int, int) (int, api.Errno)
instance : Ty Try.prog 53 false 1 8 (.nilFunc) [.nilFunc] := ⟨by kernel_rfl, by kernel_rfl, rfl, rfl⟩
-- 55 func(api.Depot, int, int) (api.Span, api.Errno)
instance : Ty Try.prog 55 false 1 8 (.nilFunc) [.nilFunc] := ⟨by kernel_rfl, by kernel_rfl, rfl, rfl⟩
-- 56 func(api.Depot, deucelaw09.Day, int) api.Depot
instance : Ty Try.prog 56 false 1 8 (.nilFunc) [.nilFunc] := ⟨by kernel_rfl, by kernel_rfl, rfl, rfl⟩
-- 57 func(api.Depot, deucelaw09.Day, int) bool
instance : Ty Try.prog 57 false 1 8 (.nilFunc) [.nilFunc] := ⟨by kernel_rfl, by kernel_rfl, rfl, rfl⟩
-- 58 func(api.Depot) api.Depot
instance : Ty Try.prog 58 false 1 8 (.nilFunc) [.nilFunc] := ⟨by kernel_rfl, by kernel_rfl, rfl, rfl⟩
-- 59 struct { Day int; Format api.Format; Board api.Board }
instance : Ty Try.prog 59 true 16 144 (.agg #[.int .i64 0, .int .i64 0, .int .i64 0, .bool false, .int .i64 0, .int .i64 0, .int .i64 0, .int .i64 0, .int .i64 0, .int .i64 0, .bool false, .slice none 0 0, .int .i64 0, .int .i64 0, .int .i64 0, .int .i64 0]) [.int .i64 0, .int .i64 0, .int .i64 0, .bool false, .int .i64 0, .int .i64 0, .int .i64 0, .int .i64 0, .int .i64 0, .int .i64 0, .bool false, .slice none 0 0, .int .i64 0, .int .i64 0, .int .i64 0, .int .i64 0] := ⟨by kernel_rfl, by kernel_rfl, rfl, rfl⟩
instance : FieldTy Try.prog 59 0 0 3 0 := ⟨by kernel_rfl, by kernel_rfl⟩
instance : FieldTy Try.prog 59 1 1 23 9 := ⟨by kernel_rfl, by kernel_rfl⟩
instance : FieldTy Try.prog 59 2 11 28 4 := ⟨by kernel_rfl, by kernel_rfl⟩
instance : BuildTy Try.prog 59 [(0, 1), (1, 10), (11, 5)] [.int .i64 0, .int .i64 0, .int .i64 0, .bool false, .int .i64 0, .int .i64 0, .int .i64 0, .int .i64 0, .int .i64 0, .int .i64 0, .bool false, .slice none 0 0, .int .i64 0, .int .i64 0, .int .i64 0, .int .i64 0] := ⟨fun parts => by kernel_rfl⟩
-- 60 deuce/api.Fixture
instance : Ty Try.prog 60 true 16 144 (.agg #[.int .i64 0, .int .i64 0, .int .i64 0, .bool false, .int .i64 0, .int .i64 0, .int .i64 0, .int .i64 0, .int .i64 0, .int .i64 0, .bool false, .slice none 0 0, .int .i64 0, .int .i64 0, .int .i64 0, .int .i64 0]) [.int .i64 0, .int .i64 0, .int .i64 0, .bool false, .int .i64 0, .int .i64 0, .int .i64 0, .int .i64 0, .int .i64 0, .int .i64 0, .bool false, .slice none 0 0, .int .i64 0, .int .i64 0, .int .i64 0, .int .i64 0] := ⟨by kernel_rfl, by kernel_rfl, rfl, rfl⟩
instance : FieldTy Try.prog 60 0 0 3 0 := ⟨by kernel_rfl, by kernel_rfl⟩
instance : FieldTy Try.prog 60 1 1 23 9 := ⟨by kernel_rfl, by kernel_rfl⟩
instance : FieldTy Try.prog 60 2 11 28 4 := ⟨by kernel_rfl, by kernel_rfl⟩
instance : BuildTy Try.prog 60 [(0, 1), (1, 10), (11, 5)] [.int .i64 0, .int .i64 0, .int .i64 0, .bool false, .int .i64 0, .int .i64 0, .int .i64 0, .int .i64 0, .int .i64 0, .int .i64 0, .bool false, .slice none 0 0, .int .i64 0, .int .i64 0, .int .i64 0, .int .i64 0] := ⟨fun parts => by kernel_rfl⟩
-- 61 struct { Day int; Item int; Count int }
instance : Ty Try.prog 61 true 3 24 (.agg #[.int .i64 0, .int .i64 0, .int .i64 0]) [.int .i64 0, .int .i64 0, .int .i64 0] := ⟨by kernel_rfl, by kernel_rfl, rfl, rfl⟩
instance : EqS Try.prog 61 3 := ⟨by kernel_rfl, by kernel_rfl, by kernel_rfl⟩
instance : FieldTy Try.prog 61 0 0 3 0 := ⟨by kernel_rfl, by kernel_rfl⟩
instance : FieldTy Try.prog 61 1 1 3 0 := ⟨by kernel_rfl, by kernel_rfl⟩
instance : FieldTy Try.prog 61 2 2 3 0 := ⟨by kernel_rfl, by kernel_rfl⟩
instance : BuildTy Try.prog 61 [(0, 1), (1, 1), (2, 1)] [.int .i64 0, .int .i64 0, .int .i64 0] := ⟨fun parts => by kernel_rfl⟩
-- 62 deuce/api.Crate
instance : Ty Try.prog 62 true 3 24 (.agg #[.int .i64 0, .int .i64 0, .int .i64 0]) [.int .i64 0, .int .i64 0, .int .i64 0] := ⟨by kernel_rfl, by kernel_rfl, rfl, rfl⟩
instance : EqS Try.prog 62 3 := ⟨by kernel_rfl, by kernel_rfl, by kernel_rfl⟩
instance : FieldTy Try.prog 62 0 0 3 0 := ⟨by kernel_rfl, by kernel_rfl⟩
instance : FieldTy Try.prog 62 1 1 3 0 := ⟨by kernel_rfl, by kernel_rfl⟩
instance : FieldTy Try.prog 62 2 2 3 0 := ⟨by kernel_rfl, by kernel_rfl⟩
instance : BuildTy Try.prog 62 [(0, 1), (1, 1), (2, 1)] [.int .i64 0, .int .i64 0, .int .i64 0] := ⟨fun parts => by kernel_rfl⟩
-- 64 func(api.Depot, int) (int, int, api.Errno)
instance : Ty Try.prog 64 false 1 8 (.nilFunc) [.nilFunc] := ⟨by kernel_rfl, by kernel_rfl, rfl, rfl⟩
-- 65 func(int, int) bool
instance : Ty Try.prog 65 false 1 8 (.nilFunc) [.nilFunc] := ⟨by kernel_rfl, by kernel_rfl, rfl, rfl⟩
-- 66 func(api.Depot, api.Crate, api.Fixture) bool
instance : Ty Try.prog 66 false 1 8 (.nilFunc) [.nilFunc] := ⟨by kernel_rfl, by kernel_rfl, rfl, rfl⟩
-- 67 func(api.Depot) bool
instance : Ty Try.prog 67 false 1 8 (.nilFunc) [.nilFunc] := ⟨by kernel_rfl, by kernel_rfl, rfl, rfl⟩
-- 68 func(api.Depot) api.Errno
instance : Ty Try.prog 68 false 1 8 (.nilFunc) [.nilFunc] := ⟨by kernel_rfl, by kernel_rfl, rfl, rfl⟩
-- 70 func() (api.Format, []int)
instance : Ty Try.prog 70 false 1 8 (.nilFunc) [.nilFunc] := ⟨by kernel_rfl, by kernel_rfl, rfl, rfl⟩
-- 71 struct { Board api.Board; Server int; Ends int; Balls int; Winner int }
instance : Ty Try.prog 71 true 9 88 (.agg #[.slice none 0 0, .int .i64 0, .int .i64 0, .int .i64 0, .int .i64 0, .int .i64 0, .int .i64 0, .int .i64 0, .int .i64 0]) [.slice none 0 0, .int .i64 0, .int .i64 0, .int .i64 0, .int .i64 0, .int .i64 0, .int .i64 0, .int .i64 0, .int .i64 0] := ⟨by kernel_rfl, by kernel_rfl, rfl, rfl⟩
instance : FieldTy Try.prog 71 0 0 28 4 := ⟨by kernel_rfl, by kernel_rfl⟩
instance : FieldTy Try.prog 71 1 5 3 0 := ⟨by kernel_rfl, by kernel_rfl⟩
instance : FieldTy Try.prog 71 2 6 3 0 := ⟨by kernel_rfl, by kernel_rfl⟩
instance : FieldTy Try.prog 71 3 7 3 0 := ⟨by kernel_rfl, by kernel_rfl⟩
instance : FieldTy Try.prog 71 4 8 3 0 := ⟨by kernel_rfl, by kernel_rfl⟩
instance : BuildTy Try.prog 71 [(0, 5), (5, 1), (6, 1), (7, 1), (8, 1)] [.slice none 0 0, .int .i64 0, .int .i64 0, .int .i64 0, .int .i64 0, .int .i64 0, .int .i64 0, .int .i64 0, .int .i64 0] := ⟨fun parts => by kernel_rfl⟩
-- 72 deuce/api.Score
instance : Ty Try.prog 72 true 9 88 (.agg #[.slice none 0 0, .int .i64 0, .int .i64 0, .int .i64 0, .int .i64 0, .int .i64 0, .int .i64 0, .int .i64 0, .int .i64 0]) [.slice none 0 0, .int .i64 0, .int .i64 0, .int .i64 0, .int .i64 0, .int .i64 0, .int .i64 0, .int .i64 0, .int .i64 0] := ⟨by kernel_rfl, by kernel_rfl, rfl, rfl⟩
instance : FieldTy Try.prog 72 0 0 28 4 := ⟨by kernel_rfl, by kernel_rfl⟩
instance : FieldTy Try.prog 72 1 5 3 0 := ⟨by kernel_rfl, by kernel_rfl⟩
instance : FieldTy Try.prog 72 2 6 3 0 := ⟨by kernel_rfl, by kernel_rfl⟩
instance : FieldTy Try.prog 72 3 7 3 0 := ⟨by kernel_rfl, by kernel_rfl⟩
instance : FieldTy Try.prog 72 4 8 3 0 := ⟨by kernel_rfl, by kernel_rfl⟩
instance : BuildTy Try.prog 72 [(0, 5), (5, 1), (6, 1), (7, 1), (8, 1)] [.slice none 0 0, .int .i64 0, .int .i64 0, .int .i64 0, .int .i64 0, .int .i64 0, .int .i64 0, .int .i64 0, .int .i64 0] := ⟨fun parts => by kernel_rfl⟩
-- 74 func(api.Format, int, []int) (api.Score, api.Errno)
instance : Ty Try.prog 74 false 1 8 (.nilFunc) [.nilFunc] := ⟨by kernel_rfl, by kernel_rfl, rfl, rfl⟩
-- 75 func(api.Format, []api.Pair) (int, api.Errno)
instance : Ty Try.prog 75 false 1 8 (.nilFunc) [.nilFunc] := ⟨by kernel_rfl, by kernel_rfl, rfl, rfl⟩
-- 76 func(api.Format) api.Errno
instance : Ty Try.prog 76 false 1 8 (.nilFunc) [.nilFunc] := ⟨by kernel_rfl, by kernel_rfl, rfl, rfl⟩
-- 77 func(api.Board) bool
instance : Ty Try.prog 77 false 1 8 (.nilFunc) [.nilFunc] := ⟨by kernel_rfl, by kernel_rfl, rfl, rfl⟩
-- 79 struct { api.Format }
instance : Ty Try.prog 79 true 10 80 (.agg #[.int .i64 0, .int .i64 0, .bool false, .int .i64 0, .int .i64 0, .int .i64 0, .int .i64 0, .int .i64 0, .int .i64 0, .bool false]) [.int .i64 0, .int .i64 0, .bool false, .int .i64 0, .int .i64 0, .int .i64 0, .int .i64 0, .int .i64 0, .int .i64 0, .bool false] := ⟨by kernel_rfl, by kernel_rfl, rfl, rfl⟩
instance : FieldTy Try.prog 79 0 0 23 9 := ⟨by kernel_rfl, by kernel_rfl⟩
instance : BuildTy Try.prog 79 [(0, 10)] [.int .i64 0, .int .i64 0, .bool false, .int .i64 0, .int .i64 0, .int .i64 0, .int .i64 0, .int .i64 0, .int .i64 0, .bool false] := ⟨fun parts => by kernel_rfl⟩
-- 80 deuce/score.rules
instance : Ty Try.prog 80 true 10 80 (.agg #[.int .i64 0, .int .i64 0, .bool false, .int .i64 0, .int .i64 0, .int .i64 0, .int .i64 0, .int .i64 0, .int .i64 0, .bool false]) [.int .i64 0, .int .i64 0, .bool false, .int .i64 0, .int .i64 0, .int .i64 0, .int .i64 0, .int .i64 0, .int .i64 0, .bool false] := ⟨by kernel_rfl, by kernel_rfl, rfl, rfl⟩
instance : FieldTy Try.prog 80 0 0 23 9 := ⟨by kernel_rfl, by kernel_rfl⟩
instance : BuildTy Try.prog 80 [(0, 10)] [.int .i64 0, .int .i64 0, .bool false, .int .i64 0, .int .i64 0, .int .i64 0, .int .i64 0, .int .i64 0, .int .i64 0, .bool false] := ⟨fun parts => by kernel_rfl⟩
-- 81 func(api.Board) (api.Pair, bool)
instance : Ty Try.prog 81 false 1 8 (.nilFunc) [.nilFunc] := ⟨by kernel_rfl, by kernel_rfl, rfl, rfl⟩
-- 82 func(api.Pair) bool
instance : Ty Try.prog 82 false 1 8 (.nilFunc) [.nilFunc] := ⟨by kernel_rfl, by kernel_rfl, rfl, rfl⟩
-- 83 func(api.Pair, int, int) int
instance : Ty Try.prog 83 false 1 8 (.nilFunc) [.nilFunc] := ⟨by kernel_rfl, by kernel_rfl, rfl, rfl⟩
-- 84 func(score.place, api.Pair, int, int, map[score.place]int) int
instance : Ty Try.prog 84 false 1 8 (.nilFunc) [.nilFunc] := ⟨by kernel_rfl, by kernel_rfl, rfl, rfl⟩
-- 85 struct { won api.Pair; games api.Pair }
instance : Ty Try.prog 85 true 4 32 (.agg #[.int .i64 0, .int .i64 0, .int .i64 0, .int .i64 0]) [.int .i64 0, .int .i64 0, .int .i64 0, .int .i64 0] := ⟨by kernel_rfl, by kernel_rfl, rfl, rfl⟩
instance : FieldTy Try.prog 85 0 0 26 1 := ⟨by kernel_rfl, by kernel_rfl⟩
instance : FieldTy Try.prog 85 1 2 26 1 := ⟨by kernel_rfl, by kernel_rfl⟩
instance : BuildTy Try.prog 85 [(0, 2), (2, 2)] [.int .i64 0, .int .i64 0, .int .i64 0, .int .i64 0] := ⟨fun parts => by kernel_rfl⟩
-- 86 deuce/score.place
instance : Ty Try.prog 86 true 4 32 (.agg #[.int .i64 0, .int .i64 0, .int .i64 0, .int .i64 0]) [.int .i64 0, .int .i64 0, .int .i64 0, .int .i64 0] := ⟨by kernel_rfl, by kernel_rfl, rfl, rfl⟩
instance : FieldTy Try.prog 86 0 0 26 1 := ⟨by kernel_rfl, by kernel_rfl⟩
instance : FieldTy Try.prog 86 1 2 26 1 := ⟨by kernel_rfl, by kernel_rfl⟩
instance : BuildTy Try.prog 86 [(0, 2), (2, 2)] [.int .i64 0, .int .i64 0, .int .i64 0, .int .i64 0] := ⟨fun parts => by kernel_rfl⟩
-- 87 func() int
instance : Ty Try.prog 87 false 1 8 (.nilFunc) [.nilFunc] := ⟨by kernel_rfl, by kernel_rfl, rfl, rfl⟩
-- 88 map[score.place]int
instance : Ty Try.prog 88 false 1 8 (.map none) [.map none] := ⟨by kernel_rfl, by kernel_rfl, rfl, rfl⟩
-- 89 func(int, int, int) bool
instance : Ty Try.prog 89 false 1 8 (.nilFunc) [.nilFunc] := ⟨by kernel_rfl, by kernel_rfl, rfl, rfl⟩
-- 90 func([]api.Pair) api.Pair
instance : Ty Try.prog 90 false 1 8 (.nilFunc) [.nilFunc] := ⟨by kernel_rfl, by kernel_rfl, rfl, rfl⟩
-- 91 func(api.Pair) api.Pair
instance : Ty Try.prog 91 false 1 8 (.nilFunc) [.nilFunc] := ⟨by kernel_rfl, by kernel_rfl, rfl, rfl⟩
-- 92 [][]int
instance : Ty Try.prog 92 false 1 24 (.slice none 0 0) [.slice none 0 0] := ⟨by kernel_rfl, by kernel_rfl, rfl, rfl⟩
instance : SliceTy Try.prog 92 45 := ⟨by kernel_rfl⟩
-- 93 func(api.Format, int, int) [][]int
instance : Ty Try.prog 93 false 1 8 (.nilFunc) [.nilFunc] := ⟨by kernel_rfl, by kernel_rfl, rfl, rfl⟩
-- 95 func(api.Format, api.Board) (bool, int)
instance : Ty Try.prog 95 false 1 8 (.nilFunc) [.nilFunc] := ⟨by kernel_rfl, by kernel_rfl, rfl, rfl⟩
-- 96 func(api.Pair, int) int
instance : Ty Try.prog 96 false 1 8 (.nilFunc) [.nilFunc] := ⟨by kernel_rfl, by kernel_rfl, rfl, rfl⟩
-- 97 func(api.Pair, int) api.Pair
instance : Ty Try.prog 97 false 1 8 (.nilFunc) [.nilFunc] := ⟨by kernel_rfl, by kernel_rfl, rfl, rfl⟩
-- 98 func(api.Format, int, int) int
instance : Ty Try.prog 98 false 1 8 (.nilFunc) [.nilFunc] := ⟨by kernel_rfl, by kernel_rfl, rfl, rfl⟩
-- 99 func(int, int, int, bool) int
instance : Ty Try.prog 99 false 1 8 (.nilFunc) [.nilFunc] := ⟨by kernel_rfl, by kernel_rfl, rfl, rfl⟩
-- 100 func() api.Depot
instance : Ty Try.prog 100 false 1 8 (.nilFunc) [.nilFunc] := ⟨by kernel_rfl, by kernel_rfl, rfl, rfl⟩
-- 101 func(api.Format, api.Board) api.Errno
instance : Ty Try.prog 101 false 1 8 (.nilFunc) [.nilFunc] := ⟨by kernel_rfl, by kernel_rfl, rfl, rfl⟩
-- 102 struct { changes api.Span; sets api.Span }
instance : Ty Try.prog 102 true 4 32 (.agg #[.int .i64 0, .int .i64 0, .int .i64 0, .int .i64 0]) [.int .i64 0, .int .i64 0, .int .i64 0, .int .i64 0] := ⟨by kernel_rfl, by kernel_rfl, rfl, rfl⟩
instance : FieldTy Try.prog 102 0 0 39 1 := ⟨by kernel_rfl, by kernel_rfl⟩
instance : FieldTy Try.prog 102 1 2 39 1 := ⟨by kernel_rfl, by kernel_rfl⟩
instance : BuildTy Try.prog 102 [(0, 2), (2, 2)] [.int .i64 0, .int .i64 0, .int .i64 0, .int .i64 0] := ⟨fun parts => by kernel_rfl⟩
-- 103 deuce/balls.bound
instance : Ty Try.prog 103 true 4 32 (.agg #[.int .i64 0, .int .i64 0, .int .i64 0, .int .i64 0]) [.int .i64 0, .int .i64 0, .int .i64 0, .int .i64 0] := ⟨by kernel_rfl, by kernel_rfl, rfl, rfl⟩
instance : FieldTy Try.prog 103 0 0 39 1 := ⟨by kernel_rfl, by kernel_rfl⟩
instance : FieldTy Try.prog 103 1 2 39 1 := ⟨by kernel_rfl, by kernel_rfl⟩
instance : BuildTy Try.prog 103 [(0, 2), (2, 2)] [.int .i64 0, .int .i64 0, .int .i64 0, .int .i64 0] := ⟨fun parts => by kernel_rfl⟩
-- 105 func(api.Format, api.Board) (balls.bound, bool)
instance : Ty Try.prog 105 false 1 8 (.nilFunc) [.nilFunc] := ⟨by kernel_rfl, by kernel_rfl, rfl, rfl⟩
-- 107 func(api.Format) (api.Span, int, api.Errno)
instance : Ty Try.prog 107 false 1 8 (.nilFunc) [.nilFunc] := ⟨by kernel_rfl, by kernel_rfl, rfl, rfl⟩
-- 108 struct { Changes api.Span; Sets api.Span }
instance : Ty Try.prog 108 true 4 32 (.agg #[.int .i64 0, .int .i64 0, .int .i64 0, .int .i64 0]) [.int .i64 0, .int .i64 0, .int .i64 0, .int .i64 0] := ⟨by kernel_rfl, by kernel_rfl, rfl, rfl⟩
instance : FieldTy Try.prog 108 0 0 39 1 := ⟨by kernel_rfl, by kernel_rfl⟩
instance : FieldTy Try.prog 108 1 2 39 1 := ⟨by kernel_rfl, by kernel_rfl⟩
instance : BuildTy Try.prog 108 [(0, 2), (2, 2)] [.int .i64 0, .int .i64 0, .int .i64 0, .int .i64 0] := ⟨fun parts => by kernel_rfl⟩
-- 109 deuce/deuceref09.Course
instance : Ty Try.prog 109 true 4 32 (.agg #[.int .i64 0, .int .i64 0, .int .i64 0, .int .i64 0]) [.int .i64 0, .int .i64 0, .int .i64 0, .int .i64 0] := ⟨by kernel_rfl, by kernel_rfl, rfl, rfl⟩
instance : FieldTy Try.prog 109 0 0 39 1 := ⟨by kernel_rfl, by kernel_rfl⟩
instance : FieldTy Try.prog 109 1 2 39 1 := ⟨by kernel_rfl, by kernel_rfl⟩
instance : BuildTy Try.prog 109 [(0, 2), (2, 2)] [.int .i64 0, .int .i64 0, .int .i64 0, .int .i64 0] := ⟨fun parts => by kernel_rfl⟩
-- 110 func(api.Format, api.Board) deuceref09.Course
instance : Ty Try.prog 110 false 1 8 (.nilFunc) [.nilFunc] := ⟨by kernel_rfl, by kernel_rfl, rfl, rfl⟩
-- 111 [61]api.Span
instance : Ty Try.prog 111 true 122 976 (.agg #[.int .i64 0, .int .i64 0, .int .i64 0, .int .i64 0, .int .i64 0, .int .i64 0, .int .i64 0, .int .i64 0, .int .i64 0, .int .i64 0, .int .i64 0, .int .i64 0, .int .i64 0, .int .i64 0, .int .i64 0, .int .i64 0, .int .i64 0, .int .i64 0, .int .i64 0, .int .i64 0, .int .i64 0, .int .i64 0, .int .i64 0, .int .i64 0, .int .i64 0, .int .i64 0, .int .i64 0, .int .i64 0, .int .i64 0, .int .i64 0, .int .i64 0, .int .i64 0, .int .i64 0, .int .i64 0, .int .i64 0, .int .i64 0, .int .i64 0, .int .i64 0, .int .i64 0, .int .i64 0, .int .i64 0, .int .i64 0, .int .i64 0, .int .i64 0, .int .i64 0, .int .i64 0, .int .i64 0, .int .i64 0, .int .i64 0, .int .i64 0, .int .i64 0, .int .i64 0, .int .i64 0, .int .i64 0, .int .i64 0, .int .i64 0, .int .i64 0, .int .i64 0, .int .i64 0, .int .i64 0, .int .i64 0, .int .i64 0, .int .i64 0, .int .i64 0, .int .i64 0, .int .i64 0, .int .i64 0, .int .i64 0, .int .i64 0, .int .i64 0, .int .i64 0, .int .i64 0, .int .i64 0, .int .i64 0, .int .i64 0, .int .i64 0, .int .i64 0, .int .i64 0, .int .i64 0, .int .i64 0, .int .i64 0, .int .i64 0, .int .i64 0, .int .i64 0, .int .i64 0, .int .i64 0, .int .i64 0, .int .i64 0, .int .i64 0, .int .i64 0, .int .i64 0, .int .i64 0, .int .i64 0, .int .i64 0, .int .i64 0, .int .i64 0, .int .i64 0, .int .i64 0, .int .i64 0, .int .i64 0, .int .i64 0, .int .i64 0, .int .i64 0, .int .i64 0, .int .i64 0, .int .i64 0, .int .i64 0, .int .i64 0, .int .i64 0, .int .i64 0, .int .i64 0, .int .i64 0, .int .i64 0, .int .i64 0, .int .i64 0, .int .i64 0, .int .i64 0, .int .i64 0, .int .i64 0, .int .i64 0, .int .i64 0, .int .i64 0]) [.int .i64 0, .int .i64 0, .int .i64 0, .int .i64 0, .int .i64 0, .int .i64 0, .int .i64 0, .int .i64 0, .int .i64 0, .int .i64 0, .int .i64 0, .int .i64 0, .int .i64 0, .int .i64 0, .int .i64 0, .int .i64 0, .int .i64 0, .int .i64 0, .int .i64 0, .int .i64 0, .int .i64 0, .int .i64 0, .int .i64 0, .int .i64 0, .int .i64 0, .int .i64 0, .int .i64 0, .int .i64 0, .int .i64 0, .int .i64 0, .int .i64 0, .int .i64 0, .int .i64 0, .int .i64 0, .int .i64 0, .int .i64 0, .int .i64 0, .int .i64 0, .int .i64 0, .int .i64 0, .int .i64 0, .int .i64 0, .int .i64 0, .int .i64 0, .int .i64 0, .int .i64 0, .int .i64 0, .int .i64 0, .int .i64 0, .int .i64 0, .int .i64 0, .int .i64 0, .int .i64 0, .int .i64 0, .int .i64 0, .int .i64 0, .int .i64 0, .int .i64 0, .int .i64 0, .int .i64 0, .int .i64 0, .int .i64 0, .int .i64 0, .int .i64 0, .int .i64 0, .int .i64 0, .int .i64 0, .int .i64 0, .int .i64 0, .int .i64 0, .int .i64 0, .int .i64 0, .int .i64 0, .int .i64 0, .int .i64 0, .int .i64 0, .int .i64 0, .int .i64 0, .int .i64 0, .int .i64 0, .int .i64 0, .int .i64 0, .int .i64 0, .int .i64 0, .int .i64 0, .int .i64 0, .int .i64 0, .int .i64 0, .int .i64 0, .int .i64 0, .int .i64 0, .int .i64 0, .int .i64 0, .int .i64 0, .int .i64 0, .int .i64 0, .int .i64 0, .int .i64 0, .int .i64 0, .int .i64 0, .int .i64 0, .int .i64 0, .int .i64 0, .int .i64 0, .int .i64 0, .int .i64 0, .int .i64 0, .int .i64 0, .int .i64 0, .int .i64 0, .int .i64 0, .int .i64 0, .int .i64 0, .int .i64 0, .int .i64 0, .int .i64 0, .int .i64 0, .int .i64 0, .int .i64 0, .int .i64 0, .int .i64 0, .int .i64 0] := ⟨by kernel_rfl, by kernel_rfl, rfl, rfl⟩
instance : ArrayTy Try.prog 111 61 39 := ⟨by kernel_rfl⟩
-- 112 struct { need [61]api.Span; left [61]api.Span }
instance : Ty Try.prog 112 true 244 1952 (.agg #[.int .i64 0, .int .i64 0, .int .i64 0, .int .i64 0, .int .i64 0, .int .i64 0, .int .i64 0, .int .i64 0, .int .i64 0, .int .i64 0, .int .i64 0, .int .i64 0, .int .i64 0, .int .i64 0, .int .i64 0, .int .i64 0, .int .i64 0, .int .i64 0, .int .i64 0, .int .i64 0, .int .i64 0, .int .i64 0, .int .i64 0, .int .i64 0, .int .i64 0, .int .i64 0, .int .i64 0, .int .i64 0, .int .i64 0, .int .i64 0, .int .i64 0, .int .i64 0, .int .i64 0, .int .i64 0, .int .i64 0, .int .i64 0, .int .i64 0, .int .i64 0, .int .i64 0, .int .i64 0, .int .i64 0, .int .i64 0, .int .i64 0, .int .i64 0, .int .i64 0, .int .i64 0, .int .i64 0, .int .i64 0, .int .i64 0, .int .i64 0, .int .i64 0, .int .i64 0, .int .i64 0, .int .i64 0, .int .i64 0, .int .i64 0, .int .i64 0, .int .i64 0, .int .i64 0, .int .i64 0, .int .i64 0, .int .i64 0, .int .i64 0, .int .i64 0, .int .i64 0, .int .i64 0, .int .i64 0, .int .i64 0, .int .i64 0, .int .i64 0, .int .i64 0, .int .i64 0, .int .i64 0, .int .i64 0, .int .i64 0, .int .i64 0, .int .i64 0, .int .i64 0, .int .i64 0, .int .i64 0, .int .i64 0, .int .i64 0, .int .i64 0, .int .i64 0, .int .i64 0, .int .i64 0, .int .i64 0, .int .i64 0, .int .i64 0, .int .i64 0, .int .i64 0, .int .i64 0, .int .i64 0, .int .i64 0, .int .i64 0, .int .i64 0, .int .i64 0, .int .i64 0, .int .i64 0, .int .i64 0, .int .i64 0, .int .i64 0, .int .i64 0, .int .i64 0, .int .i64 0, .int .i64 0, .int .i64 0, .int .i64 0, .int .i64 0, .int .i64 0, .int .i64 0, .int .i64 0, .int .i64 0, .int .i64 0, .int .i64 0, .int .i64 0, .int .i64 0, .int .i64 0, .int .i64 0, .int .i64 0, .int .i64 0, .int .i64 0, .int .i64 0, .int .i64 0, .int .i64 0, .int .i64 0, .int .i64 0, .int .i64 0, .int .i64 0, .int .i64 0, .int .i64 0, .int .i64 0, .int .i64 0, .int .i64 0, .int .i64 0, .int .i64 0, .int .i64 0, .int .i64 0, .int .i64 0, .int .i64 0, .int .i64 0, .int .i64 0, .int .i64 0, .int .i64 0, .int .i64 0, .int .i64 0, .int .i64 0, .int .i64 0, .int .i64 0, .int .i64 0, .int .i64 0, .int .i64 0, .int .i64 0, .int .i64 0, .int .i64 0, .int .i64 0, .int .i64 0, .int .i64 0, .int .i64 0, .int .i64 0, .int .i64 0, .int .i64 0, .int .i64 0, .int .i64 0, .int .i64 0, .int .i64 0, .int .i64 0, .int .i64 0, .int .i64 0, .int .i64 0, .int .i64 0, .int .i64 0, .int .i64 0, .int .i64 0, .int .i64 0, .int .i64 0, .int .i64 0, .int .i64 0, .int .i64 0, .int .i64 0, .int .i64 0, .int .i64 0, .int .i64 0, .int .i64 0, .int .i64 0, .int .i64 0, .int .i64 0, .int .i64 0, .int .i64 0, .int .i64 0, .int .i64 0, .int .i64 0, .int .i64 0, .int .i64 0, .int .i64 0, .int .i64 0, .int .i64 0, .int .i64 0, .int .i64 0, .int .i64 0, .int .i64 0, .int .i64 0, .int .i64 0, .int .i64 0, .int .i64 0, .int .i64 0, .int .i64 0, .int .i64 0, .int .i64 0, .int .i64 0, .int .i64 0, .int .i64 0, .int .i64 0, .int .i64 0, .int .i64 0, .int .i64 0, .int .i64 0, .int .i64 0, .int .i64 0, .int .i64 0, .int .i64 0, .int .i64 0, .int .i64 0, .int .i64 0, .int .i64 0, .int .i64 0, .int .i64 0, .int .i64 0, .int .i64 0, .int .i64 0, .int .i64 0, .int .i64 0, .int .i64 0, .int .i64 0, .int .i64 0, .int .i64 0, .int .i64 0, .int .i64 0, .int .i64 0, .int .i64 0, .int .i64 0, .int .i64 0, .int .i64 0, .int .i64 0]) [.int .i64 0, .int .i64 0, .int .i64 0, .int .i64 0, .int .i64 0, .int .i64 0, .int .i64 0, .int .i64 0, .int .i64 0, .int .i64 0, .int .i64 0, .int .i64 0, .int .i64 0, .int .i64 0, .int .i64 0, .int .i64 0, .int .i64 0, .int .i64 0, .int .i64 0, .int .i64 0, .int .i64 0, .int .i64 0, .int .i64 0, .int .i64 0, .int .i64 0, .int .i64 0, .int .i64 0, .int .i64 0, .int .i64 0, .int .i64 0, .int .i64 0, .int .i64 0, .int .i64 0, .int .i64 0, .int .i64 0, .int .i64 0, .int .i64 0, .int .i64 0, .int .i64 0, .int .i64 0, .int .i64 0, .int .i64 0, .int .i64 0, .int .i64 0, .int .i64 0, .int .i64 0, .int .i64 0, .int .i64 0, .int .i64 0, .int .i64 0, .int .i64 0, .int .i64 0, .int .i64 0, .int .i64 0, .int .i64 0, .int .i64 0, .int .i64 0, .int .i64 0, .int .i64 0, .int .i64 0, .int .i64 0, .int .i64 0, .int .i64 0, .int .i64 0, .int .i64 0, .int .i64 0, .int .i64 0, .int .i64 0, .int .i64 0, .int .i64 0, .int .i64 0, .int .i64 0, .int .i64 0, .int .i64 0, .int .i64 0, .int .i64 0, .int .i64 0, .int .i64 0, .int .i64 0, .int .i64 0, .int .i64 0, .int .i64 0, .int .i64 0, .int .i64 0, .int .i64 0, .int .i64 0, .int .i64 0, .int .i64 0, .int .i64 0, .int .i64 0, .int .i64 0, .int .i64 0, .int .i64 0, .int .i64 0, .int .i64 0, .int .i64 0, .int .i64 0, .int .i64 0, .int .i64 0, .int .i64 0, .int .i64 0, .int .i64 0, .int .i64 0, .int .i64 0, .int .i64 0, .int .i64 0, .int .i64 0, .int .i64 0, .int .i64 0, .int .i64 0, .int .i64 0, .int .i64 0, .int .i64 0, .int .i64 0, .int .i64 0, .int .i64 0, .int .i64 0, .int .i64 0, .int .i64 0, .int .i64 0, .int .i64 0, .int .i64 0, .int .i64 0, .int .i64 0, .int .i64 0, .int .i64 0, .int .i64 0, .int .i64 0, .int .i64 0, .int .i64 0, .int .i64 0, .int .i64 0, .int .i64 0, .int .i64 0, .int .i64 0, .int .i64 0, .int .i64 0, .int .i64 0, .int .i64 0, .int .i64 0, .int .i64 0, .int .i64 0, .int .i64 0, .int .i64 0, .int .i64 0, .int .i64 0, .int .i64 0, .int .i64 0, .int .i64 0, .int .i64 0, .int .i64 0, .int .i64 0, .int .i64 0, .int .i64 0, .int .i64 0, .int .i64 0, .int .i64 0, .int .i64 0, .int .i64 0, .int .i64 0, .int .i64 0, .int .i64 0, .int .i64 0, .int .i64 0, .int .i64 0, .int .i64 0, .int .i64 0, .int .i64 0, .int .i64 0, .int .i64 0, .int .i64 0, .int .i64 0, .int .i64 0, .int .i64 0, .int .i64 0, .int .i64 0, .int .i64 0, .int .i64 0, .int .i64 0, .int .i64 0, .int .i64 0, .int .i64 0, .int .i64 0, .int .i64 0, .int .i64 0, .int .i64 0, .int .i64 0, .int .i64 0, .int .i64 0, .int .i64 0, .int .i64 0, .int .i64 0, .int .i64 0, .int .i64 0, .int .i64 0, .int .i64 0, .int .i64 0, .int .i64 0, .int .i64 0, .int .i64 0, .int .i64 0, .int .i64 0, .int .i64 0, .int .i64 0, .int .i64 0, .int .i64 0, .int .i64 0, .int .i64 0, .int .i64 0, .int .i64 0, .int .i64 0, .int .i64 0, .int .i64 0, .int .i64 0, .int .i64 0, .int .i64 0, .int .i64 0, .int .i64 0, .int .i64 0, .int .i64 0, .int .i64 0, .int .i64 0, .int .i64 0, .int .i64 0, .int .i64 0, .int .i64 0, .int .i64 0, .int .i64 0, .int .i64 0, .int .i64 0, .int .i64 0, .int .i64 0, .int .i64 0, .int .i64 0, .int .i64 0, .int .i64 0, .int .i64 0, .int .i64 0, .int .i64 0, .int .i64 0, .int .i64 0, .int .i64 0, .int .i64 0, .int .i64 0] := ⟨by kernel_rfl, by kernel_rfl, rfl, rfl⟩
instance : FieldTy Try.prog 112 0 0 111 121 := ⟨by kernel_rfl, by kernel_rfl⟩
instance : FieldTy Try.prog 112 1 122 111 121 := ⟨by kernel_rfl, by kernel_rfl⟩
instance : BuildTy Try.prog 112 [(0, 122), (122, 122)] [.int .i64 0, .int .i64 0, .int .i64 0, .int .i64 0, .int .i64 0, .int .i64 0, .int .i64 0, .int .i64 0, .int .i64 0, .int .i64 0, .int .i64 0, .int .i64 0, .int .i64 0, .int .i64 0, .int .i64 0, .int .i64 0, .int .i64 0, .int .i64 0, .int .i64 0, .int .i64 0, .int .i64 0, .int .i64 0, .int .i64 0, .int .i64 0, .int .i64 0, .int .i64 0, .int .i64 0, .int .i64 0, .int .i64 0, .int .i64 0, .int .i64 0, .int .i64 0, .int .i64 0, .int .i64 0, .int .i64 0, .int .i64 0, .int .i64 0, .int .i64 0, .int .i64 0, .int .i64 0, .int .i64 0, .int .i64 0, .int .i64 0, .int .i64 0, .int .i64 0, .int .i64 0, .int .i64 0, .int .i64 0, .int .i64 0, .int .i64 0, .int .i64 0, .int .i64 0, .int .i64 0, .int .i64 0, .int .i64 0, .int .i64 0, .int .i64 0, .int .i64 0, .int .i64 0, .int .i64 0, .int .i64 0, .int .i64 0, .int .i64 0, .int .i64 0, .int .i64 0, .int .i64 0, .int .i64 0, .int .i64 0, .int .i64 0, .int .i64 0, .int .i64 0, .int .i64 0, .int .i64 0, .int .i64 0, .int .i64 0, .int .i64 0, .int .i64 0, .int .i64 0, .int .i64 0, .int .i64 0, .int .i64 0, .int .i64 0, .int .i64 0, .int .i64 0, .int .i64 0, .int .i64 0, .int .i64 0, .int .i64 0, .int .i64 0, .int .i64 0, .int .i64 0, .int .i64 0, .int .i64 0, .int .i64 0, .int .i64 0, .int .i64 0, .int .i64 0, .int .i64 0, .int .i64 0, .int .i64 0, .int .i64 0, .int .i64 0, .int .i64 0, .int .i64 0, .int .i64 0, .int .i64 0, .int .i64 0, .int .i64 0, .int .i64 0, .int .i64 0, .int .i64 0, .int .i64 0, .int .i64 0, .int .i64 0, .int .i64 0, .int .i64 0, .int .i64 0, .int .i64 0, .int .i64 0, .int .i64 0, .int .i64 0, .int .i64 0, .int .i64 0, .int .i64 0, .int .i64 0, .int .i64 0, .int .i64 0, .int .i64 0, .int .i64 0, .int .i64 0, .int .i64 0, .int .i64 0, .int .i64 0, .int .i64 0, .int .i64 0, .int .i64 0, .int .i64 0, .int .i64 0, .int .i64 0, .int .i64 0, .int .i64 0, .int .i64 0, .int .i64 0, .int .i64 0, .int .i64 0, .int .i64 0, .int .i64 0, .int .i64 0, .int .i64 0, .int .i64 0, .int .i64 0, .int .i64 0, .int .i64 0, .int .i64 0, .int .i64 0, .int .i64 0, .int .i64 0, .int .i64 0, .int .i64 0, .int .i64 0, .int .i64 0, .int .i64 0, .int .i64 0, .int .i64 0, .int .i64 0, .int .i64 0, .int .i64 0, .int .i64 0, .int .i64 0, .int .i64 0, .int .i64 0, .int .i64 0, .int .i64 0, .int .i64 0, .int .i64 0, .int .i64 0, .int .i64 0, .int .i64 0, .int .i64 0, .int .i64 0, .int .i64 0, .int .i64 0, .int .i64 0, .int .i64 0, .int .i64 0, .int .i64 0, .int .i64 0, .int .i64 0, .int .i64 0, .int .i64 0, .int .i64 0, .int .i64 0, .int .i64 0, .int .i64 0, .int .i64 0, .int .i64 0, .int .i64 0, .int .i64 0, .int .i64 0, .int .i64 0, .int .i64 0, .int .i64 0, .int .i64 0, .int .i64 0, .int .i64 0, .int .i64 0, .int .i64 0, .int .i64 0, .int .i64 0, .int .i64 0, .int .i64 0, .int .i64 0, .int .i64 0, .int .i64 0, .int .i64 0, .int .i64 0, .int .i64 0, .int .i64 0, .int .i64 0, .int .i64 0, .int .i64 0, .int .i64 0, .int .i64 0, .int .i64 0, .int .i64 0, .int .i64 0, .int .i64 0, .int .i64 0, .int .i64 0, .int .i64 0, .int .i64 0, .int .i64 0, .int .i64 0, .int .i64 0, .int .i64 0, .int .i64 0, .int .i64 0, .int .i64 0, .int .i64 0, .int .i64 0, .int .i64 0, .int .i64 0, .int .i64 0, .int .i64 0] := ⟨fun parts => by kernel_rfl⟩
-- 113 deuce/balls.week
instance : Ty Try.prog 113 true 244 1952 (.agg #[.int .i64 0, .int .i64 0, .int .i64 0, .int .i64 0, .int .i64 0, .int .i64 0, .int .i64 0, .int .i64 0, .int .i64 0, .int .i64 0, .int .i64 0, .int .i64 0, .int .i64 0, .int .i64 0, .int .i64 0, .int .i64 0, .int .i64 0, .int .i64 0, .int .i64 0, .int .i64 0, .int .i64 0, .int .i64 0, .int .i64 0, .int .i64 0, .int .i64 0, .int .i64 0, .int .i64 0, .int .i64 0, .int .i64 0, .int .i64 0, .int .i64 0, .int .i64 0, .int .i64 0, .int .i64 0, .int .i64 0, .int .i64 0, .int .i64 0, .int .i64 0, .int .i64 0, .int .i64 0, .int .i64 0, .int .i64 0, .int .i64 0, .int .i64 0, .int .i64 0, .int .i64 0, .int .i64 0, .int .i64 0, .int .i64 0, .int .i64 0, .int .i64 0, .int .i64 0, .int .i64 0, .int .i64 0, .int .i64 0, .int .i64 0, .int .i64 0, .int .i64 0, .int .i64 0, .int .i64 0, .int .i64 0, .int .i64 0, .int .i64 0, .int .i64 0, .int .i64 0, .int .i64 0, .int .i64 0, .int .i64 0, .int .i64 0, .int .i64 0, .int .i64 0, .int .i64 0, .int .i64 0, .int .i64 0, .int .i64 0, .int .i64 0, .int .i64 0, .int .i64 0, .int .i64 0, .int .i64 0, .int .i64 0, .int .i64 0, .int .i64 0, .int .i64 0, .int .i64 0, .int .i64 0, .int .i64 0, .int .i64 0, .int .i64 0, .int .i64 0, .int .i64 0, .int .i64 0, .int .i64 0, .int .i64 0, .int .i64 0, .int .i64 0, .int .i64 0, .int .i64 0, .int .i64 0, .int .i64 0, .int .i64 0, .int .i64 0, .int .i64 0, .int .i64 0, .int .i64 0, .int .i64 0, .int .i64 0, .int .i64 0, .int .i64 0, .int .i64 0, .int .i64 0, .int .i64 0, .int .i64 0, .int .i64 0, .int .i64 0, .int .i64 0, .int .i64 0, .int .i64 0, .int .i64 0, .int .i64 0, .int .i64 0, .int .i64 0, .int .i64 0, .int .i64 0, .int .i64 0, .int .i64 0, .int .i64 0, .int .i64 0, .int .i64 0, .int .i64 0, .int .i64 0, .int .i64 0, .int .i64 0, .int .i64 0, .int .i64 0, .int .i64 0, .int .i64 0, .int .i64 0, .int .i64 0, .int .i64 0, .int .i64 0, .int .i64 0, .int .i64 0, .int .i64 0, .int .i64 0, .int .i64 0, .int .i64 0, .int .i64 0, .int .i64 0, .int .i64 0, .int .i64 0, .int .i64 0, .int .i64 0, .int .i64 0, .int .i64 0, .int .i64 0, .int .i64 0, .int .i64 0, .int .i64 0, .int .i64 0, .int .i64 0, .int .i64 0, .int .i64 0, .int .i64 0, .int .i64 0, .int .i64 0, .int .i64 0, .int .i64 0, .int .i64 0, .int .i64 0, .int .i64 0, .int .i64 0, .int .i64 0, .int .i64 0, .int .i64 0, .int .i64 0, .int .i64 0, .int .i64 0, .int .i64 0, .int .i64 0, .int .i64 0, .int .i64 0, .int .i64 0, .int .i64 0, .int .i64 0, .int .i64 0, .int .i64 0, .int .i64 0, .int .i64 0, .int .i64 0, .int .i64 0, .int .i64 0, .int .i64 0, .int .i64 0, .int .i64 0, .int .i64 0, .int .i64 0, .int .i64 0, .int .i64 0, .int .i64 0, .int .i64 0, .int .i64 0, .int .i64 0, .int .i64 0, .int .i64 0, .int .i64 0, .int .i64 0, .int .i64 0, .int .i64 0, .int .i64 0, .int .i64 0, .int .i64 0, .int .i64 0, .int .i64 0, .int .i64 0, .int .i64 0, .int .i64 0, .int .i64 0, .int .i64 0, .int .i64 0, .int .i64 0, .int .i64 0, .int .i64 0, .int .i64 0, .int .i64 0, .int .i64 0, .int .i64 0, .int .i64 0, .int .i64 0, .int .i64 0, .int .i64 0, .int .i64 0, .int .i64 0, .int .i64 0, .int .i64 0, .int .i64 0, .int .i64 0, .int .i64 0, .int .i64 0, .int .i64 0, .int .i64 0, .int .i64 0, .int .i64 0, .int .i64 0]) [.int .i64 0, .int .i64 0, .int .i64 0, .int .i64 0, .int .i64 0, .int .i64 0, .int .i64 0, .int .i64 0, .int .i64 0, .int .i64 0, .int .i64 0, .int .i64 0, .int .i64 0, .int .i64 0, .int .i64 0, .int .i64 0, .int .i64 0, .int .i64 0, .int .i64 0, .int .i64 0, .int .i64 0, .int .i64 0, .int .i64 0, .int .i64 0, .int .i64 0, .int .i64 0, .int .i64 0, .int .i64 0, .int .i64 0, .int .i64 0, .int .i64 0, .int .i64 0, .int .i64 0, .int .i64 0, .int .i64 0, .int .i64 0, .int .i64 0, .int .i64 0, .int .i64 0, .int .i64 0, .int .i64 0, .int .i64 0, .int .i64 0, .int .i64 0, .int .i64 0, .int .i64 0, .int .i64 0, .int .i64 0, .int .i64 0, .int .i64 0, .int .i64 0, .int .i64 0, .int .i64 0, .int .i64 0, .int .i64 0, .int .i64 0, .int .i64 0, .int .i64 0, .int .i64 0, .int .i64 0, .int .i64 0, .int .i64 0, .int .i64 0, .int .i64 0, .int .i64 0, .int .i64 0, .int .i64 0, .int .i64 0, .int .i64 0, .int .i64 0, .int .i64 0, .int .i64 0, .int .i64 0, .int .i64 0, .int .i64 0, .int .i64 0, .int .i64 0, .int .i64 0, .int .i64 0, .int .i64 0, .int .i64 0, .int .i64 0, .int .i64 0, .int .i64 0, .int .i64 0, .int .i64 0, .int .i64 0, .int .i64 0, .int .i64 0, .int .i64 0, .int .i64 0, .int .i64 0, .int .i64 0, .int .i64 0, .int .i64 0, .int .i64 0, .int .i64 0, .int .i64 0, .int .i64 0, .int .i64 0, .int .i64 0, .int .i64 0, .int .i64 0, .int .i64 0, .int .i64 0, .int .i64 0, .int .i64 0, .int .i64 0, .int .i64 0, .int .i64 0, .int .i64 0, .int .i64 0, .int .i64 0, .int .i64 0, .int .i64 0, .int .i64 0, .int .i64 0, .int .i64 0, .int .i64 0, .int .i64 0, .int .i64 0, .int .i64 0, .int .i64 0, .int .i64 0, .int .i64 0, .int .i64 0, .int .i64 0, .int .i64 0, .int .i64 0, .int .i64 0, .int .i64 0, .int .i64 0, .int .i64 0, .int .i64 0, .int .i64 0, .int .i64 0, .int .i64 0, .int .i64 0, .int .i64 0, .int .i64 0, .int .i64 0, .int .i64 0, .int .i64 0, .int .i64 0, .int .i64 0, .int .i64 0, .int .i64 0, .int .i64 0, .int .i64 0, .int .i64 0, .int .i64 0, .int .i64 0, .int .i64 0, .int .i64 0, .int .i64 0, .int .i64 0, .int .i64 0, .int .i64 0, .int .i64 0, .int .i64 0, .int .i64 0, .int .i64 0, .int .i64 0, .int .i64 0, .int .i64 0, .int .i64 0, .int .i64 0, .int .i64 0, .int .i64 0, .int .i64 0, .int .i64 0, .int .i64 0, .int .i64 0, .int .i64 0, .int .i64 0, .int .i64 0, .int .i64 0, .int .i64 0, .int .i64 0, .int .i64 0, .int .i64 0, .int .i64 0, .int .i64 0, .int .i64 0, .int .i64 0, .int .i64 0, .int .i64 0, .int .i64 0, .int .i64 0, .int .i64 0, .int .i64 0, .int .i64 0, .int .i64 0, .int .i64 0, .int .i64 0, .int .i64 0, .int .i64 0, .int .i64 0, .int .i64 0, .int .i64 0, .int .i64 0, .int .i64 0, .int .i64 0, .int .i64 0, .int .i64 0, .int .i64 0, .int .i64 0, .int .i64 0, .int .i64 0, .int .i64 0, .int .i64 0, .int .i64 0, .int .i64 0, .int .i64 0, .int .i64 0, .int .i64 0, .int .i64 0, .int .i64 0, .int .i64 0, .int .i64 0, .int .i64 0, .int .i64 0, .int .i64 0, .int .i64 0, .int .i64 0, .int .i64 0, .int .i64 0, .int .i64 0, .int .i64 0, .int .i64 0, .int .i64 0, .int .i64 0, .int .i64 0, .int .i64 0, .int .i64 0, .int .i64 0, .int .i64 0, .int .i64 0, .int .i64 0, .int .i64 0, .int .i64 0, .int .i64 0, .int .i64 0, .int .i64 0] := ⟨by kernel_rfl, by kernel_rfl, rfl, rfl⟩
instance : FieldTy Try.prog 113 0 0 111 121 := ⟨by kernel_rfl, by kernel_rfl⟩
instance : FieldTy Try.prog 113 1 122 111 121 := ⟨by kernel_rfl, by kernel_rfl⟩
instance : BuildTy Try.prog 113 [(0, 122), (122, 122)] [.int .i64 0, .int .i64 0, .int .i64 0, .int .i64 0, .int .i64 0, .int .i64 0, .int .i64 0, .int .i64 0, .int .i64 0, .int .i64 0, .int .i64 0, .int .i64 0, .int .i64 0, .int .i64 0, .int .i64 0, .int .i64 0, .int .i64 0, .int .i64 0, .int .i64 0, .int .i64 0, .int .i64 0, .int .i64 0, .int .i64 0, .int .i64 0, .int .i64 0, .int .i64 0, .int .i64 0, .int .i64 0, .int .i64 0, .int .i64 0, .int .i64 0, .int .i64 0, .int .i64 0, .int .i64 0, .int .i64 0, .int .i64 0, .int .i64 0, .int .i64 0, .int .i64 0, .int .i64 0, .int .i64 0, .int .i64 0, .int .i64 0, .int .i64 0, .int .i64 0, .int .i64 0, .int .i64 0, .int .i64 0, .int .i64 0, .int .i64 0, .int .i64 0, .int .i64 0, .int .i64 0, .int .i64 0, .int .i64 0, .int .i64 0, .int .i64 0, .int .i64 0, .int .i64 0, .int .i64 0, .int .i64 0, .int .i64 0, .int .i64 0, .int .i64 0, .int .i64 0, .int .i64 0, .int .i64 0, .int .i64 0, .int .i64 0, .int .i64 0, .int .i64 0, .int .i64 0, .int .i64 0, .int .i64 0, .int .i64 0, .int .i64 0, .int .i64 0, .int .i64 0, .int .i64 0, .int .i64 0, .int .i64 0, .int .i64 0, .int .i64 0, .int .i64 0, .int .i64 0, .int .i64 0, .int .i64 0, .int .i64 0, .int .i64 0, .int .i64 0, .int .i64 0, .int .i64 0, .int .i64 0, .int .i64 0, .int .i64 0, .int .i64 0, .int .i64 0, .int .i64 0, .int .i64 0, .int .i64 0, .int .i64 0, .int .i64 0, .int .i64 0, .int .i64 0, .int .i64 0, .int .i64 0, .int .i64 0, .int .i64 0, .int .i64 0, .int .i64 0, .int .i64 0, .int .i64 0, .int .i64 0, .int .i64 0, .int .i64 0, .int .i64 0, .int .i64 0, .int .i64 0, .int .i64 0, .int .i64 0, .int .i64 0, .int .i64 0, .int .i64 0, .int .i64 0, .int .i64 0, .int .i64 0, .int .i64 0, .int .i64 0, .int .i64 0, .int .i64 0, .int .i64 0, .int .i64 0, .int .i64 0, .int .i64 0, .int .i64 0, .int .i64 0, .int .i64 0, .int .i64 0, .int .i64 0, .int .i64 0, .int .i64 0, .int .i64 0, .int .i64 0, .int .i64 0, .int .i64 0, .int .i64 0, .int .i64 0, .int .i64 0, .int .i64 0, .int .i64 0, .int .i64 0, .int .i64 0, .int .i64 0, .int .i64 0, .int .i64 0, .int .i64 0, .int .i64 0, .int .i64 0, .int .i64 0, .int .i64 0, .int .i64 0, .int .i64 0, .int .i64 0, .int .i64 0, .int .i64 0, .int .i64 0, .int .i64 0, .int .i64 0, .int .i64 0, .int .i64 0, .int .i64 0, .int .i64 0, .int .i64 0, .int .i64 0, .int .i64 0, .int .i64 0, .int .i64 0, .int .i64 0, .int .i64 0, .int .i64 0, .int .i64 0, .int .i64 0, .int .i64 0, .int .i64 0, .int .i64 0, .int .i64 0, .int .i64 0, .int .i64 0, .int .i64 0, .int .i64 0, .int .i64 0, .int .i64 0, .int .i64 0, .int .i64 0, .int .i64 0, .int .i64 0, .int .i64 0, .int .i64 0, .int .i64 0, .int .i64 0, .int .i64 0, .int .i64 0, .int .i64 0, .int .i64 0, .int .i64 0, .int .i64 0, .int .i64 0, .int .i64 0, .int .i64 0, .int .i64 0, .int .i64 0, .int .i64 0, .int .i64 0, .int .i64 0, .int .i64 0, .int .i64 0, .int .i64 0, .int .i64 0, .int .i64 0, .int .i64 0, .int .i64 0, .int .i64 0, .int .i64 0, .int .i64 0, .int .i64 0, .int .i64 0, .int .i64 0, .int .i64 0, .int .i64 0, .int .i64 0, .int .i64 0, .int .i64 0, .int .i64 0, .int .i64 0, .int .i64 0, .int .i64 0, .int .i64 0, .int .i64 0, .int .i64 0, .int .i64 0, .int .i64 0, .int .i64 0, .int .i64 0, .int .i64 0] := ⟨fun parts => by kernel_rfl⟩
-- 115 func(api.Depot, int, int) (balls.week, api.Errno)
instance : Ty Try.prog 115 false 1 8 (.nilFunc) [.nilFunc] := ⟨by kernel_rfl, by kernel_rfl, rfl, rfl⟩
-- 116 []api.Span
instance : Ty Try.prog 116 false 1 24 (.slice none 0 0) [.slice none 0 0] := ⟨by kernel_rfl, by kernel_rfl, rfl, rfl⟩
instance : SliceTy Try.prog 116 39 := ⟨by kernel_rfl⟩
-- 117 func([]api.Span, func(api.Span) bool) int
instance : Ty Try.prog 117 false 1 8 (.nilFunc) [.nilFunc] := ⟨by kernel_rfl, by kernel_rfl, rfl, rfl⟩
-- 118 func(api.Span) bool
instance : Ty Try.prog 118 false 1 8 (.nilFunc) [.nilFunc] := ⟨by kernel_rfl, by kernel_rfl, rfl, rfl⟩
-- 119 func(int) bool
instance : Ty Try.prog 119 false 1 8 (.nilFunc) [.nilFunc] := ⟨by kernel_rfl, by kernel_rfl, rfl, rfl⟩
-- 120 func([]int, func(int) bool) bool
instance : Ty Try.prog 120 false 1 8 (.nilFunc) [.nilFunc] := ⟨by kernel_rfl, by kernel_rfl, rfl, rfl⟩
-- 121 func(api.Fixture) bool
instance : Ty Try.prog 121 false 1 8 (.nilFunc) [.nilFunc] := ⟨by kernel_rfl, by kernel_rfl, rfl, rfl⟩
-- 122 func(api.Depot, int, int) api.Errno
instance : Ty Try.prog 122 false 1 8 (.nilFunc) [.nilFunc] := ⟨by kernel_rfl, by kernel_rfl, rfl, rfl⟩
-- 123 func(api.Depot, int, int) api.Span
instance : Ty Try.prog 123 false 1 8 (.nilFunc) [.nilFunc] := ⟨by kernel_rfl, by kernel_rfl, rfl, rfl⟩
-- 124 func(api.Depot, int) []api.Span
instance : Ty Try.prog 124 false 1 8 (.nilFunc) [.nilFunc] := ⟨by kernel_rfl, by kernel_rfl, rfl, rfl⟩
-- 125 *score.match
instance : Ty Try.prog 125 false 1 8 (.pointer none) [.pointer none] := ⟨by kernel_rfl, by kernel_rfl, rfl, rfl⟩
-- 127 func(api.Format, int, []int) (*score.match, api.Errno)
instance : Ty Try.prog 127 false 1 8 (.nilFunc) [.nilFunc] := ⟨by kernel_rfl, by kernel_rfl, rfl, rfl⟩
-- 128 []bool
instance : Ty Try.prog 128 false 1 24 (.slice none 0 0) [.slice none 0 0] := ⟨by kernel_rfl, by kernel_rfl, rfl, rfl⟩
instance : SliceTy Try.prog 128 4 := ⟨by kernel_rfl⟩
-- 129 []api.Game
instance : Ty Try.prog 129 false 1 24 (.slice none 0 0) [.slice none 0 0] := ⟨by kernel_rfl, by kernel_rfl, rfl, rfl⟩
instance : SliceTy Try.prog 129 188 := ⟨by kernel_rfl⟩
-- 130 struct { score.rules; api.Score; first int; won api.Pair; ties []bool; games []api.Game }
instance : Ty Try.prog 130 true 24 240 (.agg #[.int .i64 0, .int .i64 0, .bool false, .int .i64 0, .int .i64 0, .int .i64 0, .int .i64 0, .int .i64 0, .int .i64 0, .bool false, .slice none 0 0, .int .i64 0, .int .i64 0, .int .i64 0, .int .i64 0, .int .i64 0, .int .i64 0, .int .i64 0, .int .i64 0, .int .i64 0, .int .i64 0, .int .i64 0, .slice none 0 0, .slice none 0 0]) [.int .i64 0, .int .i64 0, .bool false, .int .i64 0, .int .i64 0, .int .i64 0, .int .i64 0, .int .i64 0, .int .i64 0, .bool false, .slice none 0 0, .int .i64 0, .int .i64 0, .int .i64 0, .int .i64 0, .int .i64 0, .int .i64 0, .int .i64 0, .int .i64 0, .int .i64 0, .int .i64 0, .int .i64 0, .slice none 0 0, .slice none 0 0] := ⟨by kernel_rfl, by kernel_rfl, rfl, rfl⟩
instance : FieldTy Try.prog 130 0 0 80 9 := ⟨by kernel_rfl, by kernel_rfl⟩
instance : FieldTy Try.prog 130 1 10 72 8 := ⟨by kernel_rfl, by kernel_rfl⟩
instance : FieldTy Try.prog 130 2 19 3 0 := ⟨by kernel_rfl, by kernel_rfl⟩
instance : FieldTy Try.prog 130 3 20 26 1 := ⟨by kernel_rfl, by kernel_rfl⟩
instance : FieldTy Try.prog 130 4 22 128 0 := ⟨by kernel_rfl, by kernel_rfl⟩
instance : FieldTy Try.prog 130 5 23 129 0 := ⟨by kernel_rfl, by kernel_rfl⟩
instance : BuildTy Try.prog 130 [(0, 10), (10, 9), (19, 1), (20, 2), (22, 1), (23, 1)] [.int .i64 0, .int .i64 0, .bool false, .int .i64 0, .int .i64 0, .int .i64 0, .int .i64 0, .int .i64 0, .int .i64 0, .bool false, .slice none 0 0, .int .i64 0, .int .i64 0, .int .i64 0, .int .i64 0, .int .i64 0, .int .i64 0, .int .i64 0, .int .i64 0, .int .i64 0, .int .i64 0, .int .i64 0, .slice none 0 0, .slice none 0 0] := ⟨fun parts => by kernel_rfl⟩
-- 131 deuce/score.match
instance : Ty Try.prog 131 true 24 240 (.agg #[.int .i64 0, .int .i64 0, .bool false, .int .i64 0, .int .i64 0, .int .i64 0, .int .i64 0, .int .i64 0, .int .i64 0, .bool false, .slice none 0 0, .int .i64 0, .int .i64 0, .int .i64 0, .int .i64 0, .int .i64 0, .int .i64 0, .int .i64 0, .int .i64 0, .int .i64 0, .int .i64 0, .int .i64 0, .slice none 0 0, .slice none 0 0]) [.int .i64 0, .int .i64 0, .bool false, .int .i64 0, .int .i64 0, .int .i64 0, .int .i64 0, .int .i64 0, .int .i64 0, .bool false, .slice none 0 0, .int .i64 0, .int .i64 0, .int .i64 0, .int .i64 0, .int .i64 0, .int .i64 0, .int .i64 0, .int .i64 0, .int .i64 0, .int .i64 0, .int .i64 0, .slice none 0 0, .slice none 0 0] := ⟨by kernel_rfl, by kernel_rfl, rfl, rfl⟩
instance : FieldTy Try.prog 131 0 0 80 9 := ⟨by kernel_rfl, by kernel_rfl⟩
instance : FieldTy Try.prog 131 1 10 72 8 := ⟨by kernel_rfl, by kernel_rfl⟩
instance : FieldTy Try.prog 131 2 19 3 0 := ⟨by kernel_rfl, by kernel_rfl⟩
instance : FieldTy Try.prog 131 3 20 26 1 := ⟨by kernel_rfl, by kernel_rfl⟩
instance : FieldTy Try.prog 131 4 22 128 0 := ⟨by kernel_rfl, by kernel_rfl⟩
instance : FieldTy Try.prog 131 5 23 129 0 := ⟨by kernel_rfl, by kernel_rfl⟩
instance : BuildTy Try.prog 131 [(0, 10), (10, 9), (19, 1), (20, 2), (22, 1), (23, 1)] [.int .i64 0, .int .i64 0, .bool false, .int .i64 0, .int .i64 0, .int .i64 0, .int .i64 0, .int .i64 0, .int .i64 0, .bool false, .slice none 0 0, .int .i64 0, .int .i64 0, .int .i64 0, .int .i64 0, .int .i64 0, .int .i64 0, .int .i64 0, .int .i64 0, .int .i64 0, .int .i64 0, .int .i64 0, .slice none 0 0, .slice none 0 0] := ⟨fun parts => by kernel_rfl⟩
-- 133 func([]api.Pair) (api.Pair, int, bool)
instance : Ty Try.prog 133 false 1 8 (.nilFunc) [.nilFunc] := ⟨by kernel_rfl, by kernel_rfl, rfl, rfl⟩
-- 134 func([]api.Pair, func(api.Pair) bool) bool
instance : Ty Try.prog 134 false 1 8 (.nilFunc) [.nilFunc] := ⟨by kernel_rfl, by kernel_rfl, rfl, rfl⟩
-- 135 func(api.Board) []api.Pair
instance : Ty Try.prog 135 false 1 8 (.nilFunc) [.nilFunc] := ⟨by kernel_rfl, by kernel_rfl, rfl, rfl⟩
-- 136 struct { tie int; to int }
instance : Ty Try.prog 136 true 2 16 (.agg #[.int .i64 0, .int .i64 0]) [.int .i64 0, .int .i64 0] := ⟨by kernel_rfl, by kernel_rfl, rfl, rfl⟩
instance : EqS Try.prog 136 2 := ⟨by kernel_rfl, by kernel_rfl, by kernel_rfl⟩
instance : FieldTy Try.prog 136 0 0 3 0 := ⟨by kernel_rfl, by kernel_rfl⟩
instance : FieldTy Try.prog 136 1 1 3 0 := ⟨by kernel_rfl, by kernel_rfl⟩
instance : BuildTy Try.prog 136 [(0, 1), (1, 1)] [.int .i64 0, .int .i64 0] := ⟨fun parts => by kernel_rfl⟩
-- 137 deuce/score.set
instance : Ty Try.prog 137 true 2 16 (.agg #[.int .i64 0, .int .i64 0]) [.int .i64 0, .int .i64 0] := ⟨by kernel_rfl, by kernel_rfl, rfl, rfl⟩
instance : EqS Try.prog 137 2 := ⟨by kernel_rfl, by kernel_rfl, by kernel_rfl⟩
instance : FieldTy Try.prog 137 0 0 3 0 := ⟨by kernel_rfl, by kernel_rfl⟩
instance : FieldTy Try.prog 137 1 1 3 0 := ⟨by kernel_rfl, by kernel_rfl⟩
instance : BuildTy Try.prog 137 [(0, 1), (1, 1)] [.int .i64 0, .int .i64 0] := ⟨fun parts => by kernel_rfl⟩
-- 138 func(api.Pair) score.set
instance : Ty Try.prog 138 false 1 8 (.nilFunc) [.nilFunc] := ⟨by kernel_rfl, by kernel_rfl, rfl, rfl⟩
-- 139 struct { orders int; over bool }
instance : Ty Try.prog 139 true 2 16 (.agg #[.int .i64 0, .bool false]) [.int .i64 0, .bool false] := ⟨by kernel_rfl, by kernel_rfl, rfl, rfl⟩
instance : FieldTy Try.prog 139 0 0 3 0 := ⟨by kernel_rfl, by kernel_rfl⟩
instance : FieldTy Try.prog 139 1 1 4 0 := ⟨by kernel_rfl, by kernel_rfl⟩
instance : BuildTy Try.prog 139 [(0, 1), (1, 1)] [.int .i64 0, .bool false] := ⟨fun parts => by kernel_rfl⟩
-- 140 deuce/score.stand
instance : Ty Try.prog 140 true 2 16 (.agg #[.int .i64 0, .bool false]) [.int .i64 0, .bool false] := ⟨by kernel_rfl, by kernel_rfl, rfl, rfl⟩
instance : FieldTy Try.prog 140 0 0 3 0 := ⟨by kernel_rfl, by kernel_rfl⟩
instance : FieldTy Try.prog 140 1 1 4 0 := ⟨by kernel_rfl, by kernel_rfl⟩
instance : BuildTy Try.prog 140 [(0, 1), (1, 1)] [.int .i64 0, .bool false] := ⟨fun parts => by kernel_rfl⟩
-- 142 map[api.Pair]score.stand
instance : Ty Try.prog 142 false 1 8 (.map none) [.map none] := ⟨by kernel_rfl, by kernel_rfl, rfl, rfl⟩
-- 143 func(score.set) map[api.Pair]score.stand
instance : Ty Try.prog 143 false 1 8 (.nilFunc) [.nilFunc] := ⟨by kernel_rfl, by kernel_rfl, rfl, rfl⟩
-- 144 func(score.set, bool, api.Pair) int
instance : Ty Try.prog 144 false 1 8 (.nilFunc) [.nilFunc] := ⟨by kernel_rfl, by kernel_rfl, rfl, rfl⟩
-- 145 func(api.Format, int) bool
instance : Ty Try.prog 145 false 1 8 (.nilFunc) [.nilFunc] := ⟨by kernel_rfl, by kernel_rfl, rfl, rfl⟩
-- 147 func(api.Format, bool) ([][]int, [][]int)
instance : Ty Try.prog 147 false 1 8 (.nilFunc) [.nilFunc] := ⟨by kernel_rfl, by kernel_rfl, rfl, rfl⟩
-- 148 func(api.Format, api.Pair) bool
instance : Ty Try.prog 148 false 1 8 (.nilFunc) [.nilFunc] := ⟨by kernel_rfl, by kernel_rfl, rfl, rfl⟩
-- 149 func(api.Format, bool, int, api.Pair) bool
instance : Ty Try.prog 149 false 1 8 (.nilFunc) [.nilFunc] := ⟨by kernel_rfl, by kernel_rfl, rfl, rfl⟩
-- 151 func(score.set, bool, api.Pair, int) int
instance : Ty Try.prog 151 false 1 8 (.nilFunc) [.nilFunc] := ⟨by kernel_rfl, by kernel_rfl, rfl, rfl⟩
-- 153 func(api.Format, bool) (int, int)
instance : Ty Try.prog 153 false 1 8 (.nilFunc) [.nilFunc] := ⟨by kernel_rfl, by kernel_rfl, rfl, rfl⟩
-- 154 map[balls.spot]balls.bound
instance : Ty Try.prog 154 false 1 8 (.map none) [.map none] := ⟨by kernel_rfl, by kernel_rfl, rfl, rfl⟩
-- 155 struct { api.Format; known map[balls.spot]balls.bound }
instance : Ty Try.prog 155 true 11 88 (.agg #[.int .i64 0, .int .i64 0, .bool false, .int .i64 0, .int .i64 0, .int .i64 0, .int .i64 0, .int .i64 0, .int .i64 0, .bool false, .map none]) [.int .i64 0, .int .i64 0, .bool false, .int .i64 0, .int .i64 0, .int .i64 0, .int .i64 0, .int .i64 0, .int .i64 0, .bool false, .map none] := ⟨by kernel_rfl, by kernel_rfl, rfl, rfl⟩
instance : FieldTy Try.prog 155 0 0 23 9 := ⟨by kernel_rfl, by kernel_rfl⟩
instance : FieldTy Try.prog 155 1 10 154 0 := ⟨by kernel_rfl, by kernel_rfl⟩
instance : BuildTy Try.prog 155 [(0, 10), (10, 1)] [.int .i64 0, .int .i64 0, .bool false, .int .i64 0, .int .i64 0, .int .i64 0, .int .i64 0, .int .i64 0, .int .i64 0, .bool false, .map none] := ⟨fun parts => by kernel_rfl⟩
-- 156 deuce/balls.rest
instance : Ty Try.prog 156 true 11 88 (.agg #[.int .i64 0, .int .i64 0, .bool false, .int .i64 0, .int .i64 0, .int .i64 0, .int .i64 0, .int .i64 0, .int .i64 0, .bool false, .map none]) [.int .i64 0, .int .i64 0, .bool false, .int .i64 0, .int .i64 0, .int .i64 0, .int .i64 0, .int .i64 0, .int .i64 0, .bool false, .map none] := ⟨by kernel_rfl, by kernel_rfl, rfl, rfl⟩
instance : FieldTy Try.prog 156 0 0 23 9 := ⟨by kernel_rfl, by kernel_rfl⟩
instance : FieldTy Try.prog 156 1 10 154 0 := ⟨by kernel_rfl, by kernel_rfl⟩
instance : BuildTy Try.prog 156 [(0, 10), (10, 1)] [.int .i64 0, .int .i64 0, .bool false, .int .i64 0, .int .i64 0, .int .i64 0, .int .i64 0, .int .i64 0, .int .i64 0, .bool false, .map none] := ⟨fun parts => by kernel_rfl⟩
-- 157 [2]int
instance : Ty Try.prog 157 true 2 16 (.agg #[.int .i64 0, .int .i64 0]) [.int .i64 0, .int .i64 0] := ⟨by kernel_rfl, by kernel_rfl, rfl, rfl⟩
instance : ArrayTy Try.prog 157 2 3 := ⟨by kernel_rfl⟩
instance : EqA Try.prog 157 2 := ⟨by kernel_rfl, by kernel_rfl, by kernel_rfl, by kernel_rfl⟩
-- 158 struct { won api.Pair; games api.Pair; number int; ties [2]int }
instance : Ty Try.prog 158 true 7 56 (.agg #[.int .i64 0, .int .i64 0, .int .i64 0, .int .i64 0, .int .i64 0, .int .i64 0, .int .i64 0]) [.int .i64 0, .int .i64 0, .int .i64 0, .int .i64 0, .int .i64 0, .int .i64 0, .int .i64 0] := ⟨by kernel_rfl, by kernel_rfl, rfl, rfl⟩
instance : FieldTy Try.prog 158 0 0 26 1 := ⟨by kernel_rfl, by kernel_rfl⟩
instance : FieldTy Try.prog 158 1 2 26 1 := ⟨by kernel_rfl, by kernel_rfl⟩
instance : FieldTy Try.prog 158 2 4 3 0 := ⟨by kernel_rfl, by kernel_rfl⟩
instance : FieldTy Try.prog 158 3 5 157 1 := ⟨by kernel_rfl, by kernel_rfl⟩
instance : BuildTy Try.prog 158 [(0, 2), (2, 2), (4, 1), (5, 2)] [.int .i64 0, .int .i64 0, .int .i64 0, .int .i64 0, .int .i64 0, .int .i64 0, .int .i64 0] := ⟨fun parts => by kernel_rfl⟩
-- 159 deuce/balls.spot
instance : Ty Try.prog 159 true 7 56 (.agg #[.int .i64 0, .int .i64 0, .int .i64 0, .int .i64 0, .int .i64 0, .int .i64 0, .int .i64 0]) [.int .i64 0, .int .i64 0, .int .i64 0, .int .i64 0, .int .i64 0, .int .i64 0, .int .i64 0] := ⟨by kernel_rfl, by kernel_rfl, rfl, rfl⟩
instance : FieldTy Try.prog 159 0 0 26 1 := ⟨by kernel_rfl, by kernel_rfl⟩
instance : FieldTy Try.prog 159 1 2 26 1 := ⟨by kernel_rfl, by kernel_rfl⟩
instance : FieldTy Try.prog 159 2 4 3 0 := ⟨by kernel_rfl, by kernel_rfl⟩
instance : FieldTy Try.prog 159 3 5 157 1 := ⟨by kernel_rfl, by kernel_rfl⟩
instance : BuildTy Try.prog 159 [(0, 2), (2, 2), (4, 1), (5, 2)] [.int .i64 0, .int .i64 0, .int .i64 0, .int .i64 0, .int .i64 0, .int .i64 0, .int .i64 0] := ⟨fun parts => by kernel_rfl⟩
-- 160 func(api.Pair, api.Pair) int
instance : Ty Try.prog 160 false 1 8 (.nilFunc) [.nilFunc] := ⟨by kernel_rfl, by kernel_rfl, rfl, rfl⟩
-- 161 func(balls.spot) balls.bound
instance : Ty Try.prog 161 false 1 8 (.nilFunc) [.nilFunc] := ⟨by kernel_rfl, by kernel_rfl, rfl, rfl⟩
-- 163 func(api.Board) (bool, bool)
instance : Ty Try.prog 163 false 1 8 (.nilFunc) [.nilFunc] := ⟨by kernel_rfl, by kernel_rfl, rfl, rfl⟩
-- 164 []deuceref09.Course
instance : Ty Try.prog 164 false 1 24 (.slice none 0 0) [.slice none 0 0] := ⟨by kernel_rfl, by kernel_rfl, rfl, rfl⟩
instance : SliceTy Try.prog 164 109 := ⟨by kernel_rfl⟩
-- 165 func(api.Format, int, int) []deuceref09.Course
instance : Ty Try.prog 165 false 1 8 (.nilFunc) [.nilFunc] := ⟨by kernel_rfl, by kernel_rfl, rfl, rfl⟩
-- 166 func(api.Pair, api.Pair, int) int
instance : Ty Try.prog 166 false 1 8 (.nilFunc) [.nilFunc] := ⟨by kernel_rfl, by kernel_rfl, rfl, rfl⟩
-- 167 func(api.Depot, int) balls.week
instance : Ty Try.prog 167 false 1 8 (.nilFunc) [.nilFunc] := ⟨by kernel_rfl, by kernel_rfl, rfl, rfl⟩
-- 168 func([]int, func(int) bool) int
instance : Ty Try.prog 168 false 1 8 (.nilFunc) [.nilFunc] := ⟨by kernel_rfl, by kernel_rfl, rfl, rfl⟩
-- 169 func(api.Depot, api.Fixture, int) api.Span
instance : Ty Try.prog 169 false 1 8 (.nilFunc) [.nilFunc] := ⟨by kernel_rfl, by kernel_rfl, rfl, rfl⟩
-- 170 func(score.rules, int) *score.match
instance : Ty Try.prog 170 false 1 8 (.nilFunc) [.nilFunc] := ⟨by kernel_rfl, by kernel_rfl, rfl, rfl⟩
-- 171 func(int)
instance : Ty Try.prog 171 false 1 8 (.nilFunc) [.nilFunc] := ⟨by kernel_rfl, by kernel_rfl, rfl, rfl⟩
-- 172 func([]api.Pair, func(api.Pair) bool) int
instance : Ty Try.prog 172 false 1 8 (.nilFunc) [.nilFunc] := ⟨by kernel_rfl, by kernel_rfl, rfl, rfl⟩
-- 173 func([]api.Pair) []api.Pair
instance : Ty Try.prog 173 false 1 8 (.nilFunc) [.nilFunc] := ⟨by kernel_rfl, by kernel_rfl, rfl, rfl⟩
-- 175 func(score.set) (api.Span, int)
instance : Ty Try.prog 175 false 1 8 (.nilFunc) [.nilFunc] := ⟨by kernel_rfl, by kernel_rfl, rfl, rfl⟩
-- 177 func(balls.spot, int) (balls.spot, bool, bool)
instance : Ty Try.prog 177 false 1 8 (.nilFunc) [.nilFunc] := ⟨by kernel_rfl, by kernel_rfl, rfl, rfl⟩
-- 178 func(balls.bound) balls.bound
instance : Ty Try.prog 178 false 1 8 (.nilFunc) [.nilFunc] := ⟨by kernel_rfl, by kernel_rfl, rfl, rfl⟩
-- 179 func(deuceref09.Course, deuceref09.Course) deuceref09.Course
instance : Ty Try.prog 179 false 1 8 (.nilFunc) [.nilFunc] := ⟨by kernel_rfl, by kernel_rfl, rfl, rfl⟩
-- 180 func(api.Format, api.Pair, api.Pair, int, int, int, []deuceref09.Course) deuceref09.Course
instance : Ty Try.prog 180 false 1 8 (.nilFunc) [.nilFunc] := ⟨by kernel_rfl, by kernel_rfl, rfl, rfl⟩
-- 181 [3]api.Span
instance : Ty Try.prog 181 true 6 48 (.agg #[.int .i64 0, .int .i64 0, .int .i64 0, .int .i64 0, .int .i64 0, .int .i64 0]) [.int .i64 0, .int .i64 0, .int .i64 0, .int .i64 0, .int .i64 0, .int .i64 0] := ⟨by kernel_rfl, by kernel_rfl, rfl, rfl⟩
instance : ArrayTy Try.prog 181 3 39 := ⟨by kernel_rfl⟩
-- 182 deuce/balls.need
instance : Ty Try.prog 182 true 6 48 (.agg #[.int .i64 0, .int .i64 0, .int .i64 0, .int .i64 0, .int .i64 0, .int .i64 0]) [.int .i64 0, .int .i64 0, .int .i64 0, .int .i64 0, .int .i64 0, .int .i64 0] := ⟨by kernel_rfl, by kernel_rfl, rfl, rfl⟩
instance : ArrayTy Try.prog 182 3 39 := ⟨by kernel_rfl⟩
-- 183 func(api.Kit, api.Fixture) balls.need
instance : Ty Try.prog 183 false 1 8 (.nilFunc) [.nilFunc] := ⟨by kernel_rfl, by kernel_rfl, rfl, rfl⟩
-- 184 func(api.Span, int) api.Span
instance : Ty Try.prog 184 false 1 8 (.nilFunc) [.nilFunc] := ⟨by kernel_rfl, by kernel_rfl, rfl, rfl⟩
-- 185 func(api.Pair) int
instance : Ty Try.prog 185 false 1 8 (.nilFunc) [.nilFunc] := ⟨by kernel_rfl, by kernel_rfl, rfl, rfl⟩
-- 186 func(int) int
instance : Ty Try.prog 186 false 1 8 (.nilFunc) [.nilFunc] := ⟨by kernel_rfl, by kernel_rfl, rfl, rfl⟩
-- 187 struct { Set int; Tie bool; Server int; Winner int; Points api.Pair; Fresh bool }
instance : Ty Try.prog 187 true 7 56 (.agg #[.int .i64 0, .bool false, .int .i64 0, .int .i64 0, .int .i64 0, .int .i64 0, .bool false]) [.int .i64 0, .bool false, .int .i64 0, .int .i64 0, .int .i64 0, .int .i64 0, .bool false] := ⟨by kernel_rfl, by kernel_rfl, rfl, rfl⟩
instance : FieldTy Try.prog 187 0 0 3 0 := ⟨by kernel_rfl, by kernel_rfl⟩
instance : FieldTy Try.prog 187 1 1 4 0 := ⟨by kernel_rfl, by kernel_rfl⟩
instance : FieldTy Try.prog 187 2 2 3 0 := ⟨by kernel_rfl, by kernel_rfl⟩
instance : FieldTy Try.prog 187 3 3 3 0 := ⟨by kernel_rfl, by kernel_rfl⟩
instance : FieldTy Try.prog 187 4 4 26 1 := ⟨by kernel_rfl, by kernel_rfl⟩
instance : FieldTy Try.prog 187 5 6 4 0 := ⟨by kernel_rfl, by kernel_rfl⟩
instance : BuildTy Try.prog 187 [(0, 1), (1, 1), (2, 1), (3, 1), (4, 2), (6, 1)] [.int .i64 0, .bool false, .int .i64 0, .int .i64 0, .int .i64 0, .int .i64 0, .bool false] := ⟨fun parts => by kernel_rfl⟩
-- 188 deuce/api.Game
instance : Ty Try.prog 188 true 7 56 (.agg #[.int .i64 0, .bool false, .int .i64 0, .int .i64 0, .int .i64 0, .int .i64 0, .bool false]) [.int .i64 0, .bool false, .int .i64 0, .int .i64 0, .int .i64 0, .int .i64 0, .bool false] := ⟨by kernel_rfl, by kernel_rfl, rfl, rfl⟩
instance : FieldTy Try.prog 188 0 0 3 0 := ⟨by kernel_rfl, by kernel_rfl⟩
instance : FieldTy Try.prog 188 1 1 4 0 := ⟨by kernel_rfl, by kernel_rfl⟩
instance : FieldTy Try.prog 188 2 2 3 0 := ⟨by kernel_rfl, by kernel_rfl⟩
instance : FieldTy Try.prog 188 3 3 3 0 := ⟨by kernel_rfl, by kernel_rfl⟩
instance : FieldTy Try.prog 188 4 4 26 1 := ⟨by kernel_rfl, by kernel_rfl⟩
instance : FieldTy Try.prog 188 5 6 4 0 := ⟨by kernel_rfl, by kernel_rfl⟩
instance : BuildTy Try.prog 188 [(0, 1), (1, 1), (2, 1), (3, 1), (4, 2), (6, 1)] [.int .i64 0, .bool false, .int .i64 0, .int .i64 0, .int .i64 0, .int .i64 0, .bool false] := ⟨fun parts => by kernel_rfl⟩
-- 189 *int
instance : Ty Try.prog 189 false 1 8 (.pointer none) [.pointer none] := ⟨by kernel_rfl, by kernel_rfl, rfl, rfl⟩
-- 190 func(api.Span, api.Span) api.Span
instance : Ty Try.prog 190 false 1 8 (.nilFunc) [.nilFunc] := ⟨by kernel_rfl, by kernel_rfl, rfl, rfl⟩
-- 191 func(api.Format, bool, api.Pair) bool
instance : Ty Try.prog 191 false 1 8 (.nilFunc) [.nilFunc] := ⟨by kernel_rfl, by kernel_rfl, rfl, rfl⟩
-- 192 func(api.Format, bool, api.Pair, int) bool
instance : Ty Try.prog 192 false 1 8 (.nilFunc) [.nilFunc] := ⟨by kernel_rfl, by kernel_rfl, rfl, rfl⟩
-- 193 func() string
instance : Ty Try.prog 193 false 1 8 (.nilFunc) [.nilFunc] := ⟨by kernel_rfl, by kernel_rfl, rfl, rfl⟩
-- 194 struct { _interface *abi.Type; concrete *abi.Type; asserted *abi.Type; missingMethod string }
instance : Ty Try.prog 194 true 4 40 (.agg #[.pointer none, .pointer none, .pointer none, .string ByteArray.empty]) [.pointer none, .pointer none, .pointer none, .string ByteArray.empty] := ⟨by kernel_rfl, by kernel_rfl, rfl, rfl⟩
instance : FieldTy Try.prog 194 0 0 17 0 := ⟨by kernel_rfl, by kernel_rfl⟩
instance : FieldTy Try.prog 194 1 1 17 0 := ⟨by kernel_rfl, by kernel_rfl⟩
instance : FieldTy Try.prog 194 2 2 17 0 := ⟨by kernel_rfl, by kernel_rfl⟩
instance : FieldTy Try.prog 194 3 3 9 0 := ⟨by kernel_rfl, by kernel_rfl⟩
instance : BuildTy Try.prog 194 [(0, 1), (1, 1), (2, 1), (3, 1)] [.pointer none, .pointer none, .pointer none, .string ByteArray.empty] := ⟨fun parts => by kernel_rfl⟩
-- 196 [0]*runtime.PanicNilError
instance : Ty Try.prog 196 true 0 0 (.agg #[]) [] := ⟨by kernel_rfl, by kernel_rfl, rfl, rfl⟩
instance : ArrayTy Try.prog 196 0 16 := ⟨by kernel_rfl⟩
-- 197 struct { _ [0]*runtime.PanicNilError }
instance : Ty Try.prog 197 true 0 0 (.agg #[]) [] := ⟨by kernel_rfl, by kernel_rfl, rfl, rfl⟩
-- 199 uint32
instance : Ty Try.prog 199 false 1 4 (.int .u32 0) [.int .u32 0] := ⟨by kernel_rfl, by kernel_rfl, rfl, rfl⟩
-- 202 func(unsafe.Pointer, unsafe.Pointer) bool
instance : Ty Try.prog 202 false 1 8 (.nilFunc) [.nilFunc] := ⟨by kernel_rfl, by kernel_rfl, rfl, rfl⟩
-- 203 *uint8
instance : Ty Try.prog 203 false 1 8 (.pointer none) [.pointer none] := ⟨by kernel_rfl, by kernel_rfl, rfl, rfl⟩
-- 206 struct { Size_ uintptr; PtrBytes uintptr; Hash uint32; TFlag abi.TFlag; Align_ uint8; FieldAlign_ uint8; Kind_ abi.Kind; Equal func(unsafe.Pointer, unsafe.Pointer) bool; GCData *uint8; Str abi.NameOff; PtrToThis abi.TypeOff }
instance : Ty Try.prog 206 true 11 48 (.agg #[.int .u64 0, .int .u64 0, .int .u32 0, .int .u8 0, .int .u8 0, .int .u8 0, .int .u8 0, .nilFunc, .pointer none, .int .i32 0, .int .i32 0]) [.int .u64 0, .int .u64 0, .int .u32 0, .int .u8 0, .int .u8 0, .int .u8 0, .int .u8 0, .nilFunc, .pointer none, .int .i32 0, .int .i32 0] := ⟨by kernel_rfl, by kernel_rfl, rfl, rfl⟩
instance : FieldTy Try.prog 206 0 0 12 0 := ⟨by kernel_rfl, by kernel_rfl⟩
instance : FieldTy Try.prog 206 1 1 12 0 := ⟨by kernel_rfl, by kernel_rfl⟩
instance : FieldTy Try.prog 206 2 2 199 0 := ⟨by kernel_rfl, by kernel_rfl⟩
instance : FieldTy Try.prog 206 3 3 200 0 := ⟨by kernel_rfl, by kernel_rfl⟩
instance : FieldTy Try.prog 206 4 4 5 0 := ⟨by kernel_rfl, by kernel_rfl⟩
instance : FieldTy Try.prog 206 5 5 5 0 := ⟨by kernel_rfl, by kernel_rfl⟩
instance : FieldTy Try.prog 206 6 6 201 0 := ⟨by kernel_rfl, by kernel_rfl⟩
instance : FieldTy Try.prog 206 7 7 202 0 := ⟨by kernel_rfl, by kernel_rfl⟩
instance : FieldTy Try.prog 206 8 8 203 0 := ⟨by kernel_rfl, by kernel_rfl⟩
instance : FieldTy Try.prog 206 9 9 204 0 := ⟨by kernel_rfl, by kernel_rfl⟩
instance : FieldTy Try.prog 206 10 10 205 0 := ⟨by kernel_rfl, by kernel_rfl⟩
instance : BuildTy Try.prog 206 [(0, 1), (1, 1), (2, 1), (3, 1), (4, 1), (5, 1), (6, 1), (7, 1), (8, 1), (9, 1), (10, 1)] [.int .u64 0, .int .u64 0, .int .u32 0, .int .u8 0, .int .u8 0, .int .u8 0, .int .u8 0, .nilFunc, .pointer none, .int .i32 0, .int .i32 0] := ⟨fun parts => by kernel_rfl⟩
-- 208 unsafe.Pointer
instance : Ty Try.prog 208 false 1 8 (.pointer none) [.pointer none] := ⟨by kernel_rfl, by kernel_rfl, rfl, rfl⟩
-- deuce/deucelaw01.ScoreBoards
instance : FnOk Try.prog 3 := ⟨by kernel_rfl⟩
-- deuce/deucelaw09.BallsRests
instance : FnOk Try.prog 4 := ⟨by kernel_rfl⟩
-- deuce/deucelaw09.BallsOrder
instance : FnOk Try.prog 5 := ⟨by kernel_rfl⟩
-- deuce/deucelaw09.BallsSums
instance : FnOk Try.prog 6 := ⟨by kernel_rfl⟩
-- deuce/deucelaw09.BallsShort
instance : FnOk Try.prog 7 := ⟨by kernel_rfl⟩
-- deuce/deucelaw09.BallsMore
instance : FnOk Try.prog 8 := ⟨by kernel_rfl⟩
-- deuce/deucelaw09.BallsDepots
instance : FnOk Try.prog 9 := ⟨by kernel_rfl⟩
-- deuce/deucelaw01.works
instance : FnOk Try.prog 10 := ⟨by kernel_rfl⟩
-- deuce/score.Arises
instance : FnOk Try.prog 11 := ⟨by kernel_rfl⟩
-- deuce/deuceref01.Arises
instance : FnOk Try.prog 12 := ⟨by kernel_rfl⟩
-- deuce/score.Least
instance : FnOk Try.prog 13 := ⟨by kernel_rfl⟩
-- deuce/deuceref01.Least
instance : FnOk Try.prog 14 := ⟨by kernel_rfl⟩
-- deuce/deucelaw01.sameBoard
instance : FnOk Try.prog 15 := ⟨by kernel_rfl⟩
-- deuce/deucelaw09.far
instance : FnOk Try.prog 16 := ⟨by kernel_rfl⟩
-- deuce/deucelaw09.works
instance : FnOk Try.prog 17 := ⟨by kernel_rfl⟩
-- deuce/balls.Rest
instance : FnOk Try.prog 18 := ⟨by kernel_rfl⟩
-- deuce/deuceref09.Rest
instance : FnOk Try.prog 19 := ⟨by kernel_rfl⟩
-- deuce/deucelaw09.ready
instance : FnOk Try.prog 20 := ⟨by kernel_rfl⟩
-- deuce/balls.Order
instance : FnOk Try.prog 21 := ⟨by kernel_rfl⟩
-- deuce/balls.Left
instance : FnOk Try.prog 22 := ⟨by kernel_rfl⟩
-- deuce/deucelaw09.with
instance : FnOk Try.prog 23 := ⟨by kernel_rfl⟩
-- deuce/balls.Need
instance : FnOk Try.prog 24 := ⟨by kernel_rfl⟩
-- deuce/deuceref09.Copy
instance : FnOk Try.prog 25 := ⟨by kernel_rfl⟩
-- deuce/balls.Short
instance : FnOk Try.prog 26 := ⟨by kernel_rfl⟩
-- deuce/deucelaw09.earlier
instance : FnOk Try.prog 27 := ⟨by kernel_rfl⟩
-- deuce/deucelaw09.Far
instance : FnOk Try.prog 28 := ⟨by kernel_rfl⟩
-- deuce/balls.Check
instance : FnOk Try.prog 29 := ⟨by kernel_rfl⟩
-- deuce/deuceref09.Check
instance : FnOk Try.prog 30 := ⟨by kernel_rfl⟩
-- deuce/deuceref09.Need
instance : FnOk Try.prog 31 := ⟨by kernel_rfl⟩
-- deuce/deuceref09.Left
instance : FnOk Try.prog 32 := ⟨by kernel_rfl⟩
-- deuce/deuceref09.Short
instance : FnOk Try.prog 33 := ⟨by kernel_rfl⟩
-- deuce/deuceref09.Order
instance : FnOk Try.prog 34 := ⟨by kernel_rfl⟩
-- deuce/deucelaw01.Example
instance : FnOk Try.prog 35 := ⟨by kernel_rfl⟩
-- deuce/score.Play
instance : FnOk Try.prog 36 := ⟨by kernel_rfl⟩
-- deuce/score.Ways
instance : FnOk Try.prog 37 := ⟨by kernel_rfl⟩
-- deuce/score.Check
instance : FnOk Try.prog 38 := ⟨by kernel_rfl⟩
-- deuce/score.isBoard
instance : FnOk Try.prog 39 := ⟨by kernel_rfl⟩
-- (deuce/score.rules).arises
instance : FnOk Try.prog 40 := ⟨by kernel_rfl⟩
-- deuce/deuceref01.Check
instance : FnOk Try.prog 41 := ⟨by kernel_rfl⟩
-- deuce/deuceref01.isBoard
instance : FnOk Try.prog 42 := ⟨by kernel_rfl⟩
-- deuce/deuceref01.arises
instance : FnOk Try.prog 43 := ⟨by kernel_rfl⟩
-- (deuce/score.rules).over
instance : FnOk Try.prog 44 := ⟨by kernel_rfl⟩
-- deuce/score.leads
instance : FnOk Try.prog 45 := ⟨by kernel_rfl⟩
-- (deuce/score.rules).least
instance : FnOk Try.prog 46 := ⟨by kernel_rfl⟩
-- (deuce/score.rules).most
instance : FnOk Try.prog 47 := ⟨by kernel_rfl⟩
-- deuce/deuceref01.within
instance : FnOk Try.prog 48 := ⟨by kernel_rfl⟩
-- deuce/deuceref01.Won
instance : FnOk Try.prog 49 := ⟨by kernel_rfl⟩
-- deuce/deuceref01.swapped
instance : FnOk Try.prog 50 := ⟨by kernel_rfl⟩
-- deuce/deuceref01.costs
instance : FnOk Try.prog 51 := ⟨by kernel_rfl⟩
-- deuce/deuceref01.tied
instance : FnOk Try.prog 52 := ⟨by kernel_rfl⟩
-- deuce/deuceref01.leads
instance : FnOk Try.prog 53 := ⟨by kernel_rfl⟩
-- deuce/deuceref01.plus
instance : FnOk Try.prog 54 := ⟨by kernel_rfl⟩
-- deuce/deuceref01.from
instance : FnOk Try.prog 55 := ⟨by kernel_rfl⟩
-- deuce/deuceref01.need
instance : FnOk Try.prog 56 := ⟨by kernel_rfl⟩
-- deuce/deucelaw09.Example
instance : FnOk Try.prog 57 := ⟨by kernel_rfl⟩
-- deuce/balls.check
instance : FnOk Try.prog 58 := ⟨by kernel_rfl⟩
-- deuce/balls.open
instance : FnOk Try.prog 59 := ⟨by kernel_rfl⟩
-- deuce/deuceref01.Range
instance : FnOk Try.prog 60 := ⟨by kernel_rfl⟩
-- deuce/deuceref09.rest
instance : FnOk Try.prog 61 := ⟨by kernel_rfl⟩
-- deuce/balls.ask
instance : FnOk Try.prog 62 := ⟨by kernel_rfl⟩
-- slices.IndexFunc[[]deuce/api.Span,deuce/api.Span]
instance : FnOk Try.prog 63 := ⟨by kernel_rfl⟩
-- deuce/balls.Short$1
instance : FnOk Try.prog 64 := ⟨by kernel_rfl⟩
-- deuce/balls.Short$2
instance : FnOk Try.prog 65 := ⟨by kernel_rfl⟩
-- deuce/balls.Check$1
instance : FnOk Try.prog 66 := ⟨by kernel_rfl⟩
-- deuce/balls.within
instance : FnOk Try.prog 67 := ⟨by kernel_rfl⟩
-- slices.ContainsFunc[[]int,int]
instance : FnOk Try.prog 68 := ⟨by kernel_rfl⟩
-- deuce/balls.Check$2
instance : FnOk Try.prog 69 := ⟨by kernel_rfl⟩
-- deuce/deuceref09.within
instance : FnOk Try.prog 70 := ⟨by kernel_rfl⟩
-- deuce/deuceref09.isFixture
instance : FnOk Try.prog 71 := ⟨by kernel_rfl⟩
-- deuce/deuceref09.check
instance : FnOk Try.prog 72 := ⟨by kernel_rfl⟩
-- deuce/deuceref09.need
instance : FnOk Try.prog 73 := ⟨by kernel_rfl⟩
-- deuce/deuceref09.lefts
instance : FnOk Try.prog 74 := ⟨by kernel_rfl⟩
-- deuce/score.play
instance : FnOk Try.prog 75 := ⟨by kernel_rfl⟩
-- (deuce/score.rules).sets
instance : FnOk Try.prog 76 := ⟨by kernel_rfl⟩
-- deuce/score.Check$1
instance : FnOk Try.prog 77 := ⟨by kernel_rfl⟩
-- deuce/score.within
instance : FnOk Try.prog 78 := ⟨by kernel_rfl⟩
-- deuce/score.isBoard$1
instance : FnOk Try.prog 79 := ⟨by kernel_rfl⟩
-- slices.ContainsFunc[[]deuce/api.Pair,deuce/api.Pair]
instance : FnOk Try.prog 80 := ⟨by kernel_rfl⟩
-- deuce/score.pairs
instance : FnOk Try.prog 81 := ⟨by kernel_rfl⟩
-- deuce/score.isBoard$2
instance : FnOk Try.prog 82 := ⟨by kernel_rfl⟩
-- (deuce/score.rules).set
instance : FnOk Try.prog 83 := ⟨by kernel_rfl⟩
-- (deuce/score.rules).table
instance : FnOk Try.prog 84 := ⟨by kernel_rfl⟩
-- (deuce/score.set).breaks
instance : FnOk Try.prog 85 := ⟨by kernel_rfl⟩
-- (deuce/score.rules).arises$1
instance : FnOk Try.prog 86 := ⟨by kernel_rfl⟩
-- (deuce/score.rules).game
instance : FnOk Try.prog 87 := ⟨by kernel_rfl⟩
-- deuce/deuceref01.isTie
instance : FnOk Try.prog 88 := ⟨by kernel_rfl⟩
-- deuce/deuceref01.orders
instance : FnOk Try.prog 89 := ⟨by kernel_rfl⟩
-- deuce/deuceref01.IsLast
instance : FnOk Try.prog 90 := ⟨by kernel_rfl⟩
-- deuce/deuceref01.ArePoints
instance : FnOk Try.prog 91 := ⟨by kernel_rfl⟩
-- deuce/score.add
instance : FnOk Try.prog 92 := ⟨by kernel_rfl⟩
-- (deuce/score.rules).takes
instance : FnOk Try.prog 93 := ⟨by kernel_rfl⟩
-- deuce/deuceref01.Rule
instance : FnOk Try.prog 94 := ⟨by kernel_rfl⟩
-- deuce/score.Range
instance : FnOk Try.prog 95 := ⟨by kernel_rfl⟩
-- (deuce/balls.rest).tie
instance : FnOk Try.prog 96 := ⟨by kernel_rfl⟩
-- (deuce/balls.rest).from
instance : FnOk Try.prog 97 := ⟨by kernel_rfl⟩
-- deuce/balls.begun
instance : FnOk Try.prog 98 := ⟨by kernel_rfl⟩
-- deuce/deuceref09.courses
instance : FnOk Try.prog 99 := ⟨by kernel_rfl⟩
-- deuce/deuceref09.place
instance : FnOk Try.prog 100 := ⟨by kernel_rfl⟩
-- deuce/balls.run
instance : FnOk Try.prog 101 := ⟨by kernel_rfl⟩
-- slices.IndexFunc[[]int,int]
instance : FnOk Try.prog 102 := ⟨by kernel_rfl⟩
-- deuce/deuceref09.Needs
instance : FnOk Try.prog 103 := ⟨by kernel_rfl⟩
-- deuce/score.begin
instance : FnOk Try.prog 104 := ⟨by kernel_rfl⟩
-- (*deuce/score.match).point
instance : FnOk Try.prog 105 := ⟨by kernel_rfl⟩
-- slices.IndexFunc[[]deuce/api.Pair,deuce/api.Pair]
instance : FnOk Try.prog 106 := ⟨by kernel_rfl⟩
-- slices.Clone[[]deuce/api.Pair,deuce/api.Pair]
instance : FnOk Try.prog 107 := ⟨by kernel_rfl⟩
-- (deuce/score.rules).extent
instance : FnOk Try.prog 108 := ⟨by kernel_rfl⟩
-- (deuce/balls.rest).after
instance : FnOk Try.prog 109 := ⟨by kernel_rfl⟩
-- (deuce/balls.rest).due
instance : FnOk Try.prog 110 := ⟨by kernel_rfl⟩
-- (deuce/balls.bound).or
instance : FnOk Try.prog 111 := ⟨by kernel_rfl⟩
-- deuce/deuceref09.joined
instance : FnOk Try.prog 112 := ⟨by kernel_rfl⟩
-- deuce/deuceref09.after
instance : FnOk Try.prog 113 := ⟨by kernel_rfl⟩
-- deuce/balls.needs
instance : FnOk Try.prog 114 := ⟨by kernel_rfl⟩
-- deuce/deuceref09.Begun
instance : FnOk Try.prog 115 := ⟨by kernel_rfl⟩
-- deuce/deuceref09.times
instance : FnOk Try.prog 116 := ⟨by kernel_rfl⟩
-- (*deuce/score.match).next
instance : FnOk Try.prog 117 := ⟨by kernel_rfl⟩
-- (*deuce/score.match).number
instance : FnOk Try.prog 118 := ⟨by kernel_rfl⟩
-- deuce/score.sum
instance : FnOk Try.prog 119 := ⟨by kernel_rfl⟩
-- (*deuce/score.match).serves
instance : FnOk Try.prog 120 := ⟨by kernel_rfl⟩
-- (*deuce/score.match).fresh
instance : FnOk Try.prog 121 := ⟨by kernel_rfl⟩
-- (deuce/balls.bound).or$1
instance : FnOk Try.prog 122 := ⟨by kernel_rfl⟩
-- deuce/deuceref09.isTie
instance : FnOk Try.prog 123 := ⟨by kernel_rfl⟩
-- deuce/deuceref09.ended
instance : FnOk Try.prog 124 := ⟨by kernel_rfl⟩
-- deuce/deuceref09.due
instance : FnOk Try.prog 125 := ⟨by kernel_rfl⟩
-- deuce/balls.times
instance : FnOk Try.prog 126 := ⟨by kernel_rfl⟩
-- (deuce/score.rules).due
instance : FnOk Try.prog 127 := ⟨by kernel_rfl⟩
end Go.Proofs.Ytacaojifempclaa
