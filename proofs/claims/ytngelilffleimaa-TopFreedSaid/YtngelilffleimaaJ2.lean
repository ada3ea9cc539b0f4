/- The texts of the walk, part 2. -/
import Derived.Test.YtngelilffleimaaJ1
import Derived.Test.YtngelilffleimaaProg
import Derived.KernelRfl
namespace Go.Proofs.Ytngelilffleimaa
open Go

-- 1 func()
instance : Ty Try.prog 1 false 1 8 (.nilFunc) [.nilFunc] := ⟨by kernel_rfl, by kernel_rfl, rfl, rfl⟩
-- 2 int64
instance : Ty Try.prog 2 false 1 8 (.int .i64 0) [.int .i64 0] := ⟨by kernel_rfl, by kernel_rfl, rfl, rfl⟩
-- 3 int
instance : Ty Try.prog 3 false 1 8 (.int .i64 0) [.int .i64 0] := ⟨by kernel_rfl, by kernel_rfl, rfl, rfl⟩
-- 4 bool
instance : Ty Try.prog 4 false 1 1 (.bool false) [.bool false] := ⟨by kernel_rfl, by kernel_rfl, rfl, rfl⟩
-- 5 uint8
instance : Ty Try.prog 5 false 1 1 (.int .u8 0) [.int .u8 0] := ⟨by kernel_rfl, by kernel_rfl, rfl, rfl⟩
-- 7 struct { x int64; y int; signed bool; code abi.BoundsErrorCode }
instance : Ty Try.prog 7 true 4 24 (.agg #[.int .i64 0, .int .i64 0, .bool false, .int .u8 0]) [.int .i64 0, .int .i64 0, .bool false, .int .u8 0] := ⟨by kernel_rfl, by kernel_rfl, rfl, rfl⟩
instance : FieldTy Try.prog 7 0 0 2 0 := ⟨by kernel_rfl, by kernel_rfl⟩
instance : FieldTy Try.prog 7 1 1 3 0 := ⟨by kernel_rfl, by kernel_rfl⟩
instance : FieldTy Try.prog 7 2 2 4 0 := ⟨by kernel_rfl, by kernel_rfl⟩
instance : FieldTy Try.prog 7 3 3 6 0 := ⟨by kernel_rfl, by kernel_rfl⟩
instance : BuildTy Try.prog 7 [(0, 1), (1, 1), (2, 1), (3, 1)] [.int .i64 0, .int .i64 0, .bool false, .int .u8 0] := ⟨fun parts => by kernel_rfl⟩
-- 9 string
instance : Ty Try.prog 9 false 1 16 (.string ByteArray.empty) [.string ByteArray.empty] := ⟨by kernel_rfl, by kernel_rfl, rfl, rfl⟩
-- 12 uintptr
instance : Ty Try.prog 12 false 1 8 (.int .u64 0) [.int .u64 0] := ⟨by kernel_rfl, by kernel_rfl, rfl, rfl⟩
-- 13 struct { msg string; addr uintptr }
instance : Ty Try.prog 13 true 2 24 (.agg #[.string ByteArray.empty, .int .u64 0]) [.string ByteArray.empty, .int .u64 0] := ⟨by kernel_rfl, by kernel_rfl, rfl, rfl⟩
instance : FieldTy Try.prog 13 0 0 9 0 := ⟨by kernel_rfl, by kernel_rfl⟩
instance : FieldTy Try.prog 13 1 1 12 0 := ⟨by kernel_rfl, by kernel_rfl⟩
instance : BuildTy Try.prog 13 [(0, 1), (1, 1)] [.string ByteArray.empty, .int .u64 0] := ⟨fun parts => by kernel_rfl⟩
-- 18 struct { typ *abi.Type }
instance : Ty Try.prog 18 true 1 8 (.agg #[.pointer none]) [.pointer none] := ⟨by kernel_rfl, by kernel_rfl, rfl, rfl⟩
instance : FieldTy Try.prog 18 0 0 17 0 := ⟨by kernel_rfl, by kernel_rfl⟩
instance : BuildTy Try.prog 18 [(0, 1)] [.pointer none] := ⟨fun parts => by kernel_rfl⟩
-- 20 
instance : Ty Try.prog 20 false 1 16 (.nilIface) [.nilIface] := ⟨by kernel_rfl, by kernel_rfl, rfl, rfl⟩
-- 21 int32
instance : Ty Try.prog 21 false 1 4 (.int .i32 0) [.int .i32 0] := ⟨by kernel_rfl, by kernel_rfl, rfl, rfl⟩
-- 22 [][]api.Span
instance : Ty Try.prog 22 false 1 24 (.slice none 0 0) [.slice none 0 0] := ⟨by kernel_rfl, by kernel_rfl, rfl, rfl⟩
instance : SliceTy Try.prog 22 37 := ⟨by kernel_rfl⟩
-- 23 []api.Job
instance : Ty Try.prog 23 false 1 24 (.slice none 0 0) [.slice none 0 0] := ⟨by kernel_rfl, by kernel_rfl, rfl, rfl⟩
instance : SliceTy Try.prog 23 45 := ⟨by kernel_rfl⟩
-- 24 struct { Days [][]api.Span; Rest int; Jobs []api.Job }
instance : Ty Try.prog 24 true 3 56 (.agg #[.slice none 0 0, .int .i64 0, .slice none 0 0]) [.slice none 0 0, .int .i64 0, .slice none 0 0] := ⟨by kernel_rfl, by kernel_rfl, rfl, rfl⟩
instance : FieldTy Try.prog 24 0 0 22 0 := ⟨by kernel_rfl, by kernel_rfl⟩
instance : FieldTy Try.prog 24 1 1 3 0 := ⟨by kernel_rfl, by kernel_rfl⟩
instance : FieldTy Try.prog 24 2 2 23 0 := ⟨by kernel_rfl, by kernel_rfl⟩
instance : BuildTy Try.prog 24 [(0, 1), (1, 1), (2, 1)] [.slice none 0 0, .int .i64 0, .slice none 0 0] := ⟨fun parts => by kernel_rfl⟩
-- 25 deuce/api.Program
instance : Ty Try.prog 25 true 3 56 (.agg #[.slice none 0 0, .int .i64 0, .slice none 0 0]) [.slice none 0 0, .int .i64 0, .slice none 0 0] := ⟨by kernel_rfl, by kernel_rfl, rfl, rfl⟩
instance : FieldTy Try.prog 25 0 0 22 0 := ⟨by kernel_rfl, by kernel_rfl⟩
instance : FieldTy Try.prog 25 1 1 3 0 := ⟨by kernel_rfl, by kernel_rfl⟩
instance : FieldTy Try.prog 25 2 2 23 0 := ⟨by kernel_rfl, by kernel_rfl⟩
instance : BuildTy Try.prog 25 [(0, 1), (1, 1), (2, 1)] [.slice none 0 0, .int .i64 0, .slice none 0 0] := ⟨fun parts => by kernel_rfl⟩
-- 26 []api.Seat
instance : Ty Try.prog 26 false 1 24 (.slice none 0 0) [.slice none 0 0] := ⟨by kernel_rfl, by kernel_rfl, rfl, rfl⟩
instance : SliceTy Try.prog 26 41 := ⟨by kernel_rfl⟩
-- 27 []int
instance : Ty Try.prog 27 false 1 24 (.slice none 0 0) [.slice none 0 0] := ⟨by kernel_rfl, by kernel_rfl, rfl, rfl⟩
instance : SliceTy Try.prog 27 3 := ⟨by kernel_rfl⟩
-- 28 struct { Short int; Long int; Played []int }
instance : Ty Try.prog 28 true 3 40 (.agg #[.int .i64 0, .int .i64 0, .slice none 0 0]) [.int .i64 0, .int .i64 0, .slice none 0 0] := ⟨by kernel_rfl, by kernel_rfl, rfl, rfl⟩
instance : FieldTy Try.prog 28 0 0 3 0 := ⟨by kernel_rfl, by kernel_rfl⟩
instance : FieldTy Try.prog 28 1 1 3 0 := ⟨by kernel_rfl, by kernel_rfl⟩
instance : FieldTy Try.prog 28 2 2 27 0 := ⟨by kernel_rfl, by kernel_rfl⟩
instance : BuildTy Try.prog 28 [(0, 1), (1, 1), (2, 1)] [.int .i64 0, .int .i64 0, .slice none 0 0] := ⟨fun parts => by kernel_rfl⟩
-- 29 deuce/api.Terms
instance : Ty Try.prog 29 true 3 40 (.agg #[.int .i64 0, .int .i64 0, .slice none 0 0]) [.int .i64 0, .int .i64 0, .slice none 0 0] := ⟨by kernel_rfl, by kernel_rfl, rfl, rfl⟩
instance : FieldTy Try.prog 29 0 0 3 0 := ⟨by kernel_rfl, by kernel_rfl⟩
instance : FieldTy Try.prog 29 1 1 3 0 := ⟨by kernel_rfl, by kernel_rfl⟩
instance : FieldTy Try.prog 29 2 2 27 0 := ⟨by kernel_rfl, by kernel_rfl⟩
instance : BuildTy Try.prog 29 [(0, 1), (1, 1), (2, 1)] [.int .i64 0, .int .i64 0, .slice none 0 0] := ⟨fun parts => by kernel_rfl⟩
-- 30 struct { Order []api.Seat; Takes []int; Terms api.Terms }
instance : Ty Try.prog 30 true 5 88 (.agg #[.slice none 0 0, .slice none 0 0, .int .i64 0, .int .i64 0, .slice none 0 0]) [.slice none 0 0, .slice none 0 0, .int .i64 0, .int .i64 0, .slice none 0 0] := ⟨by kernel_rfl, by kernel_rfl, rfl, rfl⟩
instance : FieldTy Try.prog 30 0 0 26 0 := ⟨by kernel_rfl, by kernel_rfl⟩
instance : FieldTy Try.prog 30 1 1 27 0 := ⟨by kernel_rfl, by kernel_rfl⟩
instance : FieldTy Try.prog 30 2 2 29 2 := ⟨by kernel_rfl, by kernel_rfl⟩
instance : BuildTy Try.prog 30 [(0, 1), (1, 1), (2, 3)] [.slice none 0 0, .slice none 0 0, .int .i64 0, .int .i64 0, .slice none 0 0] := ⟨fun parts => by kernel_rfl⟩
-- 31 deuce/deucetop.Day
instance : Ty Try.prog 31 true 5 88 (.agg #[.slice none 0 0, .slice none 0 0, .int .i64 0, .int .i64 0, .slice none 0 0]) [.slice none 0 0, .slice none 0 0, .int .i64 0, .int .i64 0, .slice none 0 0] := ⟨by kernel_rfl, by kernel_rfl, rfl, rfl⟩
instance : FieldTy Try.prog 31 0 0 26 0 := ⟨by kernel_rfl, by kernel_rfl⟩
instance : FieldTy Try.prog 31 1 1 27 0 := ⟨by kernel_rfl, by kernel_rfl⟩
instance : FieldTy Try.prog 31 2 2 29 2 := ⟨by kernel_rfl, by kernel_rfl⟩
instance : BuildTy Try.prog 31 [(0, 1), (1, 1), (2, 3)] [.slice none 0 0, .slice none 0 0, .int .i64 0, .int .i64 0, .slice none 0 0] := ⟨fun parts => by kernel_rfl⟩
-- 32 []api.Ticket
instance : Ty Try.prog 32 false 1 24 (.slice none 0 0) [.slice none 0 0] := ⟨by kernel_rfl, by kernel_rfl, rfl, rfl⟩
instance : SliceTy Try.prog 32 84 := ⟨by kernel_rfl⟩
-- 33 deuce/api.Errno
instance : Ty Try.prog 33 false 1 8 (.int .i64 0) [.int .i64 0] := ⟨by kernel_rfl, by kernel_rfl, rfl, rfl⟩
-- 34 func(api.Program) api.Errno
instance : Ty Try.prog 34 false 1 8 (.nilFunc) [.nilFunc] := ⟨by kernel_rfl, by kernel_rfl, rfl, rfl⟩
-- 35 func(api.Program, []api.Seat) bool
instance : Ty Try.prog 35 false 1 8 (.nilFunc) [.nilFunc] := ⟨by kernel_rfl, by kernel_rfl, rfl, rfl⟩
-- 36 func() bool
instance : Ty Try.prog 36 false 1 8 (.nilFunc) [.nilFunc] := ⟨by kernel_rfl, by kernel_rfl, rfl, rfl⟩
-- 37 []api.Span
instance : Ty Try.prog 37 false 1 24 (.slice none 0 0) [.slice none 0 0] := ⟨by kernel_rfl, by kernel_rfl, rfl, rfl⟩
instance : SliceTy Try.prog 37 43 := ⟨by kernel_rfl⟩
-- 39 func(api.Program, []api.Seat) ([]api.Span, []api.Span, api.Errno)
instance : Ty Try.prog 39 false 1 8 (.nilFunc) [.nilFunc] := ⟨by kernel_rfl, by kernel_rfl, rfl, rfl⟩
-- 40 struct { Job int; Day int; Court int }
instance : Ty Try.prog 40 true 3 24 (.agg #[.int .i64 0, .int .i64 0, .int .i64 0]) [.int .i64 0, .int .i64 0, .int .i64 0] := ⟨by kernel_rfl, by kernel_rfl, rfl, rfl⟩
instance : EqS Try.prog 40 3 := ⟨by kernel_rfl, by kernel_rfl, by kernel_rfl⟩
instance : FieldTy Try.prog 40 0 0 3 0 := ⟨by kernel_rfl, by kernel_rfl⟩
instance : FieldTy Try.prog 40 1 1 3 0 := ⟨by kernel_rfl, by kernel_rfl⟩
instance : FieldTy Try.prog 40 2 2 3 0 := ⟨by kernel_rfl, by kernel_rfl⟩
instance : BuildTy Try.prog 40 [(0, 1), (1, 1), (2, 1)] [.int .i64 0, .int .i64 0, .int .i64 0] := ⟨fun parts => by kernel_rfl⟩
-- 41 deuce/api.Seat
instance : Ty Try.prog 41 true 3 24 (.agg #[.int .i64 0, .int .i64 0, .int .i64 0]) [.int .i64 0, .int .i64 0, .int .i64 0] := ⟨by kernel_rfl, by kernel_rfl, rfl, rfl⟩
instance : EqS Try.prog 41 3 := ⟨by kernel_rfl, by kernel_rfl, by kernel_rfl⟩
instance : FieldTy Try.prog 41 0 0 3 0 := ⟨by kernel_rfl, by kernel_rfl⟩
instance : FieldTy Try.prog 41 1 1 3 0 := ⟨by kernel_rfl, by kernel_rfl⟩
instance : FieldTy Try.prog 41 2 2 3 0 := ⟨by kernel_rfl, by kernel_rfl⟩
instance : BuildTy Try.prog 41 [(0, 1), (1, 1), (2, 1)] [.int .i64 0, .int .i64 0, .int .i64 0] := ⟨fun parts => by kernel_rfl⟩
-- 42 struct { Low int; High int }
instance : Ty Try.prog 42 true 2 16 (.agg #[.int .i64 0, .int .i64 0]) [.int .i64 0, .int .i64 0] := ⟨by kernel_rfl, by kernel_rfl, rfl, rfl⟩
instance : EqS Try.prog 42 2 := ⟨by kernel_rfl, by kernel_rfl, by kernel_rfl⟩
instance : FieldTy Try.prog 42 0 0 3 0 := ⟨by kernel_rfl, by kernel_rfl⟩
instance : FieldTy Try.prog 42 1 1 3 0 := ⟨by kernel_rfl, by kernel_rfl⟩
instance : BuildTy Try.prog 42 [(0, 1), (1, 1)] [.int .i64 0, .int .i64 0] := ⟨fun parts => by kernel_rfl⟩
-- 43 deuce/api.Span
instance : Ty Try.prog 43 true 2 16 (.agg #[.int .i64 0, .int .i64 0]) [.int .i64 0, .int .i64 0] := ⟨by kernel_rfl, by kernel_rfl, rfl, rfl⟩
instance : EqS Try.prog 43 2 := ⟨by kernel_rfl, by kernel_rfl, by kernel_rfl⟩
instance : FieldTy Try.prog 43 0 0 3 0 := ⟨by kernel_rfl, by kernel_rfl⟩
instance : FieldTy Try.prog 43 1 1 3 0 := ⟨by kernel_rfl, by kernel_rfl⟩
instance : BuildTy Try.prog 43 [(0, 1), (1, 1)] [.int .i64 0, .int .i64 0] := ⟨fun parts => by kernel_rfl⟩
-- 44 struct { Length api.Span; After []int; With []int; Due int; Earliest int }
instance : Ty Try.prog 44 true 6 80 (.agg #[.int .i64 0, .int .i64 0, .slice none 0 0, .slice none 0 0, .int .i64 0, .int .i64 0]) [.int .i64 0, .int .i64 0, .slice none 0 0, .slice none 0 0, .int .i64 0, .int .i64 0] := ⟨by kernel_rfl, by kernel_rfl, rfl, rfl⟩
instance : FieldTy Try.prog 44 0 0 43 1 := ⟨by kernel_rfl, by kernel_rfl⟩
instance : FieldTy Try.prog 44 1 2 27 0 := ⟨by kernel_rfl, by kernel_rfl⟩
instance : FieldTy Try.prog 44 2 3 27 0 := ⟨by kernel_rfl, by kernel_rfl⟩
instance : FieldTy Try.prog 44 3 4 3 0 := ⟨by kernel_rfl, by kernel_rfl⟩
instance : FieldTy Try.prog 44 4 5 3 0 := ⟨by kernel_rfl, by kernel_rfl⟩
instance : BuildTy Try.prog 44 [(0, 2), (2, 1), (3, 1), (4, 1), (5, 1)] [.int .i64 0, .int .i64 0, .slice none 0 0, .slice none 0 0, .int .i64 0, .int .i64 0] := ⟨fun parts => by kernel_rfl⟩
-- 45 deuce/api.Job
instance : Ty Try.prog 45 true 6 80 (.agg #[.int .i64 0, .int .i64 0, .slice none 0 0, .slice none 0 0, .int .i64 0, .int .i64 0]) [.int .i64 0, .int .i64 0, .slice none 0 0, .slice none 0 0, .int .i64 0, .int .i64 0] := ⟨by kernel_rfl, by kernel_rfl, rfl, rfl⟩
instance : FieldTy Try.prog 45 0 0 43 1 := ⟨by kernel_rfl, by kernel_rfl⟩
instance : FieldTy Try.prog 45 1 2 27 0 := ⟨by kernel_rfl, by kernel_rfl⟩
instance : FieldTy Try.prog 45 2 3 27 0 := ⟨by kernel_rfl, by kernel_rfl⟩
instance : FieldTy Try.prog 45 3 4 3 0 := ⟨by kernel_rfl, by kernel_rfl⟩
instance : FieldTy Try.prog 45 4 5 3 0 := ⟨by kernel_rfl, by kernel_rfl⟩
instance : BuildTy Try.prog 45 [(0, 2), (2, 1), (3, 1), (4, 1), (5, 1)] [.int .i64 0, .int .i64 0, .slice none 0 0, .slice none 0 0, .int .i64 0, .int .i64 0] := ⟨fun parts => by kernel_rfl⟩
-- 46 func(api.Terms, []api.Ticket) api.Errno
instance : Ty Try.prog 46 false 1 8 (.nilFunc) [.nilFunc] := ⟨by kernel_rfl, by kernel_rfl, rfl, rfl⟩
-- 48 func(api.Terms, []api.Ticket) ([]int, api.Errno)
instance : Ty Try.prog 48 false 1 8 (.nilFunc) [.nilFunc] := ⟨by kernel_rfl, by kernel_rfl, rfl, rfl⟩
-- 49 func(api.Program, deucetop.Day, []api.Ticket) bool
instance : Ty Try.prog 49 false 1 8 (.nilFunc) [.nilFunc] := ⟨by kernel_rfl, by kernel_rfl, rfl, rfl⟩
-- 50 []api.Party
instance : Ty Try.prog 50 false 1 24 (.slice none 0 0) [.slice none 0 0] := ⟨by kernel_rfl, by kernel_rfl, rfl, rfl⟩
instance : SliceTy Try.prog 50 59 := ⟨by kernel_rfl⟩
-- 51 []api.Free
instance : Ty Try.prog 51 false 1 24 (.slice none 0 0) [.slice none 0 0] := ⟨by kernel_rfl, by kernel_rfl, rfl, rfl⟩
instance : SliceTy Try.prog 51 64 := ⟨by kernel_rfl⟩
-- 52 struct { Open int; Rate api.Span; Seats int; Groups []api.Party; Frees []api.Free }
instance : Ty Try.prog 52 true 6 80 (.agg #[.int .i64 0, .int .i64 0, .int .i64 0, .int .i64 0, .slice none 0 0, .slice none 0 0]) [.int .i64 0, .int .i64 0, .int .i64 0, .int .i64 0, .slice none 0 0, .slice none 0 0] := ⟨by kernel_rfl, by kernel_rfl, rfl, rfl⟩
instance : FieldTy Try.prog 52 0 0 3 0 := ⟨by kernel_rfl, by kernel_rfl⟩
instance : FieldTy Try.prog 52 1 1 43 1 := ⟨by kernel_rfl, by kernel_rfl⟩
instance : FieldTy Try.prog 52 2 3 3 0 := ⟨by kernel_rfl, by kernel_rfl⟩
instance : FieldTy Try.prog 52 3 4 50 0 := ⟨by kernel_rfl, by kernel_rfl⟩
instance : FieldTy Try.prog 52 4 5 51 0 := ⟨by kernel_rfl, by kernel_rfl⟩
instance : BuildTy Try.prog 52 [(0, 1), (1, 2), (3, 1), (4, 1), (5, 1)] [.int .i64 0, .int .i64 0, .int .i64 0, .int .i64 0, .slice none 0 0, .slice none 0 0] := ⟨fun parts => by kernel_rfl⟩
-- 53 deuce/api.Queue
instance : Ty Try.prog 53 true 6 80 (.agg #[.int .i64 0, .int .i64 0, .int .i64 0, .int .i64 0, .slice none 0 0, .slice none 0 0]) [.int .i64 0, .int .i64 0, .int .i64 0, .int .i64 0, .slice none 0 0, .slice none 0 0] := ⟨by kernel_rfl, by kernel_rfl, rfl, rfl⟩
instance : FieldTy Try.prog 53 0 0 3 0 := ⟨by kernel_rfl, by kernel_rfl⟩
instance : FieldTy Try.prog 53 1 1 43 1 := ⟨by kernel_rfl, by kernel_rfl⟩
instance : FieldTy Try.prog 53 2 3 3 0 := ⟨by kernel_rfl, by kernel_rfl⟩
instance : FieldTy Try.prog 53 3 4 50 0 := ⟨by kernel_rfl, by kernel_rfl⟩
instance : FieldTy Try.prog 53 4 5 51 0 := ⟨by kernel_rfl, by kernel_rfl⟩
instance : BuildTy Try.prog 53 [(0, 1), (1, 2), (3, 1), (4, 1), (5, 1)] [.int .i64 0, .int .i64 0, .int .i64 0, .int .i64 0, .slice none 0 0, .slice none 0 0] := ⟨fun parts => by kernel_rfl⟩
-- 54 struct { Order []api.Seat; Takes []int; Day int; Seats int; Rate int }
instance : Ty Try.prog 54 true 5 72 (.agg #[.slice none 0 0, .slice none 0 0, .int .i64 0, .int .i64 0, .int .i64 0]) [.slice none 0 0, .slice none 0 0, .int .i64 0, .int .i64 0, .int .i64 0] := ⟨by kernel_rfl, by kernel_rfl, rfl, rfl⟩
instance : FieldTy Try.prog 54 0 0 26 0 := ⟨by kernel_rfl, by kernel_rfl⟩
instance : FieldTy Try.prog 54 1 1 27 0 := ⟨by kernel_rfl, by kernel_rfl⟩
instance : FieldTy Try.prog 54 2 2 3 0 := ⟨by kernel_rfl, by kernel_rfl⟩
instance : FieldTy Try.prog 54 3 3 3 0 := ⟨by kernel_rfl, by kernel_rfl⟩
instance : FieldTy Try.prog 54 4 4 3 0 := ⟨by kernel_rfl, by kernel_rfl⟩
instance : BuildTy Try.prog 54 [(0, 1), (1, 1), (2, 1), (3, 1), (4, 1)] [.slice none 0 0, .slice none 0 0, .int .i64 0, .int .i64 0, .int .i64 0] := ⟨fun parts => by kernel_rfl⟩
-- 55 deuce/deucetop.Ends
instance : Ty Try.prog 55 true 5 72 (.agg #[.slice none 0 0, .slice none 0 0, .int .i64 0, .int .i64 0, .int .i64 0]) [.slice none 0 0, .slice none 0 0, .int .i64 0, .int .i64 0, .int .i64 0] := ⟨by kernel_rfl, by kernel_rfl, rfl, rfl⟩
instance : FieldTy Try.prog 55 0 0 26 0 := ⟨by kernel_rfl, by kernel_rfl⟩
instance : FieldTy Try.prog 55 1 1 27 0 := ⟨by kernel_rfl, by kernel_rfl⟩
instance : FieldTy Try.prog 55 2 2 3 0 := ⟨by kernel_rfl, by kernel_rfl⟩
instance : FieldTy Try.prog 55 3 3 3 0 := ⟨by kernel_rfl, by kernel_rfl⟩
instance : FieldTy Try.prog 55 4 4 3 0 := ⟨by kernel_rfl, by kernel_rfl⟩
instance : BuildTy Try.prog 55 [(0, 1), (1, 1), (2, 1), (3, 1), (4, 1)] [.slice none 0 0, .slice none 0 0, .int .i64 0, .int .i64 0, .int .i64 0] := ⟨fun parts => by kernel_rfl⟩
-- 56 func(api.Queue) bool
instance : Ty Try.prog 56 false 1 8 (.nilFunc) [.nilFunc] := ⟨by kernel_rfl, by kernel_rfl, rfl, rfl⟩
-- 57 func(api.Queue) api.Errno
instance : Ty Try.prog 57 false 1 8 (.nilFunc) [.nilFunc] := ⟨by kernel_rfl, by kernel_rfl, rfl, rfl⟩
-- 58 struct { Id int; At int; Size int; Quits int }
instance : Ty Try.prog 58 true 4 32 (.agg #[.int .i64 0, .int .i64 0, .int .i64 0, .int .i64 0]) [.int .i64 0, .int .i64 0, .int .i64 0, .int .i64 0] := ⟨by kernel_rfl, by kernel_rfl, rfl, rfl⟩
instance : EqS Try.prog 58 4 := ⟨by kernel_rfl, by kernel_rfl, by kernel_rfl⟩
instance : FieldTy Try.prog 58 0 0 3 0 := ⟨by kernel_rfl, by kernel_rfl⟩
instance : FieldTy Try.prog 58 1 1 3 0 := ⟨by kernel_rfl, by kernel_rfl⟩
instance : FieldTy Try.prog 58 2 2 3 0 := ⟨by kernel_rfl, by kernel_rfl⟩
instance : FieldTy Try.prog 58 3 3 3 0 := ⟨by kernel_rfl, by kernel_rfl⟩
instance : BuildTy Try.prog 58 [(0, 1), (1, 1), (2, 1), (3, 1)] [.int .i64 0, .int .i64 0, .int .i64 0, .int .i64 0] := ⟨fun parts => by kernel_rfl⟩
-- 59 deuce/api.Party
instance : Ty Try.prog 59 true 4 32 (.agg #[.int .i64 0, .int .i64 0, .int .i64 0, .int .i64 0]) [.int .i64 0, .int .i64 0, .int .i64 0, .int .i64 0] := ⟨by kernel_rfl, by kernel_rfl, rfl, rfl⟩
instance : EqS Try.prog 59 4 := ⟨by kernel_rfl, by kernel_rfl, by kernel_rfl⟩
instance : FieldTy Try.prog 59 0 0 3 0 := ⟨by kernel_rfl, by kernel_rfl⟩
instance : FieldTy Try.prog 59 1 1 3 0 := ⟨by kernel_rfl, by kernel_rfl⟩
instance : FieldTy Try.prog 59 2 2 3 0 := ⟨by kernel_rfl, by kernel_rfl⟩
instance : FieldTy Try.prog 59 3 3 3 0 := ⟨by kernel_rfl, by kernel_rfl⟩
instance : BuildTy Try.prog 59 [(0, 1), (1, 1), (2, 1), (3, 1)] [.int .i64 0, .int .i64 0, .int .i64 0, .int .i64 0] := ⟨fun parts => by kernel_rfl⟩
-- 61 func(api.Program, []api.Seat, []int) ([]int, []int)
instance : Ty Try.prog 61 false 1 8 (.nilFunc) [.nilFunc] := ⟨by kernel_rfl, by kernel_rfl, rfl, rfl⟩
-- 62 func(api.Queue) api.Queue
instance : Ty Try.prog 62 false 1 8 (.nilFunc) [.nilFunc] := ⟨by kernel_rfl, by kernel_rfl, rfl, rfl⟩
-- 63 struct { At int; Count int }
instance : Ty Try.prog 63 true 2 16 (.agg #[.int .i64 0, .int .i64 0]) [.int .i64 0, .int .i64 0] := ⟨by kernel_rfl, by kernel_rfl, rfl, rfl⟩
instance : EqS Try.prog 63 2 := ⟨by kernel_rfl, by kernel_rfl, by kernel_rfl⟩
instance : FieldTy Try.prog 63 0 0 3 0 := ⟨by kernel_rfl, by kernel_rfl⟩
instance : FieldTy Try.prog 63 1 1 3 0 := ⟨by kernel_rfl, by kernel_rfl⟩
instance : BuildTy Try.prog 63 [(0, 1), (1, 1)] [.int .i64 0, .int .i64 0] := ⟨fun parts => by kernel_rfl⟩
-- 64 deuce/api.Free
instance : Ty Try.prog 64 true 2 16 (.agg #[.int .i64 0, .int .i64 0]) [.int .i64 0, .int .i64 0] := ⟨by kernel_rfl, by kernel_rfl, rfl, rfl⟩
instance : EqS Try.prog 64 2 := ⟨by kernel_rfl, by kernel_rfl, by kernel_rfl⟩
instance : FieldTy Try.prog 64 0 0 3 0 := ⟨by kernel_rfl, by kernel_rfl⟩
instance : FieldTy Try.prog 64 1 1 3 0 := ⟨by kernel_rfl, by kernel_rfl⟩
instance : BuildTy Try.prog 64 [(0, 1), (1, 1)] [.int .i64 0, .int .i64 0] := ⟨fun parts => by kernel_rfl⟩
-- 65 func(api.Queue, int) ([]int, api.Errno)
instance : Ty Try.prog 65 false 1 8 (.nilFunc) [.nilFunc] := ⟨by kernel_rfl, by kernel_rfl, rfl, rfl⟩
-- 66 func(int, int) bool
instance : Ty Try.prog 66 false 1 8 (.nilFunc) [.nilFunc] := ⟨by kernel_rfl, by kernel_rfl, rfl, rfl⟩
-- 67 func(api.Program, api.Queue, deucetop.Ends) bool
instance : Ty Try.prog 67 false 1 8 (.nilFunc) [.nilFunc] := ⟨by kernel_rfl, by kernel_rfl, rfl, rfl⟩
-- 68 func(int, int, int) bool
instance : Ty Try.prog 68 false 1 8 (.nilFunc) [.nilFunc] := ⟨by kernel_rfl, by kernel_rfl, rfl, rfl⟩
-- 69 func(api.Job, int, int) bool
instance : Ty Try.prog 69 false 1 8 (.nilFunc) [.nilFunc] := ⟨by kernel_rfl, by kernel_rfl, rfl, rfl⟩
-- 70 func(api.Program, []api.Seat, api.Seat) bool
instance : Ty Try.prog 70 false 1 8 (.nilFunc) [.nilFunc] := ⟨by kernel_rfl, by kernel_rfl, rfl, rfl⟩
-- 72 func() (api.Program, []api.Seat)
instance : Ty Try.prog 72 false 1 8 (.nilFunc) [.nilFunc] := ⟨by kernel_rfl, by kernel_rfl, rfl, rfl⟩
-- 74 func(api.Program, []api.Seat) (bool, int, api.Errno)
instance : Ty Try.prog 74 false 1 8 (.nilFunc) [.nilFunc] := ⟨by kernel_rfl, by kernel_rfl, rfl, rfl⟩
-- 76 func() (api.Queue, api.Terms, []api.Ticket)
instance : Ty Try.prog 76 false 1 8 (.nilFunc) [.nilFunc] := ⟨by kernel_rfl, by kernel_rfl, rfl, rfl⟩
-- 78 func(api.Terms, []api.Ticket) (int, api.Errno)
instance : Ty Try.prog 78 false 1 8 (.nilFunc) [.nilFunc] := ⟨by kernel_rfl, by kernel_rfl, rfl, rfl⟩
-- 80 func(api.Queue, int) (api.Span, api.Errno)
instance : Ty Try.prog 80 false 1 8 (.nilFunc) [.nilFunc] := ⟨by kernel_rfl, by kernel_rfl, rfl, rfl⟩
-- 81 func(api.Program, []api.Seat, func(api.Span) int) ([]int, []int)
instance : Ty Try.prog 81 false 1 8 (.nilFunc) [.nilFunc] := ⟨by kernel_rfl, by kernel_rfl, rfl, rfl⟩
-- 82 func(api.Span) int
instance : Ty Try.prog 82 false 1 8 (.nilFunc) [.nilFunc] := ⟨by kernel_rfl, by kernel_rfl, rfl, rfl⟩
-- 83 struct { Id int; Price int; Day int; Paid int }
instance : Ty Try.prog 83 true 4 32 (.agg #[.int .i64 0, .int .i64 0, .int .i64 0, .int .i64 0]) [.int .i64 0, .int .i64 0, .int .i64 0, .int .i64 0] := ⟨by kernel_rfl, by kernel_rfl, rfl, rfl⟩
instance : EqS Try.prog 83 4 := ⟨by kernel_rfl, by kernel_rfl, by kernel_rfl⟩
instance : FieldTy Try.prog 83 0 0 3 0 := ⟨by kernel_rfl, by kernel_rfl⟩
instance : FieldTy Try.prog 83 1 1 3 0 := ⟨by kernel_rfl, by kernel_rfl⟩
instance : FieldTy Try.prog 83 2 2 3 0 := ⟨by kernel_rfl, by kernel_rfl⟩
instance : FieldTy Try.prog 83 3 3 3 0 := ⟨by kernel_rfl, by kernel_rfl⟩
instance : BuildTy Try.prog 83 [(0, 1), (1, 1), (2, 1), (3, 1)] [.int .i64 0, .int .i64 0, .int .i64 0, .int .i64 0] := ⟨fun parts => by kernel_rfl⟩
-- 84 deuce/api.Ticket
instance : Ty Try.prog 84 true 4 32 (.agg #[.int .i64 0, .int .i64 0, .int .i64 0, .int .i64 0]) [.int .i64 0, .int .i64 0, .int .i64 0, .int .i64 0] := ⟨by kernel_rfl, by kernel_rfl, rfl, rfl⟩
instance : EqS Try.prog 84 4 := ⟨by kernel_rfl, by kernel_rfl, by kernel_rfl⟩
instance : FieldTy Try.prog 84 0 0 3 0 := ⟨by kernel_rfl, by kernel_rfl⟩
instance : FieldTy Try.prog 84 1 1 3 0 := ⟨by kernel_rfl, by kernel_rfl⟩
instance : FieldTy Try.prog 84 2 2 3 0 := ⟨by kernel_rfl, by kernel_rfl⟩
instance : FieldTy Try.prog 84 3 3 3 0 := ⟨by kernel_rfl, by kernel_rfl⟩
instance : BuildTy Try.prog 84 [(0, 1), (1, 1), (2, 1), (3, 1)] [.int .i64 0, .int .i64 0, .int .i64 0, .int .i64 0] := ⟨fun parts => by kernel_rfl⟩
-- 85 func(api.Terms, []api.Ticket) bool
instance : Ty Try.prog 85 false 1 8 (.nilFunc) [.nilFunc] := ⟨by kernel_rfl, by kernel_rfl, rfl, rfl⟩
-- 86 func(api.Terms, api.Ticket) int
instance : Ty Try.prog 86 false 1 8 (.nilFunc) [.nilFunc] := ⟨by kernel_rfl, by kernel_rfl, rfl, rfl⟩
-- 87 func(api.Queue) int
instance : Ty Try.prog 87 false 1 8 (.nilFunc) [.nilFunc] := ⟨by kernel_rfl, by kernel_rfl, rfl, rfl⟩
-- 88 func(api.Program, []api.Seat, []int, api.Seat) int
instance : Ty Try.prog 88 false 1 8 (.nilFunc) [.nilFunc] := ⟨by kernel_rfl, by kernel_rfl, rfl, rfl⟩
-- 89 func(api.Queue, int, int) []int
instance : Ty Try.prog 89 false 1 8 (.nilFunc) [.nilFunc] := ⟨by kernel_rfl, by kernel_rfl, rfl, rfl⟩
-- 90 func(api.Span) bool
instance : Ty Try.prog 90 false 1 8 (.nilFunc) [.nilFunc] := ⟨by kernel_rfl, by kernel_rfl, rfl, rfl⟩
-- 91 func([]api.Seat, int) bool
instance : Ty Try.prog 91 false 1 8 (.nilFunc) [.nilFunc] := ⟨by kernel_rfl, by kernel_rfl, rfl, rfl⟩
-- 92 func(api.Queue, int) (int, api.Errno)
instance : Ty Try.prog 92 false 1 8 (.nilFunc) [.nilFunc] := ⟨by kernel_rfl, by kernel_rfl, rfl, rfl⟩
-- 94 func(api.Queue, int, int) (api.Span, bool)
instance : Ty Try.prog 94 false 1 8 (.nilFunc) [.nilFunc] := ⟨by kernel_rfl, by kernel_rfl, rfl, rfl⟩
-- 95 func([]api.Span, func(api.Span) bool) bool
instance : Ty Try.prog 95 false 1 8 (.nilFunc) [.nilFunc] := ⟨by kernel_rfl, by kernel_rfl, rfl, rfl⟩
-- 96 func(api.Span, int, int) bool
instance : Ty Try.prog 96 false 1 8 (.nilFunc) [.nilFunc] := ⟨by kernel_rfl, by kernel_rfl, rfl, rfl⟩
-- 97 func(api.Span, int) bool
instance : Ty Try.prog 97 false 1 8 (.nilFunc) [.nilFunc] := ⟨by kernel_rfl, by kernel_rfl, rfl, rfl⟩
-- 98 func([]int, int) bool
instance : Ty Try.prog 98 false 1 8 (.nilFunc) [.nilFunc] := ⟨by kernel_rfl, by kernel_rfl, rfl, rfl⟩
-- 99 func([]int, func(int) bool) bool
instance : Ty Try.prog 99 false 1 8 (.nilFunc) [.nilFunc] := ⟨by kernel_rfl, by kernel_rfl, rfl, rfl⟩
-- 100 func(int) bool
instance : Ty Try.prog 100 false 1 8 (.nilFunc) [.nilFunc] := ⟨by kernel_rfl, by kernel_rfl, rfl, rfl⟩
-- 101 [3]int
instance : Ty Try.prog 101 true 3 24 (.agg #[.int .i64 0, .int .i64 0, .int .i64 0]) [.int .i64 0, .int .i64 0, .int .i64 0] := ⟨by kernel_rfl, by kernel_rfl, rfl, rfl⟩
instance : ArrayTy Try.prog 101 3 3 := ⟨by kernel_rfl⟩
instance : EqA Try.prog 101 3 := ⟨by kernel_rfl, by kernel_rfl, by kernel_rfl, by kernel_rfl⟩
-- 102 [6]int
instance : Ty Try.prog 102 true 6 48 (.agg #[.int .i64 0, .int .i64 0, .int .i64 0, .int .i64 0, .int .i64 0, .int .i64 0]) [.int .i64 0, .int .i64 0, .int .i64 0, .int .i64 0, .int .i64 0, .int .i64 0] := ⟨by kernel_rfl, by kernel_rfl, rfl, rfl⟩
instance : ArrayTy Try.prog 102 6 3 := ⟨by kernel_rfl⟩
instance : EqA Try.prog 102 6 := ⟨by kernel_rfl, by kernel_rfl, by kernel_rfl, by kernel_rfl⟩
-- 103 struct { number int; free [3]int; ends [6]int }
instance : Ty Try.prog 103 true 10 80 (.agg #[.int .i64 0, .int .i64 0, .int .i64 0, .int .i64 0, .int .i64 0, .int .i64 0, .int .i64 0, .int .i64 0, .int .i64 0, .int .i64 0]) [.int .i64 0, .int .i64 0, .int .i64 0, .int .i64 0, .int .i64 0, .int .i64 0, .int .i64 0, .int .i64 0, .int .i64 0, .int .i64 0] := ⟨by kernel_rfl, by kernel_rfl, rfl, rfl⟩
instance : FieldTy Try.prog 103 0 0 3 0 := ⟨by kernel_rfl, by kernel_rfl⟩
instance : FieldTy Try.prog 103 1 1 101 2 := ⟨by kernel_rfl, by kernel_rfl⟩
instance : FieldTy Try.prog 103 2 4 102 5 := ⟨by kernel_rfl, by kernel_rfl⟩
instance : BuildTy Try.prog 103 [(0, 1), (1, 3), (4, 6)] [.int .i64 0, .int .i64 0, .int .i64 0, .int .i64 0, .int .i64 0, .int .i64 0, .int .i64 0, .int .i64 0, .int .i64 0, .int .i64 0] := ⟨fun parts => by kernel_rfl⟩
-- 104 deuce/play.day
instance : Ty Try.prog 104 true 10 80 (.agg #[.int .i64 0, .int .i64 0, .int .i64 0, .int .i64 0, .int .i64 0, .int .i64 0, .int .i64 0, .int .i64 0, .int .i64 0, .int .i64 0]) [.int .i64 0, .int .i64 0, .int .i64 0, .int .i64 0, .int .i64 0, .int .i64 0, .int .i64 0, .int .i64 0, .int .i64 0, .int .i64 0] := ⟨by kernel_rfl, by kernel_rfl, rfl, rfl⟩
instance : FieldTy Try.prog 104 0 0 3 0 := ⟨by kernel_rfl, by kernel_rfl⟩
instance : FieldTy Try.prog 104 1 1 101 2 := ⟨by kernel_rfl, by kernel_rfl⟩
instance : FieldTy Try.prog 104 2 4 102 5 := ⟨by kernel_rfl, by kernel_rfl⟩
instance : BuildTy Try.prog 104 [(0, 1), (1, 3), (4, 6)] [.int .i64 0, .int .i64 0, .int .i64 0, .int .i64 0, .int .i64 0, .int .i64 0, .int .i64 0, .int .i64 0, .int .i64 0, .int .i64 0] := ⟨fun parts => by kernel_rfl⟩
-- 105 func(api.Program, int) play.day
instance : Ty Try.prog 105 false 1 8 (.nilFunc) [.nilFunc] := ⟨by kernel_rfl, by kernel_rfl, rfl, rfl⟩
-- 107 func(api.Program, api.Seat, int) (int, int)
instance : Ty Try.prog 107 false 1 8 (.nilFunc) [.nilFunc] := ⟨by kernel_rfl, by kernel_rfl, rfl, rfl⟩
-- 108 map[int]int
instance : Ty Try.prog 108 false 1 8 (.map none) [.map none] := ⟨by kernel_rfl, by kernel_rfl, rfl, rfl⟩
-- 109 func(api.Program, int, int) bool
instance : Ty Try.prog 109 false 1 8 (.nilFunc) [.nilFunc] := ⟨by kernel_rfl, by kernel_rfl, rfl, rfl⟩
-- 110 func(api.Party) bool
instance : Ty Try.prog 110 false 1 8 (.nilFunc) [.nilFunc] := ⟨by kernel_rfl, by kernel_rfl, rfl, rfl⟩
-- 111 func([]api.Free, func(api.Free) bool) bool
instance : Ty Try.prog 111 false 1 8 (.nilFunc) [.nilFunc] := ⟨by kernel_rfl, by kernel_rfl, rfl, rfl⟩
-- 112 func(api.Free) bool
instance : Ty Try.prog 112 false 1 8 (.nilFunc) [.nilFunc] := ⟨by kernel_rfl, by kernel_rfl, rfl, rfl⟩
-- 113 *gate.crowd
instance : Ty Try.prog 113 false 1 8 (.pointer none) [.pointer none] := ⟨by kernel_rfl, by kernel_rfl, rfl, rfl⟩
-- 114 func(api.Queue, int) *gate.crowd
instance : Ty Try.prog 114 false 1 8 (.nilFunc) [.nilFunc] := ⟨by kernel_rfl, by kernel_rfl, rfl, rfl⟩
-- 115 struct { api.Queue; order []int; free int; waits []int; passing int; in []int }
instance : Ty Try.prog 115 true 11 168 (.agg #[.int .i64 0, .int .i64 0, .int .i64 0, .int .i64 0, .slice none 0 0, .slice none 0 0, .slice none 0 0, .int .i64 0, .slice none 0 0, .int .i64 0, .slice none 0 0]) [.int .i64 0, .int .i64 0, .int .i64 0, .int .i64 0, .slice none 0 0, .slice none 0 0, .slice none 0 0, .int .i64 0, .slice none 0 0, .int .i64 0, .slice none 0 0] := ⟨by kernel_rfl, by kernel_rfl, rfl, rfl⟩
instance : FieldTy Try.prog 115 0 0 53 5 := ⟨by kernel_rfl, by kernel_rfl⟩
instance : FieldTy Try.prog 115 1 6 27 0 := ⟨by kernel_rfl, by kernel_rfl⟩
instance : FieldTy Try.prog 115 2 7 3 0 := ⟨by kernel_rfl, by kernel_rfl⟩
instance : FieldTy Try.prog 115 3 8 27 0 := ⟨by kernel_rfl, by kernel_rfl⟩
instance : FieldTy Try.prog 115 4 9 3 0 := ⟨by kernel_rfl, by kernel_rfl⟩
instance : FieldTy Try.prog 115 5 10 27 0 := ⟨by kernel_rfl, by kernel_rfl⟩
instance : BuildTy Try.prog 115 [(0, 6), (6, 1), (7, 1), (8, 1), (9, 1), (10, 1)] [.int .i64 0, .int .i64 0, .int .i64 0, .int .i64 0, .slice none 0 0, .slice none 0 0, .slice none 0 0, .int .i64 0, .slice none 0 0, .int .i64 0, .slice none 0 0] := ⟨fun parts => by kernel_rfl⟩
-- 116 deuce/gate.crowd
instance : Ty Try.prog 116 true 11 168 (.agg #[.int .i64 0, .int .i64 0, .int .i64 0, .int .i64 0, .slice none 0 0, .slice none 0 0, .slice none 0 0, .int .i64 0, .slice none 0 0, .int .i64 0, .slice none 0 0]) [.int .i64 0, .int .i64 0, .int .i64 0, .int .i64 0, .slice none 0 0, .slice none 0 0, .slice none 0 0, .int .i64 0, .slice none 0 0, .int .i64 0, .slice none 0 0] := ⟨by kernel_rfl, by kernel_rfl, rfl, rfl⟩
instance : FieldTy Try.prog 116 0 0 53 5 := ⟨by kernel_rfl, by kernel_rfl⟩
instance : FieldTy Try.prog 116 1 6 27 0 := ⟨by kernel_rfl, by kernel_rfl⟩
instance : FieldTy Try.prog 116 2 7 3 0 := ⟨by kernel_rfl, by kernel_rfl⟩
instance : FieldTy Try.prog 116 3 8 27 0 := ⟨by kernel_rfl, by kernel_rfl⟩
instance : FieldTy Try.prog 116 4 9 3 0 := ⟨by kernel_rfl, by kernel_rfl⟩
instance : FieldTy Try.prog 116 5 10 27 0 := ⟨by kernel_rfl, by kernel_rfl⟩
instance : BuildTy Try.prog 116 [(0, 6), (6, 1), (7, 1), (8, 1), (9, 1), (10, 1)] [.int .i64 0, .int .i64 0, .int .i64 0, .int .i64 0, .slice none 0 0, .slice none 0 0, .slice none 0 0, .int .i64 0, .slice none 0 0, .int .i64 0, .slice none 0 0] := ⟨fun parts => by kernel_rfl⟩
-- 117 func(int)
instance : Ty Try.prog 117 false 1 8 (.nilFunc) [.nilFunc] := ⟨by kernel_rfl, by kernel_rfl, rfl, rfl⟩
-- 118 func(int, int)
instance : Ty Try.prog 118 false 1 8 (.nilFunc) [.nilFunc] := ⟨by kernel_rfl, by kernel_rfl, rfl, rfl⟩
-- 119 func([]api.Party, func(api.Party) bool) int
instance : Ty Try.prog 119 false 1 8 (.nilFunc) [.nilFunc] := ⟨by kernel_rfl, by kernel_rfl, rfl, rfl⟩
-- 120 func(func([]int) bool)
instance : Ty Try.prog 120 false 1 8 (.nilFunc) [.nilFunc] := ⟨by kernel_rfl, by kernel_rfl, rfl, rfl⟩
-- 121 func(api.Queue, int) func(func([]int) bool)
instance : Ty Try.prog 121 false 1 8 (.nilFunc) [.nilFunc] := ⟨by kernel_rfl, by kernel_rfl, rfl, rfl⟩
-- 122 func([]api.Span, func(api.Span) bool) int
instance : Ty Try.prog 122 false 1 8 (.nilFunc) [.nilFunc] := ⟨by kernel_rfl, by kernel_rfl, rfl, rfl⟩
-- 123 func([]int, int) int
instance : Ty Try.prog 123 false 1 8 (.nilFunc) [.nilFunc] := ⟨by kernel_rfl, by kernel_rfl, rfl, rfl⟩
-- 124 func([]int, func(int) bool) int
instance : Ty Try.prog 124 false 1 8 (.nilFunc) [.nilFunc] := ⟨by kernel_rfl, by kernel_rfl, rfl, rfl⟩
-- 125 *play.day
instance : Ty Try.prog 125 false 1 8 (.pointer none) [.pointer none] := ⟨by kernel_rfl, by kernel_rfl, rfl, rfl⟩
-- 126 func([]api.Free, func(api.Free) bool) int
instance : Ty Try.prog 126 false 1 8 (.nilFunc) [.nilFunc] := ⟨by kernel_rfl, by kernel_rfl, rfl, rfl⟩
-- 127 func([]int, func(int, int) int)
instance : Ty Try.prog 127 false 1 8 (.nilFunc) [.nilFunc] := ⟨by kernel_rfl, by kernel_rfl, rfl, rfl⟩
-- 128 func(...int) int
instance : Ty Try.prog 128 false 1 8 (.nilFunc) [.nilFunc] := ⟨by kernel_rfl, by kernel_rfl, rfl, rfl⟩
-- 129 func(int, int) int
instance : Ty Try.prog 129 false 1 8 (.nilFunc) [.nilFunc] := ⟨by kernel_rfl, by kernel_rfl, rfl, rfl⟩
-- 130 func([]int, func(int) bool) []int
instance : Ty Try.prog 130 false 1 8 (.nilFunc) [.nilFunc] := ⟨by kernel_rfl, by kernel_rfl, rfl, rfl⟩
-- 131 func([]int) bool
instance : Ty Try.prog 131 false 1 8 (.nilFunc) [.nilFunc] := ⟨by kernel_rfl, by kernel_rfl, rfl, rfl⟩
-- 132 func([]int, int, int, int, func(int, int) int)
instance : Ty Try.prog 132 false 1 8 (.nilFunc) [.nilFunc] := ⟨by kernel_rfl, by kernel_rfl, rfl, rfl⟩
-- 133 func(uint) int
instance : Ty Try.prog 133 false 1 8 (.nilFunc) [.nilFunc] := ⟨by kernel_rfl, by kernel_rfl, rfl, rfl⟩
-- 134 uint
instance : Ty Try.prog 134 false 1 8 (.int .u64 0) [.int .u64 0] := ⟨by kernel_rfl, by kernel_rfl, rfl, rfl⟩
-- 135 func([]int, int, int, func(int, int) int)
instance : Ty Try.prog 135 false 1 8 (.nilFunc) [.nilFunc] := ⟨by kernel_rfl, by kernel_rfl, rfl, rfl⟩
-- 136 slices.sortedHint
instance : Ty Try.prog 136 false 1 8 (.int .i64 0) [.int .i64 0] := ⟨by kernel_rfl, by kernel_rfl, rfl, rfl⟩
-- 138 func([]int, int, int, func(int, int) int) (int, slices.sortedHint)
instance : Ty Try.prog 138 false 1 8 (.nilFunc) [.nilFunc] := ⟨by kernel_rfl, by kernel_rfl, rfl, rfl⟩
-- 139 func([]int, int, int, func(int, int) int) bool
instance : Ty Try.prog 139 false 1 8 (.nilFunc) [.nilFunc] := ⟨by kernel_rfl, by kernel_rfl, rfl, rfl⟩
-- 140 func([]int, int, int, int, func(int, int) int) int
instance : Ty Try.prog 140 false 1 8 (.nilFunc) [.nilFunc] := ⟨by kernel_rfl, by kernel_rfl, rfl, rfl⟩
-- 142 func([]int, int, int, int, func(int, int) int) (int, bool)
instance : Ty Try.prog 142 false 1 8 (.nilFunc) [.nilFunc] := ⟨by kernel_rfl, by kernel_rfl, rfl, rfl⟩
-- 143 func(uint32) int
instance : Ty Try.prog 143 false 1 8 (.nilFunc) [.nilFunc] := ⟨by kernel_rfl, by kernel_rfl, rfl, rfl⟩
-- 144 uint32
instance : Ty Try.prog 144 false 1 4 (.int .u32 0) [.int .u32 0] := ⟨by kernel_rfl, by kernel_rfl, rfl, rfl⟩
-- 145 func(uint64) int
instance : Ty Try.prog 145 false 1 8 (.nilFunc) [.nilFunc] := ⟨by kernel_rfl, by kernel_rfl, rfl, rfl⟩
-- 146 uint64
instance : Ty Try.prog 146 false 1 8 (.int .u64 0) [.int .u64 0] := ⟨by kernel_rfl, by kernel_rfl, rfl, rfl⟩
-- 147 slices.xorshift
instance : Ty Try.prog 147 false 1 8 (.int .u64 0) [.int .u64 0] := ⟨by kernel_rfl, by kernel_rfl, rfl, rfl⟩
-- 148 func(int) uint
instance : Ty Try.prog 148 false 1 8 (.nilFunc) [.nilFunc] := ⟨by kernel_rfl, by kernel_rfl, rfl, rfl⟩
-- 149 func() uint64
instance : Ty Try.prog 149 false 1 8 (.nilFunc) [.nilFunc] := ⟨by kernel_rfl, by kernel_rfl, rfl, rfl⟩
-- 150 func([]int, int, *int, func(int, int) int) int
instance : Ty Try.prog 150 false 1 8 (.nilFunc) [.nilFunc] := ⟨by kernel_rfl, by kernel_rfl, rfl, rfl⟩
-- 151 *int
instance : Ty Try.prog 151 false 1 8 (.pointer none) [.pointer none] := ⟨by kernel_rfl, by kernel_rfl, rfl, rfl⟩
-- 152 func([]int, int, int, int, *int, func(int, int) int) int
instance : Ty Try.prog 152 false 1 8 (.nilFunc) [.nilFunc] := ⟨by kernel_rfl, by kernel_rfl, rfl, rfl⟩
-- 153 *slices.xorshift
instance : Ty Try.prog 153 false 1 8 (.pointer none) [.pointer none] := ⟨by kernel_rfl, by kernel_rfl, rfl, rfl⟩
-- 154 func([]int, int, int, *int, func(int, int) int) (int, int)
instance : Ty Try.prog 154 false 1 8 (.nilFunc) [.nilFunc] := ⟨by kernel_rfl, by kernel_rfl, rfl, rfl⟩
-- 155 func() string
instance : Ty Try.prog 155 false 1 8 (.nilFunc) [.nilFunc] := ⟨by kernel_rfl, by kernel_rfl, rfl, rfl⟩
-- 156 struct { _interface *abi.Type; concrete *abi.Type; asserted *abi.Type; missingMethod string }
instance : Ty Try.prog 156 true 4 40 (.agg #[.pointer none, .pointer none, .pointer none, .string ByteArray.empty]) [.pointer none, .pointer none, .pointer none, .string ByteArray.empty] := ⟨by kernel_rfl, by kernel_rfl, rfl, rfl⟩
instance : FieldTy Try.prog 156 0 0 17 0 := ⟨by kernel_rfl, by kernel_rfl⟩
instance : FieldTy Try.prog 156 1 1 17 0 := ⟨by kernel_rfl, by kernel_rfl⟩
instance : FieldTy Try.prog 156 2 2 17 0 := ⟨by kernel_rfl, by kernel_rfl⟩
instance : FieldTy Try.prog 156 3 3 9 0 := ⟨by kernel_rfl, by kernel_rfl⟩
instance : BuildTy Try.prog 156 [(0, 1), (1, 1), (2, 1), (3, 1)] [.pointer none, .pointer none, .pointer none, .string ByteArray.empty] := ⟨fun parts => by kernel_rfl⟩
-- 158 [0]*runtime.PanicNilError
instance : Ty Try.prog 158 true 0 0 (.agg #[]) [] := ⟨by kernel_rfl, by kernel_rfl, rfl, rfl⟩
instance : ArrayTy Try.prog 158 0 16 := ⟨by kernel_rfl⟩
-- 159 struct { _ [0]*runtime.PanicNilError }
instance : Ty Try.prog 159 true 0 0 (.agg #[]) [] := ⟨by kernel_rfl, by kernel_rfl, rfl, rfl⟩
-- 161 func() int
instance : Ty Try.prog 161 false 1 8 (.nilFunc) [.nilFunc] := ⟨by kernel_rfl, by kernel_rfl, rfl, rfl⟩
-- 164 func(unsafe.Pointer, unsafe.Pointer) bool
instance : Ty Try.prog 164 false 1 8 (.nilFunc) [.nilFunc] := ⟨by kernel_rfl, by kernel_rfl, rfl, rfl⟩
-- 165 *uint8
instance : Ty Try.prog 165 false 1 8 (.pointer none) [.pointer none] := ⟨by kernel_rfl, by kernel_rfl, rfl, rfl⟩
-- 168 struct { Size_ uintptr; PtrBytes uintptr; Hash uint32; TFlag abi.TFlag; Align_ uint8; FieldAlign_ uint8; Kind_ abi.Kind; Equal func(unsafe.Pointer, unsafe.Pointer) bool; GCData *uint8; Str abi.NameOff; PtrToThis abi.TypeOff }
instance : Ty Try.prog 168 true 11 48 (.agg #[.int .u64 0, .int .u64 0, .int .u32 0, .int .u8 0, .int .u8 0, .int .u8 0, .int .u8 0, .nilFunc, .pointer none, .int .i32 0, .int .i32 0]) [.int .u64 0, .int .u64 0, .int .u32 0, .int .u8 0, .int .u8 0, .int .u8 0, .int .u8 0, .nilFunc, .pointer none, .int .i32 0, .int .i32 0] := ⟨by kernel_rfl, by kernel_rfl, rfl, rfl⟩
instance : FieldTy Try.prog 168 0 0 12 0 := ⟨by kernel_rfl, by kernel_rfl⟩
instance : FieldTy Try.prog 168 1 1 12 0 := ⟨by kernel_rfl, by kernel_rfl⟩
instance : FieldTy Try.prog 168 2 2 144 0 := ⟨by kernel_rfl, by kernel_rfl⟩
instance : FieldTy Try.prog 168 3 3 162 0 := ⟨by kernel_rfl, by kernel_rfl⟩
instance : FieldTy Try.prog 168 4 4 5 0 := ⟨by kernel_rfl, by kernel_rfl⟩
instance : FieldTy Try.prog 168 5 5 5 0 := ⟨by kernel_rfl, by kernel_rfl⟩
instance : FieldTy Try.prog 168 6 6 163 0 := ⟨by kernel_rfl, by kernel_rfl⟩
instance : FieldTy Try.prog 168 7 7 164 0 := ⟨by kernel_rfl, by kernel_rfl⟩
instance : FieldTy Try.prog 168 8 8 165 0 := ⟨by kernel_rfl, by kernel_rfl⟩
instance : FieldTy Try.prog 168 9 9 166 0 := ⟨by kernel_rfl, by kernel_rfl⟩
instance : FieldTy Try.prog 168 10 10 167 0 := ⟨by kernel_rfl, by kernel_rfl⟩
instance : BuildTy Try.prog 168 [(0, 1), (1, 1), (2, 1), (3, 1), (4, 1), (5, 1), (6, 1), (7, 1), (8, 1), (9, 1), (10, 1)] [.int .u64 0, .int .u64 0, .int .u32 0, .int .u8 0, .int .u8 0, .int .u8 0, .int .u8 0, .nilFunc, .pointer none, .int .i32 0, .int .i32 0] := ⟨fun parts => by kernel_rfl⟩
-- 170 unsafe.Pointer
instance : Ty Try.prog 170 false 1 8 (.pointer none) [.pointer none] := ⟨by kernel_rfl, by kernel_rfl, rfl, rfl⟩
-- deuce/deucetop.TopRefunded
instance : FnOk Try.prog 3 := ⟨by kernel_rfl⟩
-- deuce/deucetop.TopFreed
instance : FnOk Try.prog 4 := ⟨by kernel_rfl⟩
-- deuce/deuceref08.Check
instance : FnOk Try.prog 5 := ⟨by kernel_rfl⟩
-- deuce/deuceref08.IsOrder
instance : FnOk Try.prog 6 := ⟨by kernel_rfl⟩
-- deuce/deucetop.admitted
instance : FnOk Try.prog 7 := ⟨by kernel_rfl⟩
-- deuce/play.Times
instance : FnOk Try.prog 8 := ⟨by kernel_rfl⟩
-- deuce/deuceref11.CheckTickets
instance : FnOk Try.prog 9 := ⟨by kernel_rfl⟩
-- deuce/gate.Refund
instance : FnOk Try.prog 10 := ⟨by kernel_rfl⟩
-- deuce/deucelaw11.Far
instance : FnOk Try.prog 11 := ⟨by kernel_rfl⟩
-- deuce/deuceref11.Check
instance : FnOk Try.prog 12 := ⟨by kernel_rfl⟩
-- deuce/deuceref08.Run
instance : FnOk Try.prog 13 := ⟨by kernel_rfl⟩
-- deuce/deuceref11.Copy
instance : FnOk Try.prog 14 := ⟨by kernel_rfl⟩
-- deuce/gate.Enter
instance : FnOk Try.prog 15 := ⟨by kernel_rfl⟩
-- deuce/deucetop.later
instance : FnOk Try.prog 16 := ⟨by kernel_rfl⟩
-- deuce/deuceref08.within
instance : FnOk Try.prog 17 := ⟨by kernel_rfl⟩
-- deuce/deuceref08.isJob
instance : FnOk Try.prog 18 := ⟨by kernel_rfl⟩
-- deuce/deuceref08.MayCome
instance : FnOk Try.prog 19 := ⟨by kernel_rfl⟩
-- deuce/deucelaw08.Example
instance : FnOk Try.prog 20 := ⟨by kernel_rfl⟩
-- deuce/play.Fits
instance : FnOk Try.prog 21 := ⟨by kernel_rfl⟩
-- deuce/deucelaw11.Example
instance : FnOk Try.prog 22 := ⟨by kernel_rfl⟩
-- deuce/gate.Total
instance : FnOk Try.prog 23 := ⟨by kernel_rfl⟩
-- deuce/gate.Sure
instance : FnOk Try.prog 24 := ⟨by kernel_rfl⟩
-- deuce/play.Check
instance : FnOk Try.prog 25 := ⟨by kernel_rfl⟩
-- deuce/play.isOrder
instance : FnOk Try.prog 26 := ⟨by kernel_rfl⟩
-- deuce/play.times
instance : FnOk Try.prog 27 := ⟨by kernel_rfl⟩
-- deuce/play.shortest
instance : FnOk Try.prog 28 := ⟨by kernel_rfl⟩
-- deuce/play.longest
instance : FnOk Try.prog 29 := ⟨by kernel_rfl⟩
-- deuce/deuceref11.within
instance : FnOk Try.prog 30 := ⟨by kernel_rfl⟩
-- deuce/gate.areTickets
instance : FnOk Try.prog 31 := ⟨by kernel_rfl⟩
-- deuce/gate.refund
instance : FnOk Try.prog 32 := ⟨by kernel_rfl⟩
-- deuce/deuceref11.People
instance : FnOk Try.prog 33 := ⟨by kernel_rfl⟩
-- deuce/deuceref08.Begin
instance : FnOk Try.prog 34 := ⟨by kernel_rfl⟩
-- deuce/gate.Check
instance : FnOk Try.prog 35 := ⟨by kernel_rfl⟩
-- deuce/gate.within
instance : FnOk Try.prog 36 := ⟨by kernel_rfl⟩
-- deuce/gate.run
instance : FnOk Try.prog 37 := ⟨by kernel_rfl⟩
-- deuce/deuceref08.isLength
instance : FnOk Try.prog 38 := ⟨by kernel_rfl⟩
-- deuce/deuceref08.has
instance : FnOk Try.prog 39 := ⟨by kernel_rfl⟩
-- deuce/gate.group
instance : FnOk Try.prog 40 := ⟨by kernel_rfl⟩
-- deuce/gate.sure
instance : FnOk Try.prog 41 := ⟨by kernel_rfl⟩
-- deuce/play.within
instance : FnOk Try.prog 42 := ⟨by kernel_rfl⟩
-- slices.ContainsFunc[[]deuce/api.Span,deuce/api.Span]
instance : FnOk Try.prog 43 := ⟨by kernel_rfl⟩
-- deuce/play.Check$1
instance : FnOk Try.prog 44 := ⟨by kernel_rfl⟩
-- deuce/play.isSpan
instance : FnOk Try.prog 45 := ⟨by kernel_rfl⟩
-- deuce/play.isStage
instance : FnOk Try.prog 46 := ⟨by kernel_rfl⟩
-- deuce/play.areJobs
instance : FnOk Try.prog 47 := ⟨by kernel_rfl⟩
-- slices.Contains[[]int,int]
instance : FnOk Try.prog 48 := ⟨by kernel_rfl⟩
-- slices.ContainsFunc[[]int,int]
instance : FnOk Try.prog 49 := ⟨by kernel_rfl⟩
-- deuce/play.isOrder$1
instance : FnOk Try.prog 50 := ⟨by kernel_rfl⟩
-- deuce/play.open
instance : FnOk Try.prog 51 := ⟨by kernel_rfl⟩
-- (*deuce/play.day).play
instance : FnOk Try.prog 52 := ⟨by kernel_rfl⟩
-- deuce/gate.isTime
instance : FnOk Try.prog 53 := ⟨by kernel_rfl⟩
-- deuce/gate.areTickets$1
instance : FnOk Try.prog 54 := ⟨by kernel_rfl⟩
-- deuce/deuceref08.Share
instance : FnOk Try.prog 55 := ⟨by kernel_rfl⟩
-- deuce/gate.isParty
instance : FnOk Try.prog 56 := ⟨by kernel_rfl⟩
-- slices.ContainsFunc[[]deuce/api.Free,deuce/api.Free]
instance : FnOk Try.prog 57 := ⟨by kernel_rfl⟩
-- deuce/gate.Check$1
instance : FnOk Try.prog 58 := ⟨by kernel_rfl⟩
-- deuce/gate.open
instance : FnOk Try.prog 59 := ⟨by kernel_rfl⟩
-- (*deuce/gate.crowd).join
instance : FnOk Try.prog 60 := ⟨by kernel_rfl⟩
-- (*deuce/gate.crowd).pass
instance : FnOk Try.prog 61 := ⟨by kernel_rfl⟩
-- slices.IndexFunc[[]deuce/api.Party,deuce/api.Party]
instance : FnOk Try.prog 62 := ⟨by kernel_rfl⟩
-- deuce/gate.group$1
instance : FnOk Try.prog 63 := ⟨by kernel_rfl⟩
-- deuce/gate.rates
instance : FnOk Try.prog 64 := ⟨by kernel_rfl⟩
-- slices.IndexFunc[[]deuce/api.Span,deuce/api.Span]
instance : FnOk Try.prog 65 := ⟨by kernel_rfl⟩
-- slices.Index[[]int,int]
instance : FnOk Try.prog 66 := ⟨by kernel_rfl⟩
-- slices.IndexFunc[[]int,int]
instance : FnOk Try.prog 67 := ⟨by kernel_rfl⟩
-- deuce/play.share
instance : FnOk Try.prog 68 := ⟨by kernel_rfl⟩
-- deuce/deuceref08.In
instance : FnOk Try.prog 69 := ⟨by kernel_rfl⟩
-- slices.IndexFunc[[]deuce/api.Free,deuce/api.Free]
instance : FnOk Try.prog 70 := ⟨by kernel_rfl⟩
-- slices.SortFunc[[]int,int]
instance : FnOk Try.prog 71 := ⟨by kernel_rfl⟩
-- deuce/gate.open$1
instance : FnOk Try.prog 72 := ⟨by kernel_rfl⟩
-- cmp.Or[int]
instance : FnOk Try.prog 73 := ⟨by kernel_rfl⟩
-- (*deuce/gate.crowd).join$1
instance : FnOk Try.prog 74 := ⟨by kernel_rfl⟩
-- slices.DeleteFunc[[]int,int]
instance : FnOk Try.prog 75 := ⟨by kernel_rfl⟩
-- deuce/gate.rates$1
instance : FnOk Try.prog 76 := ⟨by kernel_rfl⟩
-- deuce/play.share$1
instance : FnOk Try.prog 77 := ⟨by kernel_rfl⟩
-- slices.pdqsortCmpFunc[int]
instance : FnOk Try.prog 78 := ⟨by kernel_rfl⟩
-- math/bits.Len
instance : FnOk Try.prog 79 := ⟨by kernel_rfl⟩
-- slices.insertionSortCmpFunc[int]
instance : FnOk Try.prog 80 := ⟨by kernel_rfl⟩
-- slices.heapSortCmpFunc[int]
instance : FnOk Try.prog 81 := ⟨by kernel_rfl⟩
-- slices.breakPatternsCmpFunc[int]
instance : FnOk Try.prog 82 := ⟨by kernel_rfl⟩
-- slices.choosePivotCmpFunc[int]
instance : FnOk Try.prog 83 := ⟨by kernel_rfl⟩
-- slices.reverseRangeCmpFunc[int]
instance : FnOk Try.prog 84 := ⟨by kernel_rfl⟩
-- slices.partialInsertionSortCmpFunc[int]
instance : FnOk Try.prog 85 := ⟨by kernel_rfl⟩
-- slices.partitionEqualCmpFunc[int]
instance : FnOk Try.prog 86 := ⟨by kernel_rfl⟩
-- slices.partitionCmpFunc[int]
instance : FnOk Try.prog 87 := ⟨by kernel_rfl⟩
-- math/bits.Len32
instance : FnOk Try.prog 88 := ⟨by kernel_rfl⟩
-- math/bits.Len64
instance : FnOk Try.prog 89 := ⟨by kernel_rfl⟩
-- slices.siftDownCmpFunc[int]
instance : FnOk Try.prog 90 := ⟨by kernel_rfl⟩
-- slices.nextPowerOfTwo
instance : FnOk Try.prog 91 := ⟨by kernel_rfl⟩
-- (*slices.xorshift).Next
instance : FnOk Try.prog 92 := ⟨by kernel_rfl⟩
-- slices.medianAdjacentCmpFunc[int]
instance : FnOk Try.prog 93 := ⟨by kernel_rfl⟩
-- slices.medianCmpFunc[int]
instance : FnOk Try.prog 94 := ⟨by kernel_rfl⟩
-- slices.order2CmpFunc[int]
instance : FnOk Try.prog 95 := ⟨by kernel_rfl⟩
end Go.Proofs.Ytngelilffleimaa

namespace Go.Proofs.Ytngelilffleimaa
open Go
instance : BuildArr Try.prog 101 1 [.int .i64 0, .int .i64 0, .int .i64 0] := ⟨fun parts => by kernel_rfl⟩
instance : BuildArr Try.prog 102 1 [.int .i64 0, .int .i64 0, .int .i64 0, .int .i64 0, .int .i64 0, .int .i64 0] := ⟨fun parts => by kernel_rfl⟩
instance : BuildArr Try.prog 158 1 [] := ⟨fun parts => by kernel_rfl⟩
instance : FlatTy Try.prog 40 [false, false, false] := ⟨by kernel_rfl, by kernel_rfl, by kernel_rfl⟩
instance : FlatTy Try.prog 41 [false, false, false] := ⟨by kernel_rfl, by kernel_rfl, by kernel_rfl⟩
instance : FlatTy Try.prog 42 [false, false] := ⟨by kernel_rfl, by kernel_rfl, by kernel_rfl⟩
instance : FlatTy Try.prog 43 [false, false] := ⟨by kernel_rfl, by kernel_rfl, by kernel_rfl⟩
instance : FlatTy Try.prog 58 [false, false, false, false] := ⟨by kernel_rfl, by kernel_rfl, by kernel_rfl⟩
instance : FlatTy Try.prog 59 [false, false, false, false] := ⟨by kernel_rfl, by kernel_rfl, by kernel_rfl⟩
instance : FlatTy Try.prog 63 [false, false] := ⟨by kernel_rfl, by kernel_rfl, by kernel_rfl⟩
instance : FlatTy Try.prog 64 [false, false] := ⟨by kernel_rfl, by kernel_rfl, by kernel_rfl⟩
instance : FlatTy Try.prog 83 [false, false, false, false] := ⟨by kernel_rfl, by kernel_rfl, by kernel_rfl⟩
instance : FlatTy Try.prog 84 [false, false, false, false] := ⟨by kernel_rfl, by kernel_rfl, by kernel_rfl⟩
instance : FlatTy Try.prog 103 [false, false, false, false, false, false, false, false, false, false] := ⟨by kernel_rfl, by kernel_rfl, by kernel_rfl⟩
instance : FlatTy Try.prog 104 [false, false, false, false, false, false, false, false, false, false] := ⟨by kernel_rfl, by kernel_rfl, by kernel_rfl⟩
instance : MapTy Try.prog 108 3 3 := ⟨by kernel_rfl⟩
end Go.Proofs.Ytngelilffleimaa

namespace Go.Proofs.Ytngelilffleimaa
open Go Go.RowKit

def win (n lo hi : Int) : Bool := decide (lo ≤ n) && decide (n ≤ hi)
theorem win_iff {n lo hi : Int} : win n lo hi = true ↔ lo ≤ n ∧ n ≤ hi := by simp [win]
structure Pt where
  (id at_ size quits : Int)
abbrev Pt.enc (g : Pt) : List Value := [.int .i64 g.id, .int .i64 g.at_, .int .i64 g.size, .int .i64 g.quits]
abbrev Pt.val (g : Pt) : Value := .agg #[.int .i64 g.id, .int .i64 g.at_, .int .i64 g.size, .int .i64 g.quits]
def encPt (gs : List Pt) : List (List Value) := gs.map Pt.enc
abbrev Fe := Int × Int
def encF (fs : List Fe) : List (List Value) := fs.map fun f => [.int .i64 f.1, .int .i64 f.2]
theorem encPt_at {gs : List Pt} {k : Nat} {g : Pt} (h : gs[k]? = some g) : (encPt gs)[k]? = some g.enc := by simp [encPt, h]
theorem encF_at {fs : List Fe} {k : Nat} {f : Fe} (h : fs[k]? = some f) : (encF fs)[k]? = some [.int .i64 f.1, .int .i64 f.2] := by simp [encF, h]
structure Qu where
  (opn lo hi seats : Int) (gs : List Pt) (fs : List Fe)
structure QA where
  (gA fA : Option Addr) (gc fc : Nat)
abbrev Qu.cells (q : Qu) (a : QA) : List Value := [.int .i64 q.opn, .int .i64 q.lo, .int .i64 q.hi, .int .i64 q.seats, .slice a.gA q.gs.length a.gc, .slice a.fA q.fs.length a.fc]
abbrev Qu.val (q : Qu) (a : QA) : Value := .agg #[.int .i64 q.opn, .int .i64 q.lo, .int .i64 q.hi, .int .i64 q.seats, .slice a.gA q.gs.length a.gc, .slice a.fA q.fs.length a.fc]
structure QRd (w : World) (q : Qu) (a : QA) : Prop where
  g : Rd w a.gA 4 q.gs.length (encPt q.gs)
  f : Rd w a.fA 2 q.fs.length (encF q.fs)
  gn : q.gs.length ≤ 9223372036854775807
  fn : q.fs.length ≤ 9223372036854775807
def isT (n : Int) : Bool := win n 0 1440
def ptOk (g : Pt) : Bool := win g.id 0 999 && isT g.at_ && win g.size 1 20 && (decide (g.quits = -1) || win g.quits g.at_ 1440)
def feOk (f : Fe) : Bool := isT f.1 && win f.2 0 9999
def headOk (q : Qu) : Bool := isT q.opn && decide (1 ≤ q.lo) && decide (q.hi ≤ 100) && decide (q.lo ≤ q.hi) && win q.seats 0 9999 && decide ((q.gs.length : Int) ≤ 40) && decide ((q.fs.length : Int) ≤ 40)
def dup (gs : List Pt) (k : Nat) (id : Int) : Bool := (gs.take k).any fun g => decide (g.id = id)
def gsOk (gs : List Pt) : Nat → Bool
  | 0 => true
  | k + 1 => gsOk gs k && (match gs[k]? with | some g => !dup gs k g.id && ptOk g | none => true)
def qOk (q : Qu) : Bool := headOk q && gsOk q.gs q.gs.length && q.fs.all feOk
def chkQ (q : Qu) : Int := bif qOk q then 0 else 110
theorem gsOk_succ {gs : List Pt} {k : Nat} {g : Pt} (h : gs[k]? = some g) : gsOk gs (k + 1) = (gsOk gs k && (!dup gs k g.id && ptOk g)) := by rw [gsOk, h]
theorem gsOk_le {gs : List Pt} {j : Nat} (h : gsOk gs j = false) : ∀ {k : Nat}, j ≤ k → gsOk gs k = false
  | 0, hk => by obtain rfl : j = 0 := by omega
                exact h
  | k + 1, hk => by
    by_cases e : j = k + 1
    · subst e; exact h
    · rw [gsOk, gsOk_le h (k := k) (by omega)]; rfl
theorem dup_succ {gs : List Pt} {k : Nat} {g : Pt} (h : gs[k]? = some g) (id : Int) : dup gs (k + 1) id = (dup gs k id || decide (g.id = id)) := by
  unfold dup
  rw [List.take_add_one, h]
  simp
structure Qu.Ok (q : Qu) : Prop where
  o : 0 ≤ q.opn ∧ q.opn ≤ 1440
  r : 1 ≤ q.lo ∧ q.lo ≤ q.hi ∧ q.hi ≤ 100
  s : 0 ≤ q.seats ∧ q.seats ≤ 9999
  g : q.gs.length ≤ 40
  f : q.fs.length ≤ 40
  pt : ∀ g ∈ q.gs, ptOk g = true
  fe : ∀ f ∈ q.fs, feOk f = true
  nd : ∀ (i j : Nat) (g h : Pt), i < j → q.gs[i]? = some g → q.gs[j]? = some h → g.id ≠ h.id
theorem gsOk_all {gs : List Pt} : ∀ {k : Nat}, gsOk gs k = true → (∀ (i : Nat) (g : Pt), i < k → gs[i]? = some g → ptOk g = true ∧ dup gs i g.id = false)
  | 0, _, i, _, hi, _ => by omega
  | k + 1, h, i, g, hi, hg => by
    rw [gsOk, Bool.and_eq_true] at h
    by_cases e : i = k
    · subst e
      have h2 := h.2
      rw [hg] at h2
      simp only [Bool.and_eq_true, Bool.not_eq_true'] at h2
      exact ⟨h2.2, h2.1⟩
    · exact gsOk_all h.1 i g (by omega) hg
theorem q_ok {q : Qu} (h : qOk q = true) : q.Ok := by
  simp only [qOk, headOk, isT, Bool.and_eq_true, decide_eq_true_eq, win_iff] at h
  obtain ⟨⟨⟨⟨⟨⟨⟨⟨h1, h2⟩, h3⟩, h4⟩, h5⟩, h6⟩, h7⟩, h8⟩, h9⟩ := h
  have hall := gsOk_all h8
  refine ⟨h1, ⟨h2, h4, h3⟩, h5, by omega, by omega, fun g hg => ?_, fun f hf => List.all_eq_true.1 h9 f hf, fun i j g h hij hg hh he => ?_⟩
  · obtain ⟨i, hi, rfl⟩ := List.getElem_of_mem hg
    exact (hall i _ hi (List.getElem?_eq_getElem hi)).1
  · have := (hall j h (List.getElem?_eq_some_iff.1 hh).1 hh).2
    unfold dup at this
    rw [List.any_eq_false] at this
    have hm : g ∈ q.gs.take j := by
      have : (q.gs.take j)[i]? = some g := by rw [List.getElem?_take]; simp [hij, hg]
      exact List.mem_of_getElem? this
    exact this g hm (by simp [he])
theorem chkQ_ok {q : Qu} (h : (!decide (chkQ q = 0)) = false) : q.Ok ∧ qOk q = true := by
  cases hb : qOk q
  · simp [chkQ, hb] at h
  · exact ⟨q_ok hb, rfl⟩
end Go.Proofs.Ytngelilffleimaa

namespace Go.Proofs.Ytngelilffleimaa
open Go Go.RowKit

def pAt {α : Type} (ss : List α) (q : α → Bool) (k : Nat) : Bool := match ss[k]? with
  | some s => q s
  | none => false
theorem pAt_eq {α : Type} {ss : List α} {q : α → Bool} {k : Nat} {s : α} (h : ss[k]? = some s) : pAt ss q k = q s := by simp only [pAt, h]
theorem pAt_any {α : Type} (ss : List α) (q : α → Bool) : (List.range ss.length).any (pAt ss q) = ss.any q := by
  rw [Bool.eq_iff_iff]
  simp only [List.any_eq_true, List.mem_range]
  constructor
  · rintro ⟨k, hk, h⟩
    simp only [pAt, List.getElem?_eq_getElem hk] at h
    exact ⟨ss[k], List.getElem_mem hk, h⟩
  · rintro ⟨s, hs, h⟩
    obtain ⟨k, hk, rfl⟩ := List.getElem_of_mem hs
    exact ⟨k, hk, by simp only [pAt, List.getElem?_eq_getElem hk]; exact h⟩
def Fst (p : Nat → Bool) (n : Nat) (j : Int) : Prop := (∃ k : Nat, k < n ∧ j = k ∧ p k = true ∧ ∀ i, i < k → p i = false) ∨ (j = -1 ∧ ∀ i, i < n → p i = false)
theorem Fst.any {p : Nat → Bool} {n : Nat} {j : Int} (h : Fst p n j) : decide (0 ≤ j) = (List.range n).any p := by
  rcases h with ⟨k, hk, rfl, hp, _⟩ | ⟨rfl, hp⟩
  · rw [decide_eq_true (by omega)]
    exact (List.any_eq_true.2 ⟨k, by simpa using hk, hp⟩).symm
  · rw [decide_eq_false (by omega)]
    exact (List.any_eq_false.2 fun k hk => by simp [hp k (by simpa using hk)]).symm

theorem enc_at {α : Type} {f : α → List Value} {ss : List α} {k : Nat} {cs : List Value} (h : (ss.map f)[k]? = some cs) : ∃ s, ss[k]? = some s ∧ cs = f s := by
  rw [List.getElem?_map] at h
  cases hs : ss[k]? with
  | none => simp [hs] at h
  | some s => exact ⟨s, rfl, by simpa [hs] using h.symm⟩
theorem C0.tr {P : Program} {f : FuncId} {vs : List Value} {v : Value} (Lp : List Ent) (h : ∀ w, C0 P f vs w v) : Tr P f vs Lp (fun _ : Unit => True) (fun _ => v) (fun _ => Lp) :=
  ⟨fun w0 w R hst => Calls.mono (h w).out fun e w' ⟨he, hs⟩ => ⟨(), trivial, he, by simpa using hst.join hs rfl⟩⟩

end Go.Proofs.Ytngelilffleimaa

namespace Go.Proofs.Ytngelilffleimaa
open Go Go.RowKit

theorem C_gate_within (n lo hi : Int) (w : World) : C0 Try.prog 36 [.int .i64 n, .int .i64 lo, .int .i64 hi] w (.bool (win n lo hi)) := by
  refine ⟨en Try.func36 Try.ntmps36 (St.init w) (h := fun F => ?_)⟩
  refine sq (h := ?_)
  refine rg (h := ?_)
  refine WL.y (hy := asg) (h := ?_)
  refine nl (h := ?_)
  refine q_seq (h := ?_)
  refine sq (h := ?_)
  refine rg (h := ?_)
  refine WL.y (hy := mv) (h := ?_)
  refine WL.y (hy := mv) (h := ?_)
  refine WL.y (hy := leq) (h := ?_)
  refine WL.y (hy := mv) (h := ?_)
  apply brAnd 4 10 14 (by exact rfl)
  · intro hb0
    refine un (h := ?_)
    refine WL.y (hy := mv) (h := ?_)
    refine un (h := ?_)
    refine WL.y (hy := mv) (h := ?_)
    refine un (h := ?_)
    refine WL.y (hy := leq) (h := ?_)
    refine WL.y (hy := (by first | exact pkT | exact pkF)) (h := ?_)
    exact mg (by repeat (first | exact trivial | refine ⟨rfl, ?_⟩ | refine ⟨by rw [hb0]; rfl, ?_⟩)) (by repeat (first | exact SubL.nil | (apply SubL.cons; (repeat (first | exact At.here | apply At.there))) | exact SubL.refl _ | apply SubL.skip))
  · intro hb0
    repeat (first | refine un (h := ?_) | refine sk (h := ?_) | refine WL.y (hy := pkF) (h := ?_) | refine WL.y (hy := pkT) (h := ?_))
    exact mg (by repeat (first | exact trivial | refine ⟨rfl, ?_⟩ | refine ⟨by rw [hb0]; rfl, ?_⟩)) (by repeat (first | exact SubL.nil | (apply SubL.cons; (repeat (first | exact At.here | apply At.there))) | exact SubL.refl _ | apply SubL.skip))
  refine WL.y (hy := asg) (h := ?_)
  refine nl (h := ?_)
  refine q_seq (h := ?_)
  refine rtn (h := ?_)
  refine q_ret (hR := ?_)
  exact fun w hS => ⟨rfl, hS.sub (by repeat (first | exact SubL.nil | (apply SubL.cons; (repeat (first | exact At.here | apply At.there))) | exact SubL.refl _ | apply SubL.skip))⟩
theorem C_gate_isTime (n : Int) (w : World) : C0 Try.prog 53 [.int .i64 n] w (.bool (isT n)) := by
  refine ⟨en Try.func53 Try.ntmps53 (St.init w) (h := fun F => ?_)⟩
  refine sq (h := ?_)
  refine rg (h := ?_)
  refine WL.y (hy := asg) (h := ?_)
  refine nl (h := ?_)
  refine q_seq (h := ?_)
  refine sq (h := ?_)
  refine rg (h := ?_)
  refine WL.y (hy := mv) (h := ?_)
  refine cl0 (hc := fun w hS => C_gate_within ..) (h := ?_)
  refine WL.y (hy := asg) (h := ?_)
  refine nl (h := ?_)
  refine q_seq (h := ?_)
  refine rtn (h := ?_)
  refine q_ret (hR := ?_)
  exact fun w hS => ⟨rfl, hS.sub (by repeat (first | exact SubL.nil | (apply SubL.cons; (repeat (first | exact At.here | apply At.there))) | exact SubL.refl _ | apply SubL.skip))⟩
theorem C_gate_isParty (g : Pt) (w : World) : C0 Try.prog 56 [g.val] w (.bool (ptOk g)) := by
  refine ⟨en Try.func56 Try.ntmps56 (St.init w) (h := fun F => ?_)⟩
  refine sq (h := ?_)
  refine rg (h := ?_)
  refine bxA (h := fun b0 => ?_)
  refine WL.y (hy := asg) (h := ?_)
  refine nl (h := ?_)
  refine q_seq (h := ?_)
  refine sq (h := ?_)
  refine rg (h := ?_)
  refine WL.y (hy := (by first | exact fa | exact faE)) (h := ?_)
  refine WL.y (hy := (by first | exact ld | exact ldE)) (h := ?_)
  refine cl0 (hc := fun w hS => C_gate_within ..) (h := ?_)
  refine WL.y (hy := mv) (h := ?_)
  apply brAnd 4 6 10 (by exact rfl)
  · intro hb0
    refine un (h := ?_)
    refine WL.y (hy := (by first | exact fa | exact faE)) (h := ?_)
    refine un (h := ?_)
    refine WL.y (hy := (by first | exact ld | exact ldE)) (h := ?_)
    refine un (h := ?_)
    refine cl0 (hc := fun w hS => C_gate_isTime ..) (h := ?_)
    refine WL.y (hy := (by first | exact pkT | exact pkF)) (h := ?_)
    exact mg (by repeat (first | exact trivial | refine ⟨rfl, ?_⟩ | refine ⟨by rw [hb0]; rfl, ?_⟩)) (by repeat (first | exact SubL.nil | (apply SubL.cons; (repeat (first | exact At.here | apply At.there))) | exact SubL.refl _ | apply SubL.skip))
  · intro hb0
    repeat (first | refine un (h := ?_) | refine sk (h := ?_) | refine WL.y (hy := pkF) (h := ?_) | refine WL.y (hy := pkT) (h := ?_))
    exact mg (by repeat (first | exact trivial | refine ⟨rfl, ?_⟩ | refine ⟨by rw [hb0]; rfl, ?_⟩)) (by repeat (first | exact SubL.nil | (apply SubL.cons; (repeat (first | exact At.here | apply At.there))) | exact SubL.refl _ | apply SubL.skip))
  refine WL.y (hy := mv) (h := ?_)
  apply brAnd 4 11 15 (by exact rfl)
  · intro hb1
    refine un (h := ?_)
    refine WL.y (hy := (by first | exact fa | exact faE)) (h := ?_)
    refine un (h := ?_)
    refine WL.y (hy := (by first | exact ld | exact ldE)) (h := ?_)
    refine un (h := ?_)
    refine cl0 (hc := fun w hS => C_gate_within ..) (h := ?_)
    refine WL.y (hy := (by first | exact pkT | exact pkF)) (h := ?_)
    exact mg (by repeat (first | exact trivial | refine ⟨rfl, ?_⟩ | refine ⟨by rw [hb1]; rfl, ?_⟩)) (by repeat (first | exact SubL.nil | (apply SubL.cons; (repeat (first | exact At.here | apply At.there))) | exact SubL.refl _ | apply SubL.skip))
  · intro hb1
    repeat (first | refine un (h := ?_) | refine sk (h := ?_) | refine WL.y (hy := pkF) (h := ?_) | refine WL.y (hy := pkT) (h := ?_))
    exact mg (by repeat (first | exact trivial | refine ⟨rfl, ?_⟩ | refine ⟨by rw [hb1]; rfl, ?_⟩)) (by repeat (first | exact SubL.nil | (apply SubL.cons; (repeat (first | exact At.here | apply At.there))) | exact SubL.refl _ | apply SubL.skip))
  refine WL.y (hy := mv) (h := ?_)
  apply brAnd 11 16 27 (by exact rfl)
  · intro hb2
    refine un (h := ?_)
    refine WL.y (hy := (by first | exact fa | exact faE)) (h := ?_)
    refine un (h := ?_)
    refine WL.y (hy := (by first | exact ld | exact ldE)) (h := ?_)
    refine un (h := ?_)
    refine WL.y (hy := eql) (h := ?_)
    refine un (h := ?_)
    refine WL.y (hy := mv) (h := ?_)
    apply brOr 6 20 26 (by exact rfl)
    · intro hb3
      refine un (h := ?_)
      refine WL.y (hy := (by first | exact fa | exact faE)) (h := ?_)
      refine un (h := ?_)
      refine WL.y (hy := (by first | exact ld | exact ldE)) (h := ?_)
      refine un (h := ?_)
      refine WL.y (hy := (by first | exact fa | exact faE)) (h := ?_)
      refine un (h := ?_)
      refine WL.y (hy := (by first | exact ld | exact ldE)) (h := ?_)
      refine un (h := ?_)
      refine cl0 (hc := fun w hS => C_gate_within ..) (h := ?_)
      refine un (h := ?_)
      refine WL.y (hy := (by first | exact pkT | exact pkF)) (h := ?_)
      exact mg (by repeat (first | exact trivial | refine ⟨rfl, ?_⟩ | refine ⟨by rw [hb3]; rfl, ?_⟩ | refine ⟨by rw [hb2]; rfl, ?_⟩)) (by repeat (first | exact SubL.nil | (apply SubL.cons; (repeat (first | exact At.here | apply At.there))) | exact SubL.refl _ | apply SubL.skip))
    · intro hb3
      repeat (first | refine un (h := ?_) | refine sk (h := ?_) | refine WL.y (hy := pkF) (h := ?_) | refine WL.y (hy := pkT) (h := ?_))
      exact mg (by repeat (first | exact trivial | refine ⟨rfl, ?_⟩ | refine ⟨by rw [hb3]; rfl, ?_⟩ | refine ⟨by rw [hb2]; rfl, ?_⟩)) (by repeat (first | exact SubL.nil | (apply SubL.cons; (repeat (first | exact At.here | apply At.there))) | exact SubL.refl _ | apply SubL.skip))
    refine WL.y (hy := (by first | exact pkT | exact pkF)) (h := ?_)
    exact mg (by repeat (first | exact trivial | refine ⟨rfl, ?_⟩ | refine ⟨by rw [hb2]; rfl, ?_⟩)) (by repeat (first | exact SubL.nil | (apply SubL.cons; (repeat (first | exact At.here | apply At.there))) | exact SubL.refl _ | apply SubL.skip))
  · intro hb2
    repeat (first | refine un (h := ?_) | refine sk (h := ?_) | refine WL.y (hy := pkF) (h := ?_) | refine WL.y (hy := pkT) (h := ?_))
    exact mg (by repeat (first | exact trivial | refine ⟨rfl, ?_⟩ | refine ⟨by rw [hb2]; rfl, ?_⟩)) (by repeat (first | exact SubL.nil | (apply SubL.cons; (repeat (first | exact At.here | apply At.there))) | exact SubL.refl _ | apply SubL.skip))
  refine WL.y (hy := asg) (h := ?_)
  refine nl (h := ?_)
  refine q_seq (h := ?_)
  refine rtn (h := ?_)
  refine q_ret (hR := ?_)
  exact fun w hS => ⟨rfl, hS.sub (by repeat (first | exact SubL.nil | (apply SubL.cons; (repeat (first | exact At.here | apply At.there))) | exact SubL.refl _ | apply SubL.skip))⟩
theorem C_gate_Check1 (f : Fe) (w : World) : C0 Try.prog 58 [.agg #[.int .i64 f.1, .int .i64 f.2]] w (.bool (!isT f.1 || !win f.2 0 9999)) := by
  refine ⟨en Try.func58 Try.ntmps58 (St.init w) (h := fun F => ?_)⟩
  refine sq (h := ?_)
  refine rg (h := ?_)
  refine bxA (h := fun b0 => ?_)
  refine WL.y (hy := asg) (h := ?_)
  refine nl (h := ?_)
  refine q_seq (h := ?_)
  refine sq (h := ?_)
  refine rg (h := ?_)
  refine WL.y (hy := (by first | exact fa | exact faE)) (h := ?_)
  refine WL.y (hy := (by first | exact ld | exact ldE)) (h := ?_)
  refine cl0 (hc := fun w hS => C_gate_isTime ..) (h := ?_)
  refine WL.y (hy := notB) (h := ?_)
  refine WL.y (hy := mv) (h := ?_)
  apply brOr 5 7 12 (by exact rfl)
  · intro hb0
    refine un (h := ?_)
    refine WL.y (hy := (by first | exact fa | exact faE)) (h := ?_)
    refine un (h := ?_)
    refine WL.y (hy := (by first | exact ld | exact ldE)) (h := ?_)
    refine un (h := ?_)
    refine cl0 (hc := fun w hS => C_gate_within ..) (h := ?_)
    refine un (h := ?_)
    refine WL.y (hy := notB) (h := ?_)
    refine WL.y (hy := (by first | exact pkT | exact pkF)) (h := ?_)
    exact mg (by repeat (first | exact trivial | refine ⟨rfl, ?_⟩ | refine ⟨by rw [hb0]; rfl, ?_⟩)) (by repeat (first | exact SubL.nil | (apply SubL.cons; (repeat (first | exact At.here | apply At.there))) | exact SubL.refl _ | apply SubL.skip))
  · intro hb0
    repeat (first | refine un (h := ?_) | refine sk (h := ?_) | refine WL.y (hy := pkF) (h := ?_) | refine WL.y (hy := pkT) (h := ?_))
    exact mg (by repeat (first | exact trivial | refine ⟨rfl, ?_⟩ | refine ⟨by rw [hb0]; rfl, ?_⟩)) (by repeat (first | exact SubL.nil | (apply SubL.cons; (repeat (first | exact At.here | apply At.there))) | exact SubL.refl _ | apply SubL.skip))
  refine WL.y (hy := asg) (h := ?_)
  refine nl (h := ?_)
  refine q_seq (h := ?_)
  refine rtn (h := ?_)
  refine q_ret (hR := ?_)
  exact fun w hS => ⟨rfl, hS.sub (by repeat (first | exact SubL.nil | (apply SubL.cons; (repeat (first | exact At.here | apply At.there))) | exact SubL.refl _ | apply SubL.skip))⟩
theorem C_IndexFreeF {A : Option Addr} {n c : Nat} {es : List (List Value)} {g : FuncId} (hg : FnOk Try.prog g) (fi cap : List Value) (Lp : List Ent) (p : Nat → Bool) (hn : n ≤ 9223372036854775807)
    (hp : ∀ k cs, es[k]? = some cs → Tr Try.prog g (fi ++ [.agg cs.toArray] ++ cap) (.ro A 2 n es :: Lp) (fun _ : Unit => True) (fun _ => .bool (p k)) (fun _ => .ro A 2 n es :: Lp)) :
    Tr Try.prog 70 [.slice A n c, .func (.func g) fi.toArray cap.toArray] (.ro A 2 n es :: Lp) (Fst p n) (fun j => .int .i64 j) (fun _ => .ro A 2 n es :: Lp) := by
  refine ⟨fun w0 w R hst => ?_⟩
  have hlen : es.length = n := (hst.ok (.ro A 2 n es) (by simp)).len
  refine en Try.func70 Try.ntmps70 hst (h := fun F => ?_)
  refine sq (h := ?_)
  refine rg (h := ?_)
  refine WL.y (hy := asg) (h := ?_)
  refine nl (h := ?_)
  refine q_seq (h := ?_)
  refine sq (h := ?_)
  refine sq (h := ?_)
  refine rg (h := ?_)
  refine WL.y (hy := mv) (h := ?_)
  refine WL.y (hy := lenS) (h := ?_)
  refine WL.y (hy := mv) (h := ?_)
  refine nl (h := ?_)
  refine q_seq (h := ?_)
  refine bk (h := ?_)
  refine lp (X := Nat) (I := fun k => k ≤ n ∧ ∀ i, i < k → p i = false) (le := fun k => [(0, .slice A n c), (1, .func (.func g) fi.toArray cap.toArray), (7, .int .i64 n), (8, .int .i64 k)]) (Le := fun _ => .ro A 2 n es :: (Lp ++ R)) (μ := fun k => n - k) 0 ⟨by omega, fun i hi => by omega⟩ (by repeat (first | exact trivial | refine ⟨rfl, ?_⟩)) (SubL.refl _) (fun k hk => ?_)
  obtain ⟨hk, hall⟩ := hk
  refine sq (h := ?_)
  refine rg (h := ?_)
  refine WL.y (hy := lss) (h := ?_)
  refine nl (h := ?_)
  refine q_seq (h := ?_)
  refine sq (h := ?_)
  refine cd (by exact rfl) (fun h0 => ?_) (fun h0 => ?_)
  · skip
    have hkn : k < n := by simp only [decide_eq_true_eq] at h0; omega
    have hes : es[k]? = some es[k] := List.getElem?_eq_getElem (by omega)
    refine skp (h := ?_)
    refine q_seq (h := ?_)
    refine sq (h := ?_)
    refine bk (h := ?_)
    refine sq (h := ?_)
    refine rg (h := ?_)
    refine WL.y (hy := mv) (h := ?_)
    refine WL.y (hy := asg) (h := ?_)
    refine nl (h := ?_)
    refine q_seq (h := ?_)
    refine sq (h := ?_)
    refine rg (h := ?_)
    refine WL.y (hy := mv) (h := ?_)
    refine WL.y (hy := mv) (h := ?_)
    refine WL.y (hy := mv) (h := ?_)
    refine WL.y (hy := ix) (h := ?_)
    refine WL.y (hy := ldEW (k := k) (cs := es[k]) (hk := hes)) (h := ?_)
    refine clfT hg (fi := fi) (cap := cap) (by exact rfl) (by repeat (first | exact Evs.nil | (apply Evs.cons; exact rfl))) (hp k _ hes) rfl (Spl.cons .here (Spl.app _ _)) (h := fun _ _ => ?_)
    refine nl (h := ?_)
    refine q_seq (h := ?_)
    refine cd (by exact rfl) (fun h1 => ?_) (fun h1 => ?_)
    · skip
      refine sq (h := ?_)
      refine rg (h := ?_)
      refine WL.y (hy := mv) (h := ?_)
      refine WL.y (hy := asg) (h := ?_)
      refine nl (h := ?_)
      refine q_seq (h := ?_)
      refine rtn (h := ?_)
      refine q_blk_ret (h := ?_)
      refine q_then_ret (h := ?_)
      refine q_then_ret (h := ?_)
      refine q_blk_ret (h := ?_)
      refine q_then_ret (h := ?_)
      refine q_ret (hR := ?_)
      exact fun w hS => ⟨_, .inl ⟨k, hkn, rfl, by assumption, hall⟩, rfl, hS⟩
    · skip
      refine skp (h := ?_)
      refine q_blk_norm (h := ?_)
      refine q_seq (h := ?_)
      refine rg (h := ?_)
      refine WL.y (hy := addI) (h := ?_)
      refine WL.y (hy := mv) (h := ?_)
      refine nl (h := ?_)
      refine rn (k + 1) ⟨by omega, fun i hi => ?_⟩ (by omega) (by repeat (first | exact trivial | refine ⟨rfl, ?_⟩)) (SubL.refl _)
      rcases Nat.lt_succ_iff_lt_or_eq.1 hi with h | rfl
      · exact hall i h
      · assumption
  · skip
    have hkn : k = n := by simp only [decide_eq_false_iff_not] at h0; omega
    refine et (h := ?_)
    refine q_then_exit (h := ?_)
    refine q_then_exit (h := ?_)
    refine q_blk_hit (h := ?_)
    refine q_seq (h := ?_)
    refine sq (h := ?_)
    refine rg (h := ?_)
    refine WL.y (hy := asg) (h := ?_)
    refine nl (h := ?_)
    refine q_seq (h := ?_)
    refine rtn (h := ?_)
    refine q_ret (hR := ?_)
    exact fun w hS => ⟨_, .inr ⟨rfl, by subst hkn; exact hall⟩, rfl, hS⟩
theorem C_ContainsFreeF {A : Option Addr} {n c : Nat} {es : List (List Value)} {g : FuncId} (hg : FnOk Try.prog g) (fi cap : List Value) (Lp : List Ent) (p : Nat → Bool) (hn : n ≤ 9223372036854775807)
    (hp : ∀ k cs, es[k]? = some cs → Tr Try.prog g (fi ++ [.agg cs.toArray] ++ cap) (.ro A 2 n es :: Lp) (fun _ : Unit => True) (fun _ => .bool (p k)) (fun _ => .ro A 2 n es :: Lp)) :
    Tr Try.prog 57 [.slice A n c, .func (.func g) fi.toArray cap.toArray] (.ro A 2 n es :: Lp) (fun _ : Unit => True) (fun _ => .bool ((List.range n).any p)) (fun _ => .ro A 2 n es :: Lp) := by
  refine ⟨fun w0 w R hst => ?_⟩
  refine en Try.func57 Try.ntmps57 hst (h := fun F => ?_)
  refine sq (h := ?_)
  refine rg (h := ?_)
  refine WL.y (hy := asg) (h := ?_)
  refine nl (h := ?_)
  refine q_seq (h := ?_)
  refine sq (h := ?_)
  refine rg (h := ?_)
  refine WL.y (hy := mv) (h := ?_)
  refine WL.y (hy := mv) (h := ?_)
  refine clT (hc := C_IndexFreeF hg fi cap Lp p hn hp) (hs := Spl.cons .here (Spl.app _ _)) (h := fun x0 hx0 => ?_)
  refine WL.y (hy := geq) (h := ?_)
  refine WL.y (hy := asg) (h := ?_)
  refine nl (h := ?_)
  refine q_seq (h := ?_)
  refine rtn (h := ?_)
  refine q_ret (hR := ?_)
  exact fun w hS => ⟨(), trivial, by simp only [resV, hx0.any], hS⟩
end Go.Proofs.Ytngelilffleimaa

namespace Go.Proofs.Ytngelilffleimaa
open Go Go.RowKit

theorem head_not (q : Qu) : (!isT q.opn || decide (q.lo < 1) || decide ((100 : Int) < q.hi) || decide (q.hi < q.lo) || !win q.seats 0 9999 || decide ((40 : Int) < q.gs.length) || decide ((40 : Int) < q.fs.length)) = !headOk q := by
  unfold headOk
  simp only [Bool.not_and]
  rw [← decide_not, ← decide_not, ← decide_not, ← decide_not, ← decide_not]
  congr 1
  · congr 1
    · congr 1
      · congr 1
        · congr 1
          · congr 1
            exact decide_eq_decide.2 (by omega)
          · exact decide_eq_decide.2 (by omega)
        · exact decide_eq_decide.2 (by omega)
    · exact decide_eq_decide.2 (by omega)
  · exact decide_eq_decide.2 (by omega)
theorem fe_any (fs : List Fe) : (List.range fs.length).any (pAt fs fun f => !isT f.1 || !win f.2 0 9999) = !fs.all feOk := by
  rw [pAt_any, List.not_all_eq_any_not]
  congr 1
  funext f
  simp [feOk, Bool.not_and]
theorem chk_bad {q : Qu} (h : qOk q = false) : chkQ q = 110 := by rw [chkQ, h]; rfl
structure KZ where
  (k : Nat) (es : Array MapEntry) (cl : Nat) (kv : List (Int × Value))
def cnt (gs : List Pt) (k : Nat) (id : Int) : Int := bif dup gs k id then 1 else 0
theorem cnt_rng (gs : List Pt) (k : Nat) (id : Int) : 0 ≤ cnt gs k id ∧ cnt gs k id ≤ 1 := by unfold cnt; cases dup gs k id <;> simp
theorem C_gate_Check (q : Qu) (a : QA) (w : World) (h : QRd w q a) : C0 Try.prog 35 [q.val a] w (.int .i64 (chkQ q)) := by
  obtain ⟨hg, hf, hgn, hfn⟩ := h
  refine ⟨en Try.func35 Try.ntmps35 (((St.init w).share (e := .ro a.gA 4 q.gs.length (encPt q.gs)) hg rfl rfl rfl).share (e := .ro a.fA 2 q.fs.length (encF q.fs)) hf rfl rfl rfl) (h := fun F => ?_)⟩
  refine sq (h := ?_)
  refine rg (h := ?_)
  refine bxA (h := fun b0 => ?_)
  refine WL.y (hy := asg) (h := ?_)
  refine nl (h := ?_)
  refine q_seq (h := ?_)
  refine sq (h := ?_)
  refine sq (h := ?_)
  refine rg (h := ?_)
  refine WL.y (hy := (by first | exact fa | exact faE)) (h := ?_)
  refine WL.y (hy := (by first | exact ld | exact ldE)) (h := ?_)
  refine cl0 (hc := fun w hS => C_gate_isTime ..) (h := ?_)
  refine WL.y (hy := notB) (h := ?_)
  refine WL.y (hy := mv) (h := ?_)
  apply brOr 5 10 15 (by exact rfl)
  · intro hb0
    refine un (h := ?_)
    refine WL.y (hy := (by first | exact fa | exact faE)) (h := ?_)
    refine un (h := ?_)
    refine WL.y (hy := (by first | exact fa | exact faE)) (h := ?_)
    refine un (h := ?_)
    refine WL.y (hy := (by first | exact ld | exact ldE)) (h := ?_)
    refine un (h := ?_)
    refine WL.y (hy := lss) (h := ?_)
    refine WL.y (hy := (by first | exact pkT | exact pkF)) (h := ?_)
    exact mg (by repeat (first | exact trivial | refine ⟨rfl, ?_⟩ | refine ⟨by rw [hb0]; rfl, ?_⟩)) (by repeat (first | exact SubL.nil | (apply SubL.cons; (repeat (first | exact At.here | apply At.there))) | exact SubL.refl _ | apply SubL.skip))
  · intro hb0
    repeat (first | refine un (h := ?_) | refine sk (h := ?_) | refine WL.y (hy := pkF) (h := ?_) | refine WL.y (hy := pkT) (h := ?_))
    exact mg (by repeat (first | exact trivial | refine ⟨rfl, ?_⟩ | refine ⟨by rw [hb0]; rfl, ?_⟩)) (by repeat (first | exact SubL.nil | (apply SubL.cons; (repeat (first | exact At.here | apply At.there))) | exact SubL.refl _ | apply SubL.skip))
  refine WL.y (hy := mv) (h := ?_)
  apply brOr 5 16 21 (by exact rfl)
  · intro hb1
    refine un (h := ?_)
    refine WL.y (hy := (by first | exact fa | exact faE)) (h := ?_)
    refine un (h := ?_)
    refine WL.y (hy := (by first | exact fa | exact faE)) (h := ?_)
    refine un (h := ?_)
    refine WL.y (hy := (by first | exact ld | exact ldE)) (h := ?_)
    refine un (h := ?_)
    refine WL.y (hy := gtr) (h := ?_)
    refine WL.y (hy := (by first | exact pkT | exact pkF)) (h := ?_)
    exact mg (by repeat (first | exact trivial | refine ⟨rfl, ?_⟩ | refine ⟨by rw [hb1]; rfl, ?_⟩)) (by repeat (first | exact SubL.nil | (apply SubL.cons; (repeat (first | exact At.here | apply At.there))) | exact SubL.refl _ | apply SubL.skip))
  · intro hb1
    repeat (first | refine un (h := ?_) | refine sk (h := ?_) | refine WL.y (hy := pkF) (h := ?_) | refine WL.y (hy := pkT) (h := ?_))
    exact mg (by repeat (first | exact trivial | refine ⟨rfl, ?_⟩ | refine ⟨by rw [hb1]; rfl, ?_⟩)) (by repeat (first | exact SubL.nil | (apply SubL.cons; (repeat (first | exact At.here | apply At.there))) | exact SubL.refl _ | apply SubL.skip))
  refine WL.y (hy := mv) (h := ?_)
  apply brOr 8 22 30 (by exact rfl)
  · intro hb2
    refine un (h := ?_)
    refine WL.y (hy := (by first | exact fa | exact faE)) (h := ?_)
    refine un (h := ?_)
    refine WL.y (hy := (by first | exact fa | exact faE)) (h := ?_)
    refine un (h := ?_)
    refine WL.y (hy := (by first | exact ld | exact ldE)) (h := ?_)
    refine un (h := ?_)
    refine WL.y (hy := (by first | exact fa | exact faE)) (h := ?_)
    refine un (h := ?_)
    refine WL.y (hy := (by first | exact fa | exact faE)) (h := ?_)
    refine un (h := ?_)
    refine WL.y (hy := (by first | exact ld | exact ldE)) (h := ?_)
    refine un (h := ?_)
    refine WL.y (hy := gtr) (h := ?_)
    refine WL.y (hy := (by first | exact pkT | exact pkF)) (h := ?_)
    exact mg (by repeat (first | exact trivial | refine ⟨rfl, ?_⟩ | refine ⟨by rw [hb2]; rfl, ?_⟩)) (by repeat (first | exact SubL.nil | (apply SubL.cons; (repeat (first | exact At.here | apply At.there))) | exact SubL.refl _ | apply SubL.skip))
  · intro hb2
    repeat (first | refine un (h := ?_) | refine sk (h := ?_) | refine WL.y (hy := pkF) (h := ?_) | refine WL.y (hy := pkT) (h := ?_))
    exact mg (by repeat (first | exact trivial | refine ⟨rfl, ?_⟩ | refine ⟨by rw [hb2]; rfl, ?_⟩)) (by repeat (first | exact SubL.nil | (apply SubL.cons; (repeat (first | exact At.here | apply At.there))) | exact SubL.refl _ | apply SubL.skip))
  refine WL.y (hy := mv) (h := ?_)
  apply brOr 5 31 36 (by exact rfl)
  · intro hb3
    refine un (h := ?_)
    refine WL.y (hy := (by first | exact fa | exact faE)) (h := ?_)
    refine un (h := ?_)
    refine WL.y (hy := (by first | exact ld | exact ldE)) (h := ?_)
    refine un (h := ?_)
    refine cl0 (hc := fun w hS => C_gate_within ..) (h := ?_)
    refine un (h := ?_)
    refine WL.y (hy := notB) (h := ?_)
    refine WL.y (hy := (by first | exact pkT | exact pkF)) (h := ?_)
    exact mg (by repeat (first | exact trivial | refine ⟨rfl, ?_⟩ | refine ⟨by rw [hb3]; rfl, ?_⟩)) (by repeat (first | exact SubL.nil | (apply SubL.cons; (repeat (first | exact At.here | apply At.there))) | exact SubL.refl _ | apply SubL.skip))
  · intro hb3
    repeat (first | refine un (h := ?_) | refine sk (h := ?_) | refine WL.y (hy := pkF) (h := ?_) | refine WL.y (hy := pkT) (h := ?_))
    exact mg (by repeat (first | exact trivial | refine ⟨rfl, ?_⟩ | refine ⟨by rw [hb3]; rfl, ?_⟩)) (by repeat (first | exact SubL.nil | (apply SubL.cons; (repeat (first | exact At.here | apply At.there))) | exact SubL.refl _ | apply SubL.skip))
  refine WL.y (hy := mv) (h := ?_)
  apply brOr 5 37 42 (by exact rfl)
  · intro hb4
    refine un (h := ?_)
    refine WL.y (hy := (by first | exact fa | exact faE)) (h := ?_)
    refine un (h := ?_)
    refine WL.y (hy := (by first | exact ld | exact ldE)) (h := ?_)
    refine un (h := ?_)
    refine WL.y (hy := lenS) (h := ?_)
    refine un (h := ?_)
    refine WL.y (hy := gtr) (h := ?_)
    refine WL.y (hy := (by first | exact pkT | exact pkF)) (h := ?_)
    exact mg (by repeat (first | exact trivial | refine ⟨rfl, ?_⟩ | refine ⟨by rw [hb4]; rfl, ?_⟩)) (by repeat (first | exact SubL.nil | (apply SubL.cons; (repeat (first | exact At.here | apply At.there))) | exact SubL.refl _ | apply SubL.skip))
  · intro hb4
    repeat (first | refine un (h := ?_) | refine sk (h := ?_) | refine WL.y (hy := pkF) (h := ?_) | refine WL.y (hy := pkT) (h := ?_))
    exact mg (by repeat (first | exact trivial | refine ⟨rfl, ?_⟩ | refine ⟨by rw [hb4]; rfl, ?_⟩)) (by repeat (first | exact SubL.nil | (apply SubL.cons; (repeat (first | exact At.here | apply At.there))) | exact SubL.refl _ | apply SubL.skip))
  refine WL.y (hy := mv) (h := ?_)
  apply brOr 5 43 48 (by exact rfl)
  · intro hb5
    refine un (h := ?_)
    refine WL.y (hy := (by first | exact fa | exact faE)) (h := ?_)
    refine un (h := ?_)
    refine WL.y (hy := (by first | exact ld | exact ldE)) (h := ?_)
    refine un (h := ?_)
    refine WL.y (hy := lenS) (h := ?_)
    refine un (h := ?_)
    refine WL.y (hy := gtr) (h := ?_)
    refine WL.y (hy := (by first | exact pkT | exact pkF)) (h := ?_)
    exact mg (by repeat (first | exact trivial | refine ⟨rfl, ?_⟩ | refine ⟨by rw [hb5]; rfl, ?_⟩)) (by repeat (first | exact SubL.nil | (apply SubL.cons; (repeat (first | exact At.here | apply At.there))) | exact SubL.refl _ | apply SubL.skip))
  · intro hb5
    repeat (first | refine un (h := ?_) | refine sk (h := ?_) | refine WL.y (hy := pkF) (h := ?_) | refine WL.y (hy := pkT) (h := ?_))
    exact mg (by repeat (first | exact trivial | refine ⟨rfl, ?_⟩ | refine ⟨by rw [hb5]; rfl, ?_⟩)) (by repeat (first | exact SubL.nil | (apply SubL.cons; (repeat (first | exact At.here | apply At.there))) | exact SubL.refl _ | apply SubL.skip))
  refine nl (h := ?_)
  refine q_seq (h := ?_)
  refine cd (by exact rfl) (fun h6 => ?_) (fun h6 => ?_)
  · skip
    have hb : headOk q = false := by rw [head_not] at h6; simpa using h6
    have hE := chk_bad (q := q) (by rw [qOk, hb]; rfl)
    refine sq (h := ?_)
    refine rg (h := ?_)
    refine WL.y (hy := asg) (h := ?_)
    refine nl (h := ?_)
    refine q_seq (h := ?_)
    refine rtn (h := ?_)
    refine q_then_ret (h := ?_)
    refine q_ret (hR := ?_)
    rw [hE]
    exact fun w hS => ⟨rfl, hS.sub (by repeat (first | exact SubL.nil | (apply SubL.cons; (repeat (first | exact At.here | apply At.there))) | exact SubL.refl _ | apply SubL.skip))⟩
  · skip
    have hb : headOk q = true := by rw [head_not] at h6; simpa using h6
    refine skp (h := ?_)
    refine q_seq (h := ?_)
    refine sq (h := ?_)
    refine rg (h := ?_)
    refine mkm (h := fun b1 => ?_)
    refine WL.y (hy := asg) (h := ?_)
    refine nl (h := ?_)
    refine q_seq (h := ?_)
    refine sq (h := ?_)
    refine sq (h := ?_)
    refine rg (h := ?_)
    refine WL.y (hy := (by first | exact fa | exact faE)) (h := ?_)
    refine WL.y (hy := (by first | exact ld | exact ldE)) (h := ?_)
    refine WL.y (hy := lenS) (h := ?_)
    refine WL.y (hy := mv) (h := ?_)
    refine nl (h := ?_)
    refine q_seq (h := ?_)
    refine bk (h := ?_)
    refine lp (X := KZ) (I := fun z => z.k ≤ q.gs.length ∧ MapN z.es z.kv ∧ gsOk q.gs z.k = true ∧ ∀ id, lkn z.kv id = bif dup q.gs z.k id then some (.int .i64 1) else none) (le := fun z => [(1, .pointer (some ⟨b0, 0, none⟩)), (3, .map (some b1)), (51, .slice a.gA q.gs.length a.gc), (52, .int .i64 q.gs.length), (53, .int .i64 z.k)]) (Le := fun z => [.blk b0 53 (q.cells a), .obj b1 (.map z.es z.cl), .ro a.gA 4 q.gs.length (encPt q.gs), .ro a.fA 2 q.fs.length (encF q.fs)]) (μ := fun z => q.gs.length - z.k) ⟨0, #[], 0, []⟩ ⟨Nat.zero_le _, mapN0, rfl, fun id => rfl⟩ (by repeat (first | exact trivial | refine ⟨rfl, ?_⟩)) (by repeat (first | exact SubL.nil | (apply SubL.cons; (repeat (first | exact At.here | apply At.there))) | exact SubL.refl _ | apply SubL.skip)) (fun z hz => ?_)
    obtain ⟨hzk, hz1, hz2, hz3⟩ := hz
    refine sq (h := ?_)
    refine rg (h := ?_)
    refine WL.y (hy := lss) (h := ?_)
    refine nl (h := ?_)
    refine q_seq (h := ?_)
    refine sq (h := ?_)
    refine cd (by exact rfl) (fun h7 => ?_) (fun h7 => ?_)
    · skip
      have hkn : z.k < q.gs.length := by simp only [decide_eq_true_eq] at h7; omega
      obtain ⟨g, hg1⟩ : ∃ g, q.gs[z.k]? = some g := ⟨_, List.getElem?_eq_getElem hkn⟩
      have hge := encPt_at hg1
      have hcr := cnt_rng q.gs z.k g.id
      have hlk : (lkn z.kv g.id).getD (.int .i64 0) = .int .i64 (cnt q.gs z.k g.id) := by rw [hz3, cnt]; cases dup q.gs z.k g.id <;> rfl
      have hlk1 : (lkn (upn z.kv g.id (.int .i64 (cnt q.gs z.k g.id + 1))) g.id).getD (.int .i64 0) = .int .i64 (cnt q.gs z.k g.id + 1) := by rw [lkn_up, if_pos rfl]; rfl
      have hst := gsOk_succ hg1
      refine skp (h := ?_)
      refine q_seq (h := ?_)
      refine sq (h := ?_)
      refine bk (h := ?_)
      refine sq (h := ?_)
      refine rg (h := ?_)
      refine WL.y (hy := ix (A := a.gA)) (h := ?_)
      refine WL.y (hy := ldEA (A := a.gA) (hk := hge)) (h := ?_)
      refine al (h := fun b2 => ?_)
      first | refine stA (h := ?_) | refine stEA (h := ?_)
      refine nl (h := ?_)
      refine q_seq (h := ?_)
      refine sq (h := ?_)
      refine rg (h := ?_)
      refine WL.y (hy := mv) (h := ?_)
      refine WL.y (hy := (by first | exact fa | exact faE)) (h := ?_)
      refine WL.y (hy := (by first | exact ld | exact ldE)) (h := ?_)
      refine WL.y (hy := Yd.to (lkNI hz1) hlk) (h := ?_)
      refine WL.y (hy := addI) (h := ?_)
      refine mupN hz1 (h := fun es1 cl1 hm1 => ?_)
      refine nl (h := ?_)
      refine q_seq (h := ?_)
      refine sq (h := ?_)
      refine rg (h := ?_)
      refine WL.y (hy := mv) (h := ?_)
      refine WL.y (hy := (by first | exact fa | exact faE)) (h := ?_)
      refine WL.y (hy := (by first | exact ld | exact ldE)) (h := ?_)
      refine WL.y (hy := Yd.to (lkNI hm1) hlk1) (h := ?_)
      refine WL.y (hy := gtr) (h := ?_)
      refine WL.y (hy := mv) (h := ?_)
      apply brOr 4 67 71 (by exact rfl)
      · intro hb8
        refine un (h := ?_)
        refine WL.y (hy := (by first | exact ldA | exact ldEA)) (h := ?_)
        refine un (h := ?_)
        refine cl0 (hc := fun w hS => C_gate_isParty _ w) (h := ?_)
        refine un (h := ?_)
        refine WL.y (hy := notB) (h := ?_)
        refine WL.y (hy := (by first | exact pkT | exact pkF)) (h := ?_)
        exact mg (by repeat (first | exact trivial | refine ⟨rfl, ?_⟩ | refine ⟨by rw [hb8]; rfl, ?_⟩)) (by repeat (first | exact SubL.nil | (apply SubL.cons; (repeat (first | exact At.here | apply At.there))) | exact SubL.refl _ | apply SubL.skip))
      · intro hb8
        repeat (first | refine un (h := ?_) | refine sk (h := ?_) | refine WL.y (hy := pkF) (h := ?_) | refine WL.y (hy := pkT) (h := ?_))
        exact mg (by repeat (first | exact trivial | refine ⟨rfl, ?_⟩ | refine ⟨by rw [hb8]; rfl, ?_⟩)) (by repeat (first | exact SubL.nil | (apply SubL.cons; (repeat (first | exact At.here | apply At.there))) | exact SubL.refl _ | apply SubL.skip))
      refine nl (h := ?_)
      refine q_seq (h := ?_)
      refine cd (by exact rfl) (fun h9 => ?_) (fun h9 => ?_)
      · skip
        have hbd : gsOk q.gs (z.k + 1) = false := by
          rw [hst, hz2, Bool.true_and]
          have h' : (decide ((1 : Int) < cnt q.gs z.k g.id + 1) || !ptOk g) = true := h9
          unfold cnt at h'
          cases hd : dup q.gs z.k g.id <;> rw [hd] at h' <;> simp at h' ⊢
          exact h'
        have hE := chk_bad (q := q) (by rw [qOk, gsOk_le hbd (by omega)]; simp)
        refine sq (h := ?_)
        refine rg (h := ?_)
        refine WL.y (hy := asg) (h := ?_)
        refine nl (h := ?_)
        refine q_seq (h := ?_)
        refine rtn (h := ?_)
        refine q_blk_ret (h := ?_)
        refine q_then_ret (h := ?_)
        refine q_then_ret (h := ?_)
        refine q_blk_ret (h := ?_)
        refine q_then_ret (h := ?_)
        refine q_ret (hR := ?_)
        rw [hE]
        exact fun w hS => ⟨rfl, hS.sub (by repeat (first | exact SubL.nil | (apply SubL.cons; (repeat (first | exact At.here | apply At.there))) | exact SubL.refl _ | apply SubL.skip))⟩
      · skip
        have hpo : dup q.gs z.k g.id = false ∧ ptOk g = true := by
          have h' : (decide ((1 : Int) < cnt q.gs z.k g.id + 1) || !ptOk g) = false := h9
          unfold cnt at h'
          cases hd : dup q.gs z.k g.id <;> rw [hd] at h' <;> simp at h' ⊢
          exact h'
        have hc0 : cnt q.gs z.k g.id = 0 := by unfold cnt; rw [hpo.1]; rfl
        refine skp (h := ?_)
        refine q_blk_norm (h := ?_)
        refine q_seq (h := ?_)
        refine rg (h := ?_)
        refine WL.y (hy := addI) (h := ?_)
        refine WL.y (hy := mv) (h := ?_)
        refine nl (h := ?_)
        refine rn (x := z) ⟨z.k + 1, es1, cl1, _⟩ ⟨by dsimp only; omega, hm1, by rw [hst, hz2, hpo.1, hpo.2]; rfl, fun id => by
          rw [lkn_up, hz3, dup_succ hg1, hc0]
          by_cases e : id = g.id
          · rw [if_pos e, decide_eq_true e.symm, Bool.or_true]; rfl
          · rw [if_neg e, decide_eq_false (fun e' => e e'.symm), Bool.or_false]⟩ (by dsimp only; omega) (by repeat (first | exact trivial | refine ⟨rfl, ?_⟩)) (by repeat (first | exact SubL.nil | (apply SubL.cons; (repeat (first | exact At.here | apply At.there))) | exact SubL.refl _ | apply SubL.skip))
    · skip
      have hkn : z.k = q.gs.length := by simp only [decide_eq_false_iff_not] at h7; omega
      refine et (h := ?_)
      refine q_then_exit (h := ?_)
      refine q_then_exit (h := ?_)
      refine q_blk_hit (h := ?_)
      refine q_seq (h := ?_)
      refine sq (h := ?_)
      refine sq (h := ?_)
      refine rg (h := ?_)
      refine WL.y (hy := (by first | exact fa | exact faE)) (h := ?_)
      refine WL.y (hy := (by first | exact ld | exact ldE)) (h := ?_)
      refine clT (hc := C_ContainsFreeF (A := a.fA) (c := a.fc) (es := encF q.fs) (g := 58) inferInstance [] [] [] (pAt q.fs fun f => !isT f.1 || !win f.2 0 9999) hfn (fun k cs hk => by
        obtain ⟨f, hfk, rfl⟩ := enc_at hk
        rw [pAt_eq hfk]
        exact C0.tr _ (C_gate_Check1 f))) (hs := Spl.cons (by repeat (first | exact At.here | apply At.there)) (Spl.app _ _)) (h := fun _ _ => ?_)
      refine nl (h := ?_)
      refine q_seq (h := ?_)
      refine cd (by exact rfl) (fun h10 => ?_) (fun h10 => ?_)
      · skip
        have hfb : q.fs.all feOk = false := by rw [fe_any] at h10; simpa using h10
        have hE := chk_bad (q := q) (by rw [qOk, hfb]; simp)
        refine sq (h := ?_)
        refine rg (h := ?_)
        refine WL.y (hy := asg) (h := ?_)
        refine nl (h := ?_)
        refine q_seq (h := ?_)
        refine rtn (h := ?_)
        refine q_then_ret (h := ?_)
        refine q_ret (hR := ?_)
        rw [hE]
        exact fun w hS => ⟨rfl, hS.sub (by repeat (first | exact SubL.nil | (apply SubL.cons; (repeat (first | exact At.here | apply At.there))) | exact SubL.refl _ | apply SubL.skip))⟩
      · skip
        have hfb : q.fs.all feOk = true := by rw [fe_any] at h10; simpa using h10
        have hE : chkQ q = 0 := by rw [chkQ, qOk, hb, hfb, ← hkn, hz2]; rfl
        refine skp (h := ?_)
        refine q_seq (h := ?_)
        refine sq (h := ?_)
        refine rg (h := ?_)
        refine WL.y (hy := asg) (h := ?_)
        refine nl (h := ?_)
        refine q_seq (h := ?_)
        refine rtn (h := ?_)
        refine q_ret (hR := ?_)
        rw [hE]
        exact fun w hS => ⟨rfl, hS.sub (by repeat (first | exact SubL.nil | (apply SubL.cons; (repeat (first | exact At.here | apply At.there))) | exact SubL.refl _ | apply SubL.skip))⟩
end Go.Proofs.Ytngelilffleimaa

namespace Go.Proofs.Ytngelilffleimaa
open Go Go.RowKit

def posV (lt : Int → Int → Bool) (l : List Int) (x : Int) : Nat → Nat
  | 0 => 0
  | j + 1 => match l[j]? with
    | some y => bif lt x y then posV lt l x j else j + 1
    | none => j + 1
def insV (lt : Int → Int → Bool) (l : List Int) (x : Int) : List Int := l.take (posV lt l x l.length) ++ x :: l.drop (posV lt l x l.length)
def sortTo (lt : Int → Int → Bool) (xs : List Int) : Nat → List Int
  | 0 => []
  | k + 1 => match xs[k]? with
    | some x => insV lt (sortTo lt xs k) x
    | none => sortTo lt xs k
def sortV (lt : Int → Int → Bool) (xs : List Int) : List Int := sortTo lt xs xs.length
theorem posV_le (lt : Int → Int → Bool) (l : List Int) (x : Int) : ∀ j, posV lt l x j ≤ j
  | 0 => Nat.le_refl _
  | j + 1 => by
    rw [posV]
    cases l[j]? with
    | none => exact Nat.le_refl _
    | some y =>
      show (bif lt x y then posV lt l x j else j + 1) ≤ j + 1
      cases lt x y
      · exact Nat.le_refl _
      · exact Nat.le_succ_of_le (posV_le lt l x j)
theorem insV_len (lt : Int → Int → Bool) (l : List Int) (x : Int) : (insV lt l x).length = l.length + 1 := by
  have := posV_le lt l x l.length
  simp [insV]; omega
theorem sortTo_len (lt : Int → Int → Bool) (xs : List Int) : ∀ k, k ≤ xs.length → (sortTo lt xs k).length = k
  | 0, _ => rfl
  | k + 1, hk => by
    rw [sortTo, List.getElem?_eq_getElem (by omega)]
    simp only [insV_len, sortTo_len lt xs k (by omega)]
theorem posV_step {lt : Int → Int → Bool} {l : List Int} {x y : Int} {j : Nat} (h : l[j]? = some y) : posV lt l x (j + 1) = bif lt x y then posV lt l x j else j + 1 := by rw [posV, h]
theorem insV_mem (lt : Int → Int → Bool) (l : List Int) (x y : Int) : y ∈ insV lt l x ↔ y = x ∨ y ∈ l := by
  unfold insV
  constructor
  · intro h
    rcases List.mem_append.1 h with h | h
    · exact .inr (List.mem_of_mem_take h)
    · rcases List.mem_cons.1 h with h | h
      · exact .inl h
      · exact .inr (List.mem_of_mem_drop h)
  · rintro (rfl | h)
    · exact List.mem_append.2 (.inr (List.mem_cons_self ..))
    · rw [← List.take_append_drop (posV lt l x l.length) l] at h
      rcases List.mem_append.1 h with h | h
      · exact List.mem_append.2 (.inl h)
      · exact List.mem_append.2 (.inr (List.mem_cons_of_mem _ h))
theorem sortTo_mem (lt : Int → Int → Bool) (xs : List Int) (y : Int) : ∀ k, k ≤ xs.length → (y ∈ sortTo lt xs k ↔ y ∈ xs.take k)
  | 0, _ => by simp [sortTo]
  | k + 1, hk => by
    have h : xs[k]? = some xs[k] := List.getElem?_eq_getElem (by omega)
    rw [sortTo, h, List.take_add_one, h]
    simp only [insV_mem, sortTo_mem lt xs y k (by omega), List.mem_append, Option.toList_some, List.mem_singleton]
    exact Or.comm
theorem sortV_mem (lt : Int → Int → Bool) (xs : List Int) (y : Int) : y ∈ sortV lt xs ↔ y ∈ xs := by
  rw [sortV, sortTo_mem lt xs y _ (Nat.le_refl _), List.take_length]
def midV (lt : Int → Int → Bool) (xs : List Int) (k j : Nat) (x : Int) : List Int := (sortTo lt xs k).take j ++ x :: ((sortTo lt xs k).drop j ++ xs.drop (k + 1))
theorem mid_start {lt : Int → Int → Bool} {xs : List Int} {k : Nat} {x : Int} (hx : xs[k]? = some x) : midV lt xs k k x = sortTo lt xs k ++ xs.drop k := by
  have hk : k < xs.length := (List.getElem?_eq_some_iff.1 hx).1
  have hl := sortTo_len lt xs k (by omega)
  unfold midV
  rw [List.take_of_length_le (by omega), List.drop_of_length_le (by omega), List.nil_append, List.drop_eq_getElem_cons hk]
  congr 2
  rw [List.getElem?_eq_getElem hk] at hx
  injection hx with hx; exact hx.symm
theorem mid_at {lt : Int → Int → Bool} {xs : List Int} {k j : Nat} {x : Int} (hk : k < xs.length) (hj : j ≤ k) : (midV lt xs k j x)[j]? = some x := by
  have := sortTo_len lt xs k (by omega)
  unfold midV
  have hl : ((sortTo lt xs k).take j).length = j := by rw [List.length_take]; omega
  rw [List.getElem?_append_right (by omega), hl, Nat.sub_self]; rfl
theorem mid_below {lt : Int → Int → Bool} {xs : List Int} {k j : Nat} {x y : Int} (hk : k < xs.length) (hj : j + 1 ≤ k) (hy : (sortTo lt xs k)[j]? = some y) : (midV lt xs k (j + 1) x)[j]? = some y := by
  have := sortTo_len lt xs k (by omega)
  unfold midV
  rw [List.getElem?_append_left (by rw [List.length_take]; omega), List.getElem?_take]
  simp [hy]
theorem mid_swap {lt : Int → Int → Bool} {xs : List Int} {k j : Nat} {x y : Int} (hk : k < xs.length) (hj : j + 1 ≤ k) (hy : (sortTo lt xs k)[j]? = some y) : ((midV lt xs k (j + 1) x).set (j + 1) y).set j x = midV lt xs k j x := by
  have hl := sortTo_len lt xs k (by omega)
  have hjl : j < (sortTo lt xs k).length := by omega
  unfold midV
  have ht : (sortTo lt xs k).take (j + 1) = (sortTo lt xs k).take j ++ [y] := by rw [List.take_add_one, hy]; rfl
  have hd : (sortTo lt xs k).drop j = y :: (sortTo lt xs k).drop (j + 1) := by
    rw [List.drop_eq_getElem_cons hjl]
    congr 1
    rw [List.getElem?_eq_getElem hjl] at hy
    injection hy
  have hlt : ((sortTo lt xs k).take j).length = j := by rw [List.length_take]; omega
  rw [ht, hd, List.append_assoc, List.set_append_right _ _ (by omega), hlt]
  rw [show j + 1 - j = 1 by omega]
  simp only [List.singleton_append, List.set_cons_succ, List.set_cons_zero]
  rw [List.set_append_right _ _ (by omega), hlt, Nat.sub_self]
  simp
theorem mid_end {lt : Int → Int → Bool} {xs : List Int} {k : Nat} {x : Int} (hx : xs[k]? = some x) (j : Nat) (hj : posV lt (sortTo lt xs k) x k = j) : midV lt xs k j x = sortTo lt xs (k + 1) ++ xs.drop (k + 1) := by
  have hk : k < xs.length := (List.getElem?_eq_some_iff.1 hx).1
  have hl := sortTo_len lt xs k (by omega)
  rw [sortTo, hx]
  unfold midV insV
  simp only
  rw [hl, hj]
  simp

def orV : List Int → Int
  | [] => 0
  | x :: xs => bif !decide (x = 0) then x else orV xs
theorem C_cmp_Or (xs : List Int) (A : Option Addr) (n c : Nat) (w : World) (h : Rd w A 1 n (enI xs)) (hn : n ≤ 9223372036854775807) : C0 Try.prog 73 [.slice A n c] w (.int .i64 (orV xs)) := by
  have hlen : xs.length = n := by have := h.len; rwa [enI_len] at this
  refine ⟨en Try.func73 Try.ntmps73 ((St.init w).share (e := .ro A 1 n (enI xs)) h rfl rfl rfl) (h := fun F => ?_)⟩
  refine sq (h := ?_)
  refine rg (h := ?_)
  refine WL.y (hy := asg) (h := ?_)
  refine nl (h := ?_)
  refine q_seq (h := ?_)
  refine sq (h := ?_)
  refine rg (h := ?_)
  refine WL.y (hy := asg) (h := ?_)
  refine nl (h := ?_)
  refine q_seq (h := ?_)
  refine sq (h := ?_)
  refine sq (h := ?_)
  refine rg (h := ?_)
  refine WL.y (hy := mv) (h := ?_)
  refine WL.y (hy := lenS) (h := ?_)
  refine WL.y (hy := mv) (h := ?_)
  refine nl (h := ?_)
  refine q_seq (h := ?_)
  refine bk (h := ?_)
  refine lp (X := Nat) (I := fun k => k ≤ n ∧ orV (xs.drop k) = orV xs) (le := fun k => [(3, .int .i64 0), (6, .slice A n c), (7, .int .i64 n), (8, .int .i64 k)]) (Le := fun _ => [.ro A 1 n (enI xs)]) (μ := fun k => n - k) 0 ⟨Nat.zero_le _, rfl⟩ (by repeat (first | exact trivial | refine ⟨rfl, ?_⟩)) (by repeat (first | exact SubL.nil | (apply SubL.cons; (repeat (first | exact At.here | apply At.there))) | exact SubL.refl _ | apply SubL.skip)) (fun k hk => ?_)
  obtain ⟨hk, hko⟩ := hk
  refine sq (h := ?_)
  refine rg (h := ?_)
  refine WL.y (hy := lss) (h := ?_)
  refine nl (h := ?_)
  refine q_seq (h := ?_)
  refine sq (h := ?_)
  refine cd (by exact rfl) (fun h0 => ?_) (fun h0 => ?_)
  · skip
    have hkn : k < n := by simp only [decide_eq_true_eq] at h0; omega
    obtain ⟨x, hx⟩ : ∃ x, xs[k]? = some x := ⟨_, List.getElem?_eq_getElem (by omega)⟩
    have hxe := enI_at hx
    have hdr : xs.drop k = x :: xs.drop (k + 1) := by
      rw [List.drop_eq_getElem_cons (by omega)]
      congr 1
      rw [List.getElem?_eq_getElem (by omega)] at hx
      injection hx
    refine skp (h := ?_)
    refine q_seq (h := ?_)
    refine sq (h := ?_)
    refine bk (h := ?_)
    refine sq (h := ?_)
    refine rg (h := ?_)
    refine WL.y (hy := ix (A := A) (m := n)) (h := ?_)
    refine WL.y (hy := ldE (A := A) (hk := hxe)) (h := ?_)
    refine WL.y (hy := asg) (h := ?_)
    refine nl (h := ?_)
    refine q_seq (h := ?_)
    refine sq (h := ?_)
    refine rg (h := ?_)
    refine WL.y (hy := mv) (h := ?_)
    refine WL.y (hy := mv) (h := ?_)
    refine WL.y (hy := neq) (h := ?_)
    refine nl (h := ?_)
    refine q_seq (h := ?_)
    refine cd (by exact rfl) (fun h1 => ?_) (fun h1 => ?_)
    · skip
      have hE : orV xs = x := by rw [← hko, hdr, orV, h1]; rfl
      refine sq (h := ?_)
      refine rg (h := ?_)
      refine WL.y (hy := mv) (h := ?_)
      refine WL.y (hy := asg) (h := ?_)
      refine nl (h := ?_)
      refine q_seq (h := ?_)
      refine rtn (h := ?_)
      refine q_blk_ret (h := ?_)
      refine q_then_ret (h := ?_)
      refine q_then_ret (h := ?_)
      refine q_blk_ret (h := ?_)
      refine q_then_ret (h := ?_)
      refine q_ret (hR := ?_)
      rw [hE]
      exact fun w hS => ⟨rfl, hS.sub (by repeat (first | exact SubL.nil | (apply SubL.cons; (repeat (first | exact At.here | apply At.there))) | exact SubL.refl _ | apply SubL.skip))⟩
    · skip
      have hE : orV (xs.drop (k + 1)) = orV xs := by
        rw [← hko, hdr, orV]
        have h' : (!decide (x = 0)) = false := h1
        rw [h']; rfl
      refine skp (h := ?_)
      refine q_blk_norm (h := ?_)
      refine q_seq (h := ?_)
      refine rg (h := ?_)
      refine WL.y (hy := addI) (h := ?_)
      refine WL.y (hy := mv) (h := ?_)
      refine nl (h := ?_)
      refine rn (x := k) (k + 1) ⟨by omega, hE⟩ (by omega) (by repeat (first | exact trivial | refine ⟨rfl, ?_⟩)) (by repeat (first | exact SubL.nil | (apply SubL.cons; (repeat (first | exact At.here | apply At.there))) | exact SubL.refl _ | apply SubL.skip))
  · skip
    have hkn : k = n := by simp only [decide_eq_false_iff_not] at h0; omega
    have hE : orV xs = 0 := by rw [← hko, List.drop_of_length_le (by omega)]; rfl
    refine et (h := ?_)
    refine q_then_exit (h := ?_)
    refine q_then_exit (h := ?_)
    refine q_blk_hit (h := ?_)
    refine q_seq (h := ?_)
    refine sq (h := ?_)
    refine rg (h := ?_)
    refine WL.y (hy := mv) (h := ?_)
    refine WL.y (hy := asg) (h := ?_)
    refine nl (h := ?_)
    refine q_seq (h := ?_)
    refine rtn (h := ?_)
    refine q_ret (hR := ?_)
    rw [hE]
    exact fun w hS => ⟨rfl, hS.sub (by repeat (first | exact SubL.nil | (apply SubL.cons; (repeat (first | exact At.here | apply At.there))) | exact SubL.refl _ | apply SubL.skip))⟩
def cmpQ (gs : List Pt) (a b : Int) : Int := match gs[a.toNat]?, gs[b.toNat]? with
  | some g, some h => orV [g.at_ - h.at_, g.id - h.id]
  | _, _ => 0
def ltQ (gs : List Pt) (a b : Int) : Bool := decide (cmpQ gs a b < 0)
theorem pt_rng {g : Pt} (h : ptOk g = true) : (0 ≤ g.id ∧ g.id ≤ 999) ∧ (0 ≤ g.at_ ∧ g.at_ ≤ 1440) ∧ (1 ≤ g.size ∧ g.size ≤ 20) ∧ (g.quits = -1 ∨ g.at_ ≤ g.quits ∧ g.quits ≤ 1440) := by
  simp only [ptOk, isT, Bool.and_eq_true, Bool.or_eq_true, win_iff, decide_eq_true_eq] at h
  omega
abbrev ordL (q : Qu) (a : QA) (b : Nat) : List Ent := [.blk b 53 (q.cells a), .ro a.gA 4 q.gs.length (encPt q.gs)]
set_option maxHeartbeats 1000000 in
theorem T_open1 (q : Qu) (a : QA) (b : Nat) (hq : q.Ok) (x y : Int) (hx : 0 ≤ x ∧ x < q.gs.length) (hy : 0 ≤ y ∧ y < q.gs.length) :
    Tr Try.prog 72 [.int .i64 x, .int .i64 y, .pointer (some ⟨b, 0, none⟩)] (ordL q a b) (fun _ : Unit => True) (fun _ => .int .i64 (cmpQ q.gs x y)) (fun _ => ordL q a b) := by
  refine ⟨fun w0 w R hst => ?_⟩
  obtain ⟨g, hg⟩ : ∃ g, q.gs[x.toNat]? = some g := ⟨_, List.getElem?_eq_getElem (by omega)⟩
  obtain ⟨h, hh⟩ : ∃ h, q.gs[y.toNat]? = some h := ⟨_, List.getElem?_eq_getElem (by omega)⟩
  have hge := encPt_at hg
  have hhe := encPt_at hh
  have hgo := pt_rng (hq.pt g (List.mem_of_getElem? hg))
  have hho := pt_rng (hq.pt h (List.mem_of_getElem? hh))
  have hE : cmpQ q.gs x y = orV [g.at_ - h.at_, g.id - h.id] := by rw [cmpQ, hg, hh]
  refine en Try.func72 Try.ntmps72 hst (h := fun F => ?_)
  refine sq (h := ?_)
  refine rg (h := ?_)
  refine WL.y (hy := asg) (h := ?_)
  refine nl (h := ?_)
  refine q_seq (h := ?_)
  refine ct (X := Nat × Nat) (fun _ => True) (fun x => [(6, .pointer (some ⟨x.1, 0, none⟩)), (7, .pointer (some ⟨x.2, 0, none⟩))]) (fun x => .blk x.1 59 g.enc :: .blk x.2 59 h.enc :: .blk b 53 (q.cells a) :: .ro a.gA 4 q.gs.length (encPt q.gs) :: R) (h1 := ?_) (h2 := ?_)
  · skip
    refine rgD (by kernel_rfl) [(1000000, .blk b 53 (q.cells a)), (1000000, .ro a.gA 4 q.gs.length (encPt q.gs))] (by repeat (first | exact HS.nil | (apply HS.keep; (repeat (first | exact At.here | apply At.there))) | (apply HS.ro; (repeat (first | exact Rds.ro | exact Rds.own | apply Rds.there))))) (h := ?_)
    refine tk 0 (hy := (by first | exact fa | exact faE)) (h := ?_)
    refine tk 1 (hy := (by first | exact ld | exact ldE)) (h := ?_)
    refine tk 2 (hy := mv) (h := ?_)
    refine tk 3 (hy := ix (A := a.gA) (m := q.gs.length)) (h := ?_)
    refine tk 4 (hy := ldEA (A := a.gA) (hk := hge)) (h := ?_)
    refine tk 5 (hy := (by first | exact fa | exact faE)) (h := ?_)
    refine tk 6 (hy := (by first | exact ld | exact ldE)) (h := ?_)
    refine tk 7 (hy := mv) (h := ?_)
    refine tk 8 (hy := ix (A := a.gA) (m := q.gs.length)) (h := ?_)
    refine tk 9 (hy := ldEA (A := a.gA) (hk := hhe)) (h := ?_)
    refine two 10 11 (h1 := ?_) (h2 := ?_)
    · skip
      refine al (h := fun b0 => ?_)
      refine nx (h := ?_)
      refine one 11 (h := ?_)
      refine al (h := fun b1 => ?_)
      refine nx (h := ?_)
      refine one 12 (h := ?_)
      first | refine stA (h := ?_) | refine stEA (h := ?_)
      refine nx (h := ?_)
      refine one 13 (h := ?_)
      first | refine stA (h := ?_) | refine stEA (h := ?_)
      refine nx (h := ?_)
      refine dn (h := ?_)
      exact ctn (_, _) trivial (by repeat (first | exact trivial | refine ⟨rfl, ?_⟩)) (by repeat (first | exact SubL.nil | (apply SubL.cons; (repeat (first | exact At.here | apply At.there))) | exact SubL.refl _ | apply SubL.skip))
    · skip
      refine al (h := fun b2 => ?_)
      refine nx (h := ?_)
      refine one 10 (h := ?_)
      refine al (h := fun b3 => ?_)
      refine nx (h := ?_)
      refine one 12 (h := ?_)
      first | refine stA (h := ?_) | refine stEA (h := ?_)
      refine nx (h := ?_)
      refine one 13 (h := ?_)
      first | refine stA (h := ?_) | refine stEA (h := ?_)
      refine nx (h := ?_)
      refine dn (h := ?_)
      exact ctn (_, _) trivial (by repeat (first | exact trivial | refine ⟨rfl, ?_⟩)) (by repeat (first | exact SubL.nil | (apply SubL.cons; (repeat (first | exact At.here | apply At.there))) | exact SubL.refl _ | apply SubL.skip))
  rintro ⟨u1, u2⟩ -
  dsimp only
  refine sq (h := ?_)
  refine rg (h := ?_)
  refine WL.y (hy := (by first | exact fa | exact faE)) (h := ?_)
  refine WL.y (hy := (by first | exact ld | exact ldE)) (h := ?_)
  refine WL.y (hy := (by first | exact fa | exact faE)) (h := ?_)
  refine WL.y (hy := (by first | exact ld | exact ldE)) (h := ?_)
  refine WL.y (hy := subI) (h := ?_)
  refine WL.y (hy := (by first | exact fa | exact faE)) (h := ?_)
  refine WL.y (hy := (by first | exact ld | exact ldE)) (h := ?_)
  refine WL.y (hy := (by first | exact fa | exact faE)) (h := ?_)
  refine WL.y (hy := (by first | exact ld | exact ldE)) (h := ?_)
  refine WL.y (hy := subI) (h := ?_)
  refine bs (h := fun u3 => ?_)
  refine cl0 (hc := fun w hS => C_cmp_Or [g.at_ - h.at_, g.id - h.id] (some ⟨u3, 0, none⟩) 2 2 w (hS.get (by repeat (first | exact Rds.own | apply Rds.there))) (by omega)) (h := ?_)
  refine WL.y (hy := asg) (h := ?_)
  refine nl (h := ?_)
  refine q_seq (h := ?_)
  refine rtn (h := ?_)
  refine q_ret (hR := ?_)
  rw [hE]
  exact fun w hS => ⟨(), trivial, rfl, hS.sub (by repeat (first | exact SubL.nil | (apply SubL.cons; (repeat (first | exact At.here | apply At.there))) | exact SubL.refl _ | apply SubL.skip))⟩

set_option maxHeartbeats 1000000 in
theorem T_insertion (q : Qu) (a : QA) (b : Nat) (hq : q.Ok) (xs : List Int) (A : Option Addr) (n c : Nat) (hlen : xs.length = n) (hn : n ≤ 40) (hr : ∀ x ∈ xs, 0 ≤ x ∧ x < q.gs.length) :
    Tr Try.prog 80 [.slice A n c, .int .i64 0, .int .i64 n, .func (.func 72) #[] #[.pointer (some ⟨b, 0, none⟩)]] (.own A c 3 1 n (enI xs) :: ordL q a b) (fun _ : Unit => True) (fun _ => .tuple #[]) (fun _ => .own A c 3 1 n (enI (sortV (ltQ q.gs) xs)) :: ordL q a b) := by
  refine ⟨fun w0 w R hst => ?_⟩
  have h1 : sortTo (ltQ q.gs) xs 1 ++ xs.drop 1 = xs := by
    cases xs with
    | nil => rfl
    | cons x t => simp [sortTo, insV, posV]
  refine en Try.func80 Try.ntmps80 hst (h := fun F => ?_)
  refine sq (h := ?_)
  refine rg (h := ?_)
  refine WL.y (hy := mv) (h := ?_)
  refine WL.y (hy := addI) (h := ?_)
  refine WL.y (hy := asg) (h := ?_)
  refine nl (h := ?_)
  refine q_seq (h := ?_)
  refine bk (h := ?_)
  refine lp (X := Nat) (I := fun k => 1 ≤ k ∧ (k ≤ n ∨ k = 1)) (le := fun k => [(0, .slice A n c), (1, .int .i64 0), (2, .int .i64 n), (3, .func (.func 72) #[] #[.pointer (some ⟨b, 0, none⟩)]), (8, .int .i64 k)]) (Le := fun k => .own A c 3 1 n (enI (sortTo (ltQ q.gs) xs k ++ xs.drop k)) :: (ordL q a b ++ R)) (μ := fun k => n + 1 - k) 1 ⟨Nat.le_refl _, .inr rfl⟩ (by repeat (first | exact trivial | refine ⟨rfl, ?_⟩)) (by rw [h1]; exact SubL.refl _) (fun k hk => ?_)
  obtain ⟨hk1', hkn'⟩ := hk
  refine sq (h := ?_)
  refine sq (h := ?_)
  refine rg (h := ?_)
  refine WL.y (hy := mv) (h := ?_)
  refine WL.y (hy := mv) (h := ?_)
  refine WL.y (hy := lss) (h := ?_)
  refine nl (h := ?_)
  refine q_seq (h := ?_)
  refine cd (by exact rfl) (fun h0 => ?_) (fun h0 => ?_)
  · skip
    have hkn : k < n := by simp only [decide_eq_true_eq] at h0; omega
    obtain ⟨x, hx⟩ : ∃ x, xs[k]? = some x := ⟨_, List.getElem?_eq_getElem (by omega)⟩
    have hxr := hr x (List.mem_of_getElem? hx)
    have hsl := sortTo_len (ltQ q.gs) xs k (by omega)
    rw [← mid_start hx]
    refine skp (h := ?_)
    refine q_seq (h := ?_)
    refine sq (h := ?_)
    refine bk (h := ?_)
    refine sq (h := ?_)
    refine rg (h := ?_)
    refine WL.y (hy := mv) (h := ?_)
    refine WL.y (hy := asg) (h := ?_)
    refine nl (h := ?_)
    refine q_seq (h := ?_)
    refine bk (h := ?_)
    refine lp (X := Nat) (I := fun j => j ≤ k ∧ posV (ltQ q.gs) (sortTo (ltQ q.gs) xs k) x k = posV (ltQ q.gs) (sortTo (ltQ q.gs) xs k) x j) (le := fun j => [(0, .slice A n c), (1, .int .i64 0), (2, .int .i64 n), (3, .func (.func 72) #[] #[.pointer (some ⟨b, 0, none⟩)]), (8, .int .i64 k), (9, .int .i64 j)]) (Le := fun j => .own A c 3 1 n (enI (midV (ltQ q.gs) xs k j x)) :: (ordL q a b ++ R)) (μ := fun j => j) k ⟨Nat.le_refl _, rfl⟩ (by repeat (first | exact trivial | refine ⟨rfl, ?_⟩)) (by repeat (first | exact SubL.nil | (apply SubL.cons; (repeat (first | exact At.here | apply At.there))) | exact SubL.refl _ | apply SubL.skip)) (fun j hj => ?_)
    obtain ⟨hjk, hjp⟩ := hj
    refine sq (h := ?_)
    refine sq (h := ?_)
    refine rgD (by kernel_rfl) [(1000000, .own A c 3 1 n (enI (midV (ltQ q.gs) xs k j x)))] (by repeat (first | exact HS.nil | (apply HS.keep; (repeat (first | exact At.here | apply At.there))) | (apply HS.ro; (repeat (first | exact Rds.ro | exact Rds.own | apply Rds.there))))) (h := ?_)
    refine tk 0 (hy := mv) (h := ?_)
    refine tk 1 (hy := mv) (h := ?_)
    refine tk 2 (hy := gtr) (h := ?_)
    refine tk 3 (hy := mv) (h := ?_)
    refine brH (g := 21) (by exact rfl) (fun hb1 => ?_) (fun hb1 => ?_)
    · skip
      obtain ⟨i, hi⟩ : ∃ i, j = i + 1 := ⟨j - 1, by have := of_decide_eq_true hb1; omega⟩
      subst hi
      obtain ⟨y, hy⟩ : ∃ y, (sortTo (ltQ q.gs) xs k)[i]? = some y := ⟨_, List.getElem?_eq_getElem (by omega)⟩
      have hyr := hr y (List.mem_of_mem_take ((sortTo_mem (ltQ q.gs) xs y k (by omega)).1 (List.mem_of_getElem? hy)))
      have hbe := mid_below (lt := ltQ q.gs) (xs := xs) (k := k) (x := x) (by omega) (by omega) hy
      have hae := mid_at (lt := ltQ q.gs) (xs := xs) (k := k) (j := i + 1) (x := x) (by omega) (by omega)
      have hk0 : (enI (midV (ltQ q.gs) xs k (i + 1) x))[(((i + 1 : Nat) : Int) - 1).toNat]? = some [.int .i64 y] := by rw [show (((i + 1 : Nat) : Int) - 1).toNat = i by omega]; exact enI_at hbe
      have hk1 : (enI (midV (ltQ q.gs) xs k (i + 1) x))[(((i + 1 : Nat) : Int)).toNat]? = some [.int .i64 x] := enI_at hae
      refine tk 4 (hy := mv) (h := ?_)
      refine tk 5 (hy := mv) (h := ?_)
      refine tk 6 (hy := mv) (h := ?_)
      refine tk 7 (hy := ix (A := A) (m := n)) (h := ?_)
      refine tk 8 (hy := ldE (A := A) (hk := hk1)) (h := ?_)
      refine tk 9 (hy := mv) (h := ?_)
      refine tk 10 (hy := mv) (h := ?_)
      refine tk 11 (hy := subI) (h := ?_)
      refine tk 12 (hy := ix (A := A) (m := n)) (h := ?_)
      refine tk 13 (hy := ldE (A := A) (hk := hk0)) (h := ?_)
      refine one 14 (h := ?_)
      refine un (h := ?_)
      refine clfT inferInstance (fi := []) (cap := [.pointer (some ⟨b, 0, none⟩)]) (by exact rfl) (by repeat (first | exact Evs.nil | (apply Evs.cons; exact rfl))) (T_open1 q a b hq x y hxr hyr) rfl (by repeat (first | exact Spl.nil | (apply Spl.cons; (repeat (first | exact At.here | apply At.there))))) (h := fun _ _ => ?_)
      refine nx (h := ?_)
      refine tk 15 (hy := lss) (h := ?_)
      refine tk 16 (hy := (by first | exact pkT | exact pkF)) (h := ?_)
      refine dn (h := ?_)
      refine q_seq (h := ?_)
      refine cd (by exact rfl) (fun h2 => ?_) (fun h2 => ?_)
      · skip
        have hlt : ltQ q.gs x y = true := h2
        have hp2 : posV (ltQ q.gs) (sortTo (ltQ q.gs) xs k) x k = posV (ltQ q.gs) (sortTo (ltQ q.gs) xs k) x i := by rw [hjp, posV_step hy, hlt]; rfl
        have hi1 : (((i + 1 : Nat) : Int) - 1).toNat = i := by omega
        have hk2 : ((enI (midV (ltQ q.gs) xs k (i + 1) x)).set (((i + 1 : Nat) : Int)).toNat ([Value.int .i64 x].set 0 (.int .i64 y)))[(((i + 1 : Nat) : Int) - 1).toNat]? = some [.int .i64 y] := by
          rw [hi1, List.getElem?_set_ne (by show i + 1 ≠ i; omega)]
          exact enI_at hbe
        have hsw : ((enI (midV (ltQ q.gs) xs k (i + 1) x)).set (((i + 1 : Nat) : Int)).toNat ([Value.int .i64 x].set 0 (.int .i64 y))).set (((i + 1 : Nat) : Int) - 1).toNat ([Value.int .i64 y].set 0 (.int .i64 x)) = enI (midV (ltQ q.gs) xs k i x) := by
          rw [hi1]
          show ((enI _).set (i + 1) [.int .i64 y]).set i [.int .i64 x] = _
          rw [enI_set, enI_set, mid_swap (by omega) (by omega) hy]
        refine skp (h := ?_)
        refine q_seq (h := ?_)
        refine sq (h := ?_)
        refine bk (h := ?_)
        refine WC.some_ (A := A) (by repeat (first | exact At.here | apply At.there)) (by omega) (fun hAs => ?_)
        refine rgD (by kernel_rfl) [(15, .own A c 3 1 n (enI (midV (ltQ q.gs) xs k (i + 1) x)))] (by repeat (first | exact HS.nil | (apply HS.keep; (repeat (first | exact At.here | apply At.there))) | (apply HS.ro; (repeat (first | exact Rds.ro | exact Rds.own | apply Rds.there))))) (h := ?_)
        refine tk 0 (hy := mv) (h := ?_)
        refine tk 1 (hy := mv) (h := ?_)
        refine tk 2 (hy := mv) (h := ?_)
        refine tk 3 (hy := mv) (h := ?_)
        refine tk 4 (hy := subI) (h := ?_)
        refine tk 5 (hy := mv) (h := ?_)
        refine tk 6 (hy := mv) (h := ?_)
        refine tk 7 (hy := subI) (h := ?_)
        refine tk 8 (hy := ix (A := A) (m := n)) (h := ?_)
        refine tk 9 (hy := ldE (A := A) (hk := hk0)) (h := ?_)
        refine tk 10 (hy := mv) (h := ?_)
        refine tk 11 (hy := mv) (h := ?_)
        refine tk 12 (hy := ixS (A := A) (m := n) (hs := hAs)) (h := ?_)
        refine tk 13 (hy := ldE (A := A) (hk := hk1)) (h := ?_)
        refine tk 14 (hy := ix (A := A) (m := n)) (h := ?_)
        refine one 15 (h := ?_)
        refine stE (A := A) (hk := hk1) (h := ?_)
        refine nx (h := ?_)
        refine one 16 (h := ?_)
        refine WL.y (hy := ix (A := A) (m := n)) (h := ?_)
        refine nx (h := ?_)
        refine one 17 (h := ?_)
        refine stE (A := A) (hk := hk2) (h := ?_)
        refine nx (h := ?_)
        refine dn (h := ?_)
        refine q_blk_norm (h := ?_)
        refine q_seq (h := ?_)
        refine rg (h := ?_)
        refine WL.y (hy := mv) (h := ?_)
        refine WL.y (hy := subI) (h := ?_)
        refine WL.y (hy := asg) (h := ?_)
        refine nl (h := ?_)
        rw [hsw]
        refine rn (x := i + 1) i ⟨by omega, hp2⟩ (by omega) (by repeat (first | exact trivial | refine ⟨rfl, ?_⟩ | refine ⟨by show some (Value.int .i64 (((i + 1 : Nat) : Int) - 1)) = some (Value.int .i64 (i : Int)); congr 2; omega, ?_⟩)) (by repeat (first | exact SubL.nil | (apply SubL.cons; (repeat (first | exact At.here | apply At.there))) | exact SubL.refl _ | apply SubL.skip))
      · skip
        first
          | (have hlt : ltQ q.gs x y = false := ‹_›
             have hex : posV (ltQ q.gs) (sortTo (ltQ q.gs) xs k) x k = i + 1 := by rw [hjp, posV_step hy, hlt]; rfl)
          | skip
        refine et (h := ?_)
        refine q_then_exit (h := ?_)
        refine q_then_exit (h := ?_)
        refine q_blk_hit (h := ?_)
        refine q_blk_norm (h := ?_)
        refine q_seq (h := ?_)
        refine rg (h := ?_)
        refine WL.y (hy := mv) (h := ?_)
        refine WL.y (hy := addI) (h := ?_)
        refine WL.y (hy := asg) (h := ?_)
        refine nl (h := ?_)
        rw [mid_end hx _ hex]
        refine rn (x := k) (k + 1) ⟨by omega, by omega⟩ (by omega) (by repeat (first | exact trivial | refine ⟨rfl, ?_⟩)) (by repeat (first | exact SubL.nil | (apply SubL.cons; (repeat (first | exact At.here | apply At.there))) | exact SubL.refl _ | apply SubL.skip))
    · skip
      obtain rfl : j = 0 := by have := of_decide_eq_false hb1; omega
      have hex : posV (ltQ q.gs) (sortTo (ltQ q.gs) xs k) x k = 0 := hjp
      refine tkS 4 (h := ?_)
      refine tkS 5 (h := ?_)
      refine tkS 6 (h := ?_)
      refine tkS 7 (h := ?_)
      refine tkS 8 (h := ?_)
      refine tkS 9 (h := ?_)
      refine tkS 10 (h := ?_)
      refine tkS 11 (h := ?_)
      refine tkS 12 (h := ?_)
      refine tkS 13 (h := ?_)
      refine tkS 14 (h := ?_)
      refine tkS 15 (h := ?_)
      refine tk 16 (hy := (by first | exact pkT | exact pkF)) (h := ?_)
      refine dn (h := ?_)
      refine q_seq (h := ?_)
      refine cdF (h := ?_)
      first
        | (have hlt : ltQ q.gs x y = false := ‹_›
           have hex : posV (ltQ q.gs) (sortTo (ltQ q.gs) xs k) x k = i + 1 := by rw [hjp, posV_step hy, hlt]; rfl)
        | skip
      refine et (h := ?_)
      refine q_then_exit (h := ?_)
      refine q_then_exit (h := ?_)
      refine q_blk_hit (h := ?_)
      refine q_blk_norm (h := ?_)
      refine q_seq (h := ?_)
      refine rg (h := ?_)
      refine WL.y (hy := mv) (h := ?_)
      refine WL.y (hy := addI) (h := ?_)
      refine WL.y (hy := asg) (h := ?_)
      refine nl (h := ?_)
      rw [mid_end hx _ hex]
      refine rn (x := k) (k + 1) ⟨by omega, by omega⟩ (by omega) (by repeat (first | exact trivial | refine ⟨rfl, ?_⟩)) (by repeat (first | exact SubL.nil | (apply SubL.cons; (repeat (first | exact At.here | apply At.there))) | exact SubL.refl _ | apply SubL.skip))
  · skip
    have hkn : sortTo (ltQ q.gs) xs k ++ xs.drop k = sortV (ltQ q.gs) xs := by
      have hkn : n ≤ k := by simp only [decide_eq_false_iff_not] at h0; omega
      rcases (by omega : k = n ∨ (n = 0 ∧ k = 1)) with rfl | ⟨hn0, rfl⟩
      · rw [← hlen, List.drop_length, List.append_nil]; rfl
      · subst hn0
        rw [List.eq_nil_of_length_eq_zero hlen]; rfl
    rw [hkn]
    refine et (h := ?_)
    refine q_then_exit (h := ?_)
    refine q_then_exit (h := ?_)
    refine q_blk_hit (h := ?_)
    refine q_end (hR := ?_)
    exact fun w hS => ⟨(), trivial, rfl, hS.sub (by repeat (first | exact SubL.nil | (apply SubL.cons; (repeat (first | exact At.here | apply At.there))) | exact SubL.refl _ | apply SubL.skip))⟩
end Go.Proofs.Ytngelilffleimaa

namespace Go.Proofs.Ytngelilffleimaa
open Go Go.RowKit

theorem wrap_u8 {a : Int} (h : 0 ≤ a ∧ a ≤ 255) : IntKind.u8.wrap a = a := by
  simp [IntKind.wrap, IntKind.bits, IntKind.signed]; omega
theorem wrap_u64 {a : Int} (h : 0 ≤ a ∧ a ≤ 1000) : IntKind.u64.wrap a = a := by
  simp [IntKind.wrap, IntKind.bits, IntKind.signed]; omega
theorem C_Len64 (a : Int) (ha : 0 ≤ a ∧ a ≤ 40) (w : World) : CR Try.prog 89 [.int .u64 a] w (fun x : Int => 0 ≤ x ∧ x ≤ 255) (fun x => .int .i64 x) (fun _ => []) := by
  refine ⟨en Try.func89 Try.ntmps89 (St.init w) (h := fun F => ?_)⟩
  refine sq (h := ?_)
  refine rg (h := ?_)
  refine WL.y (hy := asg) (h := ?_)
  refine nl (h := ?_)
  refine q_seq (h := ?_)
  refine sq (h := ?_)
  refine sq (h := ?_)
  refine rg (h := ?_)
  refine WL.y (hy := mv) (h := ?_)
  refine WL.y (hy := (Yd.fl (geq) (by refine decide_eq_false ?_; omega))) (h := ?_)
  refine nl (h := ?_)
  refine q_seq (h := ?_)
  refine cdF (h := ?_)
  refine skp (h := ?_)
  refine q_seq (h := ?_)
  refine sq (h := ?_)
  refine sq (h := ?_)
  refine rg (h := ?_)
  refine WL.y (hy := mv) (h := ?_)
  refine WL.y (hy := (Yd.fl (geq) (by refine decide_eq_false ?_; omega))) (h := ?_)
  refine nl (h := ?_)
  refine q_seq (h := ?_)
  refine cdF (h := ?_)
  refine skp (h := ?_)
  refine q_seq (h := ?_)
  refine sq (h := ?_)
  refine sq (h := ?_)
  refine rg (h := ?_)
  refine WL.y (hy := mv) (h := ?_)
  refine WL.y (hy := (Yd.fl (geq) (by refine decide_eq_false ?_; omega))) (h := ?_)
  refine nl (h := ?_)
  refine q_seq (h := ?_)
  refine cdF (h := ?_)
  refine skp (h := ?_)
  refine q_seq (h := ?_)
  refine sq (h := ?_)
  refine rg (h := ?_)
  refine WL.y (hy := mv) (h := ?_)
  refine WL.y (hy := mv) (h := ?_)
  refine WL.y (hy := cvI (hw := wrap_u8 (by omega))) (h := ?_)
  refine WL.byte (i := a) (by omega) (h := fun bt hbt => ?_)
  refine WL.y (hy := cvI (hw := IntWalk.i64_in _ (by omega))) (h := ?_)
  refine WL.y (hy := addI (hb := by omega)) (h := ?_)
  refine WL.y (hy := asg) (h := ?_)
  refine nl (h := ?_)
  refine q_seq (h := ?_)
  refine rtn (h := ?_)
  refine q_ret (hR := ?_)
  exact fun w hS => ⟨_, by omega, rfl, hS.sub (by repeat (first | exact SubL.nil | (apply SubL.cons; (repeat (first | exact At.here | apply At.there))) | exact SubL.refl _ | apply SubL.skip))⟩
theorem C_Len (a : Int) (ha : 0 ≤ a ∧ a ≤ 40) (w : World) : CR Try.prog 79 [.int .u64 a] w (fun x : Int => 0 ≤ x ∧ x ≤ 255) (fun x => .int .i64 x) (fun _ => []) := by
  refine ⟨en Try.func79 Try.ntmps79 (St.init w) (h := fun F => ?_)⟩
  refine sq (h := ?_)
  refine rg (h := ?_)
  refine WL.y (hy := asg) (h := ?_)
  refine nl (h := ?_)
  refine q_seq (h := ?_)
  refine sq (h := ?_)
  refine cdF (h := ?_)
  refine skp (h := ?_)
  refine q_seq (h := ?_)
  refine sq (h := ?_)
  refine rg (h := ?_)
  refine WL.y (hy := mv) (h := ?_)
  refine cl (hc := fun w hS => C_Len64 a ha w) (h := fun x hx => ?_)
  refine WL.y (hy := asg) (h := ?_)
  refine nl (h := ?_)
  refine q_seq (h := ?_)
  refine rtn (h := ?_)
  refine q_ret (hR := ?_)
  exact fun w hS => ⟨x, hx, rfl, hS.sub (by repeat (first | exact SubL.nil | (apply SubL.cons; (repeat (first | exact At.here | apply At.there))) | exact SubL.refl _ | apply SubL.skip))⟩
theorem T_pdq (q : Qu) (a : QA) (b : Nat) (hq : q.Ok) (xs : List Int) (A : Option Addr) (n c : Nat) (lim : Int) (hlen : xs.length = n) (hn : n ≤ 12) (hr : ∀ x ∈ xs, 0 ≤ x ∧ x < q.gs.length) :
    Tr Try.prog 78 [.slice A n c, .int .i64 0, .int .i64 n, .int .i64 lim, .func (.func 72) #[] #[.pointer (some ⟨b, 0, none⟩)]] (.own A c 3 1 n (enI xs) :: ordL q a b) (fun _ : Unit => True) (fun _ => .tuple #[]) (fun _ => .own A c 3 1 n (enI (sortV (ltQ q.gs) xs)) :: ordL q a b) := by
  refine ⟨fun w0 w R hst => ?_⟩
  refine en Try.func78 Try.ntmps78 hst (h := fun F => ?_)
  refine sq (h := ?_)
  refine rg (h := ?_)
  refine WL.y (hy := asg) (h := ?_)
  refine nl (h := ?_)
  refine q_seq (h := ?_)
  refine sq (h := ?_)
  refine rg (h := ?_)
  refine WL.y (hy := asg) (h := ?_)
  refine nl (h := ?_)
  refine q_seq (h := ?_)
  refine bk (h := ?_)
  refine lp (X := Unit) (I := fun _ => True) (le := fun _ => [(0, .slice A n c), (1, .int .i64 0), (2, .int .i64 n), (4, .func (.func 72) #[] #[.pointer (some ⟨b, 0, none⟩)])]) (Le := fun _ => .own A c 3 1 n (enI xs) :: (ordL q a b ++ R)) (μ := fun _ => 0) () trivial (by repeat (first | exact trivial | refine ⟨rfl, ?_⟩)) (SubL.refl _) (fun _ _ => ?_)
  refine bk (h := ?_)
  refine sq (h := ?_)
  refine rg (h := ?_)
  refine WL.y (hy := mv) (h := ?_)
  refine WL.y (hy := mv) (h := ?_)
  refine WL.y (hy := subI (hb := by omega)) (h := ?_)
  rw [Int.sub_zero]
  refine WL.y (hy := asg) (h := ?_)
  refine nl (h := ?_)
  refine q_seq (h := ?_)
  refine sq (h := ?_)
  refine sq (h := ?_)
  refine rg (h := ?_)
  refine WL.y (hy := mv) (h := ?_)
  refine WL.y (hy := (Yd.tr (leq) (by refine decide_eq_true ?_; omega))) (h := ?_)
  refine nl (h := ?_)
  refine q_seq (h := ?_)
  refine cdT (h := ?_)
  refine sq (h := ?_)
  refine rg (h := ?_)
  refine WL.y (hy := mv) (h := ?_)
  refine WL.y (hy := mv) (h := ?_)
  refine WL.y (hy := mv) (h := ?_)
  refine WL.y (hy := mv) (h := ?_)
  refine clT (hc := T_insertion q a b hq xs A n c hlen (by omega) hr) (hs := (by repeat (first | exact Spl.nil | (apply Spl.cons; (repeat (first | exact At.here | apply At.there)))))) (h := fun _ _ => ?_)
  refine nl (h := ?_)
  refine q_seq (h := ?_)
  refine rtn (h := ?_)
  refine q_then_ret (h := ?_)
  refine q_blk_ret (h := ?_)
  refine q_then_ret (h := ?_)
  refine q_blk_ret (h := ?_)
  refine q_ret (hR := ?_)
  exact fun w hS => ⟨(), trivial, rfl, hS⟩
theorem T_SortFunc (q : Qu) (a : QA) (b : Nat) (hq : q.Ok) (xs : List Int) (A : Option Addr) (n c : Nat) (hlen : xs.length = n) (hn : n ≤ 12) (hr : ∀ x ∈ xs, 0 ≤ x ∧ x < q.gs.length) :
    Tr Try.prog 71 [.slice A n c, .func (.func 72) #[] #[.pointer (some ⟨b, 0, none⟩)]] (.own A c 3 1 n (enI xs) :: ordL q a b) (fun _ : Unit => True) (fun _ => .tuple #[]) (fun _ => .own A c 3 1 n (enI (sortV (ltQ q.gs) xs)) :: ordL q a b) := by
  refine ⟨fun w0 w R hst => ?_⟩
  refine en Try.func71 Try.ntmps71 hst (h := fun F => ?_)
  refine sq (h := ?_)
  refine rg (h := ?_)
  refine WL.y (hy := mv) (h := ?_)
  refine WL.y (hy := lenS) (h := ?_)
  refine WL.y (hy := asg) (h := ?_)
  refine nl (h := ?_)
  refine q_seq (h := ?_)
  refine rg (h := ?_)
  refine WL.y (hy := mv) (h := ?_)
  refine WL.y (hy := mv) (h := ?_)
  refine WL.y (hy := mv) (h := ?_)
  refine WL.y (hy := cvI (hw := wrap_u64 (by omega))) (h := ?_)
  refine cl (hc := fun w hS => C_Len n (by omega) w) (h := fun x hx => ?_)
  refine WL.y (hy := mv) (h := ?_)
  refine clT (hc := T_pdq q a b hq xs A n c x hlen hn hr) (hs := (by repeat (first | exact Spl.nil | (apply Spl.cons; (repeat (first | exact At.here | apply At.there)))))) (h := fun _ _ => ?_)
  refine nl (h := ?_)
  refine q_end (hR := ?_)
  exact fun w hS => ⟨(), trivial, rfl, hS⟩

structure Cr where
  (free passing : Int) (ws inn : List Int)
structure CA where
  (oA wA iA : Option Addr) (oc wc ic : Nat)
abbrev crC (q : Qu) (a : QA) (x : CA) (ord : List Int) (s : Cr) : List Value := [.int .i64 q.opn, .int .i64 q.lo, .int .i64 q.hi, .int .i64 q.seats, .slice a.gA q.gs.length a.gc, .slice a.fA q.fs.length a.fc,
  .slice x.oA ord.length x.oc, .int .i64 s.free, .slice x.wA s.ws.length x.wc, .int .i64 s.passing, .slice x.iA s.inn.length x.ic]
abbrev crE (q : Qu) (a : QA) (x : CA) (ord : List Int) (s : Cr) (b : Nat) : List Ent := [.blk b 116 (crC q a x ord s), .own x.oA x.oc 3 1 ord.length (enI ord), wtE 3 x.wA s.ws.length x.wc s.ws, .own x.iA x.ic 3 1 s.inn.length (enI s.inn)]
def idxs (n : Nat) : List Int := (List.range n).map fun i : Nat => (i : Int)
theorem idxs_succ (n : Nat) : idxs (n + 1) = idxs n ++ [(n : Int)] := by simp [idxs, List.range_succ]
theorem idxs_len (n : Nat) : (idxs n).length = n := by simp [idxs]
theorem idxs_mem {n : Nat} {x : Int} : x ∈ idxs n ↔ 0 ≤ x ∧ x < n := by
  simp only [idxs, List.mem_map, List.mem_range]
  constructor
  · rintro ⟨i, hi, rfl⟩; omega
  · intro h; exact ⟨x.toNat, by omega, by omega⟩
def ordV (q : Qu) : List Int := sortV (ltQ q.gs) (idxs q.gs.length)
theorem ordV_mem {q : Qu} {x : Int} : x ∈ ordV q ↔ 0 ≤ x ∧ x < q.gs.length := by rw [ordV, sortV_mem, idxs_mem]
theorem ordV_len (q : Qu) : (ordV q).length = q.gs.length := by
  have := sortTo_len (ltQ q.gs) (idxs q.gs.length) (idxs q.gs.length).length (Nat.le_refl _)
  rw [ordV, sortV, this, idxs_len]
def open0 (q : Qu) (more : Int) : Cr := ⟨q.seats + more, 0, [], List.replicate q.gs.length (-1)⟩
structure OZ where
  (k : Nat) (oA iA : Option Addr) (oc ic : Nat)
theorem rep_succ (n : Nat) : List.replicate (n + 1) (-1 : Int) = List.replicate n (-1) ++ [-1] := List.replicate_succ'
set_option maxHeartbeats 1000000 in
theorem C_gate_open (q : Qu) (a : QA) (more : Int) (hq : q.Ok) (hn : q.gs.length ≤ 12) (hm : 0 ≤ more ∧ more ≤ 100000) (w : World) (h : QRd w q a) :
    CR Try.prog 59 [q.val a, .int .i64 more] w (fun _ : Nat × CA => True) (fun x => .pointer (some ⟨x.1, 0, none⟩)) (fun x => crE q a x.2 (ordV q) (open0 q more) x.1) := by
  obtain ⟨hg, hf, hgn, hfn⟩ := h
  have hs := hq.s
  refine ⟨en Try.func59 Try.ntmps59 (((St.init w).share (e := .ro a.gA 4 q.gs.length (encPt q.gs)) hg rfl rfl rfl).share (e := .ro a.fA 2 q.fs.length (encF q.fs)) hf rfl rfl rfl) (h := fun F => ?_)⟩
  refine sq (h := ?_)
  refine rg (h := ?_)
  refine bxA (h := fun b0 => ?_)
  refine WL.y (hy := asg) (h := ?_)
  refine nl (h := ?_)
  refine q_seq (h := ?_)
  refine sq (h := ?_)
  refine rg (h := ?_)
  refine WL.y (hy := (by first | exact ldA | exact ldEA)) (h := ?_)
  refine WL.y (hy := (by first | exact fa | exact faE)) (h := ?_)
  refine WL.y (hy := (by first | exact ld | exact ldE)) (h := ?_)
  refine WL.y (hy := mv) (h := ?_)
  refine WL.y (hy := addI (hb := by omega)) (h := ?_)
  refine WL.y (hy := bd) (h := ?_)
  refine bxA (h := fun b1 => ?_)
  refine WL.y (hy := asg) (h := ?_)
  refine nl (h := ?_)
  refine q_seq (h := ?_)
  refine sq (h := ?_)
  refine sq (h := ?_)
  refine WC.nilOwn 3 1 (h := ?_)
  refine WC.nilOwn 3 1 (h := ?_)
  refine rg (h := ?_)
  refine WL.y (hy := (by first | exact fa | exact faE)) (h := ?_)
  refine WL.y (hy := (by first | exact ld | exact ldE)) (h := ?_)
  refine WL.y (hy := lenS) (h := ?_)
  refine WL.y (hy := mv) (h := ?_)
  refine nl (h := ?_)
  refine q_seq (h := ?_)
  refine bk (h := ?_)
  refine lp (X := OZ) (I := fun z => z.k ≤ q.gs.length) (le := fun z => [(2, .pointer (some ⟨b0, 0, none⟩)), (5, .pointer (some ⟨b1, 0, none⟩)), (16, .int .i64 q.gs.length), (17, .int .i64 z.k)]) (Le := fun z => [.blk b0 53 (q.cells a), .blk b1 116 [.int .i64 q.opn, .int .i64 q.lo, .int .i64 q.hi, .int .i64 q.seats, .slice a.gA q.gs.length a.gc, .slice a.fA q.fs.length a.fc, .slice z.oA (idxs z.k).length z.oc, .int .i64 (q.seats + more), .slice none 0 0, .int .i64 0, .slice z.iA (List.replicate z.k (-1 : Int)).length z.ic], .own z.oA z.oc 3 1 (idxs z.k).length (enI (idxs z.k)), .own z.iA z.ic 3 1 (List.replicate z.k (-1 : Int)).length (enI (List.replicate z.k (-1))), .ro a.gA 4 q.gs.length (encPt q.gs), .ro a.fA 2 q.fs.length (encF q.fs)]) (μ := fun z => q.gs.length - z.k) ⟨0, none, none, 0, 0⟩ (Nat.zero_le _) (by repeat (first | exact trivial | refine ⟨rfl, ?_⟩)) (by repeat (first | exact SubL.nil | (apply SubL.cons; (repeat (first | exact At.here | apply At.there))) | exact SubL.refl _ | apply SubL.skip)) (fun z hz => ?_)
  refine sq (h := ?_)
  refine rg (h := ?_)
  refine WL.y (hy := lss) (h := ?_)
  refine nl (h := ?_)
  refine q_seq (h := ?_)
  refine sq (h := ?_)
  refine cd (by exact rfl) (fun h0 => ?_) (fun h0 => ?_)
  · skip
    have hkn : z.k < q.gs.length := by simp only [decide_eq_true_eq] at h0; omega
    have hl1 : (idxs (z.k + 1)).length = (idxs z.k).length + 1 := by simp [idxs_len]
    have hl2 : enI (idxs (z.k + 1)) = enI (idxs z.k) ++ [[.int .i64 z.k]] := by rw [idxs_succ, enI_app]
    have hl3 : (List.replicate (z.k + 1) (-1 : Int)).length = (List.replicate z.k (-1 : Int)).length + 1 := by simp
    have hl4 : enI (List.replicate (z.k + 1) (-1)) = enI (List.replicate z.k (-1)) ++ [[.int .i64 (-1)]] := by rw [rep_succ, enI_app]
    have hil := idxs_len z.k
    have hrl : (List.replicate z.k (-1 : Int)).length = z.k := by simp
    refine skp (h := ?_)
    refine q_seq (h := ?_)
    refine sq (h := ?_)
    refine bk (h := ?_)
    refine sq (h := ?_)
    refine rg (h := ?_)
    refine WL.y (hy := mv) (h := ?_)
    refine WL.y (hy := asg) (h := ?_)
    refine nl (h := ?_)
    refine q_seq (h := ?_)
    refine sq (h := ?_)
    refine rg (h := ?_)
    refine WL.y (hy := mv) (h := ?_)
    refine WL.y (hy := mv) (h := ?_)
    refine WL.y (hy := nck) (h := ?_)
    refine WL.y (hy := (by first | exact fa | exact faE)) (h := ?_)
    refine WL.y (hy := (by first | exact ld | exact ldE)) (h := ?_)
    refine WL.y (hy := mv) (h := ?_)
    refine bs (h := fun b2 => ?_)
    refine ap (A := z.oA) (h := fun A1 c1 => ?_)
    refine WL.y (hy := nck) (h := ?_)
    refine WL.y (hy := (by first | exact fa | exact faE)) (h := ?_)
    first | refine st (h := ?_) | refine stE (h := ?_)
    refine nl (h := ?_)
    refine q_seq (h := ?_)
    refine rg (h := ?_)
    refine WL.y (hy := mv) (h := ?_)
    refine WL.y (hy := mv) (h := ?_)
    refine WL.y (hy := nck) (h := ?_)
    refine WL.y (hy := (by first | exact fa | exact faE)) (h := ?_)
    refine WL.y (hy := (by first | exact ld | exact ldE)) (h := ?_)
    refine bs (h := fun b3 => ?_)
    refine ap (A := z.iA) (h := fun A2 c2 => ?_)
    refine WL.y (hy := nck) (h := ?_)
    refine WL.y (hy := (by first | exact fa | exact faE)) (h := ?_)
    first | refine st (h := ?_) | refine stE (h := ?_)
    refine nl (h := ?_)
    refine q_blk_norm (h := ?_)
    refine q_seq (h := ?_)
    refine rg (h := ?_)
    refine WL.y (hy := addI) (h := ?_)
    refine WL.y (hy := mv) (h := ?_)
    refine nl (h := ?_)
    refine rn (x := z) ⟨z.k + 1, A1, A2, c1, c2⟩ (by dsimp only; omega) (by dsimp only; omega) (by repeat (first | exact trivial | refine ⟨rfl, ?_⟩)) (by dsimp only; rw [hl1, hl2, hl3, hl4]; repeat (first | exact SubL.nil | (apply SubL.cons; (repeat (first | exact At.here | apply At.there))) | exact SubL.refl _ | apply SubL.skip))
  · skip
    have hkn : z.k = q.gs.length := by simp only [decide_eq_false_iff_not] at h0; omega
    rw [hkn]
    refine et (h := ?_)
    refine q_then_exit (h := ?_)
    refine q_then_exit (h := ?_)
    refine q_blk_hit (h := ?_)
    refine q_seq (h := ?_)
    refine sq (h := ?_)
    refine rg (h := ?_)
    refine WL.y (hy := mv) (h := ?_)
    refine WL.y (hy := nck) (h := ?_)
    refine WL.y (hy := (by first | exact fa | exact faE)) (h := ?_)
    refine WL.y (hy := (by first | exact ld | exact ldE)) (h := ?_)
    refine WL.y (hy := mkf) (h := ?_)
    refine clT (hc := T_SortFunc q a b0 hq (idxs q.gs.length) z.oA (idxs q.gs.length).length z.oc rfl (by rw [idxs_len]; exact hn) (fun x hx => idxs_mem.1 hx)) (hs := (by repeat (first | exact Spl.nil | (apply Spl.cons; (repeat (first | exact At.here | apply At.there)))))) (h := fun _ _ => ?_)
    refine nl (h := ?_)
    refine q_seq (h := ?_)
    refine sq (h := ?_)
    refine rg (h := ?_)
    refine WL.y (hy := mv) (h := ?_)
    refine WL.y (hy := asg) (h := ?_)
    refine nl (h := ?_)
    refine q_seq (h := ?_)
    refine rtn (h := ?_)
    refine q_ret (hR := ?_)
    exact fun w hS => ⟨(b1, ⟨z.oA, none, z.iA, z.oc, 0, z.ic⟩), trivial, rfl, by
      have hS2 := hS.wtNil 3
      have e1 : (ordV q).length = (idxs q.gs.length).length := by rw [ordV_len, idxs_len]
      dsimp only [crE, crC, open0]
      rw [e1]
      exact hS2.sub (by repeat (first | exact SubL.nil | (apply SubL.cons; (repeat (first | exact At.here | apply At.there))) | exact SubL.refl _ | apply SubL.skip))⟩
end Go.Proofs.Ytngelilffleimaa

namespace Go.Proofs.Ytngelilffleimaa
open Go Go.RowKit

theorem Spl.there {L Lp R : List Ent} {e : Ent} (h : Spl L Lp R) : Spl (e :: L) Lp (e :: R) := by
  induction h with
  | nil => exact .nil
  | cons h _ ih => exact .cons (.there h) ih
theorem rd_blk {g : Nat} {T : TypeId} {pre sp : List Value} {ws : List Int} {n : Nat} (hn : ws.length = n) (hm : n ≤ 9223372036854775807) (w : World) (h : (Ent.blk g T (pre ++ (ws.map vI ++ sp))).ok w) : Rd w (some ⟨g, pre.length, none⟩) 1 n (enI ws) :=
  rd_wt (T := T) (cap := n) w ⟨hn, .inr ⟨g, pre, sp, rfl, h, Nat.le_refl _, by omega, hm⟩⟩
theorem pe_lit (g o i : Nat) : pe (some ⟨g, o, none⟩) 1 i 0 = .pointer (some ⟨g, o + i, none⟩) := by simp [pe, add_lit]
theorem set_view (pre sp : List Value) (cur : List Int) {i : Nat} (x : Int) (hi : i < cur.length) : (pre ++ (cur.map vI ++ sp)).set (pre.length + i) (.int .i64 x) = pre ++ ((cur.set i x).map vI ++ sp) := by
  rw [List.set_append_right _ _ (by omega), Nat.add_sub_cancel_left, List.set_append_left _ _ (by simpa using hi), List.map_set]
  rfl
theorem clear_view (pre sp : List Value) (cur : List Int) {i n : Nat} (hn : cur.length = n) (hi : i ≤ n) : putAll (pre ++ (cur.map vI ++ sp)) (pre.length + i) (List.replicate (n - i) (.int .i64 0)) = pre ++ ((cur.take i).map vI ++ (List.replicate (n - i) (.int .i64 0) ++ sp)) := by
  have h : pre ++ (cur.map vI ++ sp) = (pre ++ (cur.take i).map vI) ++ ((cur.drop i).map vI ++ sp) := by
    rw [List.append_assoc, ← List.append_assoc ((cur.take i).map vI), ← List.map_append, List.take_append_drop]
  have hm := putAll_mid (List.replicate (n - i) (Value.int .i64 0)) (pre ++ (cur.take i).map vI) ((cur.drop i).map vI) sp (by simp [hn])
  rw [List.length_append, List.length_map, List.length_take, Nat.min_eq_left (by omega)] at hm
  rw [h, hm]
  simp

theorem Tr.frame1 {P : Program} {f : FuncId} {vs : List Value} {Lpre : List Ent} {X : Type} {φ : X → Prop} {val : X → Value} {post : X → List Ent} {E : Ent} (h : Tr P f vs Lpre φ val post) : Tr P f vs (E :: Lpre) φ val (fun x => E :: post x) :=
  ⟨fun w0 w R hst => Calls.mono (h.out w0 w (E :: R) (hst.sub (SubL.mid _ _))) fun e w' ⟨x, hx, he, hs⟩ => ⟨x, hx, he, hs.sub (SubL.cons (At.app _ _) (SubL.refl _))⟩⟩
section rules
variable {F : Fence} {P : Program} {ops : Array Oper} {Q : Exit → Act → World → Prop} {rest : List Oper} {n : Nat} {D : List Deferred} {l : Env} {w0 : World} {L M : List Ent}
variable {d : Nat} {ty : TypeId} {pos : String} {aft : Array Edge}
theorem ap00 {s x : Operand} {t T : TypeId} (hT : SliceTy P t T := by infer_instance) {agg : Bool} {size bytes : Nat} {z : Value} {zl : List Value} (hE : Ty P T agg size bytes z zl := by infer_instance) {A A2 : Option Addr} {c c2 m : Nat} (hm : m ≤ c)
    (hs : ev l s = some (.slice A m c) := by exact rfl) (hA : A = none → m = 0 ∧ c = 0) (hx : ev l x = some (.slice A2 0 c2) := by exact rfl) (hd : Nat.blt d n = true := by rfl)
    (h : WL F P ops Q rest n D ((d, .slice A m c) :: l) w0 L) :
    WL F P ops Q (⟨some d, .call { callee := .builtin .append, args := #[s, x], argTypes := #[t, t] }, ty, pos, aft, none⟩ :: rest) n D l w0 L :=
  WL.value (X := Unit) (φ := fun _ => True) (val := fun _ => .slice A m c) (L' := fun _ => L) (by simp) hd (fun ac w hfr hst => by
    refine ⟨(), w, trivial, ?_, hst⟩
    have hfc : (Builtin.firstCells size 0 (.slice A2 0 c2)).run P w = .ok #[] w := by
      cases A2 with
      | none => simp [Builtin.firstCells]
      | some a => exact run_firstCells_some (P := P) w size 0 a 0 c2 [] (by simp) (fun j v hj => by simp at hj)
    cases A with
    | none =>
      obtain ⟨rfl, rfl⟩ := hA rfl
      simp [execOp, resolve, invoke, builtin, hfr.eval hs, hfr.eval hx, Builtin.append_, run_underlying hT.und, run_sizeOf hE, Builtin.lenOf, hfc]
    | some a => simp [execOp, resolve, invoke, builtin, hfr.eval hs, hfr.eval hx, Builtin.append_, run_underlying hT.und, run_sizeOf hE, Builtin.lenOf, hm, hfc, storeCells]) (fun _ _ => h)
theorem slB {x : Operand} {t T : TypeId} (hT : SliceTy P t T := by infer_instance) {bytes : Nat} {z : Value} {zl : List Value} {agg : Bool} (hE : Ty P T agg 1 bytes z zl := by infer_instance) {g o m cap : Nat} {lo : Operand} {k : IntKind} (lo' : Nat) (hlo : lo' ≤ m) (hlc : lo' < cap)
    (hx : ev l x = some (.slice (some ⟨g, o, none⟩) m cap) := by exact rfl) (hh : ev l lo = some (.int k (lo' : Int)) := by exact rfl) (hmc : m ≤ cap := by omega) : Yd P n D l w0 L (.slice t x (some lo) none none) (.slice (some ⟨g, o + lo', none⟩) (m - lo') (cap - lo')) := by
  have h := slV (P := P) (n := n) (D := D) (w0 := w0) (L := L) hT hE (A := some ⟨g, o, none⟩) (m := m) (cap := cap) (lo := some lo) (hi := none) lo' m hx (.inl ⟨rfl, rfl⟩) (.inr ⟨lo, k, lo', rfl, hh, by omega, by omega, by omega⟩)
  rw [if_neg (by omega)] at h
  have e : (some (⟨g, o, none⟩ : Addr)).map (·.add (lo' * 1)) = some ⟨g, o + lo', none⟩ := by rw [Option.map_some, add_lit, Nat.mul_one]
  rw [e] at h
  exact h
theorem slA {x : Operand} {t T : TypeId} (hT : SliceTy P t T := by infer_instance) {size bytes : Nat} {z : Value} {zl : List Value} {agg : Bool} (hE : Ty P T agg size bytes z zl := by infer_instance) {A : Option Addr} {m cap : Nat} {lo : Operand} {k : IntKind} (lo' : Nat) (hlo : lo' ≤ m)
    (hx : ev l x = some (.slice A m cap) := by exact rfl) (hh : ev l lo = some (.int k (lo' : Int)) := by exact rfl) : Yd P n D l w0 L (.slice t x (some lo) none none) (.slice (if cap = lo' then A else A.map (·.add (lo' * size))) (m - lo') (cap - lo')) :=
  slV (P := P) (n := n) (D := D) (w0 := w0) (L := L) hT hE (A := A) (m := m) (cap := cap) (lo := some lo) (hi := none) lo' m hx (.inl ⟨rfl, rfl⟩) (.inr ⟨lo, k, lo', rfl, hh, by omega, by omega, by omega⟩)
theorem WQ.turn {Q' : Exit → Act → World → Prop} {e : Exit} {E E' : Ent} (hst : ∀ w, St w0 w (E :: M) → St w0 w (E' :: M)) (ha : At L E M) (h : WQ F P Q' e n D l w0 (E' :: M)) : WQ F P Q' e n D l w0 L :=
  fun hF a w hfr hs => h hF a w hfr (hst w (hs.pull ha))
theorem WC.turn {c : Code} {E E' : Ent} (hst : ∀ w, St w0 w (E :: M) → St w0 w (E' :: M)) (ha : At L E M) (h : WC F P c Q n D l w0 (E' :: M)) : WC F P c Q n D l w0 L :=
  fun hF a w hfr hs => h hF a w hfr (hst w (hs.pull ha))
end rules
end Go.Proofs.Ytngelilffleimaa

namespace Go.Proofs.Ytngelilffleimaa
open Go Go.RowKit

def goneV (gs : List Pt) (minute i : Int) : Bool := match gs[i.toNat]? with
  | some g => win g.quits 0 minute
  | none => false
abbrev goneL (q : Qu) (a : QA) (x : CA) (ord : List Int) (s : Cr) (b b2 b3 : Nat) (minute : Int) : List Ent := [.blk b2 113 [.pointer (some ⟨b, 0, none⟩)], .blk b3 3 [.int .i64 minute], .blk b 116 (crC q a x ord s), .ro a.gA 4 q.gs.length (encPt q.gs)]
theorem T_gone (q : Qu) (a : QA) (x : CA) (ord : List Int) (s : Cr) (b b2 b3 : Nat) (minute i : Int) (hi : 0 ≤ i ∧ i < q.gs.length) :
    Tr Try.prog 74 [.int .i64 i, .pointer (some ⟨b2, 0, none⟩), .pointer (some ⟨b3, 0, none⟩)] (goneL q a x ord s b b2 b3 minute) (fun _ : Unit => True) (fun _ => .bool (goneV q.gs minute i)) (fun _ => goneL q a x ord s b b2 b3 minute) := by
  refine ⟨fun w0 w R hst => ?_⟩
  obtain ⟨g, hg⟩ : ∃ g, q.gs[i.toNat]? = some g := ⟨_, List.getElem?_eq_getElem (by omega)⟩
  have hge := encPt_at hg
  have hE : goneV q.gs minute i = win g.quits 0 minute := by rw [goneV, hg]
  refine en Try.func74 Try.ntmps74 hst (h := fun F => ?_)
  refine sq (h := ?_)
  refine rg (h := ?_)
  refine WL.y (hy := asg) (h := ?_)
  refine nl (h := ?_)
  refine q_seq (h := ?_)
  refine sq (h := ?_)
  refine rgD (by kernel_rfl) [(1000000, .blk b2 113 [.pointer (some ⟨b, 0, none⟩)]), (1000000, .blk b3 3 [.int .i64 minute]), (1000000, .blk b 116 (crC q a x ord s)), (1000000, .ro a.gA 4 q.gs.length (encPt q.gs))] (by repeat (first | exact HS.nil | (apply HS.keep; (repeat (first | exact At.here | apply At.there))) | (apply HS.ro; (repeat (first | exact Rds.ro | exact Rds.own | apply Rds.there))))) (h := ?_)
  refine tk 0 (hy := (by first | exact ld | exact ldE)) (h := ?_)
  refine tk 1 (hy := nck) (h := ?_)
  refine tk 2 (hy := (by first | exact fa | exact faE)) (h := ?_)
  refine tk 3 (hy := (by first | exact fa | exact faE)) (h := ?_)
  refine tk 4 (hy := (by first | exact ld | exact ldE)) (h := ?_)
  refine tk 5 (hy := mv) (h := ?_)
  refine tk 6 (hy := ix (A := a.gA) (m := q.gs.length)) (h := ?_)
  refine tk 7 (hy := (by first | exact fa | exact faE)) (h := ?_)
  refine tk 8 (hy := ldE (A := a.gA) (hk := hge)) (h := ?_)
  refine tk 9 (hy := (by first | exact ld | exact ldE)) (h := ?_)
  refine one 10 (h := ?_)
  refine cl0 (hc := fun w hS => C_gate_within ..) (h := ?_)
  refine nx (h := ?_)
  refine tk 11 (hy := asg) (h := ?_)
  refine dn (h := ?_)
  refine q_seq (h := ?_)
  refine rtn (h := ?_)
  refine q_ret (hR := ?_)
  rw [hE]
  exact fun w hS => ⟨(), trivial, rfl, hS.sub (by repeat (first | exact SubL.nil | (apply SubL.cons; (repeat (first | exact At.here | apply At.there))) | exact SubL.refl _ | apply SubL.skip))⟩

theorem T_IndexInt {E : Ent} {A : Option Addr} {n c : Nat} {ws : List Int} (hE : ∀ w, E.ok w → Rd w A 1 n (enI ws)) {g : FuncId} (hg : FnOk Try.prog g) (fi cap : List Value) (Lp : List Ent) (p : Int → Bool) (hn : n ≤ 9223372036854775807) (hlen : ws.length = n)
    (hp : ∀ x ∈ ws, Tr Try.prog g (fi ++ [.int .i64 x] ++ cap) Lp (fun _ : Unit => True) (fun _ => .bool (p x)) (fun _ => Lp)) :
    Tr Try.prog 67 [.slice A n c, .func (.func g) fi.toArray cap.toArray] (E :: Lp) (Fst (pAt ws p) n) (fun j => .int .i64 j) (fun _ => E :: Lp) := by
  refine ⟨fun w0 w R hst => ?_⟩
  refine en Try.func67 Try.ntmps67 hst (h := fun F => ?_)
  refine sq (h := ?_)
  refine rg (h := ?_)
  refine WL.y (hy := asg) (h := ?_)
  refine nl (h := ?_)
  refine q_seq (h := ?_)
  refine sq (h := ?_)
  refine sq (h := ?_)
  refine rg (h := ?_)
  refine WL.y (hy := mv) (h := ?_)
  refine WL.y (hy := lenS) (h := ?_)
  refine WL.y (hy := mv) (h := ?_)
  refine nl (h := ?_)
  refine q_seq (h := ?_)
  refine bk (h := ?_)
  refine lp (X := Nat) (I := fun k => k ≤ n ∧ ∀ i, i < k → pAt ws p i = false) (le := fun k => [(0, .slice A n c), (1, .func (.func g) fi.toArray cap.toArray), (7, .int .i64 n), (8, .int .i64 k)]) (Le := fun _ => E :: (Lp ++ R)) (μ := fun k => n - k) 0 ⟨by omega, fun i hi => by omega⟩ (by repeat (first | exact trivial | refine ⟨rfl, ?_⟩)) (SubL.refl _) (fun k hk => ?_)
  obtain ⟨hk, hall⟩ := hk
  refine sq (h := ?_)
  refine rg (h := ?_)
  refine WL.y (hy := lss) (h := ?_)
  refine nl (h := ?_)
  refine q_seq (h := ?_)
  refine sq (h := ?_)
  refine cd (by exact rfl) (fun h0 => ?_) (fun h0 => ?_)
  · skip
    have hkn : k < n := by simp only [decide_eq_true_eq] at h0; omega
    obtain ⟨x, hx⟩ : ∃ x, ws[k]? = some x := ⟨_, List.getElem?_eq_getElem (by omega)⟩
    have hxe := enI_at hx
    refine skp (h := ?_)
    refine q_seq (h := ?_)
    refine sq (h := ?_)
    refine bk (h := ?_)
    refine sq (h := ?_)
    refine rg (h := ?_)
    refine WL.y (hy := mv) (h := ?_)
    refine WL.y (hy := asg) (h := ?_)
    refine nl (h := ?_)
    refine q_seq (h := ?_)
    refine sq (h := ?_)
    refine rg (h := ?_)
    refine WL.y (hy := mv) (h := ?_)
    refine WL.y (hy := mv) (h := ?_)
    refine WL.y (hy := mv) (h := ?_)
    refine WL.y (hy := ix (A := A) (m := n) (hr := Rds.any hE)) (h := ?_)
    refine WL.y (hy := ldE (A := A) (hr := Rds.any hE) (hk := hxe)) (h := ?_)
    refine clfT hg (fi := fi) (cap := cap) (by exact rfl) (by repeat (first | exact Evs.nil | (apply Evs.cons; exact rfl))) (hp x (List.mem_of_getElem? hx)) rfl (Spl.there (Spl.app _ _)) (h := fun _ _ => ?_)
    refine WL.subL (SubL.cons (At.app _ _) (SubL.refl _)) ?_
    refine nl (h := ?_)
    refine q_seq (h := ?_)
    refine cd (by exact rfl) (fun h1 => ?_) (fun h1 => ?_)
    · skip
      refine sq (h := ?_)
      refine rg (h := ?_)
      refine WL.y (hy := mv) (h := ?_)
      refine WL.y (hy := asg) (h := ?_)
      refine nl (h := ?_)
      refine q_seq (h := ?_)
      refine rtn (h := ?_)
      refine q_blk_ret (h := ?_)
      refine q_then_ret (h := ?_)
      refine q_then_ret (h := ?_)
      refine q_blk_ret (h := ?_)
      refine q_then_ret (h := ?_)
      refine q_ret (hR := ?_)
      exact fun w hS => ⟨_, .inl ⟨k, hkn, rfl, by rw [pAt_eq hx]; assumption, hall⟩, rfl, hS⟩
    · skip
      refine skp (h := ?_)
      refine q_blk_norm (h := ?_)
      refine q_seq (h := ?_)
      refine rg (h := ?_)
      refine WL.y (hy := addI) (h := ?_)
      refine WL.y (hy := mv) (h := ?_)
      refine nl (h := ?_)
      refine rn (k + 1) ⟨by omega, fun i hi => ?_⟩ (by omega) (by repeat (first | exact trivial | refine ⟨rfl, ?_⟩)) (SubL.refl _)
      rcases Nat.lt_succ_iff_lt_or_eq.1 hi with h | rfl
      · exact hall i h
      · rw [pAt_eq hx]; assumption
  · skip
    have hkn : k = n := by simp only [decide_eq_false_iff_not] at h0; omega
    refine et (h := ?_)
    refine q_then_exit (h := ?_)
    refine q_then_exit (h := ?_)
    refine q_blk_hit (h := ?_)
    refine q_seq (h := ?_)
    refine sq (h := ?_)
    refine rg (h := ?_)
    refine WL.y (hy := asg) (h := ?_)
    refine nl (h := ?_)
    refine q_seq (h := ?_)
    refine rtn (h := ?_)
    refine q_ret (hR := ?_)
    exact fun w hS => ⟨_, .inr ⟨rfl, by subst hkn; exact hall⟩, rfl, hS⟩

structure DZ where
  (i j : Nat) (cur : List Int)
theorem filter_take_succ {α : Type} {xs : List α} {j : Nat} {x : α} (p : α → Bool) (h : xs[j]? = some x) : (xs.take (j + 1)).filter p = (xs.take j).filter p ++ (bif p x then [x] else []) := by
  rw [List.take_add_one, h, List.filter_append]
  cases hp : p x <;> simp [hp]
set_option maxHeartbeats 1000000 in
theorem T_DeleteFunc {g : FuncId} (hg : FnOk Try.prog g) (fi cap : List Value) (Lp : List Ent) (p : Int → Bool) (b : Nat) (pre sp : List Value) (ws : List Int) (n c : Nat) (hlen : ws.length = n) (hn : n ≤ 1000000) (hnc : n ≤ c)
    (hp : ∀ x ∈ ws, Tr Try.prog g (fi ++ [.int .i64 x] ++ cap) Lp (fun _ : Unit => True) (fun _ => .bool (p x)) (fun _ => Lp)) :
    Tr Try.prog 75 [.slice (some ⟨b, pre.length, none⟩) n c, .func (.func g) fi.toArray cap.toArray] (.blk b 3 (pre ++ (ws.map vI ++ sp)) :: Lp) (fun sp' : List Value => (ws.filter fun x => !p x).length + sp'.length = n + sp.length)
      (fun _ => .slice (some ⟨b, pre.length, none⟩) (ws.filter fun x => !p x).length c) (fun sp' => .blk b 3 (pre ++ ((ws.filter fun x => !p x).map vI ++ sp')) :: Lp) := by
  refine ⟨fun w0 w R hst => ?_⟩
  refine en Try.func75 Try.ntmps75 hst (h := fun F => ?_)
  refine sq (h := ?_)
  refine rg (h := ?_)
  refine WL.y (hy := asg) (h := ?_)
  refine nl (h := ?_)
  refine q_seq (h := ?_)
  refine sq (h := ?_)
  refine rg (h := ?_)
  refine WL.y (hy := mv) (h := ?_)
  refine WL.y (hy := mv) (h := ?_)
  refine clT (hc := T_IndexInt (A := some ⟨b, pre.length, none⟩) (c := c) (ws := ws) (fun w h => rd_blk hlen (by omega) w h) hg fi cap Lp p (by omega) hlen hp) (hs := Spl.cons .here (Spl.app _ _)) (h := fun x0 hx0 => ?_)
  refine WL.y (hy := asg) (h := ?_)
  refine nl (h := ?_)
  refine q_seq (h := ?_)
  refine sq (h := ?_)
  refine sq (h := ?_)
  refine rg (h := ?_)
  refine WL.y (hy := mv) (h := ?_)
  refine WL.y (hy := eql) (h := ?_)
  refine nl (h := ?_)
  refine q_seq (h := ?_)
  refine cd (by exact rfl) (fun h0 => ?_) (fun h0 => ?_)
  · skip
    have hall : ws.filter (fun x => !p x) = ws := by
      rcases hx0 with ⟨k0, hk0, rfl, _⟩ | ⟨-, hall⟩
      · exact absurd (of_decide_eq_true h0) (by omega)
      · refine List.filter_eq_self.2 fun x hx => ?_
        obtain ⟨k, hk, rfl⟩ := List.getElem_of_mem hx
        have := hall k (by omega)
        rw [pAt_eq (List.getElem?_eq_getElem hk)] at this
        rw [this]; rfl
    refine sq (h := ?_)
    refine rg (h := ?_)
    refine WL.y (hy := mv) (h := ?_)
    refine WL.y (hy := asg) (h := ?_)
    refine nl (h := ?_)
    refine q_seq (h := ?_)
    refine rtn (h := ?_)
    refine q_then_ret (h := ?_)
    refine q_ret (hR := ?_)
    rw [hall]
    exact fun w hS => ⟨sp, by rw [hlen], by rw [hlen]; rfl, hS⟩
  · skip
    obtain ⟨k0, hk0, rfl, hpk, hbef⟩ : ∃ k0 : Nat, k0 < n ∧ x0 = k0 ∧ pAt ws p k0 = true ∧ ∀ i, i < k0 → pAt ws p i = false := by
      rcases hx0 with h | ⟨rfl, _⟩
      · exact h
      · exact absurd h0 (by decide)
    have htk : (ws.take k0).filter (fun x => !p x) = ws.take k0 := by
      refine List.filter_eq_self.2 fun x hx => ?_
      obtain ⟨k, hk, rfl⟩ := List.getElem_of_mem hx
      have hkl : k < k0 := by rw [List.length_take] at hk; omega
      have := hbef k hkl
      rw [pAt_eq (List.getElem?_eq_getElem (by omega))] at this
      rw [List.getElem_take, this]; rfl
    have htk1 : (ws.take (k0 + 1)).filter (fun x => !p x) = ws.take k0 := by
      have hx : ws[k0]? = some ws[k0] := List.getElem?_eq_getElem (by omega)
      rw [pAt_eq hx] at hpk
      rw [filter_take_succ _ hx, htk, hpk]; simp
    refine skp (h := ?_)
    refine q_seq (h := ?_)
    refine sq (h := ?_)
    refine sq (h := ?_)
    refine rg (h := ?_)
    refine WL.y (hy := mv) (h := ?_)
    refine WL.y (hy := addI) (h := ?_)
    refine WL.y (hy := asg) (h := ?_)
    refine nl (h := ?_)
    refine q_seq (h := ?_)
    refine bk (h := ?_)
    refine lp (X := DZ) (I := fun z => z.i + 1 ≤ z.j ∧ z.j ≤ n ∧ z.cur.length = n ∧ z.cur.take z.i = (ws.take z.j).filter (fun x => !p x) ∧ z.cur.drop z.j = ws.drop z.j) (le := fun z => [(0, .slice (some ⟨b, pre.length, none⟩) n c), (1, .func (.func g) fi.toArray cap.toArray), (5, .int .i64 z.i), (6, .int .i64 z.j)]) (Le := fun z => .blk b 3 (pre ++ (z.cur.map vI ++ sp)) :: (Lp ++ R)) (μ := fun z => n - z.j) ⟨k0, k0 + 1, ws⟩ ⟨Nat.le_refl _, by dsimp only; omega, hlen, htk1.symm, rfl⟩ (by repeat (first | exact trivial | refine ⟨rfl, ?_⟩)) (SubL.refl _) (fun z hz => ?_)
    obtain ⟨hz0, hz1, hz2, hz3, hz4⟩ := hz
    refine sq (h := ?_)
    refine sq (h := ?_)
    refine rg (h := ?_)
    refine WL.y (hy := mv) (h := ?_)
    refine WL.y (hy := mv) (h := ?_)
    refine WL.y (hy := lenS) (h := ?_)
    refine WL.y (hy := lss) (h := ?_)
    refine nl (h := ?_)
    refine q_seq (h := ?_)
    refine cd (by exact rfl) (fun h1 => ?_) (fun h1 => ?_)
    · skip
      have hkn : z.j < n := by simp only [decide_eq_true_eq] at h1; omega
      obtain ⟨x, hx⟩ : ∃ x, ws[z.j]? = some x := ⟨_, List.getElem?_eq_getElem (by omega)⟩
      have hcx : z.cur[z.j]? = some x := by
        have h1 : (z.cur.drop z.j)[0]? = (ws.drop z.j)[0]? := by rw [hz4]
        rw [List.getElem?_drop, List.getElem?_drop, Nat.add_zero] at h1
        rw [h1, hx]
      have hxe := enI_at hcx
      have hfs := filter_take_succ (fun x => !p x) hx
      have hE := fun w h => rd_blk (g := b) (T := 3) (pre := pre) (sp := sp) (ws := z.cur) hz2 (by omega) w h
      refine skp (h := ?_)
      refine q_seq (h := ?_)
      refine sq (h := ?_)
      refine bk (h := ?_)
      refine sq (h := ?_)
      refine rg (h := ?_)
      refine WL.y (hy := mv) (h := ?_)
      refine WL.y (hy := mv) (h := ?_)
      refine WL.y (hy := ix (A := some ⟨b, pre.length, none⟩) (m := n) (hr := Rds.any hE)) (h := ?_)
      refine WL.y (hy := ldE (A := some ⟨b, pre.length, none⟩) (hr := Rds.any hE) (hk := hxe)) (h := ?_)
      refine WL.y (hy := asg) (h := ?_)
      refine nl (h := ?_)
      refine q_seq (h := ?_)
      refine sq (h := ?_)
      refine rg (h := ?_)
      refine WL.y (hy := mv) (h := ?_)
      refine WL.y (hy := mv) (h := ?_)
      refine clfT hg (fi := fi) (cap := cap) (by exact rfl) (by repeat (first | exact Evs.nil | (apply Evs.cons; exact rfl))) (hp x (List.mem_of_getElem? hx)) rfl (Spl.there (Spl.app _ _)) (h := fun _ _ => ?_)
      refine WL.subL (SubL.cons (At.app _ _) (SubL.refl _)) ?_
      refine WL.y (hy := notB) (h := ?_)
      refine nl (h := ?_)
      refine q_seq (h := ?_)
      refine cd (by exact rfl) (fun h2 => ?_) (fun h2 => ?_)
      · skip
        have hpx : p x = false := by simpa using h2
        refine sq (h := ?_)
        refine rg (h := ?_)
        refine WL.y (hy := mv) (h := ?_)
        refine WL.y (hy := mv) (h := ?_)
        refine WL.y (hy := mv) (h := ?_)
        refine WL.y (hy := Yd.to (ix (A := some ⟨b, pre.length, none⟩) (m := n) (hr := Rds.any hE)) (pe_lit ..)) (h := ?_)
        refine stI (o := pre.length + z.i) (cs := pre ++ (z.cur.map vI ++ sp)) (ha := .here) (ho := by simp; omega) (h := ?_)
        rw [set_view pre sp z.cur x (by omega)]
        refine nl (h := ?_)
        refine q_seq (h := ?_)
        refine rg (h := ?_)
        refine WL.y (hy := mv) (h := ?_)
        refine WL.y (hy := addI) (h := ?_)
        refine WL.y (hy := asg) (h := ?_)
        refine nl (h := ?_)
        refine q_blk_norm (h := ?_)
        refine q_seq (h := ?_)
        refine rg (h := ?_)
        refine WL.y (hy := mv) (h := ?_)
        refine WL.y (hy := addI) (h := ?_)
        refine WL.y (hy := asg) (h := ?_)
        refine nl (h := ?_)
        first
          | (refine rn (x := z) ⟨z.i + 1, z.j + 1, z.cur.set z.i x⟩ ⟨by dsimp only; omega, by dsimp only; omega, by simpa using hz2, ?_, ?_⟩ (by dsimp only; omega) (by repeat (first | exact trivial | refine ⟨rfl, ?_⟩)) (SubL.refl _)
             · show (z.cur.set z.i x).take (z.i + 1) = (ws.take (z.j + 1)).filter _
               rw [hfs, hpx, ← hz3, List.take_add_one, List.getElem?_set_self (by omega), List.take_set_of_le (Nat.le_refl _)]; rfl
             · show (z.cur.set z.i x).drop (z.j + 1) = ws.drop (z.j + 1)
               rw [List.drop_set_of_lt (by omega)]
               have := congrArg (List.drop 1) hz4
               rwa [List.drop_drop, List.drop_drop] at this)
          | (refine rn (x := z) ⟨z.i, z.j + 1, z.cur⟩ ⟨by dsimp only; omega, by dsimp only; omega, hz2, ?_, ?_⟩ (by dsimp only; omega) (by repeat (first | exact trivial | refine ⟨rfl, ?_⟩)) (SubL.refl _)
             · show z.cur.take z.i = (ws.take (z.j + 1)).filter _
               rw [hfs, hpx, ← hz3]; simp
             · show z.cur.drop (z.j + 1) = ws.drop (z.j + 1)
               have := congrArg (List.drop 1) hz4
               rwa [List.drop_drop, List.drop_drop] at this)
      · skip
        have hpx : p x = true := by simpa using h2
        refine skp (h := ?_)
        refine q_blk_norm (h := ?_)
        refine q_seq (h := ?_)
        refine rg (h := ?_)
        refine WL.y (hy := mv) (h := ?_)
        refine WL.y (hy := addI) (h := ?_)
        refine WL.y (hy := asg) (h := ?_)
        refine nl (h := ?_)
        first
          | (refine rn (x := z) ⟨z.i + 1, z.j + 1, z.cur.set z.i x⟩ ⟨by dsimp only; omega, by dsimp only; omega, by simpa using hz2, ?_, ?_⟩ (by dsimp only; omega) (by repeat (first | exact trivial | refine ⟨rfl, ?_⟩)) (SubL.refl _)
             · show (z.cur.set z.i x).take (z.i + 1) = (ws.take (z.j + 1)).filter _
               rw [hfs, hpx, ← hz3, List.take_add_one, List.getElem?_set_self (by omega), List.take_set_of_le (Nat.le_refl _)]; rfl
             · show (z.cur.set z.i x).drop (z.j + 1) = ws.drop (z.j + 1)
               rw [List.drop_set_of_lt (by omega)]
               have := congrArg (List.drop 1) hz4
               rwa [List.drop_drop, List.drop_drop] at this)
          | (refine rn (x := z) ⟨z.i, z.j + 1, z.cur⟩ ⟨by dsimp only; omega, by dsimp only; omega, hz2, ?_, ?_⟩ (by dsimp only; omega) (by repeat (first | exact trivial | refine ⟨rfl, ?_⟩)) (SubL.refl _)
             · show z.cur.take z.i = (ws.take (z.j + 1)).filter _
               rw [hfs, hpx, ← hz3]; simp
             · show z.cur.drop (z.j + 1) = ws.drop (z.j + 1)
               have := congrArg (List.drop 1) hz4
               rwa [List.drop_drop, List.drop_drop] at this)
    · skip
      have hkn : z.j = n := by simp only [decide_eq_false_iff_not] at h1; omega
      have hfin : ws.filter (fun x => !p x) = z.cur.take z.i := by rw [hz3, hkn, List.take_of_length_le (by omega)]
      have hfl : (ws.filter fun x => !p x).length = z.i := by rw [hfin, List.length_take]; omega
      refine et (h := ?_)
      refine q_then_exit (h := ?_)
      refine q_then_exit (h := ?_)
      refine q_blk_hit (h := ?_)
      refine q_seq (h := ?_)
      refine sq (h := ?_)
      refine rg (h := ?_)
      refine WL.y (hy := mv) (h := ?_)
      refine WL.y (hy := mv) (h := ?_)
      refine WL.y (hy := slB (g := b) (o := pre.length) (m := n) (cap := c) (lo' := z.i) (hlo := by omega) (hlc := by omega)) (h := ?_)
      refine clrB (z := .int .i64 0) (g := b) (o := pre.length + z.i) (m := n - z.i) (cs := pre ++ (z.cur.map vI ++ sp)) (ha := .here) (hm := by omega) (hl := by simp; omega) (h := ?_)
      rw [clear_view pre sp z.cur hz2 (by omega), ← hfin]
      refine nl (h := ?_)
      refine q_seq (h := ?_)
      refine sq (h := ?_)
      refine rg (h := ?_)
      refine WL.y (hy := mv) (h := ?_)
      refine WL.y (hy := mv) (h := ?_)
      refine WL.y (hy := slP (A := some ⟨b, pre.length, none⟩) (m := n) (cap := c) (hi' := z.i) (hc := by omega)) (h := ?_)
      refine WL.y (hy := asg) (h := ?_)
      refine nl (h := ?_)
      refine q_seq (h := ?_)
      refine rtn (h := ?_)
      refine q_ret (hR := ?_)
      rw [hfl]
      exact fun w hS => ⟨_, by simp; omega, rfl, hS⟩
theorem T_Delete0 {g : FuncId} (hg : FnOk Try.prog g) (fi cap : List Value) (A : Option Addr) (c : Nat) (w : World) : C0 Try.prog 75 [.slice A 0 c, .func (.func g) fi.toArray cap.toArray] w (.slice A 0 c) := by
  refine ⟨en Try.func75 Try.ntmps75 (St.init w) (h := fun F => ?_)⟩
  refine sq (h := ?_)
  refine rg (h := ?_)
  refine WL.y (hy := asg) (h := ?_)
  refine nl (h := ?_)
  refine q_seq (h := ?_)
  refine sq (h := ?_)
  refine WC.nilOwn 3 1 (h := ?_)
  refine rg (h := ?_)
  refine WL.y (hy := mv) (h := ?_)
  refine WL.y (hy := mv) (h := ?_)
  refine clT (hc := T_IndexInt (E := .own none 0 3 1 0 []) (A := A) (n := 0) (c := c) (ws := []) (fun w _ => Rd.nil w A 1) hg fi cap [] (fun _ => false) (by omega) rfl (fun x hx => by cases hx)) (hs := (by repeat (first | exact Spl.nil | (apply Spl.cons; (repeat (first | exact At.here | apply At.there)))))) (h := fun x0 hx0 => ?_)
  refine WL.y (hy := asg) (h := ?_)
  refine nl (h := ?_)
  refine q_seq (h := ?_)
  refine sq (h := ?_)
  refine sq (h := ?_)
  refine rg (h := ?_)
  refine WL.y (hy := mv) (h := ?_)
  refine WL.y (hy := eql) (h := ?_)
  refine nl (h := ?_)
  refine q_seq (h := ?_)
  refine cd (by exact rfl) (fun h0 => ?_) (fun h0 => ?_)
  · skip
    refine sq (h := ?_)
    refine rg (h := ?_)
    refine WL.y (hy := mv) (h := ?_)
    refine WL.y (hy := asg) (h := ?_)
    refine nl (h := ?_)
    refine q_seq (h := ?_)
    refine rtn (h := ?_)
    refine q_then_ret (h := ?_)
    refine q_ret (hR := ?_)
    exact fun w hS => ⟨rfl, hS.sub (by repeat (first | exact SubL.nil | (apply SubL.cons; (repeat (first | exact At.here | apply At.there))) | exact SubL.refl _ | apply SubL.skip))⟩
  · skip
    exfalso
    rcases hx0 with ⟨k, hk, _⟩ | ⟨rfl, _⟩
    · omega
    · exact absurd h0 (by decide)
end Go.Proofs.Ytngelilffleimaa

namespace Go.Proofs.Ytngelilffleimaa
open Go Go.RowKit

def firstN (s : Cr) : Nat := bif decide (0 < s.passing) then 1 else 0
def arrV (gs : List Pt) (minute i : Int) : Bool := match gs[i.toNat]? with
  | some g => decide (g.at_ = minute) && !goneV gs minute i
  | none => false
def keptV (gs : List Pt) (minute : Int) (s : Cr) : List Int := s.ws.take (firstN s) ++ (s.ws.drop (firstN s)).filter fun i => !goneV gs minute i
def joinV (gs : List Pt) (ord : List Int) (minute : Int) (s : Cr) : Cr := { s with ws := keptV gs minute s ++ ord.filter (arrV gs minute) }
def joinTo (gs : List Pt) (ord : List Int) (minute : Int) (s : Cr) (k : Nat) : Cr := { s with ws := keptV gs minute s ++ (ord.take k).filter (arrV gs minute) }
structure JZ where
  (k : Nat) (A : Option Addr) (c : Nat)
theorem kept_len (gs : List Pt) (minute : Int) (s : Cr) : (keptV gs minute s).length ≤ s.ws.length := by
  unfold keptV
  have := List.length_filter_le (fun i => !goneV gs minute i) (s.ws.drop (firstN s))
  rw [List.length_append, List.length_take]
  rw [List.length_drop] at this
  omega
abbrev joinL (q : Qu) (a : QA) (x : CA) (ord : List Int) (s : Cr) (b : Nat) : List Ent := crE q a x ord s b ++ [.ro a.gA 4 q.gs.length (encPt q.gs)]
set_option maxHeartbeats 2000000 in
theorem T_joinE (q : Qu) (a : QA) (x : CA) (ord : List Int) (s : Cr) (b : Nat) (minute : Int) (hin : ∀ i ∈ ord, 0 ≤ i ∧ i < q.gs.length) (hws : ∀ i ∈ s.ws, 0 ≤ i ∧ i < q.gs.length) (hpw : firstN s ≤ s.ws.length) (hl : s.ws.length ≤ 1000 ∧ ord.length ≤ 1000)
    (h0 : s.ws.drop (firstN s) = []) (hwc : s.ws.length ≤ x.wc) (hAn : x.wA = none → firstN s = 0 ∧ x.wc = 0) :
    Tr Try.prog 60 [.pointer (some ⟨b, 0, none⟩), .int .i64 minute] [.blk b 116 (crC q a x ord s), .own x.oA x.oc 3 1 ord.length (enI ord), wtE 3 x.wA s.ws.length x.wc s.ws, .own x.iA x.ic 3 1 s.inn.length (enI s.inn), .ro a.gA 4 q.gs.length (encPt q.gs)] (fun _ : CA => True) (fun _ => .tuple #[]) (fun x' => (joinL q a x' ord (joinV q.gs ord minute s) b)) := by
  refine ⟨fun w0 w R hst => ?_⟩
  have hkept := kept_len q.gs minute s
  have hf : firstN s = s.ws.length := by
    have h1 := congrArg List.length h0
    rw [List.length_drop] at h1
    simp only [List.length_nil] at h1
    have h2 : firstN s ≤ s.ws.length := hpw
    omega
  have hk0 : (joinTo q.gs ord minute s 0).ws = s.ws := by
    show keptV q.gs minute s ++ ([] : List Int).filter _ = s.ws
    rw [keptV, h0, hf, List.take_length]; simp
  have hd0 : s.ws.length - firstN s = 0 := by omega
  refine en Try.func60 Try.ntmps60 hst (h := fun F => ?_)
  refine sq (h := ?_)
  refine rg (h := ?_)
  refine bx (h := fun b0 => ?_)
  refine bx (h := fun b1 => ?_)
  refine nl (h := ?_)
  refine q_seq (h := ?_)
  refine sq (h := ?_)
  refine rg (h := ?_)
  refine WL.y (hy := asg) (h := ?_)
  refine nl (h := ?_)
  refine q_seq (h := ?_)
  refine ct (X := Unit) (fun _ => True) (fun _ => [(2, .pointer (some ⟨b0, 0, none⟩)), (3, .pointer (some ⟨b1, 0, none⟩)), (4, .int .i64 (firstN s))]) (fun _ => .blk b0 113 [.pointer (some ⟨b, 0, none⟩)] :: .blk b1 3 [.int .i64 minute] :: .blk b 116 (crC q a x ord s) :: .own x.oA x.oc 3 1 ord.length (enI ord) :: wtE 3 x.wA s.ws.length x.wc s.ws :: .own x.iA x.ic 3 1 s.inn.length (enI s.inn) :: .ro a.gA 4 q.gs.length (encPt q.gs) :: R) (h1 := ?_) (h2 := ?_)
  · skip
    refine sq (h := ?_)
    refine rg (h := ?_)
    refine WL.y (hy := (by first | exact ld | exact ldE)) (h := ?_)
    refine WL.y (hy := nck) (h := ?_)
    refine WL.y (hy := (by first | exact fa | exact faE)) (h := ?_)
    refine WL.y (hy := (by first | exact ld | exact ldE)) (h := ?_)
    refine WL.y (hy := gtr) (h := ?_)
    refine nl (h := ?_)
    refine q_seq (h := ?_)
    refine cd (by exact rfl) (fun h0 => ?_) (fun h0 => ?_)
    · skip
      have hfn : firstN s = 1 := by rw [firstN, h0]; rfl
      refine rg (h := ?_)
      refine WL.y (hy := asg) (h := ?_)
      refine nl (h := ?_)
      exact ctn () trivial (by repeat (first | exact trivial | refine ⟨rfl, ?_⟩ | refine ⟨by rw [hfn]; rfl, ?_⟩)) (by repeat (first | exact SubL.nil | (apply SubL.cons; (repeat (first | exact At.here | apply At.there))) | exact SubL.refl _ | apply SubL.skip))
    · skip
      have hfn : firstN s = 0 := by rw [firstN, h0]; rfl
      refine skp (h := ?_)
      exact ctn () trivial (by repeat (first | exact trivial | refine ⟨rfl, ?_⟩ | refine ⟨by rw [hfn]; rfl, ?_⟩)) (by repeat (first | exact SubL.nil | (apply SubL.cons; (repeat (first | exact At.here | apply At.there))) | exact SubL.refl _ | apply SubL.skip))
  rintro ⟨⟩ -
  refine sq (h := ?_)
  refine rg (h := ?_)
  refine WL.y (hy := mkf) (h := ?_)
  refine WL.y (hy := asg) (h := ?_)
  refine nl (h := ?_)
  refine q_seq (h := ?_)
  refine ct (X := Option Addr × Nat) (fun _ => True) (fun _ => [(2, .pointer (some ⟨b0, 0, none⟩)), (3, .pointer (some ⟨b1, 0, none⟩)), (5, .func (.func 74) #[] #[.pointer (some ⟨b0, 0, none⟩), .pointer (some ⟨b1, 0, none⟩)])]) (fun y => .blk b0 113 [.pointer (some ⟨b, 0, none⟩)] :: .blk b1 3 [.int .i64 minute] :: .blk b 116 (crC q a { x with wA := y.1, wc := y.2 } ord (joinTo q.gs ord minute s 0)) :: .own x.oA x.oc 3 1 ord.length (enI ord) :: wtE 3 y.1 (joinTo q.gs ord minute s 0).ws.length y.2 (joinTo q.gs ord minute s 0).ws :: .own x.iA x.ic 3 1 s.inn.length (enI s.inn) :: .ro a.gA 4 q.gs.length (encPt q.gs) :: R) (h1 := ?_) (h2 := ?_)
  · skip
    refine rgD (by kernel_rfl) [(18, .blk b 116 (crC q a x ord s)), (1000000, .blk b0 113 [.pointer (some ⟨b, 0, none⟩)])] (by repeat (first | exact HS.nil | (apply HS.keep; (repeat (first | exact At.here | apply At.there))) | (apply HS.ro; (repeat (first | exact Rds.ro | exact Rds.own | apply Rds.there))))) (h := ?_)
    refine tk 0 (hy := (by first | exact ld | exact ldE)) (h := ?_)
    refine tk 1 (hy := (by first | exact ld | exact ldE)) (h := ?_)
    refine tk 2 (hy := nck) (h := ?_)
    refine tk 3 (hy := (by first | exact fa | exact faE)) (h := ?_)
    refine tk 4 (hy := (by first | exact ld | exact ldE)) (h := ?_)
    refine tk 5 (hy := mv) (h := ?_)
    refine tk 6 (hy := slP (A := x.wA) (m := s.ws.length) (cap := x.wc) (hi' := firstN s) (hc := by omega)) (h := ?_)
    refine tk 7 (hy := (by first | exact ld | exact ldE)) (h := ?_)
    refine tk 8 (hy := nck) (h := ?_)
    refine tk 9 (hy := (by first | exact fa | exact faE)) (h := ?_)
    refine tk 10 (hy := (by first | exact ld | exact ldE)) (h := ?_)
    refine tk 11 (hy := mv) (h := ?_)
    refine tk 12 (hy := Yd.to (slA (A := x.wA) (m := s.ws.length) (cap := x.wc) (lo' := firstN s) (hlo := by omega)) (v' := .slice (if x.wc = firstN s then x.wA else x.wA.map (·.add (firstN s * 1))) 0 (x.wc - firstN s)) (by rw [hd0])) (h := ?_)
    refine tk 13 (hy := mv) (h := ?_)
    refine one 14 (h := ?_)
    refine cl0 (hc := fun w hS => T_Delete0 inferInstance [] [.pointer (some ⟨b0, 0, none⟩), .pointer (some ⟨b1, 0, none⟩)] _ _ w) (h := ?_)
    refine nx (h := ?_)
    refine one 15 (h := ?_)
    refine ap00 (A := x.wA) (m := firstN s) (c := x.wc) (hm := by omega) (hA := hAn) (h := ?_)
    refine nx (h := ?_)
    refine tk 16 (hy := nck) (h := ?_)
    refine tk 17 (hy := (by first | exact fa | exact faE)) (h := ?_)
    refine one 18 (h := ?_)
    first | refine st (h := ?_) | refine stE (h := ?_)
    refine nx (h := ?_)
    refine dn (h := ?_)
    exact ctn (x.wA, x.wc) trivial (by repeat (first | exact trivial | refine ⟨rfl, ?_⟩)) (by dsimp only [crC]; rw [hk0, ← hf]; repeat (first | exact SubL.nil | (apply SubL.cons; (repeat (first | exact At.here | apply At.there))) | exact SubL.refl _ | apply SubL.skip))
  rintro ⟨A1, c1⟩ -
  dsimp only [crC]
  refine sq (h := ?_)
  refine rg (h := ?_)
  refine WL.y (hy := (by first | exact ld | exact ldE)) (h := ?_)
  refine WL.y (hy := nck) (h := ?_)
  refine WL.y (hy := (by first | exact fa | exact faE)) (h := ?_)
  refine WL.y (hy := (by first | exact ld | exact ldE)) (h := ?_)
  refine WL.y (hy := lenS) (h := ?_)
  refine WL.y (hy := mv) (h := ?_)
  refine nl (h := ?_)
  refine q_seq (h := ?_)
  refine bk (h := ?_)
  refine lp (X := JZ) (I := fun z => z.k ≤ ord.length) (le := fun z => [(2, .pointer (some ⟨b0, 0, none⟩)), (3, .pointer (some ⟨b1, 0, none⟩)), (5, .func (.func 74) #[] #[.pointer (some ⟨b0, 0, none⟩), .pointer (some ⟨b1, 0, none⟩)]), (35, .slice x.oA ord.length x.oc), (36, .int .i64 ord.length), (37, .int .i64 z.k)]) (Le := fun z => .blk b0 113 [.pointer (some ⟨b, 0, none⟩)] :: .blk b1 3 [.int .i64 minute] :: .blk b 116 (crC q a { x with wA := z.A, wc := z.c } ord (joinTo q.gs ord minute s z.k)) :: .own x.oA x.oc 3 1 ord.length (enI ord) :: wtE 3 z.A (joinTo q.gs ord minute s z.k).ws.length z.c (joinTo q.gs ord minute s z.k).ws :: .own x.iA x.ic 3 1 s.inn.length (enI s.inn) :: .ro a.gA 4 q.gs.length (encPt q.gs) :: R) (μ := fun z => ord.length - z.k) ⟨0, A1, c1⟩ (Nat.zero_le _) (by repeat (first | exact trivial | refine ⟨rfl, ?_⟩)) (by repeat (first | exact SubL.nil | (apply SubL.cons; (repeat (first | exact At.here | apply At.there))) | exact SubL.refl _ | apply SubL.skip)) (fun z hz => ?_)
  refine sq (h := ?_)
  refine rg (h := ?_)
  refine WL.y (hy := lss) (h := ?_)
  refine nl (h := ?_)
  refine q_seq (h := ?_)
  refine sq (h := ?_)
  refine cd (by exact rfl) (fun h1 => ?_) (fun h1 => ?_)
  · skip
    have hkn : z.k < ord.length := by simp only [decide_eq_true_eq] at h1; omega
    obtain ⟨i, hi⟩ : ∃ i, ord[z.k]? = some i := ⟨_, List.getElem?_eq_getElem hkn⟩
    have hie := enI_at hi
    have hir := hin i (List.mem_of_getElem? hi)
    obtain ⟨p, hp⟩ : ∃ p, q.gs[i.toNat]? = some p := ⟨_, List.getElem?_eq_getElem (by omega)⟩
    have hpe := encPt_at hp
    have hjl : (joinTo q.gs ord minute s z.k).ws.length ≤ 2000 := by
      have := List.length_filter_le (arrV q.gs minute) (ord.take z.k)
      rw [List.length_take] at this
      show (keptV q.gs minute s ++ (ord.take z.k).filter (arrV q.gs minute)).length ≤ 2000
      rw [List.length_append]; omega
    have hstep : (joinTo q.gs ord minute s (z.k + 1)).ws = (joinTo q.gs ord minute s z.k).ws ++ (bif arrV q.gs minute i then [i] else []) := by
      show keptV q.gs minute s ++ (ord.take (z.k + 1)).filter (arrV q.gs minute) = keptV q.gs minute s ++ (ord.take z.k).filter (arrV q.gs minute) ++ _
      rw [filter_take_succ _ hi, List.append_assoc]
    have harr : arrV q.gs minute i = (decide (p.at_ = minute) && !goneV q.gs minute i) := by rw [arrV, hp]
    refine skp (h := ?_)
    refine q_seq (h := ?_)
    refine sq (h := ?_)
    refine bk (h := ?_)
    refine sq (h := ?_)
    refine rg (h := ?_)
    refine WL.y (hy := ix (A := x.oA) (m := ord.length)) (h := ?_)
    refine WL.y (hy := ldE (A := x.oA) (hk := hie)) (h := ?_)
    refine WL.y (hy := asg) (h := ?_)
    refine nl (h := ?_)
    refine q_seq (h := ?_)
    refine sq (h := ?_)
    refine rgD (by kernel_rfl) [(1000000, .blk b0 113 [.pointer (some ⟨b, 0, none⟩)]), (1000000, .blk b1 3 [.int .i64 minute]), (1000000, .blk b 116 (crC q a { x with wA := z.A, wc := z.c } ord (joinTo q.gs ord minute s z.k))), (1000000, .ro a.gA 4 q.gs.length (encPt q.gs))] (by repeat (first | exact HS.nil | (apply HS.keep; (repeat (first | exact At.here | apply At.there))) | (apply HS.ro; (repeat (first | exact Rds.ro | exact Rds.own | apply Rds.there))))) (h := ?_)
    refine tk 0 (hy := (by first | exact ld | exact ldE)) (h := ?_)
    refine tk 1 (hy := nck) (h := ?_)
    refine tk 2 (hy := (by first | exact fa | exact faE)) (h := ?_)
    refine tk 3 (hy := (by first | exact fa | exact faE)) (h := ?_)
    refine tk 4 (hy := (by first | exact ld | exact ldE)) (h := ?_)
    refine tk 5 (hy := mv) (h := ?_)
    refine tk 6 (hy := ix (A := a.gA) (m := q.gs.length)) (h := ?_)
    refine tk 7 (hy := (by first | exact fa | exact faE)) (h := ?_)
    refine tk 8 (hy := ldE (A := a.gA) (hk := hpe)) (h := ?_)
    refine tk 9 (hy := (by first | exact ld | exact ldE)) (h := ?_)
    refine tk 10 (hy := eql) (h := ?_)
    refine tk 11 (hy := mv) (h := ?_)
    refine brH (g := 52) (by exact rfl) (fun hb2 => ?_) (fun hb2 => ?_)
    · skip
      have hat : decide (p.at_ = minute) = true := hb2
      refine tk 12 (hy := mv) (h := ?_)
      refine tk 13 (hy := mv) (h := ?_)
      refine one 14 (h := ?_)
      refine un (h := ?_)
      refine clfT inferInstance (fi := []) (cap := [.pointer (some ⟨b0, 0, none⟩), .pointer (some ⟨b1, 0, none⟩)]) (by exact rfl) (by repeat (first | exact Evs.nil | (apply Evs.cons; exact rfl))) (T_gone q a { x with wA := z.A, wc := z.c } ord (joinTo q.gs ord minute s z.k) b b0 b1 minute i hir) rfl (by repeat (first | exact Spl.nil | (apply Spl.cons; (repeat (first | exact At.here | apply At.there))))) (h := fun _ _ => ?_)
      refine nx (h := ?_)
      refine tk 15 (hy := notB) (h := ?_)
      refine tk 16 (hy := (by first | exact pkT | exact pkF)) (h := ?_)
      refine dn (h := ?_)
      refine q_seq (h := ?_)
      refine cd (by exact rfl) (fun h3 => ?_) (fun h3 => ?_)
      · skip
        have hstep1 : (joinTo q.gs ord minute s (z.k + 1)).ws = (joinTo q.gs ord minute s z.k).ws ++ [i] := by rw [hstep, harr, hat, h3]; rfl
        have hsl1 : (joinTo q.gs ord minute s (z.k + 1)).ws.length = (joinTo q.gs ord minute s z.k).ws.length + 1 := by rw [hstep1]; simp
        refine rgD (by kernel_rfl) [(1000000, .blk b0 113 [.pointer (some ⟨b, 0, none⟩)]), (10, .blk b 116 (crC q a { x with wA := z.A, wc := z.c } ord (joinTo q.gs ord minute s z.k)))] (by repeat (first | exact HS.nil | (apply HS.keep; (repeat (first | exact At.here | apply At.there))) | (apply HS.ro; (repeat (first | exact Rds.ro | exact Rds.own | apply Rds.there))))) (h := ?_)
        refine tk 0 (hy := (by first | exact ld | exact ldE)) (h := ?_)
        refine tk 1 (hy := (by first | exact ld | exact ldE)) (h := ?_)
        refine tk 2 (hy := nck) (h := ?_)
        refine tk 3 (hy := (by first | exact fa | exact faE)) (h := ?_)
        refine tk 4 (hy := (by first | exact ld | exact ldE)) (h := ?_)
        refine tk 5 (hy := mv) (h := ?_)
        refine one 6 (h := ?_)
        refine bs (h := fun ub => ?_)
        refine nx (h := ?_)
        refine one 7 (h := ?_)
        refine apW (A := z.A) (c := z.c) (ws := (joinTo q.gs ord minute s z.k).ws) (xs := [i]) (m := (joinTo q.gs ord minute s z.k).ws.length) (k := 1) (ha := (by repeat (first | exact At.here | apply At.there))) (hr := by repeat (first | exact Rds.own | apply Rds.there)) (hb := by omega) (hlm := by omega) (h := fun A2 c2 => ?_)
        refine nx (h := ?_)
        refine tk 8 (hy := nck) (h := ?_)
        refine tk 9 (hy := (by first | exact fa | exact faE)) (h := ?_)
        refine one 10 (h := ?_)
        first | refine st (h := ?_) | refine stE (h := ?_)
        refine nx (h := ?_)
        refine dn (h := ?_)
        refine q_blk_norm (h := ?_)
        refine q_seq (h := ?_)
        refine rg (h := ?_)
        refine WL.y (hy := addI) (h := ?_)
        refine WL.y (hy := mv) (h := ?_)
        refine nl (h := ?_)
        first
          | (refine rn (x := z) ⟨z.k + 1, A2, c2⟩ (by dsimp only; omega) (by dsimp only; omega) (by repeat (first | exact trivial | refine ⟨rfl, ?_⟩)) (by dsimp only [crC]; rw [hsl1, hstep1]; repeat (first | exact SubL.nil | (apply SubL.cons; (repeat (first | exact At.here | apply At.there))) | exact SubL.refl _ | apply SubL.skip)))
          | (refine rn (x := z) ⟨z.k + 1, z.A, z.c⟩ (by dsimp only; omega) (by dsimp only; omega) (by repeat (first | exact trivial | refine ⟨rfl, ?_⟩)) (by dsimp only [crC]; rw [hstep0]; repeat (first | exact SubL.nil | (apply SubL.cons; (repeat (first | exact At.here | apply At.there))) | exact SubL.refl _ | apply SubL.skip)))
      · skip
        first
          | (have hstep0 : (joinTo q.gs ord minute s (z.k + 1)).ws = (joinTo q.gs ord minute s z.k).ws := by rw [hstep, harr, hat, ‹(!goneV q.gs minute i) = false›]; simp)
          | skip
        refine skp (h := ?_)
        refine q_blk_norm (h := ?_)
        refine q_seq (h := ?_)
        refine rg (h := ?_)
        refine WL.y (hy := addI) (h := ?_)
        refine WL.y (hy := mv) (h := ?_)
        refine nl (h := ?_)
        first
          | (refine rn (x := z) ⟨z.k + 1, A2, c2⟩ (by dsimp only; omega) (by dsimp only; omega) (by repeat (first | exact trivial | refine ⟨rfl, ?_⟩)) (by dsimp only [crC]; rw [hsl1, hstep1]; repeat (first | exact SubL.nil | (apply SubL.cons; (repeat (first | exact At.here | apply At.there))) | exact SubL.refl _ | apply SubL.skip)))
          | (refine rn (x := z) ⟨z.k + 1, z.A, z.c⟩ (by dsimp only; omega) (by dsimp only; omega) (by repeat (first | exact trivial | refine ⟨rfl, ?_⟩)) (by dsimp only [crC]; rw [hstep0]; repeat (first | exact SubL.nil | (apply SubL.cons; (repeat (first | exact At.here | apply At.there))) | exact SubL.refl _ | apply SubL.skip)))
    · skip
      have hstep0 : (joinTo q.gs ord minute s (z.k + 1)).ws = (joinTo q.gs ord minute s z.k).ws := by rw [hstep, harr, show decide (p.at_ = minute) = false from hb2]; simp
      refine tkS 12 (h := ?_)
      refine tkS 13 (h := ?_)
      refine tkS 14 (h := ?_)
      refine tkS 15 (h := ?_)
      refine tk 16 (hy := (by first | exact pkT | exact pkF)) (h := ?_)
      refine dn (h := ?_)
      refine q_seq (h := ?_)
      refine cdF (h := ?_)
      first
        | (have hstep0 : (joinTo q.gs ord minute s (z.k + 1)).ws = (joinTo q.gs ord minute s z.k).ws := by rw [hstep, harr, hat, ‹(!goneV q.gs minute i) = false›]; simp)
        | skip
      refine skp (h := ?_)
      refine q_blk_norm (h := ?_)
      refine q_seq (h := ?_)
      refine rg (h := ?_)
      refine WL.y (hy := addI) (h := ?_)
      refine WL.y (hy := mv) (h := ?_)
      refine nl (h := ?_)
      first
        | (refine rn (x := z) ⟨z.k + 1, A2, c2⟩ (by dsimp only; omega) (by dsimp only; omega) (by repeat (first | exact trivial | refine ⟨rfl, ?_⟩)) (by dsimp only [crC]; rw [hsl1, hstep1]; repeat (first | exact SubL.nil | (apply SubL.cons; (repeat (first | exact At.here | apply At.there))) | exact SubL.refl _ | apply SubL.skip)))
        | (refine rn (x := z) ⟨z.k + 1, z.A, z.c⟩ (by dsimp only; omega) (by dsimp only; omega) (by repeat (first | exact trivial | refine ⟨rfl, ?_⟩)) (by dsimp only [crC]; rw [hstep0]; repeat (first | exact SubL.nil | (apply SubL.cons; (repeat (first | exact At.here | apply At.there))) | exact SubL.refl _ | apply SubL.skip)))
  · skip
    have hkn : z.k = ord.length := by simp only [decide_eq_false_iff_not] at h1; omega
    have hfin : joinTo q.gs ord minute s z.k = joinV q.gs ord minute s := by rw [joinTo, hkn, List.take_length]; rfl
    rw [hfin]
    refine et (h := ?_)
    refine q_then_exit (h := ?_)
    refine q_then_exit (h := ?_)
    refine q_blk_hit (h := ?_)
    refine q_end (hR := ?_)
    exact fun w hS => ⟨{ x with wA := z.A, wc := z.c }, trivial, rfl, hS.sub (by repeat (first | exact SubL.nil | (apply SubL.cons; (repeat (first | exact At.here | apply At.there))) | exact SubL.refl _ | apply SubL.skip))⟩
set_option maxHeartbeats 2000000 in
theorem T_joinF (q : Qu) (a : QA) (x : CA) (ord : List Int) (s : Cr) (b : Nat) (minute : Int) (hin : ∀ i ∈ ord, 0 ≤ i ∧ i < q.gs.length) (hws : ∀ i ∈ s.ws, 0 ≤ i ∧ i < q.gs.length) (hpw : firstN s ≤ s.ws.length) (hl : s.ws.length ≤ 1000 ∧ ord.length ≤ 1000)
    (g : Nat) (pre sp : List Value) (hA : x.wA = some ⟨g, pre.length, none⟩) (h0 : firstN s < s.ws.length) (hwc : s.ws.length ≤ x.wc) (hsp : x.wc ≤ s.ws.length + sp.length) (hcm : x.wc ≤ 9223372036854775807)  :
    Tr Try.prog 60 [.pointer (some ⟨b, 0, none⟩), .int .i64 minute] [.blk b 116 (crC q a x ord s), .own x.oA x.oc 3 1 ord.length (enI ord), .blk g 3 ((pre ++ (s.ws.take (firstN s)).map vI) ++ ((s.ws.drop (firstN s)).map vI ++ sp)), .own x.iA x.ic 3 1 s.inn.length (enI s.inn), .ro a.gA 4 q.gs.length (encPt q.gs)] (fun _ : CA => True) (fun _ => .tuple #[]) (fun x' => (joinL q a x' ord (joinV q.gs ord minute s) b)) := by
  refine ⟨fun w0 w R hst => ?_⟩
  have hkept := kept_len q.gs minute s
  have hA2 : pre.length + firstN s = (pre ++ (s.ws.take (firstN s)).map vI).length := by simp; omega
  have hdl : (s.ws.drop (firstN s)).length = s.ws.length - firstN s := List.length_drop
  have hk0 : (joinTo q.gs ord minute s 0).ws = keptV q.gs minute s := by
    show keptV q.gs minute s ++ ([] : List Int).filter _ = _
    simp
  have hkl : (keptV q.gs minute s).length = firstN s + ((s.ws.drop (firstN s)).filter fun i => !goneV q.gs minute i).length := by
    rw [keptV, List.length_append, List.length_take, Nat.min_eq_left (by omega)]
  have hfl := List.length_filter_le (fun i => !goneV q.gs minute i) (s.ws.drop (firstN s))
  refine en Try.func60 Try.ntmps60 hst (h := fun F => ?_)
  refine sq (h := ?_)
  refine rg (h := ?_)
  refine bx (h := fun b0 => ?_)
  refine bx (h := fun b1 => ?_)
  refine nl (h := ?_)
  refine q_seq (h := ?_)
  refine sq (h := ?_)
  refine rg (h := ?_)
  refine WL.y (hy := asg) (h := ?_)
  refine nl (h := ?_)
  refine q_seq (h := ?_)
  refine ct (X := Unit) (fun _ => True) (fun _ => [(2, .pointer (some ⟨b0, 0, none⟩)), (3, .pointer (some ⟨b1, 0, none⟩)), (4, .int .i64 (firstN s))]) (fun _ => .blk b0 113 [.pointer (some ⟨b, 0, none⟩)] :: .blk b1 3 [.int .i64 minute] :: .blk b 116 (crC q a x ord s) :: .own x.oA x.oc 3 1 ord.length (enI ord) :: .blk g 3 ((pre ++ (s.ws.take (firstN s)).map vI) ++ ((s.ws.drop (firstN s)).map vI ++ sp)) :: .own x.iA x.ic 3 1 s.inn.length (enI s.inn) :: .ro a.gA 4 q.gs.length (encPt q.gs) :: R) (h1 := ?_) (h2 := ?_)
  · skip
    refine sq (h := ?_)
    refine rg (h := ?_)
    refine WL.y (hy := (by first | exact ld | exact ldE)) (h := ?_)
    refine WL.y (hy := nck) (h := ?_)
    refine WL.y (hy := (by first | exact fa | exact faE)) (h := ?_)
    refine WL.y (hy := (by first | exact ld | exact ldE)) (h := ?_)
    refine WL.y (hy := gtr) (h := ?_)
    refine nl (h := ?_)
    refine q_seq (h := ?_)
    refine cd (by exact rfl) (fun h0 => ?_) (fun h0 => ?_)
    · skip
      have hfn : firstN s = 1 := by rw [firstN, h0]; rfl
      refine rg (h := ?_)
      refine WL.y (hy := asg) (h := ?_)
      refine nl (h := ?_)
      exact ctn () trivial (by repeat (first | exact trivial | refine ⟨rfl, ?_⟩ | refine ⟨by rw [hfn]; rfl, ?_⟩)) (by repeat (first | exact SubL.nil | (apply SubL.cons; (repeat (first | exact At.here | apply At.there))) | exact SubL.refl _ | apply SubL.skip))
    · skip
      have hfn : firstN s = 0 := by rw [firstN, h0]; rfl
      refine skp (h := ?_)
      exact ctn () trivial (by repeat (first | exact trivial | refine ⟨rfl, ?_⟩ | refine ⟨by rw [hfn]; rfl, ?_⟩)) (by repeat (first | exact SubL.nil | (apply SubL.cons; (repeat (first | exact At.here | apply At.there))) | exact SubL.refl _ | apply SubL.skip))
  rintro ⟨⟩ -
  refine sq (h := ?_)
  refine rg (h := ?_)
  refine WL.y (hy := mkf) (h := ?_)
  refine WL.y (hy := asg) (h := ?_)
  refine nl (h := ?_)
  refine q_seq (h := ?_)
  refine ct (X := Option Addr × Nat) (fun _ => True) (fun _ => [(2, .pointer (some ⟨b0, 0, none⟩)), (3, .pointer (some ⟨b1, 0, none⟩)), (5, .func (.func 74) #[] #[.pointer (some ⟨b0, 0, none⟩), .pointer (some ⟨b1, 0, none⟩)])]) (fun y => .blk b0 113 [.pointer (some ⟨b, 0, none⟩)] :: .blk b1 3 [.int .i64 minute] :: .blk b 116 (crC q a { x with wA := y.1, wc := y.2 } ord (joinTo q.gs ord minute s 0)) :: .own x.oA x.oc 3 1 ord.length (enI ord) :: wtE 3 y.1 (joinTo q.gs ord minute s 0).ws.length y.2 (joinTo q.gs ord minute s 0).ws :: .own x.iA x.ic 3 1 s.inn.length (enI s.inn) :: .ro a.gA 4 q.gs.length (encPt q.gs) :: R) (h1 := ?_) (h2 := ?_)
  · skip
    refine rgD (by kernel_rfl) [(18, .blk b 116 (crC q a x ord s)), (1000000, .blk b0 113 [.pointer (some ⟨b, 0, none⟩)])] (by repeat (first | exact HS.nil | (apply HS.keep; (repeat (first | exact At.here | apply At.there))) | (apply HS.ro; (repeat (first | exact Rds.ro | exact Rds.own | apply Rds.there))))) (h := ?_)
    refine tk 0 (hy := (by first | exact ld | exact ldE)) (h := ?_)
    refine tk 1 (hy := (by first | exact ld | exact ldE)) (h := ?_)
    refine tk 2 (hy := nck) (h := ?_)
    refine tk 3 (hy := (by first | exact fa | exact faE)) (h := ?_)
    refine tk 4 (hy := (by first | exact ld | exact ldE)) (h := ?_)
    refine tk 5 (hy := mv) (h := ?_)
    refine tk 6 (hy := slP (A := x.wA) (m := s.ws.length) (cap := x.wc) (hi' := firstN s) (hc := by omega)) (h := ?_)
    refine tk 7 (hy := (by first | exact ld | exact ldE)) (h := ?_)
    refine tk 8 (hy := nck) (h := ?_)
    refine tk 9 (hy := (by first | exact fa | exact faE)) (h := ?_)
    refine tk 10 (hy := (by first | exact ld | exact ldE)) (h := ?_)
    refine tk 11 (hy := mv) (h := ?_)
    refine tk 12 (hy := Yd.to (slB (g := g) (o := pre.length) (m := s.ws.length) (cap := x.wc) (lo' := firstN s) (hlo := by omega) (hlc := by omega) (hx := by rw [← hA]; exact rfl)) (v' := .slice (some ⟨g, (pre ++ (s.ws.take (firstN s)).map vI).length, none⟩) (s.ws.length - firstN s) (x.wc - firstN s)) (by rw [hA2])) (h := ?_)
    refine tk 13 (hy := mv) (h := ?_)
    refine one 14 (h := ?_)
    refine clT (hc := T_DeleteFunc (g := 74) inferInstance [] [.pointer (some ⟨b0, 0, none⟩), .pointer (some ⟨b1, 0, none⟩)] (goneL q a x ord s b b0 b1 minute) (goneV q.gs minute) g (pre ++ (s.ws.take (firstN s)).map vI) sp (s.ws.drop (firstN s)) (s.ws.length - firstN s) (x.wc - firstN s) hdl (by omega) (by omega) (fun i hi => T_gone q a x ord s b b0 b1 minute i (hws i (List.mem_of_mem_drop hi)))) (hs := (by repeat (first | exact Spl.nil | (apply Spl.cons; (repeat (first | exact At.here | apply At.there)))))) (h := fun sp1 hsp1 => ?_)
    refine nx (h := ?_)
    refine one 15 (h := ?_)
    rw [hA]
    refine apSelf (g := g) (o := pre.length) (m := firstN s) (k := ((s.ws.drop (firstN s)).filter fun i => !goneV q.gs minute i).length) (c := x.wc) (news := ((s.ws.drop (firstN s)).filter fun i => !goneV q.gs minute i).map vI) (ha := (by repeat (first | exact At.here | apply At.there))) (hA2 := .inr (by rw [hA2])) (hl := by simp) (hnews := fun j v hj => by rw [hA2, List.getElem?_append_right (by omega), Nat.add_sub_cancel_left, List.getElem?_append_left (List.getElem?_eq_some_iff.1 hj).1]; exact hj) (hone := fun v hv => by obtain ⟨y, _, rfl⟩ := List.mem_map.1 hv; rfl) (hroom := by omega) (h := ?_)
    refine nx (h := ?_)
    refine tk 16 (hy := nck) (h := ?_)
    refine tk 17 (hy := (by first | exact fa | exact faE)) (h := ?_)
    refine one 18 (h := ?_)
    first | refine st (h := ?_) | refine stE (h := ?_)
    refine nx (h := ?_)
    refine dn (h := ?_)
    refine WQ.turn (hst := fun w h => (St.wtShut (g := g) (pre := pre) (sp := sp1) (ws := keptV q.gs minute s) (n := (keptV q.gs minute s).length) (cap := x.wc) (by rw [show pre ++ ((keptV q.gs minute s).map vI ++ sp1) = (pre ++ (s.ws.take (firstN s)).map vI) ++ (((s.ws.drop (firstN s)).filter fun i => !goneV q.gs minute i).map vI ++ sp1) by simp [keptV]]; exact h) rfl (by omega) (by omega) hcm)) (by repeat (first | exact At.here | apply At.there)) ?_
    exact ctn (some ⟨g, pre.length, none⟩, x.wc) trivial (by repeat (first | exact trivial | refine ⟨rfl, ?_⟩)) (by dsimp only [crC]; rw [hk0, ← hkl]; repeat (first | exact SubL.nil | (apply SubL.cons; (repeat (first | exact At.here | apply At.there))) | exact SubL.refl _ | apply SubL.skip))
  rintro ⟨A1, c1⟩ -
  dsimp only [crC]
  refine sq (h := ?_)
  refine rg (h := ?_)
  refine WL.y (hy := (by first | exact ld | exact ldE)) (h := ?_)
  refine WL.y (hy := nck) (h := ?_)
  refine WL.y (hy := (by first | exact fa | exact faE)) (h := ?_)
  refine WL.y (hy := (by first | exact ld | exact ldE)) (h := ?_)
  refine WL.y (hy := lenS) (h := ?_)
  refine WL.y (hy := mv) (h := ?_)
  refine nl (h := ?_)
  refine q_seq (h := ?_)
  refine bk (h := ?_)
  refine lp (X := JZ) (I := fun z => z.k ≤ ord.length) (le := fun z => [(2, .pointer (some ⟨b0, 0, none⟩)), (3, .pointer (some ⟨b1, 0, none⟩)), (5, .func (.func 74) #[] #[.pointer (some ⟨b0, 0, none⟩), .pointer (some ⟨b1, 0, none⟩)]), (35, .slice x.oA ord.length x.oc), (36, .int .i64 ord.length), (37, .int .i64 z.k)]) (Le := fun z => .blk b0 113 [.pointer (some ⟨b, 0, none⟩)] :: .blk b1 3 [.int .i64 minute] :: .blk b 116 (crC q a { x with wA := z.A, wc := z.c } ord (joinTo q.gs ord minute s z.k)) :: .own x.oA x.oc 3 1 ord.length (enI ord) :: wtE 3 z.A (joinTo q.gs ord minute s z.k).ws.length z.c (joinTo q.gs ord minute s z.k).ws :: .own x.iA x.ic 3 1 s.inn.length (enI s.inn) :: .ro a.gA 4 q.gs.length (encPt q.gs) :: R) (μ := fun z => ord.length - z.k) ⟨0, A1, c1⟩ (Nat.zero_le _) (by repeat (first | exact trivial | refine ⟨rfl, ?_⟩)) (by repeat (first | exact SubL.nil | (apply SubL.cons; (repeat (first | exact At.here | apply At.there))) | exact SubL.refl _ | apply SubL.skip)) (fun z hz => ?_)
  refine sq (h := ?_)
  refine rg (h := ?_)
  refine WL.y (hy := lss) (h := ?_)
  refine nl (h := ?_)
  refine q_seq (h := ?_)
  refine sq (h := ?_)
  refine cd (by exact rfl) (fun h1 => ?_) (fun h1 => ?_)
  · skip
    have hkn : z.k < ord.length := by simp only [decide_eq_true_eq] at h1; omega
    obtain ⟨i, hi⟩ : ∃ i, ord[z.k]? = some i := ⟨_, List.getElem?_eq_getElem hkn⟩
    have hie := enI_at hi
    have hir := hin i (List.mem_of_getElem? hi)
    obtain ⟨p, hp⟩ : ∃ p, q.gs[i.toNat]? = some p := ⟨_, List.getElem?_eq_getElem (by omega)⟩
    have hpe := encPt_at hp
    have hjl : (joinTo q.gs ord minute s z.k).ws.length ≤ 2000 := by
      have := List.length_filter_le (arrV q.gs minute) (ord.take z.k)
      rw [List.length_take] at this
      show (keptV q.gs minute s ++ (ord.take z.k).filter (arrV q.gs minute)).length ≤ 2000
      rw [List.length_append]; omega
    have hstep : (joinTo q.gs ord minute s (z.k + 1)).ws = (joinTo q.gs ord minute s z.k).ws ++ (bif arrV q.gs minute i then [i] else []) := by
      show keptV q.gs minute s ++ (ord.take (z.k + 1)).filter (arrV q.gs minute) = keptV q.gs minute s ++ (ord.take z.k).filter (arrV q.gs minute) ++ _
      rw [filter_take_succ _ hi, List.append_assoc]
    have harr : arrV q.gs minute i = (decide (p.at_ = minute) && !goneV q.gs minute i) := by rw [arrV, hp]
    refine skp (h := ?_)
    refine q_seq (h := ?_)
    refine sq (h := ?_)
    refine bk (h := ?_)
    refine sq (h := ?_)
    refine rg (h := ?_)
    refine WL.y (hy := ix (A := x.oA) (m := ord.length)) (h := ?_)
    refine WL.y (hy := ldE (A := x.oA) (hk := hie)) (h := ?_)
    refine WL.y (hy := asg) (h := ?_)
    refine nl (h := ?_)
    refine q_seq (h := ?_)
    refine sq (h := ?_)
    refine rgD (by kernel_rfl) [(1000000, .blk b0 113 [.pointer (some ⟨b, 0, none⟩)]), (1000000, .blk b1 3 [.int .i64 minute]), (1000000, .blk b 116 (crC q a { x with wA := z.A, wc := z.c } ord (joinTo q.gs ord minute s z.k))), (1000000, .ro a.gA 4 q.gs.length (encPt q.gs))] (by repeat (first | exact HS.nil | (apply HS.keep; (repeat (first | exact At.here | apply At.there))) | (apply HS.ro; (repeat (first | exact Rds.ro | exact Rds.own | apply Rds.there))))) (h := ?_)
    refine tk 0 (hy := (by first | exact ld | exact ldE)) (h := ?_)
    refine tk 1 (hy := nck) (h := ?_)
    refine tk 2 (hy := (by first | exact fa | exact faE)) (h := ?_)
    refine tk 3 (hy := (by first | exact fa | exact faE)) (h := ?_)
    refine tk 4 (hy := (by first | exact ld | exact ldE)) (h := ?_)
    refine tk 5 (hy := mv) (h := ?_)
    refine tk 6 (hy := ix (A := a.gA) (m := q.gs.length)) (h := ?_)
    refine tk 7 (hy := (by first | exact fa | exact faE)) (h := ?_)
    refine tk 8 (hy := ldE (A := a.gA) (hk := hpe)) (h := ?_)
    refine tk 9 (hy := (by first | exact ld | exact ldE)) (h := ?_)
    refine tk 10 (hy := eql) (h := ?_)
    refine tk 11 (hy := mv) (h := ?_)
    refine brH (g := 52) (by exact rfl) (fun hb2 => ?_) (fun hb2 => ?_)
    · skip
      have hat : decide (p.at_ = minute) = true := hb2
      refine tk 12 (hy := mv) (h := ?_)
      refine tk 13 (hy := mv) (h := ?_)
      refine one 14 (h := ?_)
      refine un (h := ?_)
      refine clfT inferInstance (fi := []) (cap := [.pointer (some ⟨b0, 0, none⟩), .pointer (some ⟨b1, 0, none⟩)]) (by exact rfl) (by repeat (first | exact Evs.nil | (apply Evs.cons; exact rfl))) (T_gone q a { x with wA := z.A, wc := z.c } ord (joinTo q.gs ord minute s z.k) b b0 b1 minute i hir) rfl (by repeat (first | exact Spl.nil | (apply Spl.cons; (repeat (first | exact At.here | apply At.there))))) (h := fun _ _ => ?_)
      refine nx (h := ?_)
      refine tk 15 (hy := notB) (h := ?_)
      refine tk 16 (hy := (by first | exact pkT | exact pkF)) (h := ?_)
      refine dn (h := ?_)
      refine q_seq (h := ?_)
      refine cd (by exact rfl) (fun h3 => ?_) (fun h3 => ?_)
      · skip
        have hstep1 : (joinTo q.gs ord minute s (z.k + 1)).ws = (joinTo q.gs ord minute s z.k).ws ++ [i] := by rw [hstep, harr, hat, h3]; rfl
        have hsl1 : (joinTo q.gs ord minute s (z.k + 1)).ws.length = (joinTo q.gs ord minute s z.k).ws.length + 1 := by rw [hstep1]; simp
        refine rgD (by kernel_rfl) [(1000000, .blk b0 113 [.pointer (some ⟨b, 0, none⟩)]), (10, .blk b 116 (crC q a { x with wA := z.A, wc := z.c } ord (joinTo q.gs ord minute s z.k)))] (by repeat (first | exact HS.nil | (apply HS.keep; (repeat (first | exact At.here | apply At.there))) | (apply HS.ro; (repeat (first | exact Rds.ro | exact Rds.own | apply Rds.there))))) (h := ?_)
        refine tk 0 (hy := (by first | exact ld | exact ldE)) (h := ?_)
        refine tk 1 (hy := (by first | exact ld | exact ldE)) (h := ?_)
        refine tk 2 (hy := nck) (h := ?_)
        refine tk 3 (hy := (by first | exact fa | exact faE)) (h := ?_)
        refine tk 4 (hy := (by first | exact ld | exact ldE)) (h := ?_)
        refine tk 5 (hy := mv) (h := ?_)
        refine one 6 (h := ?_)
        refine bs (h := fun ub => ?_)
        refine nx (h := ?_)
        refine one 7 (h := ?_)
        refine apW (A := z.A) (c := z.c) (ws := (joinTo q.gs ord minute s z.k).ws) (xs := [i]) (m := (joinTo q.gs ord minute s z.k).ws.length) (k := 1) (ha := (by repeat (first | exact At.here | apply At.there))) (hr := by repeat (first | exact Rds.own | apply Rds.there)) (hb := by omega) (hlm := by omega) (h := fun A2 c2 => ?_)
        refine nx (h := ?_)
        refine tk 8 (hy := nck) (h := ?_)
        refine tk 9 (hy := (by first | exact fa | exact faE)) (h := ?_)
        refine one 10 (h := ?_)
        first | refine st (h := ?_) | refine stE (h := ?_)
        refine nx (h := ?_)
        refine dn (h := ?_)
        refine q_blk_norm (h := ?_)
        refine q_seq (h := ?_)
        refine rg (h := ?_)
        refine WL.y (hy := addI) (h := ?_)
        refine WL.y (hy := mv) (h := ?_)
        refine nl (h := ?_)
        first
          | (refine rn (x := z) ⟨z.k + 1, A2, c2⟩ (by dsimp only; omega) (by dsimp only; omega) (by repeat (first | exact trivial | refine ⟨rfl, ?_⟩)) (by dsimp only [crC]; rw [hsl1, hstep1]; repeat (first | exact SubL.nil | (apply SubL.cons; (repeat (first | exact At.here | apply At.there))) | exact SubL.refl _ | apply SubL.skip)))
          | (refine rn (x := z) ⟨z.k + 1, z.A, z.c⟩ (by dsimp only; omega) (by dsimp only; omega) (by repeat (first | exact trivial | refine ⟨rfl, ?_⟩)) (by dsimp only [crC]; rw [hstep0]; repeat (first | exact SubL.nil | (apply SubL.cons; (repeat (first | exact At.here | apply At.there))) | exact SubL.refl _ | apply SubL.skip)))
      · skip
        first
          | (have hstep0 : (joinTo q.gs ord minute s (z.k + 1)).ws = (joinTo q.gs ord minute s z.k).ws := by rw [hstep, harr, hat, ‹(!goneV q.gs minute i) = false›]; simp)
          | skip
        refine skp (h := ?_)
        refine q_blk_norm (h := ?_)
        refine q_seq (h := ?_)
        refine rg (h := ?_)
        refine WL.y (hy := addI) (h := ?_)
        refine WL.y (hy := mv) (h := ?_)
        refine nl (h := ?_)
        first
          | (refine rn (x := z) ⟨z.k + 1, A2, c2⟩ (by dsimp only; omega) (by dsimp only; omega) (by repeat (first | exact trivial | refine ⟨rfl, ?_⟩)) (by dsimp only [crC]; rw [hsl1, hstep1]; repeat (first | exact SubL.nil | (apply SubL.cons; (repeat (first | exact At.here | apply At.there))) | exact SubL.refl _ | apply SubL.skip)))
          | (refine rn (x := z) ⟨z.k + 1, z.A, z.c⟩ (by dsimp only; omega) (by dsimp only; omega) (by repeat (first | exact trivial | refine ⟨rfl, ?_⟩)) (by dsimp only [crC]; rw [hstep0]; repeat (first | exact SubL.nil | (apply SubL.cons; (repeat (first | exact At.here | apply At.there))) | exact SubL.refl _ | apply SubL.skip)))
    · skip
      have hstep0 : (joinTo q.gs ord minute s (z.k + 1)).ws = (joinTo q.gs ord minute s z.k).ws := by rw [hstep, harr, show decide (p.at_ = minute) = false from hb2]; simp
      refine tkS 12 (h := ?_)
      refine tkS 13 (h := ?_)
      refine tkS 14 (h := ?_)
      refine tkS 15 (h := ?_)
      refine tk 16 (hy := (by first | exact pkT | exact pkF)) (h := ?_)
      refine dn (h := ?_)
      refine q_seq (h := ?_)
      refine cdF (h := ?_)
      first
        | (have hstep0 : (joinTo q.gs ord minute s (z.k + 1)).ws = (joinTo q.gs ord minute s z.k).ws := by rw [hstep, harr, hat, ‹(!goneV q.gs minute i) = false›]; simp)
        | skip
      refine skp (h := ?_)
      refine q_blk_norm (h := ?_)
      refine q_seq (h := ?_)
      refine rg (h := ?_)
      refine WL.y (hy := addI) (h := ?_)
      refine WL.y (hy := mv) (h := ?_)
      refine nl (h := ?_)
      first
        | (refine rn (x := z) ⟨z.k + 1, A2, c2⟩ (by dsimp only; omega) (by dsimp only; omega) (by repeat (first | exact trivial | refine ⟨rfl, ?_⟩)) (by dsimp only [crC]; rw [hsl1, hstep1]; repeat (first | exact SubL.nil | (apply SubL.cons; (repeat (first | exact At.here | apply At.there))) | exact SubL.refl _ | apply SubL.skip)))
        | (refine rn (x := z) ⟨z.k + 1, z.A, z.c⟩ (by dsimp only; omega) (by dsimp only; omega) (by repeat (first | exact trivial | refine ⟨rfl, ?_⟩)) (by dsimp only [crC]; rw [hstep0]; repeat (first | exact SubL.nil | (apply SubL.cons; (repeat (first | exact At.here | apply At.there))) | exact SubL.refl _ | apply SubL.skip)))
  · skip
    have hkn : z.k = ord.length := by simp only [decide_eq_false_iff_not] at h1; omega
    have hfin : joinTo q.gs ord minute s z.k = joinV q.gs ord minute s := by rw [joinTo, hkn, List.take_length]; rfl
    rw [hfin]
    refine et (h := ?_)
    refine q_then_exit (h := ?_)
    refine q_then_exit (h := ?_)
    refine q_blk_hit (h := ?_)
    refine q_end (hR := ?_)
    exact fun w hS => ⟨{ x with wA := z.A, wc := z.c }, trivial, rfl, hS.sub (by repeat (first | exact SubL.nil | (apply SubL.cons; (repeat (first | exact At.here | apply At.there))) | exact SubL.refl _ | apply SubL.skip))⟩
end Go.Proofs.Ytngelilffleimaa

namespace Go.Proofs.Ytngelilffleimaa
open Go Go.RowKit

theorem T_join (q : Qu) (a : QA) (x : CA) (ord : List Int) (s : Cr) (b : Nat) (minute : Int) (hin : ∀ i ∈ ord, 0 ≤ i ∧ i < q.gs.length) (hws : ∀ i ∈ s.ws, 0 ≤ i ∧ i < q.gs.length) (hpw : firstN s ≤ s.ws.length) (hl : s.ws.length ≤ 1000 ∧ ord.length ≤ 1000) :
    Tr Try.prog 60 [.pointer (some ⟨b, 0, none⟩), .int .i64 minute] (joinL q a x ord s b) (fun _ : CA => True) (fun _ => .tuple #[]) (fun x' => joinL q a x' ord (joinV q.gs ord minute s) b) := by
  refine ⟨fun w0 w R hst => ?_⟩
  have hpull : St w0 w (wtE 3 x.wA s.ws.length x.wc s.ws :: (.blk b 116 (crC q a x ord s) :: .own x.oA x.oc 3 1 ord.length (enI ord) :: .own x.iA x.ic 3 1 s.inn.length (enI s.inn) :: .ro a.gA 4 q.gs.length (encPt q.gs) :: R)) := hst.sub (by repeat (first | exact SubL.nil | (apply SubL.cons; (repeat (first | exact At.here | apply At.there))) | exact SubL.refl _ | apply SubL.skip))
  by_cases h0 : s.ws.drop (firstN s) = []
  · have hfn : firstN s = s.ws.length := by
      have h1 := congrArg List.length h0
      rw [List.length_drop] at h1
      simp only [List.length_nil] at h1
      omega
    have hok := hpull.ok (wtE 3 x.wA s.ws.length x.wc s.ws) (by simp)
    refine (T_joinE q a x ord s b minute hin hws hpw hl h0 ?_ ?_).out w0 w R hst
    · rcases hok.2 with ⟨_, h1, h2⟩ | ⟨g, pre, sp, _, _, h1, _⟩
      · omega
      · exact h1
    · intro hn
      rcases hok.2 with ⟨_, h1, h2⟩ | ⟨g, pre, sp, h1, _⟩
      · exact ⟨by omega, h2⟩
      · rw [hn] at h1; cases h1
  · have hlt : firstN s < s.ws.length := by
      rcases Nat.lt_or_ge (firstN s) s.ws.length with h | h
      · exact h
      · exact absurd (List.drop_of_length_le h) h0
    rcases hpull.wtOpen with ⟨_, _, _, hnil⟩ | ⟨g, pre, sp, hA, h1, h2, h3, h4, hb⟩
    · rw [hnil] at h0; simp at h0
    · have hsplit : pre ++ (s.ws.map vI ++ sp) = (pre ++ (s.ws.take (firstN s)).map vI) ++ ((s.ws.drop (firstN s)).map vI ++ sp) := by
        rw [List.append_assoc, ← List.append_assoc ((s.ws.take (firstN s)).map vI), ← List.map_append, List.take_append_drop]
      rw [hsplit] at hb
      exact (T_joinF q a x ord s b minute hin hws hpw hl g pre sp hA hlt h2 h3 h4).out w0 w R (hb.sub (by repeat (first | exact SubL.nil | (apply SubL.cons; (repeat (first | exact At.here | apply At.there))) | exact SubL.refl _ | apply SubL.skip)))
def szV (gs : List Pt) (i : Int) : Int := match gs[i.toNat]? with
  | some g => g.size
  | none => 0
def ppV (gs : List Pt) (i : Int) (s : Cr) : Int := bif decide (s.passing = 0) then szV gs i else s.passing
def frV (gs : List Pt) (i : Int) (s : Cr) : Int := bif decide (s.passing = 0) then s.free - szV gs i else s.free
def passOne (gs : List Pt) (minute rate i : Int) (t : List Int) (s : Cr) : Cr :=
  bif decide (ppV gs i s - min rate (ppV gs i s) = 0) then ⟨frV gs i s, ppV gs i s - min rate (ppV gs i s), t, s.inn.set i.toNat minute⟩ else { s with free := frV gs i s, passing := ppV gs i s - min rate (ppV gs i s) }
def stopV (gs : List Pt) (i : Int) (s : Cr) : Bool := decide (s.passing = 0) && decide (s.free < szV gs i)
def passV (gs : List Pt) (minute : Int) : Nat → Int → Cr → Cr
  | 0, _, s => s
  | f + 1, rate, s => match s.ws with
    | [] => s
    | i :: t => bif decide (0 < rate) && !stopV gs i s then passV gs minute f (rate - min rate (ppV gs i s)) (passOne gs minute rate i t s) else s
theorem passV_stop {gs : List Pt} {minute rate : Int} {s : Cr} (h : rate ≤ 0 ∨ s.ws = []) (f : Nat) : passV gs minute f rate s = s := by
  cases f with
  | zero => rfl
  | succ f =>
    rw [passV]
    rcases h with h | h
    · cases s.ws with
      | nil => rfl
      | cons i t => rw [decide_eq_false (by omega)]; rfl
    · rw [h]
theorem passV_halt {gs : List Pt} {minute rate i : Int} {t : List Int} {s : Cr} (h : s.ws = i :: t) (hs : stopV gs i s = true) (f : Nat) : passV gs minute f rate s = s := by
  cases f with
  | zero => rfl
  | succ f => rw [passV, h]; simp only [hs]; rw [Bool.not_true, Bool.and_false]; rfl
theorem passV_go {gs : List Pt} {minute rate i : Int} {t : List Int} {s : Cr} (h : s.ws = i :: t) (hr : 0 < rate) (hs : stopV gs i s = false) (f : Nat) : passV gs minute (f + 1) rate s = passV gs minute f (rate - min rate (ppV gs i s)) (passOne gs minute rate i t s) := by
  rw [passV, h]; simp only [hs]; rw [decide_eq_true hr]; rfl
structure Cr.Ok (q : Qu) (s : Cr) : Prop where
  ws : ∀ i ∈ s.ws, 0 ≤ i ∧ i < q.gs.length
  inn : s.inn.length = q.gs.length
  p : 0 ≤ s.passing ∧ s.passing ≤ 20
  f : 0 ≤ s.free ∧ s.free ≤ 1000000000000
theorem szV_rng {q : Qu} (hq : q.Ok) {i : Int} (hi : 0 ≤ i ∧ i < q.gs.length) : 1 ≤ szV q.gs i ∧ szV q.gs i ≤ 20 := by
  obtain ⟨g, hg⟩ : ∃ g, q.gs[i.toNat]? = some g := ⟨_, List.getElem?_eq_getElem (by omega)⟩
  rw [szV, hg]
  have := pt_rng (hq.pt g (List.mem_of_getElem? hg))
  exact this.2.2.1
theorem passOne_ok {q : Qu} (hq : q.Ok) {minute rate i : Int} {t : List Int} {s : Cr} (h : s.Ok q) (hw : s.ws = i :: t) (hr : 0 < rate) (hs : stopV q.gs i s = false) : (passOne q.gs minute rate i t s).Ok q ∧ 1 ≤ ppV q.gs i s ∧ ppV q.gs i s ≤ 20 ∧ 0 ≤ frV q.gs i s ∧ frV q.gs i s ≤ 1000000000000 := by
  obtain ⟨h1, h2, h3, h4⟩ := h
  have hir := h1 i (by rw [hw]; simp)
  have hsz := szV_rng hq hir
  have hpp : 1 ≤ ppV q.gs i s ∧ ppV q.gs i s ≤ 20 := by
    unfold ppV
    by_cases e : s.passing = 0
    · rw [decide_eq_true e]; exact hsz
    · rw [decide_eq_false e]; simp only [cond_false]; omega
  have hfr : 0 ≤ frV q.gs i s ∧ frV q.gs i s ≤ 1000000000000 := by
    unfold frV
    by_cases e : s.passing = 0
    · unfold stopV at hs
      rw [decide_eq_true e, Bool.true_and, decide_eq_false_iff_not] at hs
      rw [decide_eq_true e]; simp only [cond_true]; omega
    · rw [decide_eq_false e]; simp only [cond_false]; omega
  refine ⟨?_, hpp.1, hpp.2, hfr.1, hfr.2⟩
  unfold passOne
  by_cases e : ppV q.gs i s - min rate (ppV q.gs i s) = 0
  · rw [decide_eq_true e]
    exact ⟨fun k hk => h1 k (by rw [hw]; simp [show k ∈ t from hk]), by simp [h2], by simp only [cond_true]; omega, hfr⟩
  · rw [decide_eq_false e]
    exact ⟨h1, h2, by simp only [cond_false]; omega, hfr⟩
theorem passV_fuel2 {q : Qu} (hq : q.Ok) {minute : Int} : ∀ (f f' : Nat) (rate : Int) (s : Cr), s.Ok q → rate ≤ f → rate ≤ f' → passV q.gs minute f rate s = passV q.gs minute f' rate s
  | 0, f', rate, s, _, h, _ => by rw [passV_stop (.inl (by omega)), passV_stop (.inl (by omega))]
  | f + 1, 0, rate, s, _, _, h => by rw [passV_stop (.inl (by omega)), passV_stop (.inl (by omega))]
  | f + 1, f' + 1, rate, s, hs, h, h' => by
    cases hw : s.ws with
    | nil => rw [passV_stop (.inr hw), passV_stop (.inr hw)]
    | cons i t =>
      by_cases hr : 0 < rate
      · cases hst : stopV q.gs i s
        · obtain ⟨ho, hp1, hp2, -, -⟩ := passOne_ok (minute := minute) hq hs hw hr hst
          rw [passV_go hw hr hst, passV_go hw hr hst]
          exact passV_fuel2 hq f f' _ _ ho (by omega) (by omega)
        · rw [passV_halt hw hst, passV_halt hw hst]
      · rw [passV_stop (.inl (by omega)), passV_stop (.inl (by omega))]
theorem passV_fuel {q : Qu} (hq : q.Ok) {minute : Int} {s : Cr} (hs : s.Ok q) (f : Nat) (rate : Int) (h1 : rate ≤ f) (h2 : 0 ≤ rate) : passV q.gs minute f rate s = passV q.gs minute rate.toNat rate s :=
  passV_fuel2 hq f rate.toNat rate s hs h1 (by omega)
structure ZP where
  (rate : Int) (s : Cr) (A : Option Addr) (c : Nat)
set_option maxHeartbeats 2000000 in
theorem T_pass (q : Qu) (a : QA) (x : CA) (ord : List Int) (s : Cr) (b : Nat) (minute rate : Int) (hq : q.Ok) (hs : s.Ok q) (hr : 0 ≤ rate ∧ rate ≤ 100) (hl : s.ws.length ≤ 1000) :
    Tr Try.prog 61 [.pointer (some ⟨b, 0, none⟩), .int .i64 minute, .int .i64 rate] (joinL q a x ord s b) (fun _ : CA => True) (fun _ => .tuple #[]) (fun x' => joinL q a x' ord (passV q.gs minute rate.toNat rate s) b) := by
  refine ⟨fun w0 w R hst => ?_⟩
  refine en Try.func61 Try.ntmps61 hst (h := fun F => ?_)
  refine bk (h := ?_)
  refine lp (X := ZP) (I := fun z => 0 ≤ z.rate ∧ z.rate ≤ 100 ∧ z.s.Ok q ∧ z.s.ws.length ≤ 1000 ∧ passV q.gs minute z.rate.toNat z.rate z.s = passV q.gs minute rate.toNat rate s) (le := fun z => [(0, .pointer (some ⟨b, 0, none⟩)), (1, .int .i64 minute), (2, .int .i64 z.rate)]) (Le := fun z => (joinL q a { x with wA := z.A, wc := z.c } ord z.s b ++ R)) (μ := fun z => z.rate.toNat) ⟨rate, s, x.wA, x.wc⟩ ⟨hr.1, hr.2, hs, hl, rfl⟩ (by repeat (first | exact trivial | refine ⟨rfl, ?_⟩)) (SubL.refl _) (fun z hz => ?_)
  obtain ⟨hz1, hz2, hzs, hzl, hze⟩ := hz
  dsimp only [joinL, crE, crC]
  refine sq (h := ?_)
  refine sq (h := ?_)
  refine rg (h := ?_)
  refine WL.y (hy := mv) (h := ?_)
  refine WL.y (hy := gtr) (h := ?_)
  refine WL.y (hy := mv) (h := ?_)
  apply brAnd 7 10 17 (by exact rfl)
  · intro hb0
    refine un (h := ?_)
    refine WL.y (hy := mv) (h := ?_)
    refine un (h := ?_)
    refine WL.y (hy := nck) (h := ?_)
    refine un (h := ?_)
    refine WL.y (hy := (by first | exact fa | exact faE)) (h := ?_)
    refine un (h := ?_)
    refine WL.y (hy := (by first | exact ld | exact ldE)) (h := ?_)
    refine un (h := ?_)
    refine WL.y (hy := lenS) (h := ?_)
    refine un (h := ?_)
    refine WL.y (hy := gtr) (h := ?_)
    refine WL.y (hy := (by first | exact pkT | exact pkF)) (h := ?_)
    exact mg (by repeat (first | exact trivial | refine ⟨rfl, ?_⟩ | refine ⟨by rw [hb0]; rfl, ?_⟩)) (by repeat (first | exact SubL.nil | (apply SubL.cons; (repeat (first | exact At.here | apply At.there))) | exact SubL.refl _ | apply SubL.skip))
  · intro hb0
    repeat (first | refine un (h := ?_) | refine sk (h := ?_) | refine WL.y (hy := pkF) (h := ?_) | refine WL.y (hy := pkT) (h := ?_))
    exact mg (by repeat (first | exact trivial | refine ⟨rfl, ?_⟩ | refine ⟨by rw [hb0]; rfl, ?_⟩)) (by repeat (first | exact SubL.nil | (apply SubL.cons; (repeat (first | exact At.here | apply At.there))) | exact SubL.refl _ | apply SubL.skip))
  refine nl (h := ?_)
  refine q_seq (h := ?_)
  refine cd (by exact rfl) (fun h1 => ?_) (fun h1 => ?_)
  · skip
    obtain ⟨hr0, hw0⟩ : 0 < z.rate ∧ 0 < z.s.ws.length := by simp only [Bool.and_eq_true, decide_eq_true_eq] at h1; omega
    obtain ⟨i, t, hws⟩ : ∃ i t, z.s.ws = i :: t := by
      cases hh : z.s.ws with
      | nil => rw [hh] at hw0; simp at hw0
      | cons i t => exact ⟨i, t, rfl⟩
    have hwl : z.s.ws.length - 1 = t.length := by rw [hws]; rfl
    have hwd : z.s.ws.drop 1 = t := by rw [hws]; rfl
    have hir := hzs.ws i (by rw [hws]; simp)
    obtain ⟨g, hg⟩ : ∃ g, q.gs[i.toNat]? = some g := ⟨_, List.getElem?_eq_getElem (by omega)⟩
    have hge := encPt_at hg
    have hsz : szV q.gs i = g.size := by rw [szV, hg]
    have hszr := szV_rng hq hir
    rw [hsz] at hszr
    have h0e : (enI z.s.ws)[(0 : Int).toNat]? = some [.int .i64 i] := by rw [hws]; rfl
    have hzf := hzs.f
    have hzp := hzs.p
    have hinl := hzs.inn
    obtain ⟨old, hold⟩ : ∃ old, z.s.inn[i.toNat]? = some old := ⟨_, List.getElem?_eq_getElem (by omega)⟩
    have holde := enI_at hold
    refine skp (h := ?_)
    refine q_seq (h := ?_)
    refine bk (h := ?_)
    refine sq (h := ?_)
    refine rg (h := ?_)
    refine WL.y (hy := mv) (h := ?_)
    refine WL.y (hy := nck) (h := ?_)
    refine WL.y (hy := (by first | exact fa | exact faE)) (h := ?_)
    refine WL.y (hy := (by first | exact ld | exact ldE)) (h := ?_)
    refine WL.y (hy := ix (A := z.A) (m := z.s.ws.length) (hr := (by repeat (first | exact Rds.any (rd_wt (T := 3) (A := z.A) (n := z.s.ws.length) (cap := z.c) (ws := z.s.ws)) | apply Rds.there)))) (h := ?_)
    refine WL.y (hy := ldE (A := z.A) (hr := (by repeat (first | exact Rds.any (rd_wt (T := 3) (A := z.A) (n := z.s.ws.length) (cap := z.c) (ws := z.s.ws)) | apply Rds.there))) (hk := h0e)) (h := ?_)
    refine WL.y (hy := asg) (h := ?_)
    refine nl (h := ?_)
    refine q_seq (h := ?_)
    refine ct (X := Unit) (fun _ => stopV q.gs i z.s = false) (fun _ => [(0, .pointer (some ⟨b, 0, none⟩)), (1, .int .i64 minute), (2, .int .i64 z.rate), (6, .int .i64 i)]) (fun _ => (joinL q a { x with wA := z.A, wc := z.c } ord ⟨frV q.gs i z.s, ppV q.gs i z.s, z.s.ws, z.s.inn⟩ b ++ R)) (h1 := ?_) (h2 := ?_)
    · skip
      refine sq (h := ?_)
      refine rg (h := ?_)
      refine WL.y (hy := mv) (h := ?_)
      refine WL.y (hy := nck) (h := ?_)
      refine WL.y (hy := (by first | exact fa | exact faE)) (h := ?_)
      refine WL.y (hy := (by first | exact ld | exact ldE)) (h := ?_)
      refine WL.y (hy := eql) (h := ?_)
      refine nl (h := ?_)
      refine q_seq (h := ?_)
      refine cd (by exact rfl) (fun h2 => ?_) (fun h2 => ?_)
      · skip
        have hpz : decide (z.s.passing = 0) = true := h2
        have hP : ppV q.gs i z.s = g.size := by rw [ppV, hpz, hsz]; rfl
        have hFR : frV q.gs i z.s = z.s.free - g.size := by rw [frV, hpz, hsz]; rfl
        refine sq (h := ?_)
        refine sq (h := ?_)
        refine rgD (by kernel_rfl) [(1000000, .blk b 116 (crC q a { x with wA := z.A, wc := z.c } ord z.s)), (1000000, .ro a.gA 4 q.gs.length (encPt q.gs))] (by repeat (first | exact HS.nil | (apply HS.keep; (repeat (first | exact At.here | apply At.there))) | (apply HS.ro; (repeat (first | exact Rds.ro | exact Rds.own | apply Rds.there))))) (h := ?_)
        refine tk 0 (hy := mv) (h := ?_)
        refine tk 1 (hy := nck) (h := ?_)
        refine tk 2 (hy := (by first | exact fa | exact faE)) (h := ?_)
        refine tk 3 (hy := (by first | exact fa | exact faE)) (h := ?_)
        refine tk 4 (hy := (by first | exact ld | exact ldE)) (h := ?_)
        refine tk 5 (hy := mv) (h := ?_)
        refine tk 6 (hy := ix (A := a.gA) (m := q.gs.length)) (h := ?_)
        refine tk 7 (hy := (by first | exact fa | exact faE)) (h := ?_)
        refine tk 8 (hy := ldE (A := a.gA) (hk := hge)) (h := ?_)
        refine tk 9 (hy := mv) (h := ?_)
        refine tk 10 (hy := nck) (h := ?_)
        refine tk 11 (hy := (by first | exact fa | exact faE)) (h := ?_)
        refine tk 12 (hy := (by first | exact ld | exact ldE)) (h := ?_)
        refine tk 13 (hy := gtr) (h := ?_)
        refine dn (h := ?_)
        refine q_seq (h := ?_)
        refine cd (by exact rfl) (fun h3 => ?_) (fun h3 => ?_)
        · skip
          have hE : passV q.gs minute rate.toNat rate s = z.s := by
            rw [← hze]
            refine passV_halt hws ?_ z.rate.toNat
            rw [stopV, hpz, hsz]; exact h3
          refine rtn (h := ?_)
          refine q_then_ret (h := ?_)
          refine q_then_ret (h := ?_)
          refine q_blk_ret (h := ?_)
          refine q_then_ret (h := ?_)
          refine q_blk_ret (h := ?_)
          refine q_ret (hR := ?_)
          rw [hE]
          exact fun w hS => ⟨{ x with wA := z.A, wc := z.c }, trivial, rfl, hS.sub (by repeat (first | exact SubL.nil | (apply SubL.cons; (repeat (first | exact At.here | apply At.there))) | exact SubL.refl _ | apply SubL.skip))⟩
        · skip
          have hgo : stopV q.gs i z.s = false := by rw [stopV, hpz, hsz]; exact h3
          refine skp (h := ?_)
          refine q_seq (h := ?_)
          refine sq (h := ?_)
          refine rg (h := ?_)
          refine WL.y (hy := mv) (h := ?_)
          refine WL.y (hy := mv) (h := ?_)
          refine WL.y (hy := nck) (h := ?_)
          refine WL.y (hy := (by first | exact fa | exact faE)) (h := ?_)
          refine WL.y (hy := (by first | exact fa | exact faE)) (h := ?_)
          refine WL.y (hy := (by first | exact ld | exact ldE)) (h := ?_)
          refine WL.y (hy := mv) (h := ?_)
          refine WL.y (hy := ix (A := a.gA) (m := q.gs.length)) (h := ?_)
          refine WL.y (hy := (by first | exact fa | exact faE)) (h := ?_)
          refine WL.y (hy := ldE (A := a.gA) (hk := hge)) (h := ?_)
          refine WL.y (hy := nck) (h := ?_)
          refine WL.y (hy := (by first | exact fa | exact faE)) (h := ?_)
          first | refine st (h := ?_) | refine stE (h := ?_)
          refine nl (h := ?_)
          refine q_seq (h := ?_)
          refine rgD (by kernel_rfl) [(11, .blk b 116 (crC q a { x with wA := z.A, wc := z.c } ord ⟨z.s.free, g.size, z.s.ws, z.s.inn⟩))] (by repeat (first | exact HS.nil | (apply HS.keep; (repeat (first | exact At.here | apply At.there))) | (apply HS.ro; (repeat (first | exact Rds.ro | exact Rds.own | apply Rds.there))))) (h := ?_)
          refine tk 0 (hy := mv) (h := ?_)
          refine tk 1 (hy := nck) (h := ?_)
          refine tk 2 (hy := (by first | exact fa | exact faE)) (h := ?_)
          refine tk 3 (hy := (by first | exact ld | exact ldE)) (h := ?_)
          refine tk 4 (hy := mv) (h := ?_)
          refine tk 5 (hy := nck) (h := ?_)
          refine tk 6 (hy := (by first | exact fa | exact faE)) (h := ?_)
          refine tk 7 (hy := (by first | exact ld | exact ldE)) (h := ?_)
          refine tk 8 (hy := subI (a := z.s.free) (b := g.size) (hb := by have := of_decide_eq_false ‹decide (z.s.free < g.size) = false›; omega)) (h := ?_)
          refine tk 9 (hy := nck) (h := ?_)
          refine tk 10 (hy := (by first | exact fa | exact faE)) (h := ?_)
          refine one 11 (h := ?_)
          first | refine st (h := ?_) | refine stE (h := ?_)
          refine nx (h := ?_)
          refine dn (h := ?_)
          exact ctn () hgo (by repeat (first | exact trivial | refine ⟨rfl, ?_⟩)) (by dsimp only [joinL, crE, crC]; rw [hP, hFR]; repeat (first | exact SubL.nil | (apply SubL.cons; (repeat (first | exact At.here | apply At.there))) | exact SubL.refl _ | apply SubL.skip))
      · skip
        have hpz : decide (z.s.passing = 0) = false := h2
        have hP : ppV q.gs i z.s = z.s.passing := by rw [ppV, hpz]; rfl
        have hFR : frV q.gs i z.s = z.s.free := by rw [frV, hpz]; rfl
        have hgo : stopV q.gs i z.s = false := by rw [stopV, hpz]; rfl
        refine skp (h := ?_)
        exact ctn () hgo (by repeat (first | exact trivial | refine ⟨rfl, ?_⟩)) (by dsimp only [joinL, crE, crC]; rw [hP, hFR]; repeat (first | exact SubL.nil | (apply SubL.cons; (repeat (first | exact At.here | apply At.there))) | exact SubL.refl _ | apply SubL.skip))
    rintro ⟨⟩ hgo
    obtain ⟨hok1, hpp1, hpp2, hfr1, hfr2⟩ := passOne_ok (minute := minute) hq hzs hws hr0 hgo
    have hnx : passV q.gs minute rate.toNat rate s = passV q.gs minute (z.rate - min z.rate (ppV q.gs i z.s)).toNat (z.rate - min z.rate (ppV q.gs i z.s)) (passOne q.gs minute z.rate i t z.s) := by
      rw [← hze]
      obtain ⟨f, hf⟩ : ∃ f, z.rate.toNat = f + 1 := ⟨z.rate.toNat - 1, by omega⟩
      rw [hf, passV_go hws hr0 hgo]
      exact passV_fuel hq hok1 f _ (by omega) (by omega)
    dsimp only [joinL, crE, crC]
    refine sq (h := ?_)
    refine rg (h := ?_)
    refine WL.y (hy := mv) (h := ?_)
    refine WL.y (hy := mv) (h := ?_)
    refine WL.y (hy := nck) (h := ?_)
    refine WL.y (hy := (by first | exact fa | exact faE)) (h := ?_)
    refine WL.y (hy := (by first | exact ld | exact ldE)) (h := ?_)
    refine WL.y (hy := minI) (h := ?_)
    refine WL.y (hy := asg) (h := ?_)
    refine nl (h := ?_)
    refine q_seq (h := ?_)
    refine sq (h := ?_)
    refine rg (h := ?_)
    refine WL.y (hy := mv) (h := ?_)
    refine WL.y (hy := mv) (h := ?_)
    refine WL.y (hy := subI) (h := ?_)
    refine WL.y (hy := asg) (h := ?_)
    refine nl (h := ?_)
    refine q_seq (h := ?_)
    refine sq (h := ?_)
    refine rg (h := ?_)
    refine WL.y (hy := mv) (h := ?_)
    refine WL.y (hy := nck) (h := ?_)
    refine WL.y (hy := (by first | exact fa | exact faE)) (h := ?_)
    refine WL.y (hy := (by first | exact ld | exact ldE)) (h := ?_)
    refine WL.y (hy := mv) (h := ?_)
    refine WL.y (hy := subI) (h := ?_)
    refine WL.y (hy := nck) (h := ?_)
    refine WL.y (hy := (by first | exact fa | exact faE)) (h := ?_)
    first | refine st (h := ?_) | refine stE (h := ?_)
    refine nl (h := ?_)
    refine q_seq (h := ?_)
    refine sq (h := ?_)
    refine rg (h := ?_)
    refine WL.y (hy := mv) (h := ?_)
    refine WL.y (hy := nck) (h := ?_)
    refine WL.y (hy := (by first | exact fa | exact faE)) (h := ?_)
    refine WL.y (hy := (by first | exact ld | exact ldE)) (h := ?_)
    refine WL.y (hy := eql) (h := ?_)
    refine nl (h := ?_)
    refine q_seq (h := ?_)
    refine cd (by exact rfl) (fun h4 => ?_) (fun h4 => ?_)
    · skip
      have hone : passOne q.gs minute z.rate i t z.s = ⟨frV q.gs i z.s, ppV q.gs i z.s - min z.rate (ppV q.gs i z.s), t, z.s.inn.set i.toNat minute⟩ := by rw [passOne, h4]; rfl
      refine sq (h := ?_)
      refine rg (h := ?_)
      refine WL.y (hy := mv) (h := ?_)
      refine WL.y (hy := nck) (h := ?_)
      refine WL.y (hy := (by first | exact fa | exact faE)) (h := ?_)
      refine WL.y (hy := (by first | exact ld | exact ldE)) (h := ?_)
      refine WL.y (hy := mv) (h := ?_)
      refine WL.y (hy := mv) (h := ?_)
      refine WL.y (hy := ix (A := x.iA) (m := z.s.inn.length)) (h := ?_)
      refine stE (A := x.iA) (hk := holde) (h := ?_)
      refine nl (h := ?_)
      refine q_seq (h := ?_)
      refine rg (h := ?_)
      refine WL.y (hy := mv) (h := ?_)
      refine WL.y (hy := mv) (h := ?_)
      refine WL.y (hy := nck) (h := ?_)
      refine WL.y (hy := (by first | exact fa | exact faE)) (h := ?_)
      refine WL.y (hy := (by first | exact ld | exact ldE)) (h := ?_)
      refine WL.y (hy := slA (A := z.A) (m := z.s.ws.length) (cap := z.c) (lo' := 1) (hlo := by omega)) (h := ?_)
      refine WL.y (hy := nck) (h := ?_)
      refine WL.y (hy := (by first | exact fa | exact faE)) (h := ?_)
      first | refine st (h := ?_) | refine stE (h := ?_)
      refine WL.wtDrop (A := z.A) (cap := z.c) (ws := z.s.ws) (by repeat (first | exact At.here | apply At.there)) 1 (by omega) ?_
      rw [hwl, hwd]
      refine nl (h := ?_)
      refine q_blk_norm (h := ?_)
      first
        | (refine rn (x := z) ⟨z.rate - min z.rate (ppV q.gs i z.s), passOne q.gs minute z.rate i t z.s, (if z.c = 1 then z.A else z.A.map (·.add (1 * 1))), z.c - 1⟩ ⟨by dsimp only; omega, by dsimp only; omega, hok1, by rw [hone]; dsimp only; omega, hnx.symm⟩ (by dsimp only; omega) (by repeat (first | exact trivial | refine ⟨rfl, ?_⟩)) (by rw [hone]; dsimp only [joinL, crE, crC]; rw [List.length_set, ← enI_set]; repeat (first | exact SubL.nil | (apply SubL.cons; (repeat (first | exact At.here | apply At.there))) | exact SubL.refl _ | apply SubL.skip)))
        | (refine rn (x := z) ⟨z.rate - min z.rate (ppV q.gs i z.s), passOne q.gs minute z.rate i t z.s, z.A, z.c⟩ ⟨by dsimp only; omega, by dsimp only; omega, hok1, by rw [hone]; exact hzl, hnx.symm⟩ (by dsimp only; omega) (by repeat (first | exact trivial | refine ⟨rfl, ?_⟩)) (by rw [hone]; dsimp only [joinL, crE, crC]; repeat (first | exact SubL.nil | (apply SubL.cons; (repeat (first | exact At.here | apply At.there))) | exact SubL.refl _ | apply SubL.skip)))
    · skip
      have hone : passOne q.gs minute z.rate i t z.s = { z.s with free := frV q.gs i z.s, passing := ppV q.gs i z.s - min z.rate (ppV q.gs i z.s) } := by rw [passOne, h4]; rfl
      refine skp (h := ?_)
      refine q_blk_norm (h := ?_)
      first
        | (refine rn (x := z) ⟨z.rate - min z.rate (ppV q.gs i z.s), passOne q.gs minute z.rate i t z.s, (if z.c = 1 then z.A else z.A.map (·.add (1 * 1))), z.c - 1⟩ ⟨by dsimp only; omega, by dsimp only; omega, hok1, by rw [hone]; dsimp only; omega, hnx.symm⟩ (by dsimp only; omega) (by repeat (first | exact trivial | refine ⟨rfl, ?_⟩)) (by rw [hone]; dsimp only [joinL, crE, crC]; rw [List.length_set, ← enI_set]; repeat (first | exact SubL.nil | (apply SubL.cons; (repeat (first | exact At.here | apply At.there))) | exact SubL.refl _ | apply SubL.skip)))
        | (refine rn (x := z) ⟨z.rate - min z.rate (ppV q.gs i z.s), passOne q.gs minute z.rate i t z.s, z.A, z.c⟩ ⟨by dsimp only; omega, by dsimp only; omega, hok1, by rw [hone]; exact hzl, hnx.symm⟩ (by dsimp only; omega) (by repeat (first | exact trivial | refine ⟨rfl, ?_⟩)) (by rw [hone]; dsimp only [joinL, crE, crC]; repeat (first | exact SubL.nil | (apply SubL.cons; (repeat (first | exact At.here | apply At.there))) | exact SubL.refl _ | apply SubL.skip)))
  · skip
    have hE : passV q.gs minute rate.toNat rate s = z.s := by
      rw [← hze]
      refine passV_stop ?_ z.rate.toNat
      rcases Bool.and_eq_false_iff.1 h1 with h1 | h1
      · left; have := of_decide_eq_false h1; omega
      · right; have := of_decide_eq_false h1; exact List.eq_nil_of_length_eq_zero (by omega)
    refine et (h := ?_)
    refine q_then_exit (h := ?_)
    refine q_then_exit (h := ?_)
    refine q_blk_hit (h := ?_)
    refine q_end (hR := ?_)
    rw [hE]
    exact fun w hS => ⟨{ x with wA := z.A, wc := z.c }, trivial, rfl, hS.sub (by repeat (first | exact SubL.nil | (apply SubL.cons; (repeat (first | exact At.here | apply At.there))) | exact SubL.refl _ | apply SubL.skip))⟩
end Go.Proofs.Ytngelilffleimaa

namespace Go.Proofs.Ytngelilffleimaa
open Go Go.RowKit

def freeTo (fs : List Fe) (minute : Int) : Nat → Int
  | 0 => 0
  | k + 1 => match fs[k]? with
    | some f => freeTo fs minute k + (bif decide (f.1 = minute) then f.2 else 0)
    | none => freeTo fs minute k
def freeAll (fs : List Fe) (minute : Int) : Int := freeTo fs minute fs.length
def freedV (q : Qu) (minute : Int) (s : Cr) : Cr := { s with free := s.free + freeAll q.fs minute }
def minuteV (q : Qu) (rate : Int) (ord : List Int) (minute : Int) (s : Cr) : Cr :=
  bif decide (q.opn ≤ minute) then passV q.gs minute rate.toNat rate (joinV q.gs ord minute (freedV q minute s)) else joinV q.gs ord minute (freedV q minute s)
def runTo (q : Qu) (rate more : Int) : Nat → Cr
  | 0 => open0 q more
  | k + 1 => minuteV q rate (ordV q) k (runTo q rate more k)
def runV (q : Qu) (rate more : Int) : List Int := (runTo q rate more 1441).inn

def atV (gs : List Pt) (i : Int) : Int := match gs[i.toNat]? with
  | some g => g.at_
  | none => 0
theorem freeTo_rng {q : Qu} (hq : q.Ok) (minute : Int) : ∀ k, k ≤ q.fs.length → 0 ≤ freeTo q.fs minute k ∧ freeTo q.fs minute k ≤ 9999 * k
  | 0, _ => by simp [freeTo]
  | k + 1, hk => by
    have ih := freeTo_rng hq minute k (by omega)
    have hf : q.fs[k]? = some q.fs[k] := List.getElem?_eq_getElem (by omega)
    have hfe := hq.fe _ (List.mem_of_getElem? hf)
    simp only [feOk, isT, Bool.and_eq_true, win_iff] at hfe
    rw [freeTo, hf]
    show 0 ≤ freeTo q.fs minute k + (bif decide (q.fs[k].1 = minute) then q.fs[k].2 else 0) ∧ freeTo q.fs minute k + (bif decide (q.fs[k].1 = minute) then q.fs[k].2 else 0) ≤ _
    cases decide (q.fs[k].1 = minute) <;> simp only [cond_true, cond_false] <;> omega
theorem freeAll_rng {q : Qu} (hq : q.Ok) (minute : Int) : 0 ≤ freeAll q.fs minute ∧ freeAll q.fs minute ≤ 399960 := by
  have := freeTo_rng hq minute q.fs.length (Nat.le_refl _)
  have := hq.f
  unfold freeAll; omega
structure RI (q : Qu) (k : Nat) (s : Cr) : Prop where
  ok : s.Ok q
  pw : 0 < s.passing → s.ws ≠ []
  wl : s.ws.length ≤ ((ordV q).filter fun i => decide (atV q.gs i < k)).length
  f : s.free ≤ 110000 + 400000 * (k : Int)
theorem filter_part {α : Type} (l : List α) (p q r : α → Bool) (h : ∀ x ∈ l, r x = (p x || q x)) (hd : ∀ x ∈ l, p x = true → q x = false) : (l.filter r).length = (l.filter p).length + (l.filter q).length := by
  induction l with
  | nil => rfl
  | cons x l ih =>
    have ih' := ih (fun y hy => h y (by simp [hy])) (fun y hy => hd y (by simp [hy]))
    have hx := h x (by simp)
    have hdx := hd x (by simp)
    simp only [List.filter_cons]
    cases hp : p x <;> cases hq : q x <;> rw [hp, hq] at hx <;> simp only [hx, Bool.or_self, Bool.or_false, Bool.or_true] <;> simp [ih'] <;> try omega
    rw [hq] at hdx; exact absurd (hdx hp) (by decide)
theorem arr_le (q : Qu) (k : Nat) : ((ordV q).filter (arrV q.gs (k : Int))).length ≤ ((ordV q).filter fun i => decide (atV q.gs i = (k : Int))).length := by
  refine List.Sublist.length_le ?_
  have : (ordV q).filter (arrV q.gs (k : Int)) = ((ordV q).filter fun i => decide (atV q.gs i = (k : Int))).filter (arrV q.gs (k : Int)) := by
    rw [List.filter_filter]
    congr 1
    funext i
    unfold arrV atV
    cases q.gs[i.toNat]? with
    | none => rfl
    | some g => simp only; cases decide (g.at_ = (k : Int)) <;> simp
  rw [this]
  exact List.filter_sublist
theorem first_le {s : Cr} (h : 0 < s.passing → s.ws ≠ []) : firstN s ≤ s.ws.length := by
  unfold firstN
  by_cases hp : 0 < s.passing
  · rw [decide_eq_true hp]
    exact List.length_pos_iff.2 (h hp)
  · rw [decide_eq_false hp]; exact Nat.zero_le _
theorem freed_ri {q : Qu} (hq : q.Ok) {k : Nat} (hk : k ≤ 1441) {s : Cr} (h : RI q k s) : (freedV q k s).Ok q ∧ (freedV q k s).free ≤ 110000 + 400000 * ((k : Int) + 1) := by
  obtain ⟨⟨h1, h2, h3, h4⟩, h5, h6, h7⟩ := h
  have := freeAll_rng hq k
  exact ⟨⟨h1, h2, h3, by show 0 ≤ s.free + freeAll q.fs k ∧ s.free + freeAll q.fs k ≤ 1000000000000; omega⟩, by show s.free + freeAll q.fs k ≤ _; omega⟩
theorem join_ri {q : Qu} (hq : q.Ok) {k : Nat} (hk : k ≤ 1441) {s : Cr} (h : RI q k s) : RI q (k + 1) (joinV q.gs (ordV q) k (freedV q k s)) := by
  obtain ⟨ho, hf⟩ := freed_ri hq hk h
  have hfl := first_le h.pw
  refine ⟨⟨fun i hi => ?_, ho.inn, ho.p, ho.f⟩, fun hp => ?_, ?_, by push_cast; exact hf⟩
  · rcases List.mem_append.1 hi with hi | hi
    · rcases List.mem_append.1 hi with hi | hi
      · exact ho.ws i (List.mem_of_mem_take hi)
      · exact ho.ws i (List.mem_of_mem_drop (List.mem_filter.1 hi).1)
    · exact ordV_mem.1 (List.mem_filter.1 hi).1
  · have hf1 : firstN (freedV q k s) = 1 := by
      have hp' : 0 < (freedV q k s).passing := hp
      unfold firstN; rw [decide_eq_true hp']; rfl
    have hne := h.pw hp
    intro he
    have : (keptV q.gs k (freedV q k s)) = [] := (List.append_eq_nil_iff.1 he).1
    rw [keptV, hf1] at this
    have h0 := (List.append_eq_nil_iff.1 this).1
    cases hw : s.ws with
    | nil => exact hne hw
    | cons y t =>
      have : (freedV q k s).ws = y :: t := hw
      rw [this] at h0; cases h0
  · have h1 := kept_len q.gs k (freedV q k s)
    have h2 := arr_le q k
    have h3 := filter_part (ordV q) (fun i => decide (atV q.gs i < (k : Int))) (fun i => decide (atV q.gs i = (k : Int))) (fun i => decide (atV q.gs i < ((k + 1 : Nat) : Int))) (fun i _ => by
        rw [← Bool.decide_or]; exact decide_eq_decide.2 (by omega)) (fun i _ hp => by
        have := of_decide_eq_true hp
        exact decide_eq_false (by omega))
    rw [h3]
    have h4 := h.wl
    have h5 : (freedV q k s).ws.length = s.ws.length := rfl
    show (keptV q.gs k (freedV q k s) ++ (ordV q).filter (arrV q.gs k)).length ≤ _
    rw [List.length_append]
    omega
theorem pass_ri {q : Qu} (hq : q.Ok) {k : Nat} {minute : Int} : ∀ (f : Nat) (rate : Int) (s : Cr), RI q k s → RI q k (passV q.gs minute f rate s)
  | 0, rate, s, h => h
  | f + 1, rate, s, h => by
    cases hw : s.ws with
    | nil => rw [passV_stop (.inr hw)]; exact h
    | cons i t =>
      by_cases hr : 0 < rate
      · cases hst : stopV q.gs i s
        · rw [passV_go hw hr hst]
          obtain ⟨ho, hp1, hp2, hf1, hf2⟩ := passOne_ok (minute := minute) hq h.ok hw hr hst
          have hff : frV q.gs i s ≤ s.free := by
            have := szV_rng hq (h.ok.ws i (by rw [hw]; simp))
            unfold frV
            cases decide (s.passing = 0) <;> simp only [cond_true, cond_false] <;> omega
          refine pass_ri hq f _ _ ⟨ho, fun hp => ?_, ?_, ?_⟩
          · unfold passOne at hp ⊢
            by_cases e : ppV q.gs i s - min rate (ppV q.gs i s) = 0
            · rw [decide_eq_true e] at hp
              simp only [cond_true] at hp
              omega
            · rw [decide_eq_false e]
              show s.ws ≠ []
              rw [hw]; simp
          · have h6 := h.wl
            unfold passOne
            cases decide (ppV q.gs i s - min rate (ppV q.gs i s) = 0)
            · exact h6
            · show t.length ≤ _
              rw [hw] at h6
              simp only [List.length_cons] at h6
              omega
          · have h7 := h.f
            unfold passOne
            cases decide (ppV q.gs i s - min rate (ppV q.gs i s) = 0)
            · show frV q.gs i s ≤ _; omega
            · show frV q.gs i s ≤ _; omega
        · rw [passV_halt hw hst]; exact h
      · rw [passV_stop (.inl (by omega))]; exact h
theorem run_ri {q : Qu} (hq : q.Ok) {rate more : Int} (hm : 0 ≤ more ∧ more ≤ 100000) : ∀ k : Nat, k ≤ 1441 → RI q k (runTo q rate more k)
  | 0, _ => by
    have := hq.s
    exact ⟨⟨(fun i hi => by cases hi), (by simp [runTo, open0]), (by simp [runTo, open0]), (by show 0 ≤ q.seats + more ∧ q.seats + more ≤ 1000000000000; omega)⟩, (fun hp => by simp [runTo, open0] at hp), Nat.zero_le _, (by show q.seats + more ≤ 110000 + 400000 * ((0 : Nat) : Int); omega)⟩
  | k + 1, hk => by
    have ih := run_ri hq (rate := rate) hm k (by omega)
    rw [runTo]
    unfold minuteV
    cases decide (q.opn ≤ (k : Int))
    · exact join_ri hq (by omega) ih
    · exact pass_ri hq _ _ _ (join_ri hq (by omega) ih)
theorem ws_le {q : Qu} {k : Nat} {s : Cr} (h : RI q k s) : s.ws.length ≤ q.gs.length := by
  have h1 := h.wl
  have h2 := List.length_filter_le (fun i => decide (atV q.gs i < (k : Int))) (ordV q)
  rw [ordV_len] at h2
  omega

structure RZ where
  (k : Nat) (x : CA)
structure RF where
  (j : Nat)
abbrev runL (q : Qu) (a : QA) (x : CA) (s : Cr) (b b0 : Nat) (R : List Ent) : List Ent := .blk b0 53 (q.cells a) :: .ro a.fA 2 q.fs.length (encF q.fs) :: (joinL q a x (ordV q) s b ++ R)
set_option maxHeartbeats 1000000 in
theorem C_gate_run (q : Qu) (a : QA) (rate more : Int) (hq : q.Ok) (hn : q.gs.length ≤ 12) (hr : 0 ≤ rate ∧ rate ≤ 100) (hm : 0 ≤ more ∧ more ≤ 100000) (w : World) (h : QRd w q a) :
    CR Try.prog 37 [q.val a, .int .i64 rate, .int .i64 more] w (fun _ : Option Addr × Nat => True) (fun p => .slice p.1 q.gs.length p.2) (fun p => [.own p.1 p.2 3 1 q.gs.length (enI (runV q rate more))]) := by
  have hqr := h
  obtain ⟨hg, hf, hgn, hfn⟩ := h
  refine ⟨en Try.func37 Try.ntmps37 (((St.init w).share (e := .ro a.gA 4 q.gs.length (encPt q.gs)) hg rfl rfl rfl).share (e := .ro a.fA 2 q.fs.length (encF q.fs)) hf rfl rfl rfl) (h := fun F => ?_)⟩
  refine sq (h := ?_)
  refine rg (h := ?_)
  refine bxA (h := fun b0 => ?_)
  refine WL.y (hy := asg) (h := ?_)
  refine nl (h := ?_)
  refine q_seq (h := ?_)
  refine sq (h := ?_)
  refine rg (h := ?_)
  refine WL.y (hy := (by first | exact ldA | exact ldEA)) (h := ?_)
  refine WL.y (hy := mv) (h := ?_)
  refine cl (hc := fun w hS => C_gate_open q a more hq hn hm w ⟨hS.get, hS.get, hgn, hfn⟩) (h := fun x0 _ => ?_)
  refine WL.y (hy := asg) (h := ?_)
  refine nl (h := ?_)
  refine q_seq (h := ?_)
  refine sq (h := ?_)
  refine sq (h := ?_)
  refine rg (h := ?_)
  refine WL.y (hy := mv) (h := ?_)
  refine nl (h := ?_)
  refine q_seq (h := ?_)
  refine bk (h := ?_)
  refine lp (X := RZ) (I := fun z => z.k ≤ 1441 ∧ RI q z.k (runTo q rate more z.k)) (le := fun z => [(1, .int .i64 rate), (3, .pointer (some ⟨b0, 0, none⟩)), (7, .pointer (some ⟨x0.1, 0, none⟩)), (14, .int .i64 z.k)]) (Le := fun z => runL q a z.x (runTo q rate more z.k) x0.1 b0 []) (μ := fun z => 1441 - z.k) ⟨0, x0.2⟩ ⟨Nat.zero_le _, run_ri hq hm 0 (Nat.zero_le _)⟩ (by repeat (first | exact trivial | refine ⟨rfl, ?_⟩)) (by repeat (first | exact SubL.nil | (apply SubL.cons; (repeat (first | exact At.here | apply At.there))) | exact SubL.refl _ | apply SubL.skip)) (fun z hz => ?_)
  obtain ⟨hz1, hz2⟩ := hz
  refine sq (h := ?_)
  refine rg (h := ?_)
  refine WL.y (hy := lss) (h := ?_)
  refine nl (h := ?_)
  refine q_seq (h := ?_)
  refine sq (h := ?_)
  refine cd (by exact rfl) (fun h0 => ?_) (fun h0 => ?_)
  · skip
    have hkn : z.k < 1441 := by simp only [decide_eq_true_eq] at h0; omega
    have hfr := freed_ri hq (by omega) hz2
    have hjr := join_ri hq (by omega) hz2
    have hwl := ws_le hz2
    have hwj := ws_le hjr
    have hfx := hz2.ok.f
    refine skp (h := ?_)
    refine q_seq (h := ?_)
    refine sq (h := ?_)
    refine bk (h := ?_)
    refine sq (h := ?_)
    refine rg (h := ?_)
    refine WL.y (hy := mv) (h := ?_)
    refine WL.y (hy := asg) (h := ?_)
    refine nl (h := ?_)
    refine q_seq (h := ?_)
    refine sq (h := ?_)
    refine sq (h := ?_)
    refine rg (h := ?_)
    refine WL.y (hy := (by first | exact fa | exact faE)) (h := ?_)
    refine WL.y (hy := (by first | exact ld | exact ldE)) (h := ?_)
    refine WL.y (hy := lenS) (h := ?_)
    refine WL.y (hy := mv) (h := ?_)
    refine nl (h := ?_)
    refine q_seq (h := ?_)
    refine bk (h := ?_)
    refine lp (X := RF) (I := fun y => y.j ≤ q.fs.length) (le := fun y => [(1, .int .i64 rate), (3, .pointer (some ⟨b0, 0, none⟩)), (7, .pointer (some ⟨x0.1, 0, none⟩)), (14, .int .i64 z.k), (8, .int .i64 z.k), (18, .slice a.fA q.fs.length a.fc), (19, .int .i64 q.fs.length), (20, .int .i64 y.j)]) (Le := fun y => runL q a z.x ⟨(runTo q rate more z.k).free + freeTo q.fs z.k y.j, (runTo q rate more z.k).passing, (runTo q rate more z.k).ws, (runTo q rate more z.k).inn⟩ x0.1 b0 []) (μ := fun y => q.fs.length - y.j) ⟨0⟩ (Nat.zero_le _) (by repeat (first | exact trivial | refine ⟨rfl, ?_⟩)) (by dsimp only [runL, freeTo]; rw [Int.add_zero]; repeat (first | exact SubL.nil | (apply SubL.cons; (repeat (first | exact At.here | apply At.there))) | exact SubL.refl _ | apply SubL.skip)) (fun y hy => ?_)
    refine sq (h := ?_)
    refine rg (h := ?_)
    refine WL.y (hy := lss) (h := ?_)
    refine nl (h := ?_)
    refine q_seq (h := ?_)
    refine sq (h := ?_)
    refine cd (by exact rfl) (fun h1 => ?_) (fun h1 => ?_)
    · skip
      have hjn : y.j < q.fs.length := by simp only [decide_eq_true_eq] at h1; omega
      obtain ⟨f, hf1⟩ : ∃ f, q.fs[y.j]? = some f := ⟨_, List.getElem?_eq_getElem hjn⟩
      have hfe := encF_at hf1
      have hfo := hq.fe f (List.mem_of_getElem? hf1)
      simp only [feOk, isT, Bool.and_eq_true, win_iff] at hfo
      have hft := freeTo_rng hq z.k y.j (by omega)
      have hjl40 := hq.f
      have hfs1 : freeTo q.fs z.k (y.j + 1) = freeTo q.fs z.k y.j + (bif decide (f.1 = (z.k : Int)) then f.2 else 0) := by rw [freeTo, hf1]
      refine skp (h := ?_)
      refine q_seq (h := ?_)
      refine sq (h := ?_)
      refine bk (h := ?_)
      refine sq (h := ?_)
      refine rg (h := ?_)
      refine WL.y (hy := ix (A := a.fA) (m := q.fs.length)) (h := ?_)
      refine WL.y (hy := ldEA (A := a.fA) (hk := hfe)) (h := ?_)
      refine al (h := fun uf => ?_)
      first | refine stA (h := ?_) | refine stEA (h := ?_)
      refine nl (h := ?_)
      refine q_seq (h := ?_)
      refine sq (h := ?_)
      refine rg (h := ?_)
      refine WL.y (hy := (by first | exact fa | exact faE)) (h := ?_)
      refine WL.y (hy := (by first | exact ld | exact ldE)) (h := ?_)
      refine WL.y (hy := mv) (h := ?_)
      refine WL.y (hy := eql) (h := ?_)
      refine nl (h := ?_)
      refine q_seq (h := ?_)
      refine cd (by exact rfl) (fun h2 => ?_) (fun h2 => ?_)
      · skip
        have hfs2 : (runTo q rate more z.k).free + freeTo q.fs z.k (y.j + 1) = (runTo q rate more z.k).free + freeTo q.fs z.k y.j + f.2 := by rw [hfs1, h2]; simp only [cond_true]; omega
        refine rgD (by kernel_rfl) [(9, .blk x0.1 116 (crC q a z.x (ordV q) ⟨(runTo q rate more z.k).free + freeTo q.fs z.k y.j, (runTo q rate more z.k).passing, (runTo q rate more z.k).ws, (runTo q rate more z.k).inn⟩)), (1000000, .blk uf 64 [.int .i64 f.1, .int .i64 f.2])] (by repeat (first | exact HS.nil | (apply HS.keep; (repeat (first | exact At.here | apply At.there))) | (apply HS.ro; (repeat (first | exact Rds.ro | exact Rds.own | apply Rds.there))))) (h := ?_)
        refine tk 0 (hy := mv) (h := ?_)
        refine tk 1 (hy := nck) (h := ?_)
        refine tk 2 (hy := (by first | exact fa | exact faE)) (h := ?_)
        refine tk 3 (hy := (by first | exact ld | exact ldE)) (h := ?_)
        refine tk 4 (hy := (by first | exact fa | exact faE)) (h := ?_)
        refine tk 5 (hy := (by first | exact ld | exact ldE)) (h := ?_)
        refine tk 6 (hy := addI (a := (runTo q rate more z.k).free + freeTo q.fs z.k y.j) (b := f.2) (hb := by omega)) (h := ?_)
        refine tk 7 (hy := nck) (h := ?_)
        refine tk 8 (hy := (by first | exact fa | exact faE)) (h := ?_)
        refine one 9 (h := ?_)
        first | refine st (h := ?_) | refine stE (h := ?_)
        refine nx (h := ?_)
        refine dn (h := ?_)
        refine q_blk_norm (h := ?_)
        refine q_seq (h := ?_)
        refine rg (h := ?_)
        refine WL.y (hy := addI) (h := ?_)
        refine WL.y (hy := mv) (h := ?_)
        refine nl (h := ?_)
        refine rn (x := y) ⟨y.j + 1⟩ (by dsimp only; omega) (by dsimp only; omega) (by repeat (first | exact trivial | refine ⟨rfl, ?_⟩)) (by dsimp only [runL]; rw [hfs2]; repeat (first | exact SubL.nil | (apply SubL.cons; (repeat (first | exact At.here | apply At.there))) | exact SubL.refl _ | apply SubL.skip))
      · skip
        have hfs2 : (runTo q rate more z.k).free + freeTo q.fs z.k (y.j + 1) = (runTo q rate more z.k).free + freeTo q.fs z.k y.j := by rw [hfs1, h2]; simp only [cond_false]; omega
        refine skp (h := ?_)
        refine q_blk_norm (h := ?_)
        refine q_seq (h := ?_)
        refine rg (h := ?_)
        refine WL.y (hy := addI) (h := ?_)
        refine WL.y (hy := mv) (h := ?_)
        refine nl (h := ?_)
        refine rn (x := y) ⟨y.j + 1⟩ (by dsimp only; omega) (by dsimp only; omega) (by repeat (first | exact trivial | refine ⟨rfl, ?_⟩)) (by dsimp only [runL]; rw [hfs2]; repeat (first | exact SubL.nil | (apply SubL.cons; (repeat (first | exact At.here | apply At.there))) | exact SubL.refl _ | apply SubL.skip))
    · skip
      have hjn : y.j = q.fs.length := by simp only [decide_eq_false_iff_not] at h1; omega
      rw [show (⟨(runTo q rate more z.k).free + freeTo q.fs z.k y.j, (runTo q rate more z.k).passing, (runTo q rate more z.k).ws, (runTo q rate more z.k).inn⟩ : Cr) = freedV q z.k (runTo q rate more z.k) by rw [hjn]; rfl]
      refine et (h := ?_)
      refine q_then_exit (h := ?_)
      refine q_then_exit (h := ?_)
      refine q_blk_hit (h := ?_)
      refine q_seq (h := ?_)
      refine sq (h := ?_)
      refine rg (h := ?_)
      refine WL.y (hy := mv) (h := ?_)
      refine WL.y (hy := mv) (h := ?_)
      refine clT (hc := T_join q a z.x (ordV q) (freedV q z.k (runTo q rate more z.k)) x0.1 z.k (fun i hi => ordV_mem.1 hi) hfr.1.ws (first_le hz2.pw) ⟨by show (runTo q rate more z.k).ws.length ≤ 1000; omega, by rw [ordV_len]; omega⟩) (hs := (by repeat (first | exact Spl.nil | (apply Spl.cons; (repeat (first | exact At.here | apply At.there)))))) (h := fun x1 _ => ?_)
      refine nl (h := ?_)
      refine q_seq (h := ?_)
      refine sq (h := ?_)
      refine rg (h := ?_)
      refine WL.y (hy := mv) (h := ?_)
      refine WL.y (hy := (by first | exact fa | exact faE)) (h := ?_)
      refine WL.y (hy := (by first | exact ld | exact ldE)) (h := ?_)
      refine WL.y (hy := geq) (h := ?_)
      refine nl (h := ?_)
      refine q_seq (h := ?_)
      refine cd (by exact rfl) (fun h3 => ?_) (fun h3 => ?_)
      · skip
        have hmin : runTo q rate more (z.k + 1) = passV q.gs z.k rate.toNat rate (joinV q.gs (ordV q) z.k (freedV q z.k (runTo q rate more z.k))) := by rw [runTo, minuteV, h3]; rfl
        refine rg (h := ?_)
        refine WL.y (hy := mv) (h := ?_)
        refine WL.y (hy := mv) (h := ?_)
        refine WL.y (hy := mv) (h := ?_)
        refine clT (hc := T_pass q a x1 (ordV q) (joinV q.gs (ordV q) z.k (freedV q z.k (runTo q rate more z.k))) x0.1 z.k rate hq hjr.ok hr (by omega)) (hs := (by repeat (first | exact Spl.nil | (apply Spl.cons; (repeat (first | exact At.here | apply At.there)))))) (h := fun x2 _ => ?_)
        refine nl (h := ?_)
        refine q_blk_norm (h := ?_)
        refine q_seq (h := ?_)
        refine rg (h := ?_)
        refine WL.y (hy := addI) (h := ?_)
        refine WL.y (hy := mv) (h := ?_)
        refine nl (h := ?_)
        first
          | (refine rn (x := z) ⟨z.k + 1, x2⟩ ⟨by dsimp only; omega, run_ri hq hm _ (by dsimp only; omega)⟩ (by dsimp only; omega) (by repeat (first | exact trivial | refine ⟨rfl, ?_⟩)) (by dsimp only [runL]; rw [hmin]; repeat (first | exact SubL.nil | (apply SubL.cons; (repeat (first | exact At.here | apply At.there))) | exact SubL.refl _ | apply SubL.skip)))
          | (refine rn (x := z) ⟨z.k + 1, x1⟩ ⟨by dsimp only; omega, run_ri hq hm _ (by dsimp only; omega)⟩ (by dsimp only; omega) (by repeat (first | exact trivial | refine ⟨rfl, ?_⟩)) (by dsimp only [runL]; rw [hmin]; repeat (first | exact SubL.nil | (apply SubL.cons; (repeat (first | exact At.here | apply At.there))) | exact SubL.refl _ | apply SubL.skip)))
      · skip
        have hmin : runTo q rate more (z.k + 1) = joinV q.gs (ordV q) z.k (freedV q z.k (runTo q rate more z.k)) := by rw [runTo, minuteV, h3]; rfl
        refine skp (h := ?_)
        refine q_blk_norm (h := ?_)
        refine q_seq (h := ?_)
        refine rg (h := ?_)
        refine WL.y (hy := addI) (h := ?_)
        refine WL.y (hy := mv) (h := ?_)
        refine nl (h := ?_)
        first
          | (refine rn (x := z) ⟨z.k + 1, x2⟩ ⟨by dsimp only; omega, run_ri hq hm _ (by dsimp only; omega)⟩ (by dsimp only; omega) (by repeat (first | exact trivial | refine ⟨rfl, ?_⟩)) (by dsimp only [runL]; rw [hmin]; repeat (first | exact SubL.nil | (apply SubL.cons; (repeat (first | exact At.here | apply At.there))) | exact SubL.refl _ | apply SubL.skip)))
          | (refine rn (x := z) ⟨z.k + 1, x1⟩ ⟨by dsimp only; omega, run_ri hq hm _ (by dsimp only; omega)⟩ (by dsimp only; omega) (by repeat (first | exact trivial | refine ⟨rfl, ?_⟩)) (by dsimp only [runL]; rw [hmin]; repeat (first | exact SubL.nil | (apply SubL.cons; (repeat (first | exact At.here | apply At.there))) | exact SubL.refl _ | apply SubL.skip)))
  · skip
    have hkn : z.k = 1441 := by simp only [decide_eq_false_iff_not] at h0; omega
    have hfin : (runTo q rate more z.k).inn = runV q rate more := by rw [hkn]; rfl
    have hil : (runTo q rate more z.k).inn.length = q.gs.length := hz2.ok.inn
    refine et (h := ?_)
    refine q_then_exit (h := ?_)
    refine q_then_exit (h := ?_)
    refine q_blk_hit (h := ?_)
    refine q_seq (h := ?_)
    refine sq (h := ?_)
    refine rg (h := ?_)
    refine WL.y (hy := mv) (h := ?_)
    refine WL.y (hy := nck) (h := ?_)
    refine WL.y (hy := (by first | exact fa | exact faE)) (h := ?_)
    refine WL.y (hy := (by first | exact ld | exact ldE)) (h := ?_)
    refine WL.y (hy := asg) (h := ?_)
    refine nl (h := ?_)
    refine q_seq (h := ?_)
    refine rtn (h := ?_)
    refine q_ret (hR := ?_)
    rw [← hfin, ← hil]
    exact fun w hS => ⟨(z.x.iA, z.x.ic), trivial, rfl, hS.sub (by repeat (first | exact SubL.nil | (apply SubL.cons; (repeat (first | exact At.here | apply At.there))) | exact SubL.refl _ | apply SubL.skip))⟩
end Go.Proofs.Ytngelilffleimaa
