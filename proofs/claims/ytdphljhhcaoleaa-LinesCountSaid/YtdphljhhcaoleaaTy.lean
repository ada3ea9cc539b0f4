/- The types and functions of this seat's program, as instances of the walk's classes; each is a closed fact that the kernel reckons. -/
import Derived.Test.YtdphljhhcaoleaaW9
import Derived.Test.YtdphljhhcaoleaaProg
import Derived.KernelRfl
namespace Go.Proofs.Ytdphljhhcaoleaa
open Go

-- 1 
instance : Ty Try.prog 1 false 1 8 (.nilFunc) [.nilFunc] := ⟨by kernel_rfl, by kernel_rfl, rfl, rfl⟩
-- 2 int64
instance : Ty Try.prog 2 false 1 8 (.int .i64 0) [.int .i64 0] := ⟨by kernel_rfl, by kernel_rfl, rfl, rfl⟩
-- 3 int
instance : Ty Try.prog 3 false 1 8 (.int .i64 0) [.int .i64 0] := ⟨by kernel_rfl, by kernel_rfl, rfl, rfl⟩
-- 4 bool
instance : Ty Try.prog 4 false 1 1 (.bool false) [.bool false] := ⟨by kernel_rfl, by kernel_rfl, rfl, rfl⟩
-- 5 uint8
instance : Ty Try.prog 5 false 1 1 (.int .u8 0) [.int .u8 0] := ⟨by kernel_rfl, by kernel_rfl, rfl, rfl⟩
-- 7 struct { x int64; y int; signed bool; code abi.BoundsErrorCode }
instance : Ty Try.prog 7 true 4 24 (.agg #[.int .i64 0, .int .i64 0, .bool false, .int .u8 0]) [.int .i64 0, .int .i64 0, .bool false, .int .u8 0] := ⟨by kernel_rfl, by kernel_rfl, rfl, rfl⟩
instance : FieldTy Try.prog 7 0 0 2 0 := ⟨by kernel_rfl, by kernel_rfl⟩
instance : FieldTy Try.prog 7 1 1 3 0 := ⟨by kernel_rfl, by kernel_rfl⟩
instance : FieldTy Try.prog 7 2 2 4 0 := ⟨by kernel_rfl, by kernel_rfl⟩
instance : FieldTy Try.prog 7 3 3 6 0 := ⟨by kernel_rfl, by kernel_rfl⟩
instance : BuildTy Try.prog 7 [(0, 1), (1, 1), (2, 1), (3, 1)] [.int .i64 0, .int .i64 0, .bool false, .int .u8 0] := ⟨fun parts => by kernel_rfl⟩
-- 9 string
instance : Ty Try.prog 9 false 1 16 (.string ByteArray.empty) [.string ByteArray.empty] := ⟨by kernel_rfl, by kernel_rfl, rfl, rfl⟩
-- 12 uintptr
instance : Ty Try.prog 12 false 1 8 (.int .u64 0) [.int .u64 0] := ⟨by kernel_rfl, by kernel_rfl, rfl, rfl⟩
-- 13 struct { msg string; addr uintptr }
instance : Ty Try.prog 13 true 2 24 (.agg #[.string ByteArray.empty, .int .u64 0]) [.string ByteArray.empty, .int .u64 0] := ⟨by kernel_rfl, by kernel_rfl, rfl, rfl⟩
instance : FieldTy Try.prog 13 0 0 9 0 := ⟨by kernel_rfl, by kernel_rfl⟩
instance : FieldTy Try.prog 13 1 1 12 0 := ⟨by kernel_rfl, by kernel_rfl⟩
instance : BuildTy Try.prog 13 [(0, 1), (1, 1)] [.string ByteArray.empty, .int .u64 0] := ⟨fun parts => by kernel_rfl⟩
-- 18 struct { typ *abi.Type }
instance : Ty Try.prog 18 true 1 8 (.agg #[.pointer none]) [.pointer none] := ⟨by kernel_rfl, by kernel_rfl, rfl, rfl⟩
instance : FieldTy Try.prog 18 0 0 17 0 := ⟨by kernel_rfl, by kernel_rfl⟩
instance : BuildTy Try.prog 18 [(0, 1)] [.pointer none] := ⟨fun parts => by kernel_rfl⟩
-- 20 
instance : Ty Try.prog 20 false 1 16 (.nilIface) [.nilIface] := ⟨by kernel_rfl, by kernel_rfl, rfl, rfl⟩
-- 21 int32
instance : Ty Try.prog 21 false 1 4 (.int .i32 0) [.int .i32 0] := ⟨by kernel_rfl, by kernel_rfl, rfl, rfl⟩
-- 22 []api.Strip
instance : Ty Try.prog 22 false 1 24 (.slice none 0 0) [.slice none 0 0] := ⟨by kernel_rfl, by kernel_rfl, rfl, rfl⟩
instance : SliceTy Try.prog 22 59 := ⟨by kernel_rfl⟩
-- 23 struct { Low int; High int }
instance : Ty Try.prog 23 true 2 16 (.agg #[.int .i64 0, .int .i64 0]) [.int .i64 0, .int .i64 0] := ⟨by kernel_rfl, by kernel_rfl, rfl, rfl⟩
instance : EqS Try.prog 23 2 := ⟨by kernel_rfl, by kernel_rfl, by kernel_rfl⟩
instance : FieldTy Try.prog 23 0 0 3 0 := ⟨by kernel_rfl, by kernel_rfl⟩
instance : FieldTy Try.prog 23 1 1 3 0 := ⟨by kernel_rfl, by kernel_rfl⟩
instance : BuildTy Try.prog 23 [(0, 1), (1, 1)] [.int .i64 0, .int .i64 0] := ⟨fun parts => by kernel_rfl⟩
-- 24 deuce/api.Span
instance : Ty Try.prog 24 true 2 16 (.agg #[.int .i64 0, .int .i64 0]) [.int .i64 0, .int .i64 0] := ⟨by kernel_rfl, by kernel_rfl, rfl, rfl⟩
instance : EqS Try.prog 24 2 := ⟨by kernel_rfl, by kernel_rfl, by kernel_rfl⟩
instance : FieldTy Try.prog 24 0 0 3 0 := ⟨by kernel_rfl, by kernel_rfl⟩
instance : FieldTy Try.prog 24 1 1 3 0 := ⟨by kernel_rfl, by kernel_rfl⟩
instance : BuildTy Try.prog 24 [(0, 1), (1, 1)] [.int .i64 0, .int .i64 0] := ⟨fun parts => by kernel_rfl⟩
-- 25 struct { Size int; Strips []api.Strip; Wrong int; HalfX api.Span; HalfY api.Span }
instance : Ty Try.prog 25 true 7 72 (.agg #[.int .i64 0, .slice none 0 0, .int .i64 0, .int .i64 0, .int .i64 0, .int .i64 0, .int .i64 0]) [.int .i64 0, .slice none 0 0, .int .i64 0, .int .i64 0, .int .i64 0, .int .i64 0, .int .i64 0] := ⟨by kernel_rfl, by kernel_rfl, rfl, rfl⟩
instance : FieldTy Try.prog 25 0 0 3 0 := ⟨by kernel_rfl, by kernel_rfl⟩
instance : FieldTy Try.prog 25 1 1 22 0 := ⟨by kernel_rfl, by kernel_rfl⟩
instance : FieldTy Try.prog 25 2 2 3 0 := ⟨by kernel_rfl, by kernel_rfl⟩
instance : FieldTy Try.prog 25 3 3 24 1 := ⟨by kernel_rfl, by kernel_rfl⟩
instance : FieldTy Try.prog 25 4 5 24 1 := ⟨by kernel_rfl, by kernel_rfl⟩
instance : BuildTy Try.prog 25 [(0, 1), (1, 1), (2, 1), (3, 2), (5, 2)] [.int .i64 0, .slice none 0 0, .int .i64 0, .int .i64 0, .int .i64 0, .int .i64 0, .int .i64 0] := ⟨fun parts => by kernel_rfl⟩
-- 26 deuce/api.View
instance : Ty Try.prog 26 true 7 72 (.agg #[.int .i64 0, .slice none 0 0, .int .i64 0, .int .i64 0, .int .i64 0, .int .i64 0, .int .i64 0]) [.int .i64 0, .slice none 0 0, .int .i64 0, .int .i64 0, .int .i64 0, .int .i64 0, .int .i64 0] := ⟨by kernel_rfl, by kernel_rfl, rfl, rfl⟩
instance : FieldTy Try.prog 26 0 0 3 0 := ⟨by kernel_rfl, by kernel_rfl⟩
instance : FieldTy Try.prog 26 1 1 22 0 := ⟨by kernel_rfl, by kernel_rfl⟩
instance : FieldTy Try.prog 26 2 2 3 0 := ⟨by kernel_rfl, by kernel_rfl⟩
instance : FieldTy Try.prog 26 3 3 24 1 := ⟨by kernel_rfl, by kernel_rfl⟩
instance : FieldTy Try.prog 26 4 5 24 1 := ⟨by kernel_rfl, by kernel_rfl⟩
instance : BuildTy Try.prog 26 [(0, 1), (1, 1), (2, 1), (3, 2), (5, 2)] [.int .i64 0, .slice none 0 0, .int .i64 0, .int .i64 0, .int .i64 0, .int .i64 0, .int .i64 0] := ⟨fun parts => by kernel_rfl⟩
-- 27 struct { Left int; Right int; Bottom int; Top int }
instance : Ty Try.prog 27 true 4 32 (.agg #[.int .i64 0, .int .i64 0, .int .i64 0, .int .i64 0]) [.int .i64 0, .int .i64 0, .int .i64 0, .int .i64 0] := ⟨by kernel_rfl, by kernel_rfl, rfl, rfl⟩
instance : EqS Try.prog 27 4 := ⟨by kernel_rfl, by kernel_rfl, by kernel_rfl⟩
instance : FieldTy Try.prog 27 0 0 3 0 := ⟨by kernel_rfl, by kernel_rfl⟩
instance : FieldTy Try.prog 27 1 1 3 0 := ⟨by kernel_rfl, by kernel_rfl⟩
instance : FieldTy Try.prog 27 2 2 3 0 := ⟨by kernel_rfl, by kernel_rfl⟩
instance : FieldTy Try.prog 27 3 3 3 0 := ⟨by kernel_rfl, by kernel_rfl⟩
instance : BuildTy Try.prog 27 [(0, 1), (1, 1), (2, 1), (3, 1)] [.int .i64 0, .int .i64 0, .int .i64 0, .int .i64 0] := ⟨fun parts => by kernel_rfl⟩
-- 28 deuce/api.Box
instance : Ty Try.prog 28 true 4 32 (.agg #[.int .i64 0, .int .i64 0, .int .i64 0, .int .i64 0]) [.int .i64 0, .int .i64 0, .int .i64 0, .int .i64 0] := ⟨by kernel_rfl, by kernel_rfl, rfl, rfl⟩
instance : EqS Try.prog 28 4 := ⟨by kernel_rfl, by kernel_rfl, by kernel_rfl⟩
instance : FieldTy Try.prog 28 0 0 3 0 := ⟨by kernel_rfl, by kernel_rfl⟩
instance : FieldTy Try.prog 28 1 1 3 0 := ⟨by kernel_rfl, by kernel_rfl⟩
instance : FieldTy Try.prog 28 2 2 3 0 := ⟨by kernel_rfl, by kernel_rfl⟩
instance : FieldTy Try.prog 28 3 3 3 0 := ⟨by kernel_rfl, by kernel_rfl⟩
instance : BuildTy Try.prog 28 [(0, 1), (1, 1), (2, 1), (3, 1)] [.int .i64 0, .int .i64 0, .int .i64 0, .int .i64 0] := ⟨fun parts => by kernel_rfl⟩
-- 29 struct { Wrong int; Strips int; Axes int; Without int }
instance : Ty Try.prog 29 true 4 32 (.agg #[.int .i64 0, .int .i64 0, .int .i64 0, .int .i64 0]) [.int .i64 0, .int .i64 0, .int .i64 0, .int .i64 0] := ⟨by kernel_rfl, by kernel_rfl, rfl, rfl⟩
instance : EqS Try.prog 29 4 := ⟨by kernel_rfl, by kernel_rfl, by kernel_rfl⟩
instance : FieldTy Try.prog 29 0 0 3 0 := ⟨by kernel_rfl, by kernel_rfl⟩
instance : FieldTy Try.prog 29 1 1 3 0 := ⟨by kernel_rfl, by kernel_rfl⟩
instance : FieldTy Try.prog 29 2 2 3 0 := ⟨by kernel_rfl, by kernel_rfl⟩
instance : FieldTy Try.prog 29 3 3 3 0 := ⟨by kernel_rfl, by kernel_rfl⟩
instance : BuildTy Try.prog 29 [(0, 1), (1, 1), (2, 1), (3, 1)] [.int .i64 0, .int .i64 0, .int .i64 0, .int .i64 0] := ⟨fun parts => by kernel_rfl⟩
-- 30 deuce/deucelaw02.Loose
instance : Ty Try.prog 30 true 4 32 (.agg #[.int .i64 0, .int .i64 0, .int .i64 0, .int .i64 0]) [.int .i64 0, .int .i64 0, .int .i64 0, .int .i64 0] := ⟨by kernel_rfl, by kernel_rfl, rfl, rfl⟩
instance : EqS Try.prog 30 4 := ⟨by kernel_rfl, by kernel_rfl, by kernel_rfl⟩
instance : FieldTy Try.prog 30 0 0 3 0 := ⟨by kernel_rfl, by kernel_rfl⟩
instance : FieldTy Try.prog 30 1 1 3 0 := ⟨by kernel_rfl, by kernel_rfl⟩
instance : FieldTy Try.prog 30 2 2 3 0 := ⟨by kernel_rfl, by kernel_rfl⟩
instance : FieldTy Try.prog 30 3 3 3 0 := ⟨by kernel_rfl, by kernel_rfl⟩
instance : BuildTy Try.prog 30 [(0, 1), (1, 1), (2, 1), (3, 1)] [.int .i64 0, .int .i64 0, .int .i64 0, .int .i64 0] := ⟨fun parts => by kernel_rfl⟩
-- 31 
instance : Ty Try.prog 31 false 1 8 (.nilFunc) [.nilFunc] := ⟨by kernel_rfl, by kernel_rfl, rfl, rfl⟩
-- 32 
instance : Ty Try.prog 32 false 1 8 (.nilFunc) [.nilFunc] := ⟨by kernel_rfl, by kernel_rfl, rfl, rfl⟩
-- 33 
instance : Ty Try.prog 33 false 1 8 (.nilFunc) [.nilFunc] := ⟨by kernel_rfl, by kernel_rfl, rfl, rfl⟩
-- 34 deuce/api.Errno
instance : Ty Try.prog 34 false 1 8 (.int .i64 0) [.int .i64 0] := ⟨by kernel_rfl, by kernel_rfl, rfl, rfl⟩
-- 35 
instance : Ty Try.prog 35 false 1 8 (.nilFunc) [.nilFunc] := ⟨by kernel_rfl, by kernel_rfl, rfl, rfl⟩
-- 37 
instance : Ty Try.prog 37 false 1 8 (.nilFunc) [.nilFunc] := ⟨by kernel_rfl, by kernel_rfl, rfl, rfl⟩
-- 39 
instance : Ty Try.prog 39 false 1 8 (.nilFunc) [.nilFunc] := ⟨by kernel_rfl, by kernel_rfl, rfl, rfl⟩
-- 40 
instance : Ty Try.prog 40 false 1 8 (.nilFunc) [.nilFunc] := ⟨by kernel_rfl, by kernel_rfl, rfl, rfl⟩
-- 41 
instance : Ty Try.prog 41 false 1 8 (.nilFunc) [.nilFunc] := ⟨by kernel_rfl, by kernel_rfl, rfl, rfl⟩
-- 42 
instance : Ty Try.prog 42 false 1 8 (.nilFunc) [.nilFunc] := ⟨by kernel_rfl, by kernel_rfl, rfl, rfl⟩
-- 43 
instance : Ty Try.prog 43 false 1 8 (.nilFunc) [.nilFunc] := ⟨by kernel_rfl, by kernel_rfl, rfl, rfl⟩
-- 44 struct { X int; Y int; HalfX int; HalfY int }
instance : Ty Try.prog 44 true 4 32 (.agg #[.int .i64 0, .int .i64 0, .int .i64 0, .int .i64 0]) [.int .i64 0, .int .i64 0, .int .i64 0, .int .i64 0] := ⟨by kernel_rfl, by kernel_rfl, rfl, rfl⟩
instance : EqS Try.prog 44 4 := ⟨by kernel_rfl, by kernel_rfl, by kernel_rfl⟩
instance : FieldTy Try.prog 44 0 0 3 0 := ⟨by kernel_rfl, by kernel_rfl⟩
instance : FieldTy Try.prog 44 1 1 3 0 := ⟨by kernel_rfl, by kernel_rfl⟩
instance : FieldTy Try.prog 44 2 2 3 0 := ⟨by kernel_rfl, by kernel_rfl⟩
instance : FieldTy Try.prog 44 3 3 3 0 := ⟨by kernel_rfl, by kernel_rfl⟩
instance : BuildTy Try.prog 44 [(0, 1), (1, 1), (2, 1), (3, 1)] [.int .i64 0, .int .i64 0, .int .i64 0, .int .i64 0] := ⟨fun parts => by kernel_rfl⟩
-- 45 deuce/api.Mark
instance : Ty Try.prog 45 true 4 32 (.agg #[.int .i64 0, .int .i64 0, .int .i64 0, .int .i64 0]) [.int .i64 0, .int .i64 0, .int .i64 0, .int .i64 0] := ⟨by kernel_rfl, by kernel_rfl, rfl, rfl⟩
instance : EqS Try.prog 45 4 := ⟨by kernel_rfl, by kernel_rfl, by kernel_rfl⟩
instance : FieldTy Try.prog 45 0 0 3 0 := ⟨by kernel_rfl, by kernel_rfl⟩
instance : FieldTy Try.prog 45 1 1 3 0 := ⟨by kernel_rfl, by kernel_rfl⟩
instance : FieldTy Try.prog 45 2 2 3 0 := ⟨by kernel_rfl, by kernel_rfl⟩
instance : FieldTy Try.prog 45 3 3 3 0 := ⟨by kernel_rfl, by kernel_rfl⟩
instance : BuildTy Try.prog 45 [(0, 1), (1, 1), (2, 1), (3, 1)] [.int .i64 0, .int .i64 0, .int .i64 0, .int .i64 0] := ⟨fun parts => by kernel_rfl⟩
-- 47 
instance : Ty Try.prog 47 false 1 8 (.nilFunc) [.nilFunc] := ⟨by kernel_rfl, by kernel_rfl, rfl, rfl⟩
-- 48 
instance : Ty Try.prog 48 false 1 8 (.nilFunc) [.nilFunc] := ⟨by kernel_rfl, by kernel_rfl, rfl, rfl⟩
-- 49 
instance : Ty Try.prog 49 false 1 8 (.nilFunc) [.nilFunc] := ⟨by kernel_rfl, by kernel_rfl, rfl, rfl⟩
-- 50 
instance : Ty Try.prog 50 false 1 8 (.nilFunc) [.nilFunc] := ⟨by kernel_rfl, by kernel_rfl, rfl, rfl⟩
-- 51 
instance : Ty Try.prog 51 false 1 8 (.nilFunc) [.nilFunc] := ⟨by kernel_rfl, by kernel_rfl, rfl, rfl⟩
-- 52 
instance : Ty Try.prog 52 false 1 8 (.nilFunc) [.nilFunc] := ⟨by kernel_rfl, by kernel_rfl, rfl, rfl⟩
-- 54 
instance : Ty Try.prog 54 false 1 8 (.nilFunc) [.nilFunc] := ⟨by kernel_rfl, by kernel_rfl, rfl, rfl⟩
-- 55 []int
instance : Ty Try.prog 55 false 1 24 (.slice none 0 0) [.slice none 0 0] := ⟨by kernel_rfl, by kernel_rfl, rfl, rfl⟩
instance : SliceTy Try.prog 55 3 := ⟨by kernel_rfl⟩
-- 57 
instance : Ty Try.prog 57 false 1 8 (.nilFunc) [.nilFunc] := ⟨by kernel_rfl, by kernel_rfl, rfl, rfl⟩
-- 58 struct { P int; Q int; Low int; High int }
instance : Ty Try.prog 58 true 4 32 (.agg #[.int .i64 0, .int .i64 0, .int .i64 0, .int .i64 0]) [.int .i64 0, .int .i64 0, .int .i64 0, .int .i64 0] := ⟨by kernel_rfl, by kernel_rfl, rfl, rfl⟩
instance : EqS Try.prog 58 4 := ⟨by kernel_rfl, by kernel_rfl, by kernel_rfl⟩
instance : FieldTy Try.prog 58 0 0 3 0 := ⟨by kernel_rfl, by kernel_rfl⟩
instance : FieldTy Try.prog 58 1 1 3 0 := ⟨by kernel_rfl, by kernel_rfl⟩
instance : FieldTy Try.prog 58 2 2 3 0 := ⟨by kernel_rfl, by kernel_rfl⟩
instance : FieldTy Try.prog 58 3 3 3 0 := ⟨by kernel_rfl, by kernel_rfl⟩
instance : BuildTy Try.prog 58 [(0, 1), (1, 1), (2, 1), (3, 1)] [.int .i64 0, .int .i64 0, .int .i64 0, .int .i64 0] := ⟨fun parts => by kernel_rfl⟩
-- 59 deuce/api.Strip
instance : Ty Try.prog 59 true 4 32 (.agg #[.int .i64 0, .int .i64 0, .int .i64 0, .int .i64 0]) [.int .i64 0, .int .i64 0, .int .i64 0, .int .i64 0] := ⟨by kernel_rfl, by kernel_rfl, rfl, rfl⟩
instance : EqS Try.prog 59 4 := ⟨by kernel_rfl, by kernel_rfl, by kernel_rfl⟩
instance : FieldTy Try.prog 59 0 0 3 0 := ⟨by kernel_rfl, by kernel_rfl⟩
instance : FieldTy Try.prog 59 1 1 3 0 := ⟨by kernel_rfl, by kernel_rfl⟩
instance : FieldTy Try.prog 59 2 2 3 0 := ⟨by kernel_rfl, by kernel_rfl⟩
instance : FieldTy Try.prog 59 3 3 3 0 := ⟨by kernel_rfl, by kernel_rfl⟩
instance : BuildTy Try.prog 59 [(0, 1), (1, 1), (2, 1), (3, 1)] [.int .i64 0, .int .i64 0, .int .i64 0, .int .i64 0] := ⟨fun parts => by kernel_rfl⟩
-- 60 
instance : Ty Try.prog 60 false 1 8 (.nilFunc) [.nilFunc] := ⟨by kernel_rfl, by kernel_rfl, rfl, rfl⟩
-- 61 
instance : Ty Try.prog 61 false 1 8 (.nilFunc) [.nilFunc] := ⟨by kernel_rfl, by kernel_rfl, rfl, rfl⟩
-- 62 
instance : Ty Try.prog 62 false 1 8 (.nilFunc) [.nilFunc] := ⟨by kernel_rfl, by kernel_rfl, rfl, rfl⟩
-- 63 struct { Each int; More int }
instance : Ty Try.prog 63 true 2 16 (.agg #[.int .i64 0, .int .i64 0]) [.int .i64 0, .int .i64 0] := ⟨by kernel_rfl, by kernel_rfl, rfl, rfl⟩
instance : EqS Try.prog 63 2 := ⟨by kernel_rfl, by kernel_rfl, by kernel_rfl⟩
instance : FieldTy Try.prog 63 0 0 3 0 := ⟨by kernel_rfl, by kernel_rfl⟩
instance : FieldTy Try.prog 63 1 1 3 0 := ⟨by kernel_rfl, by kernel_rfl⟩
instance : BuildTy Try.prog 63 [(0, 1), (1, 1)] [.int .i64 0, .int .i64 0] := ⟨fun parts => by kernel_rfl⟩
-- 64 deuce/api.Rule
instance : Ty Try.prog 64 true 2 16 (.agg #[.int .i64 0, .int .i64 0]) [.int .i64 0, .int .i64 0] := ⟨by kernel_rfl, by kernel_rfl, rfl, rfl⟩
instance : EqS Try.prog 64 2 := ⟨by kernel_rfl, by kernel_rfl, by kernel_rfl⟩
instance : FieldTy Try.prog 64 0 0 3 0 := ⟨by kernel_rfl, by kernel_rfl⟩
instance : FieldTy Try.prog 64 1 1 3 0 := ⟨by kernel_rfl, by kernel_rfl⟩
instance : BuildTy Try.prog 64 [(0, 1), (1, 1)] [.int .i64 0, .int .i64 0] := ⟨fun parts => by kernel_rfl⟩
-- 65 []api.Appeal
instance : Ty Try.prog 65 false 1 24 (.slice none 0 0) [.slice none 0 0] := ⟨by kernel_rfl, by kernel_rfl, rfl, rfl⟩
instance : SliceTy Try.prog 65 68 := ⟨by kernel_rfl⟩
-- 66 [2]int
instance : Ty Try.prog 66 true 2 16 (.agg #[.int .i64 0, .int .i64 0]) [.int .i64 0, .int .i64 0] := ⟨by kernel_rfl, by kernel_rfl, rfl, rfl⟩
instance : ArrayTy Try.prog 66 2 3 := ⟨by kernel_rfl⟩
instance : EqA Try.prog 66 2 := ⟨by kernel_rfl, by kernel_rfl, by kernel_rfl, by kernel_rfl⟩
-- 67 struct { Kind int; Side int; Said int; View api.View; Box api.Box }
instance : Ty Try.prog 67 true 14 128 (.agg #[.int .i64 0, .int .i64 0, .int .i64 0, .int .i64 0, .slice none 0 0, .int .i64 0, .int .i64 0, .int .i64 0, .int .i64 0, .int .i64 0, .int .i64 0, .int .i64 0, .int .i64 0, .int .i64 0]) [.int .i64 0, .int .i64 0, .int .i64 0, .int .i64 0, .slice none 0 0, .int .i64 0, .int .i64 0, .int .i64 0, .int .i64 0, .int .i64 0, .int .i64 0, .int .i64 0, .int .i64 0, .int .i64 0] := ⟨by kernel_rfl, by kernel_rfl, rfl, rfl⟩
instance : FieldTy Try.prog 67 0 0 3 0 := ⟨by kernel_rfl, by kernel_rfl⟩
instance : FieldTy Try.prog 67 1 1 3 0 := ⟨by kernel_rfl, by kernel_rfl⟩
instance : FieldTy Try.prog 67 2 2 3 0 := ⟨by kernel_rfl, by kernel_rfl⟩
instance : FieldTy Try.prog 67 3 3 26 6 := ⟨by kernel_rfl, by kernel_rfl⟩
instance : FieldTy Try.prog 67 4 10 28 3 := ⟨by kernel_rfl, by kernel_rfl⟩
instance : BuildTy Try.prog 67 [(0, 1), (1, 1), (2, 1), (3, 7), (10, 4)] [.int .i64 0, .int .i64 0, .int .i64 0, .int .i64 0, .slice none 0 0, .int .i64 0, .int .i64 0, .int .i64 0, .int .i64 0, .int .i64 0, .int .i64 0, .int .i64 0, .int .i64 0, .int .i64 0] := ⟨fun parts => by kernel_rfl⟩
-- 68 deuce/api.Appeal
instance : Ty Try.prog 68 true 14 128 (.agg #[.int .i64 0, .int .i64 0, .int .i64 0, .int .i64 0, .slice none 0 0, .int .i64 0, .int .i64 0, .int .i64 0, .int .i64 0, .int .i64 0, .int .i64 0, .int .i64 0, .int .i64 0, .int .i64 0]) [.int .i64 0, .int .i64 0, .int .i64 0, .int .i64 0, .slice none 0 0, .int .i64 0, .int .i64 0, .int .i64 0, .int .i64 0, .int .i64 0, .int .i64 0, .int .i64 0, .int .i64 0, .int .i64 0] := ⟨by kernel_rfl, by kernel_rfl, rfl, rfl⟩
instance : FieldTy Try.prog 68 0 0 3 0 := ⟨by kernel_rfl, by kernel_rfl⟩
instance : FieldTy Try.prog 68 1 1 3 0 := ⟨by kernel_rfl, by kernel_rfl⟩
instance : FieldTy Try.prog 68 2 2 3 0 := ⟨by kernel_rfl, by kernel_rfl⟩
instance : FieldTy Try.prog 68 3 3 26 6 := ⟨by kernel_rfl, by kernel_rfl⟩
instance : FieldTy Try.prog 68 4 10 28 3 := ⟨by kernel_rfl, by kernel_rfl⟩
instance : BuildTy Try.prog 68 [(0, 1), (1, 1), (2, 1), (3, 7), (10, 4)] [.int .i64 0, .int .i64 0, .int .i64 0, .int .i64 0, .slice none 0 0, .int .i64 0, .int .i64 0, .int .i64 0, .int .i64 0, .int .i64 0, .int .i64 0, .int .i64 0, .int .i64 0, .int .i64 0] := ⟨fun parts => by kernel_rfl⟩
-- 70 
instance : Ty Try.prog 70 false 1 8 (.nilFunc) [.nilFunc] := ⟨by kernel_rfl, by kernel_rfl, rfl, rfl⟩
-- 72 
instance : Ty Try.prog 72 false 1 8 (.nilFunc) [.nilFunc] := ⟨by kernel_rfl, by kernel_rfl, rfl, rfl⟩
-- 73 
instance : Ty Try.prog 73 false 1 8 (.nilFunc) [.nilFunc] := ⟨by kernel_rfl, by kernel_rfl, rfl, rfl⟩
-- 74 
instance : Ty Try.prog 74 false 1 8 (.nilFunc) [.nilFunc] := ⟨by kernel_rfl, by kernel_rfl, rfl, rfl⟩
-- 75 
instance : Ty Try.prog 75 false 1 8 (.nilFunc) [.nilFunc] := ⟨by kernel_rfl, by kernel_rfl, rfl, rfl⟩
-- 77 
instance : Ty Try.prog 77 false 1 8 (.nilFunc) [.nilFunc] := ⟨by kernel_rfl, by kernel_rfl, rfl, rfl⟩
-- 78 
instance : Ty Try.prog 78 false 1 8 (.nilFunc) [.nilFunc] := ⟨by kernel_rfl, by kernel_rfl, rfl, rfl⟩
-- 79 
instance : Ty Try.prog 79 false 1 8 (.nilFunc) [.nilFunc] := ⟨by kernel_rfl, by kernel_rfl, rfl, rfl⟩
-- 80 
instance : Ty Try.prog 80 false 1 8 (.nilFunc) [.nilFunc] := ⟨by kernel_rfl, by kernel_rfl, rfl, rfl⟩
-- 81 []lines.point
instance : Ty Try.prog 81 false 1 24 (.slice none 0 0) [.slice none 0 0] := ⟨by kernel_rfl, by kernel_rfl, rfl, rfl⟩
instance : SliceTy Try.prog 81 85 := ⟨by kernel_rfl⟩
-- 83 
instance : Ty Try.prog 83 false 1 8 (.nilFunc) [.nilFunc] := ⟨by kernel_rfl, by kernel_rfl, rfl, rfl⟩
-- 84 struct { x int; y int }
instance : Ty Try.prog 84 true 2 16 (.agg #[.int .i64 0, .int .i64 0]) [.int .i64 0, .int .i64 0] := ⟨by kernel_rfl, by kernel_rfl, rfl, rfl⟩
instance : EqS Try.prog 84 2 := ⟨by kernel_rfl, by kernel_rfl, by kernel_rfl⟩
instance : FieldTy Try.prog 84 0 0 3 0 := ⟨by kernel_rfl, by kernel_rfl⟩
instance : FieldTy Try.prog 84 1 1 3 0 := ⟨by kernel_rfl, by kernel_rfl⟩
instance : BuildTy Try.prog 84 [(0, 1), (1, 1)] [.int .i64 0, .int .i64 0] := ⟨fun parts => by kernel_rfl⟩
-- 85 deuce/lines.point
instance : Ty Try.prog 85 true 2 16 (.agg #[.int .i64 0, .int .i64 0]) [.int .i64 0, .int .i64 0] := ⟨by kernel_rfl, by kernel_rfl, rfl, rfl⟩
instance : EqS Try.prog 85 2 := ⟨by kernel_rfl, by kernel_rfl, by kernel_rfl⟩
instance : FieldTy Try.prog 85 0 0 3 0 := ⟨by kernel_rfl, by kernel_rfl⟩
instance : FieldTy Try.prog 85 1 1 3 0 := ⟨by kernel_rfl, by kernel_rfl⟩
instance : BuildTy Try.prog 85 [(0, 1), (1, 1)] [.int .i64 0, .int .i64 0] := ⟨fun parts => by kernel_rfl⟩
-- 86 
instance : Ty Try.prog 86 false 1 8 (.nilFunc) [.nilFunc] := ⟨by kernel_rfl, by kernel_rfl, rfl, rfl⟩
-- 87 
instance : Ty Try.prog 87 false 1 8 (.nilFunc) [.nilFunc] := ⟨by kernel_rfl, by kernel_rfl, rfl, rfl⟩
-- 88 
instance : Ty Try.prog 88 false 1 8 (.nilFunc) [.nilFunc] := ⟨by kernel_rfl, by kernel_rfl, rfl, rfl⟩
-- 89 
instance : Ty Try.prog 89 false 1 8 (.nilFunc) [.nilFunc] := ⟨by kernel_rfl, by kernel_rfl, rfl, rfl⟩
-- 90 
instance : Ty Try.prog 90 false 1 8 (.nilFunc) [.nilFunc] := ⟨by kernel_rfl, by kernel_rfl, rfl, rfl⟩
-- 91 
instance : Ty Try.prog 91 false 1 8 (.nilFunc) [.nilFunc] := ⟨by kernel_rfl, by kernel_rfl, rfl, rfl⟩
-- 92 
instance : Ty Try.prog 92 false 1 8 (.nilFunc) [.nilFunc] := ⟨by kernel_rfl, by kernel_rfl, rfl, rfl⟩
-- 93 
instance : Ty Try.prog 93 false 1 8 (.nilFunc) [.nilFunc] := ⟨by kernel_rfl, by kernel_rfl, rfl, rfl⟩
-- 94 []api.Mark
instance : Ty Try.prog 94 false 1 24 (.slice none 0 0) [.slice none 0 0] := ⟨by kernel_rfl, by kernel_rfl, rfl, rfl⟩
instance : SliceTy Try.prog 94 45 := ⟨by kernel_rfl⟩
-- 95 
instance : Ty Try.prog 95 false 1 8 (.nilFunc) [.nilFunc] := ⟨by kernel_rfl, by kernel_rfl, rfl, rfl⟩
-- 96 
instance : Ty Try.prog 96 false 1 8 (.nilFunc) [.nilFunc] := ⟨by kernel_rfl, by kernel_rfl, rfl, rfl⟩
-- 97 
instance : Ty Try.prog 97 false 1 8 (.nilFunc) [.nilFunc] := ⟨by kernel_rfl, by kernel_rfl, rfl, rfl⟩
-- 98 
instance : Ty Try.prog 98 false 1 8 (.nilFunc) [.nilFunc] := ⟨by kernel_rfl, by kernel_rfl, rfl, rfl⟩
-- 99 
instance : Ty Try.prog 99 false 1 8 (.nilFunc) [.nilFunc] := ⟨by kernel_rfl, by kernel_rfl, rfl, rfl⟩
-- 100 
instance : Ty Try.prog 100 false 1 8 (.nilFunc) [.nilFunc] := ⟨by kernel_rfl, by kernel_rfl, rfl, rfl⟩
-- 101 
instance : Ty Try.prog 101 false 1 8 (.nilFunc) [.nilFunc] := ⟨by kernel_rfl, by kernel_rfl, rfl, rfl⟩
-- 102 
instance : Ty Try.prog 102 false 1 8 (.nilFunc) [.nilFunc] := ⟨by kernel_rfl, by kernel_rfl, rfl, rfl⟩
-- 103 
instance : Ty Try.prog 103 false 1 8 (.nilFunc) [.nilFunc] := ⟨by kernel_rfl, by kernel_rfl, rfl, rfl⟩
-- 104 
instance : Ty Try.prog 104 false 1 8 (.nilFunc) [.nilFunc] := ⟨by kernel_rfl, by kernel_rfl, rfl, rfl⟩
-- 105 
instance : Ty Try.prog 105 false 1 8 (.nilFunc) [.nilFunc] := ⟨by kernel_rfl, by kernel_rfl, rfl, rfl⟩
-- 106 
instance : Ty Try.prog 106 false 1 8 (.nilFunc) [.nilFunc] := ⟨by kernel_rfl, by kernel_rfl, rfl, rfl⟩
-- 107 
instance : Ty Try.prog 107 false 1 8 (.nilFunc) [.nilFunc] := ⟨by kernel_rfl, by kernel_rfl, rfl, rfl⟩
-- 108 
instance : Ty Try.prog 108 false 1 8 (.nilFunc) [.nilFunc] := ⟨by kernel_rfl, by kernel_rfl, rfl, rfl⟩
-- 109 
instance : Ty Try.prog 109 false 1 8 (.nilFunc) [.nilFunc] := ⟨by kernel_rfl, by kernel_rfl, rfl, rfl⟩
-- 110 struct { _interface *abi.Type; concrete *abi.Type; asserted *abi.Type; missingMethod string }
instance : Ty Try.prog 110 true 4 40 (.agg #[.pointer none, .pointer none, .pointer none, .string ByteArray.empty]) [.pointer none, .pointer none, .pointer none, .string ByteArray.empty] := ⟨by kernel_rfl, by kernel_rfl, rfl, rfl⟩
instance : FieldTy Try.prog 110 0 0 17 0 := ⟨by kernel_rfl, by kernel_rfl⟩
instance : FieldTy Try.prog 110 1 1 17 0 := ⟨by kernel_rfl, by kernel_rfl⟩
instance : FieldTy Try.prog 110 2 2 17 0 := ⟨by kernel_rfl, by kernel_rfl⟩
instance : FieldTy Try.prog 110 3 3 9 0 := ⟨by kernel_rfl, by kernel_rfl⟩
instance : BuildTy Try.prog 110 [(0, 1), (1, 1), (2, 1), (3, 1)] [.pointer none, .pointer none, .pointer none, .string ByteArray.empty] := ⟨fun parts => by kernel_rfl⟩
-- 112 [0]*runtime.PanicNilError
instance : Ty Try.prog 112 true 0 0 (.agg #[]) [] := ⟨by kernel_rfl, by kernel_rfl, rfl, rfl⟩
instance : ArrayTy Try.prog 112 0 16 := ⟨by kernel_rfl⟩
-- 113 struct { _ [0]*runtime.PanicNilError }
instance : Ty Try.prog 113 true 0 0 (.agg #[]) [] := ⟨by kernel_rfl, by kernel_rfl, rfl, rfl⟩
-- 115 
instance : Ty Try.prog 115 false 1 8 (.nilFunc) [.nilFunc] := ⟨by kernel_rfl, by kernel_rfl, rfl, rfl⟩
-- 116 uint32
instance : Ty Try.prog 116 false 1 4 (.int .u32 0) [.int .u32 0] := ⟨by kernel_rfl, by kernel_rfl, rfl, rfl⟩
-- 119 
instance : Ty Try.prog 119 false 1 8 (.nilFunc) [.nilFunc] := ⟨by kernel_rfl, by kernel_rfl, rfl, rfl⟩
-- 120 *uint8
instance : Ty Try.prog 120 false 1 8 (.pointer none) [.pointer none] := ⟨by kernel_rfl, by kernel_rfl, rfl, rfl⟩
-- 123 struct { Size_ uintptr; PtrBytes uintptr; Hash uint32; TFlag abi.TFlag; Align_ uint8; FieldAlign_ uint8; Kind_ abi.Kind; Equal func(unsafe.Pointer, unsafe.Pointer) bool; GCData *uint8; Str abi.NameOff; PtrToThis abi.TypeOff }
instance : Ty Try.prog 123 true 11 48 (.agg #[.int .u64 0, .int .u64 0, .int .u32 0, .int .u8 0, .int .u8 0, .int .u8 0, .int .u8 0, .nilFunc, .pointer none, .int .i32 0, .int .i32 0]) [.int .u64 0, .int .u64 0, .int .u32 0, .int .u8 0, .int .u8 0, .int .u8 0, .int .u8 0, .nilFunc, .pointer none, .int .i32 0, .int .i32 0] := ⟨by kernel_rfl, by kernel_rfl, rfl, rfl⟩
instance : FieldTy Try.prog 123 0 0 12 0 := ⟨by kernel_rfl, by kernel_rfl⟩
instance : FieldTy Try.prog 123 1 1 12 0 := ⟨by kernel_rfl, by kernel_rfl⟩
instance : FieldTy Try.prog 123 2 2 116 0 := ⟨by kernel_rfl, by kernel_rfl⟩
instance : FieldTy Try.prog 123 3 3 117 0 := ⟨by kernel_rfl, by kernel_rfl⟩
instance : FieldTy Try.prog 123 4 4 5 0 := ⟨by kernel_rfl, by kernel_rfl⟩
instance : FieldTy Try.prog 123 5 5 5 0 := ⟨by kernel_rfl, by kernel_rfl⟩
instance : FieldTy Try.prog 123 6 6 118 0 := ⟨by kernel_rfl, by kernel_rfl⟩
instance : FieldTy Try.prog 123 7 7 119 0 := ⟨by kernel_rfl, by kernel_rfl⟩
instance : FieldTy Try.prog 123 8 8 120 0 := ⟨by kernel_rfl, by kernel_rfl⟩
instance : FieldTy Try.prog 123 9 9 121 0 := ⟨by kernel_rfl, by kernel_rfl⟩
instance : FieldTy Try.prog 123 10 10 122 0 := ⟨by kernel_rfl, by kernel_rfl⟩
instance : BuildTy Try.prog 123 [(0, 1), (1, 1), (2, 1), (3, 1), (4, 1), (5, 1), (6, 1), (7, 1), (8, 1), (9, 1), (10, 1)] [.int .u64 0, .int .u64 0, .int .u32 0, .int .u8 0, .int .u8 0, .int .u8 0, .int .u8 0, .nilFunc, .pointer none, .int .i32 0, .int .i32 0] := ⟨fun parts => by kernel_rfl⟩
-- 125 unsafe.Pointer
instance : Ty Try.prog 125 false 1 8 (.pointer none) [.pointer none] := ⟨by kernel_rfl, by kernel_rfl, rfl, rfl⟩
-- deuce/deucelaw02.LinesLess
instance : FnOk Try.prog 3 := ⟨by kernel_rfl⟩
-- deuce/deucelaw02.LinesLarger
instance : FnOk Try.prog 4 := ⟨by kernel_rfl⟩
-- deuce/deucelaw02.LinesShows
instance : FnOk Try.prog 5 := ⟨by kernel_rfl⟩
-- deuce/deucelaw02.LinesTouches
instance : FnOk Try.prog 6 := ⟨by kernel_rfl⟩
-- deuce/deucelaw02.LinesSure
instance : FnOk Try.prog 7 := ⟨by kernel_rfl⟩
-- deuce/deucelaw02.LinesCount
instance : FnOk Try.prog 8 := ⟨by kernel_rfl⟩
-- deuce/deucelaw02.LinesRuns
instance : FnOk Try.prog 9 := ⟨by kernel_rfl⟩
-- deuce/deucelaw02.LinesMirror
instance : FnOk Try.prog 10 := ⟨by kernel_rfl⟩
-- deuce/deucelaw02.LinesSlack
instance : FnOk Try.prog 11 := ⟨by kernel_rfl⟩
-- deuce/deucelaw02.LinesCalls
instance : FnOk Try.prog 12 := ⟨by kernel_rfl⟩
-- deuce/deucelaw02.LinesCentres
instance : FnOk Try.prog 13 := ⟨by kernel_rfl⟩
-- deuce/deucelaw02.LinesBlamed
instance : FnOk Try.prog 14 := ⟨by kernel_rfl⟩
-- deuce/deucelaw02.valid
instance : FnOk Try.prog 15 := ⟨by kernel_rfl⟩
-- deuce/deucelaw02.works
instance : FnOk Try.prog 16 := ⟨by kernel_rfl⟩
-- deuce/deuceref02.Wider
instance : FnOk Try.prog 17 := ⟨by kernel_rfl⟩
-- deuce/deuceref02.Check
instance : FnOk Try.prog 18 := ⟨by kernel_rfl⟩
-- deuce/lines.Call
instance : FnOk Try.prog 19 := ⟨by kernel_rfl⟩
-- deuce/lines.Centres
instance : FnOk Try.prog 20 := ⟨by kernel_rfl⟩
-- deuce/deuceref02.IsBox
instance : FnOk Try.prog 21 := ⟨by kernel_rfl⟩
-- deuce/deucelaw02.Far
instance : FnOk Try.prog 22 := ⟨by kernel_rfl⟩
-- deuce/lines.Show
instance : FnOk Try.prog 23 := ⟨by kernel_rfl⟩
-- deuce/deuceref02.Copy
instance : FnOk Try.prog 24 := ⟨by kernel_rfl⟩
-- deuce/deuceref02.CheckShow
instance : FnOk Try.prog 25 := ⟨by kernel_rfl⟩
-- deuce/deuceref02.IsTruth
instance : FnOk Try.prog 26 := ⟨by kernel_rfl⟩
-- deuce/deuceref02.Touch
instance : FnOk Try.prog 27 := ⟨by kernel_rfl⟩
-- deuce/lines.Check
instance : FnOk Try.prog 28 := ⟨by kernel_rfl⟩
-- deuce/lines.Touches
instance : FnOk Try.prog 29 := ⟨by kernel_rfl⟩
-- deuce/deuceref02.Touches
instance : FnOk Try.prog 30 := ⟨by kernel_rfl⟩
-- deuce/lines.Wrong
instance : FnOk Try.prog 31 := ⟨by kernel_rfl⟩
-- deuce/deuceref02.Wrong
instance : FnOk Try.prog 32 := ⟨by kernel_rfl⟩
-- deuce/deucelaw02.sameInts
instance : FnOk Try.prog 33 := ⟨by kernel_rfl⟩
-- deuce/lines.Decide
instance : FnOk Try.prog 34 := ⟨by kernel_rfl⟩
-- deuce/lines.Run
instance : FnOk Try.prog 35 := ⟨by kernel_rfl⟩
-- deuce/deuceref02.Run
instance : FnOk Try.prog 36 := ⟨by kernel_rfl⟩
-- deuce/lines.Slack
instance : FnOk Try.prog 37 := ⟨by kernel_rfl⟩
-- deuce/deuceref02.Call
instance : FnOk Try.prog 38 := ⟨by kernel_rfl⟩
-- deuce/deuceref02.Slack
instance : FnOk Try.prog 39 := ⟨by kernel_rfl⟩
-- deuce/deuceref02.Decide
instance : FnOk Try.prog 40 := ⟨by kernel_rfl⟩
-- deuce/deuceref02.Centres
instance : FnOk Try.prog 41 := ⟨by kernel_rfl⟩
-- deuce/lines.Fewest
instance : FnOk Try.prog 42 := ⟨by kernel_rfl⟩
-- deuce/deuceref02.Fewest
instance : FnOk Try.prog 43 := ⟨by kernel_rfl⟩
-- deuce/lines.Blame
instance : FnOk Try.prog 44 := ⟨by kernel_rfl⟩
-- deuce/deuceref02.Blame
instance : FnOk Try.prog 45 := ⟨by kernel_rfl⟩
-- deuce/deucelaw02.Example
instance : FnOk Try.prog 46 := ⟨by kernel_rfl⟩
-- deuce/deuceref02.within
instance : FnOk Try.prog 47 := ⟨by kernel_rfl⟩
-- deuce/lines.check
instance : FnOk Try.prog 48 := ⟨by kernel_rfl⟩
-- deuce/lines.call
instance : FnOk Try.prog 49 := ⟨by kernel_rfl⟩
-- deuce/lines.known
instance : FnOk Try.prog 50 := ⟨by kernel_rfl⟩
-- deuce/lines.truths
instance : FnOk Try.prog 51 := ⟨by kernel_rfl⟩
-- deuce/lines.large
instance : FnOk Try.prog 52 := ⟨by kernel_rfl⟩
-- deuce/lines.touches
instance : FnOk Try.prog 53 := ⟨by kernel_rfl⟩
-- deuce/lines.small
instance : FnOk Try.prog 54 := ⟨by kernel_rfl⟩
-- deuce/deuceref02.checkBox
instance : FnOk Try.prog 55 := ⟨by kernel_rfl⟩
-- deuce/deuceref02.call
instance : FnOk Try.prog 56 := ⟨by kernel_rfl⟩
-- deuce/deuceref02.IsMark
instance : FnOk Try.prog 57 := ⟨by kernel_rfl⟩
-- deuce/deuceref02.wrong
instance : FnOk Try.prog 58 := ⟨by kernel_rfl⟩
-- deuce/deuceref02.far
instance : FnOk Try.prog 59 := ⟨by kernel_rfl⟩
-- slices.ContainsFunc[[]deuce/api.Strip,deuce/api.Strip]
instance : FnOk Try.prog 60 := ⟨by kernel_rfl⟩
-- deuce/lines.Check$1
instance : FnOk Try.prog 61 := ⟨by kernel_rfl⟩
-- deuce/lines.isStrip
instance : FnOk Try.prog 62 := ⟨by kernel_rfl⟩
-- deuce/lines.within
instance : FnOk Try.prog 63 := ⟨by kernel_rfl⟩
-- deuce/lines.isSpan
instance : FnOk Try.prog 64 := ⟨by kernel_rfl⟩
-- deuce/lines.checkBox
instance : FnOk Try.prog 65 := ⟨by kernel_rfl⟩
-- deuce/lines.wrong
instance : FnOk Try.prog 66 := ⟨by kernel_rfl⟩
-- deuce/lines.wider
instance : FnOk Try.prog 67 := ⟨by kernel_rfl⟩
-- deuce/deuceref02.centres
instance : FnOk Try.prog 68 := ⟨by kernel_rfl⟩
-- deuce/lines.all
instance : FnOk Try.prog 69 := ⟨by kernel_rfl⟩
-- slices.DeleteFunc[[]int,int]
instance : FnOk Try.prog 70 := ⟨by kernel_rfl⟩
-- deuce/lines.Blame$1
instance : FnOk Try.prog 71 := ⟨by kernel_rfl⟩
-- slices.Contains[[]int,int]
instance : FnOk Try.prog 72 := ⟨by kernel_rfl⟩
-- deuce/deuceref02.in
instance : FnOk Try.prog 73 := ⟨by kernel_rfl⟩
-- slices.ContainsFunc[[]deuce/lines.point,deuce/lines.point]
instance : FnOk Try.prog 74 := ⟨by kernel_rfl⟩
-- deuce/lines.call$1
instance : FnOk Try.prog 75 := ⟨by kernel_rfl⟩
-- deuce/lines.call$2
instance : FnOk Try.prog 76 := ⟨by kernel_rfl⟩
-- deuce/lines.beyond
instance : FnOk Try.prog 77 := ⟨by kernel_rfl⟩
-- deuce/deuceref02.Truths
instance : FnOk Try.prog 78 := ⟨by kernel_rfl⟩
-- slices.IndexFunc[[]deuce/api.Strip,deuce/api.Strip]
instance : FnOk Try.prog 79 := ⟨by kernel_rfl⟩
-- slices.Clone[[]deuce/api.Strip,deuce/api.Strip]
instance : FnOk Try.prog 80 := ⟨by kernel_rfl⟩
-- deuce/lines.all$1
instance : FnOk Try.prog 81 := ⟨by kernel_rfl⟩
-- slices.IndexFunc[[]int,int]
instance : FnOk Try.prog 82 := ⟨by kernel_rfl⟩
-- slices.Index[[]int,int]
instance : FnOk Try.prog 83 := ⟨by kernel_rfl⟩
-- slices.IndexFunc[[]deuce/lines.point,deuce/lines.point]
instance : FnOk Try.prog 84 := ⟨by kernel_rfl⟩
end Go.Proofs.Ytdphljhhcaoleaa
