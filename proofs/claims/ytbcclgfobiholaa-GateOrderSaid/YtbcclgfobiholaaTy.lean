/- The types and functions of this seat's program, as instances of the walk's classes; each is a closed fact that the kernel reckons. -/
import Derived.Test.YtbcclgfobiholaaW9
import Derived.Test.YtbcclgfobiholaaProg
import Derived.KernelRfl
namespace Go.Proofs.Ytbcclgfobiholaa
open Go

-- 1 
instance : Ty Try.prog 1 false 1 8 (.nilFunc) [.nilFunc] := ⟨by kernel_rfl, by kernel_rfl, rfl, rfl⟩
-- 2 int64
instance : Ty Try.prog 2 false 1 8 (.int .i64 0) [.int .i64 0] := ⟨by kernel_rfl, by kernel_rfl, rfl, rfl⟩
-- 3 int
instance : Ty Try.prog 3 false 1 8 (.int .i64 0) [.int .i64 0] := ⟨by kernel_rfl, by kernel_rfl, rfl, rfl⟩
-- 4 bool
instance : Ty Try.prog 4 false 1 1 (.bool false) [.bool false] := ⟨by kernel_rfl, by kernel_rfl, rfl, rfl⟩
-- 5 uint8
instance : Ty Try.prog 5 false 1 1 (.int .u8 0) [.int .u8 0] := ⟨by kernel_rfl, by kernel_rfl, rfl, rfl⟩
-- 7 struct { x int64; y int; signed bool; code abi.BoundsErrorCode }
instance : Ty Try.prog 7 true 4 24 (.agg #[.int .i64 0, .int .i64 0, .bool false, .int .u8 0]) [.int .i64 0, .int .i64 0, .bool false, .int .u8 0] := ⟨by kernel_rfl, by kernel_rfl, rfl, rfl⟩
instance : FieldTy Try.prog 7 0 0 2 0 := ⟨by kernel_rfl, by kernel_rfl⟩
instance : FieldTy Try.prog 7 1 1 3 0 := ⟨by kernel_rfl, by kernel_rfl⟩
instance : FieldTy Try.prog 7 2 2 4 0 := ⟨by kernel_rfl, by kernel_rfl⟩
instance : FieldTy Try.prog 7 3 3 6 0 := ⟨by kernel_rfl, by kernel_rfl⟩
instance : BuildTy Try.prog 7 [(0, 1), (1, 1), (2, 1), (3, 1)] [.int .i64 0, .int .i64 0, .bool false, .int .u8 0] := ⟨fun parts => by kernel_rfl⟩
-- 9 string
instance : Ty Try.prog 9 false 1 16 (.string ByteArray.empty) [.string ByteArray.empty] := ⟨by kernel_rfl, by kernel_rfl, rfl, rfl⟩
-- 12 uintptr
instance : Ty Try.prog 12 false 1 8 (.int .u64 0) [.int .u64 0] := ⟨by kernel_rfl, by kernel_rfl, rfl, rfl⟩
-- 13 struct { msg string; addr uintptr }
instance : Ty Try.prog 13 true 2 24 (.agg #[.string ByteArray.empty, .int .u64 0]) [.string ByteArray.empty, .int .u64 0] := ⟨by kernel_rfl, by kernel_rfl, rfl, rfl⟩
instance : FieldTy Try.prog 13 0 0 9 0 := ⟨by kernel_rfl, by kernel_rfl⟩
instance : FieldTy Try.prog 13 1 1 12 0 := ⟨by kernel_rfl, by kernel_rfl⟩
instance : BuildTy Try.prog 13 [(0, 1), (1, 1)] [.string ByteArray.empty, .int .u64 0] := ⟨fun parts => by kernel_rfl⟩
-- 18 struct { typ *abi.Type }
instance : Ty Try.prog 18 true 1 8 (.agg #[.pointer none]) [.pointer none] := ⟨by kernel_rfl, by kernel_rfl, rfl, rfl⟩
instance : FieldTy Try.prog 18 0 0 17 0 := ⟨by kernel_rfl, by kernel_rfl⟩
instance : BuildTy Try.prog 18 [(0, 1)] [.pointer none] := ⟨fun parts => by kernel_rfl⟩
-- 20 
instance : Ty Try.prog 20 false 1 16 (.nilIface) [.nilIface] := ⟨by kernel_rfl, by kernel_rfl, rfl, rfl⟩
-- 21 int32
instance : Ty Try.prog 21 false 1 4 (.int .i32 0) [.int .i32 0] := ⟨by kernel_rfl, by kernel_rfl, rfl, rfl⟩
-- 22 struct { Low int; High int }
instance : Ty Try.prog 22 true 2 16 (.agg #[.int .i64 0, .int .i64 0]) [.int .i64 0, .int .i64 0] := ⟨by kernel_rfl, by kernel_rfl, rfl, rfl⟩
instance : EqS Try.prog 22 2 := ⟨by kernel_rfl, by kernel_rfl, by kernel_rfl⟩
instance : FieldTy Try.prog 22 0 0 3 0 := ⟨by kernel_rfl, by kernel_rfl⟩
instance : FieldTy Try.prog 22 1 1 3 0 := ⟨by kernel_rfl, by kernel_rfl⟩
instance : BuildTy Try.prog 22 [(0, 1), (1, 1)] [.int .i64 0, .int .i64 0] := ⟨fun parts => by kernel_rfl⟩
-- 23 deuce/api.Span
instance : Ty Try.prog 23 true 2 16 (.agg #[.int .i64 0, .int .i64 0]) [.int .i64 0, .int .i64 0] := ⟨by kernel_rfl, by kernel_rfl, rfl, rfl⟩
instance : EqS Try.prog 23 2 := ⟨by kernel_rfl, by kernel_rfl, by kernel_rfl⟩
instance : FieldTy Try.prog 23 0 0 3 0 := ⟨by kernel_rfl, by kernel_rfl⟩
instance : FieldTy Try.prog 23 1 1 3 0 := ⟨by kernel_rfl, by kernel_rfl⟩
instance : BuildTy Try.prog 23 [(0, 1), (1, 1)] [.int .i64 0, .int .i64 0] := ⟨fun parts => by kernel_rfl⟩
-- 24 []api.Party
instance : Ty Try.prog 24 false 1 24 (.slice none 0 0) [.slice none 0 0] := ⟨by kernel_rfl, by kernel_rfl, rfl, rfl⟩
instance : SliceTy Try.prog 24 52 := ⟨by kernel_rfl⟩
-- 25 []api.Free
instance : Ty Try.prog 25 false 1 24 (.slice none 0 0) [.slice none 0 0] := ⟨by kernel_rfl, by kernel_rfl, rfl, rfl⟩
instance : SliceTy Try.prog 25 50 := ⟨by kernel_rfl⟩
-- 26 struct { Open int; Rate api.Span; Seats int; Groups []api.Party; Frees []api.Free }
instance : Ty Try.prog 26 true 6 80 (.agg #[.int .i64 0, .int .i64 0, .int .i64 0, .int .i64 0, .slice none 0 0, .slice none 0 0]) [.int .i64 0, .int .i64 0, .int .i64 0, .int .i64 0, .slice none 0 0, .slice none 0 0] := ⟨by kernel_rfl, by kernel_rfl, rfl, rfl⟩
instance : FieldTy Try.prog 26 0 0 3 0 := ⟨by kernel_rfl, by kernel_rfl⟩
instance : FieldTy Try.prog 26 1 1 23 1 := ⟨by kernel_rfl, by kernel_rfl⟩
instance : FieldTy Try.prog 26 2 3 3 0 := ⟨by kernel_rfl, by kernel_rfl⟩
instance : FieldTy Try.prog 26 3 4 24 0 := ⟨by kernel_rfl, by kernel_rfl⟩
instance : FieldTy Try.prog 26 4 5 25 0 := ⟨by kernel_rfl, by kernel_rfl⟩
instance : BuildTy Try.prog 26 [(0, 1), (1, 2), (3, 1), (4, 1), (5, 1)] [.int .i64 0, .int .i64 0, .int .i64 0, .int .i64 0, .slice none 0 0, .slice none 0 0] := ⟨fun parts => by kernel_rfl⟩
-- 27 deuce/api.Queue
instance : Ty Try.prog 27 true 6 80 (.agg #[.int .i64 0, .int .i64 0, .int .i64 0, .int .i64 0, .slice none 0 0, .slice none 0 0]) [.int .i64 0, .int .i64 0, .int .i64 0, .int .i64 0, .slice none 0 0, .slice none 0 0] := ⟨by kernel_rfl, by kernel_rfl, rfl, rfl⟩
instance : FieldTy Try.prog 27 0 0 3 0 := ⟨by kernel_rfl, by kernel_rfl⟩
instance : FieldTy Try.prog 27 1 1 23 1 := ⟨by kernel_rfl, by kernel_rfl⟩
instance : FieldTy Try.prog 27 2 3 3 0 := ⟨by kernel_rfl, by kernel_rfl⟩
instance : FieldTy Try.prog 27 3 4 24 0 := ⟨by kernel_rfl, by kernel_rfl⟩
instance : FieldTy Try.prog 27 4 5 25 0 := ⟨by kernel_rfl, by kernel_rfl⟩
instance : BuildTy Try.prog 27 [(0, 1), (1, 2), (3, 1), (4, 1), (5, 1)] [.int .i64 0, .int .i64 0, .int .i64 0, .int .i64 0, .slice none 0 0, .slice none 0 0] := ⟨fun parts => by kernel_rfl⟩
-- 28 
instance : Ty Try.prog 28 false 1 8 (.nilFunc) [.nilFunc] := ⟨by kernel_rfl, by kernel_rfl, rfl, rfl⟩
-- 29 
instance : Ty Try.prog 29 false 1 8 (.nilFunc) [.nilFunc] := ⟨by kernel_rfl, by kernel_rfl, rfl, rfl⟩
-- 30 
instance : Ty Try.prog 30 false 1 8 (.nilFunc) [.nilFunc] := ⟨by kernel_rfl, by kernel_rfl, rfl, rfl⟩
-- 31 deuce/api.Errno
instance : Ty Try.prog 31 false 1 8 (.int .i64 0) [.int .i64 0] := ⟨by kernel_rfl, by kernel_rfl, rfl, rfl⟩
-- 33 
instance : Ty Try.prog 33 false 1 8 (.nilFunc) [.nilFunc] := ⟨by kernel_rfl, by kernel_rfl, rfl, rfl⟩
-- 35 
instance : Ty Try.prog 35 false 1 8 (.nilFunc) [.nilFunc] := ⟨by kernel_rfl, by kernel_rfl, rfl, rfl⟩
-- 36 
instance : Ty Try.prog 36 false 1 8 (.nilFunc) [.nilFunc] := ⟨by kernel_rfl, by kernel_rfl, rfl, rfl⟩
-- 37 []int
instance : Ty Try.prog 37 false 1 24 (.slice none 0 0) [.slice none 0 0] := ⟨by kernel_rfl, by kernel_rfl, rfl, rfl⟩
instance : SliceTy Try.prog 37 3 := ⟨by kernel_rfl⟩
-- 38 struct { Short int; Long int; Played []int }
instance : Ty Try.prog 38 true 3 40 (.agg #[.int .i64 0, .int .i64 0, .slice none 0 0]) [.int .i64 0, .int .i64 0, .slice none 0 0] := ⟨by kernel_rfl, by kernel_rfl, rfl, rfl⟩
instance : FieldTy Try.prog 38 0 0 3 0 := ⟨by kernel_rfl, by kernel_rfl⟩
instance : FieldTy Try.prog 38 1 1 3 0 := ⟨by kernel_rfl, by kernel_rfl⟩
instance : FieldTy Try.prog 38 2 2 37 0 := ⟨by kernel_rfl, by kernel_rfl⟩
instance : BuildTy Try.prog 38 [(0, 1), (1, 1), (2, 1)] [.int .i64 0, .int .i64 0, .slice none 0 0] := ⟨fun parts => by kernel_rfl⟩
-- 39 deuce/api.Terms
instance : Ty Try.prog 39 true 3 40 (.agg #[.int .i64 0, .int .i64 0, .slice none 0 0]) [.int .i64 0, .int .i64 0, .slice none 0 0] := ⟨by kernel_rfl, by kernel_rfl, rfl, rfl⟩
instance : FieldTy Try.prog 39 0 0 3 0 := ⟨by kernel_rfl, by kernel_rfl⟩
instance : FieldTy Try.prog 39 1 1 3 0 := ⟨by kernel_rfl, by kernel_rfl⟩
instance : FieldTy Try.prog 39 2 2 37 0 := ⟨by kernel_rfl, by kernel_rfl⟩
instance : BuildTy Try.prog 39 [(0, 1), (1, 1), (2, 1)] [.int .i64 0, .int .i64 0, .slice none 0 0] := ⟨fun parts => by kernel_rfl⟩
-- 40 []api.Ticket
instance : Ty Try.prog 40 false 1 24 (.slice none 0 0) [.slice none 0 0] := ⟨by kernel_rfl, by kernel_rfl, rfl, rfl⟩
instance : SliceTy Try.prog 40 59 := ⟨by kernel_rfl⟩
-- 42 
instance : Ty Try.prog 42 false 1 8 (.nilFunc) [.nilFunc] := ⟨by kernel_rfl, by kernel_rfl, rfl, rfl⟩
-- 43 
instance : Ty Try.prog 43 false 1 8 (.nilFunc) [.nilFunc] := ⟨by kernel_rfl, by kernel_rfl, rfl, rfl⟩
-- 44 
instance : Ty Try.prog 44 false 1 8 (.nilFunc) [.nilFunc] := ⟨by kernel_rfl, by kernel_rfl, rfl, rfl⟩
-- 45 
instance : Ty Try.prog 45 false 1 8 (.nilFunc) [.nilFunc] := ⟨by kernel_rfl, by kernel_rfl, rfl, rfl⟩
-- 46 struct { Rate int; Minute int; Id int }
instance : Ty Try.prog 46 true 3 24 (.agg #[.int .i64 0, .int .i64 0, .int .i64 0]) [.int .i64 0, .int .i64 0, .int .i64 0] := ⟨by kernel_rfl, by kernel_rfl, rfl, rfl⟩
instance : EqS Try.prog 46 3 := ⟨by kernel_rfl, by kernel_rfl, by kernel_rfl⟩
instance : FieldTy Try.prog 46 0 0 3 0 := ⟨by kernel_rfl, by kernel_rfl⟩
instance : FieldTy Try.prog 46 1 1 3 0 := ⟨by kernel_rfl, by kernel_rfl⟩
instance : FieldTy Try.prog 46 2 2 3 0 := ⟨by kernel_rfl, by kernel_rfl⟩
instance : BuildTy Try.prog 46 [(0, 1), (1, 1), (2, 1)] [.int .i64 0, .int .i64 0, .int .i64 0] := ⟨fun parts => by kernel_rfl⟩
-- 47 deuce/deucelaw11.Asked
instance : Ty Try.prog 47 true 3 24 (.agg #[.int .i64 0, .int .i64 0, .int .i64 0]) [.int .i64 0, .int .i64 0, .int .i64 0] := ⟨by kernel_rfl, by kernel_rfl, rfl, rfl⟩
instance : EqS Try.prog 47 3 := ⟨by kernel_rfl, by kernel_rfl, by kernel_rfl⟩
instance : FieldTy Try.prog 47 0 0 3 0 := ⟨by kernel_rfl, by kernel_rfl⟩
instance : FieldTy Try.prog 47 1 1 3 0 := ⟨by kernel_rfl, by kernel_rfl⟩
instance : FieldTy Try.prog 47 2 2 3 0 := ⟨by kernel_rfl, by kernel_rfl⟩
instance : BuildTy Try.prog 47 [(0, 1), (1, 1), (2, 1)] [.int .i64 0, .int .i64 0, .int .i64 0] := ⟨fun parts => by kernel_rfl⟩
-- 48 
instance : Ty Try.prog 48 false 1 8 (.nilFunc) [.nilFunc] := ⟨by kernel_rfl, by kernel_rfl, rfl, rfl⟩
-- 49 struct { At int; Count int }
instance : Ty Try.prog 49 true 2 16 (.agg #[.int .i64 0, .int .i64 0]) [.int .i64 0, .int .i64 0] := ⟨by kernel_rfl, by kernel_rfl, rfl, rfl⟩
instance : EqS Try.prog 49 2 := ⟨by kernel_rfl, by kernel_rfl, by kernel_rfl⟩
instance : FieldTy Try.prog 49 0 0 3 0 := ⟨by kernel_rfl, by kernel_rfl⟩
instance : FieldTy Try.prog 49 1 1 3 0 := ⟨by kernel_rfl, by kernel_rfl⟩
instance : BuildTy Try.prog 49 [(0, 1), (1, 1)] [.int .i64 0, .int .i64 0] := ⟨fun parts => by kernel_rfl⟩
-- 50 deuce/api.Free
instance : Ty Try.prog 50 true 2 16 (.agg #[.int .i64 0, .int .i64 0]) [.int .i64 0, .int .i64 0] := ⟨by kernel_rfl, by kernel_rfl, rfl, rfl⟩
instance : EqS Try.prog 50 2 := ⟨by kernel_rfl, by kernel_rfl, by kernel_rfl⟩
instance : FieldTy Try.prog 50 0 0 3 0 := ⟨by kernel_rfl, by kernel_rfl⟩
instance : FieldTy Try.prog 50 1 1 3 0 := ⟨by kernel_rfl, by kernel_rfl⟩
instance : BuildTy Try.prog 50 [(0, 1), (1, 1)] [.int .i64 0, .int .i64 0] := ⟨fun parts => by kernel_rfl⟩
-- 51 struct { Id int; At int; Size int; Quits int }
instance : Ty Try.prog 51 true 4 32 (.agg #[.int .i64 0, .int .i64 0, .int .i64 0, .int .i64 0]) [.int .i64 0, .int .i64 0, .int .i64 0, .int .i64 0] := ⟨by kernel_rfl, by kernel_rfl, rfl, rfl⟩
instance : EqS Try.prog 51 4 := ⟨by kernel_rfl, by kernel_rfl, by kernel_rfl⟩
instance : FieldTy Try.prog 51 0 0 3 0 := ⟨by kernel_rfl, by kernel_rfl⟩
instance : FieldTy Try.prog 51 1 1 3 0 := ⟨by kernel_rfl, by kernel_rfl⟩
instance : FieldTy Try.prog 51 2 2 3 0 := ⟨by kernel_rfl, by kernel_rfl⟩
instance : FieldTy Try.prog 51 3 3 3 0 := ⟨by kernel_rfl, by kernel_rfl⟩
instance : BuildTy Try.prog 51 [(0, 1), (1, 1), (2, 1), (3, 1)] [.int .i64 0, .int .i64 0, .int .i64 0, .int .i64 0] := ⟨fun parts => by kernel_rfl⟩
-- 52 deuce/api.Party
instance : Ty Try.prog 52 true 4 32 (.agg #[.int .i64 0, .int .i64 0, .int .i64 0, .int .i64 0]) [.int .i64 0, .int .i64 0, .int .i64 0, .int .i64 0] := ⟨by kernel_rfl, by kernel_rfl, rfl, rfl⟩
instance : EqS Try.prog 52 4 := ⟨by kernel_rfl, by kernel_rfl, by kernel_rfl⟩
instance : FieldTy Try.prog 52 0 0 3 0 := ⟨by kernel_rfl, by kernel_rfl⟩
instance : FieldTy Try.prog 52 1 1 3 0 := ⟨by kernel_rfl, by kernel_rfl⟩
instance : FieldTy Try.prog 52 2 2 3 0 := ⟨by kernel_rfl, by kernel_rfl⟩
instance : FieldTy Try.prog 52 3 3 3 0 := ⟨by kernel_rfl, by kernel_rfl⟩
instance : BuildTy Try.prog 52 [(0, 1), (1, 1), (2, 1), (3, 1)] [.int .i64 0, .int .i64 0, .int .i64 0, .int .i64 0] := ⟨fun parts => by kernel_rfl⟩
-- 53 
instance : Ty Try.prog 53 false 1 8 (.nilFunc) [.nilFunc] := ⟨by kernel_rfl, by kernel_rfl, rfl, rfl⟩
-- 54 
instance : Ty Try.prog 54 false 1 8 (.nilFunc) [.nilFunc] := ⟨by kernel_rfl, by kernel_rfl, rfl, rfl⟩
-- 55 
instance : Ty Try.prog 55 false 1 8 (.nilFunc) [.nilFunc] := ⟨by kernel_rfl, by kernel_rfl, rfl, rfl⟩
-- 56 
instance : Ty Try.prog 56 false 1 8 (.nilFunc) [.nilFunc] := ⟨by kernel_rfl, by kernel_rfl, rfl, rfl⟩
-- 57 
instance : Ty Try.prog 57 false 1 8 (.nilFunc) [.nilFunc] := ⟨by kernel_rfl, by kernel_rfl, rfl, rfl⟩
-- 58 struct { Id int; Price int; Day int; Paid int }
instance : Ty Try.prog 58 true 4 32 (.agg #[.int .i64 0, .int .i64 0, .int .i64 0, .int .i64 0]) [.int .i64 0, .int .i64 0, .int .i64 0, .int .i64 0] := ⟨by kernel_rfl, by kernel_rfl, rfl, rfl⟩
instance : EqS Try.prog 58 4 := ⟨by kernel_rfl, by kernel_rfl, by kernel_rfl⟩
instance : FieldTy Try.prog 58 0 0 3 0 := ⟨by kernel_rfl, by kernel_rfl⟩
instance : FieldTy Try.prog 58 1 1 3 0 := ⟨by kernel_rfl, by kernel_rfl⟩
instance : FieldTy Try.prog 58 2 2 3 0 := ⟨by kernel_rfl, by kernel_rfl⟩
instance : FieldTy Try.prog 58 3 3 3 0 := ⟨by kernel_rfl, by kernel_rfl⟩
instance : BuildTy Try.prog 58 [(0, 1), (1, 1), (2, 1), (3, 1)] [.int .i64 0, .int .i64 0, .int .i64 0, .int .i64 0] := ⟨fun parts => by kernel_rfl⟩
-- 59 deuce/api.Ticket
instance : Ty Try.prog 59 true 4 32 (.agg #[.int .i64 0, .int .i64 0, .int .i64 0, .int .i64 0]) [.int .i64 0, .int .i64 0, .int .i64 0, .int .i64 0] := ⟨by kernel_rfl, by kernel_rfl, rfl, rfl⟩
instance : EqS Try.prog 59 4 := ⟨by kernel_rfl, by kernel_rfl, by kernel_rfl⟩
instance : FieldTy Try.prog 59 0 0 3 0 := ⟨by kernel_rfl, by kernel_rfl⟩
instance : FieldTy Try.prog 59 1 1 3 0 := ⟨by kernel_rfl, by kernel_rfl⟩
instance : FieldTy Try.prog 59 2 2 3 0 := ⟨by kernel_rfl, by kernel_rfl⟩
instance : FieldTy Try.prog 59 3 3 3 0 := ⟨by kernel_rfl, by kernel_rfl⟩
instance : BuildTy Try.prog 59 [(0, 1), (1, 1), (2, 1), (3, 1)] [.int .i64 0, .int .i64 0, .int .i64 0, .int .i64 0] := ⟨fun parts => by kernel_rfl⟩
-- 60 
instance : Ty Try.prog 60 false 1 8 (.nilFunc) [.nilFunc] := ⟨by kernel_rfl, by kernel_rfl, rfl, rfl⟩
-- 61 
instance : Ty Try.prog 61 false 1 8 (.nilFunc) [.nilFunc] := ⟨by kernel_rfl, by kernel_rfl, rfl, rfl⟩
-- 62 [4]bool
instance : Ty Try.prog 62 true 4 4 (.agg #[.bool false, .bool false, .bool false, .bool false]) [.bool false, .bool false, .bool false, .bool false] := ⟨by kernel_rfl, by kernel_rfl, rfl, rfl⟩
instance : ArrayTy Try.prog 62 4 4 := ⟨by kernel_rfl⟩
-- 64 
instance : Ty Try.prog 64 false 1 8 (.nilFunc) [.nilFunc] := ⟨by kernel_rfl, by kernel_rfl, rfl, rfl⟩
-- 66 
instance : Ty Try.prog 66 false 1 8 (.nilFunc) [.nilFunc] := ⟨by kernel_rfl, by kernel_rfl, rfl, rfl⟩
-- 67 
instance : Ty Try.prog 67 false 1 8 (.nilFunc) [.nilFunc] := ⟨by kernel_rfl, by kernel_rfl, rfl, rfl⟩
-- 68 
instance : Ty Try.prog 68 false 1 8 (.nilFunc) [.nilFunc] := ⟨by kernel_rfl, by kernel_rfl, rfl, rfl⟩
-- 69 
instance : Ty Try.prog 69 false 1 8 (.nilFunc) [.nilFunc] := ⟨by kernel_rfl, by kernel_rfl, rfl, rfl⟩
-- 70 
instance : Ty Try.prog 70 false 1 8 (.nilFunc) [.nilFunc] := ⟨by kernel_rfl, by kernel_rfl, rfl, rfl⟩
-- 71 
instance : Ty Try.prog 71 false 1 8 (.nilFunc) [.nilFunc] := ⟨by kernel_rfl, by kernel_rfl, rfl, rfl⟩
-- 72 
instance : Ty Try.prog 72 false 1 8 (.nilFunc) [.nilFunc] := ⟨by kernel_rfl, by kernel_rfl, rfl, rfl⟩
-- 73 map[int]int
instance : Ty Try.prog 73 false 1 8 (.map none) [.map none] := ⟨by kernel_rfl, by kernel_rfl, rfl, rfl⟩
-- 74 
instance : Ty Try.prog 74 false 1 8 (.nilFunc) [.nilFunc] := ⟨by kernel_rfl, by kernel_rfl, rfl, rfl⟩
-- 75 
instance : Ty Try.prog 75 false 1 8 (.nilFunc) [.nilFunc] := ⟨by kernel_rfl, by kernel_rfl, rfl, rfl⟩
-- 76 
instance : Ty Try.prog 76 false 1 8 (.nilFunc) [.nilFunc] := ⟨by kernel_rfl, by kernel_rfl, rfl, rfl⟩
-- 77 
instance : Ty Try.prog 77 false 1 8 (.nilFunc) [.nilFunc] := ⟨by kernel_rfl, by kernel_rfl, rfl, rfl⟩
-- 78 
instance : Ty Try.prog 78 false 1 8 (.nilFunc) [.nilFunc] := ⟨by kernel_rfl, by kernel_rfl, rfl, rfl⟩
-- 79 
instance : Ty Try.prog 79 false 1 8 (.nilFunc) [.nilFunc] := ⟨by kernel_rfl, by kernel_rfl, rfl, rfl⟩
-- 80 
instance : Ty Try.prog 80 false 1 8 (.nilFunc) [.nilFunc] := ⟨by kernel_rfl, by kernel_rfl, rfl, rfl⟩
-- 81 
instance : Ty Try.prog 81 false 1 8 (.nilFunc) [.nilFunc] := ⟨by kernel_rfl, by kernel_rfl, rfl, rfl⟩
-- 82 *gate.crowd
instance : Ty Try.prog 82 false 1 8 (.pointer none) [.pointer none] := ⟨by kernel_rfl, by kernel_rfl, rfl, rfl⟩
-- 83 
instance : Ty Try.prog 83 false 1 8 (.nilFunc) [.nilFunc] := ⟨by kernel_rfl, by kernel_rfl, rfl, rfl⟩
-- 84 struct { api.Queue; order []int; free int; waits []int; passing int; in []int }
instance : Ty Try.prog 84 true 11 168 (.agg #[.int .i64 0, .int .i64 0, .int .i64 0, .int .i64 0, .slice none 0 0, .slice none 0 0, .slice none 0 0, .int .i64 0, .slice none 0 0, .int .i64 0, .slice none 0 0]) [.int .i64 0, .int .i64 0, .int .i64 0, .int .i64 0, .slice none 0 0, .slice none 0 0, .slice none 0 0, .int .i64 0, .slice none 0 0, .int .i64 0, .slice none 0 0] := ⟨by kernel_rfl, by kernel_rfl, rfl, rfl⟩
instance : FieldTy Try.prog 84 0 0 27 5 := ⟨by kernel_rfl, by kernel_rfl⟩
instance : FieldTy Try.prog 84 1 6 37 0 := ⟨by kernel_rfl, by kernel_rfl⟩
instance : FieldTy Try.prog 84 2 7 3 0 := ⟨by kernel_rfl, by kernel_rfl⟩
instance : FieldTy Try.prog 84 3 8 37 0 := ⟨by kernel_rfl, by kernel_rfl⟩
instance : FieldTy Try.prog 84 4 9 3 0 := ⟨by kernel_rfl, by kernel_rfl⟩
instance : FieldTy Try.prog 84 5 10 37 0 := ⟨by kernel_rfl, by kernel_rfl⟩
instance : BuildTy Try.prog 84 [(0, 6), (6, 1), (7, 1), (8, 1), (9, 1), (10, 1)] [.int .i64 0, .int .i64 0, .int .i64 0, .int .i64 0, .slice none 0 0, .slice none 0 0, .slice none 0 0, .int .i64 0, .slice none 0 0, .int .i64 0, .slice none 0 0] := ⟨fun parts => by kernel_rfl⟩
-- 85 deuce/gate.crowd
instance : Ty Try.prog 85 true 11 168 (.agg #[.int .i64 0, .int .i64 0, .int .i64 0, .int .i64 0, .slice none 0 0, .slice none 0 0, .slice none 0 0, .int .i64 0, .slice none 0 0, .int .i64 0, .slice none 0 0]) [.int .i64 0, .int .i64 0, .int .i64 0, .int .i64 0, .slice none 0 0, .slice none 0 0, .slice none 0 0, .int .i64 0, .slice none 0 0, .int .i64 0, .slice none 0 0] := ⟨by kernel_rfl, by kernel_rfl, rfl, rfl⟩
instance : FieldTy Try.prog 85 0 0 27 5 := ⟨by kernel_rfl, by kernel_rfl⟩
instance : FieldTy Try.prog 85 1 6 37 0 := ⟨by kernel_rfl, by kernel_rfl⟩
instance : FieldTy Try.prog 85 2 7 3 0 := ⟨by kernel_rfl, by kernel_rfl⟩
instance : FieldTy Try.prog 85 3 8 37 0 := ⟨by kernel_rfl, by kernel_rfl⟩
instance : FieldTy Try.prog 85 4 9 3 0 := ⟨by kernel_rfl, by kernel_rfl⟩
instance : FieldTy Try.prog 85 5 10 37 0 := ⟨by kernel_rfl, by kernel_rfl⟩
instance : BuildTy Try.prog 85 [(0, 6), (6, 1), (7, 1), (8, 1), (9, 1), (10, 1)] [.int .i64 0, .int .i64 0, .int .i64 0, .int .i64 0, .slice none 0 0, .slice none 0 0, .slice none 0 0, .int .i64 0, .slice none 0 0, .int .i64 0, .slice none 0 0] := ⟨fun parts => by kernel_rfl⟩
-- 86 
instance : Ty Try.prog 86 false 1 8 (.nilFunc) [.nilFunc] := ⟨by kernel_rfl, by kernel_rfl, rfl, rfl⟩
-- 87 
instance : Ty Try.prog 87 false 1 8 (.nilFunc) [.nilFunc] := ⟨by kernel_rfl, by kernel_rfl, rfl, rfl⟩
-- 88 
instance : Ty Try.prog 88 false 1 8 (.nilFunc) [.nilFunc] := ⟨by kernel_rfl, by kernel_rfl, rfl, rfl⟩
-- 89 []bool
instance : Ty Try.prog 89 false 1 24 (.slice none 0 0) [.slice none 0 0] := ⟨by kernel_rfl, by kernel_rfl, rfl, rfl⟩
instance : SliceTy Try.prog 89 4 := ⟨by kernel_rfl⟩
-- 90 
instance : Ty Try.prog 90 false 1 8 (.nilFunc) [.nilFunc] := ⟨by kernel_rfl, by kernel_rfl, rfl, rfl⟩
-- 91 
instance : Ty Try.prog 91 false 1 8 (.nilFunc) [.nilFunc] := ⟨by kernel_rfl, by kernel_rfl, rfl, rfl⟩
-- 92 
instance : Ty Try.prog 92 false 1 8 (.nilFunc) [.nilFunc] := ⟨by kernel_rfl, by kernel_rfl, rfl, rfl⟩
-- 93 
instance : Ty Try.prog 93 false 1 8 (.nilFunc) [.nilFunc] := ⟨by kernel_rfl, by kernel_rfl, rfl, rfl⟩
-- 94 
instance : Ty Try.prog 94 false 1 8 (.nilFunc) [.nilFunc] := ⟨by kernel_rfl, by kernel_rfl, rfl, rfl⟩
-- 95 
instance : Ty Try.prog 95 false 1 8 (.nilFunc) [.nilFunc] := ⟨by kernel_rfl, by kernel_rfl, rfl, rfl⟩
-- 96 
instance : Ty Try.prog 96 false 1 8 (.nilFunc) [.nilFunc] := ⟨by kernel_rfl, by kernel_rfl, rfl, rfl⟩
-- 97 
instance : Ty Try.prog 97 false 1 8 (.nilFunc) [.nilFunc] := ⟨by kernel_rfl, by kernel_rfl, rfl, rfl⟩
-- 98 
instance : Ty Try.prog 98 false 1 8 (.nilFunc) [.nilFunc] := ⟨by kernel_rfl, by kernel_rfl, rfl, rfl⟩
-- 99 uint
instance : Ty Try.prog 99 false 1 8 (.int .u64 0) [.int .u64 0] := ⟨by kernel_rfl, by kernel_rfl, rfl, rfl⟩
-- 100 
instance : Ty Try.prog 100 false 1 8 (.nilFunc) [.nilFunc] := ⟨by kernel_rfl, by kernel_rfl, rfl, rfl⟩
-- 101 slices.sortedHint
instance : Ty Try.prog 101 false 1 8 (.int .i64 0) [.int .i64 0] := ⟨by kernel_rfl, by kernel_rfl, rfl, rfl⟩
-- 103 
instance : Ty Try.prog 103 false 1 8 (.nilFunc) [.nilFunc] := ⟨by kernel_rfl, by kernel_rfl, rfl, rfl⟩
-- 104 
instance : Ty Try.prog 104 false 1 8 (.nilFunc) [.nilFunc] := ⟨by kernel_rfl, by kernel_rfl, rfl, rfl⟩
-- 105 
instance : Ty Try.prog 105 false 1 8 (.nilFunc) [.nilFunc] := ⟨by kernel_rfl, by kernel_rfl, rfl, rfl⟩
-- 107 
instance : Ty Try.prog 107 false 1 8 (.nilFunc) [.nilFunc] := ⟨by kernel_rfl, by kernel_rfl, rfl, rfl⟩
-- 108 
instance : Ty Try.prog 108 false 1 8 (.nilFunc) [.nilFunc] := ⟨by kernel_rfl, by kernel_rfl, rfl, rfl⟩
-- 109 uint32
instance : Ty Try.prog 109 false 1 4 (.int .u32 0) [.int .u32 0] := ⟨by kernel_rfl, by kernel_rfl, rfl, rfl⟩
-- 110 
instance : Ty Try.prog 110 false 1 8 (.nilFunc) [.nilFunc] := ⟨by kernel_rfl, by kernel_rfl, rfl, rfl⟩
-- 111 uint64
instance : Ty Try.prog 111 false 1 8 (.int .u64 0) [.int .u64 0] := ⟨by kernel_rfl, by kernel_rfl, rfl, rfl⟩
-- 112 slices.xorshift
instance : Ty Try.prog 112 false 1 8 (.int .u64 0) [.int .u64 0] := ⟨by kernel_rfl, by kernel_rfl, rfl, rfl⟩
-- 113 
instance : Ty Try.prog 113 false 1 8 (.nilFunc) [.nilFunc] := ⟨by kernel_rfl, by kernel_rfl, rfl, rfl⟩
-- 114 
instance : Ty Try.prog 114 false 1 8 (.nilFunc) [.nilFunc] := ⟨by kernel_rfl, by kernel_rfl, rfl, rfl⟩
-- 115 
instance : Ty Try.prog 115 false 1 8 (.nilFunc) [.nilFunc] := ⟨by kernel_rfl, by kernel_rfl, rfl, rfl⟩
-- 116 *int
instance : Ty Try.prog 116 false 1 8 (.pointer none) [.pointer none] := ⟨by kernel_rfl, by kernel_rfl, rfl, rfl⟩
-- 117 
instance : Ty Try.prog 117 false 1 8 (.nilFunc) [.nilFunc] := ⟨by kernel_rfl, by kernel_rfl, rfl, rfl⟩
-- 118 *slices.xorshift
instance : Ty Try.prog 118 false 1 8 (.pointer none) [.pointer none] := ⟨by kernel_rfl, by kernel_rfl, rfl, rfl⟩
-- 120 
instance : Ty Try.prog 120 false 1 8 (.nilFunc) [.nilFunc] := ⟨by kernel_rfl, by kernel_rfl, rfl, rfl⟩
-- 121 
instance : Ty Try.prog 121 false 1 8 (.nilFunc) [.nilFunc] := ⟨by kernel_rfl, by kernel_rfl, rfl, rfl⟩
-- 122 struct { _interface *abi.Type; concrete *abi.Type; asserted *abi.Type; missingMethod string }
instance : Ty Try.prog 122 true 4 40 (.agg #[.pointer none, .pointer none, .pointer none, .string ByteArray.empty]) [.pointer none, .pointer none, .pointer none, .string ByteArray.empty] := ⟨by kernel_rfl, by kernel_rfl, rfl, rfl⟩
instance : FieldTy Try.prog 122 0 0 17 0 := ⟨by kernel_rfl, by kernel_rfl⟩
instance : FieldTy Try.prog 122 1 1 17 0 := ⟨by kernel_rfl, by kernel_rfl⟩
instance : FieldTy Try.prog 122 2 2 17 0 := ⟨by kernel_rfl, by kernel_rfl⟩
instance : FieldTy Try.prog 122 3 3 9 0 := ⟨by kernel_rfl, by kernel_rfl⟩
instance : BuildTy Try.prog 122 [(0, 1), (1, 1), (2, 1), (3, 1)] [.pointer none, .pointer none, .pointer none, .string ByteArray.empty] := ⟨fun parts => by kernel_rfl⟩
-- 124 [0]*runtime.PanicNilError
instance : Ty Try.prog 124 true 0 0 (.agg #[]) [] := ⟨by kernel_rfl, by kernel_rfl, rfl, rfl⟩
instance : ArrayTy Try.prog 124 0 16 := ⟨by kernel_rfl⟩
-- 125 struct { _ [0]*runtime.PanicNilError }
instance : Ty Try.prog 125 true 0 0 (.agg #[]) [] := ⟨by kernel_rfl, by kernel_rfl, rfl, rfl⟩
-- 127 
instance : Ty Try.prog 127 false 1 8 (.nilFunc) [.nilFunc] := ⟨by kernel_rfl, by kernel_rfl, rfl, rfl⟩
-- 130 
instance : Ty Try.prog 130 false 1 8 (.nilFunc) [.nilFunc] := ⟨by kernel_rfl, by kernel_rfl, rfl, rfl⟩
-- 131 *uint8
instance : Ty Try.prog 131 false 1 8 (.pointer none) [.pointer none] := ⟨by kernel_rfl, by kernel_rfl, rfl, rfl⟩
-- 134 struct { Size_ uintptr; PtrBytes uintptr; Hash uint32; TFlag abi.TFlag; Align_ uint8; FieldAlign_ uint8; Kind_ abi.Kind; Equal func(unsafe.Pointer, unsafe.Pointer) bool; GCData *uint8; Str abi.NameOff; PtrToThis abi.TypeOff }
instance : Ty Try.prog 134 true 11 48 (.agg #[.int .u64 0, .int .u64 0, .int .u32 0, .int .u8 0, .int .u8 0, .int .u8 0, .int .u8 0, .nilFunc, .pointer none, .int .i32 0, .int .i32 0]) [.int .u64 0, .int .u64 0, .int .u32 0, .int .u8 0, .int .u8 0, .int .u8 0, .int .u8 0, .nilFunc, .pointer none, .int .i32 0, .int .i32 0] := ⟨by kernel_rfl, by kernel_rfl, rfl, rfl⟩
instance : FieldTy Try.prog 134 0 0 12 0 := ⟨by kernel_rfl, by kernel_rfl⟩
instance : FieldTy Try.prog 134 1 1 12 0 := ⟨by kernel_rfl, by kernel_rfl⟩
instance : FieldTy Try.prog 134 2 2 109 0 := ⟨by kernel_rfl, by kernel_rfl⟩
instance : FieldTy Try.prog 134 3 3 128 0 := ⟨by kernel_rfl, by kernel_rfl⟩
instance : FieldTy Try.prog 134 4 4 5 0 := ⟨by kernel_rfl, by kernel_rfl⟩
instance : FieldTy Try.prog 134 5 5 5 0 := ⟨by kernel_rfl, by kernel_rfl⟩
instance : FieldTy Try.prog 134 6 6 129 0 := ⟨by kernel_rfl, by kernel_rfl⟩
instance : FieldTy Try.prog 134 7 7 130 0 := ⟨by kernel_rfl, by kernel_rfl⟩
instance : FieldTy Try.prog 134 8 8 131 0 := ⟨by kernel_rfl, by kernel_rfl⟩
instance : FieldTy Try.prog 134 9 9 132 0 := ⟨by kernel_rfl, by kernel_rfl⟩
instance : FieldTy Try.prog 134 10 10 133 0 := ⟨by kernel_rfl, by kernel_rfl⟩
instance : BuildTy Try.prog 134 [(0, 1), (1, 1), (2, 1), (3, 1), (4, 1), (5, 1), (6, 1), (7, 1), (8, 1), (9, 1), (10, 1)] [.int .u64 0, .int .u64 0, .int .u32 0, .int .u8 0, .int .u8 0, .int .u8 0, .int .u8 0, .nilFunc, .pointer none, .int .i32 0, .int .i32 0] := ⟨fun parts => by kernel_rfl⟩
-- 136 unsafe.Pointer
instance : Ty Try.prog 136 false 1 8 (.pointer none) [.pointer none] := ⟨by kernel_rfl, by kernel_rfl, rfl, rfl⟩
-- deuce/deucelaw11.GateAsks
instance : FnOk Try.prog 3 := ⟨by kernel_rfl⟩
-- deuce/deucelaw11.GateRefunds
instance : FnOk Try.prog 4 := ⟨by kernel_rfl⟩
-- deuce/deucelaw11.GateSeats
instance : FnOk Try.prog 5 := ⟨by kernel_rfl⟩
-- deuce/deucelaw11.GateTurn
instance : FnOk Try.prog 6 := ⟨by kernel_rfl⟩
-- deuce/deucelaw11.GateEnough
instance : FnOk Try.prog 7 := ⟨by kernel_rfl⟩
-- deuce/deucelaw11.GatePaid
instance : FnOk Try.prog 8 := ⟨by kernel_rfl⟩
-- deuce/deucelaw11.GateOrder
instance : FnOk Try.prog 9 := ⟨by kernel_rfl⟩
-- deuce/deucelaw11.GateEnters
instance : FnOk Try.prog 10 := ⟨by kernel_rfl⟩
-- deuce/deucelaw11.GateWithin
instance : FnOk Try.prog 11 := ⟨by kernel_rfl⟩
-- deuce/deucelaw11.Far
instance : FnOk Try.prog 12 := ⟨by kernel_rfl⟩
-- deuce/deucelaw11.works
instance : FnOk Try.prog 13 := ⟨by kernel_rfl⟩
-- deuce/deuceref11.Copy
instance : FnOk Try.prog 14 := ⟨by kernel_rfl⟩
-- deuce/gate.Sure
instance : FnOk Try.prog 15 := ⟨by kernel_rfl⟩
-- deuce/deuceref11.Sure
instance : FnOk Try.prog 16 := ⟨by kernel_rfl⟩
-- deuce/gate.Enough
instance : FnOk Try.prog 17 := ⟨by kernel_rfl⟩
-- deuce/deuceref11.Enough
instance : FnOk Try.prog 18 := ⟨by kernel_rfl⟩
-- deuce/gate.Refund
instance : FnOk Try.prog 19 := ⟨by kernel_rfl⟩
-- deuce/deuceref11.Refund
instance : FnOk Try.prog 20 := ⟨by kernel_rfl⟩
-- deuce/gate.Total
instance : FnOk Try.prog 21 := ⟨by kernel_rfl⟩
-- deuce/deuceref11.Total
instance : FnOk Try.prog 22 := ⟨by kernel_rfl⟩
-- deuce/deucelaw11.sameInts
instance : FnOk Try.prog 23 := ⟨by kernel_rfl⟩
-- deuce/deucelaw11.ready
instance : FnOk Try.prog 24 := ⟨by kernel_rfl⟩
-- deuce/gate.Enter
instance : FnOk Try.prog 25 := ⟨by kernel_rfl⟩
-- deuce/deuceref11.Order
instance : FnOk Try.prog 26 := ⟨by kernel_rfl⟩
-- deuce/deuceref11.People
instance : FnOk Try.prog 27 := ⟨by kernel_rfl⟩
-- deuce/deucelaw11.last
instance : FnOk Try.prog 28 := ⟨by kernel_rfl⟩
-- deuce/deuceref11.CheckTickets
instance : FnOk Try.prog 29 := ⟨by kernel_rfl⟩
-- deuce/gate.Check
instance : FnOk Try.prog 30 := ⟨by kernel_rfl⟩
-- deuce/deuceref11.Check
instance : FnOk Try.prog 31 := ⟨by kernel_rfl⟩
-- deuce/deuceref11.Enter
instance : FnOk Try.prog 32 := ⟨by kernel_rfl⟩
-- deuce/gate.Inside
instance : FnOk Try.prog 33 := ⟨by kernel_rfl⟩
-- deuce/deuceref11.Inside
instance : FnOk Try.prog 34 := ⟨by kernel_rfl⟩
-- deuce/deucelaw11.Example
instance : FnOk Try.prog 35 := ⟨by kernel_rfl⟩
-- deuce/gate.group
instance : FnOk Try.prog 36 := ⟨by kernel_rfl⟩
-- deuce/gate.sure
instance : FnOk Try.prog 37 := ⟨by kernel_rfl⟩
-- deuce/deuceref11.group
instance : FnOk Try.prog 38 := ⟨by kernel_rfl⟩
-- deuce/deuceref11.sure
instance : FnOk Try.prog 39 := ⟨by kernel_rfl⟩
-- deuce/gate.areTickets
instance : FnOk Try.prog 40 := ⟨by kernel_rfl⟩
-- deuce/gate.refund
instance : FnOk Try.prog 41 := ⟨by kernel_rfl⟩
-- deuce/gate.within
instance : FnOk Try.prog 42 := ⟨by kernel_rfl⟩
-- deuce/gate.run
instance : FnOk Try.prog 43 := ⟨by kernel_rfl⟩
-- deuce/deuceref11.within
instance : FnOk Try.prog 44 := ⟨by kernel_rfl⟩
-- deuce/gate.isTime
instance : FnOk Try.prog 45 := ⟨by kernel_rfl⟩
-- deuce/gate.isParty
instance : FnOk Try.prog 46 := ⟨by kernel_rfl⟩
-- slices.ContainsFunc[[]deuce/api.Free,deuce/api.Free]
instance : FnOk Try.prog 47 := ⟨by kernel_rfl⟩
-- deuce/gate.Check$1
instance : FnOk Try.prog 48 := ⟨by kernel_rfl⟩
-- deuce/deuceref11.enter
instance : FnOk Try.prog 49 := ⟨by kernel_rfl⟩
-- deuce/gate.rates
instance : FnOk Try.prog 50 := ⟨by kernel_rfl⟩
-- slices.IndexFunc[[]deuce/api.Party,deuce/api.Party]
instance : FnOk Try.prog 51 := ⟨by kernel_rfl⟩
-- deuce/gate.group$1
instance : FnOk Try.prog 52 := ⟨by kernel_rfl⟩
-- slices.ContainsFunc[[]int,int]
instance : FnOk Try.prog 53 := ⟨by kernel_rfl⟩
-- deuce/gate.areTickets$1
instance : FnOk Try.prog 54 := ⟨by kernel_rfl⟩
-- deuce/gate.open
instance : FnOk Try.prog 55 := ⟨by kernel_rfl⟩
-- (*deuce/gate.crowd).join
instance : FnOk Try.prog 56 := ⟨by kernel_rfl⟩
-- (*deuce/gate.crowd).pass
instance : FnOk Try.prog 57 := ⟨by kernel_rfl⟩
-- slices.IndexFunc[[]deuce/api.Free,deuce/api.Free]
instance : FnOk Try.prog 58 := ⟨by kernel_rfl⟩
-- deuce/deuceref11.waits
instance : FnOk Try.prog 59 := ⟨by kernel_rfl⟩
-- deuce/gate.rates$1
instance : FnOk Try.prog 60 := ⟨by kernel_rfl⟩
-- slices.IndexFunc[[]int,int]
instance : FnOk Try.prog 61 := ⟨by kernel_rfl⟩
-- slices.SortFunc[[]int,int]
instance : FnOk Try.prog 62 := ⟨by kernel_rfl⟩
-- deuce/gate.open$1
instance : FnOk Try.prog 63 := ⟨by kernel_rfl⟩
-- cmp.Or[int]
instance : FnOk Try.prog 64 := ⟨by kernel_rfl⟩
-- (*deuce/gate.crowd).join$1
instance : FnOk Try.prog 65 := ⟨by kernel_rfl⟩
-- slices.DeleteFunc[[]int,int]
instance : FnOk Try.prog 66 := ⟨by kernel_rfl⟩
-- slices.pdqsortCmpFunc[int]
instance : FnOk Try.prog 67 := ⟨by kernel_rfl⟩
-- math/bits.Len
instance : FnOk Try.prog 68 := ⟨by kernel_rfl⟩
-- slices.insertionSortCmpFunc[int]
instance : FnOk Try.prog 69 := ⟨by kernel_rfl⟩
-- slices.heapSortCmpFunc[int]
instance : FnOk Try.prog 70 := ⟨by kernel_rfl⟩
-- slices.breakPatternsCmpFunc[int]
instance : FnOk Try.prog 71 := ⟨by kernel_rfl⟩
-- slices.choosePivotCmpFunc[int]
instance : FnOk Try.prog 72 := ⟨by kernel_rfl⟩
-- slices.reverseRangeCmpFunc[int]
instance : FnOk Try.prog 73 := ⟨by kernel_rfl⟩
-- slices.partialInsertionSortCmpFunc[int]
instance : FnOk Try.prog 74 := ⟨by kernel_rfl⟩
-- slices.partitionEqualCmpFunc[int]
instance : FnOk Try.prog 75 := ⟨by kernel_rfl⟩
-- slices.partitionCmpFunc[int]
instance : FnOk Try.prog 76 := ⟨by kernel_rfl⟩
-- math/bits.Len32
instance : FnOk Try.prog 77 := ⟨by kernel_rfl⟩
-- math/bits.Len64
instance : FnOk Try.prog 78 := ⟨by kernel_rfl⟩
-- slices.siftDownCmpFunc[int]
instance : FnOk Try.prog 79 := ⟨by kernel_rfl⟩
-- slices.nextPowerOfTwo
instance : FnOk Try.prog 80 := ⟨by kernel_rfl⟩
-- (*slices.xorshift).Next
instance : FnOk Try.prog 81 := ⟨by kernel_rfl⟩
-- slices.medianAdjacentCmpFunc[int]
instance : FnOk Try.prog 82 := ⟨by kernel_rfl⟩
-- slices.medianCmpFunc[int]
instance : FnOk Try.prog 83 := ⟨by kernel_rfl⟩
-- slices.order2CmpFunc[int]
instance : FnOk Try.prog 84 := ⟨by kernel_rfl⟩
end Go.Proofs.Ytbcclgfobiholaa
