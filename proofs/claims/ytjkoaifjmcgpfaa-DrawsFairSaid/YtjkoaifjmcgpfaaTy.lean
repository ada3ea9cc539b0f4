/- The types and functions of this seat's program, as instances of the walk's classes; each is a closed fact that the kernel reckons. -/
import Derived.Test.YtjkoaifjmcgpfaaW9
import Derived.Test.YtjkoaifjmcgpfaaProg
import Derived.KernelRfl
namespace Go.Proofs.Ytjkoaifjmcgpfaa
open Go

-- 1 
instance : Ty Try.prog 1 false 1 8 (.nilFunc) [.nilFunc] := ⟨by kernel_rfl, by kernel_rfl, rfl, rfl⟩
-- 2 int64
instance : Ty Try.prog 2 false 1 8 (.int .i64 0) [.int .i64 0] := ⟨by kernel_rfl, by kernel_rfl, rfl, rfl⟩
-- 3 int
instance : Ty Try.prog 3 false 1 8 (.int .i64 0) [.int .i64 0] := ⟨by kernel_rfl, by kernel_rfl, rfl, rfl⟩
-- 4 bool
instance : Ty Try.prog 4 false 1 1 (.bool false) [.bool false] := ⟨by kernel_rfl, by kernel_rfl, rfl, rfl⟩
-- 5 uint8
instance : Ty Try.prog 5 false 1 1 (.int .u8 0) [.int .u8 0] := ⟨by kernel_rfl, by kernel_rfl, rfl, rfl⟩
-- 7 struct { x int64; y int; signed bool; code abi.BoundsErrorCode }
instance : Ty Try.prog 7 true 4 24 (.agg #[.int .i64 0, .int .i64 0, .bool false, .int .u8 0]) [.int .i64 0, .int .i64 0, .bool false, .int .u8 0] := ⟨by kernel_rfl, by kernel_rfl, rfl, rfl⟩
instance : FieldTy Try.prog 7 0 0 2 0 := ⟨by kernel_rfl, by kernel_rfl⟩
instance : FieldTy Try.prog 7 1 1 3 0 := ⟨by kernel_rfl, by kernel_rfl⟩
instance : FieldTy Try.prog 7 2 2 4 0 := ⟨by kernel_rfl, by kernel_rfl⟩
instance : FieldTy Try.prog 7 3 3 6 0 := ⟨by kernel_rfl, by kernel_rfl⟩
instance : BuildTy Try.prog 7 [(0, 1), (1, 1), (2, 1), (3, 1)] [.int .i64 0, .int .i64 0, .bool false, .int .u8 0] := ⟨fun parts => by kernel_rfl⟩
-- 9 string
instance : Ty Try.prog 9 false 1 16 (.string ByteArray.empty) [.string ByteArray.empty] := ⟨by kernel_rfl, by kernel_rfl, rfl, rfl⟩
-- 12 uintptr
instance : Ty Try.prog 12 false 1 8 (.int .u64 0) [.int .u64 0] := ⟨by kernel_rfl, by kernel_rfl, rfl, rfl⟩
-- 13 struct { msg string; addr uintptr }
instance : Ty Try.prog 13 true 2 24 (.agg #[.string ByteArray.empty, .int .u64 0]) [.string ByteArray.empty, .int .u64 0] := ⟨by kernel_rfl, by kernel_rfl, rfl, rfl⟩
instance : FieldTy Try.prog 13 0 0 9 0 := ⟨by kernel_rfl, by kernel_rfl⟩
instance : FieldTy Try.prog 13 1 1 12 0 := ⟨by kernel_rfl, by kernel_rfl⟩
instance : BuildTy Try.prog 13 [(0, 1), (1, 1)] [.string ByteArray.empty, .int .u64 0] := ⟨fun parts => by kernel_rfl⟩
-- 18 struct { typ *abi.Type }
instance : Ty Try.prog 18 true 1 8 (.agg #[.pointer none]) [.pointer none] := ⟨by kernel_rfl, by kernel_rfl, rfl, rfl⟩
instance : FieldTy Try.prog 18 0 0 17 0 := ⟨by kernel_rfl, by kernel_rfl⟩
instance : BuildTy Try.prog 18 [(0, 1)] [.pointer none] := ⟨fun parts => by kernel_rfl⟩
-- 20 
instance : Ty Try.prog 20 false 1 16 (.nilIface) [.nilIface] := ⟨by kernel_rfl, by kernel_rfl, rfl, rfl⟩
-- 21 int32
instance : Ty Try.prog 21 false 1 4 (.int .i32 0) [.int .i32 0] := ⟨by kernel_rfl, by kernel_rfl, rfl, rfl⟩
-- 22 []api.Person
instance : Ty Try.prog 22 false 1 24 (.slice none 0 0) [.slice none 0 0] := ⟨by kernel_rfl, by kernel_rfl, rfl, rfl⟩
instance : SliceTy Try.prog 22 42 := ⟨by kernel_rfl⟩
-- 23 []int
instance : Ty Try.prog 23 false 1 24 (.slice none 0 0) [.slice none 0 0] := ⟨by kernel_rfl, by kernel_rfl, rfl, rfl⟩
instance : SliceTy Try.prog 23 3 := ⟨by kernel_rfl⟩
-- 24 struct { Size int; Seeds int; Persons []api.Person; Lots []int }
instance : Ty Try.prog 24 true 4 64 (.agg #[.int .i64 0, .int .i64 0, .slice none 0 0, .slice none 0 0]) [.int .i64 0, .int .i64 0, .slice none 0 0, .slice none 0 0] := ⟨by kernel_rfl, by kernel_rfl, rfl, rfl⟩
instance : FieldTy Try.prog 24 0 0 3 0 := ⟨by kernel_rfl, by kernel_rfl⟩
instance : FieldTy Try.prog 24 1 1 3 0 := ⟨by kernel_rfl, by kernel_rfl⟩
instance : FieldTy Try.prog 24 2 2 22 0 := ⟨by kernel_rfl, by kernel_rfl⟩
instance : FieldTy Try.prog 24 3 3 23 0 := ⟨by kernel_rfl, by kernel_rfl⟩
instance : BuildTy Try.prog 24 [(0, 1), (1, 1), (2, 1), (3, 1)] [.int .i64 0, .int .i64 0, .slice none 0 0, .slice none 0 0] := ⟨fun parts => by kernel_rfl⟩
-- 25 deuce/api.Plan
instance : Ty Try.prog 25 true 4 64 (.agg #[.int .i64 0, .int .i64 0, .slice none 0 0, .slice none 0 0]) [.int .i64 0, .int .i64 0, .slice none 0 0, .slice none 0 0] := ⟨by kernel_rfl, by kernel_rfl, rfl, rfl⟩
instance : FieldTy Try.prog 25 0 0 3 0 := ⟨by kernel_rfl, by kernel_rfl⟩
instance : FieldTy Try.prog 25 1 1 3 0 := ⟨by kernel_rfl, by kernel_rfl⟩
instance : FieldTy Try.prog 25 2 2 22 0 := ⟨by kernel_rfl, by kernel_rfl⟩
instance : FieldTy Try.prog 25 3 3 23 0 := ⟨by kernel_rfl, by kernel_rfl⟩
instance : BuildTy Try.prog 25 [(0, 1), (1, 1), (2, 1), (3, 1)] [.int .i64 0, .int .i64 0, .slice none 0 0, .slice none 0 0] := ⟨fun parts => by kernel_rfl⟩
-- 26 
instance : Ty Try.prog 26 false 1 8 (.nilFunc) [.nilFunc] := ⟨by kernel_rfl, by kernel_rfl, rfl, rfl⟩
-- 27 
instance : Ty Try.prog 27 false 1 8 (.nilFunc) [.nilFunc] := ⟨by kernel_rfl, by kernel_rfl, rfl, rfl⟩
-- 28 deuce/api.Errno
instance : Ty Try.prog 28 false 1 8 (.int .i64 0) [.int .i64 0] := ⟨by kernel_rfl, by kernel_rfl, rfl, rfl⟩
-- 30 
instance : Ty Try.prog 30 false 1 8 (.nilFunc) [.nilFunc] := ⟨by kernel_rfl, by kernel_rfl, rfl, rfl⟩
-- 31 
instance : Ty Try.prog 31 false 1 8 (.nilFunc) [.nilFunc] := ⟨by kernel_rfl, by kernel_rfl, rfl, rfl⟩
-- 32 
instance : Ty Try.prog 32 false 1 8 (.nilFunc) [.nilFunc] := ⟨by kernel_rfl, by kernel_rfl, rfl, rfl⟩
-- 33 
instance : Ty Try.prog 33 false 1 8 (.nilFunc) [.nilFunc] := ⟨by kernel_rfl, by kernel_rfl, rfl, rfl⟩
-- 35 
instance : Ty Try.prog 35 false 1 8 (.nilFunc) [.nilFunc] := ⟨by kernel_rfl, by kernel_rfl, rfl, rfl⟩
-- 36 
instance : Ty Try.prog 36 false 1 8 (.nilFunc) [.nilFunc] := ⟨by kernel_rfl, by kernel_rfl, rfl, rfl⟩
-- 37 
instance : Ty Try.prog 37 false 1 8 (.nilFunc) [.nilFunc] := ⟨by kernel_rfl, by kernel_rfl, rfl, rfl⟩
-- 38 
instance : Ty Try.prog 38 false 1 8 (.nilFunc) [.nilFunc] := ⟨by kernel_rfl, by kernel_rfl, rfl, rfl⟩
-- 39 
instance : Ty Try.prog 39 false 1 8 (.nilFunc) [.nilFunc] := ⟨by kernel_rfl, by kernel_rfl, rfl, rfl⟩
-- 40 
instance : Ty Try.prog 40 false 1 8 (.nilFunc) [.nilFunc] := ⟨by kernel_rfl, by kernel_rfl, rfl, rfl⟩
-- 41 struct { Player int; Nation int; Qualified bool }
instance : Ty Try.prog 41 true 3 24 (.agg #[.int .i64 0, .int .i64 0, .bool false]) [.int .i64 0, .int .i64 0, .bool false] := ⟨by kernel_rfl, by kernel_rfl, rfl, rfl⟩
instance : FieldTy Try.prog 41 0 0 3 0 := ⟨by kernel_rfl, by kernel_rfl⟩
instance : FieldTy Try.prog 41 1 1 3 0 := ⟨by kernel_rfl, by kernel_rfl⟩
instance : FieldTy Try.prog 41 2 2 4 0 := ⟨by kernel_rfl, by kernel_rfl⟩
instance : BuildTy Try.prog 41 [(0, 1), (1, 1), (2, 1)] [.int .i64 0, .int .i64 0, .bool false] := ⟨fun parts => by kernel_rfl⟩
-- 42 deuce/api.Person
instance : Ty Try.prog 42 true 3 24 (.agg #[.int .i64 0, .int .i64 0, .bool false]) [.int .i64 0, .int .i64 0, .bool false] := ⟨by kernel_rfl, by kernel_rfl, rfl, rfl⟩
instance : FieldTy Try.prog 42 0 0 3 0 := ⟨by kernel_rfl, by kernel_rfl⟩
instance : FieldTy Try.prog 42 1 1 3 0 := ⟨by kernel_rfl, by kernel_rfl⟩
instance : FieldTy Try.prog 42 2 2 4 0 := ⟨by kernel_rfl, by kernel_rfl⟩
instance : BuildTy Try.prog 42 [(0, 1), (1, 1), (2, 1)] [.int .i64 0, .int .i64 0, .bool false] := ⟨fun parts => by kernel_rfl⟩
-- 43 
instance : Ty Try.prog 43 false 1 8 (.nilFunc) [.nilFunc] := ⟨by kernel_rfl, by kernel_rfl, rfl, rfl⟩
-- 44 
instance : Ty Try.prog 44 false 1 8 (.nilFunc) [.nilFunc] := ⟨by kernel_rfl, by kernel_rfl, rfl, rfl⟩
-- 45 
instance : Ty Try.prog 45 false 1 8 (.nilFunc) [.nilFunc] := ⟨by kernel_rfl, by kernel_rfl, rfl, rfl⟩
-- 46 
instance : Ty Try.prog 46 false 1 8 (.nilFunc) [.nilFunc] := ⟨by kernel_rfl, by kernel_rfl, rfl, rfl⟩
-- 48 
instance : Ty Try.prog 48 false 1 8 (.nilFunc) [.nilFunc] := ⟨by kernel_rfl, by kernel_rfl, rfl, rfl⟩
-- 49 
instance : Ty Try.prog 49 false 1 8 (.nilFunc) [.nilFunc] := ⟨by kernel_rfl, by kernel_rfl, rfl, rfl⟩
-- 50 
instance : Ty Try.prog 50 false 1 8 (.nilFunc) [.nilFunc] := ⟨by kernel_rfl, by kernel_rfl, rfl, rfl⟩
-- 51 struct { Sheet []int; Players []int; Lucky []int }
instance : Ty Try.prog 51 true 3 72 (.agg #[.slice none 0 0, .slice none 0 0, .slice none 0 0]) [.slice none 0 0, .slice none 0 0, .slice none 0 0] := ⟨by kernel_rfl, by kernel_rfl, rfl, rfl⟩
instance : FieldTy Try.prog 51 0 0 23 0 := ⟨by kernel_rfl, by kernel_rfl⟩
instance : FieldTy Try.prog 51 1 1 23 0 := ⟨by kernel_rfl, by kernel_rfl⟩
instance : FieldTy Try.prog 51 2 2 23 0 := ⟨by kernel_rfl, by kernel_rfl⟩
instance : BuildTy Try.prog 51 [(0, 1), (1, 1), (2, 1)] [.slice none 0 0, .slice none 0 0, .slice none 0 0] := ⟨fun parts => by kernel_rfl⟩
-- 52 deuce/deucelaw06.Change
instance : Ty Try.prog 52 true 3 72 (.agg #[.slice none 0 0, .slice none 0 0, .slice none 0 0]) [.slice none 0 0, .slice none 0 0, .slice none 0 0] := ⟨by kernel_rfl, by kernel_rfl, rfl, rfl⟩
instance : FieldTy Try.prog 52 0 0 23 0 := ⟨by kernel_rfl, by kernel_rfl⟩
instance : FieldTy Try.prog 52 1 1 23 0 := ⟨by kernel_rfl, by kernel_rfl⟩
instance : FieldTy Try.prog 52 2 2 23 0 := ⟨by kernel_rfl, by kernel_rfl⟩
instance : BuildTy Try.prog 52 [(0, 1), (1, 1), (2, 1)] [.slice none 0 0, .slice none 0 0, .slice none 0 0] := ⟨fun parts => by kernel_rfl⟩
-- 54 
instance : Ty Try.prog 54 false 1 8 (.nilFunc) [.nilFunc] := ⟨by kernel_rfl, by kernel_rfl, rfl, rfl⟩
-- 55 
instance : Ty Try.prog 55 false 1 8 (.nilFunc) [.nilFunc] := ⟨by kernel_rfl, by kernel_rfl, rfl, rfl⟩
-- 56 
instance : Ty Try.prog 56 false 1 8 (.nilFunc) [.nilFunc] := ⟨by kernel_rfl, by kernel_rfl, rfl, rfl⟩
-- 57 
instance : Ty Try.prog 57 false 1 8 (.nilFunc) [.nilFunc] := ⟨by kernel_rfl, by kernel_rfl, rfl, rfl⟩
-- 58 
instance : Ty Try.prog 58 false 1 8 (.nilFunc) [.nilFunc] := ⟨by kernel_rfl, by kernel_rfl, rfl, rfl⟩
-- 60 
instance : Ty Try.prog 60 false 1 8 (.nilFunc) [.nilFunc] := ⟨by kernel_rfl, by kernel_rfl, rfl, rfl⟩
-- 62 
instance : Ty Try.prog 62 false 1 8 (.nilFunc) [.nilFunc] := ⟨by kernel_rfl, by kernel_rfl, rfl, rfl⟩
-- 63 [][]int
instance : Ty Try.prog 63 false 1 24 (.slice none 0 0) [.slice none 0 0] := ⟨by kernel_rfl, by kernel_rfl, rfl, rfl⟩
instance : SliceTy Try.prog 63 23 := ⟨by kernel_rfl⟩
-- 64 
instance : Ty Try.prog 64 false 1 8 (.nilFunc) [.nilFunc] := ⟨by kernel_rfl, by kernel_rfl, rfl, rfl⟩
-- 65 
instance : Ty Try.prog 65 false 1 8 (.nilFunc) [.nilFunc] := ⟨by kernel_rfl, by kernel_rfl, rfl, rfl⟩
-- 66 
instance : Ty Try.prog 66 false 1 8 (.nilFunc) [.nilFunc] := ⟨by kernel_rfl, by kernel_rfl, rfl, rfl⟩
-- 67 
instance : Ty Try.prog 67 false 1 8 (.nilFunc) [.nilFunc] := ⟨by kernel_rfl, by kernel_rfl, rfl, rfl⟩
-- 68 
instance : Ty Try.prog 68 false 1 8 (.nilFunc) [.nilFunc] := ⟨by kernel_rfl, by kernel_rfl, rfl, rfl⟩
-- 69 
instance : Ty Try.prog 69 false 1 8 (.nilFunc) [.nilFunc] := ⟨by kernel_rfl, by kernel_rfl, rfl, rfl⟩
-- 70 
instance : Ty Try.prog 70 false 1 8 (.nilFunc) [.nilFunc] := ⟨by kernel_rfl, by kernel_rfl, rfl, rfl⟩
-- 71 
instance : Ty Try.prog 71 false 1 8 (.nilFunc) [.nilFunc] := ⟨by kernel_rfl, by kernel_rfl, rfl, rfl⟩
-- 72 
instance : Ty Try.prog 72 false 1 8 (.nilFunc) [.nilFunc] := ⟨by kernel_rfl, by kernel_rfl, rfl, rfl⟩
-- 73 
instance : Ty Try.prog 73 false 1 8 (.nilFunc) [.nilFunc] := ⟨by kernel_rfl, by kernel_rfl, rfl, rfl⟩
-- 74 
instance : Ty Try.prog 74 false 1 8 (.nilFunc) [.nilFunc] := ⟨by kernel_rfl, by kernel_rfl, rfl, rfl⟩
-- 75 
instance : Ty Try.prog 75 false 1 8 (.nilFunc) [.nilFunc] := ⟨by kernel_rfl, by kernel_rfl, rfl, rfl⟩
-- 76 
instance : Ty Try.prog 76 false 1 8 (.nilFunc) [.nilFunc] := ⟨by kernel_rfl, by kernel_rfl, rfl, rfl⟩
-- 77 
instance : Ty Try.prog 77 false 1 8 (.nilFunc) [.nilFunc] := ⟨by kernel_rfl, by kernel_rfl, rfl, rfl⟩
-- 78 
instance : Ty Try.prog 78 false 1 8 (.nilFunc) [.nilFunc] := ⟨by kernel_rfl, by kernel_rfl, rfl, rfl⟩
-- 79 
instance : Ty Try.prog 79 false 1 8 (.nilFunc) [.nilFunc] := ⟨by kernel_rfl, by kernel_rfl, rfl, rfl⟩
-- 80 
instance : Ty Try.prog 80 false 1 8 (.nilFunc) [.nilFunc] := ⟨by kernel_rfl, by kernel_rfl, rfl, rfl⟩
-- 81 
instance : Ty Try.prog 81 false 1 8 (.nilFunc) [.nilFunc] := ⟨by kernel_rfl, by kernel_rfl, rfl, rfl⟩
-- 82 
instance : Ty Try.prog 82 false 1 8 (.nilFunc) [.nilFunc] := ⟨by kernel_rfl, by kernel_rfl, rfl, rfl⟩
-- 83 
instance : Ty Try.prog 83 false 1 8 (.nilFunc) [.nilFunc] := ⟨by kernel_rfl, by kernel_rfl, rfl, rfl⟩
-- 84 
instance : Ty Try.prog 84 false 1 8 (.nilFunc) [.nilFunc] := ⟨by kernel_rfl, by kernel_rfl, rfl, rfl⟩
-- 85 
instance : Ty Try.prog 85 false 1 8 (.nilFunc) [.nilFunc] := ⟨by kernel_rfl, by kernel_rfl, rfl, rfl⟩
-- 86 
instance : Ty Try.prog 86 false 1 8 (.nilFunc) [.nilFunc] := ⟨by kernel_rfl, by kernel_rfl, rfl, rfl⟩
-- 87 
instance : Ty Try.prog 87 false 1 8 (.nilFunc) [.nilFunc] := ⟨by kernel_rfl, by kernel_rfl, rfl, rfl⟩
-- 88 
instance : Ty Try.prog 88 false 1 8 (.nilFunc) [.nilFunc] := ⟨by kernel_rfl, by kernel_rfl, rfl, rfl⟩
-- 89 uint
instance : Ty Try.prog 89 false 1 8 (.int .u64 0) [.int .u64 0] := ⟨by kernel_rfl, by kernel_rfl, rfl, rfl⟩
-- 90 
instance : Ty Try.prog 90 false 1 8 (.nilFunc) [.nilFunc] := ⟨by kernel_rfl, by kernel_rfl, rfl, rfl⟩
-- 91 
instance : Ty Try.prog 91 false 1 8 (.nilFunc) [.nilFunc] := ⟨by kernel_rfl, by kernel_rfl, rfl, rfl⟩
-- 92 slices.sortedHint
instance : Ty Try.prog 92 false 1 8 (.int .i64 0) [.int .i64 0] := ⟨by kernel_rfl, by kernel_rfl, rfl, rfl⟩
-- 94 
instance : Ty Try.prog 94 false 1 8 (.nilFunc) [.nilFunc] := ⟨by kernel_rfl, by kernel_rfl, rfl, rfl⟩
-- 95 
instance : Ty Try.prog 95 false 1 8 (.nilFunc) [.nilFunc] := ⟨by kernel_rfl, by kernel_rfl, rfl, rfl⟩
-- 96 
instance : Ty Try.prog 96 false 1 8 (.nilFunc) [.nilFunc] := ⟨by kernel_rfl, by kernel_rfl, rfl, rfl⟩
-- 98 
instance : Ty Try.prog 98 false 1 8 (.nilFunc) [.nilFunc] := ⟨by kernel_rfl, by kernel_rfl, rfl, rfl⟩
-- 99 
instance : Ty Try.prog 99 false 1 8 (.nilFunc) [.nilFunc] := ⟨by kernel_rfl, by kernel_rfl, rfl, rfl⟩
-- 100 uint32
instance : Ty Try.prog 100 false 1 4 (.int .u32 0) [.int .u32 0] := ⟨by kernel_rfl, by kernel_rfl, rfl, rfl⟩
-- 101 
instance : Ty Try.prog 101 false 1 8 (.nilFunc) [.nilFunc] := ⟨by kernel_rfl, by kernel_rfl, rfl, rfl⟩
-- 102 uint64
instance : Ty Try.prog 102 false 1 8 (.int .u64 0) [.int .u64 0] := ⟨by kernel_rfl, by kernel_rfl, rfl, rfl⟩
-- 103 slices.xorshift
instance : Ty Try.prog 103 false 1 8 (.int .u64 0) [.int .u64 0] := ⟨by kernel_rfl, by kernel_rfl, rfl, rfl⟩
-- 104 
instance : Ty Try.prog 104 false 1 8 (.nilFunc) [.nilFunc] := ⟨by kernel_rfl, by kernel_rfl, rfl, rfl⟩
-- 105 
instance : Ty Try.prog 105 false 1 8 (.nilFunc) [.nilFunc] := ⟨by kernel_rfl, by kernel_rfl, rfl, rfl⟩
-- 106 
instance : Ty Try.prog 106 false 1 8 (.nilFunc) [.nilFunc] := ⟨by kernel_rfl, by kernel_rfl, rfl, rfl⟩
-- 107 *int
instance : Ty Try.prog 107 false 1 8 (.pointer none) [.pointer none] := ⟨by kernel_rfl, by kernel_rfl, rfl, rfl⟩
-- 108 
instance : Ty Try.prog 108 false 1 8 (.nilFunc) [.nilFunc] := ⟨by kernel_rfl, by kernel_rfl, rfl, rfl⟩
-- 109 *slices.xorshift
instance : Ty Try.prog 109 false 1 8 (.pointer none) [.pointer none] := ⟨by kernel_rfl, by kernel_rfl, rfl, rfl⟩
-- 111 
instance : Ty Try.prog 111 false 1 8 (.nilFunc) [.nilFunc] := ⟨by kernel_rfl, by kernel_rfl, rfl, rfl⟩
-- 112 
instance : Ty Try.prog 112 false 1 8 (.nilFunc) [.nilFunc] := ⟨by kernel_rfl, by kernel_rfl, rfl, rfl⟩
-- 113 struct { _interface *abi.Type; concrete *abi.Type; asserted *abi.Type; missingMethod string }
instance : Ty Try.prog 113 true 4 40 (.agg #[.pointer none, .pointer none, .pointer none, .string ByteArray.empty]) [.pointer none, .pointer none, .pointer none, .string ByteArray.empty] := ⟨by kernel_rfl, by kernel_rfl, rfl, rfl⟩
instance : FieldTy Try.prog 113 0 0 17 0 := ⟨by kernel_rfl, by kernel_rfl⟩
instance : FieldTy Try.prog 113 1 1 17 0 := ⟨by kernel_rfl, by kernel_rfl⟩
instance : FieldTy Try.prog 113 2 2 17 0 := ⟨by kernel_rfl, by kernel_rfl⟩
instance : FieldTy Try.prog 113 3 3 9 0 := ⟨by kernel_rfl, by kernel_rfl⟩
instance : BuildTy Try.prog 113 [(0, 1), (1, 1), (2, 1), (3, 1)] [.pointer none, .pointer none, .pointer none, .string ByteArray.empty] := ⟨fun parts => by kernel_rfl⟩
-- 115 [0]*runtime.PanicNilError
instance : Ty Try.prog 115 true 0 0 (.agg #[]) [] := ⟨by kernel_rfl, by kernel_rfl, rfl, rfl⟩
instance : ArrayTy Try.prog 115 0 16 := ⟨by kernel_rfl⟩
-- 116 struct { _ [0]*runtime.PanicNilError }
instance : Ty Try.prog 116 true 0 0 (.agg #[]) [] := ⟨by kernel_rfl, by kernel_rfl, rfl, rfl⟩
-- 118 
instance : Ty Try.prog 118 false 1 8 (.nilFunc) [.nilFunc] := ⟨by kernel_rfl, by kernel_rfl, rfl, rfl⟩
-- 121 
instance : Ty Try.prog 121 false 1 8 (.nilFunc) [.nilFunc] := ⟨by kernel_rfl, by kernel_rfl, rfl, rfl⟩
-- 122 *uint8
instance : Ty Try.prog 122 false 1 8 (.pointer none) [.pointer none] := ⟨by kernel_rfl, by kernel_rfl, rfl, rfl⟩
-- 125 struct { Size_ uintptr; PtrBytes uintptr; Hash uint32; TFlag abi.TFlag; Align_ uint8; FieldAlign_ uint8; Kind_ abi.Kind; Equal func(unsafe.Pointer, unsafe.Pointer) bool; GCData *uint8; Str abi.NameOff; PtrToThis abi.TypeOff }
instance : Ty Try.prog 125 true 11 48 (.agg #[.int .u64 0, .int .u64 0, .int .u32 0, .int .u8 0, .int .u8 0, .int .u8 0, .int .u8 0, .nilFunc, .pointer none, .int .i32 0, .int .i32 0]) [.int .u64 0, .int .u64 0, .int .u32 0, .int .u8 0, .int .u8 0, .int .u8 0, .int .u8 0, .nilFunc, .pointer none, .int .i32 0, .int .i32 0] := ⟨by kernel_rfl, by kernel_rfl, rfl, rfl⟩
instance : FieldTy Try.prog 125 0 0 12 0 := ⟨by kernel_rfl, by kernel_rfl⟩
instance : FieldTy Try.prog 125 1 1 12 0 := ⟨by kernel_rfl, by kernel_rfl⟩
instance : FieldTy Try.prog 125 2 2 100 0 := ⟨by kernel_rfl, by kernel_rfl⟩
instance : FieldTy Try.prog 125 3 3 119 0 := ⟨by kernel_rfl, by kernel_rfl⟩
instance : FieldTy Try.prog 125 4 4 5 0 := ⟨by kernel_rfl, by kernel_rfl⟩
instance : FieldTy Try.prog 125 5 5 5 0 := ⟨by kernel_rfl, by kernel_rfl⟩
instance : FieldTy Try.prog 125 6 6 120 0 := ⟨by kernel_rfl, by kernel_rfl⟩
instance : FieldTy Try.prog 125 7 7 121 0 := ⟨by kernel_rfl, by kernel_rfl⟩
instance : FieldTy Try.prog 125 8 8 122 0 := ⟨by kernel_rfl, by kernel_rfl⟩
instance : FieldTy Try.prog 125 9 9 123 0 := ⟨by kernel_rfl, by kernel_rfl⟩
instance : FieldTy Try.prog 125 10 10 124 0 := ⟨by kernel_rfl, by kernel_rfl⟩
instance : BuildTy Try.prog 125 [(0, 1), (1, 1), (2, 1), (3, 1), (4, 1), (5, 1), (6, 1), (7, 1), (8, 1), (9, 1), (10, 1)] [.int .u64 0, .int .u64 0, .int .u32 0, .int .u8 0, .int .u8 0, .int .u8 0, .int .u8 0, .nilFunc, .pointer none, .int .i32 0, .int .i32 0] := ⟨fun parts => by kernel_rfl⟩
-- 127 unsafe.Pointer
instance : Ty Try.prog 127 false 1 8 (.pointer none) [.pointer none] := ⟨by kernel_rfl, by kernel_rfl, rfl, rfl⟩
-- deuce/deucelaw06.DrawsSame
instance : FnOk Try.prog 3 := ⟨by kernel_rfl⟩
-- deuce/deucelaw06.DrawsIndex
instance : FnOk Try.prog 4 := ⟨by kernel_rfl⟩
-- deuce/deucelaw06.DrawsLots
instance : FnOk Try.prog 5 := ⟨by kernel_rfl⟩
-- deuce/deucelaw06.DrawsApart
instance : FnOk Try.prog 6 := ⟨by kernel_rfl⟩
-- deuce/deucelaw06.DrawsFair
instance : FnOk Try.prog 7 := ⟨by kernel_rfl⟩
-- deuce/deucelaw06.DrawsCounts
instance : FnOk Try.prog 8 := ⟨by kernel_rfl⟩
-- deuce/deucelaw06.DrawsSheets
instance : FnOk Try.prog 9 := ⟨by kernel_rfl⟩
-- deuce/deucelaw06.DrawsAnyOrder
instance : FnOk Try.prog 10 := ⟨by kernel_rfl⟩
-- deuce/deucelaw06.DrawsChanges
instance : FnOk Try.prog 11 := ⟨by kernel_rfl⟩
-- deuce/deucelaw06.valid
instance : FnOk Try.prog 12 := ⟨by kernel_rfl⟩
-- deuce/deucelaw06.works
instance : FnOk Try.prog 13 := ⟨by kernel_rfl⟩
-- deuce/draws.Draw
instance : FnOk Try.prog 14 := ⟨by kernel_rfl⟩
-- deuce/deuceref06.Copy
instance : FnOk Try.prog 15 := ⟨by kernel_rfl⟩
-- deuce/deucelaw06.sameInts
instance : FnOk Try.prog 16 := ⟨by kernel_rfl⟩
-- deuce/deucelaw06.Far
instance : FnOk Try.prog 17 := ⟨by kernel_rfl⟩
-- deuce/draws.Index
instance : FnOk Try.prog 18 := ⟨by kernel_rfl⟩
-- deuce/deucelaw06.copied
instance : FnOk Try.prog 19 := ⟨by kernel_rfl⟩
-- deuce/deuceref06.Index
instance : FnOk Try.prog 20 := ⟨by kernel_rfl⟩
-- deuce/draws.Count
instance : FnOk Try.prog 21 := ⟨by kernel_rfl⟩
-- deuce/draws.Pick
instance : FnOk Try.prog 22 := ⟨by kernel_rfl⟩
-- deuce/deuceref06.IsSheet
instance : FnOk Try.prog 23 := ⟨by kernel_rfl⟩
-- deuce/deuceref06.Legal
instance : FnOk Try.prog 24 := ⟨by kernel_rfl⟩
-- deuce/deucelaw06.earlier
instance : FnOk Try.prog 25 := ⟨by kernel_rfl⟩
-- deuce/deucelaw06.meets
instance : FnOk Try.prog 26 := ⟨by kernel_rfl⟩
-- deuce/draws.Facing
instance : FnOk Try.prog 27 := ⟨by kernel_rfl⟩
-- deuce/deucelaw06.swapped
instance : FnOk Try.prog 28 := ⟨by kernel_rfl⟩
-- deuce/deuceref06.Count
instance : FnOk Try.prog 29 := ⟨by kernel_rfl⟩
-- deuce/deuceref06.Draw
instance : FnOk Try.prog 30 := ⟨by kernel_rfl⟩
-- deuce/deuceref06.Pick
instance : FnOk Try.prog 31 := ⟨by kernel_rfl⟩
-- deuce/deuceref06.Facing
instance : FnOk Try.prog 32 := ⟨by kernel_rfl⟩
-- deuce/draws.Check
instance : FnOk Try.prog 33 := ⟨by kernel_rfl⟩
-- deuce/deuceref06.Check
instance : FnOk Try.prog 34 := ⟨by kernel_rfl⟩
-- deuce/draws.Obeys
instance : FnOk Try.prog 35 := ⟨by kernel_rfl⟩
-- deuce/deuceref06.Obeys
instance : FnOk Try.prog 36 := ⟨by kernel_rfl⟩
-- deuce/draws.Breaks
instance : FnOk Try.prog 37 := ⟨by kernel_rfl⟩
-- deuce/deuceref06.Breaks
instance : FnOk Try.prog 38 := ⟨by kernel_rfl⟩
-- deuce/deucelaw06.samePlan
instance : FnOk Try.prog 39 := ⟨by kernel_rfl⟩
-- deuce/draws.Without
instance : FnOk Try.prog 40 := ⟨by kernel_rfl⟩
-- deuce/draws.Replace
instance : FnOk Try.prog 41 := ⟨by kernel_rfl⟩
-- deuce/deuceref06.In
instance : FnOk Try.prog 42 := ⟨by kernel_rfl⟩
-- deuce/deuceref06.Without
instance : FnOk Try.prog 43 := ⟨by kernel_rfl⟩
-- deuce/deuceref06.Replace
instance : FnOk Try.prog 44 := ⟨by kernel_rfl⟩
-- deuce/deucelaw06.Example
instance : FnOk Try.prog 45 := ⟨by kernel_rfl⟩
-- deuce/draws.pick
instance : FnOk Try.prog 46 := ⟨by kernel_rfl⟩
-- deuce/deuceref06.Sheets
instance : FnOk Try.prog 47 := ⟨by kernel_rfl⟩
-- deuce/draws.check
instance : FnOk Try.prog 48 := ⟨by kernel_rfl⟩
-- deuce/draws.draws
instance : FnOk Try.prog 49 := ⟨by kernel_rfl⟩
-- slices.Equal[[]int,int]
instance : FnOk Try.prog 50 := ⟨by kernel_rfl⟩
-- deuce/deuceref06.CheckSheet
instance : FnOk Try.prog 51 := ⟨by kernel_rfl⟩
-- deuce/deuceref06.all
instance : FnOk Try.prog 52 := ⟨by kernel_rfl⟩
-- deuce/deuceref06.same
instance : FnOk Try.prog 53 := ⟨by kernel_rfl⟩
-- deuce/deuceref06.Number
instance : FnOk Try.prog 54 := ⟨by kernel_rfl⟩
-- deuce/deuceref06.isFull
instance : FnOk Try.prog 55 := ⟨by kernel_rfl⟩
-- deuce/deuceref06.mayFace
instance : FnOk Try.prog 56 := ⟨by kernel_rfl⟩
-- deuce/deuceref06.slot
instance : FnOk Try.prog 57 := ⟨by kernel_rfl⟩
-- deuce/deuceref06.faces
instance : FnOk Try.prog 58 := ⟨by kernel_rfl⟩
-- deuce/draws.person
instance : FnOk Try.prog 59 := ⟨by kernel_rfl⟩
-- slices.Index[[]int,int]
instance : FnOk Try.prog 60 := ⟨by kernel_rfl⟩
-- deuce/deuceref06.within
instance : FnOk Try.prog 61 := ⟨by kernel_rfl⟩
-- deuce/draws.within
instance : FnOk Try.prog 62 := ⟨by kernel_rfl⟩
-- slices.ContainsFunc[[]deuce/api.Person,deuce/api.Person]
instance : FnOk Try.prog 63 := ⟨by kernel_rfl⟩
-- deuce/draws.Check$1
instance : FnOk Try.prog 64 := ⟨by kernel_rfl⟩
-- slices.ContainsFunc[[]int,int]
instance : FnOk Try.prog 65 := ⟨by kernel_rfl⟩
-- deuce/draws.Check$2
instance : FnOk Try.prog 66 := ⟨by kernel_rfl⟩
-- deuce/draws.obeys
instance : FnOk Try.prog 67 := ⟨by kernel_rfl⟩
-- deuce/draws.whole
instance : FnOk Try.prog 68 := ⟨by kernel_rfl⟩
-- deuce/draws.apart
instance : FnOk Try.prog 69 := ⟨by kernel_rfl⟩
-- deuce/draws.Without$1
instance : FnOk Try.prog 70 := ⟨by kernel_rfl⟩
-- slices.Clone[[]int,int]
instance : FnOk Try.prog 71 := ⟨by kernel_rfl⟩
-- slices.DeleteFunc[[]deuce/api.Person,deuce/api.Person]
instance : FnOk Try.prog 72 := ⟨by kernel_rfl⟩
-- slices.Clone[[]deuce/api.Person,deuce/api.Person]
instance : FnOk Try.prog 73 := ⟨by kernel_rfl⟩
-- deuce/draws.Without$2
instance : FnOk Try.prog 74 := ⟨by kernel_rfl⟩
-- slices.Contains[[]int,int]
instance : FnOk Try.prog 75 := ⟨by kernel_rfl⟩
-- deuce/deuceref06.AreLucky
instance : FnOk Try.prog 76 := ⟨by kernel_rfl⟩
-- deuce/draws.sheet
instance : FnOk Try.prog 77 := ⟨by kernel_rfl⟩
-- deuce/deuceref06.ordered
instance : FnOk Try.prog 78 := ⟨by kernel_rfl⟩
-- deuce/deuceref06.many
instance : FnOk Try.prog 79 := ⟨by kernel_rfl⟩
-- deuce/deuceref06.fits
instance : FnOk Try.prog 80 := ⟨by kernel_rfl⟩
-- deuce/draws.persons
instance : FnOk Try.prog 81 := ⟨by kernel_rfl⟩
-- slices.SortFunc[[]int,int]
instance : FnOk Try.prog 82 := ⟨by kernel_rfl⟩
-- deuce/draws.draws$1
instance : FnOk Try.prog 83 := ⟨by kernel_rfl⟩
-- deuce/draws.draws$2
instance : FnOk Try.prog 84 := ⟨by kernel_rfl⟩
-- deuce/draws.draws$2$1
instance : FnOk Try.prog 85 := ⟨by kernel_rfl⟩
-- deuce/draws.seat
instance : FnOk Try.prog 86 := ⟨by kernel_rfl⟩
-- deuce/draws.match
instance : FnOk Try.prog 87 := ⟨by kernel_rfl⟩
-- slices.IndexFunc[[]deuce/api.Person,deuce/api.Person]
instance : FnOk Try.prog 88 := ⟨by kernel_rfl⟩
-- deuce/draws.person$1
instance : FnOk Try.prog 89 := ⟨by kernel_rfl⟩
-- slices.IndexFunc[[]int,int]
instance : FnOk Try.prog 90 := ⟨by kernel_rfl⟩
-- deuce/draws.whole$1
instance : FnOk Try.prog 91 := ⟨by kernel_rfl⟩
-- slices.pdqsortCmpFunc[int]
instance : FnOk Try.prog 92 := ⟨by kernel_rfl⟩
-- math/bits.Len
instance : FnOk Try.prog 93 := ⟨by kernel_rfl⟩
-- deuce/draws.match$1
instance : FnOk Try.prog 94 := ⟨by kernel_rfl⟩
-- slices.insertionSortCmpFunc[int]
instance : FnOk Try.prog 95 := ⟨by kernel_rfl⟩
-- slices.heapSortCmpFunc[int]
instance : FnOk Try.prog 96 := ⟨by kernel_rfl⟩
-- slices.breakPatternsCmpFunc[int]
instance : FnOk Try.prog 97 := ⟨by kernel_rfl⟩
-- slices.choosePivotCmpFunc[int]
instance : FnOk Try.prog 98 := ⟨by kernel_rfl⟩
-- slices.reverseRangeCmpFunc[int]
instance : FnOk Try.prog 99 := ⟨by kernel_rfl⟩
-- slices.partialInsertionSortCmpFunc[int]
instance : FnOk Try.prog 100 := ⟨by kernel_rfl⟩
-- slices.partitionEqualCmpFunc[int]
instance : FnOk Try.prog 101 := ⟨by kernel_rfl⟩
-- slices.partitionCmpFunc[int]
instance : FnOk Try.prog 102 := ⟨by kernel_rfl⟩
-- math/bits.Len32
instance : FnOk Try.prog 103 := ⟨by kernel_rfl⟩
-- math/bits.Len64
instance : FnOk Try.prog 104 := ⟨by kernel_rfl⟩
-- slices.siftDownCmpFunc[int]
instance : FnOk Try.prog 105 := ⟨by kernel_rfl⟩
-- slices.nextPowerOfTwo
instance : FnOk Try.prog 106 := ⟨by kernel_rfl⟩
-- (*slices.xorshift).Next
instance : FnOk Try.prog 107 := ⟨by kernel_rfl⟩
-- slices.medianAdjacentCmpFunc[int]
instance : FnOk Try.prog 108 := ⟨by kernel_rfl⟩
-- slices.medianCmpFunc[int]
instance : FnOk Try.prog 109 := ⟨by kernel_rfl⟩
-- slices.order2CmpFunc[int]
instance : FnOk Try.prog 110 := ⟨by kernel_rfl⟩
end Go.Proofs.Ytjkoaifjmcgpfaa
