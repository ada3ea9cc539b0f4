/- The texts of the walk, part 2. -/
import Derived.Test.YtmlhnajgiopfgaaGreatJ1
import Derived.Test.YtmlhnajgiopfgaaGreatProg
import Derived.KernelRfl
namespace Go.Proofs.YtmlhnajgiopfgaaGreat
open Go

-- 1 func()
instance : Ty Tryz.prog 1 false 1 8 (.nilFunc) [.nilFunc] := ⟨by kernel_rfl, by kernel_rfl, rfl, rfl⟩
-- 2 int64
instance : Ty Tryz.prog 2 false 1 8 (.int .i64 0) [.int .i64 0] := ⟨by kernel_rfl, by kernel_rfl, rfl, rfl⟩
-- 3 int
instance : Ty Tryz.prog 3 false 1 8 (.int .i64 0) [.int .i64 0] := ⟨by kernel_rfl, by kernel_rfl, rfl, rfl⟩
-- 4 bool
instance : Ty Tryz.prog 4 false 1 1 (.bool false) [.bool false] := ⟨by kernel_rfl, by kernel_rfl, rfl, rfl⟩
-- 5 uint8
instance : Ty Tryz.prog 5 false 1 1 (.int .u8 0) [.int .u8 0] := ⟨by kernel_rfl, by kernel_rfl, rfl, rfl⟩
-- 7 struct { x int64; y int; signed bool; code abi.BoundsErrorCode }
instance : Ty Tryz.prog 7 true 4 24 (.agg #[.int .i64 0, .int .i64 0, .bool false, .int .u8 0]) [.int .i64 0, .int .i64 0, .bool false, .int .u8 0] := ⟨by kernel_rfl, by kernel_rfl, rfl, rfl⟩
instance : FieldTy Tryz.prog 7 0 0 2 0 := ⟨by kernel_rfl, by kernel_rfl⟩
instance : FieldTy Tryz.prog 7 1 1 3 0 := ⟨by kernel_rfl, by kernel_rfl⟩
instance : FieldTy Tryz.prog 7 2 2 4 0 := ⟨by kernel_rfl, by kernel_rfl⟩
instance : FieldTy Tryz.prog 7 3 3 6 0 := ⟨by kernel_rfl, by kernel_rfl⟩
instance : BuildTy Tryz.prog 7 [(0, 1), (1, 1), (2, 1), (3, 1)] [.int .i64 0, .int .i64 0, .bool false, .int .u8 0] := ⟨fun parts => by kernel_rfl⟩
-- 9 string
instance : Ty Tryz.prog 9 false 1 16 (.string ByteArray.empty) [.string ByteArray.empty] := ⟨by kernel_rfl, by kernel_rfl, rfl, rfl⟩
-- 12 uintptr
instance : Ty Tryz.prog 12 false 1 8 (.int .u64 0) [.int .u64 0] := ⟨by kernel_rfl, by kernel_rfl, rfl, rfl⟩
-- 13 struct { msg string; addr uintptr }
instance : Ty Tryz.prog 13 true 2 24 (.agg #[.string ByteArray.empty, .int .u64 0]) [.string ByteArray.empty, .int .u64 0] := ⟨by kernel_rfl, by kernel_rfl, rfl, rfl⟩
instance : FieldTy Tryz.prog 13 0 0 9 0 := ⟨by kernel_rfl, by kernel_rfl⟩
instance : FieldTy Tryz.prog 13 1 1 12 0 := ⟨by kernel_rfl, by kernel_rfl⟩
instance : BuildTy Tryz.prog 13 [(0, 1), (1, 1)] [.string ByteArray.empty, .int .u64 0] := ⟨fun parts => by kernel_rfl⟩
-- 18 struct { typ *abi.Type }
instance : Ty Tryz.prog 18 true 1 8 (.agg #[.pointer none]) [.pointer none] := ⟨by kernel_rfl, by kernel_rfl, rfl, rfl⟩
instance : FieldTy Tryz.prog 18 0 0 17 0 := ⟨by kernel_rfl, by kernel_rfl⟩
instance : BuildTy Tryz.prog 18 [(0, 1)] [.pointer none] := ⟨fun parts => by kernel_rfl⟩
-- 20 
instance : Ty Tryz.prog 20 false 1 16 (.nilIface) [.nilIface] := ⟨by kernel_rfl, by kernel_rfl, rfl, rfl⟩
-- 21 int32
instance : Ty Tryz.prog 21 false 1 4 (.int .i32 0) [.int .i32 0] := ⟨by kernel_rfl, by kernel_rfl, rfl, rfl⟩
-- 22 []int
instance : Ty Tryz.prog 22 false 1 24 (.slice none 0 0) [.slice none 0 0] := ⟨by kernel_rfl, by kernel_rfl, rfl, rfl⟩
instance : SliceTy Tryz.prog 22 3 := ⟨by kernel_rfl⟩
-- 23 struct { Rounds int; Slots []int }
instance : Ty Tryz.prog 23 true 2 32 (.agg #[.int .i64 0, .slice none 0 0]) [.int .i64 0, .slice none 0 0] := ⟨by kernel_rfl, by kernel_rfl, rfl, rfl⟩
instance : FieldTy Tryz.prog 23 0 0 3 0 := ⟨by kernel_rfl, by kernel_rfl⟩
instance : FieldTy Tryz.prog 23 1 1 22 0 := ⟨by kernel_rfl, by kernel_rfl⟩
instance : BuildTy Tryz.prog 23 [(0, 1), (1, 1)] [.int .i64 0, .slice none 0 0] := ⟨fun parts => by kernel_rfl⟩
-- 24 deuce/api.Tree
instance : Ty Tryz.prog 24 true 2 32 (.agg #[.int .i64 0, .slice none 0 0]) [.int .i64 0, .slice none 0 0] := ⟨by kernel_rfl, by kernel_rfl, rfl, rfl⟩
instance : FieldTy Tryz.prog 24 0 0 3 0 := ⟨by kernel_rfl, by kernel_rfl⟩
instance : FieldTy Tryz.prog 24 1 1 22 0 := ⟨by kernel_rfl, by kernel_rfl⟩
instance : BuildTy Tryz.prog 24 [(0, 1), (1, 1)] [.int .i64 0, .slice none 0 0] := ⟨fun parts => by kernel_rfl⟩
-- 25 []api.Slip
instance : Ty Tryz.prog 25 false 1 24 (.slice none 0 0) [.slice none 0 0] := ⟨by kernel_rfl, by kernel_rfl, rfl, rfl⟩
instance : SliceTy Tryz.prog 25 54 := ⟨by kernel_rfl⟩
-- 26 [][]api.Span
instance : Ty Tryz.prog 26 false 1 24 (.slice none 0 0) [.slice none 0 0] := ⟨by kernel_rfl, by kernel_rfl, rfl, rfl⟩
instance : SliceTy Tryz.prog 26 59 := ⟨by kernel_rfl⟩
-- 27 []api.Stage
instance : Ty Tryz.prog 27 false 1 24 (.slice none 0 0) [.slice none 0 0] := ⟨by kernel_rfl, by kernel_rfl, rfl, rfl⟩
instance : SliceTy Tryz.prog 27 76 := ⟨by kernel_rfl⟩
-- 28 struct { Days [][]api.Span; Rest int; Stages []api.Stage }
instance : Ty Tryz.prog 28 true 3 56 (.agg #[.slice none 0 0, .int .i64 0, .slice none 0 0]) [.slice none 0 0, .int .i64 0, .slice none 0 0] := ⟨by kernel_rfl, by kernel_rfl, rfl, rfl⟩
instance : FieldTy Tryz.prog 28 0 0 26 0 := ⟨by kernel_rfl, by kernel_rfl⟩
instance : FieldTy Tryz.prog 28 1 1 3 0 := ⟨by kernel_rfl, by kernel_rfl⟩
instance : FieldTy Tryz.prog 28 2 2 27 0 := ⟨by kernel_rfl, by kernel_rfl⟩
instance : BuildTy Tryz.prog 28 [(0, 1), (1, 1), (2, 1)] [.slice none 0 0, .int .i64 0, .slice none 0 0] := ⟨fun parts => by kernel_rfl⟩
-- 29 deuce/deucetop.Hall
instance : Ty Tryz.prog 29 true 3 56 (.agg #[.slice none 0 0, .int .i64 0, .slice none 0 0]) [.slice none 0 0, .int .i64 0, .slice none 0 0] := ⟨by kernel_rfl, by kernel_rfl, rfl, rfl⟩
instance : FieldTy Tryz.prog 29 0 0 26 0 := ⟨by kernel_rfl, by kernel_rfl⟩
instance : FieldTy Tryz.prog 29 1 1 3 0 := ⟨by kernel_rfl, by kernel_rfl⟩
instance : FieldTy Tryz.prog 29 2 2 27 0 := ⟨by kernel_rfl, by kernel_rfl⟩
instance : BuildTy Tryz.prog 29 [(0, 1), (1, 1), (2, 1)] [.slice none 0 0, .int .i64 0, .slice none 0 0] := ⟨fun parts => by kernel_rfl⟩
-- 30 struct { Hall deucetop.Hall; Side int }
instance : Ty Tryz.prog 30 true 4 64 (.agg #[.slice none 0 0, .int .i64 0, .slice none 0 0, .int .i64 0]) [.slice none 0 0, .int .i64 0, .slice none 0 0, .int .i64 0] := ⟨by kernel_rfl, by kernel_rfl, rfl, rfl⟩
instance : FieldTy Tryz.prog 30 0 0 29 2 := ⟨by kernel_rfl, by kernel_rfl⟩
instance : FieldTy Tryz.prog 30 1 3 3 0 := ⟨by kernel_rfl, by kernel_rfl⟩
instance : BuildTy Tryz.prog 30 [(0, 3), (3, 1)] [.slice none 0 0, .int .i64 0, .slice none 0 0, .int .i64 0] := ⟨fun parts => by kernel_rfl⟩
-- 31 deuce/deucetop.Winning
instance : Ty Tryz.prog 31 true 4 64 (.agg #[.slice none 0 0, .int .i64 0, .slice none 0 0, .int .i64 0]) [.slice none 0 0, .int .i64 0, .slice none 0 0, .int .i64 0] := ⟨by kernel_rfl, by kernel_rfl, rfl, rfl⟩
instance : FieldTy Tryz.prog 31 0 0 29 2 := ⟨by kernel_rfl, by kernel_rfl⟩
instance : FieldTy Tryz.prog 31 1 3 3 0 := ⟨by kernel_rfl, by kernel_rfl⟩
instance : BuildTy Tryz.prog 31 [(0, 3), (3, 1)] [.slice none 0 0, .int .i64 0, .slice none 0 0, .int .i64 0] := ⟨fun parts => by kernel_rfl⟩
-- 32 func() bool
instance : Ty Tryz.prog 32 false 1 8 (.nilFunc) [.nilFunc] := ⟨by kernel_rfl, by kernel_rfl, rfl, rfl⟩
-- 33 []api.Job
instance : Ty Tryz.prog 33 false 1 24 (.slice none 0 0) [.slice none 0 0] := ⟨by kernel_rfl, by kernel_rfl, rfl, rfl⟩
instance : SliceTy Tryz.prog 33 80 := ⟨by kernel_rfl⟩
-- 34 []api.Bout
instance : Ty Tryz.prog 34 false 1 24 (.slice none 0 0) [.slice none 0 0] := ⟨by kernel_rfl, by kernel_rfl, rfl, rfl⟩
instance : SliceTy Tryz.prog 34 50 := ⟨by kernel_rfl⟩
-- 35 deuce/api.Errno
instance : Ty Tryz.prog 35 false 1 8 (.int .i64 0) [.int .i64 0] := ⟨by kernel_rfl, by kernel_rfl, rfl, rfl⟩
-- 37 func(api.Tree, []api.Slip, []api.Stage) ([]api.Job, []api.Bout, api.Errno)
instance : Ty Tryz.prog 37 false 1 8 (.nilFunc) [.nilFunc] := ⟨by kernel_rfl, by kernel_rfl, rfl, rfl⟩
-- 38 struct { Days [][]api.Span; Rest int; Jobs []api.Job }
instance : Ty Tryz.prog 38 true 3 56 (.agg #[.slice none 0 0, .int .i64 0, .slice none 0 0]) [.slice none 0 0, .int .i64 0, .slice none 0 0] := ⟨by kernel_rfl, by kernel_rfl, rfl, rfl⟩
instance : FieldTy Tryz.prog 38 0 0 26 0 := ⟨by kernel_rfl, by kernel_rfl⟩
instance : FieldTy Tryz.prog 38 1 1 3 0 := ⟨by kernel_rfl, by kernel_rfl⟩
instance : FieldTy Tryz.prog 38 2 2 33 0 := ⟨by kernel_rfl, by kernel_rfl⟩
instance : BuildTy Tryz.prog 38 [(0, 1), (1, 1), (2, 1)] [.slice none 0 0, .int .i64 0, .slice none 0 0] := ⟨fun parts => by kernel_rfl⟩
-- 39 deuce/api.Program
instance : Ty Tryz.prog 39 true 3 56 (.agg #[.slice none 0 0, .int .i64 0, .slice none 0 0]) [.slice none 0 0, .int .i64 0, .slice none 0 0] := ⟨by kernel_rfl, by kernel_rfl, rfl, rfl⟩
instance : FieldTy Tryz.prog 39 0 0 26 0 := ⟨by kernel_rfl, by kernel_rfl⟩
instance : FieldTy Tryz.prog 39 1 1 3 0 := ⟨by kernel_rfl, by kernel_rfl⟩
instance : FieldTy Tryz.prog 39 2 2 33 0 := ⟨by kernel_rfl, by kernel_rfl⟩
instance : BuildTy Tryz.prog 39 [(0, 1), (1, 1), (2, 1)] [.slice none 0 0, .int .i64 0, .slice none 0 0] := ⟨fun parts => by kernel_rfl⟩
-- 40 func(api.Program) api.Errno
instance : Ty Tryz.prog 40 false 1 8 (.nilFunc) [.nilFunc] := ⟨by kernel_rfl, by kernel_rfl, rfl, rfl⟩
-- 41 []api.Seat
instance : Ty Tryz.prog 41 false 1 24 (.slice none 0 0) [.slice none 0 0] := ⟨by kernel_rfl, by kernel_rfl, rfl, rfl⟩
instance : SliceTy Tryz.prog 41 48 := ⟨by kernel_rfl⟩
-- 43 func(api.Program) ([]api.Seat, api.Errno)
instance : Ty Tryz.prog 43 false 1 8 (.nilFunc) [.nilFunc] := ⟨by kernel_rfl, by kernel_rfl, rfl, rfl⟩
-- 45 func(api.Program) (int, api.Errno)
instance : Ty Tryz.prog 45 false 1 8 (.nilFunc) [.nilFunc] := ⟨by kernel_rfl, by kernel_rfl, rfl, rfl⟩
-- 46 func(api.Program, []api.Seat) bool
instance : Ty Tryz.prog 46 false 1 8 (.nilFunc) [.nilFunc] := ⟨by kernel_rfl, by kernel_rfl, rfl, rfl⟩
-- 47 struct { Job int; Day int; Court int }
instance : Ty Tryz.prog 47 true 3 24 (.agg #[.int .i64 0, .int .i64 0, .int .i64 0]) [.int .i64 0, .int .i64 0, .int .i64 0] := ⟨by kernel_rfl, by kernel_rfl, rfl, rfl⟩
instance : EqS Tryz.prog 47 3 := ⟨by kernel_rfl, by kernel_rfl, by kernel_rfl⟩
instance : FieldTy Tryz.prog 47 0 0 3 0 := ⟨by kernel_rfl, by kernel_rfl⟩
instance : FieldTy Tryz.prog 47 1 1 3 0 := ⟨by kernel_rfl, by kernel_rfl⟩
instance : FieldTy Tryz.prog 47 2 2 3 0 := ⟨by kernel_rfl, by kernel_rfl⟩
instance : BuildTy Tryz.prog 47 [(0, 1), (1, 1), (2, 1)] [.int .i64 0, .int .i64 0, .int .i64 0] := ⟨fun parts => by kernel_rfl⟩
-- 48 deuce/api.Seat
instance : Ty Tryz.prog 48 true 3 24 (.agg #[.int .i64 0, .int .i64 0, .int .i64 0]) [.int .i64 0, .int .i64 0, .int .i64 0] := ⟨by kernel_rfl, by kernel_rfl, rfl, rfl⟩
instance : EqS Tryz.prog 48 3 := ⟨by kernel_rfl, by kernel_rfl, by kernel_rfl⟩
instance : FieldTy Tryz.prog 48 0 0 3 0 := ⟨by kernel_rfl, by kernel_rfl⟩
instance : FieldTy Tryz.prog 48 1 1 3 0 := ⟨by kernel_rfl, by kernel_rfl⟩
instance : FieldTy Tryz.prog 48 2 2 3 0 := ⟨by kernel_rfl, by kernel_rfl⟩
instance : BuildTy Tryz.prog 48 [(0, 1), (1, 1), (2, 1)] [.int .i64 0, .int .i64 0, .int .i64 0] := ⟨fun parts => by kernel_rfl⟩
-- 49 struct { Round int; Place int; One int; Two int }
instance : Ty Tryz.prog 49 true 4 32 (.agg #[.int .i64 0, .int .i64 0, .int .i64 0, .int .i64 0]) [.int .i64 0, .int .i64 0, .int .i64 0, .int .i64 0] := ⟨by kernel_rfl, by kernel_rfl, rfl, rfl⟩
instance : EqS Tryz.prog 49 4 := ⟨by kernel_rfl, by kernel_rfl, by kernel_rfl⟩
instance : FieldTy Tryz.prog 49 0 0 3 0 := ⟨by kernel_rfl, by kernel_rfl⟩
instance : FieldTy Tryz.prog 49 1 1 3 0 := ⟨by kernel_rfl, by kernel_rfl⟩
instance : FieldTy Tryz.prog 49 2 2 3 0 := ⟨by kernel_rfl, by kernel_rfl⟩
instance : FieldTy Tryz.prog 49 3 3 3 0 := ⟨by kernel_rfl, by kernel_rfl⟩
instance : BuildTy Tryz.prog 49 [(0, 1), (1, 1), (2, 1), (3, 1)] [.int .i64 0, .int .i64 0, .int .i64 0, .int .i64 0] := ⟨fun parts => by kernel_rfl⟩
-- 50 deuce/api.Bout
instance : Ty Tryz.prog 50 true 4 32 (.agg #[.int .i64 0, .int .i64 0, .int .i64 0, .int .i64 0]) [.int .i64 0, .int .i64 0, .int .i64 0, .int .i64 0] := ⟨by kernel_rfl, by kernel_rfl, rfl, rfl⟩
instance : EqS Tryz.prog 50 4 := ⟨by kernel_rfl, by kernel_rfl, by kernel_rfl⟩
instance : FieldTy Tryz.prog 50 0 0 3 0 := ⟨by kernel_rfl, by kernel_rfl⟩
instance : FieldTy Tryz.prog 50 1 1 3 0 := ⟨by kernel_rfl, by kernel_rfl⟩
instance : FieldTy Tryz.prog 50 2 2 3 0 := ⟨by kernel_rfl, by kernel_rfl⟩
instance : FieldTy Tryz.prog 50 3 3 3 0 := ⟨by kernel_rfl, by kernel_rfl⟩
instance : BuildTy Tryz.prog 50 [(0, 1), (1, 1), (2, 1), (3, 1)] [.int .i64 0, .int .i64 0, .int .i64 0, .int .i64 0] := ⟨fun parts => by kernel_rfl⟩
-- 52 func(api.Tree, []api.Slip) ([]api.Bout, api.Errno)
instance : Ty Tryz.prog 52 false 1 8 (.nilFunc) [.nilFunc] := ⟨by kernel_rfl, by kernel_rfl, rfl, rfl⟩
-- 53 struct { Kind int; Round int; Place int; Player int; Old int }
instance : Ty Tryz.prog 53 true 5 40 (.agg #[.int .i64 0, .int .i64 0, .int .i64 0, .int .i64 0, .int .i64 0]) [.int .i64 0, .int .i64 0, .int .i64 0, .int .i64 0, .int .i64 0] := ⟨by kernel_rfl, by kernel_rfl, rfl, rfl⟩
instance : EqS Tryz.prog 53 5 := ⟨by kernel_rfl, by kernel_rfl, by kernel_rfl⟩
instance : FieldTy Tryz.prog 53 0 0 3 0 := ⟨by kernel_rfl, by kernel_rfl⟩
instance : FieldTy Tryz.prog 53 1 1 3 0 := ⟨by kernel_rfl, by kernel_rfl⟩
instance : FieldTy Tryz.prog 53 2 2 3 0 := ⟨by kernel_rfl, by kernel_rfl⟩
instance : FieldTy Tryz.prog 53 3 3 3 0 := ⟨by kernel_rfl, by kernel_rfl⟩
instance : FieldTy Tryz.prog 53 4 4 3 0 := ⟨by kernel_rfl, by kernel_rfl⟩
instance : BuildTy Tryz.prog 53 [(0, 1), (1, 1), (2, 1), (3, 1), (4, 1)] [.int .i64 0, .int .i64 0, .int .i64 0, .int .i64 0, .int .i64 0] := ⟨fun parts => by kernel_rfl⟩
-- 54 deuce/api.Slip
instance : Ty Tryz.prog 54 true 5 40 (.agg #[.int .i64 0, .int .i64 0, .int .i64 0, .int .i64 0, .int .i64 0]) [.int .i64 0, .int .i64 0, .int .i64 0, .int .i64 0, .int .i64 0] := ⟨by kernel_rfl, by kernel_rfl, rfl, rfl⟩
instance : EqS Tryz.prog 54 5 := ⟨by kernel_rfl, by kernel_rfl, by kernel_rfl⟩
instance : FieldTy Tryz.prog 54 0 0 3 0 := ⟨by kernel_rfl, by kernel_rfl⟩
instance : FieldTy Tryz.prog 54 1 1 3 0 := ⟨by kernel_rfl, by kernel_rfl⟩
instance : FieldTy Tryz.prog 54 2 2 3 0 := ⟨by kernel_rfl, by kernel_rfl⟩
instance : FieldTy Tryz.prog 54 3 3 3 0 := ⟨by kernel_rfl, by kernel_rfl⟩
instance : FieldTy Tryz.prog 54 4 4 3 0 := ⟨by kernel_rfl, by kernel_rfl⟩
instance : BuildTy Tryz.prog 54 [(0, 1), (1, 1), (2, 1), (3, 1), (4, 1)] [.int .i64 0, .int .i64 0, .int .i64 0, .int .i64 0, .int .i64 0] := ⟨fun parts => by kernel_rfl⟩
-- 55 func(api.Tree, []api.Slip) api.Errno
instance : Ty Tryz.prog 55 false 1 8 (.nilFunc) [.nilFunc] := ⟨by kernel_rfl, by kernel_rfl, rfl, rfl⟩
-- 57 func(api.Program, []api.Seat) (bool, int, api.Errno)
instance : Ty Tryz.prog 57 false 1 8 (.nilFunc) [.nilFunc] := ⟨by kernel_rfl, by kernel_rfl, rfl, rfl⟩
-- 58 func(api.Tree, []api.Slip, deucetop.Winning) bool
instance : Ty Tryz.prog 58 false 1 8 (.nilFunc) [.nilFunc] := ⟨by kernel_rfl, by kernel_rfl, rfl, rfl⟩
-- 59 []api.Span
instance : Ty Tryz.prog 59 false 1 24 (.slice none 0 0) [.slice none 0 0] := ⟨by kernel_rfl, by kernel_rfl, rfl, rfl⟩
instance : SliceTy Tryz.prog 59 74 := ⟨by kernel_rfl⟩
-- 60 []api.Person
instance : Ty Tryz.prog 60 false 1 24 (.slice none 0 0) [.slice none 0 0] := ⟨by kernel_rfl, by kernel_rfl, rfl, rfl⟩
instance : SliceTy Tryz.prog 60 109 := ⟨by kernel_rfl⟩
-- 61 struct { Size int; Seeds int; Persons []api.Person; Lots []int }
instance : Ty Tryz.prog 61 true 4 64 (.agg #[.int .i64 0, .int .i64 0, .slice none 0 0, .slice none 0 0]) [.int .i64 0, .int .i64 0, .slice none 0 0, .slice none 0 0] := ⟨by kernel_rfl, by kernel_rfl, rfl, rfl⟩
instance : FieldTy Tryz.prog 61 0 0 3 0 := ⟨by kernel_rfl, by kernel_rfl⟩
instance : FieldTy Tryz.prog 61 1 1 3 0 := ⟨by kernel_rfl, by kernel_rfl⟩
instance : FieldTy Tryz.prog 61 2 2 60 0 := ⟨by kernel_rfl, by kernel_rfl⟩
instance : FieldTy Tryz.prog 61 3 3 22 0 := ⟨by kernel_rfl, by kernel_rfl⟩
instance : BuildTy Tryz.prog 61 [(0, 1), (1, 1), (2, 1), (3, 1)] [.int .i64 0, .int .i64 0, .slice none 0 0, .slice none 0 0] := ⟨fun parts => by kernel_rfl⟩
-- 62 deuce/api.Plan
instance : Ty Tryz.prog 62 true 4 64 (.agg #[.int .i64 0, .int .i64 0, .slice none 0 0, .slice none 0 0]) [.int .i64 0, .int .i64 0, .slice none 0 0, .slice none 0 0] := ⟨by kernel_rfl, by kernel_rfl, rfl, rfl⟩
instance : FieldTy Tryz.prog 62 0 0 3 0 := ⟨by kernel_rfl, by kernel_rfl⟩
instance : FieldTy Tryz.prog 62 1 1 3 0 := ⟨by kernel_rfl, by kernel_rfl⟩
instance : FieldTy Tryz.prog 62 2 2 60 0 := ⟨by kernel_rfl, by kernel_rfl⟩
instance : FieldTy Tryz.prog 62 3 3 22 0 := ⟨by kernel_rfl, by kernel_rfl⟩
instance : BuildTy Tryz.prog 62 [(0, 1), (1, 1), (2, 1), (3, 1)] [.int .i64 0, .int .i64 0, .slice none 0 0, .slice none 0 0] := ⟨fun parts => by kernel_rfl⟩
-- 64 func() (api.Plan, api.Plan)
instance : Ty Tryz.prog 64 false 1 8 (.nilFunc) [.nilFunc] := ⟨by kernel_rfl, by kernel_rfl, rfl, rfl⟩
-- 66 func(api.Plan) ([]int, api.Errno)
instance : Ty Tryz.prog 66 false 1 8 (.nilFunc) [.nilFunc] := ⟨by kernel_rfl, by kernel_rfl, rfl, rfl⟩
-- 68 func() (api.Tree, []api.Slip)
instance : Ty Tryz.prog 68 false 1 8 (.nilFunc) [.nilFunc] := ⟨by kernel_rfl, by kernel_rfl, rfl, rfl⟩
-- 69 func(api.Tree, []api.Slip) (int, api.Errno)
instance : Ty Tryz.prog 69 false 1 8 (.nilFunc) [.nilFunc] := ⟨by kernel_rfl, by kernel_rfl, rfl, rfl⟩
-- 71 func() (api.Program, []api.Seat)
instance : Ty Tryz.prog 71 false 1 8 (.nilFunc) [.nilFunc] := ⟨by kernel_rfl, by kernel_rfl, rfl, rfl⟩
-- 72 func(api.Span) bool
instance : Ty Tryz.prog 72 false 1 8 (.nilFunc) [.nilFunc] := ⟨by kernel_rfl, by kernel_rfl, rfl, rfl⟩
-- 73 struct { Low int; High int }
instance : Ty Tryz.prog 73 true 2 16 (.agg #[.int .i64 0, .int .i64 0]) [.int .i64 0, .int .i64 0] := ⟨by kernel_rfl, by kernel_rfl, rfl, rfl⟩
instance : EqS Tryz.prog 73 2 := ⟨by kernel_rfl, by kernel_rfl, by kernel_rfl⟩
instance : FieldTy Tryz.prog 73 0 0 3 0 := ⟨by kernel_rfl, by kernel_rfl⟩
instance : FieldTy Tryz.prog 73 1 1 3 0 := ⟨by kernel_rfl, by kernel_rfl⟩
instance : BuildTy Tryz.prog 73 [(0, 1), (1, 1)] [.int .i64 0, .int .i64 0] := ⟨fun parts => by kernel_rfl⟩
-- 74 deuce/api.Span
instance : Ty Tryz.prog 74 true 2 16 (.agg #[.int .i64 0, .int .i64 0]) [.int .i64 0, .int .i64 0] := ⟨by kernel_rfl, by kernel_rfl, rfl, rfl⟩
instance : EqS Tryz.prog 74 2 := ⟨by kernel_rfl, by kernel_rfl, by kernel_rfl⟩
instance : FieldTy Tryz.prog 74 0 0 3 0 := ⟨by kernel_rfl, by kernel_rfl⟩
instance : FieldTy Tryz.prog 74 1 1 3 0 := ⟨by kernel_rfl, by kernel_rfl⟩
instance : BuildTy Tryz.prog 74 [(0, 1), (1, 1)] [.int .i64 0, .int .i64 0] := ⟨fun parts => by kernel_rfl⟩
-- 75 struct { Length api.Span; Due int }
instance : Ty Tryz.prog 75 true 3 24 (.agg #[.int .i64 0, .int .i64 0, .int .i64 0]) [.int .i64 0, .int .i64 0, .int .i64 0] := ⟨by kernel_rfl, by kernel_rfl, rfl, rfl⟩
instance : FieldTy Tryz.prog 75 0 0 74 1 := ⟨by kernel_rfl, by kernel_rfl⟩
instance : FieldTy Tryz.prog 75 1 2 3 0 := ⟨by kernel_rfl, by kernel_rfl⟩
instance : BuildTy Tryz.prog 75 [(0, 2), (2, 1)] [.int .i64 0, .int .i64 0, .int .i64 0] := ⟨fun parts => by kernel_rfl⟩
-- 76 deuce/api.Stage
instance : Ty Tryz.prog 76 true 3 24 (.agg #[.int .i64 0, .int .i64 0, .int .i64 0]) [.int .i64 0, .int .i64 0, .int .i64 0] := ⟨by kernel_rfl, by kernel_rfl, rfl, rfl⟩
instance : FieldTy Tryz.prog 76 0 0 74 1 := ⟨by kernel_rfl, by kernel_rfl⟩
instance : FieldTy Tryz.prog 76 1 2 3 0 := ⟨by kernel_rfl, by kernel_rfl⟩
instance : BuildTy Tryz.prog 76 [(0, 2), (2, 1)] [.int .i64 0, .int .i64 0, .int .i64 0] := ⟨fun parts => by kernel_rfl⟩
-- 77 func(int, int, int) bool
instance : Ty Tryz.prog 77 false 1 8 (.nilFunc) [.nilFunc] := ⟨by kernel_rfl, by kernel_rfl, rfl, rfl⟩
-- 78 func(api.Tree, []api.Slip, int, int) (int, api.Errno)
instance : Ty Tryz.prog 78 false 1 8 (.nilFunc) [.nilFunc] := ⟨by kernel_rfl, by kernel_rfl, rfl, rfl⟩
-- 79 struct { Length api.Span; After []int; With []int; Due int; Earliest int }
instance : Ty Tryz.prog 79 true 6 80 (.agg #[.int .i64 0, .int .i64 0, .slice none 0 0, .slice none 0 0, .int .i64 0, .int .i64 0]) [.int .i64 0, .int .i64 0, .slice none 0 0, .slice none 0 0, .int .i64 0, .int .i64 0] := ⟨by kernel_rfl, by kernel_rfl, rfl, rfl⟩
instance : FieldTy Tryz.prog 79 0 0 74 1 := ⟨by kernel_rfl, by kernel_rfl⟩
instance : FieldTy Tryz.prog 79 1 2 22 0 := ⟨by kernel_rfl, by kernel_rfl⟩
instance : FieldTy Tryz.prog 79 2 3 22 0 := ⟨by kernel_rfl, by kernel_rfl⟩
instance : FieldTy Tryz.prog 79 3 4 3 0 := ⟨by kernel_rfl, by kernel_rfl⟩
instance : FieldTy Tryz.prog 79 4 5 3 0 := ⟨by kernel_rfl, by kernel_rfl⟩
instance : BuildTy Tryz.prog 79 [(0, 2), (2, 1), (3, 1), (4, 1), (5, 1)] [.int .i64 0, .int .i64 0, .slice none 0 0, .slice none 0 0, .int .i64 0, .int .i64 0] := ⟨fun parts => by kernel_rfl⟩
-- 80 deuce/api.Job
instance : Ty Tryz.prog 80 true 6 80 (.agg #[.int .i64 0, .int .i64 0, .slice none 0 0, .slice none 0 0, .int .i64 0, .int .i64 0]) [.int .i64 0, .int .i64 0, .slice none 0 0, .slice none 0 0, .int .i64 0, .int .i64 0] := ⟨by kernel_rfl, by kernel_rfl, rfl, rfl⟩
instance : FieldTy Tryz.prog 80 0 0 74 1 := ⟨by kernel_rfl, by kernel_rfl⟩
instance : FieldTy Tryz.prog 80 1 2 22 0 := ⟨by kernel_rfl, by kernel_rfl⟩
instance : FieldTy Tryz.prog 80 2 3 22 0 := ⟨by kernel_rfl, by kernel_rfl⟩
instance : FieldTy Tryz.prog 80 3 4 3 0 := ⟨by kernel_rfl, by kernel_rfl⟩
instance : FieldTy Tryz.prog 80 4 5 3 0 := ⟨by kernel_rfl, by kernel_rfl⟩
instance : BuildTy Tryz.prog 80 [(0, 2), (2, 1), (3, 1), (4, 1), (5, 1)] [.int .i64 0, .int .i64 0, .slice none 0 0, .slice none 0 0, .int .i64 0, .int .i64 0] := ⟨fun parts => by kernel_rfl⟩
-- 81 func([]api.Stage, func(api.Stage) bool) bool
instance : Ty Tryz.prog 81 false 1 8 (.nilFunc) [.nilFunc] := ⟨by kernel_rfl, by kernel_rfl, rfl, rfl⟩
-- 82 func(api.Span, int) bool
instance : Ty Tryz.prog 82 false 1 8 (.nilFunc) [.nilFunc] := ⟨by kernel_rfl, by kernel_rfl, rfl, rfl⟩
-- 83 func(api.Stage) bool
instance : Ty Tryz.prog 83 false 1 8 (.nilFunc) [.nilFunc] := ⟨by kernel_rfl, by kernel_rfl, rfl, rfl⟩
-- 84 func(api.Job, int, int) bool
instance : Ty Tryz.prog 84 false 1 8 (.nilFunc) [.nilFunc] := ⟨by kernel_rfl, by kernel_rfl, rfl, rfl⟩
-- 86 func(api.Program) (int, []api.Seat, bool)
instance : Ty Tryz.prog 86 false 1 8 (.nilFunc) [.nilFunc] := ⟨by kernel_rfl, by kernel_rfl, rfl, rfl⟩
-- 87 func(api.Program, []api.Seat, api.Seat) bool
instance : Ty Tryz.prog 87 false 1 8 (.nilFunc) [.nilFunc] := ⟨by kernel_rfl, by kernel_rfl, rfl, rfl⟩
-- 88 *bracket.draw
instance : Ty Tryz.prog 88 false 1 8 (.pointer none) [.pointer none] := ⟨by kernel_rfl, by kernel_rfl, rfl, rfl⟩
-- 90 func(api.Tree, []api.Slip) (*bracket.draw, api.Errno)
instance : Ty Tryz.prog 90 false 1 8 (.nilFunc) [.nilFunc] := ⟨by kernel_rfl, by kernel_rfl, rfl, rfl⟩
-- 91 func(func(bracket.match, api.Bout) bool)
instance : Ty Tryz.prog 91 false 1 8 (.nilFunc) [.nilFunc] := ⟨by kernel_rfl, by kernel_rfl, rfl, rfl⟩
-- 92 struct { round int; place int }
instance : Ty Tryz.prog 92 true 2 16 (.agg #[.int .i64 0, .int .i64 0]) [.int .i64 0, .int .i64 0] := ⟨by kernel_rfl, by kernel_rfl, rfl, rfl⟩
instance : EqS Tryz.prog 92 2 := ⟨by kernel_rfl, by kernel_rfl, by kernel_rfl⟩
instance : FieldTy Tryz.prog 92 0 0 3 0 := ⟨by kernel_rfl, by kernel_rfl⟩
instance : FieldTy Tryz.prog 92 1 1 3 0 := ⟨by kernel_rfl, by kernel_rfl⟩
instance : BuildTy Tryz.prog 92 [(0, 1), (1, 1)] [.int .i64 0, .int .i64 0] := ⟨fun parts => by kernel_rfl⟩
-- 93 deuce/bracket.match
instance : Ty Tryz.prog 93 true 2 16 (.agg #[.int .i64 0, .int .i64 0]) [.int .i64 0, .int .i64 0] := ⟨by kernel_rfl, by kernel_rfl, rfl, rfl⟩
instance : EqS Tryz.prog 93 2 := ⟨by kernel_rfl, by kernel_rfl, by kernel_rfl⟩
instance : FieldTy Tryz.prog 93 0 0 3 0 := ⟨by kernel_rfl, by kernel_rfl⟩
instance : FieldTy Tryz.prog 93 1 1 3 0 := ⟨by kernel_rfl, by kernel_rfl⟩
instance : BuildTy Tryz.prog 93 [(0, 1), (1, 1)] [.int .i64 0, .int .i64 0] := ⟨fun parts => by kernel_rfl⟩
-- 95 map[bracket.match]int
instance : Ty Tryz.prog 95 false 1 8 (.map none) [.map none] := ⟨by kernel_rfl, by kernel_rfl, rfl, rfl⟩
-- 96 struct { api.Tree; players []int; won map[bracket.match]int }
instance : Ty Tryz.prog 96 true 4 64 (.agg #[.int .i64 0, .slice none 0 0, .slice none 0 0, .map none]) [.int .i64 0, .slice none 0 0, .slice none 0 0, .map none] := ⟨by kernel_rfl, by kernel_rfl, rfl, rfl⟩
instance : FieldTy Tryz.prog 96 0 0 24 1 := ⟨by kernel_rfl, by kernel_rfl⟩
instance : FieldTy Tryz.prog 96 1 2 22 0 := ⟨by kernel_rfl, by kernel_rfl⟩
instance : FieldTy Tryz.prog 96 2 3 95 0 := ⟨by kernel_rfl, by kernel_rfl⟩
instance : BuildTy Tryz.prog 96 [(0, 2), (2, 1), (3, 1)] [.int .i64 0, .slice none 0 0, .slice none 0 0, .map none] := ⟨fun parts => by kernel_rfl⟩
-- 97 deuce/bracket.draw
instance : Ty Tryz.prog 97 true 4 64 (.agg #[.int .i64 0, .slice none 0 0, .slice none 0 0, .map none]) [.int .i64 0, .slice none 0 0, .slice none 0 0, .map none] := ⟨by kernel_rfl, by kernel_rfl, rfl, rfl⟩
instance : FieldTy Tryz.prog 97 0 0 24 1 := ⟨by kernel_rfl, by kernel_rfl⟩
instance : FieldTy Tryz.prog 97 1 2 22 0 := ⟨by kernel_rfl, by kernel_rfl⟩
instance : FieldTy Tryz.prog 97 2 3 95 0 := ⟨by kernel_rfl, by kernel_rfl⟩
instance : BuildTy Tryz.prog 97 [(0, 2), (2, 1), (3, 1)] [.int .i64 0, .slice none 0 0, .slice none 0 0, .map none] := ⟨fun parts => by kernel_rfl⟩
-- 98 func(api.Tree) bool
instance : Ty Tryz.prog 98 false 1 8 (.nilFunc) [.nilFunc] := ⟨by kernel_rfl, by kernel_rfl, rfl, rfl⟩
-- 99 func(api.Tree, api.Slip) bool
instance : Ty Tryz.prog 99 false 1 8 (.nilFunc) [.nilFunc] := ⟨by kernel_rfl, by kernel_rfl, rfl, rfl⟩
-- 100 [][]int
instance : Ty Tryz.prog 100 false 1 24 (.slice none 0 0) [.slice none 0 0] := ⟨by kernel_rfl, by kernel_rfl, rfl, rfl⟩
instance : SliceTy Tryz.prog 100 22 := ⟨by kernel_rfl⟩
-- 101 struct { Slots []int; Must [][]int }
instance : Ty Tryz.prog 101 true 2 48 (.agg #[.slice none 0 0, .slice none 0 0]) [.slice none 0 0, .slice none 0 0] := ⟨by kernel_rfl, by kernel_rfl, rfl, rfl⟩
instance : FieldTy Tryz.prog 101 0 0 22 0 := ⟨by kernel_rfl, by kernel_rfl⟩
instance : FieldTy Tryz.prog 101 1 1 100 0 := ⟨by kernel_rfl, by kernel_rfl⟩
instance : BuildTy Tryz.prog 101 [(0, 1), (1, 1)] [.slice none 0 0, .slice none 0 0] := ⟨fun parts => by kernel_rfl⟩
-- 102 deuce/deuceref07.Draw
instance : Ty Tryz.prog 102 true 2 48 (.agg #[.slice none 0 0, .slice none 0 0]) [.slice none 0 0, .slice none 0 0] := ⟨by kernel_rfl, by kernel_rfl, rfl, rfl⟩
instance : FieldTy Tryz.prog 102 0 0 22 0 := ⟨by kernel_rfl, by kernel_rfl⟩
instance : FieldTy Tryz.prog 102 1 1 100 0 := ⟨by kernel_rfl, by kernel_rfl⟩
instance : BuildTy Tryz.prog 102 [(0, 1), (1, 1)] [.slice none 0 0, .slice none 0 0] := ⟨fun parts => by kernel_rfl⟩
-- 104 func(api.Tree, []api.Slip) (deuceref07.Draw, bool)
instance : Ty Tryz.prog 104 false 1 8 (.nilFunc) [.nilFunc] := ⟨by kernel_rfl, by kernel_rfl, rfl, rfl⟩
-- 106 func(api.Program, []api.Seat, func(api.Span) int) ([]int, []int)
instance : Ty Tryz.prog 106 false 1 8 (.nilFunc) [.nilFunc] := ⟨by kernel_rfl, by kernel_rfl, rfl, rfl⟩
-- 107 func(api.Span) int
instance : Ty Tryz.prog 107 false 1 8 (.nilFunc) [.nilFunc] := ⟨by kernel_rfl, by kernel_rfl, rfl, rfl⟩
-- 108 struct { Player int; Nation int; Qualified bool }
instance : Ty Tryz.prog 108 true 3 24 (.agg #[.int .i64 0, .int .i64 0, .bool false]) [.int .i64 0, .int .i64 0, .bool false] := ⟨by kernel_rfl, by kernel_rfl, rfl, rfl⟩
instance : FieldTy Tryz.prog 108 0 0 3 0 := ⟨by kernel_rfl, by kernel_rfl⟩
instance : FieldTy Tryz.prog 108 1 1 3 0 := ⟨by kernel_rfl, by kernel_rfl⟩
instance : FieldTy Tryz.prog 108 2 2 4 0 := ⟨by kernel_rfl, by kernel_rfl⟩
instance : BuildTy Tryz.prog 108 [(0, 1), (1, 1), (2, 1)] [.int .i64 0, .int .i64 0, .bool false] := ⟨fun parts => by kernel_rfl⟩
-- 109 deuce/api.Person
instance : Ty Tryz.prog 109 true 3 24 (.agg #[.int .i64 0, .int .i64 0, .bool false]) [.int .i64 0, .int .i64 0, .bool false] := ⟨by kernel_rfl, by kernel_rfl, rfl, rfl⟩
instance : FieldTy Tryz.prog 109 0 0 3 0 := ⟨by kernel_rfl, by kernel_rfl⟩
instance : FieldTy Tryz.prog 109 1 1 3 0 := ⟨by kernel_rfl, by kernel_rfl⟩
instance : FieldTy Tryz.prog 109 2 2 4 0 := ⟨by kernel_rfl, by kernel_rfl⟩
instance : BuildTy Tryz.prog 109 [(0, 1), (1, 1), (2, 1)] [.int .i64 0, .int .i64 0, .bool false] := ⟨fun parts => by kernel_rfl⟩
-- 110 func(api.Plan) (int, api.Errno)
instance : Ty Tryz.prog 110 false 1 8 (.nilFunc) [.nilFunc] := ⟨by kernel_rfl, by kernel_rfl, rfl, rfl⟩
-- 112 func(api.Plan, int) ([]int, bool)
instance : Ty Tryz.prog 112 false 1 8 (.nilFunc) [.nilFunc] := ⟨by kernel_rfl, by kernel_rfl, rfl, rfl⟩
-- 113 func(api.Tree, deuceref07.Draw) []api.Bout
instance : Ty Tryz.prog 113 false 1 8 (.nilFunc) [.nilFunc] := ⟨by kernel_rfl, by kernel_rfl, rfl, rfl⟩
-- 114 func(api.Tree, []api.Slip, int, int) api.Errno
instance : Ty Tryz.prog 114 false 1 8 (.nilFunc) [.nilFunc] := ⟨by kernel_rfl, by kernel_rfl, rfl, rfl⟩
-- 115 func([]api.Stage, func(api.Stage) bool) int
instance : Ty Tryz.prog 115 false 1 8 (.nilFunc) [.nilFunc] := ⟨by kernel_rfl, by kernel_rfl, rfl, rfl⟩
-- 116 func(api.Span, int, int) bool
instance : Ty Tryz.prog 116 false 1 8 (.nilFunc) [.nilFunc] := ⟨by kernel_rfl, by kernel_rfl, rfl, rfl⟩
-- 118 func(api.Tree, []api.Slip, int, int) (*bracket.draw, bracket.match, api.Errno)
instance : Ty Tryz.prog 118 false 1 8 (.nilFunc) [.nilFunc] := ⟨by kernel_rfl, by kernel_rfl, rfl, rfl⟩
-- 119 func([]api.Span, func(api.Span) bool) bool
instance : Ty Tryz.prog 119 false 1 8 (.nilFunc) [.nilFunc] := ⟨by kernel_rfl, by kernel_rfl, rfl, rfl⟩
-- 120 func([]int, int) bool
instance : Ty Tryz.prog 120 false 1 8 (.nilFunc) [.nilFunc] := ⟨by kernel_rfl, by kernel_rfl, rfl, rfl⟩
-- 122 func(api.Program, int, []api.Seat, int) ([]api.Seat, bool)
instance : Ty Tryz.prog 122 false 1 8 (.nilFunc) [.nilFunc] := ⟨by kernel_rfl, by kernel_rfl, rfl, rfl⟩
-- 123 func([]api.Seat, int) bool
instance : Ty Tryz.prog 123 false 1 8 (.nilFunc) [.nilFunc] := ⟨by kernel_rfl, by kernel_rfl, rfl, rfl⟩
-- 124 func([]api.Slip, func(api.Slip) bool) bool
instance : Ty Tryz.prog 124 false 1 8 (.nilFunc) [.nilFunc] := ⟨by kernel_rfl, by kernel_rfl, rfl, rfl⟩
-- 125 func(api.Slip) bool
instance : Ty Tryz.prog 125 false 1 8 (.nilFunc) [.nilFunc] := ⟨by kernel_rfl, by kernel_rfl, rfl, rfl⟩
-- 127 func(api.Tree, []api.Slip) (*bracket.draw, bool)
instance : Ty Tryz.prog 127 false 1 8 (.nilFunc) [.nilFunc] := ⟨by kernel_rfl, by kernel_rfl, rfl, rfl⟩
-- 128 func(bracket.match, api.Bout) bool
instance : Ty Tryz.prog 128 false 1 8 (.nilFunc) [.nilFunc] := ⟨by kernel_rfl, by kernel_rfl, rfl, rfl⟩
-- 129 func(bracket.match, int) int
instance : Ty Tryz.prog 129 false 1 8 (.nilFunc) [.nilFunc] := ⟨by kernel_rfl, by kernel_rfl, rfl, rfl⟩
-- 130 uint
instance : Ty Tryz.prog 130 false 1 8 (.int .u64 0) [.int .u64 0] := ⟨by kernel_rfl, by kernel_rfl, rfl, rfl⟩
-- 131 func(api.Tree, int, int) bool
instance : Ty Tryz.prog 131 false 1 8 (.nilFunc) [.nilFunc] := ⟨by kernel_rfl, by kernel_rfl, rfl, rfl⟩
-- 132 func(api.Tree, []api.Slip) ([]int, bool)
instance : Ty Tryz.prog 132 false 1 8 (.nilFunc) [.nilFunc] := ⟨by kernel_rfl, by kernel_rfl, rfl, rfl⟩
-- 133 func(api.Tree, int) int
instance : Ty Tryz.prog 133 false 1 8 (.nilFunc) [.nilFunc] := ⟨by kernel_rfl, by kernel_rfl, rfl, rfl⟩
-- 134 func([]api.Slip) []api.Slip
instance : Ty Tryz.prog 134 false 1 8 (.nilFunc) [.nilFunc] := ⟨by kernel_rfl, by kernel_rfl, rfl, rfl⟩
-- 135 func([]int, func(int) bool) bool
instance : Ty Tryz.prog 135 false 1 8 (.nilFunc) [.nilFunc] := ⟨by kernel_rfl, by kernel_rfl, rfl, rfl⟩
-- 136 func(int) bool
instance : Ty Tryz.prog 136 false 1 8 (.nilFunc) [.nilFunc] := ⟨by kernel_rfl, by kernel_rfl, rfl, rfl⟩
-- 137 [3]int
instance : Ty Tryz.prog 137 true 3 24 (.agg #[.int .i64 0, .int .i64 0, .int .i64 0]) [.int .i64 0, .int .i64 0, .int .i64 0] := ⟨by kernel_rfl, by kernel_rfl, rfl, rfl⟩
instance : ArrayTy Tryz.prog 137 3 3 := ⟨by kernel_rfl⟩
instance : EqA Tryz.prog 137 3 := ⟨by kernel_rfl, by kernel_rfl, by kernel_rfl, by kernel_rfl⟩
-- 138 [6]int
instance : Ty Tryz.prog 138 true 6 48 (.agg #[.int .i64 0, .int .i64 0, .int .i64 0, .int .i64 0, .int .i64 0, .int .i64 0]) [.int .i64 0, .int .i64 0, .int .i64 0, .int .i64 0, .int .i64 0, .int .i64 0] := ⟨by kernel_rfl, by kernel_rfl, rfl, rfl⟩
instance : ArrayTy Tryz.prog 138 6 3 := ⟨by kernel_rfl⟩
instance : EqA Tryz.prog 138 6 := ⟨by kernel_rfl, by kernel_rfl, by kernel_rfl, by kernel_rfl⟩
-- 139 struct { number int; free [3]int; ends [6]int }
instance : Ty Tryz.prog 139 true 10 80 (.agg #[.int .i64 0, .int .i64 0, .int .i64 0, .int .i64 0, .int .i64 0, .int .i64 0, .int .i64 0, .int .i64 0, .int .i64 0, .int .i64 0]) [.int .i64 0, .int .i64 0, .int .i64 0, .int .i64 0, .int .i64 0, .int .i64 0, .int .i64 0, .int .i64 0, .int .i64 0, .int .i64 0] := ⟨by kernel_rfl, by kernel_rfl, rfl, rfl⟩
instance : FieldTy Tryz.prog 139 0 0 3 0 := ⟨by kernel_rfl, by kernel_rfl⟩
instance : FieldTy Tryz.prog 139 1 1 137 2 := ⟨by kernel_rfl, by kernel_rfl⟩
instance : FieldTy Tryz.prog 139 2 4 138 5 := ⟨by kernel_rfl, by kernel_rfl⟩
instance : BuildTy Tryz.prog 139 [(0, 1), (1, 3), (4, 6)] [.int .i64 0, .int .i64 0, .int .i64 0, .int .i64 0, .int .i64 0, .int .i64 0, .int .i64 0, .int .i64 0, .int .i64 0, .int .i64 0] := ⟨fun parts => by kernel_rfl⟩
-- 140 deuce/play.day
instance : Ty Tryz.prog 140 true 10 80 (.agg #[.int .i64 0, .int .i64 0, .int .i64 0, .int .i64 0, .int .i64 0, .int .i64 0, .int .i64 0, .int .i64 0, .int .i64 0, .int .i64 0]) [.int .i64 0, .int .i64 0, .int .i64 0, .int .i64 0, .int .i64 0, .int .i64 0, .int .i64 0, .int .i64 0, .int .i64 0, .int .i64 0] := ⟨by kernel_rfl, by kernel_rfl, rfl, rfl⟩
instance : FieldTy Tryz.prog 140 0 0 3 0 := ⟨by kernel_rfl, by kernel_rfl⟩
instance : FieldTy Tryz.prog 140 1 1 137 2 := ⟨by kernel_rfl, by kernel_rfl⟩
instance : FieldTy Tryz.prog 140 2 4 138 5 := ⟨by kernel_rfl, by kernel_rfl⟩
instance : BuildTy Tryz.prog 140 [(0, 1), (1, 3), (4, 6)] [.int .i64 0, .int .i64 0, .int .i64 0, .int .i64 0, .int .i64 0, .int .i64 0, .int .i64 0, .int .i64 0, .int .i64 0, .int .i64 0] := ⟨fun parts => by kernel_rfl⟩
-- 141 func(api.Program, int) play.day
instance : Ty Tryz.prog 141 false 1 8 (.nilFunc) [.nilFunc] := ⟨by kernel_rfl, by kernel_rfl, rfl, rfl⟩
-- 143 func(api.Program, api.Seat, int) (int, int)
instance : Ty Tryz.prog 143 false 1 8 (.nilFunc) [.nilFunc] := ⟨by kernel_rfl, by kernel_rfl, rfl, rfl⟩
-- 144 func(api.Plan) api.Errno
instance : Ty Tryz.prog 144 false 1 8 (.nilFunc) [.nilFunc] := ⟨by kernel_rfl, by kernel_rfl, rfl, rfl⟩
-- 145 func(func([]int) bool)
instance : Ty Tryz.prog 145 false 1 8 (.nilFunc) [.nilFunc] := ⟨by kernel_rfl, by kernel_rfl, rfl, rfl⟩
-- 146 func(api.Plan) func(func([]int) bool)
instance : Ty Tryz.prog 146 false 1 8 (.nilFunc) [.nilFunc] := ⟨by kernel_rfl, by kernel_rfl, rfl, rfl⟩
-- 147 func(api.Plan, []int) []int
instance : Ty Tryz.prog 147 false 1 8 (.nilFunc) [.nilFunc] := ⟨by kernel_rfl, by kernel_rfl, rfl, rfl⟩
-- 148 func(deuceref07.Draw, int, int, int) int
instance : Ty Tryz.prog 148 false 1 8 (.nilFunc) [.nilFunc] := ⟨by kernel_rfl, by kernel_rfl, rfl, rfl⟩
-- 149 func([]api.Span, func(api.Span) bool) int
instance : Ty Tryz.prog 149 false 1 8 (.nilFunc) [.nilFunc] := ⟨by kernel_rfl, by kernel_rfl, rfl, rfl⟩
-- 150 func([]int, int) int
instance : Ty Tryz.prog 150 false 1 8 (.nilFunc) [.nilFunc] := ⟨by kernel_rfl, by kernel_rfl, rfl, rfl⟩
-- 151 *play.search
instance : Ty Tryz.prog 151 false 1 8 (.pointer none) [.pointer none] := ⟨by kernel_rfl, by kernel_rfl, rfl, rfl⟩
-- 152 map[play.state]int
instance : Ty Tryz.prog 152 false 1 8 (.map none) [.map none] := ⟨by kernel_rfl, by kernel_rfl, rfl, rfl⟩
-- 153 struct { api.Program; days int; old []api.Seat; seen map[play.state]int }
instance : Ty Tryz.prog 153 true 6 96 (.agg #[.slice none 0 0, .int .i64 0, .slice none 0 0, .int .i64 0, .slice none 0 0, .map none]) [.slice none 0 0, .int .i64 0, .slice none 0 0, .int .i64 0, .slice none 0 0, .map none] := ⟨by kernel_rfl, by kernel_rfl, rfl, rfl⟩
instance : FieldTy Tryz.prog 153 0 0 39 2 := ⟨by kernel_rfl, by kernel_rfl⟩
instance : FieldTy Tryz.prog 153 1 3 3 0 := ⟨by kernel_rfl, by kernel_rfl⟩
instance : FieldTy Tryz.prog 153 2 4 41 0 := ⟨by kernel_rfl, by kernel_rfl⟩
instance : FieldTy Tryz.prog 153 3 5 152 0 := ⟨by kernel_rfl, by kernel_rfl⟩
instance : BuildTy Tryz.prog 153 [(0, 3), (3, 1), (4, 1), (5, 1)] [.slice none 0 0, .int .i64 0, .slice none 0 0, .int .i64 0, .slice none 0 0, .map none] := ⟨fun parts => by kernel_rfl⟩
-- 154 deuce/play.search
instance : Ty Tryz.prog 154 true 6 96 (.agg #[.slice none 0 0, .int .i64 0, .slice none 0 0, .int .i64 0, .slice none 0 0, .map none]) [.slice none 0 0, .int .i64 0, .slice none 0 0, .int .i64 0, .slice none 0 0, .map none] := ⟨by kernel_rfl, by kernel_rfl, rfl, rfl⟩
instance : FieldTy Tryz.prog 154 0 0 39 2 := ⟨by kernel_rfl, by kernel_rfl⟩
instance : FieldTy Tryz.prog 154 1 3 3 0 := ⟨by kernel_rfl, by kernel_rfl⟩
instance : FieldTy Tryz.prog 154 2 4 41 0 := ⟨by kernel_rfl, by kernel_rfl⟩
instance : FieldTy Tryz.prog 154 3 5 152 0 := ⟨by kernel_rfl, by kernel_rfl⟩
instance : BuildTy Tryz.prog 154 [(0, 3), (3, 1), (4, 1), (5, 1)] [.slice none 0 0, .int .i64 0, .slice none 0 0, .int .i64 0, .slice none 0 0, .map none] := ⟨fun parts => by kernel_rfl⟩
-- 155 func(play.state) ([]api.Seat, bool)
instance : Ty Tryz.prog 155 false 1 8 (.nilFunc) [.nilFunc] := ⟨by kernel_rfl, by kernel_rfl, rfl, rfl⟩
-- 156 struct { play.day; done int; moves int }
instance : Ty Tryz.prog 156 true 12 96 (.agg #[.int .i64 0, .int .i64 0, .int .i64 0, .int .i64 0, .int .i64 0, .int .i64 0, .int .i64 0, .int .i64 0, .int .i64 0, .int .i64 0, .int .i64 0, .int .i64 0]) [.int .i64 0, .int .i64 0, .int .i64 0, .int .i64 0, .int .i64 0, .int .i64 0, .int .i64 0, .int .i64 0, .int .i64 0, .int .i64 0, .int .i64 0, .int .i64 0] := ⟨by kernel_rfl, by kernel_rfl, rfl, rfl⟩
instance : FieldTy Tryz.prog 156 0 0 140 9 := ⟨by kernel_rfl, by kernel_rfl⟩
instance : FieldTy Tryz.prog 156 1 10 3 0 := ⟨by kernel_rfl, by kernel_rfl⟩
instance : FieldTy Tryz.prog 156 2 11 3 0 := ⟨by kernel_rfl, by kernel_rfl⟩
instance : BuildTy Tryz.prog 156 [(0, 10), (10, 1), (11, 1)] [.int .i64 0, .int .i64 0, .int .i64 0, .int .i64 0, .int .i64 0, .int .i64 0, .int .i64 0, .int .i64 0, .int .i64 0, .int .i64 0, .int .i64 0, .int .i64 0] := ⟨fun parts => by kernel_rfl⟩
-- 157 deuce/play.state
instance : Ty Tryz.prog 157 true 12 96 (.agg #[.int .i64 0, .int .i64 0, .int .i64 0, .int .i64 0, .int .i64 0, .int .i64 0, .int .i64 0, .int .i64 0, .int .i64 0, .int .i64 0, .int .i64 0, .int .i64 0]) [.int .i64 0, .int .i64 0, .int .i64 0, .int .i64 0, .int .i64 0, .int .i64 0, .int .i64 0, .int .i64 0, .int .i64 0, .int .i64 0, .int .i64 0, .int .i64 0] := ⟨by kernel_rfl, by kernel_rfl, rfl, rfl⟩
instance : FieldTy Tryz.prog 157 0 0 140 9 := ⟨by kernel_rfl, by kernel_rfl⟩
instance : FieldTy Tryz.prog 157 1 10 3 0 := ⟨by kernel_rfl, by kernel_rfl⟩
instance : FieldTy Tryz.prog 157 2 11 3 0 := ⟨by kernel_rfl, by kernel_rfl⟩
instance : BuildTy Tryz.prog 157 [(0, 10), (10, 1), (11, 1)] [.int .i64 0, .int .i64 0, .int .i64 0, .int .i64 0, .int .i64 0, .int .i64 0, .int .i64 0, .int .i64 0, .int .i64 0, .int .i64 0, .int .i64 0, .int .i64 0] := ⟨fun parts => by kernel_rfl⟩
-- 158 map[int]int
instance : Ty Tryz.prog 158 false 1 8 (.map none) [.map none] := ⟨by kernel_rfl, by kernel_rfl, rfl, rfl⟩
-- 159 func([]api.Slip, func(api.Slip) bool) int
instance : Ty Tryz.prog 159 false 1 8 (.nilFunc) [.nilFunc] := ⟨by kernel_rfl, by kernel_rfl, rfl, rfl⟩
-- 160 func([]int) []int
instance : Ty Tryz.prog 160 false 1 8 (.nilFunc) [.nilFunc] := ⟨by kernel_rfl, by kernel_rfl, rfl, rfl⟩
-- 161 map[api.Slip]int
instance : Ty Tryz.prog 161 false 1 8 (.map none) [.map none] := ⟨by kernel_rfl, by kernel_rfl, rfl, rfl⟩
-- 162 map[bracket.match]api.Slip
instance : Ty Tryz.prog 162 false 1 8 (.map none) [.map none] := ⟨by kernel_rfl, by kernel_rfl, rfl, rfl⟩
-- 164 func(map[api.Slip]int) bool
instance : Ty Tryz.prog 164 false 1 8 (.nilFunc) [.nilFunc] := ⟨by kernel_rfl, by kernel_rfl, rfl, rfl⟩
-- 165 func(int, int) bool
instance : Ty Tryz.prog 165 false 1 8 (.nilFunc) [.nilFunc] := ⟨by kernel_rfl, by kernel_rfl, rfl, rfl⟩
-- 166 func(int, int) bracket.match
instance : Ty Tryz.prog 166 false 1 8 (.nilFunc) [.nilFunc] := ⟨by kernel_rfl, by kernel_rfl, rfl, rfl⟩
-- 167 func([]int, func(int) bool) int
instance : Ty Tryz.prog 167 false 1 8 (.nilFunc) [.nilFunc] := ⟨by kernel_rfl, by kernel_rfl, rfl, rfl⟩
-- 168 *play.day
instance : Ty Tryz.prog 168 false 1 8 (.pointer none) [.pointer none] := ⟨by kernel_rfl, by kernel_rfl, rfl, rfl⟩
-- 169 func(api.Program, int, int) bool
instance : Ty Tryz.prog 169 false 1 8 (.nilFunc) [.nilFunc] := ⟨by kernel_rfl, by kernel_rfl, rfl, rfl⟩
-- 170 func([]api.Person, func(api.Person) bool) bool
instance : Ty Tryz.prog 170 false 1 8 (.nilFunc) [.nilFunc] := ⟨by kernel_rfl, by kernel_rfl, rfl, rfl⟩
-- 171 func(api.Person) bool
instance : Ty Tryz.prog 171 false 1 8 (.nilFunc) [.nilFunc] := ⟨by kernel_rfl, by kernel_rfl, rfl, rfl⟩
-- 172 func([]int, func(int, int) int)
instance : Ty Tryz.prog 172 false 1 8 (.nilFunc) [.nilFunc] := ⟨by kernel_rfl, by kernel_rfl, rfl, rfl⟩
-- 173 func(int, int) int
instance : Ty Tryz.prog 173 false 1 8 (.nilFunc) [.nilFunc] := ⟨by kernel_rfl, by kernel_rfl, rfl, rfl⟩
-- 174 func([]int) bool
instance : Ty Tryz.prog 174 false 1 8 (.nilFunc) [.nilFunc] := ⟨by kernel_rfl, by kernel_rfl, rfl, rfl⟩
-- 175 func(api.Plan, int, int) bool
instance : Ty Tryz.prog 175 false 1 8 (.nilFunc) [.nilFunc] := ⟨by kernel_rfl, by kernel_rfl, rfl, rfl⟩
-- 176 func(api.Seat) int
instance : Ty Tryz.prog 176 false 1 8 (.nilFunc) [.nilFunc] := ⟨by kernel_rfl, by kernel_rfl, rfl, rfl⟩
-- 177 func(map[api.Slip]int, int) (api.Slip, bool)
instance : Ty Tryz.prog 177 false 1 8 (.nilFunc) [.nilFunc] := ⟨by kernel_rfl, by kernel_rfl, rfl, rfl⟩
-- 178 func([]api.Person, func(api.Person) bool) int
instance : Ty Tryz.prog 178 false 1 8 (.nilFunc) [.nilFunc] := ⟨by kernel_rfl, by kernel_rfl, rfl, rfl⟩
-- 179 func([]int, int, int, int, func(int, int) int)
instance : Ty Tryz.prog 179 false 1 8 (.nilFunc) [.nilFunc] := ⟨by kernel_rfl, by kernel_rfl, rfl, rfl⟩
-- 180 func(uint) int
instance : Ty Tryz.prog 180 false 1 8 (.nilFunc) [.nilFunc] := ⟨by kernel_rfl, by kernel_rfl, rfl, rfl⟩
-- 181 func([]api.Seat, api.Seat) bool
instance : Ty Tryz.prog 181 false 1 8 (.nilFunc) [.nilFunc] := ⟨by kernel_rfl, by kernel_rfl, rfl, rfl⟩
-- 182 func([]int, int, int, func(int, int) int)
instance : Ty Tryz.prog 182 false 1 8 (.nilFunc) [.nilFunc] := ⟨by kernel_rfl, by kernel_rfl, rfl, rfl⟩
-- 183 slices.sortedHint
instance : Ty Tryz.prog 183 false 1 8 (.int .i64 0) [.int .i64 0] := ⟨by kernel_rfl, by kernel_rfl, rfl, rfl⟩
-- 185 func([]int, int, int, func(int, int) int) (int, slices.sortedHint)
instance : Ty Tryz.prog 185 false 1 8 (.nilFunc) [.nilFunc] := ⟨by kernel_rfl, by kernel_rfl, rfl, rfl⟩
-- 186 func([]int, int, int, func(int, int) int) bool
instance : Ty Tryz.prog 186 false 1 8 (.nilFunc) [.nilFunc] := ⟨by kernel_rfl, by kernel_rfl, rfl, rfl⟩
-- 187 func([]int, int, int, int, func(int, int) int) int
instance : Ty Tryz.prog 187 false 1 8 (.nilFunc) [.nilFunc] := ⟨by kernel_rfl, by kernel_rfl, rfl, rfl⟩
-- 188 func([]int, int, int, int, func(int, int) int) (int, bool)
instance : Ty Tryz.prog 188 false 1 8 (.nilFunc) [.nilFunc] := ⟨by kernel_rfl, by kernel_rfl, rfl, rfl⟩
-- 189 func(uint32) int
instance : Ty Tryz.prog 189 false 1 8 (.nilFunc) [.nilFunc] := ⟨by kernel_rfl, by kernel_rfl, rfl, rfl⟩
-- 190 uint32
instance : Ty Tryz.prog 190 false 1 4 (.int .u32 0) [.int .u32 0] := ⟨by kernel_rfl, by kernel_rfl, rfl, rfl⟩
-- 191 func(uint64) int
instance : Ty Tryz.prog 191 false 1 8 (.nilFunc) [.nilFunc] := ⟨by kernel_rfl, by kernel_rfl, rfl, rfl⟩
-- 192 uint64
instance : Ty Tryz.prog 192 false 1 8 (.int .u64 0) [.int .u64 0] := ⟨by kernel_rfl, by kernel_rfl, rfl, rfl⟩
-- 193 func([]api.Seat, api.Seat) int
instance : Ty Tryz.prog 193 false 1 8 (.nilFunc) [.nilFunc] := ⟨by kernel_rfl, by kernel_rfl, rfl, rfl⟩
-- 194 slices.xorshift
instance : Ty Tryz.prog 194 false 1 8 (.int .u64 0) [.int .u64 0] := ⟨by kernel_rfl, by kernel_rfl, rfl, rfl⟩
-- 195 func(int) uint
instance : Ty Tryz.prog 195 false 1 8 (.nilFunc) [.nilFunc] := ⟨by kernel_rfl, by kernel_rfl, rfl, rfl⟩
-- 196 func() uint64
instance : Ty Tryz.prog 196 false 1 8 (.nilFunc) [.nilFunc] := ⟨by kernel_rfl, by kernel_rfl, rfl, rfl⟩
-- 197 func([]int, int, *int, func(int, int) int) int
instance : Ty Tryz.prog 197 false 1 8 (.nilFunc) [.nilFunc] := ⟨by kernel_rfl, by kernel_rfl, rfl, rfl⟩
-- 198 *int
instance : Ty Tryz.prog 198 false 1 8 (.pointer none) [.pointer none] := ⟨by kernel_rfl, by kernel_rfl, rfl, rfl⟩
-- 199 func([]int, int, int, int, *int, func(int, int) int) int
instance : Ty Tryz.prog 199 false 1 8 (.nilFunc) [.nilFunc] := ⟨by kernel_rfl, by kernel_rfl, rfl, rfl⟩
-- 200 *slices.xorshift
instance : Ty Tryz.prog 200 false 1 8 (.pointer none) [.pointer none] := ⟨by kernel_rfl, by kernel_rfl, rfl, rfl⟩
-- 201 func([]int, int, int, *int, func(int, int) int) (int, int)
instance : Ty Tryz.prog 201 false 1 8 (.nilFunc) [.nilFunc] := ⟨by kernel_rfl, by kernel_rfl, rfl, rfl⟩
-- 202 func() string
instance : Ty Tryz.prog 202 false 1 8 (.nilFunc) [.nilFunc] := ⟨by kernel_rfl, by kernel_rfl, rfl, rfl⟩
-- 203 struct { _interface *abi.Type; concrete *abi.Type; asserted *abi.Type; missingMethod string }
instance : Ty Tryz.prog 203 true 4 40 (.agg #[.pointer none, .pointer none, .pointer none, .string ByteArray.empty]) [.pointer none, .pointer none, .pointer none, .string ByteArray.empty] := ⟨by kernel_rfl, by kernel_rfl, rfl, rfl⟩
instance : FieldTy Tryz.prog 203 0 0 17 0 := ⟨by kernel_rfl, by kernel_rfl⟩
instance : FieldTy Tryz.prog 203 1 1 17 0 := ⟨by kernel_rfl, by kernel_rfl⟩
instance : FieldTy Tryz.prog 203 2 2 17 0 := ⟨by kernel_rfl, by kernel_rfl⟩
instance : FieldTy Tryz.prog 203 3 3 9 0 := ⟨by kernel_rfl, by kernel_rfl⟩
instance : BuildTy Tryz.prog 203 [(0, 1), (1, 1), (2, 1), (3, 1)] [.pointer none, .pointer none, .pointer none, .string ByteArray.empty] := ⟨fun parts => by kernel_rfl⟩
-- 205 [0]*runtime.PanicNilError
instance : Ty Tryz.prog 205 true 0 0 (.agg #[]) [] := ⟨by kernel_rfl, by kernel_rfl, rfl, rfl⟩
instance : ArrayTy Tryz.prog 205 0 16 := ⟨by kernel_rfl⟩
-- 206 struct { _ [0]*runtime.PanicNilError }
instance : Ty Tryz.prog 206 true 0 0 (.agg #[]) [] := ⟨by kernel_rfl, by kernel_rfl, rfl, rfl⟩
-- 208 func() int
instance : Ty Tryz.prog 208 false 1 8 (.nilFunc) [.nilFunc] := ⟨by kernel_rfl, by kernel_rfl, rfl, rfl⟩
-- 211 func(unsafe.Pointer, unsafe.Pointer) bool
instance : Ty Tryz.prog 211 false 1 8 (.nilFunc) [.nilFunc] := ⟨by kernel_rfl, by kernel_rfl, rfl, rfl⟩
-- 212 *uint8
instance : Ty Tryz.prog 212 false 1 8 (.pointer none) [.pointer none] := ⟨by kernel_rfl, by kernel_rfl, rfl, rfl⟩
-- 215 struct { Size_ uintptr; PtrBytes uintptr; Hash uint32; TFlag abi.TFlag; Align_ uint8; FieldAlign_ uint8; Kind_ abi.Kind; Equal func(unsafe.Pointer, unsafe.Pointer) bool; GCData *uint8; Str abi.NameOff; PtrToThis abi.TypeOff }
instance : Ty Tryz.prog 215 true 11 48 (.agg #[.int .u64 0, .int .u64 0, .int .u32 0, .int .u8 0, .int .u8 0, .int .u8 0, .int .u8 0, .nilFunc, .pointer none, .int .i32 0, .int .i32 0]) [.int .u64 0, .int .u64 0, .int .u32 0, .int .u8 0, .int .u8 0, .int .u8 0, .int .u8 0, .nilFunc, .pointer none, .int .i32 0, .int .i32 0] := ⟨by kernel_rfl, by kernel_rfl, rfl, rfl⟩
instance : FieldTy Tryz.prog 215 0 0 12 0 := ⟨by kernel_rfl, by kernel_rfl⟩
instance : FieldTy Tryz.prog 215 1 1 12 0 := ⟨by kernel_rfl, by kernel_rfl⟩
instance : FieldTy Tryz.prog 215 2 2 190 0 := ⟨by kernel_rfl, by kernel_rfl⟩
instance : FieldTy Tryz.prog 215 3 3 209 0 := ⟨by kernel_rfl, by kernel_rfl⟩
instance : FieldTy Tryz.prog 215 4 4 5 0 := ⟨by kernel_rfl, by kernel_rfl⟩
instance : FieldTy Tryz.prog 215 5 5 5 0 := ⟨by kernel_rfl, by kernel_rfl⟩
instance : FieldTy Tryz.prog 215 6 6 210 0 := ⟨by kernel_rfl, by kernel_rfl⟩
instance : FieldTy Tryz.prog 215 7 7 211 0 := ⟨by kernel_rfl, by kernel_rfl⟩
instance : FieldTy Tryz.prog 215 8 8 212 0 := ⟨by kernel_rfl, by kernel_rfl⟩
instance : FieldTy Tryz.prog 215 9 9 213 0 := ⟨by kernel_rfl, by kernel_rfl⟩
instance : FieldTy Tryz.prog 215 10 10 214 0 := ⟨by kernel_rfl, by kernel_rfl⟩
instance : BuildTy Tryz.prog 215 [(0, 1), (1, 1), (2, 1), (3, 1), (4, 1), (5, 1), (6, 1), (7, 1), (8, 1), (9, 1), (10, 1)] [.int .u64 0, .int .u64 0, .int .u32 0, .int .u8 0, .int .u8 0, .int .u8 0, .int .u8 0, .nilFunc, .pointer none, .int .i32 0, .int .i32 0] := ⟨fun parts => by kernel_rfl⟩
-- 217 func(int) int
instance : Ty Tryz.prog 217 false 1 8 (.nilFunc) [.nilFunc] := ⟨by kernel_rfl, by kernel_rfl, rfl, rfl⟩
-- 218 unsafe.Pointer
instance : Ty Tryz.prog 218 false 1 8 (.pointer none) [.pointer none] := ⟨by kernel_rfl, by kernel_rfl, rfl, rfl⟩
-- deuce/deucetop.TopGoesOn
instance : FnOk Tryz.prog 3 := ⟨by kernel_rfl⟩
-- (deuce/deucetop.Hall).small
instance : FnOk Tryz.prog 4 := ⟨by kernel_rfl⟩
-- deuce/deucetop.scheduled
instance : FnOk Tryz.prog 5 := ⟨by kernel_rfl⟩
-- deuce/deuceref08.Jobs
instance : FnOk Tryz.prog 6 := ⟨by kernel_rfl⟩
-- deuce/play.Jobs
instance : FnOk Tryz.prog 7 := ⟨by kernel_rfl⟩
-- deuce/deuceref08.Check
instance : FnOk Tryz.prog 8 := ⟨by kernel_rfl⟩
-- deuce/play.Best
instance : FnOk Tryz.prog 9 := ⟨by kernel_rfl⟩
-- deuce/play.Days
instance : FnOk Tryz.prog 10 := ⟨by kernel_rfl⟩
-- deuce/deuceref08.IsOrder
instance : FnOk Tryz.prog 11 := ⟨by kernel_rfl⟩
-- deuce/bracket.Ready
instance : FnOk Tryz.prog 12 := ⟨by kernel_rfl⟩
-- deuce/deuceref07.Check
instance : FnOk Tryz.prog 13 := ⟨by kernel_rfl⟩
-- deuce/play.Fits
instance : FnOk Tryz.prog 14 := ⟨by kernel_rfl⟩
-- deuce/deucelaw06.Example
instance : FnOk Tryz.prog 15 := ⟨by kernel_rfl⟩
-- deuce/draws.Draw
instance : FnOk Tryz.prog 16 := ⟨by kernel_rfl⟩
-- deuce/deucelaw07.Example
instance : FnOk Tryz.prog 17 := ⟨by kernel_rfl⟩
-- deuce/bracket.Left
instance : FnOk Tryz.prog 18 := ⟨by kernel_rfl⟩
-- deuce/deucelaw08.Example
instance : FnOk Tryz.prog 19 := ⟨by kernel_rfl⟩
-- deuce/deuceref08.isLength
instance : FnOk Tryz.prog 20 := ⟨by kernel_rfl⟩
-- deuce/deuceref08.within
instance : FnOk Tryz.prog 21 := ⟨by kernel_rfl⟩
-- deuce/deuceref07.Bouts
instance : FnOk Tryz.prog 22 := ⟨by kernel_rfl⟩
-- deuce/deuceref07.Winner
instance : FnOk Tryz.prog 23 := ⟨by kernel_rfl⟩
-- deuce/bracket.Bouts
instance : FnOk Tryz.prog 24 := ⟨by kernel_rfl⟩
-- slices.ContainsFunc[[]deuce/api.Stage,deuce/api.Stage]
instance : FnOk Tryz.prog 25 := ⟨by kernel_rfl⟩
-- deuce/play.Jobs$1
instance : FnOk Tryz.prog 26 := ⟨by kernel_rfl⟩
-- deuce/play.isStage
instance : FnOk Tryz.prog 27 := ⟨by kernel_rfl⟩
-- deuce/bracket.Winner
instance : FnOk Tryz.prog 28 := ⟨by kernel_rfl⟩
-- deuce/deuceref08.isJob
instance : FnOk Tryz.prog 29 := ⟨by kernel_rfl⟩
-- deuce/play.Check
instance : FnOk Tryz.prog 30 := ⟨by kernel_rfl⟩
-- deuce/play.best
instance : FnOk Tryz.prog 31 := ⟨by kernel_rfl⟩
-- deuce/deuceref08.MayCome
instance : FnOk Tryz.prog 32 := ⟨by kernel_rfl⟩
-- deuce/bracket.open
instance : FnOk Tryz.prog 33 := ⟨by kernel_rfl⟩
-- (*deuce/bracket.draw).matches
instance : FnOk Tryz.prog 34 := ⟨by kernel_rfl⟩
-- deuce/deuceref07.IsTree
instance : FnOk Tryz.prog 35 := ⟨by kernel_rfl⟩
-- deuce/deuceref07.isSlip
instance : FnOk Tryz.prog 36 := ⟨by kernel_rfl⟩
-- deuce/deuceref07.draw
instance : FnOk Tryz.prog 37 := ⟨by kernel_rfl⟩
-- deuce/play.isOrder
instance : FnOk Tryz.prog 38 := ⟨by kernel_rfl⟩
-- deuce/play.times
instance : FnOk Tryz.prog 39 := ⟨by kernel_rfl⟩
-- deuce/play.longest
instance : FnOk Tryz.prog 40 := ⟨by kernel_rfl⟩
-- deuce/draws.Count
instance : FnOk Tryz.prog 41 := ⟨by kernel_rfl⟩
-- deuce/draws.pick
instance : FnOk Tryz.prog 42 := ⟨by kernel_rfl⟩
-- deuce/deuceref07.bouts
instance : FnOk Tryz.prog 43 := ⟨by kernel_rfl⟩
-- deuce/deuceref07.checkMatch
instance : FnOk Tryz.prog 44 := ⟨by kernel_rfl⟩
-- slices.IndexFunc[[]deuce/api.Stage,deuce/api.Stage]
instance : FnOk Tryz.prog 45 := ⟨by kernel_rfl⟩
-- deuce/play.isSpan
instance : FnOk Tryz.prog 46 := ⟨by kernel_rfl⟩
-- deuce/play.within
instance : FnOk Tryz.prog 47 := ⟨by kernel_rfl⟩
-- deuce/bracket.at
instance : FnOk Tryz.prog 48 := ⟨by kernel_rfl⟩
-- slices.ContainsFunc[[]deuce/api.Span,deuce/api.Span]
instance : FnOk Tryz.prog 49 := ⟨by kernel_rfl⟩
-- deuce/play.Check$1
instance : FnOk Tryz.prog 50 := ⟨by kernel_rfl⟩
-- deuce/play.areJobs
instance : FnOk Tryz.prog 51 := ⟨by kernel_rfl⟩
-- slices.Contains[[]int,int]
instance : FnOk Tryz.prog 52 := ⟨by kernel_rfl⟩
-- deuce/play.order
instance : FnOk Tryz.prog 53 := ⟨by kernel_rfl⟩
-- deuce/deuceref08.has
instance : FnOk Tryz.prog 54 := ⟨by kernel_rfl⟩
-- deuce/bracket.isTree
instance : FnOk Tryz.prog 55 := ⟨by kernel_rfl⟩
-- slices.ContainsFunc[[]deuce/api.Slip,deuce/api.Slip]
instance : FnOk Tryz.prog 56 := ⟨by kernel_rfl⟩
-- deuce/bracket.open$1
instance : FnOk Tryz.prog 57 := ⟨by kernel_rfl⟩
-- deuce/bracket.isSlip
instance : FnOk Tryz.prog 58 := ⟨by kernel_rfl⟩
-- deuce/bracket.agree
instance : FnOk Tryz.prog 59 := ⟨by kernel_rfl⟩
-- (*deuce/bracket.draw).side
instance : FnOk Tryz.prog 60 := ⟨by kernel_rfl⟩
-- deuce/deuceref07.within
instance : FnOk Tryz.prog 61 := ⟨by kernel_rfl⟩
-- deuce/deuceref07.IsMatch
instance : FnOk Tryz.prog 62 := ⟨by kernel_rfl⟩
-- deuce/deuceref07.Players
instance : FnOk Tryz.prog 63 := ⟨by kernel_rfl⟩
-- deuce/deuceref07.Places
instance : FnOk Tryz.prog 64 := ⟨by kernel_rfl⟩
-- deuce/deuceref07.once
instance : FnOk Tryz.prog 65 := ⟨by kernel_rfl⟩
-- slices.ContainsFunc[[]int,int]
instance : FnOk Tryz.prog 66 := ⟨by kernel_rfl⟩
-- deuce/play.isOrder$1
instance : FnOk Tryz.prog 67 := ⟨by kernel_rfl⟩
-- deuce/play.open
instance : FnOk Tryz.prog 68 := ⟨by kernel_rfl⟩
-- (*deuce/play.day).play
instance : FnOk Tryz.prog 69 := ⟨by kernel_rfl⟩
-- deuce/draws.Check
instance : FnOk Tryz.prog 70 := ⟨by kernel_rfl⟩
-- deuce/draws.draws
instance : FnOk Tryz.prog 71 := ⟨by kernel_rfl⟩
-- deuce/draws.sheet
instance : FnOk Tryz.prog 72 := ⟨by kernel_rfl⟩
-- deuce/deuceref07.of
instance : FnOk Tryz.prog 73 := ⟨by kernel_rfl⟩
-- (deuce/bracket.match).in
instance : FnOk Tryz.prog 74 := ⟨by kernel_rfl⟩
-- slices.IndexFunc[[]deuce/api.Span,deuce/api.Span]
instance : FnOk Tryz.prog 75 := ⟨by kernel_rfl⟩
-- slices.Index[[]int,int]
instance : FnOk Tryz.prog 76 := ⟨by kernel_rfl⟩
-- (*deuce/play.search).from
instance : FnOk Tryz.prog 77 := ⟨by kernel_rfl⟩
-- deuce/bracket.within
instance : FnOk Tryz.prog 78 := ⟨by kernel_rfl⟩
-- slices.IndexFunc[[]deuce/api.Slip,deuce/api.Slip]
instance : FnOk Tryz.prog 79 := ⟨by kernel_rfl⟩
-- slices.Clone[[]int,int]
instance : FnOk Tryz.prog 80 := ⟨by kernel_rfl⟩
-- (*deuce/bracket.draw).replace
instance : FnOk Tryz.prog 81 := ⟨by kernel_rfl⟩
-- (*deuce/bracket.draw).wins
instance : FnOk Tryz.prog 82 := ⟨by kernel_rfl⟩
-- deuce/bracket.of
instance : FnOk Tryz.prog 83 := ⟨by kernel_rfl⟩
-- deuce/deuceref07.in
instance : FnOk Tryz.prog 84 := ⟨by kernel_rfl⟩
-- slices.IndexFunc[[]int,int]
instance : FnOk Tryz.prog 85 := ⟨by kernel_rfl⟩
-- deuce/play.share
instance : FnOk Tryz.prog 86 := ⟨by kernel_rfl⟩
-- deuce/draws.within
instance : FnOk Tryz.prog 87 := ⟨by kernel_rfl⟩
-- slices.ContainsFunc[[]deuce/api.Person,deuce/api.Person]
instance : FnOk Tryz.prog 88 := ⟨by kernel_rfl⟩
-- deuce/draws.Check$1
instance : FnOk Tryz.prog 89 := ⟨by kernel_rfl⟩
-- deuce/draws.Check$2
instance : FnOk Tryz.prog 90 := ⟨by kernel_rfl⟩
-- slices.SortFunc[[]int,int]
instance : FnOk Tryz.prog 91 := ⟨by kernel_rfl⟩
-- deuce/draws.draws$1
instance : FnOk Tryz.prog 92 := ⟨by kernel_rfl⟩
-- deuce/draws.draws$2
instance : FnOk Tryz.prog 93 := ⟨by kernel_rfl⟩
-- deuce/draws.draws$2$1
instance : FnOk Tryz.prog 94 := ⟨by kernel_rfl⟩
-- deuce/draws.seat
instance : FnOk Tryz.prog 95 := ⟨by kernel_rfl⟩
-- deuce/draws.match
instance : FnOk Tryz.prog 96 := ⟨by kernel_rfl⟩
-- (deuce/play.state).has
instance : FnOk Tryz.prog 97 := ⟨by kernel_rfl⟩
-- (*deuce/play.search).move
instance : FnOk Tryz.prog 98 := ⟨by kernel_rfl⟩
-- (*deuce/bracket.draw).next
instance : FnOk Tryz.prog 99 := ⟨by kernel_rfl⟩
-- deuce/play.share$1
instance : FnOk Tryz.prog 100 := ⟨by kernel_rfl⟩
-- slices.IndexFunc[[]deuce/api.Person,deuce/api.Person]
instance : FnOk Tryz.prog 101 := ⟨by kernel_rfl⟩
-- slices.pdqsortCmpFunc[int]
instance : FnOk Tryz.prog 102 := ⟨by kernel_rfl⟩
-- math/bits.Len
instance : FnOk Tryz.prog 103 := ⟨by kernel_rfl⟩
-- deuce/draws.match$1
instance : FnOk Tryz.prog 104 := ⟨by kernel_rfl⟩
-- deuce/draws.apart
instance : FnOk Tryz.prog 105 := ⟨by kernel_rfl⟩
-- slices.Contains[[]deuce/api.Seat,deuce/api.Seat]
instance : FnOk Tryz.prog 106 := ⟨by kernel_rfl⟩
-- slices.insertionSortCmpFunc[int]
instance : FnOk Tryz.prog 107 := ⟨by kernel_rfl⟩
-- slices.heapSortCmpFunc[int]
instance : FnOk Tryz.prog 108 := ⟨by kernel_rfl⟩
-- slices.breakPatternsCmpFunc[int]
instance : FnOk Tryz.prog 109 := ⟨by kernel_rfl⟩
-- slices.choosePivotCmpFunc[int]
instance : FnOk Tryz.prog 110 := ⟨by kernel_rfl⟩
-- slices.reverseRangeCmpFunc[int]
instance : FnOk Tryz.prog 111 := ⟨by kernel_rfl⟩
-- slices.partialInsertionSortCmpFunc[int]
instance : FnOk Tryz.prog 112 := ⟨by kernel_rfl⟩
-- slices.partitionEqualCmpFunc[int]
instance : FnOk Tryz.prog 113 := ⟨by kernel_rfl⟩
-- slices.partitionCmpFunc[int]
instance : FnOk Tryz.prog 114 := ⟨by kernel_rfl⟩
-- math/bits.Len32
instance : FnOk Tryz.prog 115 := ⟨by kernel_rfl⟩
-- math/bits.Len64
instance : FnOk Tryz.prog 116 := ⟨by kernel_rfl⟩
-- slices.Index[[]deuce/api.Seat,deuce/api.Seat]
instance : FnOk Tryz.prog 117 := ⟨by kernel_rfl⟩
-- slices.siftDownCmpFunc[int]
instance : FnOk Tryz.prog 118 := ⟨by kernel_rfl⟩
-- slices.nextPowerOfTwo
instance : FnOk Tryz.prog 119 := ⟨by kernel_rfl⟩
-- (*slices.xorshift).Next
instance : FnOk Tryz.prog 120 := ⟨by kernel_rfl⟩
-- slices.medianAdjacentCmpFunc[int]
instance : FnOk Tryz.prog 121 := ⟨by kernel_rfl⟩
-- slices.medianCmpFunc[int]
instance : FnOk Tryz.prog 122 := ⟨by kernel_rfl⟩
-- slices.order2CmpFunc[int]
instance : FnOk Tryz.prog 123 := ⟨by kernel_rfl⟩
end Go.Proofs.YtmlhnajgiopfgaaGreat

namespace Go.Proofs.YtmlhnajgiopfgaaGreat
open Go
instance : BuildArr Tryz.prog 137 1 [.int .i64 0, .int .i64 0, .int .i64 0] := ⟨fun parts => by kernel_rfl⟩
instance : BuildArr Tryz.prog 138 1 [.int .i64 0, .int .i64 0, .int .i64 0, .int .i64 0, .int .i64 0, .int .i64 0] := ⟨fun parts => by kernel_rfl⟩
instance : BuildArr Tryz.prog 205 1 [] := ⟨fun parts => by kernel_rfl⟩
instance : FlatTy Tryz.prog 47 [false, false, false] := ⟨by kernel_rfl, by kernel_rfl, by kernel_rfl⟩
instance : FlatTy Tryz.prog 48 [false, false, false] := ⟨by kernel_rfl, by kernel_rfl, by kernel_rfl⟩
instance : FlatTy Tryz.prog 49 [false, false, false, false] := ⟨by kernel_rfl, by kernel_rfl, by kernel_rfl⟩
instance : FlatTy Tryz.prog 50 [false, false, false, false] := ⟨by kernel_rfl, by kernel_rfl, by kernel_rfl⟩
instance : FlatTy Tryz.prog 53 [false, false, false, false, false] := ⟨by kernel_rfl, by kernel_rfl, by kernel_rfl⟩
instance : FlatTy Tryz.prog 54 [false, false, false, false, false] := ⟨by kernel_rfl, by kernel_rfl, by kernel_rfl⟩
instance : FlatTy Tryz.prog 73 [false, false] := ⟨by kernel_rfl, by kernel_rfl, by kernel_rfl⟩
instance : FlatTy Tryz.prog 74 [false, false] := ⟨by kernel_rfl, by kernel_rfl, by kernel_rfl⟩
instance : FlatTy Tryz.prog 75 [false, false, false] := ⟨by kernel_rfl, by kernel_rfl, by kernel_rfl⟩
instance : FlatTy Tryz.prog 76 [false, false, false] := ⟨by kernel_rfl, by kernel_rfl, by kernel_rfl⟩
instance : FlatTy Tryz.prog 92 [false, false] := ⟨by kernel_rfl, by kernel_rfl, by kernel_rfl⟩
instance : FlatTy Tryz.prog 93 [false, false] := ⟨by kernel_rfl, by kernel_rfl, by kernel_rfl⟩
instance : MapTy Tryz.prog 95 93 3 := ⟨by kernel_rfl⟩
instance : FlatTy Tryz.prog 108 [false, false, true] := ⟨by kernel_rfl, by kernel_rfl, by kernel_rfl⟩
instance : FlatTy Tryz.prog 109 [false, false, true] := ⟨by kernel_rfl, by kernel_rfl, by kernel_rfl⟩
instance : FlatTy Tryz.prog 139 [false, false, false, false, false, false, false, false, false, false] := ⟨by kernel_rfl, by kernel_rfl, by kernel_rfl⟩
instance : FlatTy Tryz.prog 140 [false, false, false, false, false, false, false, false, false, false] := ⟨by kernel_rfl, by kernel_rfl, by kernel_rfl⟩
instance : MapTy Tryz.prog 152 157 3 := ⟨by kernel_rfl⟩
instance : FlatTy Tryz.prog 156 [false, false, false, false, false, false, false, false, false, false, false, false] := ⟨by kernel_rfl, by kernel_rfl, by kernel_rfl⟩
instance : FlatTy Tryz.prog 157 [false, false, false, false, false, false, false, false, false, false, false, false] := ⟨by kernel_rfl, by kernel_rfl, by kernel_rfl⟩
instance : MapTy Tryz.prog 158 3 3 := ⟨by kernel_rfl⟩
instance : MapTy Tryz.prog 161 54 3 := ⟨by kernel_rfl⟩
instance : MapTy Tryz.prog 162 93 54 := ⟨by kernel_rfl⟩
end Go.Proofs.YtmlhnajgiopfgaaGreat

namespace Go.Proofs.YtmlhnajgiopfgaaGreat
open Go Go.RowKit

def win (n lo hi : Int) : Bool := decide (lo ≤ n) && decide (n ≤ hi)
theorem win_iff {n lo hi : Int} : win n lo hi = true ↔ lo ≤ n ∧ n ≤ hi := by simp [win]
structure Ps where
  (player nation : Int) (qual : Bool)
abbrev Ps.enc (x : Ps) : List Value := [.int .i64 x.player, .int .i64 x.nation, .bool x.qual]
abbrev Ps.val (x : Ps) : Value := .agg #[.int .i64 x.player, .int .i64 x.nation, .bool x.qual]
def encPs (ps : List Ps) : List (List Value) := ps.map Ps.enc
theorem encPs_at {ps : List Ps} {k : Nat} {x : Ps} (h : ps[k]? = some x) : (encPs ps)[k]? = some x.enc := by simp [encPs, h]
structure Pl where
  (size seeds : Int) (ps : List Ps) (lots : List Int)
structure PA where
  (pA lA : Option Addr) (pc lc : Nat)
abbrev Pl.cells (p : Pl) (a : PA) : List Value := [.int .i64 p.size, .int .i64 p.seeds, .slice a.pA p.ps.length a.pc, .slice a.lA p.lots.length a.lc]
abbrev Pl.val (p : Pl) (a : PA) : Value := .agg #[.int .i64 p.size, .int .i64 p.seeds, .slice a.pA p.ps.length a.pc, .slice a.lA p.lots.length a.lc]
structure PRd (w : World) (p : Pl) (a : PA) : Prop where
  r : Rd w a.pA 3 p.ps.length (encPs p.ps)
  l : Rd w a.lA 1 p.lots.length (enI p.lots)
  pn : p.ps.length ≤ 9223372036854775807
  ln : p.lots.length ≤ 9223372036854775807
  pc : p.ps.length ≤ a.pc
def headOk (p : Pl) : Bool := (decide (p.size = 4) || decide (p.size = 8)) && win p.ps.length 2 p.size && decide (p.size - p.ps.length ≤ p.size / 2) && win p.seeds 0 (min (p.size / 2) p.ps.length) && decide ((p.lots.length : Int) ≤ 10)
def psOk (seeds : Int) (i : Nat) (x : Ps) : Bool := win x.player 0 999 && win x.nation 0 9 && !(decide ((i : Int) < seeds) && x.qual)
def dupP (ps : List Ps) (k : Nat) (n : Int) : Bool := (ps.take k).any fun x => decide (x.player = n)
def pssOk (seeds : Int) (ps : List Ps) : Nat → Bool
  | 0 => true
  | k + 1 => pssOk seeds ps k && (match ps[k]? with | some x => !dupP ps k x.player && psOk seeds k x | none => true)
def lotOk (n : Int) : Bool := win n 0 999999
def pOk (p : Pl) : Bool := headOk p && pssOk p.seeds p.ps p.ps.length && p.lots.all lotOk
def chkP (p : Pl) : Int := bif pOk p then 0 else 60
theorem pssOk_succ {seeds : Int} {ps : List Ps} {k : Nat} {x : Ps} (h : ps[k]? = some x) : pssOk seeds ps (k + 1) = (pssOk seeds ps k && (!dupP ps k x.player && psOk seeds k x)) := by rw [pssOk, h]
theorem pssOk_le {seeds : Int} {ps : List Ps} {j : Nat} (h : pssOk seeds ps j = false) : ∀ {k : Nat}, j ≤ k → pssOk seeds ps k = false
  | 0, hk => by obtain rfl : j = 0 := by omega
                exact h
  | k + 1, hk => by
    by_cases e : j = k + 1
    · subst e; exact h
    · rw [pssOk, pssOk_le h (k := k) (by omega)]; rfl
structure Pl.Ok (p : Pl) : Prop where
  z : p.size = 4 ∨ p.size = 8
  n : 2 ≤ p.ps.length ∧ (p.ps.length : Int) ≤ p.size ∧ p.size - p.ps.length ≤ p.size / 2
  s : 0 ≤ p.seeds ∧ p.seeds ≤ p.size / 2 ∧ p.seeds ≤ p.ps.length
  l : p.lots.length ≤ 10
  pr : ∀ (i : Nat) (x : Ps), p.ps[i]? = some x → (0 ≤ x.player ∧ x.player ≤ 999) ∧ (0 ≤ x.nation ∧ x.nation ≤ 9) ∧ ((i : Int) < p.seeds → x.qual = false)
  nd : ∀ (i j : Nat) (x y : Ps), i < j → p.ps[i]? = some x → p.ps[j]? = some y → x.player ≠ y.player
  lt : ∀ n ∈ p.lots, 0 ≤ n ∧ n ≤ 999999
theorem pssOk_all {seeds : Int} {ps : List Ps} : ∀ {k : Nat}, pssOk seeds ps k = true → (∀ (i : Nat) (x : Ps), i < k → ps[i]? = some x → psOk seeds i x = true ∧ dupP ps i x.player = false)
  | 0, _, i, _, hi, _ => by omega
  | k + 1, h, i, x, hi, hx => by
    rw [pssOk, Bool.and_eq_true] at h
    by_cases e : i = k
    · subst e
      have h2 := h.2
      rw [hx] at h2
      simp only [Bool.and_eq_true, Bool.not_eq_true'] at h2
      exact ⟨h2.2, h2.1⟩
    · exact pssOk_all h.1 i x (by omega) hx
theorem p_ok {p : Pl} (h : pOk p = true) : p.Ok := by
  simp only [pOk, headOk, Bool.and_eq_true, Bool.or_eq_true, decide_eq_true_eq, win_iff] at h
  obtain ⟨⟨⟨⟨⟨⟨h1, h2⟩, h3⟩, h4⟩, h5⟩, h6⟩, h7⟩ := h
  have hall := pssOk_all h6
  refine ⟨h1, by omega, by omega, by omega, fun i x hx => ?_, fun i j x y hij hx hy he => ?_, fun n hn => ?_⟩
  · have := (hall i x (List.getElem?_eq_some_iff.1 hx).1 hx).1
    simp only [psOk, Bool.and_eq_true, win_iff, Bool.not_eq_true', Bool.and_eq_false_iff, decide_eq_false_iff_not] at this
    refine ⟨this.1.1, this.1.2, fun hi => ?_⟩
    rcases this.2 with h | h
    · exact absurd hi h
    · exact h
  · have := (hall j y (List.getElem?_eq_some_iff.1 hy).1 hy).2
    unfold dupP at this
    rw [List.any_eq_false] at this
    have hm : x ∈ p.ps.take j := by
      have : (p.ps.take j)[i]? = some x := by rw [List.getElem?_take]; simp [hij, hx]
      exact List.mem_of_getElem? this
    exact this x hm (by simp [he])
  · have := List.all_eq_true.1 h7 n hn
    simpa [lotOk, win_iff] using this
theorem chkP_ok {p : Pl} (h : (!decide (chkP p = 0)) = false) : p.Ok ∧ pOk p = true := by
  cases hb : pOk p
  · simp [chkP, hb] at h
  · exact ⟨p_ok hb, rfl⟩
theorem chkP_no {p : Pl} (h : (!decide (chkP p = 0)) = true) : pOk p = false := by
  cases hb : pOk p
  · rfl
  · simp [chkP, hb] at h
def psAt (p : Pl) (n : Int) : Ps := (p.ps[n.toNat]?).getD ⟨0, 0, false⟩
def apartV (p : Pl) (a b : Int) : Bool :=
  bif decide (a = -1) || decide (b = -1) then !decide (a = b)
  else (!decide ((psAt p a).nation = (psAt p b).nation) || decide ((psAt p a).nation = 0)) && !((psAt p a).qual && (psAt p b).qual)
def seatV (p : Pl) (slot n : Int) : Bool :=
  bif decide (slot = 0) && decide (0 < p.seeds) then decide (n = 0)
  else bif decide (slot = p.size - 1) && decide (1 < p.seeds) then decide (n = 1)
  else bif decide (n = -1) || decide (p.seeds ≤ n) then true
  else decide (1 < n) && [p.size / 4, p.size - 1 - p.size / 4].any fun x => decide (slot = x)
def byesV (p : Pl) : Int := p.size - p.ps.length
def byeV (p : Pl) (n other : Int) : Bool := decide (n = -1) || decide (p.seeds ≤ n) || (decide (other = -1) == decide (n < byesV p))
def matchV (p : Pl) (a b : Int) : Bool :=
  bif decide (byesV p ≤ p.seeds) && ((decide (a = -1) && decide (p.seeds ≤ b)) || (decide (b = -1) && decide (p.seeds ≤ a))) then false
  else apartV p a b && byeV p a b && byeV p b a
def hasV (l : List Int) (n : Int) : Bool := l.any fun x => decide (n = x)
def lastV (l : List Int) : Int := (l.getLast?).getD 0
def leftB (byes n : Int) : Int := bif decide (n = -1) then byes - 1 else byes
def skipV (p : Pl) (l : List Int) (byes n : Int) : Bool :=
  decide (leftB byes n < 0) || (!decide (n = -1) && hasV l n) || !seatV p l.length n || (decide ((l.length : Int) % 2 = 1) && !matchV p (lastV l) n)
def moreV (p : Pl) (rk : List Int) : Nat → List Int → Int → List (List Int)
  | 0, l, _ => [l]
  | f + 1, l, byes => rk.flatMap fun n => bif skipV p l byes n then [] else moreV p rk f (l ++ [n]) (leftB byes n)
end Go.Proofs.YtmlhnajgiopfgaaGreat

namespace Go.Proofs.YtmlhnajgiopfgaaGreat
open Go Go.RowKit

def pAt {α : Type} (ss : List α) (q : α → Bool) (k : Nat) : Bool := match ss[k]? with
  | some s => q s
  | none => false
theorem pAt_eq {α : Type} {ss : List α} {q : α → Bool} {k : Nat} {s : α} (h : ss[k]? = some s) : pAt ss q k = q s := by simp only [pAt, h]
theorem pAt_any {α : Type} (ss : List α) (q : α → Bool) : (List.range ss.length).any (pAt ss q) = ss.any q := by
  rw [Bool.eq_iff_iff]
  simp only [List.any_eq_true, List.mem_range]
  constructor
  · rintro ⟨k, hk, h⟩
    simp only [pAt, List.getElem?_eq_getElem hk] at h
    exact ⟨ss[k], List.getElem_mem hk, h⟩
  · rintro ⟨s, hs, h⟩
    obtain ⟨k, hk, rfl⟩ := List.getElem_of_mem hs
    exact ⟨k, hk, by simp only [pAt, List.getElem?_eq_getElem hk]; exact h⟩
def Fst (p : Nat → Bool) (n : Nat) (j : Int) : Prop := (∃ k : Nat, k < n ∧ j = k ∧ p k = true ∧ ∀ i, i < k → p i = false) ∨ (j = -1 ∧ ∀ i, i < n → p i = false)
theorem Fst.any {p : Nat → Bool} {n : Nat} {j : Int} (h : Fst p n j) : decide (0 ≤ j) = (List.range n).any p := by
  rcases h with ⟨k, hk, rfl, hp, _⟩ | ⟨rfl, hp⟩
  · rw [decide_eq_true (by omega)]
    exact (List.any_eq_true.2 ⟨k, by simpa using hk, hp⟩).symm
  · rw [decide_eq_false (by omega)]
    exact (List.any_eq_false.2 fun k hk => by simp [hp k (by simpa using hk)]).symm

theorem enc_at {α : Type} {f : α → List Value} {ss : List α} {k : Nat} {cs : List Value} (h : (ss.map f)[k]? = some cs) : ∃ s, ss[k]? = some s ∧ cs = f s := by
  rw [List.getElem?_map] at h
  cases hs : ss[k]? with
  | none => simp [hs] at h
  | some s => exact ⟨s, rfl, by simpa [hs] using h.symm⟩
theorem C0.tr {P : Program} {f : FuncId} {vs : List Value} {v : Value} (Lp : List Ent) (h : ∀ w, C0 P f vs w v) : Tr P f vs Lp (fun _ : Unit => True) (fun _ => v) (fun _ => Lp) :=
  ⟨fun w0 w R hst => Calls.mono (h w).out fun e w' ⟨he, hs⟩ => ⟨(), trivial, he, by simpa using hst.join hs rfl⟩⟩

end Go.Proofs.YtmlhnajgiopfgaaGreat

namespace Go.Proofs.YtmlhnajgiopfgaaGreat
open Go Go.RowKit

theorem Spl.there {L Lp R : List Ent} {e : Ent} (h : Spl L Lp R) : Spl (e :: L) Lp (e :: R) := by
  induction h with
  | nil => exact .nil
  | cons h _ ih => exact .cons (.there h) ih
theorem rd_blk {g : Nat} {T : TypeId} {pre sp : List Value} {ws : List Int} {n : Nat} (hn : ws.length = n) (hm : n ≤ 9223372036854775807) (w : World) (h : (Ent.blk g T (pre ++ (ws.map vI ++ sp))).ok w) : Rd w (some ⟨g, pre.length, none⟩) 1 n (enI ws) :=
  rd_wt (T := T) (cap := n) w ⟨hn, .inr ⟨g, pre, sp, rfl, h, Nat.le_refl _, by omega, hm⟩⟩
theorem Tr.frame1 {P : Program} {f : FuncId} {vs : List Value} {Lpre : List Ent} {X : Type} {φ : X → Prop} {val : X → Value} {post : X → List Ent} {E : Ent} (h : Tr P f vs Lpre φ val post) : Tr P f vs (E :: Lpre) φ val (fun x => E :: post x) :=
  ⟨fun w0 w R hst => Calls.mono (h.out w0 w (E :: R) (hst.sub (SubL.mid _ _))) fun e w' ⟨x, hx, he, hs⟩ => ⟨x, hx, he, hs.sub (SubL.cons (At.app _ _) (SubL.refl _))⟩⟩
section rules
variable {F : Fence} {P : Program} {ops : Array Oper} {Q : Exit → Act → World → Prop} {rest : List Oper} {n : Nat} {D : List Deferred} {l : Env} {w0 : World} {L M : List Ent}
variable {d : Nat} {ty : TypeId} {pos : String} {aft : Array Edge}
theorem WQ.turn {Q' : Exit → Act → World → Prop} {e : Exit} {E E' : Ent} (hst : ∀ w, St w0 w (E :: M) → St w0 w (E' :: M)) (ha : At L E M) (h : WQ F P Q' e n D l w0 (E' :: M)) : WQ F P Q' e n D l w0 L :=
  fun hF a w hfr hs => h hF a w hfr (hst w (hs.pull ha))
theorem WC.turn {c : Code} {E E' : Ent} (hst : ∀ w, St w0 w (E :: M) → St w0 w (E' :: M)) (ha : At L E M) (h : WC F P c Q n D l w0 (E' :: M)) : WC F P c Q n D l w0 L :=
  fun hF a w hfr hs => h hF a w hfr (hst w (hs.pull ha))
end rules
end Go.Proofs.YtmlhnajgiopfgaaGreat

namespace Go.Proofs.YtmlhnajgiopfgaaGreat
open Go Go.RowKit

structure It2 (P : Program) (f : FuncId) (mk : Value → List Value) (Lp : List Ent) (N : Nat) {X : Type} (φ : Nat → X → Prop) (ya : Nat → X → List Value) (yL : Nat → X → List Ent) : Prop where
  out : ∀ {Y : Type} (ψ : Nat → Y → Prop) (J : Nat → Y → List Ent) (ψx : Y → Prop) (Jx : Y → List Ent) (w0 w : World) (lb : Nat) (y0 : Y), ψ 0 y0 → St w0 w (Lp ++ J 0 y0) →
    (∀ R k x y w, k < N → φ k x → ψ k y → St w0 w (yL k x ++ (Lp ++ (J k y ++ R))) → RoundOf P lb (ya k x) w (RR ψ (fun k y => J k y ++ R) ψx (fun y => Jx y ++ R) Lp w0 k)) →
    Calls P f (mk (.func (.yield lb) #[] #[])).toArray w fun e w' => ∃ v, e = .returned v ∧ ((∃ y, ψ N y ∧ St w0 w' (Lp ++ J N y)) ∨ ∃ y, ψx y ∧ St w0 w' (Lp ++ Jx y))

section rules
variable {P : Program} {ops : Array Oper} {Q : Exit → Act → World → Prop} {rest : List Oper} {n : Nat} {D : List Deferred} {l : Env} {w0 : World} {L M : List Ent}
theorem rf2 {f : FuncId} (hf : FnOk P f) {g : Operand} {ps : List Nat} {assign body : Code} {fi cap : List Value} {Lp : List Ent} {N : Nat} {X Y : Type} {φ : Nat → X → Prop} {ya : Nat → X → List Value} {yL : Nat → X → List Ent}
    (ψ : Nat → Y → Prop) (J : Nat → Y → List Ent) (ψx : Y → Prop) (jx : Y → Code) (Jx : Y → List Ent) (y0 : Y)
    (hit : It2 P f (fun v => fi ++ [v] ++ cap) Lp N φ ya yL) (hx : ev l g = some (.func (.func f) fi.toArray cap.toArray)) (hlen : ∀ k x, (ya k x).length = ps.length) (hps : ps.all (fun p => Nat.blt p n) = true)
    (h0 : ψ 0 y0) (hL : SubL (Lp ++ J 0 y0) L)
    (hround : ∀ (R : List Ent) (fn : FuncId) (tmps : Array Value) (lb rb : Nat) (k : Nat) (x : X) (y : Y), k < N → φ k x → ψ k y →
      WC (Fence.wide.inRound lb) P assign (Exit.then (BR P lb body (roundPost P lb (RR ψ (fun k y => .obj lb (.loop (recd fn tmps ps.toArray assign body rb .ready none)) :: .obj rb (.deferred (some [])) :: (J k y ++ R)) ψx
          (fun y => .obj lb (.loop (recd fn tmps ps.toArray assign body rb .done (some (jx y)))) :: .obj rb (.deferred (some [])) :: (Jx y ++ R)) Lp w0 k))) NoQ) n [] (zipE ps (ya k x) l) w0
        (yL k x ++ (Lp ++ (.obj lb (.loop (recd fn tmps ps.toArray assign body rb .ready none)) :: .obj rb (.deferred (some [])) :: (J k y ++ R)))))
    (hdone : ∀ rb y, ψ N y → WQ Fence.wide P Q .normal n (mark rb :: D) l w0 (.obj rb (.deferred (some [])) :: (Lp ++ J N y)))
    (hjump : ∀ rb y, ψx y → WC Fence.wide P (jx y) Q n (mark rb :: D) l w0 (.obj rb (.deferred (some [])) :: (Lp ++ Jx y))) : WC Fence.wide P (.rangeFunc g ps.toArray assign body) Q n D l w0 L := by
  intro hF a w hfr hst
  have hst0 := hst.sub hL
  refine wpIn_rangeFunc fun fn _ => ?_
  obtain ⟨W, hW⟩ : ∃ W, (w.alloc (.deferred (some []))).alloc (.loop { state := .ready, pending := none, fn, tmps := a.tmps, params := ps.toArray, assign, body, defers := w.heap.size }) = W := ⟨_, rfl⟩
  refine ⟨w.heap.size + 1, [{ target := .collected w.heap.size, args := #[] }], W, { target := .fn (.func f) cap.toArray, args := fi.toArray ++ #[Value.func (.yield (w.heap.size + 1)) #[] #[]] }, W, f, (fi ++ [Value.func (.yield (w.heap.size + 1)) #[] #[]] ++ cap).toArray, W,
    by rw [← hW]; exact run_enterLoop_outer fn a.tmps ps.toArray assign body, ?_, fun _ _ => trivial, ?_, fun h => (by cases h), ?_⟩
  · simp [resolve, Deferred.ofValue, hfr.eval hx]
    rfl
  · have := run_callFunc hf (fi ++ [Value.func (.yield (w.heap.size + 1)) #[] #[]] ++ cap).toArray W
    simpa [invoke] using this
  · subst hW
    have hst1 := (hst0.allocObj (.deferred (some []))).allocObj (.loop (recd fn a.tmps ps.toArray assign body w.heap.size .ready none))
    rw [World.size_alloc] at hst1
    have hsub : SubL (Lp ++ (.obj (w.heap.size + 1) (.loop (recd fn a.tmps ps.toArray assign body w.heap.size .ready none)) :: .obj w.heap.size (.deferred (some [])) :: J 0 y0))
        (.obj (w.heap.size + 1) (.loop (recd fn a.tmps ps.toArray assign body w.heap.size .ready none)) :: .obj w.heap.size (.deferred (some [])) :: (Lp ++ J 0 y0)) := by
      have : ∀ (A B : List Ent) (e e' : Ent), SubL (A ++ (e :: e' :: B)) (e :: e' :: (A ++ B)) := by
        intro A B e e'
        induction A with
        | nil => exact SubL.refl _
        | cons x A ih => exact .cons (.there (.there .here)) ih
      exact this ..
    refine callsIn_wide.2 (Calls.mono (hit.out ψ (fun k y => .obj (w.heap.size + 1) (.loop (recd fn a.tmps ps.toArray assign body w.heap.size .ready none)) :: .obj w.heap.size (.deferred (some [])) :: J k y) ψx (fun y => .obj (w.heap.size + 1) (.loop (recd fn a.tmps ps.toArray assign body w.heap.size .done (some (jx y)))) :: .obj w.heap.size (.deferred (some [])) :: Jx y) w0 _ (w.heap.size + 1) y0 h0 (hst1.sub hsub) ?_) ?_)
    · intro R k x y w1 hk hφ hψ hs1
      have hrec : w1.heap[w.heap.size + 1]? = some (.loop (recd fn a.tmps ps.toArray assign body w.heap.size .ready none)) := hs1.ok (.obj (w.heap.size + 1) (.loop (recd fn a.tmps ps.toArray assign body w.heap.size .ready none))) (by simp)
      refine ⟨_, _, _, _, run_yield hrec (by simp [recd, hlen]), ?_⟩
      refine roundIn_of_wpIn trivial ?_
      have hfr1 : Fr ⟨a.tmps, []⟩ n [] l := ⟨hfr.size, hfr.slot, rfl⟩
      have hfr2 := Fr.params ps (ya k x) a.tmps l hfr1 hps
      have := hround R fn a.tmps (w.heap.size + 1) w.heap.size k x y hk hφ hψ (freeRound _) _ w1 hfr2 hs1
      unfold BR NoQ at this
      simpa [recd] using this
    · rintro e w' ⟨v, rfl, hend⟩
      rcases hend with ⟨y, hψ, hs⟩ | ⟨y, hψ, hs⟩
      · have hp := hs.pull (e := .obj (w.heap.size + 1) (.loop (recd fn a.tmps ps.toArray assign body w.heap.size .ready none))) (M := Lp ++ (.obj w.heap.size (.deferred (some [])) :: J N y)) (by
          have : ∀ (A B : List Ent) (e : Ent), At (A ++ (e :: B)) e (A ++ B) := by
            intro A B e
            induction A with
            | nil => exact .here
            | cons x A ih => exact .there ih
          exact this ..)
        refine ⟨_, _, run_endLoop hp.objAt (by simp [recd]), ?_⟩
        have hs2 := (hp.putObj (.loop (recd fn a.tmps ps.toArray assign body w.heap.size .exhausted none))).tail
        have hs3 := hs2.pull (e := .obj w.heap.size (.deferred (some []))) (M := Lp ++ J N y) (by
          have : ∀ (A B : List Ent) (e : Ent), At (A ++ (e :: B)) e (A ++ B) := by
            intro A B e
            induction A with
            | nil => exact .here
            | cons x A ih => exact .there ih
          exact this ..)
        exact hdone w.heap.size y hψ hF _ _ ⟨hfr.size, hfr.slot, by simp [mark, hfr.defers]⟩ hs3
      · have hp := hs.pull (e := .obj (w.heap.size + 1) (.loop (recd fn a.tmps ps.toArray assign body w.heap.size .done (some (jx y))))) (M := Lp ++ (.obj w.heap.size (.deferred (some [])) :: Jx y)) (by
          have : ∀ (A B : List Ent) (e : Ent), At (A ++ (e :: B)) e (A ++ B) := by
            intro A B e
            induction A with
            | nil => exact .here
            | cons x A ih => exact .there ih
          exact this ..)
        refine ⟨_, _, run_endLoop hp.objAt (by simp [recd]), ?_⟩
        have hs2 := (hp.putObj (.loop (recd fn a.tmps ps.toArray assign body w.heap.size .exhausted (some (jx y))))).tail
        have hs3 := hs2.pull (e := .obj w.heap.size (.deferred (some []))) (M := Lp ++ Jx y) (by
          have : ∀ (A B : List Ent) (e : Ent), At (A ++ (e :: B)) e (A ++ B) := by
            intro A B e
            induction A with
            | nil => exact .here
            | cons x A ih => exact .there ih
          exact this ..)
        exact hjump w.heap.size y hψ hF _ _ ⟨hfr.size, hfr.slot, by simp [mark, hfr.defers]⟩ hs3


end rules
section rules2
variable {F : Fence} {P : Program} {ops : Array Oper} {Q : Exit → Act → World → Prop} {rest : List Oper} {n : Nat} {D : List Deferred} {l : Env} {w0 : World} {L M : List Ent}
variable {d : Nat} {ty : TypeId} {pos : String} {aft : Array Edge}
theorem apIn {s x : Operand} {t T : TypeId} (hT : SliceTy P t T := by infer_instance) {agg : Bool} {size bytes : Nat} {z : Value} {zl : List Value} (hE : Ty P T agg size bytes z zl := by infer_instance) (hs1 : size = 1 := by rfl) {A2 : Option Addr} {g c c2 m : Nat} {cs : List Value} {v : Value}
    (ha : At L (.blk g T cs) M) (hr : Rds M A2 1 1 [[v]]) (h1 : v.oneCell' = true := by rfl) (hroom : m + 1 ≤ c) (hlen : c ≤ cs.length) (hs : ev l s = some (.slice (some ⟨g, 0, none⟩) m c) := by exact rfl) (hx : ev l x = some (.slice A2 1 c2) := by exact rfl)
    (hd : Nat.blt d n = true := by rfl)
    (h : WL F P ops Q rest n D ((d, .slice (some ⟨g, 0, none⟩) (m + 1) c) :: l) w0 (.blk g T (cs.set m v) :: M)) :
    WL F P ops Q (⟨some d, .call { callee := .builtin .append, args := #[s, x], argTypes := #[t, t] }, ty, pos, aft, none⟩ :: rest) n D l w0 L :=
  WL.value (X := Unit) (φ := fun _ => True) (val := fun _ => .slice (some ⟨g, 0, none⟩) (m + 1) c) (L' := fun _ => .blk g T (cs.set m v) :: M) (by simp) hd (fun ac w hfr hst => by
    have hp := hst.pull ha
    subst hs1
    have hrd := hp.tail.get hr
    obtain ⟨a, rfl⟩ := hrd.some_ (by omega)
    have hnews : ∀ j u, [v][j]? = some u → w.cell? (a.add j) = some u := fun j u hj => by
      cases j with
      | zero =>
        have := hrd.cell a rfl 0 [v] rfl 0 v rfl
        simp at hj; subst hj
        simpa using this
      | succ j => simp at hj
    have hfc := run_firstCells_some (P := P) w 1 1 a 1 c2 [v] rfl hnews
    obtain ⟨w', hrs, hs'⟩ := run_storeCells (P := P) [v] cs m 0 w hp (fun _ => by simp; omega) (fun u hu => by simp at hu; subst hu; exact h1)
    rw [Nat.add_zero] at hs'
    have hput : putAll cs m [v] = cs.set m v := by simp [putAll]
    rw [hput] at hs'
    refine ⟨(), w', trivial, ?_, hs'⟩
    have hadd : (⟨g, 0, none⟩ : Addr).add m = ⟨g, m, none⟩ := by rw [add_lit, Nat.zero_add]
    simp [execOp, resolve, invoke, builtin, hfr.eval hs, hfr.eval hx, Builtin.append_, run_underlying hT.und, run_sizeOf hE, Builtin.lenOf, hroom, hfc, hadd, hrs]) (fun _ _ => h)
theorem mkc {x y : Operand} {t T : TypeId} (m : Nat) (hT : SliceTy P t T := by infer_instance) {agg : Bool} {size bytes : Nat} {z : Value} {zl : List Value} (hE : Ty P T agg size bytes z zl := by infer_instance) {kl kc : IntKind} (hx : ev l x = some (.int kl 0) := by exact rfl) (hy : ev l y = some (.int kc (m : Int)) := by exact rfl)
    (hb : bytes * m ≤ 281474976710656 := by omega) (hlm : m ≤ 9223372036854775807 := by omega) (hpos : 0 < size := by omega) (hd : Nat.blt d n = true := by rfl)
    (h : ∀ b, WL F P ops Q rest n D ((d, .slice (some ⟨b, 0, none⟩) 0 m) :: l) w0 (.blk b T (List.replicate m zl).flatten :: L)) : WL F P ops Q (⟨some d, .makeSlice t x y, ty, pos, aft, none⟩ :: rest) n D l w0 L :=
  WL.value (X := Nat) (φ := fun _ => True) (val := fun b => .slice (some ⟨b, 0, none⟩) 0 m) (L' := fun b => .blk b T (List.replicate m zl).flatten :: L) (by simp) hd (fun ac w hfr hst => by
    obtain ⟨i, hi, hi1, hi2, h3⟩ := ty_info hE
    have hzl : zl.length = size := hE.zs
    have hmade : madeCells z.cells (m * i.size) = (List.replicate m zl).flatten.toArray := by
      rw [hi1, hE.zc, ← hzl]
      exact Array.toList_inj.1 (by rw [made_flat zl (by omega) m])
    have hrun := run_make (P := P) (w := w) t T i z hT.und hi h3 kl kc 0 (m : Int) (Int.le_refl _) (by omega) (by rw [hi2, ← Int.natCast_mul]; omega) (by omega)
    rw [Int.toNat_natCast, hmade] at hrun
    refine ⟨w.heap.size, w.alloc (.cells (List.replicate m zl).flatten.toArray T), trivial, ?_, by simpa using hst.alloc T (List.replicate m zl).flatten.toArray⟩
    simp [execOp, hfr.eval hx, hfr.eval hy, hrun]) (fun b _ => h b)
theorem clX {f : FuncId} (hf : FnOk P f) {x : Operand} {fi cap : List Value} {xs : List Operand} {vs : List Value} {ts : Array TypeId} {Z : Type} {Φ : Z → Prop} {val : Z → Value} {post : Z → List Ent}
    (hx : ev l x = some (.func (.func f) fi.toArray cap.toArray)) (hargs : Evs l xs vs) (hc : ∀ w, St w0 w L → Calls P f (fi ++ vs ++ cap).toArray w fun e w' => ∃ z, Φ z ∧ e = .returned (val z) ∧ St w0 w' (post z)) (hd : Nat.blt d n = true)
    (h : ∀ z, Φ z → WL F P ops Q rest n D ((d, val z) :: l) w0 (post z)) :
    WL F P ops Q (⟨some d, .call { callee := .value x, args := xs.toArray, argTypes := ts }, ty, pos, aft, none⟩ :: rest) n D l w0 L :=
  WL.enter (by simp) hd fun a w hfr hst => ⟨run_callF hf hx hargs hfr w, Calls.mono (hc w hst) fun e w' ⟨z, hz, he, hs⟩ => ⟨val z, he, _, hs, h z hz⟩⟩
theorem ctnL {X : Type} {I : X → Prop} {le : X → Env} {Le : X → List Ent} (x : X) (hs : Sub (le x) l) (hL : SubL (Le x) L) (hI : I x) : WQ F P (Exit.then (MI I le Le n D w0) Q) .normal n D l w0 L := ctn x hI hs hL
end rules2
end Go.Proofs.YtmlhnajgiopfgaaGreat

namespace Go.Proofs.YtmlhnajgiopfgaaGreat
open Go Go.RowKit

structure IZD where
  (k : Nat)
theorem C_dr_within (n lo hi : Int) (w : World) : C0 Tryz.prog 87 [.int .i64 n, .int .i64 lo, .int .i64 hi] w (.bool (win n lo hi)) := by
  refine ⟨en Tryz.func87 Tryz.ntmps87 (St.init w) (h := fun F => ?_)⟩
  refine sq (h := ?_)
  refine rg (h := ?_)
  refine wy asg ?_
  refine nl (h := ?_)
  refine q_seq (h := ?_)
  refine sq (h := ?_)
  refine rg (h := ?_)
  refine wy mv ?_
  refine wy mv ?_
  refine wy leq ?_
  refine wy mv ?_
  apply brAnd 4 10 14 (by exact rfl)
  · intro hb0
    refine un (h := ?_)
    refine wy mv ?_
    refine un (h := ?_)
    refine wy mv ?_
    refine un (h := ?_)
    refine wy leq ?_
    refine wy (by first | exact pkT | exact pkF) ?_
    exact mg (by repeat (first | exact trivial | refine ⟨rfl, ?_⟩ | refine ⟨by rw [hb0]; rfl, ?_⟩)) slz_
  · intro hb0
    repeat (first | refine un (h := ?_) | refine sk (h := ?_) | refine WL.y (hy := pkF) (h := ?_) | refine WL.y (hy := pkT) (h := ?_))
    exact mg (by repeat (first | exact trivial | refine ⟨rfl, ?_⟩ | refine ⟨by rw [hb0]; rfl, ?_⟩)) slz_
  refine wy asg ?_
  refine nl (h := ?_)
  refine q_seq (h := ?_)
  refine rtn (h := ?_)
  refine q_ret (hR := ?_)
  exact fun w hS => ⟨rfl, hS.sub slz_⟩
theorem C_IndexPs {A : Option Addr} {n c : Nat} {es : List (List Value)} {g : FuncId} (hg : FnOk Tryz.prog g) (fi cap : List Value) (Lp : List Ent) (p : Nat → Bool) (hn : n ≤ 9223372036854775807)
    (hp : ∀ k cs, es[k]? = some cs → Tr Tryz.prog g (fi ++ [.agg cs.toArray] ++ cap) (.ro A 3 n es :: Lp) (fun _ : Unit => True) (fun _ => .bool (p k)) (fun _ => .ro A 3 n es :: Lp)) :
    Tr Tryz.prog 101 [.slice A n c, .func (.func g) fi.toArray cap.toArray] (.ro A 3 n es :: Lp) (Fst p n) (fun j => .int .i64 j) (fun _ => .ro A 3 n es :: Lp) := by
  refine ⟨fun w0 w R hst => ?_⟩
  have hlen : es.length = n := (hst.ok (.ro A 3 n es) (by simp)).len
  refine en Tryz.func101 Tryz.ntmps101 hst (h := fun F => ?_)
  refine sq (h := ?_)
  refine rg (h := ?_)
  refine wy asg ?_
  refine nl (h := ?_)
  refine q_seq (h := ?_)
  refine sq (h := ?_)
  refine sq (h := ?_)
  refine rg (h := ?_)
  refine wy mv ?_
  refine wy lenS ?_
  refine wy mv ?_
  refine nl (h := ?_)
  refine q_seq (h := ?_)
  refine bk (h := ?_)
  refine lp (X := Nat) (I := fun k => k ≤ n ∧ ∀ i, i < k → p i = false) (le := fun k => [(0, .slice A n c), (1, .func (.func g) fi.toArray cap.toArray), (7, .int .i64 n), (8, .int .i64 k)]) (Le := fun _ => .ro A 3 n es :: (Lp ++ R)) (μ := fun k => n - k) 0 ⟨by omega, fun i hi => by omega⟩ sbz_ (SubL.refl _) (fun k hk => ?_)
  obtain ⟨hk, hall⟩ := hk
  refine sq (h := ?_)
  refine rg (h := ?_)
  refine wy lss ?_
  refine nl (h := ?_)
  refine q_seq (h := ?_)
  refine sq (h := ?_)
  refine cd (by exact rfl) (fun h0 => ?_) (fun h0 => ?_)
  · skip
    have hkn : k < n := by simp only [decide_eq_true_eq] at h0; omega
    have hes : es[k]? = some es[k] := List.getElem?_eq_getElem (by omega)
    refine skp (h := ?_)
    refine q_seq (h := ?_)
    refine sq (h := ?_)
    refine bk (h := ?_)
    refine sq (h := ?_)
    refine rg (h := ?_)
    refine wy mv ?_
    refine wy asg ?_
    refine nl (h := ?_)
    refine q_seq (h := ?_)
    refine sq (h := ?_)
    refine rg (h := ?_)
    refine wy mv ?_
    refine wy mv ?_
    refine wy mv ?_
    refine wy ix ?_
    refine wy (ldEW (k := k) (cs := es[k]) (hk := hes)) ?_
    refine clfT hg (fi := fi) (cap := cap) (by exact rfl) (by repeat (first | exact Evs.nil | (apply Evs.cons; exact rfl))) (hp k _ hes) rfl (Spl.cons .here (Spl.app _ _)) (h := fun _ _ => ?_)
    refine nl (h := ?_)
    refine q_seq (h := ?_)
    refine cd (by exact rfl) (fun h1 => ?_) (fun h1 => ?_)
    · skip
      refine sq (h := ?_)
      refine rg (h := ?_)
      refine wy mv ?_
      refine wy asg ?_
      refine nl (h := ?_)
      refine q_seq (h := ?_)
      refine rtn (h := ?_)
      refine q_blk_ret (h := ?_)
      refine q_then_ret (h := ?_)
      refine q_then_ret (h := ?_)
      refine q_blk_ret (h := ?_)
      refine q_then_ret (h := ?_)
      refine q_ret (hR := ?_)
      exact fun w hS => ⟨_, .inl ⟨k, hkn, rfl, by assumption, hall⟩, rfl, hS⟩
    · skip
      refine skp (h := ?_)
      refine q_blk_norm (h := ?_)
      refine q_seq (h := ?_)
      refine rg (h := ?_)
      refine wy addI ?_
      refine wy mv ?_
      refine nl (h := ?_)
      refine rn (k + 1) ⟨by omega, fun i hi => ?_⟩ (by omega) sbz_ (SubL.refl _)
      rcases Nat.lt_succ_iff_lt_or_eq.1 hi with h | rfl
      · exact hall i h
      · assumption
  · skip
    have hkn : k = n := by simp only [decide_eq_false_iff_not] at h0; omega
    refine et (h := ?_)
    refine q_then_exit (h := ?_)
    refine q_then_exit (h := ?_)
    refine q_blk_hit (h := ?_)
    refine q_seq (h := ?_)
    refine sq (h := ?_)
    refine rg (h := ?_)
    refine wy asg ?_
    refine nl (h := ?_)
    refine q_seq (h := ?_)
    refine rtn (h := ?_)
    refine q_ret (hR := ?_)
    exact fun w hS => ⟨_, .inr ⟨rfl, by subst hkn; exact hall⟩, rfl, hS⟩
theorem C_ContainsPs {A : Option Addr} {n c : Nat} {es : List (List Value)} {g : FuncId} (hg : FnOk Tryz.prog g) (fi cap : List Value) (Lp : List Ent) (p : Nat → Bool) (hn : n ≤ 9223372036854775807)
    (hp : ∀ k cs, es[k]? = some cs → Tr Tryz.prog g (fi ++ [.agg cs.toArray] ++ cap) (.ro A 3 n es :: Lp) (fun _ : Unit => True) (fun _ => .bool (p k)) (fun _ => .ro A 3 n es :: Lp)) :
    Tr Tryz.prog 88 [.slice A n c, .func (.func g) fi.toArray cap.toArray] (.ro A 3 n es :: Lp) (fun _ : Unit => True) (fun _ => .bool ((List.range n).any p)) (fun _ => .ro A 3 n es :: Lp) := by
  refine ⟨fun w0 w R hst => ?_⟩
  refine en Tryz.func88 Tryz.ntmps88 hst (h := fun F => ?_)
  refine sq (h := ?_)
  refine rg (h := ?_)
  refine wy asg ?_
  refine nl (h := ?_)
  refine q_seq (h := ?_)
  refine sq (h := ?_)
  refine rg (h := ?_)
  refine wy mv ?_
  refine wy mv ?_
  refine clT (hc := C_IndexPs hg fi cap Lp p hn hp) (hs := Spl.cons .here (Spl.app _ _)) (h := fun x0 hx0 => ?_)
  refine wy geq ?_
  refine wy asg ?_
  refine nl (h := ?_)
  refine q_seq (h := ?_)
  refine rtn (h := ?_)
  refine q_ret (hR := ?_)
  exact fun w hS => ⟨(), trivial, by simp only [resV, hx0.any], hS⟩
theorem T_IndexInt {E : Ent} {A : Option Addr} {n c : Nat} {ws : List Int} (hE : ∀ w, E.ok w → Rd w A 1 n (enI ws)) {g : FuncId} (hg : FnOk Tryz.prog g) (fi cap : List Value) (Lp : List Ent) (p : Int → Bool) (hn : n ≤ 9223372036854775807) (hlen : ws.length = n)
    (hp : ∀ x ∈ ws, Tr Tryz.prog g (fi ++ [.int .i64 x] ++ cap) Lp (fun _ : Unit => True) (fun _ => .bool (p x)) (fun _ => Lp)) :
    Tr Tryz.prog 85 [.slice A n c, .func (.func g) fi.toArray cap.toArray] (E :: Lp) (Fst (pAt ws p) n) (fun j => .int .i64 j) (fun _ => E :: Lp) := by
  refine ⟨fun w0 w R hst => ?_⟩
  refine en Tryz.func85 Tryz.ntmps85 hst (h := fun F => ?_)
  refine sq (h := ?_)
  refine rg (h := ?_)
  refine wy asg ?_
  refine nl (h := ?_)
  refine q_seq (h := ?_)
  refine sq (h := ?_)
  refine sq (h := ?_)
  refine rg (h := ?_)
  refine wy mv ?_
  refine wy lenS ?_
  refine wy mv ?_
  refine nl (h := ?_)
  refine q_seq (h := ?_)
  refine bk (h := ?_)
  refine lp (X := Nat) (I := fun k => k ≤ n ∧ ∀ i, i < k → pAt ws p i = false) (le := fun k => [(0, .slice A n c), (1, .func (.func g) fi.toArray cap.toArray), (7, .int .i64 n), (8, .int .i64 k)]) (Le := fun _ => E :: (Lp ++ R)) (μ := fun k => n - k) 0 ⟨by omega, fun i hi => by omega⟩ sbz_ (SubL.refl _) (fun k hk => ?_)
  obtain ⟨hk, hall⟩ := hk
  refine sq (h := ?_)
  refine rg (h := ?_)
  refine wy lss ?_
  refine nl (h := ?_)
  refine q_seq (h := ?_)
  refine sq (h := ?_)
  refine cd (by exact rfl) (fun h0 => ?_) (fun h0 => ?_)
  · skip
    have hkn : k < n := by simp only [decide_eq_true_eq] at h0; omega
    obtain ⟨x, hx⟩ : ∃ x, ws[k]? = some x := ⟨_, List.getElem?_eq_getElem (by omega)⟩
    have hxe := enI_at hx
    refine skp (h := ?_)
    refine q_seq (h := ?_)
    refine sq (h := ?_)
    refine bk (h := ?_)
    refine sq (h := ?_)
    refine rg (h := ?_)
    refine wy mv ?_
    refine wy asg ?_
    refine nl (h := ?_)
    refine q_seq (h := ?_)
    refine sq (h := ?_)
    refine rg (h := ?_)
    refine wy mv ?_
    refine wy mv ?_
    refine wy mv ?_
    refine wy (ix (A := A) (m := n) (hr := Rds.any hE)) ?_
    refine wy (ldE (A := A) (hr := Rds.any hE) (hk := hxe)) ?_
    refine clfT hg (fi := fi) (cap := cap) (by exact rfl) (by repeat (first | exact Evs.nil | (apply Evs.cons; exact rfl))) (hp x (List.mem_of_getElem? hx)) rfl (Spl.there (Spl.app _ _)) (h := fun _ _ => ?_)
    refine WL.subL (SubL.cons (At.app _ _) (SubL.refl _)) ?_
    refine nl (h := ?_)
    refine q_seq (h := ?_)
    refine cd (by exact rfl) (fun h1 => ?_) (fun h1 => ?_)
    · skip
      refine sq (h := ?_)
      refine rg (h := ?_)
      refine wy mv ?_
      refine wy asg ?_
      refine nl (h := ?_)
      refine q_seq (h := ?_)
      refine rtn (h := ?_)
      refine q_blk_ret (h := ?_)
      refine q_then_ret (h := ?_)
      refine q_then_ret (h := ?_)
      refine q_blk_ret (h := ?_)
      refine q_then_ret (h := ?_)
      refine q_ret (hR := ?_)
      exact fun w hS => ⟨_, .inl ⟨k, hkn, rfl, by rw [pAt_eq hx]; assumption, hall⟩, rfl, hS⟩
    · skip
      refine skp (h := ?_)
      refine q_blk_norm (h := ?_)
      refine q_seq (h := ?_)
      refine rg (h := ?_)
      refine wy addI ?_
      refine wy mv ?_
      refine nl (h := ?_)
      refine rn (k + 1) ⟨by omega, fun i hi => ?_⟩ (by omega) sbz_ (SubL.refl _)
      rcases Nat.lt_succ_iff_lt_or_eq.1 hi with h | rfl
      · exact hall i h
      · rw [pAt_eq hx]; assumption
  · skip
    have hkn : k = n := by simp only [decide_eq_false_iff_not] at h0; omega
    refine et (h := ?_)
    refine q_then_exit (h := ?_)
    refine q_then_exit (h := ?_)
    refine q_blk_hit (h := ?_)
    refine q_seq (h := ?_)
    refine sq (h := ?_)
    refine rg (h := ?_)
    refine wy asg ?_
    refine nl (h := ?_)
    refine q_seq (h := ?_)
    refine rtn (h := ?_)
    refine q_ret (hR := ?_)
    exact fun w hS => ⟨_, .inr ⟨rfl, by subst hkn; exact hall⟩, rfl, hS⟩

theorem T_ContainsInt {E : Ent} {A : Option Addr} {n c : Nat} {ws : List Int} (hE : ∀ w, E.ok w → Rd w A 1 n (enI ws)) {g : FuncId} (hg : FnOk Tryz.prog g) (fi cap : List Value) (Lp : List Ent) (p : Int → Bool) (hn : n ≤ 9223372036854775807) (hlen : ws.length = n)
    (hp : ∀ x ∈ ws, Tr Tryz.prog g (fi ++ [.int .i64 x] ++ cap) Lp (fun _ : Unit => True) (fun _ => .bool (p x)) (fun _ => Lp)) :
    Tr Tryz.prog 66 [.slice A n c, .func (.func g) fi.toArray cap.toArray] (E :: Lp) (fun _ : Unit => True) (fun _ => .bool ((List.range n).any (pAt ws p))) (fun _ => E :: Lp) := by
  refine ⟨fun w0 w R hst => ?_⟩
  refine en Tryz.func66 Tryz.ntmps66 hst (h := fun F => ?_)
  refine sq (h := ?_)
  refine rg (h := ?_)
  refine wy asg ?_
  refine nl (h := ?_)
  refine q_seq (h := ?_)
  refine sq (h := ?_)
  refine rg (h := ?_)
  refine wy mv ?_
  refine wy mv ?_
  refine clT (hc := T_IndexInt (c := c) hE hg fi cap Lp p hn hlen hp) (hs := Spl.cons .here (Spl.app _ _)) (h := fun x0 hx0 => ?_)
  refine wy geq ?_
  refine wy asg ?_
  refine nl (h := ?_)
  refine q_seq (h := ?_)
  refine rtn (h := ?_)
  refine q_ret (hR := ?_)
  exact fun w hS => ⟨(), trivial, by simp only [resV, hx0.any], hS⟩
theorem C_slices_Index (xs : List Int) (y : Int) (A : Option Addr) (n c : Nat) (w : World) (h : Rd w A 1 n (enI xs)) (hn : n ≤ 9223372036854775807) :
    CR Tryz.prog 76 [.slice A n c, .int .i64 y] w (Fst (pAt xs fun x => decide (y = x)) n) (fun j => .int .i64 j) (fun _ => []) := by
  have hlen : xs.length = n := by have := h.len; rwa [enI_len] at this
  refine ⟨en Tryz.func76 Tryz.ntmps76 ((St.init w).share (e := .ro A 1 n (enI xs)) h rfl rfl rfl) (h := fun F => ?_)⟩
  refine sq (h := ?_)
  refine rg (h := ?_)
  refine wy asg ?_
  refine nl (h := ?_)
  refine q_seq (h := ?_)
  refine sq (h := ?_)
  refine sq (h := ?_)
  refine rg (h := ?_)
  refine wy mv ?_
  refine wy lenS ?_
  refine wy mv ?_
  refine nl (h := ?_)
  refine q_seq (h := ?_)
  refine bk (h := ?_)
  refine lp (X := Nat) (I := fun k => k ≤ n ∧ ∀ i, i < k → pAt xs (fun x => decide (y = x)) i = false) (le := fun k => [(0, .slice A n c), (1, .int .i64 y), (7, .int .i64 n), (8, .int .i64 k)]) (Le := fun _ => [.ro A 1 n (enI xs)]) (μ := fun k => n - k) 0 ⟨by omega, fun i hi => by omega⟩ sbz_ slz_ (fun k hk => ?_)
  obtain ⟨hk, hall⟩ := hk
  refine sq (h := ?_)
  refine rg (h := ?_)
  refine wy lss ?_
  refine nl (h := ?_)
  refine q_seq (h := ?_)
  refine sq (h := ?_)
  refine cd (by exact rfl) (fun h0 => ?_) (fun h0 => ?_)
  · skip
    have hkn : k < n := by simp only [decide_eq_true_eq] at h0; omega
    obtain ⟨x, hx⟩ : ∃ x, xs[k]? = some x := ⟨_, List.getElem?_eq_getElem (by omega)⟩
    have hxe := enI_at hx
    refine skp (h := ?_)
    refine q_seq (h := ?_)
    refine sq (h := ?_)
    refine bk (h := ?_)
    refine sq (h := ?_)
    refine rg (h := ?_)
    refine wy mv ?_
    refine wy asg ?_
    refine nl (h := ?_)
    refine q_seq (h := ?_)
    refine sq (h := ?_)
    refine rg (h := ?_)
    refine wy mv ?_
    refine wy mv ?_
    refine wy mv ?_
    refine wy ix ?_
    refine wy (ldE (hk := hxe)) ?_
    refine wy eql ?_
    refine nl (h := ?_)
    refine q_seq (h := ?_)
    refine cd (by exact rfl) (fun h1 => ?_) (fun h1 => ?_)
    · skip
      have hpk : pAt xs (fun x => decide (y = x)) k = true := by rw [pAt_eq hx]; exact h1
      refine sq (h := ?_)
      refine rg (h := ?_)
      refine wy mv ?_
      refine wy asg ?_
      refine nl (h := ?_)
      refine q_seq (h := ?_)
      refine rtn (h := ?_)
      refine q_blk_ret (h := ?_)
      refine q_then_ret (h := ?_)
      refine q_then_ret (h := ?_)
      refine q_blk_ret (h := ?_)
      refine q_then_ret (h := ?_)
      refine q_ret (hR := ?_)
      exact fun w hS => ⟨_, .inl ⟨k, hkn, rfl, hpk, hall⟩, rfl, hS.sub slz_⟩
    · skip
      have hpk : pAt xs (fun x => decide (y = x)) k = false := by rw [pAt_eq hx]; exact h1
      refine skp (h := ?_)
      refine q_blk_norm (h := ?_)
      refine q_seq (h := ?_)
      refine rg (h := ?_)
      refine wy addI ?_
      refine wy mv ?_
      refine nl (h := ?_)
      refine rn (k + 1) ⟨by omega, fun i hi => ?_⟩ (by omega) sbz_ slz_
      rcases Nat.lt_succ_iff_lt_or_eq.1 hi with h | rfl
      · exact hall i h
      · exact hpk
  · skip
    have hkn : k = n := by simp only [decide_eq_false_iff_not] at h0; omega
    refine et (h := ?_)
    refine q_then_exit (h := ?_)
    refine q_then_exit (h := ?_)
    refine q_blk_hit (h := ?_)
    refine q_seq (h := ?_)
    refine sq (h := ?_)
    refine rg (h := ?_)
    refine wy asg ?_
    refine nl (h := ?_)
    refine q_seq (h := ?_)
    refine rtn (h := ?_)
    refine q_ret (hR := ?_)
    exact fun w hS => ⟨_, .inr ⟨rfl, by subst hkn; exact hall⟩, rfl, hS.sub slz_⟩

theorem C_slices_Contains (xs : List Int) (y : Int) (A : Option Addr) (n c : Nat) (w : World) (h : Rd w A 1 n (enI xs)) (hn : n ≤ 9223372036854775807) :
    C0 Tryz.prog 52 [.slice A n c, .int .i64 y] w (.bool (xs.any fun x => decide (y = x))) := by
  have hlen : xs.length = n := by have := h.len; rwa [enI_len] at this
  refine ⟨en Tryz.func52 Tryz.ntmps52 ((St.init w).share (e := .ro A 1 n (enI xs)) h rfl rfl rfl) (h := fun F => ?_)⟩
  refine sq (h := ?_)
  refine rg (h := ?_)
  refine wy asg ?_
  refine nl (h := ?_)
  refine q_seq (h := ?_)
  refine sq (h := ?_)
  refine rg (h := ?_)
  refine wy mv ?_
  refine wy mv ?_
  refine cl (hc := fun w hS => C_slices_Index _ _ _ _ _ w (hS.get rdz_) (by omega)) (h := fun x0 hx0 => ?_)
  refine wy geq ?_
  refine wy asg ?_
  refine nl (h := ?_)
  refine q_seq (h := ?_)
  refine rtn (h := ?_)
  refine q_ret (hR := ?_)
  exact fun w hS => ⟨by rw [hx0.any, ← hlen, pAt_any]; rfl, hS.sub slz_⟩

theorem T_Check1 (x : Ps) (b : Nat) (y : Ps) : Tr Tryz.prog 89 [y.val, .pointer (some ⟨b, 0, none⟩)] [.blk b 109 x.enc] (fun _ : Unit => True) (fun _ => .bool (decide (y.player = x.player))) (fun _ => [.blk b 109 x.enc]) := by
  refine ⟨fun w0 w R hst => ?_⟩
  refine en Tryz.func89 Tryz.ntmps89 hst (h := fun F => ?_)
  refine sq (h := ?_)
  refine rg (h := ?_)
  refine bxA (h := fun b0 => ?_)
  refine wy asg ?_
  refine nl (h := ?_)
  refine q_seq (h := ?_)
  refine sq (h := ?_)
  refine rg (h := ?_)
  refine wy (by first | exact fa | exact faE) ?_
  refine wy (by first | exact ld | exact ldE) ?_
  refine wy (by first | exact fa | exact faE) ?_
  refine wy (by first | exact ld | exact ldE) ?_
  refine wy eql ?_
  refine wy asg ?_
  refine nl (h := ?_)
  refine q_seq (h := ?_)
  refine rtn (h := ?_)
  refine q_ret (hR := ?_)
  exact fun w hS => ⟨(), trivial, rfl, hS.sub slz_⟩
theorem C_Check2 (n : Int) (w : World) : C0 Tryz.prog 90 [.int .i64 n] w (.bool (!lotOk n)) := by
  refine ⟨en Tryz.func90 Tryz.ntmps90 (St.init w) (h := fun F => ?_)⟩
  refine sq (h := ?_)
  refine rg (h := ?_)
  refine wy asg ?_
  refine nl (h := ?_)
  refine q_seq (h := ?_)
  refine sq (h := ?_)
  refine rg (h := ?_)
  refine wy mv ?_
  refine cl0 (hc := fun w hS => C_dr_within _ _ _ w) (h := ?_)
  refine wy notB ?_
  refine wy asg ?_
  refine nl (h := ?_)
  refine q_seq (h := ?_)
  refine rtn (h := ?_)
  refine q_ret (hR := ?_)
  exact fun w hS => ⟨rfl, hS.sub slz_⟩
theorem head_not (p : Pl) : ((!decide (p.size = 4) && !decide (p.size = 8)) || !win p.ps.length 2 p.size || decide (p.size / 2 < p.size - p.ps.length) || !win p.seeds 0 (min (p.size / 2) p.ps.length) || decide ((10 : Int) < p.lots.length)) = !headOk p := by
  unfold headOk
  simp only [Bool.not_and, Bool.not_or]
  rw [← decide_not, ← decide_not (p := ((p.lots.length : Int) ≤ 10)), ← decide_not (p := p.size - _ ≤ _)]
  congr 1
  · congr 1
    · congr 1
      exact decide_eq_decide.2 (by omega)
  · exact decide_eq_decide.2 (by omega)
theorem ps_not (seeds : Int) (i : Nat) (x : Ps) : (!win x.player 0 999 || !win x.nation 0 9 || (decide ((i : Int) < seeds) && x.qual)) = !psOk seeds i x := by
  unfold psOk
  cases win x.player 0 999 <;> cases win x.nation 0 9 <;> cases decide ((i : Int) < seeds) <;> cases x.qual <;> rfl
theorem chk_badD {p : Pl} (h : pOk p = false) : chkP p = 60 := by rw [chkP, h]; rfl
theorem lots_any (xs : List Int) : (List.range xs.length).any (pAt xs fun n => !lotOk n) = !xs.all lotOk := by
  rw [pAt_any, List.not_all_eq_any_not]
abbrev plL (p : Pl) (a : PA) (b : Nat) : List Ent := [.blk b 62 (p.cells a), .ro a.pA 3 p.ps.length (encPs p.ps), .ro a.lA 1 p.lots.length (enI p.lots)]
set_option maxHeartbeats 2000000 in
theorem C_dr_Check (p : Pl) (a : PA) (hz : -9223372036854775808 ≤ p.size ∧ p.size ≤ 9223372036854775807) (w : World) (h : PRd w p a) : C0 Tryz.prog 70 [p.val a] w (.int .i64 (chkP p)) := by
  obtain ⟨hp, hl, hpn, hln, hpc⟩ := h
  refine ⟨en Tryz.func70 Tryz.ntmps70 (((St.init w).share (e := .ro a.pA 3 p.ps.length (encPs p.ps)) hp rfl rfl rfl).share (e := .ro a.lA 1 p.lots.length (enI p.lots)) hl rfl rfl rfl) (h := fun F => ?_)⟩
  refine sq (h := ?_)
  refine rg (h := ?_)
  refine bxA (h := fun b0 => ?_)
  refine wy asg ?_
  refine nl (h := ?_)
  refine q_seq (h := ?_)
  refine sq (h := ?_)
  refine rg (h := ?_)
  refine wy (by first | exact fa | exact faE) ?_
  refine wy (by first | exact ld | exact ldE) ?_
  refine wy lenS ?_
  refine wy asg ?_
  refine nl (h := ?_)
  refine q_seq (h := ?_)
  refine sq (h := ?_)
  refine sq (h := ?_)
  refine rg (h := ?_)
  refine wy (by first | exact fa | exact faE) ?_
  refine wy (by first | exact ld | exact ldE) ?_
  refine wy neq ?_
  refine wy mv ?_
  apply brAnd 4 13 17 (by exact rfl)
  · intro hb0
    refine un (h := ?_)
    refine wy (by first | exact fa | exact faE) ?_
    refine un (h := ?_)
    refine wy (by first | exact ld | exact ldE) ?_
    refine un (h := ?_)
    refine wy neq ?_
    refine wy (by first | exact pkT | exact pkF) ?_
    exact mg (by repeat (first | exact trivial | refine ⟨rfl, ?_⟩ | refine ⟨by rw [hb0]; rfl, ?_⟩)) slz_
  · intro hb0
    repeat (first | refine un (h := ?_) | refine sk (h := ?_) | refine WL.y (hy := pkF) (h := ?_) | refine WL.y (hy := pkT) (h := ?_))
    exact mg (by repeat (first | exact trivial | refine ⟨rfl, ?_⟩ | refine ⟨by rw [hb0]; rfl, ?_⟩)) slz_
  refine wy mv ?_
  apply brOr 6 18 24 (by exact rfl)
  · intro hb1
    refine un (h := ?_)
    refine wy mv ?_
    refine un (h := ?_)
    refine wy (by first | exact fa | exact faE) ?_
    refine un (h := ?_)
    refine wy (by first | exact ld | exact ldE) ?_
    refine un (h := ?_)
    refine cl0 (hc := fun w hS => C_dr_within _ _ _ w) (h := ?_)
    refine un (h := ?_)
    refine wy notB ?_
    refine wy (by first | exact pkT | exact pkF) ?_
    exact mg (by repeat (first | exact trivial | refine ⟨rfl, ?_⟩ | refine ⟨by rw [hb1]; rfl, ?_⟩)) slz_
  · intro hb1
    repeat (first | refine un (h := ?_) | refine sk (h := ?_) | refine WL.y (hy := pkF) (h := ?_) | refine WL.y (hy := pkT) (h := ?_))
    exact mg (by repeat (first | exact trivial | refine ⟨rfl, ?_⟩ | refine ⟨by rw [hb1]; rfl, ?_⟩)) slz_
  refine wy mv ?_
  apply brOr 9 25 34 (by exact rfl)
  · intro hb2
    have hw : win p.ps.length 2 p.size = true := by simp only [Bool.or_eq_false_iff, Bool.not_eq_false'] at hb2; exact hb2.2
    have hws := win_iff.1 hw
    refine un (h := ?_)
    refine wy (by first | exact fa | exact faE) ?_
    refine un (h := ?_)
    refine wy (by first | exact ld | exact ldE) ?_
    refine un (h := ?_)
    refine wy mv ?_
    refine un (h := ?_)
    refine wy subI ?_
    refine un (h := ?_)
    refine wy (by first | exact fa | exact faE) ?_
    refine un (h := ?_)
    refine wy (by first | exact ld | exact ldE) ?_
    refine un (h := ?_)
    refine wy quoI ?_
    refine un (h := ?_)
    refine wy gtr ?_
    refine wy (by first | exact pkT | exact pkF) ?_
    exact mg (by repeat (first | exact trivial | refine ⟨rfl, ?_⟩ | refine ⟨by rw [hb2]; rfl, ?_⟩)) slz_
  · intro hb2
    repeat (first | refine un (h := ?_) | refine sk (h := ?_) | refine WL.y (hy := pkF) (h := ?_) | refine WL.y (hy := pkT) (h := ?_))
    exact mg (by repeat (first | exact trivial | refine ⟨rfl, ?_⟩ | refine ⟨by rw [hb2]; rfl, ?_⟩)) slz_
  refine wy mv ?_
  apply brOr 10 35 45 (by exact rfl)
  · intro hb3
    have hw : win p.ps.length 2 p.size = true := by simp only [Bool.or_eq_false_iff, Bool.not_eq_false'] at hb3; exact hb3.1.2
    have hws := win_iff.1 hw
    refine un (h := ?_)
    refine wy (by first | exact fa | exact faE) ?_
    refine un (h := ?_)
    refine wy (by first | exact ld | exact ldE) ?_
    refine un (h := ?_)
    refine wy (by first | exact fa | exact faE) ?_
    refine un (h := ?_)
    refine wy (by first | exact ld | exact ldE) ?_
    refine un (h := ?_)
    refine wy quoI ?_
    refine un (h := ?_)
    refine wy mv ?_
    refine un (h := ?_)
    refine wy minI ?_
    refine un (h := ?_)
    refine cl0 (hc := fun w hS => C_dr_within _ _ _ w) (h := ?_)
    refine un (h := ?_)
    refine wy notB ?_
    refine wy (by first | exact pkT | exact pkF) ?_
    exact mg (by repeat (first | exact trivial | refine ⟨rfl, ?_⟩ | refine ⟨by rw [hb3]; rfl, ?_⟩)) slz_
  · intro hb3
    repeat (first | refine un (h := ?_) | refine sk (h := ?_) | refine WL.y (hy := pkF) (h := ?_) | refine WL.y (hy := pkT) (h := ?_))
    exact mg (by repeat (first | exact trivial | refine ⟨rfl, ?_⟩ | refine ⟨by rw [hb3]; rfl, ?_⟩)) slz_
  refine wy mv ?_
  apply brOr 5 46 51 (by exact rfl)
  · intro hb4
    refine un (h := ?_)
    refine wy (by first | exact fa | exact faE) ?_
    refine un (h := ?_)
    refine wy (by first | exact ld | exact ldE) ?_
    refine un (h := ?_)
    refine wy lenS ?_
    refine un (h := ?_)
    refine wy gtr ?_
    refine wy (by first | exact pkT | exact pkF) ?_
    exact mg (by repeat (first | exact trivial | refine ⟨rfl, ?_⟩ | refine ⟨by rw [hb4]; rfl, ?_⟩)) slz_
  · intro hb4
    repeat (first | refine un (h := ?_) | refine sk (h := ?_) | refine WL.y (hy := pkF) (h := ?_) | refine WL.y (hy := pkT) (h := ?_))
    exact mg (by repeat (first | exact trivial | refine ⟨rfl, ?_⟩ | refine ⟨by rw [hb4]; rfl, ?_⟩)) slz_
  refine nl (h := ?_)
  refine q_seq (h := ?_)
  refine cd (by exact rfl) (fun h5 => ?_) (fun h5 => ?_)
  · skip
    have hb : headOk p = false := by rw [head_not] at h5; simpa using h5
    have hE := chk_badD (p := p) (by rw [pOk, hb]; rfl)
    refine sq (h := ?_)
    refine rg (h := ?_)
    refine wy asg ?_
    refine nl (h := ?_)
    refine q_seq (h := ?_)
    refine rtn (h := ?_)
    refine q_then_ret (h := ?_)
    refine q_ret (hR := ?_)
    rw [hE]
    exact fun w hS => ⟨rfl, hS.sub slz_⟩
  · skip
    have hb : headOk p = true := by rw [head_not] at h5; simpa using h5
    refine skp (h := ?_)
    refine q_seq (h := ?_)
    refine sq (h := ?_)
    refine sq (h := ?_)
    refine rg (h := ?_)
    refine wy (by first | exact fa | exact faE) ?_
    refine wy (by first | exact ld | exact ldE) ?_
    refine wy lenS ?_
    refine wy mv ?_
    refine nl (h := ?_)
    refine q_seq (h := ?_)
    refine bk (h := ?_)
    refine lp (X := IZD) (I := fun z => z.k ≤ p.ps.length ∧ pssOk p.seeds p.ps z.k = true) (le := fun z => [(1, .pointer (some ⟨b0, 0, none⟩)), (53, .slice a.pA p.ps.length a.pc), (54, .int .i64 p.ps.length), (55, .int .i64 z.k)]) (Le := fun _ => plL p a b0) (μ := fun z => p.ps.length - z.k) ⟨0⟩ ⟨Nat.zero_le _, rfl⟩ sbz_ slz_ (fun z hz => ?_)
    obtain ⟨hz1, hz2⟩ := hz
    refine sq (h := ?_)
    refine rg (h := ?_)
    refine wy lss ?_
    refine nl (h := ?_)
    refine q_seq (h := ?_)
    refine sq (h := ?_)
    refine cd (by exact rfl) (fun h6 => ?_) (fun h6 => ?_)
    · skip
      have hkn : z.k < p.ps.length := by simp only [decide_eq_true_eq] at h6; omega
      obtain ⟨x, hx1⟩ : ∃ x, p.ps[z.k]? = some x := ⟨_, List.getElem?_eq_getElem hkn⟩
      have hxe := encPs_at hx1
      have hst := pssOk_succ (seeds := p.seeds) hx1
      have htk : List.take z.k (encPs p.ps) = encPs (p.ps.take z.k) := by unfold encPs; rw [List.map_take]
      have htl : (p.ps.take z.k).length = z.k := by rw [List.length_take]; omega
      refine skp (h := ?_)
      refine q_seq (h := ?_)
      refine sq (h := ?_)
      refine bk (h := ?_)
      refine sq (h := ?_)
      refine rg (h := ?_)
      refine wy mv ?_
      refine wy (ix (A := a.pA) (m := p.ps.length)) ?_
      refine wy (ldEA (A := a.pA) (hk := hxe)) ?_
      refine al (h := fun b1 => ?_)
      refine wy asg ?_
      first | refine stA (h := ?_) | refine stEA (h := ?_)
      refine nl (h := ?_)
      refine q_seq (h := ?_)
      refine sq (h := ?_)
      refine WC.pre (A := a.pA) (m := p.ps.length) atz_ z.k (by omega) ?_
      rw [htk]
      refine rg (h := ?_)
      refine wy (by first | exact fa | exact faE) ?_
      refine wy (by first | exact ld | exact ldE) ?_
      refine wy mv ?_
      refine wy (slP (A := a.pA) (m := p.ps.length) (cap := a.pc) (hi' := z.k)) ?_
      refine wy mkf ?_
      refine clT (hc := C_ContainsPs (A := a.pA) (c := a.pc) (n := z.k) (es := encPs (p.ps.take z.k)) (g := 89) inferInstance [] [.pointer (some ⟨b1, 0, none⟩)] [.blk b1 109 x.enc] (pAt (p.ps.take z.k) fun y => decide (y.player = x.player)) (by omega) (fun k cs hk => by
        obtain ⟨y, hyk, rfl⟩ := enc_at hk
        rw [pAt_eq hyk]
        exact Tr.frame1 (T_Check1 x b1 y))) (hs := (by repeat (first | exact Spl.nil | (apply Spl.cons; (repeat (first | exact At.here | apply At.there)))))) (h := fun _ _ => ?_)
      have hany : (List.range z.k).any (pAt (p.ps.take z.k) fun y => decide (y.player = x.player)) = dupP p.ps z.k x.player := by have e := pAt_any (p.ps.take z.k) (fun y => decide (y.player = x.player)); rw [htl] at e; exact e
      refine wy asg ?_
      refine nl (h := ?_)
      refine q_seq (h := ?_)
      refine sq (h := ?_)
      refine rg (h := ?_)
      refine wy mv ?_
      refine wy mv ?_
      apply brOr 5 67 72 (by exact rfl)
      · intro hb7
        refine un (h := ?_)
        refine wy (by first | exact fa | exact faE) ?_
        refine un (h := ?_)
        refine wy (by first | exact ld | exact ldE) ?_
        refine un (h := ?_)
        refine cl0 (hc := fun w hS => C_dr_within _ _ _ w) (h := ?_)
        refine un (h := ?_)
        refine wy notB ?_
        refine wy (by first | exact pkT | exact pkF) ?_
        exact mg (by repeat (first | exact trivial | refine ⟨rfl, ?_⟩ | refine ⟨by rw [hb7]; rfl, ?_⟩)) slz_
      · intro hb7
        repeat (first | refine un (h := ?_) | refine sk (h := ?_) | refine WL.y (hy := pkF) (h := ?_) | refine WL.y (hy := pkT) (h := ?_))
        exact mg (by repeat (first | exact trivial | refine ⟨rfl, ?_⟩ | refine ⟨by rw [hb7]; rfl, ?_⟩)) slz_
      refine wy mv ?_
      apply brOr 5 73 78 (by exact rfl)
      · intro hb8
        refine un (h := ?_)
        refine wy (by first | exact fa | exact faE) ?_
        refine un (h := ?_)
        refine wy (by first | exact ld | exact ldE) ?_
        refine un (h := ?_)
        refine cl0 (hc := fun w hS => C_dr_within _ _ _ w) (h := ?_)
        refine un (h := ?_)
        refine wy notB ?_
        refine wy (by first | exact pkT | exact pkF) ?_
        exact mg (by repeat (first | exact trivial | refine ⟨rfl, ?_⟩ | refine ⟨by rw [hb8]; rfl, ?_⟩)) slz_
      · intro hb8
        repeat (first | refine un (h := ?_) | refine sk (h := ?_) | refine WL.y (hy := pkF) (h := ?_) | refine WL.y (hy := pkT) (h := ?_))
        exact mg (by repeat (first | exact trivial | refine ⟨rfl, ?_⟩ | refine ⟨by rw [hb8]; rfl, ?_⟩)) slz_
      refine wy mv ?_
      apply brOr 9 79 88 (by exact rfl)
      · intro hb9
        refine un (h := ?_)
        refine wy mv ?_
        refine un (h := ?_)
        refine wy (by first | exact fa | exact faE) ?_
        refine un (h := ?_)
        refine wy (by first | exact ld | exact ldE) ?_
        refine un (h := ?_)
        refine wy lss ?_
        refine un (h := ?_)
        refine wy mv ?_
        apply brAnd 3 84 87 (by exact rfl)
        · intro hb10
          refine un (h := ?_)
          refine wy (by first | exact fa | exact faE) ?_
          refine un (h := ?_)
          refine wy (by first | exact ld | exact ldE) ?_
          refine un (h := ?_)
          refine wy (by first | exact pkT | exact pkF) ?_
          exact mg (by repeat (first | exact trivial | refine ⟨rfl, ?_⟩ | refine ⟨by rw [hb10]; rfl, ?_⟩ | refine ⟨by rw [hb9]; rfl, ?_⟩)) slz_
        · intro hb10
          repeat (first | refine un (h := ?_) | refine sk (h := ?_) | refine WL.y (hy := pkF) (h := ?_) | refine WL.y (hy := pkT) (h := ?_))
          exact mg (by repeat (first | exact trivial | refine ⟨rfl, ?_⟩ | refine ⟨by rw [hb10]; rfl, ?_⟩ | refine ⟨by rw [hb9]; rfl, ?_⟩)) slz_
        refine wy (by first | exact pkT | exact pkF) ?_
        exact mg (by repeat (first | exact trivial | refine ⟨rfl, ?_⟩ | refine ⟨by rw [hb9]; rfl, ?_⟩)) slz_
      · intro hb9
        repeat (first | refine un (h := ?_) | refine sk (h := ?_) | refine WL.y (hy := pkF) (h := ?_) | refine WL.y (hy := pkT) (h := ?_))
        exact mg (by repeat (first | exact trivial | refine ⟨rfl, ?_⟩ | refine ⟨by rw [hb9]; rfl, ?_⟩)) slz_
      refine nl (h := ?_)
      refine q_seq (h := ?_)
      refine cd (by exact rfl) (fun h11 => ?_) (fun h11 => ?_)
      · skip
        have hE := chk_badD (p := p) (by
          rw [hany, Bool.or_assoc, Bool.or_assoc, ← Bool.or_assoc (!win x.player 0 999), ps_not] at h11
          rw [pOk, pssOk_le (j := z.k + 1) (by rw [hst, hz2, Bool.true_and]; cases hd : dupP p.ps z.k x.player <;> rw [hd] at h11 <;> simp at h11 ⊢; exact h11) (by omega)]; simp)
        refine sq (h := ?_)
        refine rg (h := ?_)
        refine wy asg ?_
        refine nl (h := ?_)
        refine q_seq (h := ?_)
        refine rtn (h := ?_)
        refine q_blk_ret (h := ?_)
        refine q_then_ret (h := ?_)
        refine q_then_ret (h := ?_)
        refine q_blk_ret (h := ?_)
        refine q_then_ret (h := ?_)
        refine q_ret (hR := ?_)
        rw [hE]
        exact fun w hS => ⟨rfl, hS.sub slz_⟩
      · skip
        have hpo : dupP p.ps z.k x.player = false ∧ psOk p.seeds z.k x = true := by
          rw [hany, Bool.or_assoc, Bool.or_assoc, ← Bool.or_assoc (!win x.player 0 999), ps_not, Bool.or_eq_false_iff, Bool.not_eq_false'] at h11
          exact h11
        refine skp (h := ?_)
        refine q_blk_norm (h := ?_)
        refine q_seq (h := ?_)
        refine rg (h := ?_)
        refine wy addI ?_
        refine wy mv ?_
        refine nl (h := ?_)
        refine rn (x := z) ⟨z.k + 1⟩ ⟨by dsimp only; omega, by rw [hst, hz2, hpo.1, hpo.2]; rfl⟩ (by dsimp only; omega) sbz_ slz_
    · skip
      have hkn : z.k = p.ps.length := by simp only [decide_eq_false_iff_not] at h6; omega
      rw [hkn] at hz2
      refine et (h := ?_)
      refine q_then_exit (h := ?_)
      refine q_then_exit (h := ?_)
      refine q_blk_hit (h := ?_)
      refine q_seq (h := ?_)
      refine sq (h := ?_)
      refine sq (h := ?_)
      refine rg (h := ?_)
      refine wy (by first | exact fa | exact faE) ?_
      refine wy (by first | exact ld | exact ldE) ?_
      refine clT (hc := T_ContainsInt (E := .ro a.lA 1 p.lots.length (enI p.lots)) (A := a.lA) (c := a.lc) (ws := p.lots) (fun w h => h) (g := 90) inferInstance [] [] [] (fun n => !lotOk n) hln rfl (fun x _ => C0.tr _ (C_Check2 x))) (hs := Spl.cons atz_ (Spl.app _ _)) (h := fun _ _ => ?_)
      refine nl (h := ?_)
      refine q_seq (h := ?_)
      refine cd (by exact rfl) (fun h12 => ?_) (fun h12 => ?_)
      · skip
        have hE := chk_badD (p := p) (by rw [lots_any] at h12; rw [pOk, (by simpa using h12 : p.lots.all lotOk = false)]; simp)
        refine sq (h := ?_)
        refine rg (h := ?_)
        refine wy asg ?_
        refine nl (h := ?_)
        refine q_seq (h := ?_)
        refine rtn (h := ?_)
        refine q_then_ret (h := ?_)
        refine q_ret (hR := ?_)
        rw [hE]
        exact fun w hS => ⟨rfl, hS.sub slz_⟩
      · skip
        have hlo : p.lots.all lotOk = true := by rw [lots_any] at h12; simpa using h12
        have hE : chkP p = 0 := by rw [chkP, pOk, hb, hz2, hlo]; rfl
        refine skp (h := ?_)
        refine q_seq (h := ?_)
        refine sq (h := ?_)
        refine rg (h := ?_)
        refine wy asg ?_
        refine nl (h := ?_)
        refine q_seq (h := ?_)
        refine rtn (h := ?_)
        refine q_ret (hR := ?_)
        rw [hE]
        exact fun w hS => ⟨rfl, hS.sub slz_⟩
end Go.Proofs.YtmlhnajgiopfgaaGreat


namespace Go.Proofs.YtmlhnajgiopfgaaGreat
open Go Go.RowKit

inductive Cut (d : Nat) : Env → Env → Prop
  | nil : Cut d [] []
  | hit {v : Value} {l l' : Env} (h : Cut d l l') : Cut d ((d, v) :: l) l'
  | miss {i : Nat} {v : Value} {l l' : Env} (hn : Nat.beq i d = false) (h : Cut d l l') : Cut d ((i, v) :: l) ((i, v) :: l')
theorem Cut.out {d : Nat} {l l' : Env} (h : Cut d l l') : ∀ k, k ≠ d → look l' k = look l k := by
  induction h with
  | nil => exact fun _ _ => rfl
  | hit _ ih => exact fun k hk => by rw [look_cons, if_neg (fun e => hk e.symm), ih k hk]
  | miss _ _ ih => exact fun k hk => by rw [look_cons, look_cons, ih k hk]
theorem Cut.fr {a : Act} {n : Nat} {D : List Deferred} {d : Nat} {v : Value} {l l' : Env} (h : Cut d l l') (hf : Fr a n D ((d, v) :: l)) : Fr a n D ((d, v) :: l') := by
  refine ⟨hf.size, fun k u hk => hf.slot k u ?_, hf.defers⟩
  rw [look_cons] at hk ⊢
  by_cases e : d = k
  · rw [if_pos e] at hk ⊢; exact hk
  · rw [if_neg e] at hk ⊢
    rw [← h.out k (fun x => e x.symm)]; exact hk
theorem WL.cut {F : Fence} {P : Program} {ops : Array Oper} {Q : Exit → Act → World → Prop} {rest : List Oper} {n : Nat} {D : List Deferred} {l l' : Env} {w0 : World} {L : List Ent} {d : Nat} {v : Value} (hc : Cut d l l') (h : WL F P ops Q rest n D ((d, v) :: l') w0 L) : WL F P ops Q rest n D ((d, v) :: l) w0 L :=
  fun hF a w hfr hst => h hF a w (hc.fr hfr) hst

theorem WC.cut {F : Fence} {P : Program} {c : Code} {Q : Exit → Act → World → Prop} {n : Nat} {D : List Deferred} {l l' : Env} {w0 : World} {L : List Ent} (d : Nat) {v : Value} (hv : look l d = some v) (hc : Cut d l l') (h : WC F P c Q n D ((d, v) :: l') w0 L) : WC F P c Q n D l w0 L :=
  fun hF a w hfr hst => h hF a w ⟨hfr.size, fun k u hk => by
    rw [look_cons] at hk
    by_cases e : d = k
    · subst e
      rw [if_pos rfl] at hk
      cases hk
      exact hfr.slot d v hv
    · rw [if_neg e, hc.out k (fun x => e x.symm)] at hk
      exact hfr.slot k u hk, hfr.defers⟩ hst
theorem clf0 {F : Fence} {P : Program} {ops : Array Oper} {Q : Exit → Act → World → Prop} {rest : List Oper} {n : Nat} {D : List Deferred} {l : Env} {w0 : World} {L : List Ent} {d : Nat} {ty : TypeId} {pos : String} {aft : Array Edge} {f : FuncId} (hf : FnOk P f := by infer_instance) {x : Operand} {fi cap : List Value} {xs : List Operand} {vs : List Value} {ts : Array TypeId} {v : Value}
    (hx : ev l x = some (.func (.func f) fi.toArray cap.toArray) := by exact rfl) (hargs : Evs l xs vs := by repeat (first | exact Evs.nil | (apply Evs.cons; exact rfl))) (hc : ∀ w, St w0 w L → C0 P f (fi ++ vs ++ cap) w v) (hd : Nat.blt d n = true := by rfl) (h : WL F P ops Q rest n D ((d, v) :: l) w0 L) :
    WL F P ops Q (⟨some d, .call { callee := .value x, args := xs.toArray, argTypes := ts }, ty, pos, aft, none⟩ :: rest) n D l w0 L :=
  WL.enter (by simp) hd fun a w hfr hst => ⟨run_callF hf hx hargs hfr w, Calls.mono (hc w hst).out fun e w' ⟨he, hs⟩ => ⟨v, he, L, by simpa using hst.join hs rfl, h⟩⟩

abbrev MR := Option Addr × Nat × List Int
def mI (l : List Int) : List (List Value) := l.map fun x => [.int .i64 x]
theorem mI_at {l : List Int} {k : Nat} (h : k < l.length) : (mI l)[k]? = some [.int .i64 (l.getD k 0)] := by
  rw [mI, List.getElem?_map, List.getElem?_eq_getElem h, List.getD_eq_getElem?_getD, List.getElem?_eq_getElem h]; rfl
theorem mI_set (l : List Int) (k : Nat) (v : Int) : (mI l).set k [.int .i64 v] = mI (l.set k v) := by simp [mI, List.map_set]
def mxV (hs : List MR) : List (List Value) := hs.map fun h => [.slice h.1 h.2.2.length h.2.1]
theorem mxV_app (a b : List MR) : mxV (a ++ b) = mxV a ++ mxV b := List.map_append
abbrev ownR (T : TypeId) (h : MR) : Ent := .own h.1 h.2.1 T 1 h.2.2.length (mI h.2.2)
def apR (T : TypeId) (h h' : MR) : Prop := ∀ b, (ownR T h).fp b → (ownR T h').fp b → False
def mxE (T : TypeId) (hs : List MR) : Ent := .gen true true (fun b => ∃ h ∈ hs, (ownR T h).fp b) (fun w => (∀ h ∈ hs, (ownR T h).ok w) ∧ hs.Pairwise (apR T))
  (fun w w' hb hok => ⟨fun h hh => Ent.ok_frame (e := ownR T h) (hok.1 h hh) fun b hf => hb b ⟨h, hh, hf⟩, hok.2⟩) (fun w b hok ⟨h, hh, hf⟩ => Ent.ok_lt (e := ownR T h) (hok.1 h hh) hf)
theorem mx_rd {T : TypeId} {hs : List MR} {i : Nat} {h : MR} (hi : hs[i]? = some h) : ∀ w, (mxE T hs).ok w → Rd w h.1 1 h.2.2.length (mI h.2.2) := fun w hw => (hw.1 h (List.mem_of_getElem? hi)).2
section
variable {w0 w : World} {L : List Ent} {T : TypeId}
theorem St.mx0 (h : St w0 w L) : St w0 w (mxE T [] :: L) := by
  refine ⟨h.below, fun x hx => ?_, fun x hx hf b hb => ?_, List.pairwise_cons.2 ⟨fun x hx hor b hb hb' => ?_, h.sep⟩⟩
  · rcases List.mem_cons.1 hx with rfl | hx
    · exact ⟨fun r hr => (by cases hr), List.Pairwise.nil⟩
    · exact h.ok x hx
  · rcases List.mem_cons.1 hx with rfl | hx
    · obtain ⟨r, hr, _⟩ := hb; cases hr
    · exact h.new x hx hf b hb
  · obtain ⟨r, hr, _⟩ := hb; cases hr
theorem St.mxJoin {hs hs' : List MR} {r : MR} (hp : hs'.Perm (r :: hs)) (h : St w0 w (ownR T r :: mxE T hs :: L)) : St w0 w (mxE T hs' :: L) := by
  have h1 := List.pairwise_cons.1 h.sep
  have h2 := List.pairwise_cons.1 h1.2
  have hok := h.ok (mxE T hs) (by simp)
  have hr := h.ok (ownR T r) (by simp)
  have hmem : ∀ x, x ∈ hs' ↔ x = r ∨ x ∈ hs := fun x => by rw [hp.mem_iff, List.mem_cons]
  have hfp : ∀ b, (mxE T hs').fp b → (ownR T r).fp b ∨ (mxE T hs).fp b := fun b ⟨x, hx, hb⟩ => by
    rcases (hmem x).1 hx with rfl | hx
    · exact .inl hb
    · exact .inr ⟨x, hx, hb⟩
  have hsym : ∀ {x y : MR}, apR T x y → apR T y x := fun hxy b hb hb' => hxy b hb' hb
  refine ⟨h.below, fun x hx => ?_, fun x hx hf b hb => ?_, List.pairwise_cons.2 ⟨fun x hx hor b hb hb' => ?_, h2.2⟩⟩
  · rcases List.mem_cons.1 hx with rfl | hx
    · refine ⟨fun y hy => ?_, (hp.pairwise_iff hsym).2 (List.pairwise_cons.2 ⟨fun y hy b hb hb' => h1.1 (mxE T hs) (by simp) (.inl rfl) b hb ⟨y, hy, hb'⟩, hok.2⟩)⟩
      rcases (hmem y).1 hy with rfl | hy
      · exact hr
      · exact hok.1 y hy
    · exact h.ok x (by simp [hx])
  · rcases List.mem_cons.1 hx with rfl | hx
    · rcases hfp b hb with hb | hb
      · exact h.new (ownR T r) (by simp) rfl b hb
      · exact h.new (mxE T hs) (by simp) rfl b hb
    · exact h.new x (by simp [hx]) hf b hb
  · rcases hfp b hb with hb | hb
    · exact h1.1 x (by simp [hx]) (.inl rfl) b hb hb'
    · exact h2.1 x hx (.inl rfl) b hb hb'
theorem St.mxSplit {hs hs' : List MR} {r : MR} (hp : hs'.Perm (r :: hs)) (h : St w0 w (mxE T hs' :: L)) : St w0 w (ownR T r :: mxE T hs :: L) := by
  have h1 := List.pairwise_cons.1 h.sep
  have hok := h.ok (mxE T hs') (by simp)
  have hmem : ∀ x, x ∈ hs' ↔ x = r ∨ x ∈ hs := fun x => by rw [hp.mem_iff, List.mem_cons]
  have hsym : ∀ {x y : MR}, apR T x y → apR T y x := fun hxy b hb hb' => hxy b hb' hb
  have hpw := List.pairwise_cons.1 ((hp.pairwise_iff hsym).1 hok.2)
  have hr : ∀ b, (ownR T r).fp b → (mxE T hs').fp b := fun b hb => ⟨r, (hmem r).2 (.inl rfl), hb⟩
  have hm : ∀ b, (mxE T hs).fp b → (mxE T hs').fp b := fun b ⟨x, hx, hb⟩ => ⟨x, (hmem x).2 (.inr hx), hb⟩
  refine ⟨h.below, fun x hx => ?_, fun x hx hf b hb => ?_, List.pairwise_cons.2 ⟨fun x hx hor b hb hb' => ?_, List.pairwise_cons.2 ⟨fun x hx hor b hb hb' => ?_, h1.2⟩⟩⟩
  · rcases List.mem_cons.1 hx with rfl | hx
    · exact hok.1 r ((hmem r).2 (.inl rfl))
    · rcases List.mem_cons.1 hx with rfl | hx
      · exact ⟨fun y hy => hok.1 y ((hmem y).2 (.inr hy)), hpw.2⟩
      · exact h.ok x (by simp [hx])
  · rcases List.mem_cons.1 hx with rfl | hx
    · exact h.new (mxE T hs') (by simp) rfl b (hr b hb)
    · rcases List.mem_cons.1 hx with rfl | hx
      · exact h.new (mxE T hs') (by simp) rfl b (hm b hb)
      · exact h.new x (by simp [hx]) hf b hb
  · rcases List.mem_cons.1 hx with rfl | hx
    · obtain ⟨y, hy, hb'⟩ := hb'
      exact hpw.1 y hy b hb hb'
    · exact h1.1 x hx (.inl rfl) b (hr b hb) hb'
  · exact h1.1 x hx (.inl rfl) b (hm b hb) hb'
end
theorem perm_add (hs : List MR) (r : MR) : (hs ++ [r]).Perm (r :: hs) := List.perm_append_singleton r hs
theorem perm_at : ∀ {hs : List MR} {i : Nat} {r : MR}, hs[i]? = some r → hs.Perm (r :: hs.eraseIdx i)
  | [], i, r, h => by simp at h
  | x :: hs, 0, r, h => by
    obtain rfl : x = r := by simpa using h
    exact List.Perm.refl _
  | x :: hs, i + 1, r, h => ((perm_at (hs := hs) (i := i) (by simpa using h)).cons x).trans (List.Perm.swap r x _)
theorem perm_set {hs : List MR} {i : Nat} {r r' : MR} (h : hs[i]? = some r) : (hs.set i r').Perm (r' :: hs.eraseIdx i) := by
  have hi := (List.getElem?_eq_some_iff.1 h).1
  have h2 : (hs.set i r')[i]? = some r' := List.getElem?_set_self hi
  have := perm_at h2
  rwa [List.eraseIdx_set_eq] at this
section
variable {F : Fence} {P : Program} {ops : Array Oper} {Q : Exit → Act → World → Prop} {rest : List Oper} {n : Nat} {D : List Deferred} {l : Env} {w0 : World} {L M M' : List Ent} {T : TypeId}
theorem WC.mx0 {c : Code} (T : TypeId) (h : WC F P c Q n D l w0 (mxE T [] :: L)) : WC F P c Q n D l w0 L := fun hF a w hfr hst => h hF a w hfr hst.mx0
theorem WC.mxAdd {c : Code} {hs : List MR} (A : Option Addr) (cap : Nat) (xs : List Int) {m : Nat} {es : List (List Value)} (ha : At L (.own A cap T 1 m es) M) (hb : At M (mxE T hs) M') (hm : m = xs.length) (he : es = mI xs) (h : WC F P c Q n D l w0 (mxE T (hs ++ [(A, cap, xs)]) :: M')) : WC F P c Q n D l w0 L := fun hF a w hfr hst => h hF a w hfr (by
  subst hm he
  exact (hst.sub (.cons ha (.cons hb (SubL.refl _)))).mxJoin (perm_add hs (A, cap, xs)))
theorem WL.mxAt {hs : List MR} {i : Nat} {r : MR} (hi : hs[i]? = some r) (ha : At L (mxE T hs) M) (h : WL F P ops Q rest n D l w0 (ownR T r :: mxE T (hs.eraseIdx i) :: M)) : WL F P ops Q rest n D l w0 L := fun hF a w hfr hst => h hF a w hfr ((hst.pull ha).mxSplit (perm_at hi))
theorem WL.mxPut {hs : List MR} {i : Nat} {r : MR} (A : Option Addr) (cap : Nat) (xs : List Int) {m : Nat} {es : List (List Value)} (hi : hs[i]? = some r) (ha : At L (.own A cap T 1 m es) M) (hb : At M (mxE T (hs.eraseIdx i)) M') (hm : m = xs.length) (he : es = mI xs) (h : WL F P ops Q rest n D l w0 (mxE T (hs.set i (A, cap, xs)) :: M')) : WL F P ops Q rest n D l w0 L := fun hF a w hfr hst => h hF a w hfr (by
  subst hm he
  exact (hst.sub (.cons ha (.cons hb (SubL.refl _)))).mxJoin (perm_set hi))
end
def gv (hs : List MR) (a b : Nat) : Int := ((hs[a]?).getD (none, 0, [])).2.2.getD b 0
structure Mx (K : Nat) (hs : List MR) (V : List (List Value)) : Prop where
  v : mxV hs = V
  len : hs.length = K
  row : ∀ h ∈ hs, h.2.2.length = K
theorem Mx.at {K : Nat} {hs : List MR} {V : List (List Value)} (h : Mx K hs V) {a : Nat} (ha : a < K) : ∃ (A : Option Addr) (c : Nat) (xs : List Int), hs[a]? = some (A, c, xs) ∧ xs.length = K ∧ V[a]? = some [.slice A K c] ∧ (∀ b, gv hs a b = xs.getD b 0) ∧ ∀ (T : TypeId) (w : World), (mxE T hs).ok w → Rd w A 1 K (mI xs) := by
  obtain ⟨⟨A, c, xs⟩, hr⟩ : ∃ r, hs[a]? = some r := ⟨_, List.getElem?_eq_getElem (by rw [h.len]; exact ha)⟩
  have hl : xs.length = K := h.row _ (List.mem_of_getElem? hr)
  refine ⟨A, c, xs, hr, hl, ?_, fun b => by rw [gv, hr]; rfl, fun T w hw => by have := mx_rd hr w hw; rwa [hl] at this⟩
  rw [← h.v, mxV, List.getElem?_map, hr, Option.map_some, hl]
theorem Mx.set {K : Nat} {hs : List MR} {V : List (List Value)} (h : Mx K hs V) {a : Nat} {A : Option Addr} {c : Nat} {xs : List Int} (hr : hs[a]? = some (A, c, xs)) (b : Nat) (v : Int) : Mx K (hs.set a (A, c, xs.set b v)) V := by
  have hi := (List.getElem?_eq_some_iff.1 hr).1
  refine ⟨?_, by rw [List.length_set]; exact h.len, fun x hx => ?_⟩
  · rw [← h.v]
    unfold mxV
    rw [List.map_set]
    refine List.ext_getElem? fun i => ?_
    by_cases e : a = i
    · subst e
      rw [List.getElem?_set_self (by rw [List.length_map]; exact hi), List.getElem?_map, hr, Option.map_some, List.length_set]
    · rw [List.getElem?_set_ne e]
  · rcases List.mem_or_eq_of_mem_set hx with hx | rfl
    · exact h.row x hx
    · rw [List.length_set]; exact h.row _ (List.mem_of_getElem? hr)
end Go.Proofs.YtmlhnajgiopfgaaGreat

namespace Go.Proofs.YtmlhnajgiopfgaaGreat
open Go Go.RowKit

abbrev Sn := Int × Int
def encSn (l : List Sn) : List (List Value) := l.map fun s => [.int .i64 s.1, .int .i64 s.2]
theorem encSn_len (l : List Sn) : (encSn l).length = l.length := List.length_map ..
theorem encSn_at {l : List Sn} {k : Nat} {s : Sn} (h : l[k]? = some s) : (encSn l)[k]? = some [.int .i64 s.1, .int .i64 s.2] := by unfold encSn; rw [List.getElem?_map, h]; rfl
structure Dy where
  (sp : List Sn) (A : Option Addr) (c : Nat)
def encDy (l : List Dy) : List (List Value) := l.map fun d => [.slice d.A d.sp.length d.c]
theorem encDy_at {l : List Dy} {k : Nat} {d : Dy} (h : l[k]? = some d) : (encDy l)[k]? = some [.slice d.A d.sp.length d.c] := by unfold encDy; rw [List.getElem?_map, h]; rfl
structure Jb where
  (len : Sn) (af : List Int) (fA : Option Addr) (fc : Nat) (wi : List Int) (wA : Option Addr) (wc : Nat) (due ear : Int)
abbrev Jb.cells (j : Jb) : List Value := [.int .i64 j.len.1, .int .i64 j.len.2, .slice j.fA j.af.length j.fc, .slice j.wA j.wi.length j.wc, .int .i64 j.due, .int .i64 j.ear]
def encJb (l : List Jb) : List (List Value) := l.map Jb.cells
theorem encJb_at {l : List Jb} {k : Nat} {j : Jb} (h : l[k]? = some j) : (encJb l)[k]? = some j.cells := by unfold encJb; rw [List.getElem?_map, h]; rfl
structure Pg where
  (dA : Option Addr) (dc : Nat) (days : List Dy) (rest : Int) (jA : Option Addr) (jc : Nat) (jobs : List Jb)
abbrev Pg.cells (p : Pg) : List Value := [.slice p.dA p.days.length p.dc, .int .i64 p.rest, .slice p.jA p.jobs.length p.jc]
abbrev Pg.val (p : Pg) : Value := .agg #[.slice p.dA p.days.length p.dc, .int .i64 p.rest, .slice p.jA p.jobs.length p.jc]
structure PgR (w : World) (p : Pg) : Prop where
  d : Rd w p.dA 1 p.days.length (encDy p.days)
  j : Rd w p.jA 6 p.jobs.length (encJb p.jobs)
  s : ∀ d ∈ p.days, Rd w d.A 2 d.sp.length (encSn d.sp)
  f : ∀ x ∈ p.jobs, Rd w x.fA 1 x.af.length (enI x.af)
  w : ∀ x ∈ p.jobs, Rd w x.wA 1 x.wi.length (enI x.wi)
  dn : p.days.length ≤ 9223372036854775807
  jn : p.jobs.length ≤ 9223372036854775807
  sn : ∀ d ∈ p.days, d.sp.length ≤ 9223372036854775807
  fn : ∀ x ∈ p.jobs, x.af.length ≤ 9223372036854775807
  wn : ∀ x ∈ p.jobs, x.wi.length ≤ 9223372036854775807
theorem PgR.old {w0 w : World} {L : List Ent} {p : Pg} (h : PgR w0 p) (hS : St w0 w L) : PgR w p :=
  ⟨(hS.old h.d).get, (hS.old h.j).get, fun d hd => (hS.old (h.s d hd)).get, fun x hx => (hS.old (h.f x hx)).get, fun x hx => (hS.old (h.w x hx)).get, h.dn, h.jn, h.sn, h.fn, h.wn⟩
def Asc (l : List Int) (b : Int) (k : Nat) : Prop := ∀ i x, i < k → l[i]? = some x → 0 ≤ x ∧ x < b ∧ ∀ y, 0 < i → l[i - 1]? = some y → y < x
theorem Asc.zero (l : List Int) (b : Int) : Asc l b 0 := fun i x hi => absurd hi (Nat.not_lt_zero _)
theorem Asc.succ {l : List Int} {b : Int} {k : Nat} {x : Int} (h : Asc l b k) (hx : l[k]? = some x) (h0 : 0 ≤ x ∧ x < b) (h1 : ∀ y, 0 < k → l[k - 1]? = some y → y < x) : Asc l b (k + 1) := fun i z hi hz => by
  by_cases e : i = k
  · subst e; rw [hx] at hz; cases hz; exact ⟨h0.1, h0.2, h1⟩
  · exact h i z (by omega) hz
structure JOk (n : Int) (i : Nat) (j : Jb) : Prop where
  len : 1 ≤ j.len.1 ∧ j.len.1 ≤ j.len.2 ∧ j.len.2 ≤ 600
  due : 0 ≤ j.due ∧ j.due ≤ 2
  ear : 0 ≤ j.ear ∧ j.ear ≤ 1440
  af : Asc j.af (i : Int) j.af.length
  wi : Asc j.wi n j.wi.length
  no : ∀ x ∈ j.wi, x ≠ (i : Int)
def Pg.nc (p : Pg) : Nat := match p.days with | d :: _ => d.sp.length | [] => 0
structure POk (p : Pg) : Prop where
  nd : 1 ≤ p.days.length ∧ p.days.length ≤ 3
  rest : 0 ≤ p.rest ∧ p.rest ≤ 600
  nj : p.jobs.length ≤ 6
  nc : 1 ≤ p.nc ∧ p.nc ≤ 3
  dy : ∀ k d, k < p.days.length → p.days[k]? = some d → d.sp.length = p.nc ∧ ∀ i s, i < d.sp.length → d.sp[i]? = some s → 0 ≤ s.1 ∧ s.1 ≤ s.2 ∧ s.2 ≤ 1440
  jb : ∀ i j, i < p.jobs.length → p.jobs[i]? = some j → JOk p.jobs.length i j
theorem nc_first {p : Pg} {d : Dy} (h : p.days[0]? = some d) : d.sp.length = p.nc := by
  unfold Pg.nc
  cases e : p.days with
  | nil => rw [e] at h; cases h
  | cons x l => rw [e] at h; cases h; rfl
structure Se where
  (job day court : Int)
abbrev Se.cells (s : Se) : List Value := [.int .i64 s.job, .int .i64 s.day, .int .i64 s.court]
abbrev Se.val (s : Se) : Value := .agg #[.int .i64 s.job, .int .i64 s.day, .int .i64 s.court]
def encSe (l : List Se) : List (List Value) := l.map Se.cells
theorem encSe_len (l : List Se) : (encSe l).length = l.length := List.length_map ..
theorem encSe_at {l : List Se} {k : Nat} {s : Se} (h : l[k]? = some s) : (encSe l)[k]? = some s.cells := by unfold encSe; rw [List.getElem?_map, h]; rfl
theorem encSe_take (l : List Se) (k : Nat) : (encSe l).take k = encSe (l.take k) := by unfold encSe; rw [List.map_take]
structure MayC (p : Pg) (l : List Se) (s : Se) : Prop where
  job : 0 ≤ s.job ∧ s.job < p.jobs.length
  new : ∀ t ∈ l, t.job ≠ s.job
  day : 0 ≤ s.day ∧ s.day < p.days.length
  due : ∀ j, p.jobs[s.job.toNat]? = some j → s.day ≤ j.due
  court : 0 ≤ s.court ∧ s.court < p.nc
  days : ∀ t ∈ l, t.day ≤ s.day
  af : ∀ j, p.jobs[s.job.toNat]? = some j → ∀ x ∈ j.af, ∃ t ∈ l, t.job = x
structure OOk (p : Pg) (o : List Se) : Prop where
  n : o.length = p.jobs.length
  at_ : ∀ k s, k < o.length → o[k]? = some s → MayC p (o.take k) s
theorem OOk.job {p : Pg} {o : List Se} (h : OOk p o) {s : Se} (hs : s ∈ o) : ∃ l, MayC p l s := by
  obtain ⟨i, hi, e⟩ := List.mem_iff_getElem.1 hs
  exact ⟨_, h.at_ i s hi (by rw [List.getElem?_eq_getElem hi, e])⟩
def shB (p : Pg) (a b : Int) : Bool := match p.jobs[a.toNat]?, p.jobs[b.toNat]? with
  | some x, some y => (x.af.contains b || x.wi.contains b) || (y.af.contains a || y.wi.contains a)
  | _, _ => false
structure DS where
  (num : Int) (fr en : Nat → Int)
abbrev DS.cells (d : DS) : List Value := [.int .i64 d.num, .int .i64 (d.fr 0), .int .i64 (d.fr 1), .int .i64 (d.fr 2), .int .i64 (d.en 0), .int .i64 (d.en 1), .int .i64 (d.en 2), .int .i64 (d.en 3), .int .i64 (d.en 4), .int .i64 (d.en 5)]
abbrev DS.val (d : DS) : Value := .agg #[.int .i64 d.num, .int .i64 (d.fr 0), .int .i64 (d.fr 1), .int .i64 (d.fr 2), .int .i64 (d.en 0), .int .i64 (d.en 1), .int .i64 (d.en 2), .int .i64 (d.en 3), .int .i64 (d.en 4), .int .i64 (d.en 5)]
def upF (f : Nat → Int) (i : Nat) (v : Int) : Nat → Int := fun j => if j = i then v else f j
def begK (p : Pg) (d : DS) (job : Int) (b : Int) (k : Nat) : Int := bif decide (0 < d.en k) && shB p job k then max b (d.en k + p.rest) else b
def begTil (p : Pg) (d : DS) (s : Se) (ear : Int) : Nat → Int
  | 0 => max (d.fr s.court.toNat) ear
  | k + 1 => begK p d s.job (begTil p d s ear k) k
def Pg.ear (p : Pg) (job : Int) : Int := match p.jobs[job.toNat]? with | some j => j.ear | none => 0
def begV (p : Pg) (d : DS) (s : Se) : Int := begTil p d s (p.ear s.job) 6
def playD (p : Pg) (d : DS) (s : Se) (len : Int) : DS := ⟨d.num, upF d.fr s.court.toNat (begV p d s + len), upF d.en s.job.toNat (begV p d s + len)⟩
def frTo (l : List Sn) : Nat → Nat → Int
  | 0 => fun _ => 0
  | k + 1 => match l[k]? with
    | some s => upF (frTo l k) k s.1
    | none => frTo l k
def openD (p : Pg) (n : Int) : DS := ⟨n, (match p.days[n.toNat]? with | some d => frTo d.sp d.sp.length | none => fun _ => 0), fun _ => 0⟩
structure TS where
  (d : DS) (bs es : List Int)
def Pg.len (p : Pg) (g : Sn → Int) (job : Int) : Int := match p.jobs[job.toNat]? with | some j => g j.len | none => 0
def stepT (p : Pg) (g : Sn → Int) (t : TS) (s : Se) : TS :=
  let d := bif decide (s.day = t.d.num) then t.d else openD p s.day
  ⟨playD p d s (p.len g s.job), t.bs.set s.job.toNat (begV p d s), t.es.set s.job.toNat (begV p d s + p.len g s.job)⟩
def runT (p : Pg) (g : Sn → Int) (o : List Se) : TS := o.foldl (stepT p g) ⟨openD p 0, List.replicate p.jobs.length 0, List.replicate p.jobs.length 0⟩
end Go.Proofs.YtmlhnajgiopfgaaGreat

namespace Go.Proofs.YtmlhnajgiopfgaaGreat
open Go Go.RowKit

section
variable {F : Fence} {P : Program} {ops : Array Oper} {Q : Exit → Act → World → Prop} {rest : List Oper} {n : Nat} {D : List Deferred} {l : Env} {w0 : World} {L M : List Ent}
theorem St.getRowF {w : World} {fr : Bool} {rs : List Row} {r : Row} (h : St w0 w (manyE fr rs :: M)) (hr : r ∈ rs) : St w0 w (.ro r.A r.size r.n r.es :: manyE fr rs :: M) := by
  have hp := List.pairwise_cons.1 h.sep
  refine ⟨h.below, fun x hx => ?_, fun x hx hf k hk => ?_, List.pairwise_cons.2 ⟨fun x hx ho k hk hk' => ?_, h.sep⟩⟩
  · rcases List.mem_cons.1 hx with rfl | hx
    · exact h.ok (manyE fr rs) (by simp) r hr
    · exact h.ok x hx
  · rcases List.mem_cons.1 hx with rfl | hx
    · cases hf
    · exact h.new x hx hf k hk
  · rcases List.mem_cons.1 hx with rfl | hx
    · rcases ho with h1 | h1 <;> cases h1
    · exact hp.1 x hx (ho.imp (fun h => (by cases h)) id) k ⟨r, hr, hk⟩ hk'
theorem WC.getRowF {c : Code} {fr : Bool} {rs : List Row} {r : Row} (hr : r ∈ rs) (ha : At L (manyE fr rs) M) (h : WC F P c Q n D l w0 (.ro r.A r.size r.n r.es :: manyE fr rs :: M)) : WC F P c Q n D l w0 L := fun hF a w hfr hst => h hF a w hfr ((hst.pull ha).getRowF hr)
theorem WL.getRowF {fr : Bool} {rs : List Row} {r : Row} (hr : r ∈ rs) (ha : At L (manyE fr rs) M) (h : WL F P ops Q rest n D l w0 (.ro r.A r.size r.n r.es :: manyE fr rs :: M)) : WL F P ops Q rest n D l w0 L := fun hF a w hfr hst => h hF a w hfr ((hst.pull ha).getRowF hr)
theorem St.manyOld {w : World} (h : St w0 w L) {rs : List Row} (hr : ∀ r ∈ rs, Rd w0 r.A r.size r.n r.es) : St w0 w (manyE false rs :: L) := by
  have hlt : ∀ b, (manyE false rs).fp b → b < w0.heap.size := fun b hb => Ent.ok_lt (e := manyE false rs) hr hb
  refine ⟨h.below, fun x hx => ?_, fun x hx hf b hb => ?_, List.pairwise_cons.2 ⟨fun x hx hor b hb hb' => ?_, h.sep⟩⟩
  · rcases List.mem_cons.1 hx with rfl | hx
    · exact Ent.ok_frame (e := manyE false rs) hr fun b hb => h.below.b.block b (hlt b hb)
    · exact h.ok x hx
  · rcases List.mem_cons.1 hx with rfl | hx
    · cases hf
    · exact h.new x hx hf b hb
  · rcases hor with hor | hor
    · cases hor
    · have h1 := h.new x hx (Ent.fresh_of_excl hor) b hb'
      have h2 := hlt b hb
      omega
theorem WC.manyOld {c : Code} {rs : List Row} (hr : ∀ r ∈ rs, Rd w0 r.A r.size r.n r.es) (h : WC F P c Q n D l w0 (manyE false rs :: L)) : WC F P c Q n D l w0 L := fun hF a w hfr hst => h hF a w hfr (hst.manyOld hr)
theorem WL.manyOld {rs : List Row} (hr : ∀ r ∈ rs, Rd w0 r.A r.size r.n r.es) (h : WL F P ops Q rest n D l w0 (manyE false rs :: L)) : WL F P ops Q rest n D l w0 L := fun hF a w hfr hst => h hF a w hfr (hst.manyOld hr)
end
end Go.Proofs.YtmlhnajgiopfgaaGreat

namespace Go.Proofs.YtmlhnajgiopfgaaGreat
open Go Go.RowKit

def dyR (d : Dy) : Row := ⟨d.A, 2, d.sp.length, encSn d.sp⟩
def afR (j : Jb) : Row := ⟨j.fA, 1, j.af.length, enI j.af⟩
def wiR (j : Jb) : Row := ⟨j.wA, 1, j.wi.length, enI j.wi⟩
def pgU (p : Pg) : List Row := ⟨p.dA, 1, p.days.length, encDy p.days⟩ :: ⟨p.jA, 6, p.jobs.length, encJb p.jobs⟩ :: (p.days.map dyR ++ (p.jobs.map afR ++ p.jobs.map wiR))
theorem pgU_d (p : Pg) : (⟨p.dA, 1, p.days.length, encDy p.days⟩ : Row) ∈ pgU p := List.mem_cons_self
theorem pgU_j (p : Pg) : (⟨p.jA, 6, p.jobs.length, encJb p.jobs⟩ : Row) ∈ pgU p := List.mem_cons_of_mem _ List.mem_cons_self
theorem pgU_s {p : Pg} {d : Dy} (h : d ∈ p.days) : (⟨d.A, 2, d.sp.length, encSn d.sp⟩ : Row) ∈ pgU p := List.mem_cons_of_mem _ (List.mem_cons_of_mem _ (List.mem_append_left _ (List.mem_map.2 ⟨d, h, rfl⟩)))
theorem pgU_f {p : Pg} {j : Jb} (h : j ∈ p.jobs) : (⟨j.fA, 1, j.af.length, enI j.af⟩ : Row) ∈ pgU p := List.mem_cons_of_mem _ (List.mem_cons_of_mem _ (List.mem_append_right _ (List.mem_append_left _ (List.mem_map.2 ⟨j, h, rfl⟩))))
theorem pgU_w {p : Pg} {j : Jb} (h : j ∈ p.jobs) : (⟨j.wA, 1, j.wi.length, enI j.wi⟩ : Row) ∈ pgU p := List.mem_cons_of_mem _ (List.mem_cons_of_mem _ (List.mem_append_right _ (List.mem_append_right _ (List.mem_map.2 ⟨j, h, rfl⟩))))
theorem PgR.rows {w : World} {p : Pg} (h : PgR w p) : ∀ r ∈ pgU p, Rd w r.A r.size r.n r.es := by
  intro r hr
  unfold pgU at hr
  rcases List.mem_cons.1 hr with rfl | hr
  · exact h.d
  rcases List.mem_cons.1 hr with rfl | hr
  · exact h.j
  rcases List.mem_append.1 hr with hr | hr
  · obtain ⟨d, hd, rfl⟩ := List.mem_map.1 hr; exact h.s d hd
  rcases List.mem_append.1 hr with hr | hr
  · obtain ⟨d, hd, rfl⟩ := List.mem_map.1 hr; exact h.f d hd
  · obtain ⟨d, hd, rfl⟩ := List.mem_map.1 hr; exact h.w d hd
structure PgN (p : Pg) : Prop where
  dn : p.days.length ≤ 9223372036854775807
  jn : p.jobs.length ≤ 9223372036854775807
  sn : ∀ d ∈ p.days, d.sp.length ≤ 9223372036854775807
  fn : ∀ x ∈ p.jobs, x.af.length ≤ 9223372036854775807
  wn : ∀ x ∈ p.jobs, x.wi.length ≤ 9223372036854775807
theorem PgR.nums {w : World} {p : Pg} (h : PgR w p) : PgN p := ⟨h.dn, h.jn, h.sn, h.fn, h.wn⟩
theorem PgR.of {w : World} {p : Pg} (h : ∀ r ∈ pgU p, Rd w r.A r.size r.n r.es) (hn : PgN p) : PgR w p :=
  ⟨h _ (pgU_d p), h _ (pgU_j p), fun d hd => h _ (pgU_s hd), fun x hx => h _ (pgU_f hx), fun x hx => h _ (pgU_w hx), hn.dn, hn.jn, hn.sn, hn.fn, hn.wn⟩
structure DS.Ok (d : DS) (B : Int) : Prop where
  fb : ∀ i, 0 ≤ d.fr i ∧ d.fr i ≤ B
  eb : ∀ i, 0 ≤ d.en i ∧ d.en i ≤ B
  eo : ∀ i, 6 ≤ i → d.en i = 0
theorem getD_get {l : List Int} {i : Nat} (h : i < l.length) : l[i]? = some (l.getD i 0) := by rw [List.getD_eq_getElem?_getD, List.getElem?_eq_getElem h]; rfl
theorem upF_rng {f : Nat → Int} {B C v : Int} (h : ∀ i, 0 ≤ f i ∧ f i ≤ B) (hB : B ≤ C) (hv : 0 ≤ v ∧ v ≤ C) (i : Nat) : ∀ j, 0 ≤ upF f i v j ∧ upF f i v j ≤ C := fun j => by
  unfold upF
  by_cases e : j = i
  · rw [if_pos e]; exact hv
  · rw [if_neg e]; have := h j; omega
section
variable {d : DS} {B : Int}
theorem fr_at (d : DS) {i : Nat} (hi : i < 3) : d.cells[1 + i]? = some (.int .i64 (d.fr i)) := by
  match i, hi with
  | 0, _ => rfl
  | 1, _ => rfl
  | 2, _ => rfl
theorem enV_at (d : DS) {i : Nat} (hi : i < 6) : (#[Value.int .i64 (d.en 0), .int .i64 (d.en 1), .int .i64 (d.en 2), .int .i64 (d.en 3), .int .i64 (d.en 4), .int .i64 (d.en 5)] : Array Value)[i]? = some (.int .i64 (d.en i)) := by
  match i, hi with
  | 0, _ => rfl
  | 1, _ => rfl
  | 2, _ => rfl
  | 3, _ => rfl
  | 4, _ => rfl
  | 5, _ => rfl
theorem fr_set (d : DS) {i : Nat} (hi : i < 3) (v : Int) : d.cells.set (1 + i) (.int .i64 v) = (⟨d.num, upF d.fr i v, d.en⟩ : DS).cells := by
  match i, hi with
  | 0, _ => rfl
  | 1, _ => rfl
  | 2, _ => rfl
theorem en_set (d : DS) {i : Nat} (hi : i < 6) (v : Int) : d.cells.set (4 + i) (.int .i64 v) = (⟨d.num, d.fr, upF d.en i v⟩ : DS).cells := by
  match i, hi with
  | 0, _ => rfl
  | 1, _ => rfl
  | 2, _ => rfl
  | 3, _ => rfl
  | 4, _ => rfl
  | 5, _ => rfl
theorem DS.Ok.mono (h : d.Ok B) {C : Int} (hB : B ≤ C) : d.Ok C := ⟨fun i => by have := h.fb i; omega, fun i => by have := h.eb i; omega, h.eo⟩
theorem DS.Ok.put (h : d.Ok B) {C : Int} (hB : B ≤ C) {i j : Nat} (hj : j < 6) {v : Int} (hv : 0 ≤ v ∧ v ≤ C) : (⟨d.num, upF d.fr i v, upF d.en j v⟩ : DS).Ok C :=
  ⟨upF_rng h.fb hB hv i, upF_rng h.eb hB hv j, fun k hk => by
    show upF d.en j v k = 0
    unfold upF
    rw [if_neg (by omega)]; exact h.eo k hk⟩
theorem begTil_rng (p : Pg) (hr : 0 ≤ p.rest ∧ p.rest ≤ 600) (h : d.Ok B) (hB : 1440 ≤ B) (s : Se) {ear : Int} (he : 0 ≤ ear ∧ ear ≤ 1440) : ∀ k, 0 ≤ begTil p d s ear k ∧ begTil p d s ear k ≤ B + 600
  | 0 => by
    have := h.fb s.court.toNat
    unfold begTil; omega
  | k + 1 => by
    have ih := begTil_rng p hr h hB s he k
    have := h.eb k
    unfold begTil begK
    cases decide (0 < d.en k) && shB p s.job k
    · exact ih
    · simp only [cond_true]; omega
theorem frTo_rng {l : List Sn} (h : ∀ i s, i < l.length → l[i]? = some s → 0 ≤ s.1 ∧ s.1 ≤ 1440) : ∀ k i, 0 ≤ frTo l k i ∧ frTo l k i ≤ 1440
  | 0, i => by show (0 : Int) ≤ 0 ∧ (0 : Int) ≤ 1440; omega
  | k + 1, i => by
    rw [frTo]
    cases e : l[k]? with
    | none => exact frTo_rng h k i
    | some s => exact upF_rng (frTo_rng h k) (Int.le_refl _) (h k s (List.getElem?_eq_some_iff.1 e).1 e) k i
theorem open_ok {p : Pg} (hp : POk p) (n : Int) : (openD p n).Ok 1440 := by
  refine ⟨fun i => ?_, fun i => by show (0 : Int) ≤ 0 ∧ (0 : Int) ≤ 1440; omega, fun i _ => rfl⟩
  unfold openD
  cases e : p.days[n.toNat]? with
  | none => show (0 : Int) ≤ 0 ∧ (0 : Int) ≤ 1440; omega
  | some d =>
    have h1 := hp.dy n.toNat d (List.getElem?_eq_some_iff.1 e).1 e
    exact frTo_rng (fun j s hj hs => by have := h1.2 j s hj hs; omega) _ i
end
end Go.Proofs.YtmlhnajgiopfgaaGreat

namespace Go.Proofs.YtmlhnajgiopfgaaGreat
open Go Go.RowKit

theorem C_play_within (n lo hi : Int) (h : lo ≤ n ∧ n ≤ hi) (w : World) : C0 Tryz.prog 47 [.int .i64 n, .int .i64 lo, .int .i64 hi] w (.bool true) := by
  have h1 : decide (lo ≤ n) = true := decide_eq_true h.1
  have h2 : decide (n ≤ hi) = true := decide_eq_true h.2
  refine ⟨en Tryz.func47 Tryz.ntmps47 (St.init w) (h := fun F => ?_)⟩
  refine sq (h := ?_)
  refine rg (h := ?_)
  refine wy asg ?_
  refine nl (h := ?_)
  refine q_seq (h := ?_)
  refine sq (h := ?_)
  refine rg (h := ?_)
  refine wy mv ?_
  refine wy mv ?_
  refine wy ((Yd.tr (leq) (by exact h1))) ?_
  refine wy mv ?_
  refine un (h := ?_)
  refine wy mv ?_
  refine un (h := ?_)
  refine wy mv ?_
  refine un (h := ?_)
  refine wy ((Yd.tr (leq) (by exact h2))) ?_
  refine wy (by first | exact pkT | exact pkF) ?_
  refine wy asg ?_
  refine nl (h := ?_)
  refine q_seq (h := ?_)
  refine rtn (h := ?_)
  refine q_ret (hR := ?_)
  exact fun w hS => ⟨rfl, hS.sub slz_⟩
theorem C_play_isSpan (s : Sn) (lo hi : Int) (h : lo ≤ s.1 ∧ s.1 ≤ s.2 ∧ s.2 ≤ hi) (w : World) : C0 Tryz.prog 46 [.agg #[.int .i64 s.1, .int .i64 s.2], .int .i64 lo, .int .i64 hi] w (.bool true) := by
  refine ⟨en Tryz.func46 Tryz.ntmps46 (St.init w) (h := fun F => ?_)⟩
  refine sq (h := ?_)
  refine rg (h := ?_)
  refine bxA (h := fun b0 => ?_)
  refine wy asg ?_
  refine nl (h := ?_)
  refine q_seq (h := ?_)
  refine sq (h := ?_)
  refine rg (h := ?_)
  refine wy (by first | exact fa | exact faE) ?_
  refine wy (by first | exact ld | exact ldE) ?_
  refine wy (by first | exact fa | exact faE) ?_
  refine wy (by first | exact ld | exact ldE) ?_
  refine wy ((Yd.tr (leq) (by exact decide_eq_true h.2.1))) ?_
  refine wy mv ?_
  refine un (h := ?_)
  refine wy (by first | exact fa | exact faE) ?_
  refine un (h := ?_)
  refine wy (by first | exact ld | exact ldE) ?_
  refine un (h := ?_)
  refine wy mv ?_
  refine un (h := ?_)
  refine wy mv ?_
  refine un (h := ?_)
  refine cl0 (hc := fun w hS => C_play_within _ _ _ (by omega) w) (h := ?_)
  refine wy (by first | exact pkT | exact pkF) ?_
  refine wy mv ?_
  refine un (h := ?_)
  refine wy (by first | exact fa | exact faE) ?_
  refine un (h := ?_)
  refine wy (by first | exact ld | exact ldE) ?_
  refine un (h := ?_)
  refine wy mv ?_
  refine un (h := ?_)
  refine wy mv ?_
  refine un (h := ?_)
  refine cl0 (hc := fun w hS => C_play_within _ _ _ (by omega) w) (h := ?_)
  refine wy (by first | exact pkT | exact pkF) ?_
  refine wy asg ?_
  refine nl (h := ?_)
  refine q_seq (h := ?_)
  refine rtn (h := ?_)
  refine q_ret (hR := ?_)
  exact fun w hS => ⟨rfl, hS.sub slz_⟩
theorem C_play_isStage (s : Sn) (d : Int) (h : 1 ≤ s.1 ∧ s.1 ≤ s.2 ∧ s.2 ≤ 600) (hd : 0 ≤ d ∧ d ≤ 2) (w : World) : C0 Tryz.prog 27 [.agg #[.int .i64 s.1, .int .i64 s.2], .int .i64 d] w (.bool true) := by
  refine ⟨en Tryz.func27 Tryz.ntmps27 (St.init w) (h := fun F => ?_)⟩
  refine sq (h := ?_)
  refine rg (h := ?_)
  refine bxA (h := fun b0 => ?_)
  refine wy asg ?_
  refine nl (h := ?_)
  refine q_seq (h := ?_)
  refine sq (h := ?_)
  refine rg (h := ?_)
  refine wy (by first | exact ldA | exact ldEA) ?_
  refine cl0 (hc := fun w hS => C_play_isSpan s 1 600 h w) (h := ?_)
  refine wy mv ?_
  refine un (h := ?_)
  refine wy mv ?_
  refine un (h := ?_)
  refine cl0 (hc := fun w hS => C_play_within _ _ _ (by omega) w) (h := ?_)
  refine wy (by first | exact pkT | exact pkF) ?_
  refine wy asg ?_
  refine nl (h := ?_)
  refine q_seq (h := ?_)
  refine rtn (h := ?_)
  refine q_ret (hR := ?_)
  exact fun w hS => ⟨rfl, hS.sub slz_⟩
theorem C_play_Check1 (s : Sn) (h : 0 ≤ s.1 ∧ s.1 ≤ s.2 ∧ s.2 ≤ 1440) (w : World) : C0 Tryz.prog 50 [.agg #[.int .i64 s.1, .int .i64 s.2]] w (.bool false) := by
  refine ⟨en Tryz.func50 Tryz.ntmps50 (St.init w) (h := fun F => ?_)⟩
  refine sq (h := ?_)
  refine rg (h := ?_)
  refine bxA (h := fun b0 => ?_)
  refine wy asg ?_
  refine nl (h := ?_)
  refine q_seq (h := ?_)
  refine sq (h := ?_)
  refine rg (h := ?_)
  refine wy (by first | exact ldA | exact ldEA) ?_
  refine cl0 (hc := fun w hS => C_play_isSpan s 0 1440 h w) (h := ?_)
  refine wy notB ?_
  refine wy asg ?_
  refine nl (h := ?_)
  refine q_seq (h := ?_)
  refine rtn (h := ?_)
  refine q_ret (hR := ?_)
  exact fun w hS => ⟨rfl, hS.sub slz_⟩
theorem C_IndexSpan {A : Option Addr} {n c : Nat} {es : List (List Value)} {g : FuncId} (hg : FnOk Tryz.prog g) (fi cap : List Value) (Lp : List Ent) (p : Nat → Bool) (hn : n ≤ 9223372036854775807)
    (hp : ∀ k cs, es[k]? = some cs → Tr Tryz.prog g (fi ++ [.agg cs.toArray] ++ cap) (.ro A 2 n es :: Lp) (fun _ : Unit => True) (fun _ => .bool (p k)) (fun _ => .ro A 2 n es :: Lp)) :
    Tr Tryz.prog 75 [.slice A n c, .func (.func g) fi.toArray cap.toArray] (.ro A 2 n es :: Lp) (Fst p n) (fun j => .int .i64 j) (fun _ => .ro A 2 n es :: Lp) := by
  refine ⟨fun w0 w R hst => ?_⟩
  have hlen : es.length = n := (hst.ok (.ro A 2 n es) (by simp)).len
  refine en Tryz.func75 Tryz.ntmps75 hst (h := fun F => ?_)
  refine sq (h := ?_)
  refine rg (h := ?_)
  refine wy asg ?_
  refine nl (h := ?_)
  refine q_seq (h := ?_)
  refine sq (h := ?_)
  refine sq (h := ?_)
  refine rg (h := ?_)
  refine wy mv ?_
  refine wy lenS ?_
  refine wy mv ?_
  refine nl (h := ?_)
  refine q_seq (h := ?_)
  refine bk (h := ?_)
  refine lp (X := Nat) (I := fun k => k ≤ n ∧ ∀ i, i < k → p i = false) (le := fun k => [(0, .slice A n c), (1, .func (.func g) fi.toArray cap.toArray), (7, .int .i64 n), (8, .int .i64 k)]) (Le := fun _ => .ro A 2 n es :: (Lp ++ R)) (μ := fun k => n - k) 0 ⟨by omega, fun i hi => by omega⟩ sbz_ (SubL.refl _) (fun k hk => ?_)
  obtain ⟨hk, hall⟩ := hk
  refine sq (h := ?_)
  refine rg (h := ?_)
  refine wy lss ?_
  refine nl (h := ?_)
  refine q_seq (h := ?_)
  refine sq (h := ?_)
  refine cd (by exact rfl) (fun h0 => ?_) (fun h0 => ?_)
  · skip
    have hkn : k < n := by simp only [decide_eq_true_eq] at h0; omega
    have hes : es[k]? = some es[k] := List.getElem?_eq_getElem (by omega)
    refine skp (h := ?_)
    refine q_seq (h := ?_)
    refine sq (h := ?_)
    refine bk (h := ?_)
    refine sq (h := ?_)
    refine rg (h := ?_)
    refine wy mv ?_
    refine wy asg ?_
    refine nl (h := ?_)
    refine q_seq (h := ?_)
    refine sq (h := ?_)
    refine rg (h := ?_)
    refine wy mv ?_
    refine wy mv ?_
    refine wy mv ?_
    refine wy ix ?_
    refine wy (ldEW (k := k) (cs := es[k]) (hk := hes)) ?_
    refine clfT hg (fi := fi) (cap := cap) (by exact rfl) (by repeat (first | exact Evs.nil | (apply Evs.cons; exact rfl))) (hp k _ hes) rfl (Spl.cons .here (Spl.app _ _)) (h := fun _ _ => ?_)
    refine nl (h := ?_)
    refine q_seq (h := ?_)
    refine cd (by exact rfl) (fun h1 => ?_) (fun h1 => ?_)
    · skip
      refine sq (h := ?_)
      refine rg (h := ?_)
      refine wy mv ?_
      refine wy asg ?_
      refine nl (h := ?_)
      refine q_seq (h := ?_)
      refine rtn (h := ?_)
      refine q_blk_ret (h := ?_)
      refine q_then_ret (h := ?_)
      refine q_then_ret (h := ?_)
      refine q_blk_ret (h := ?_)
      refine q_then_ret (h := ?_)
      refine q_ret (hR := ?_)
      exact fun w hS => ⟨_, .inl ⟨k, hkn, rfl, by assumption, hall⟩, rfl, hS⟩
    · skip
      refine skp (h := ?_)
      refine q_blk_norm (h := ?_)
      refine q_seq (h := ?_)
      refine rg (h := ?_)
      refine wy addI ?_
      refine wy mv ?_
      refine nl (h := ?_)
      refine rn (k + 1) ⟨by omega, fun i hi => ?_⟩ (by omega) sbz_ (SubL.refl _)
      rcases Nat.lt_succ_iff_lt_or_eq.1 hi with h | rfl
      · exact hall i h
      · assumption
  · skip
    have hkn : k = n := by simp only [decide_eq_false_iff_not] at h0; omega
    refine et (h := ?_)
    refine q_then_exit (h := ?_)
    refine q_then_exit (h := ?_)
    refine q_blk_hit (h := ?_)
    refine q_seq (h := ?_)
    refine sq (h := ?_)
    refine rg (h := ?_)
    refine wy asg ?_
    refine nl (h := ?_)
    refine q_seq (h := ?_)
    refine rtn (h := ?_)
    refine q_ret (hR := ?_)
    exact fun w hS => ⟨_, .inr ⟨rfl, by subst hkn; exact hall⟩, rfl, hS⟩
theorem C_ContainsSpan {A : Option Addr} {n c : Nat} {es : List (List Value)} {g : FuncId} (hg : FnOk Tryz.prog g) (fi cap : List Value) (Lp : List Ent) (p : Nat → Bool) (hn : n ≤ 9223372036854775807)
    (hp : ∀ k cs, es[k]? = some cs → Tr Tryz.prog g (fi ++ [.agg cs.toArray] ++ cap) (.ro A 2 n es :: Lp) (fun _ : Unit => True) (fun _ => .bool (p k)) (fun _ => .ro A 2 n es :: Lp)) :
    Tr Tryz.prog 49 [.slice A n c, .func (.func g) fi.toArray cap.toArray] (.ro A 2 n es :: Lp) (fun _ : Unit => True) (fun _ => .bool ((List.range n).any p)) (fun _ => .ro A 2 n es :: Lp) := by
  refine ⟨fun w0 w R hst => ?_⟩
  refine en Tryz.func49 Tryz.ntmps49 hst (h := fun F => ?_)
  refine sq (h := ?_)
  refine rg (h := ?_)
  refine wy asg ?_
  refine nl (h := ?_)
  refine q_seq (h := ?_)
  refine sq (h := ?_)
  refine rg (h := ?_)
  refine wy mv ?_
  refine wy mv ?_
  refine clT (hc := C_IndexSpan hg fi cap Lp p hn hp) (hs := Spl.cons .here (Spl.app _ _)) (h := fun x0 hx0 => ?_)
  refine wy geq ?_
  refine wy asg ?_
  refine nl (h := ?_)
  refine q_seq (h := ?_)
  refine rtn (h := ?_)
  refine q_ret (hR := ?_)
  exact fun w hS => ⟨(), trivial, by simp only [resV, hx0.any], hS⟩
theorem no_any (n : Nat) : (List.range n).any (fun _ => false) = false := by rw [List.any_eq_false]; intro x _; decide
theorem any_no {xs : List Int} {y : Int} (h : ∀ x ∈ xs, x ≠ y) : (xs.any fun x => decide (y = x)) = false := List.any_eq_false.2 fun x hx => by rw [decide_eq_true_eq]; exact fun e => h x hx e.symm
theorem any_yes {xs : List Int} {y : Int} (h : y ∈ xs) : (xs.any fun x => decide (y = x)) = true := List.any_eq_true.2 ⟨y, h, decide_eq_true rfl⟩
theorem any_con (xs : List Int) (y : Int) : (xs.any fun x => decide (y = x)) = xs.contains y := by
  rw [Bool.eq_iff_iff, List.any_eq_true, List.contains_iff_mem]
  exact ⟨fun ⟨x, hx, e⟩ => by rw [of_decide_eq_true e]; exact hx, fun h => ⟨y, h, decide_eq_true rfl⟩⟩
theorem C_play_areJobs (l : List Int) (b : Int) (A : Option Addr) (n c : Nat) (hb : 0 ≤ b ∧ b ≤ 1000000) (ha : Asc l b n) (hn : n ≤ 9223372036854775807) (w : World) (h : Rd w A 1 n (enI l)) : C0 Tryz.prog 51 [.slice A n c, .int .i64 b] w (.bool true) := by
  have hlen : l.length = n := by have := h.len; rwa [enI_len] at this
  refine ⟨en Tryz.func51 Tryz.ntmps51 ((St.init w).share (e := .ro A 1 n (enI l)) h rfl rfl rfl) (h := fun F => ?_)⟩
  refine sq (h := ?_)
  refine rg (h := ?_)
  refine wy asg ?_
  refine WL.cut (by repeat (first | exact Cut.nil | apply Cut.hit | apply Cut.miss (by exact rfl))) ?_
  refine nl (h := ?_)
  refine q_seq (h := ?_)
  refine sq (h := ?_)
  refine sq (h := ?_)
  refine rg (h := ?_)
  refine wy mv ?_
  refine wy lenS ?_
  refine wy mv ?_
  refine nl (h := ?_)
  refine q_seq (h := ?_)
  refine bk (h := ?_)
  refine lp (X := Nat) (I := fun k => k ≤ n) (le := fun k => [(0, .slice A n c), (1, .int .i64 b), (7, .slice A n c), (8, .int .i64 n), (9, .int .i64 k)]) (Le := fun _ => [.ro A 1 n (enI l)]) (μ := fun k => n - k) 0 (Nat.zero_le _) sbz_ slz_ (fun k hk => ?_)
  refine sq (h := ?_)
  refine rg (h := ?_)
  refine wy lss ?_
  refine nl (h := ?_)
  refine q_seq (h := ?_)
  refine sq (h := ?_)
  refine cd (by exact rfl) (fun h0 => ?_) (fun h0 => ?_)
  · skip
    have hkn : k < n := by have := of_decide_eq_true h0; omega
    obtain ⟨x, hx⟩ : ∃ x, l[k]? = some x := ⟨_, List.getElem?_eq_getElem (by omega)⟩
    have hxe := enI_at hx
    obtain ⟨hx0, hx1, hx2⟩ := ha k x hkn hx
    refine skp (h := ?_)
    refine q_seq (h := ?_)
    refine sq (h := ?_)
    refine bk (h := ?_)
    refine sq (h := ?_)
    refine rg (h := ?_)
    refine wy mv ?_
    refine wy (ix (A := A) (m := n)) ?_
    refine wy (ldE (A := A) (hk := hxe)) ?_
    refine wy asg ?_
    refine WL.cut (by repeat (first | exact Cut.nil | apply Cut.hit | apply Cut.miss (by exact rfl))) ?_
    refine wy asg ?_
    refine WL.cut (by repeat (first | exact Cut.nil | apply Cut.hit | apply Cut.miss (by exact rfl))) ?_
    refine nl (h := ?_)
    refine q_seq (h := ?_)
    refine sq (h := ?_)
    refine rg (h := ?_)
    refine wy mv ?_
    refine wy mv ?_
    refine wy (subI (hb := by omega)) ?_
    refine cl0 (hc := fun w hS => C_play_within x 0 (b - 1) (by omega) w) (h := ?_)
    refine wy notB ?_
    refine wy mv ?_
    apply brOr 12 19 31 (by exact rfl)
    · intro hb1
      refine un (h := ?_)
      refine wy mv ?_
      refine un (h := ?_)
      refine wy gtr ?_
      refine un (h := ?_)
      refine wy mv ?_
      apply brAnd 8 22 30 (by exact rfl)
      · intro hb2
        have hk0 : 0 < k := by have := of_decide_eq_true hb2; omega
        have hky : (enI l)[((k : Int) - 1).toNat]? = some [.int .i64 (l.getD (k - 1) 0)] := by rw [show ((k : Int) - 1).toNat = k - 1 by omega]; exact enI_at (getD_get (by omega))
        refine un (h := ?_)
        refine wy mv ?_
        refine un (h := ?_)
        refine wy mv ?_
        refine un (h := ?_)
        refine wy mv ?_
        refine un (h := ?_)
        refine wy (subI (hb := by omega)) ?_
        refine un (h := ?_)
        refine wy (ix (A := A) (m := n) (hb := by omega)) ?_
        refine un (h := ?_)
        refine wy (ldE (A := A) (hk := hky)) ?_
        refine un (h := ?_)
        refine wy leq ?_
        refine un (h := ?_)
        refine wy (by first | exact pkT | exact pkF) ?_
        exact mg (by repeat (first | exact trivial | refine ⟨rfl, ?_⟩ | refine ⟨by rw [hb2]; rfl, ?_⟩ | refine ⟨by rw [hb1]; rfl, ?_⟩)) slz_
      · intro hb2
        repeat (first | refine un (h := ?_) | refine sk (h := ?_) | refine WL.y (hy := pkF) (h := ?_) | refine WL.y (hy := pkT) (h := ?_))
        exact mg (by repeat (first | exact trivial | refine ⟨rfl, ?_⟩ | refine ⟨by rw [hb2]; rfl, ?_⟩ | refine ⟨by rw [hb1]; rfl, ?_⟩)) slz_
      refine wy (by first | exact pkT | exact pkF) ?_
      exact mg (by repeat (first | exact trivial | refine ⟨rfl, ?_⟩ | refine ⟨by rw [hb1]; rfl, ?_⟩)) slz_
    · intro hb1
      repeat (first | refine un (h := ?_) | refine sk (h := ?_) | refine WL.y (hy := pkF) (h := ?_) | refine WL.y (hy := pkT) (h := ?_))
      exact mg (by repeat (first | exact trivial | refine ⟨rfl, ?_⟩ | refine ⟨by rw [hb1]; rfl, ?_⟩)) slz_
    refine nl (h := ?_)
    refine q_seq (h := ?_)
    refine cd (by exact rfl) (fun h3 => ?_) (fun h3 => ?_)
    · skip
      have h0 := h3
      rw [Bool.not_true, Bool.false_or, Bool.and_eq_true, decide_eq_true_eq, decide_eq_true_eq] at h0
      exfalso
      have h7 := hx2 (l.getD (k - 1) 0) (by omega) (getD_get (by omega))
      omega
    · skip
      refine skp (h := ?_)
      refine q_blk_norm (h := ?_)
      refine q_seq (h := ?_)
      refine rg (h := ?_)
      refine wy addI ?_
      refine wy mv ?_
      refine nl (h := ?_)
      refine rn (x := k) (k + 1) hkn (by omega) sbz_ slz_
  · skip
    have hkn : k = n := by have := of_decide_eq_false h0; omega
    refine et (h := ?_)
    refine q_then_exit (h := ?_)
    refine q_then_exit (h := ?_)
    refine q_blk_hit (h := ?_)
    refine q_seq (h := ?_)
    refine sq (h := ?_)
    refine rg (h := ?_)
    refine wy asg ?_
    refine WL.cut (by repeat (first | exact Cut.nil | apply Cut.hit | apply Cut.miss (by exact rfl))) ?_
    refine nl (h := ?_)
    refine q_seq (h := ?_)
    refine rtn (h := ?_)
    refine q_ret (hR := ?_)
    exact fun w hS => ⟨rfl, hS.sub slz_⟩
set_option maxRecDepth 100000 in
theorem C_play_Check (p : Pg) (hp : POk p) (w : World) (h : PgR w p) : C0 Tryz.prog 30 [p.val] w (.int .i64 0) := by
  have hnd := hp.nd
  have hre := hp.rest
  have hnj := hp.nj
  have hnc := hp.nc
  obtain ⟨d0, hd0⟩ : ∃ d, p.days[0]? = some d := ⟨_, List.getElem?_eq_getElem (by omega)⟩
  have hn0 := nc_first hd0
  refine ⟨en Tryz.func30 Tryz.ntmps30 (((St.init w).share (e := .ro p.dA 1 p.days.length (encDy p.days)) h.d rfl rfl rfl).share (e := .ro p.jA 6 p.jobs.length (encJb p.jobs)) h.j rfl rfl rfl) (h := fun F => ?_)⟩
  refine sq (h := ?_)
  refine rg (h := ?_)
  refine bxA (h := fun b0 => ?_)
  refine wy asg ?_
  refine WL.cut (by repeat (first | exact Cut.nil | apply Cut.hit | apply Cut.miss (by exact rfl))) ?_
  refine nl (h := ?_)
  refine q_seq (h := ?_)
  refine sq (h := ?_)
  refine sq (h := ?_)
  refine rg (h := ?_)
  refine wy (by first | exact fa | exact faE) ?_
  refine wy (by first | exact ld | exact ldE) ?_
  refine wy lenS ?_
  refine cl0 (hc := fun w hS => C_play_within _ _ _ (by omega) w) (h := ?_)
  refine wy notB ?_
  refine wy mv ?_
  apply brOr 5 12 17 (by exact rfl)
  · intro hb0
    refine un (h := ?_)
    refine wy (by first | exact fa | exact faE) ?_
    refine un (h := ?_)
    refine wy (by first | exact ld | exact ldE) ?_
    refine un (h := ?_)
    refine cl0 (hc := fun w hS => C_play_within _ _ _ (by omega) w) (h := ?_)
    refine un (h := ?_)
    refine wy notB ?_
    refine wy (by first | exact pkT | exact pkF) ?_
    exact mg (by repeat (first | exact trivial | refine ⟨rfl, ?_⟩ | refine ⟨by rw [hb0]; rfl, ?_⟩)) slz_
  · intro hb0
    repeat (first | refine un (h := ?_) | refine sk (h := ?_) | refine WL.y (hy := pkF) (h := ?_) | refine WL.y (hy := pkT) (h := ?_))
    exact mg (by repeat (first | exact trivial | refine ⟨rfl, ?_⟩ | refine ⟨by rw [hb0]; rfl, ?_⟩)) slz_
  refine wy mv ?_
  apply brOr 5 18 23 (by exact rfl)
  · intro hb1
    refine un (h := ?_)
    refine wy (by first | exact fa | exact faE) ?_
    refine un (h := ?_)
    refine wy (by first | exact ld | exact ldE) ?_
    refine un (h := ?_)
    refine wy lenS ?_
    refine un (h := ?_)
    refine wy ((Yd.fl (gtr) (by refine decide_eq_false ?_; omega))) ?_
    refine wy (by first | exact pkT | exact pkF) ?_
    exact mg (by repeat (first | exact trivial | refine ⟨rfl, ?_⟩ | refine ⟨by rw [hb1]; rfl, ?_⟩)) slz_
  · intro hb1
    repeat (first | refine un (h := ?_) | refine sk (h := ?_) | refine WL.y (hy := pkF) (h := ?_) | refine WL.y (hy := pkT) (h := ?_))
    exact mg (by repeat (first | exact trivial | refine ⟨rfl, ?_⟩ | refine ⟨by rw [hb1]; rfl, ?_⟩)) slz_
  refine nl (h := ?_)
  refine q_seq (h := ?_)
  refine cd (by exact rfl) (fun h2 => ?_) (fun h2 => ?_)
  · skip
    exact absurd h2 Bool.false_ne_true
  · skip
    refine skp (h := ?_)
    refine q_seq (h := ?_)
    refine sq (h := ?_)
    refine sq (h := ?_)
    refine rg (h := ?_)
    refine wy (by first | exact fa | exact faE) ?_
    refine wy (by first | exact ld | exact ldE) ?_
    refine wy lenS ?_
    refine wy mv ?_
    refine nl (h := ?_)
    refine q_seq (h := ?_)
    refine bk (h := ?_)
    refine lp (X := Nat) (I := fun k => k ≤ p.days.length) (le := fun k => [(1, .pointer (some ⟨b0, 0, none⟩)), (25, .slice p.dA p.days.length p.dc), (26, .int .i64 p.days.length), (27, .int .i64 k)]) (Le := fun _ => [.blk b0 39 p.cells, .ro p.dA 1 p.days.length (encDy p.days), .ro p.jA 6 p.jobs.length (encJb p.jobs)]) (μ := fun k => p.days.length - k) 0 (Nat.zero_le _) sbz_ slz_ (fun k hk => ?_)
    refine sq (h := ?_)
    refine rg (h := ?_)
    refine wy lss ?_
    refine nl (h := ?_)
    refine q_seq (h := ?_)
    refine sq (h := ?_)
    refine cd (by exact rfl) (fun h3 => ?_) (fun h3 => ?_)
    · skip
      have hkn : k < p.days.length := by have := of_decide_eq_true h3; omega
      obtain ⟨d, hd⟩ : ∃ d, p.days[k]? = some d := ⟨_, List.getElem?_eq_getElem hkn⟩
      obtain ⟨hdl, hds⟩ := hp.dy k d hkn hd
      have hdm := List.mem_of_getElem? hd
      refine skp (h := ?_)
      refine q_seq (h := ?_)
      refine sq (h := ?_)
      refine bk (h := ?_)
      refine sq (h := ?_)
      refine rg (h := ?_)
      refine wy (ix (A := p.dA) (m := p.days.length)) ?_
      refine wy (ldE (A := p.dA) (hk := encDy_at hd)) ?_
      refine wy asg ?_
      refine WL.cut (by repeat (first | exact Cut.nil | apply Cut.hit | apply Cut.miss (by exact rfl))) ?_
      refine nl (h := ?_)
      refine q_seq (h := ?_)
      refine sq (h := ?_)
      refine sq (h := ?_)
      refine rg (h := ?_)
      refine wy mv ?_
      refine wy lenS ?_
      refine cl0 (hc := fun w hS => C_play_within _ _ _ (by omega) w) (h := ?_)
      refine wy notB ?_
      refine wy mv ?_
      apply brOr 9 35 44 (by exact rfl)
      · intro hb4
        refine un (h := ?_)
        refine wy mv ?_
        refine un (h := ?_)
        refine wy lenS ?_
        refine un (h := ?_)
        refine wy (by first | exact fa | exact faE) ?_
        refine un (h := ?_)
        refine wy (by first | exact ld | exact ldE) ?_
        refine un (h := ?_)
        refine wy (ix (A := p.dA) (m := p.days.length) (hb := by omega)) ?_
        refine un (h := ?_)
        refine wy (ldE (A := p.dA) (k := 0) (hk := encDy_at hd0)) ?_
        refine un (h := ?_)
        refine wy lenS ?_
        refine un (h := ?_)
        refine wy ((Yd.fl (neq) (by simp only [Bool.not_eq_false', decide_eq_true_eq]; omega))) ?_
        refine wy (by first | exact pkT | exact pkF) ?_
        exact mg (by repeat (first | exact trivial | refine ⟨rfl, ?_⟩ | refine ⟨by rw [hb4]; rfl, ?_⟩)) slz_
      · intro hb4
        repeat (first | refine un (h := ?_) | refine sk (h := ?_) | refine WL.y (hy := pkF) (h := ?_) | refine WL.y (hy := pkT) (h := ?_))
        exact mg (by repeat (first | exact trivial | refine ⟨rfl, ?_⟩ | refine ⟨by rw [hb4]; rfl, ?_⟩)) slz_
      refine nl (h := ?_)
      refine q_seq (h := ?_)
      refine cd (by exact rfl) (fun h5 => ?_) (fun h5 => ?_)
      · skip
        exact absurd h5 Bool.false_ne_true
      · skip
        refine skp (h := ?_)
        refine q_seq (h := ?_)
        refine sq (h := ?_)
        refine WC.old (h.s d hdm) ?_
        refine rg (h := ?_)
        refine wy mv ?_
        refine clT (hc := C_ContainsSpan (A := d.A) (n := d.sp.length) (c := d.c) (es := encSn d.sp) (g := 50) inferInstance [] [] [] (fun _ => false) (h.sn d hdm) (fun i cs hcs => by
          have hil : i < d.sp.length := by have := (List.getElem?_eq_some_iff.1 hcs).1; rwa [encSn_len] at this
          have hsi : d.sp[i]? = some d.sp[i] := List.getElem?_eq_getElem hil
          rw [encSn_at hsi] at hcs
          obtain rfl := Option.some.inj hcs
          exact C0.tr _ (C_play_Check1 d.sp[i] (hds i _ hil hsi)))) (hs := Spl.cons atz_ (Spl.app _ _)) (h := fun _ _ => ?_)
        rw [no_any]
        refine nl (h := ?_)
        refine q_seq (h := ?_)
        refine cdF (h := ?_)
        refine skp (h := ?_)
        refine q_blk_norm (h := ?_)
        refine q_seq (h := ?_)
        refine rg (h := ?_)
        refine wy addI ?_
        refine wy mv ?_
        refine nl (h := ?_)
        refine rn (x := k) (k + 1) hkn (by omega) sbz_ slz_
    · skip
      have hkn : k = p.days.length := by have := of_decide_eq_false h3; omega
      refine et (h := ?_)
      refine q_then_exit (h := ?_)
      refine q_then_exit (h := ?_)
      refine q_blk_hit (h := ?_)
      refine q_seq (h := ?_)
      refine sq (h := ?_)
      refine sq (h := ?_)
      refine rg (h := ?_)
      refine wy (by first | exact fa | exact faE) ?_
      refine wy (by first | exact ld | exact ldE) ?_
      refine wy lenS ?_
      refine wy mv ?_
      refine nl (h := ?_)
      refine q_seq (h := ?_)
      refine bk (h := ?_)
      refine lp (X := Nat) (I := fun k => k ≤ p.jobs.length) (le := fun k => [(1, .pointer (some ⟨b0, 0, none⟩)), (49, .slice p.jA p.jobs.length p.jc), (50, .int .i64 p.jobs.length), (51, .int .i64 k)]) (Le := fun _ => [.blk b0 39 p.cells, .ro p.dA 1 p.days.length (encDy p.days), .ro p.jA 6 p.jobs.length (encJb p.jobs)]) (μ := fun k => p.jobs.length - k) 0 (Nat.zero_le _) sbz_ slz_ (fun k hk => ?_)
      refine sq (h := ?_)
      refine rg (h := ?_)
      refine wy lss ?_
      refine nl (h := ?_)
      refine q_seq (h := ?_)
      refine sq (h := ?_)
      refine cd (by exact rfl) (fun h7 => ?_) (fun h7 => ?_)
      · skip
        have hkn : k < p.jobs.length := by have := of_decide_eq_true h7; omega
        obtain ⟨j, hj⟩ : ∃ j, p.jobs[k]? = some j := ⟨_, List.getElem?_eq_getElem hkn⟩
        have hjo := hp.jb k j hkn hj
        have hjm := List.mem_of_getElem? hj
        have hje := hjo.ear
        refine WC.old (h.f j hjm) ?_
        refine WC.old (h.w j hjm) ?_
        refine skp (h := ?_)
        refine q_seq (h := ?_)
        refine sq (h := ?_)
        refine bk (h := ?_)
        refine sq (h := ?_)
        refine rg (h := ?_)
        refine wy mv ?_
        refine wy (ix (A := p.jA) (m := p.jobs.length)) ?_
        refine wy (ldEW (A := p.jA) (hk := encJb_at hj)) ?_
        refine al (h := fun b1 => ?_)
        refine wy asg ?_
        refine WL.cut (by repeat (first | exact Cut.nil | apply Cut.hit | apply Cut.miss (by exact rfl))) ?_
        first | refine stA (h := ?_) | refine stEA (h := ?_)
        refine nl (h := ?_)
        refine q_seq (h := ?_)
        refine sq (h := ?_)
        refine rg (h := ?_)
        refine wy (by first | exact fa | exact faE) ?_
        refine wy (by first | exact ldA | exact ldEA) ?_
        refine wy (by first | exact fa | exact faE) ?_
        refine wy (by first | exact ld | exact ldE) ?_
        refine cl0 (hc := fun w hS => C_play_isStage j.len j.due hjo.len hjo.due w) (h := ?_)
        refine wy notB ?_
        refine wy mv ?_
        apply brOr 5 62 67 (by exact rfl)
        · intro hb8
          refine un (h := ?_)
          refine wy (by first | exact fa | exact faE) ?_
          refine un (h := ?_)
          refine wy (by first | exact ld | exact ldE) ?_
          refine un (h := ?_)
          refine cl0 (hc := fun w hS => C_play_within j.ear 0 1440 hje w) (h := ?_)
          refine un (h := ?_)
          refine wy notB ?_
          refine wy (by first | exact pkT | exact pkF) ?_
          exact mg (by repeat (first | exact trivial | refine ⟨rfl, ?_⟩ | refine ⟨by rw [hb8]; rfl, ?_⟩)) slz_
        · intro hb8
          repeat (first | refine un (h := ?_) | refine sk (h := ?_) | refine WL.y (hy := pkF) (h := ?_) | refine WL.y (hy := pkT) (h := ?_))
          exact mg (by repeat (first | exact trivial | refine ⟨rfl, ?_⟩ | refine ⟨by rw [hb8]; rfl, ?_⟩)) slz_
        refine wy mv ?_
        apply brOr 6 68 74 (by exact rfl)
        · intro hb9
          refine un (h := ?_)
          refine wy (by first | exact fa | exact faE) ?_
          refine un (h := ?_)
          refine wy (by first | exact ld | exact ldE) ?_
          refine un (h := ?_)
          refine wy mv ?_
          refine un (h := ?_)
          refine cl0 (hc := fun w hS => C_play_areJobs j.af k j.fA j.af.length j.fc (by omega) hjo.af (h.fn j hjm) w (hS.get rdz_)) (h := ?_)
          refine un (h := ?_)
          refine wy notB ?_
          refine wy (by first | exact pkT | exact pkF) ?_
          exact mg (by repeat (first | exact trivial | refine ⟨rfl, ?_⟩ | refine ⟨by rw [hb9]; rfl, ?_⟩)) slz_
        · intro hb9
          repeat (first | refine un (h := ?_) | refine sk (h := ?_) | refine WL.y (hy := pkF) (h := ?_) | refine WL.y (hy := pkT) (h := ?_))
          exact mg (by repeat (first | exact trivial | refine ⟨rfl, ?_⟩ | refine ⟨by rw [hb9]; rfl, ?_⟩)) slz_
        refine wy mv ?_
        apply brOr 8 75 83 (by exact rfl)
        · intro hb10
          refine un (h := ?_)
          refine wy (by first | exact fa | exact faE) ?_
          refine un (h := ?_)
          refine wy (by first | exact ld | exact ldE) ?_
          refine un (h := ?_)
          refine wy (by first | exact fa | exact faE) ?_
          refine un (h := ?_)
          refine wy (by first | exact ld | exact ldE) ?_
          refine un (h := ?_)
          refine wy lenS ?_
          refine un (h := ?_)
          refine cl0 (hc := fun w hS => C_play_areJobs j.wi p.jobs.length j.wA j.wi.length j.wc (by omega) hjo.wi (h.wn j hjm) w (hS.get rdz_)) (h := ?_)
          refine un (h := ?_)
          refine wy notB ?_
          refine wy (by first | exact pkT | exact pkF) ?_
          exact mg (by repeat (first | exact trivial | refine ⟨rfl, ?_⟩ | refine ⟨by rw [hb10]; rfl, ?_⟩)) slz_
        · intro hb10
          repeat (first | refine un (h := ?_) | refine sk (h := ?_) | refine WL.y (hy := pkF) (h := ?_) | refine WL.y (hy := pkT) (h := ?_))
          exact mg (by repeat (first | exact trivial | refine ⟨rfl, ?_⟩ | refine ⟨by rw [hb10]; rfl, ?_⟩)) slz_
        refine wy mv ?_
        apply brOr 5 84 89 (by exact rfl)
        · intro hb11
          refine un (h := ?_)
          refine wy (by first | exact fa | exact faE) ?_
          refine un (h := ?_)
          refine wy (by first | exact ld | exact ldE) ?_
          refine un (h := ?_)
          refine wy mv ?_
          refine un (h := ?_)
          refine cl0 (hc := fun w hS => C_slices_Contains j.wi k j.wA j.wi.length j.wc w (hS.get rdz_) (h.wn j hjm)) (h := ?_)
          rw [any_no hjo.no]
          refine wy (by first | exact pkT | exact pkF) ?_
          exact mg (by repeat (first | exact trivial | refine ⟨rfl, ?_⟩ | refine ⟨by rw [hb11]; rfl, ?_⟩)) slz_
        · intro hb11
          repeat (first | refine un (h := ?_) | refine sk (h := ?_) | refine WL.y (hy := pkF) (h := ?_) | refine WL.y (hy := pkT) (h := ?_))
          exact mg (by repeat (first | exact trivial | refine ⟨rfl, ?_⟩ | refine ⟨by rw [hb11]; rfl, ?_⟩)) slz_
        refine nl (h := ?_)
        refine q_seq (h := ?_)
        refine cd (by exact rfl) (fun h12 => ?_) (fun h12 => ?_)
        · skip
          exact absurd h12 Bool.false_ne_true
        · skip
          refine skp (h := ?_)
          refine q_blk_norm (h := ?_)
          refine q_seq (h := ?_)
          refine rg (h := ?_)
          refine wy addI ?_
          refine wy mv ?_
          refine nl (h := ?_)
          refine rn (x := k) (k + 1) hkn (by omega) sbz_ slz_
      · skip
        have hkn : k = p.jobs.length := by have := of_decide_eq_false h7; omega
        refine et (h := ?_)
        refine q_then_exit (h := ?_)
        refine q_then_exit (h := ?_)
        refine q_blk_hit (h := ?_)
        refine q_seq (h := ?_)
        refine sq (h := ?_)
        refine rg (h := ?_)
        refine wy asg ?_
        refine WL.cut (by repeat (first | exact Cut.nil | apply Cut.hit | apply Cut.miss (by exact rfl))) ?_
        refine nl (h := ?_)
        refine q_seq (h := ?_)
        refine rtn (h := ?_)
        refine q_ret (hR := ?_)
        exact fun w hS => ⟨rfl, hS.sub slz_⟩
end Go.Proofs.YtmlhnajgiopfgaaGreat

namespace Go.Proofs.YtmlhnajgiopfgaaGreat
open Go Go.RowKit

def jobsT (o : List Se) (k : Nat) : List Int := (o.take k).map (·.job)
theorem jobsT_len {o : List Se} {k : Nat} (h : k ≤ o.length) : (jobsT o k).length = k := by unfold jobsT; rw [List.length_map, List.length_take]; omega
theorem jobsT_succ {o : List Se} {k : Nat} {s : Se} (h : o[k]? = some s) : jobsT o (k + 1) = jobsT o k ++ [s.job] := by unfold jobsT; rw [List.take_add_one, h, List.map_append]; rfl
theorem T_isOrder1 (xs : List Int) (x : Int) (b : Nat) (A : Option Addr) (k c : Nat) (hk : k ≤ 1000) : Tr Tryz.prog 67 [.int .i64 x, .pointer (some ⟨b, 0, none⟩)] [.blk b 22 [.slice A k c], .own A c 3 1 k (enI xs)] (fun _ : Unit => True) (fun _ => .bool (!xs.any fun y => decide (x = y))) (fun _ => [.blk b 22 [.slice A k c], .own A c 3 1 k (enI xs)]) := by
  refine ⟨fun w0 w R hst => ?_⟩
  refine en Tryz.func67 Tryz.ntmps67 hst (h := fun F => ?_)
  refine sq (h := ?_)
  refine rg (h := ?_)
  refine wy asg ?_
  refine nl (h := ?_)
  refine q_seq (h := ?_)
  refine sq (h := ?_)
  refine rg (h := ?_)
  refine wy (by first | exact ld | exact ldE) ?_
  refine wy mv ?_
  refine cl0 (hc := fun w hS => C_slices_Contains xs x A k c w (hS.get rdz_) (by omega)) (h := ?_)
  refine wy notB ?_
  refine wy asg ?_
  refine nl (h := ?_)
  refine q_seq (h := ?_)
  refine rtn (h := ?_)
  refine q_ret (hR := ?_)
  exact fun w hS => ⟨(), trivial, rfl, hS.sub slz_⟩
structure DoZ where
  (k : Nat) (A : Option Addr) (c : Nat)
set_option maxRecDepth 100000 in
theorem C_play_isOrder (p : Pg) (hp : POk p) (o : List Se) (hO : OOk p o) (oA : Option Addr) (n oc : Nat) (w : World) (h : PgR w p) (ho : Rd w oA 3 n (encSe o)) : C0 Tryz.prog 38 [p.val, .slice oA n oc] w (.bool true) := by
  have hlen : o.length = n := by have := ho.len; rwa [encSe_len] at this
  have hnd := hp.nd
  have hnj := hp.nj
  have hnc := hp.nc
  have hon := hO.n
  obtain ⟨d0, hd0⟩ : ∃ d, p.days[0]? = some d := ⟨_, List.getElem?_eq_getElem (by omega)⟩
  have hn0 := nc_first hd0
  refine ⟨en Tryz.func38 Tryz.ntmps38 ((((St.init w).share (e := .ro p.dA 1 p.days.length (encDy p.days)) h.d rfl rfl rfl).share (e := .ro p.jA 6 p.jobs.length (encJb p.jobs)) h.j rfl rfl rfl).share (e := .ro oA 3 n (encSe o)) ho rfl rfl rfl) (h := fun F => ?_)⟩
  refine sq (h := ?_)
  refine rg (h := ?_)
  refine bxA (h := fun b0 => ?_)
  refine wy asg ?_
  refine WL.cut (by repeat (first | exact Cut.nil | apply Cut.hit | apply Cut.miss (by exact rfl))) ?_
  refine nl (h := ?_)
  refine q_seq (h := ?_)
  refine sq (h := ?_)
  refine rg (h := ?_)
  refine al (h := fun b1 => ?_)
  refine nl (h := ?_)
  refine q_seq (h := ?_)
  refine sq (h := ?_)
  refine sq (h := ?_)
  refine WC.nilOwn 3 1 (h := ?_)
  refine rg (h := ?_)
  refine wy mv ?_
  refine wy lenS ?_
  refine wy mv ?_
  refine nl (h := ?_)
  refine q_seq (h := ?_)
  refine bk (h := ?_)
  refine lp (X := DoZ) (I := fun z => z.k ≤ n) (le := fun z => [(1, .slice oA n oc), (2, .pointer (some ⟨b0, 0, none⟩)), (5, .pointer (some ⟨b1, 0, none⟩)), (10, .slice oA n oc), (11, .int .i64 n), (12, .int .i64 z.k)]) (Le := fun z => [.own z.A z.c 3 1 z.k (enI (jobsT o z.k)), .blk b1 22 [.slice z.A z.k z.c], .blk b0 39 p.cells, .ro p.dA 1 p.days.length (encDy p.days), .ro p.jA 6 p.jobs.length (encJb p.jobs), .ro oA 3 n (encSe o)]) (μ := fun z => n - z.k) ⟨0, none, 0⟩ (Nat.zero_le _) sbz_ slz_ (fun z hz => ?_)
  refine sq (h := ?_)
  refine rg (h := ?_)
  refine wy lss ?_
  refine nl (h := ?_)
  refine q_seq (h := ?_)
  refine sq (h := ?_)
  refine cd (by exact rfl) (fun h0 => ?_) (fun h0 => ?_)
  · skip
    have hkn : z.k < n := by have := of_decide_eq_true h0; omega
    obtain ⟨s, hs⟩ : ∃ s, o[z.k]? = some s := ⟨_, List.getElem?_eq_getElem (by omega)⟩
    have hm := hO.at_ z.k s (by omega) hs
    have hmj := hm.job
    have hmd := hm.day
    have hmc := hm.court
    obtain ⟨j, hj⟩ : ∃ j, p.jobs[s.job.toNat]? = some j := ⟨_, List.getElem?_eq_getElem (by omega)⟩
    have hjm := List.mem_of_getElem? hj
    have hjd := hm.due j hj
    have hjl := jobsT_len (o := o) (k := z.k) (by omega)
    have hjs := jobsT_succ hs
    refine skp (h := ?_)
    refine q_seq (h := ?_)
    refine sq (h := ?_)
    refine bk (h := ?_)
    refine sq (h := ?_)
    refine rg (h := ?_)
    refine wy mv ?_
    refine wy (ix (A := oA) (m := n)) ?_
    refine wy (ldEW (A := oA) (hk := encSe_at hs)) ?_
    refine al (h := fun b2 => ?_)
    refine wy asg ?_
    refine WL.cut (by repeat (first | exact Cut.nil | apply Cut.hit | apply Cut.miss (by exact rfl))) ?_
    first | refine stA (h := ?_) | refine stEA (h := ?_)
    refine nl (h := ?_)
    refine q_seq (h := ?_)
    refine sq (h := ?_)
    refine sq (h := ?_)
    refine rgD0 (by kernel_rfl) (h := ?_)
    refine tk 0 (hy := (by first | exact fa | exact faE)) (h := ?_)
    refine tk 1 (hy := (by first | exact ld | exact ldE)) (h := ?_)
    refine tk 2 (hy := (by first | exact fa | exact faE)) (h := ?_)
    refine tk 3 (hy := (by first | exact ld | exact ldE)) (h := ?_)
    refine tk 4 (hy := lenS) (h := ?_)
    refine tk 5 (hy := subI (hb := by omega)) (h := ?_)
    refine one 6 (h := ?_)
    refine cl0 (hc := fun w hS => C_play_within s.job 0 ((p.jobs.length : Int) - 1) (by omega) w) (h := ?_)
    refine nx (h := ?_)
    refine tk 7 (hy := (Yd.fl (notB) (by rfl))) (h := ?_)
    refine tk 8 (hy := mv) (h := ?_)
    refine tk 9 (hy := (by first | exact ld | exact ldE)) (h := ?_)
    refine tk 10 (hy := (by first | exact fa | exact faE)) (h := ?_)
    refine tk 11 (hy := (by first | exact ld | exact ldE)) (h := ?_)
    refine one 12 (h := ?_)
    refine un (h := ?_)
    refine cl0 (hc := fun w hS => C_slices_Contains (jobsT o z.k) s.job z.A z.k z.c w (hS.get rdz_) (by omega)) (h := ?_)
    rw [any_no (xs := jobsT o z.k) (y := s.job) (fun x hx => by
      obtain ⟨t, ht, rfl⟩ := List.mem_map.1 hx
      exact hm.new t ht)]
    refine nx (h := ?_)
    refine tk 13 (hy := (by first | exact pkT | exact pkF)) (h := ?_)
    refine tk 14 (hy := mv) (h := ?_)
    refine tk 15 (hy := (by first | exact fa | exact faE)) (h := ?_)
    refine tk 16 (hy := (by first | exact ld | exact ldE)) (h := ?_)
    refine tk 17 (hy := (by first | exact fa | exact faE)) (h := ?_)
    refine tk 18 (hy := (by first | exact ld | exact ldE)) (h := ?_)
    refine tk 19 (hy := lenS) (h := ?_)
    refine tk 20 (hy := subI (hb := by omega)) (h := ?_)
    refine one 21 (h := ?_)
    refine un (h := ?_)
    refine cl0 (hc := fun w hS => C_play_within s.day 0 ((p.days.length : Int) - 1) (by omega) w) (h := ?_)
    refine nx (h := ?_)
    refine tk 22 (hy := (Yd.fl (notB) (by rfl))) (h := ?_)
    refine tk 23 (hy := (by first | exact pkT | exact pkF)) (h := ?_)
    refine tk 24 (hy := mv) (h := ?_)
    refine tk 25 (hy := (by first | exact fa | exact faE)) (h := ?_)
    refine tk 26 (hy := (by first | exact ld | exact ldE)) (h := ?_)
    refine tk 27 (hy := (by first | exact fa | exact faE)) (h := ?_)
    refine tk 28 (hy := (by first | exact ld | exact ldE)) (h := ?_)
    refine tk 29 (hy := ix (A := p.dA) (m := p.days.length) (hb := by omega)) (h := ?_)
    refine tk 30 (hy := ldE (A := p.dA) (k := 0) (hk := encDy_at hd0)) (h := ?_)
    refine tk 31 (hy := lenS) (h := ?_)
    refine tk 32 (hy := subI (hb := by omega)) (h := ?_)
    refine one 33 (h := ?_)
    refine un (h := ?_)
    refine cl0 (hc := fun w hS => C_play_within s.court 0 ((d0.sp.length : Int) - 1) (by omega) w) (h := ?_)
    refine nx (h := ?_)
    refine tk 34 (hy := (Yd.fl (notB) (by rfl))) (h := ?_)
    refine tk 35 (hy := (by first | exact pkT | exact pkF)) (h := ?_)
    refine dn (h := ?_)
    refine q_seq (h := ?_)
    refine cdF (h := ?_)
    refine skp (h := ?_)
    refine q_seq (h := ?_)
    refine sq (h := ?_)
    refine rg (h := ?_)
    refine wy (by first | exact fa | exact faE) ?_
    refine wy (by first | exact ld | exact ldE) ?_
    refine wy (by first | exact fa | exact faE) ?_
    refine wy (by first | exact ld | exact ldE) ?_
    refine wy (ix (A := p.jA) (m := p.jobs.length) (hb := by omega)) ?_
    refine wy (ldEW (A := p.jA) (hk := encJb_at hj)) ?_
    refine al (h := fun b3 => ?_)
    first | refine stA (h := ?_) | refine stEA (h := ?_)
    refine nl (h := ?_)
    refine q_seq (h := ?_)
    refine sq (h := ?_)
    refine WC.old (h.f j hjm) ?_
    refine rg (h := ?_)
    refine wy (by first | exact fa | exact faE) ?_
    refine wy (by first | exact ld | exact ldE) ?_
    refine wy mkf ?_
    refine clT (hc := T_ContainsInt (E := .ro j.fA 1 j.af.length (enI j.af)) (A := j.fA) (c := j.fc) (ws := j.af) (fun w h => h) (g := 67) inferInstance [] [.pointer (some ⟨b1, 0, none⟩)] [.blk b1 22 [.slice z.A z.k z.c], .own z.A z.c 3 1 z.k (enI (jobsT o z.k))] (fun x => !(jobsT o z.k).any fun y => decide (x = y)) (h.fn j hjm) rfl (fun x _ => T_isOrder1 (jobsT o z.k) x b1 z.A z.k z.c (by omega))) (hs := (by repeat (first | exact Spl.nil | (apply Spl.cons; (repeat (first | exact At.here | apply At.there)))))) (h := fun _ _ => ?_)
    rw [show (List.range j.af.length).any (pAt j.af fun x => !(jobsT o z.k).any fun y => decide (x = y)) = false by
      rw [pAt_any]
      refine List.any_eq_false.2 fun x hx => ?_
      obtain ⟨t, ht, e⟩ := hm.af j hj x hx
      rw [any_yes (xs := jobsT o z.k) (y := x) (List.mem_map.2 ⟨t, ht, e⟩)]; decide]
    refine wy asg ?_
    refine WL.cut (by repeat (first | exact Cut.nil | apply Cut.hit | apply Cut.miss (by exact rfl))) ?_
    refine nl (h := ?_)
    refine q_seq (h := ?_)
    refine sq (h := ?_)
    refine sq (h := ?_)
    refine rgD0 (by kernel_rfl) (h := ?_)
    refine tk 0 (hy := (by first | exact fa | exact faE)) (h := ?_)
    refine tk 1 (hy := (by first | exact ld | exact ldE)) (h := ?_)
    refine tk 2 (hy := (by first | exact fa | exact faE)) (h := ?_)
    refine tk 3 (hy := (by first | exact ld | exact ldE)) (h := ?_)
    refine tk 4 (hy := (Yd.fl (gtr) (by refine decide_eq_false ?_; omega))) (h := ?_)
    refine tk 5 (hy := mv) (h := ?_)
    refine tk 6 (hy := (Yd.fl (mv) (by rfl))) (h := ?_)
    refine tk 7 (hy := (by first | exact pkT | exact pkF)) (h := ?_)
    refine tk 8 (hy := mv) (h := ?_)
    refine tk 9 (hy := mv) (h := ?_)
    refine tk 10 (hy := gtr) (h := ?_)
    refine tk 11 (hy := mv) (h := ?_)
    refine brH (g := 74) (by exact rfl) (fun hb2 => ?_) (fun hb2 => ?_)
    · skip
      have hk0 : 0 < z.k := by have := of_decide_eq_true hb2; omega
      obtain ⟨y, hy⟩ : ∃ y, o[z.k - 1]? = some y := ⟨_, List.getElem?_eq_getElem (by omega)⟩
      have hyd : y.day ≤ s.day := hm.days y (List.mem_of_getElem? (i := z.k - 1) (by rw [List.getElem?_take, if_pos (by omega)]; exact hy))
      have hye : (encSe o)[((z.k : Int) - 1).toNat]? = some y.cells := by rw [show ((z.k : Int) - 1).toNat = z.k - 1 by omega]; exact encSe_at hy
      refine tk 12 (hy := (by first | exact fa | exact faE)) (h := ?_)
      refine tk 13 (hy := (by first | exact ld | exact ldE)) (h := ?_)
      refine tk 14 (hy := mv) (h := ?_)
      refine tk 15 (hy := mv) (h := ?_)
      refine tk 16 (hy := subI (hb := by omega)) (h := ?_)
      refine tk 17 (hy := ix (A := oA) (m := n) (hb := by omega)) (h := ?_)
      refine tk 18 (hy := (by first | exact fa | exact faE)) (h := ?_)
      refine tk 19 (hy := ldE (A := oA) (hk := hye)) (h := ?_)
      refine tk 20 (hy := (Yd.fl (lss) (by refine decide_eq_false ?_; omega))) (h := ?_)
      refine tk 21 (hy := (by first | exact pkT | exact pkF)) (h := ?_)
      refine tk 22 (hy := (by first | exact pkT | exact pkF)) (h := ?_)
      refine dn (h := ?_)
      refine q_seq (h := ?_)
      refine cdF (h := ?_)
      refine skp (h := ?_)
      refine q_seq (h := ?_)
      refine rg (h := ?_)
      refine wy (by first | exact ld | exact ldE) ?_
      refine wy (by first | exact fa | exact faE) ?_
      refine wy (by first | exact ld | exact ldE) ?_
      refine bs (h := fun b4 => ?_)
      refine ap (es := enI (jobsT o z.k)) (m := z.k) (k := 1) (A := z.A) (c := z.c) (es2 := [[.int .i64 s.job]]) (h := fun A1 c1 => ?_)
      rw [show enI (jobsT o z.k) ++ [[Value.int .i64 s.job]] = enI (jobsT o (z.k + 1)) by rw [hjs]; unfold enI; rw [List.map_append]; rfl]
      first | refine st (h := ?_) | refine stE (h := ?_)
      refine nl (h := ?_)
      refine q_blk_norm (h := ?_)
      refine q_seq (h := ?_)
      refine rg (h := ?_)
      refine wy addI ?_
      refine wy mv ?_
      refine nl (h := ?_)
      refine rn (x := z) ⟨z.k + 1, A1, c1⟩ hkn (by dsimp only; omega) sbz_ slz_
    · skip
      refine tkS 12 (h := ?_)
      refine tkS 13 (h := ?_)
      refine tkS 14 (h := ?_)
      refine tkS 15 (h := ?_)
      refine tkS 16 (h := ?_)
      refine tkS 17 (h := ?_)
      refine tkS 18 (h := ?_)
      refine tkS 19 (h := ?_)
      refine tkS 20 (h := ?_)
      refine tk 21 (hy := (by first | exact pkT | exact pkF)) (h := ?_)
      refine tk 22 (hy := (by first | exact pkT | exact pkF)) (h := ?_)
      refine dn (h := ?_)
      refine q_seq (h := ?_)
      refine cdF (h := ?_)
      refine skp (h := ?_)
      refine q_seq (h := ?_)
      refine rg (h := ?_)
      refine wy (by first | exact ld | exact ldE) ?_
      refine wy (by first | exact fa | exact faE) ?_
      refine wy (by first | exact ld | exact ldE) ?_
      refine bs (h := fun b5 => ?_)
      refine ap (es := enI (jobsT o z.k)) (m := z.k) (k := 1) (A := z.A) (c := z.c) (es2 := [[.int .i64 s.job]]) (h := fun A1 c1 => ?_)
      rw [show enI (jobsT o z.k) ++ [[Value.int .i64 s.job]] = enI (jobsT o (z.k + 1)) by rw [hjs]; unfold enI; rw [List.map_append]; rfl]
      first | refine st (h := ?_) | refine stE (h := ?_)
      refine nl (h := ?_)
      refine q_blk_norm (h := ?_)
      refine q_seq (h := ?_)
      refine rg (h := ?_)
      refine wy addI ?_
      refine wy mv ?_
      refine nl (h := ?_)
      refine rn (x := z) ⟨z.k + 1, A1, c1⟩ hkn (by dsimp only; omega) sbz_ slz_
  · skip
    have hkn : z.k = n := by have := of_decide_eq_false h0; omega
    refine et (h := ?_)
    refine q_then_exit (h := ?_)
    refine q_then_exit (h := ?_)
    refine q_blk_hit (h := ?_)
    refine q_seq (h := ?_)
    refine sq (h := ?_)
    refine rg (h := ?_)
    refine wy (by first | exact ld | exact ldE) ?_
    refine wy lenS ?_
    refine wy (by first | exact fa | exact faE) ?_
    refine wy (by first | exact ld | exact ldE) ?_
    refine wy lenS ?_
    refine wy eql ?_
    refine wy asg ?_
    refine WL.cut (by repeat (first | exact Cut.nil | apply Cut.hit | apply Cut.miss (by exact rfl))) ?_
    refine nl (h := ?_)
    refine q_seq (h := ?_)
    refine rtn (h := ?_)
    refine q_ret (hR := ?_)
    exact fun w hS => ⟨by show Ending.returned (Value.bool (decide ((z.k : Int) = (p.jobs.length : Int)))) = _; rw [decide_eq_true (by omega)], hS.sub slz_⟩
end Go.Proofs.YtmlhnajgiopfgaaGreat

namespace Go.Proofs.YtmlhnajgiopfgaaGreat
open Go Go.RowKit

section rules
variable {P : Program} {n : Nat} {D : List Deferred} {l : Env} {w0 : World} {L : List Ent}
theorem ixvI {x i : Operand} {t e : TypeId} {len bytes : Nat} {z : Value} {zl : List Value} {k : IntKind} {j : Int} {cs : List Value} {v : Value} (hT : ArrayTy P t len e := by infer_instance) (hE : Ty P e false 1 bytes z zl := by infer_instance)
    (hx : ev l x = some (.agg cs.toArray) := by exact rfl) (hi : ev l i = some (.int k j) := by exact rfl) (hb : 0 ≤ j ∧ j < len := by omega) (hv : cs[j.toNat]? = some v) : Yd P n D l w0 L (.index t x i) v :=
  ⟨by simp, by simp, fun oo ho ac w hfr hst => by
    simp [execOp, ho, hfr.eval hx, hfr.eval hi, Instr.index, asIntOf, run_underlying hT.und, hb, run_sizeOf hE, part, run_isAgg hE, hv]⟩
end rules
theorem T_share1 (p : Pg) (x y : Int) (jx : Jb) (hx : 0 ≤ x ∧ x < p.jobs.length) (hj : p.jobs[x.toNat]? = some jx) (hn : PgN p) (b : Nat) : Tr Tryz.prog 100 [.int .i64 x, .int .i64 y, .pointer (some ⟨b, 0, none⟩)] [.blk b 39 p.cells, .ro p.jA 6 p.jobs.length (encJb p.jobs), .ro jx.fA 1 jx.af.length (enI jx.af), .ro jx.wA 1 jx.wi.length (enI jx.wi)] (fun _ : Unit => True) (fun _ => .bool (jx.af.contains y || jx.wi.contains y)) (fun _ => [.blk b 39 p.cells, .ro p.jA 6 p.jobs.length (encJb p.jobs), .ro jx.fA 1 jx.af.length (enI jx.af), .ro jx.wA 1 jx.wi.length (enI jx.wi)]) := by
  refine ⟨fun w0 w R hst => ?_⟩
  have hjm := List.mem_of_getElem? hj
  refine en Tryz.func100 Tryz.ntmps100 hst (h := fun F => ?_)
  refine sq (h := ?_)
  refine rg (h := ?_)
  refine wy asg ?_
  refine nl (h := ?_)
  refine q_seq (h := ?_)
  refine sq (h := ?_)
  refine rg (h := ?_)
  refine wy (by first | exact fa | exact faE) ?_
  refine wy (by first | exact ld | exact ldE) ?_
  refine wy mv ?_
  refine wy (ix (A := p.jA) (m := p.jobs.length) (hb := by omega)) ?_
  refine wy (ldEW (A := p.jA) (hk := encJb_at hj)) ?_
  refine al (h := fun b0 => ?_)
  first | refine stA (h := ?_) | refine stEA (h := ?_)
  refine nl (h := ?_)
  refine q_seq (h := ?_)
  refine sq (h := ?_)
  refine rg (h := ?_)
  refine wy (by first | exact fa | exact faE) ?_
  refine wy (by first | exact ld | exact ldE) ?_
  refine wy mv ?_
  refine cl0 (hc := fun w hS => C_slices_Contains jx.af y jx.fA jx.af.length jx.fc w (hS.get rdz_) (hn.fn jx hjm)) (h := ?_)
  rw [any_con]
  refine wy mv ?_
  apply brOr 5 16 21 (by exact rfl)
  · intro hb0
    refine un (h := ?_)
    refine wy (by first | exact fa | exact faE) ?_
    refine un (h := ?_)
    refine wy (by first | exact ld | exact ldE) ?_
    refine un (h := ?_)
    refine wy mv ?_
    refine un (h := ?_)
    refine cl0 (hc := fun w hS => C_slices_Contains jx.wi y jx.wA jx.wi.length jx.wc w (hS.get rdz_) (hn.wn jx hjm)) (h := ?_)
    rw [any_con]
    refine wy (by first | exact pkT | exact pkF) ?_
    exact mg (by repeat (first | exact trivial | refine ⟨rfl, ?_⟩ | refine ⟨by rw [hb0]; rfl, ?_⟩)) slz_
  · intro hb0
    repeat (first | refine un (h := ?_) | refine sk (h := ?_) | refine WL.y (hy := pkF) (h := ?_) | refine WL.y (hy := pkT) (h := ?_))
    exact mg (by repeat (first | exact trivial | refine ⟨rfl, ?_⟩ | refine ⟨by rw [hb0]; rfl, ?_⟩)) slz_
  refine wy asg ?_
  refine nl (h := ?_)
  refine q_seq (h := ?_)
  refine rtn (h := ?_)
  refine q_ret (hR := ?_)
  exact fun w hS => ⟨(), trivial, rfl, hS.sub slz_⟩
set_option maxRecDepth 100000 in
theorem C_play_share (p : Pg) (x y : Int) (jx jy : Jb) (hx : 0 ≤ x ∧ x < p.jobs.length) (hy : 0 ≤ y ∧ y < p.jobs.length) (hjx : p.jobs[x.toNat]? = some jx) (hjy : p.jobs[y.toNat]? = some jy) (w : World) (h : PgR w p) : C0 Tryz.prog 86 [p.val, .int .i64 x, .int .i64 y] w (.bool (shB p x y)) := by
  have hE : shB p x y = ((jx.af.contains y || jx.wi.contains y) || (jy.af.contains x || jy.wi.contains x)) := by unfold shB; rw [hjx, hjy]
  refine ⟨en Tryz.func86 Tryz.ntmps86 ((((((St.init w).share (e := .ro p.jA 6 p.jobs.length (encJb p.jobs)) h.j rfl rfl rfl).share (e := .ro jx.fA 1 jx.af.length (enI jx.af)) (h.f jx (List.mem_of_getElem? hjx)) rfl rfl rfl).share (e := .ro jx.wA 1 jx.wi.length (enI jx.wi)) (h.w jx (List.mem_of_getElem? hjx)) rfl rfl rfl).share (e := .ro jy.fA 1 jy.af.length (enI jy.af)) (h.f jy (List.mem_of_getElem? hjy)) rfl rfl rfl).share (e := .ro jy.wA 1 jy.wi.length (enI jy.wi)) (h.w jy (List.mem_of_getElem? hjy)) rfl rfl rfl) (h := fun F => ?_)⟩
  refine sq (h := ?_)
  refine rg (h := ?_)
  refine bxA (h := fun b0 => ?_)
  refine wy asg ?_
  refine nl (h := ?_)
  refine q_seq (h := ?_)
  refine sq (h := ?_)
  refine rg (h := ?_)
  refine wy mkf ?_
  refine wy asg ?_
  refine nl (h := ?_)
  refine q_seq (h := ?_)
  refine sq (h := ?_)
  refine rg (h := ?_)
  refine wy mv ?_
  refine wy mv ?_
  refine wy mv ?_
  refine clfT inferInstance (fi := []) (cap := [.pointer (some ⟨b0, 0, none⟩)]) (by exact rfl) (by repeat (first | exact Evs.nil | (apply Evs.cons; exact rfl))) (T_share1 p x y jx hx hjx h.nums b0) rfl (by repeat (first | exact Spl.nil | (apply Spl.cons; (repeat (first | exact At.here | apply At.there))))) (h := fun _ _ => ?_)
  refine wy mv ?_
  apply brOr 5 13 18 (by exact rfl)
  · intro hb0
    refine un (h := ?_)
    refine wy mv ?_
    refine un (h := ?_)
    refine wy mv ?_
    refine un (h := ?_)
    refine wy mv ?_
    refine un (h := ?_)
    refine clfT inferInstance (fi := []) (cap := [.pointer (some ⟨b0, 0, none⟩)]) (by exact rfl) (by repeat (first | exact Evs.nil | (apply Evs.cons; exact rfl))) (T_share1 p y x jy hy hjy h.nums b0) rfl (by repeat (first | exact Spl.nil | (apply Spl.cons; (repeat (first | exact At.here | apply At.there))))) (h := fun _ _ => ?_)
    refine wy (by first | exact pkT | exact pkF) ?_
    exact mg (by repeat (first | exact trivial | refine ⟨rfl, ?_⟩ | refine ⟨by rw [hb0]; rfl, ?_⟩)) slz_
  · intro hb0
    repeat (first | refine un (h := ?_) | refine sk (h := ?_) | refine WL.y (hy := pkF) (h := ?_) | refine WL.y (hy := pkT) (h := ?_))
    exact mg (by repeat (first | exact trivial | refine ⟨rfl, ?_⟩ | refine ⟨by rw [hb0]; rfl, ?_⟩)) slz_
  refine wy asg ?_
  refine nl (h := ?_)
  refine q_seq (h := ?_)
  refine rtn (h := ?_)
  refine q_ret (hR := ?_)
  rw [hE]
  exact fun w hS => ⟨rfl, hS.sub .nil⟩
set_option maxRecDepth 100000 in
theorem C_play_open (p : Pg) (hp : POk p) (m : Int) (hm : 0 ≤ m ∧ m < p.days.length) (w : World) (h : PgR w p) : C0 Tryz.prog 68 [p.val, .int .i64 m] w (openD p m).val := by
  have hnc := hp.nc
  obtain ⟨d, hd⟩ : ∃ d, p.days[m.toNat]? = some d := ⟨_, List.getElem?_eq_getElem (by omega)⟩
  have hdm := List.mem_of_getElem? hd
  have hdl := (hp.dy m.toNat d (by omega) hd).1
  have hE : openD p m = ⟨m, frTo d.sp d.sp.length, fun _ => 0⟩ := by unfold openD; rw [hd]
  refine ⟨en Tryz.func68 Tryz.ntmps68 (((St.init w).share (e := .ro p.dA 1 p.days.length (encDy p.days)) h.d rfl rfl rfl).share (e := .ro d.A 2 d.sp.length (encSn d.sp)) (h.s d hdm) rfl rfl rfl) (h := fun F => ?_)⟩
  refine sq (h := ?_)
  refine rg (h := ?_)
  refine bxA (h := fun b0 => ?_)
  refine al (h := fun b1 => ?_)
  refine nl (h := ?_)
  refine q_seq (h := ?_)
  refine sq (h := ?_)
  refine rg (h := ?_)
  refine wy mv ?_
  refine wy bd ?_
  refine al (h := fun b2 => ?_)
  first | refine stA (h := ?_) | refine stEA (h := ?_)
  refine nl (h := ?_)
  refine q_seq (h := ?_)
  refine sq (h := ?_)
  refine sq (h := ?_)
  refine rg (h := ?_)
  refine wy (by first | exact fa | exact faE) ?_
  refine wy (by first | exact ld | exact ldE) ?_
  refine wy mv ?_
  refine wy (ix (A := p.dA) (m := p.days.length) (hb := by omega)) ?_
  refine wy (ldE (A := p.dA) (hk := encDy_at hd)) ?_
  refine wy lenS ?_
  refine wy mv ?_
  refine nl (h := ?_)
  refine q_seq (h := ?_)
  refine bk (h := ?_)
  refine lp (X := Nat) (I := fun k => k ≤ d.sp.length) (le := fun k => [(4, .pointer (some ⟨b1, 0, none⟩)), (5, .pointer (some ⟨b2, 0, none⟩)), (14, .slice d.A d.sp.length d.c), (15, .int .i64 d.sp.length), (16, .int .i64 k)]) (Le := fun k => [.blk b2 140 (⟨m, frTo d.sp k, fun _ => 0⟩ : DS).cells, .blk b1 140 (⟨0, fun _ => 0, fun _ => 0⟩ : DS).cells, .ro d.A 2 d.sp.length (encSn d.sp)]) (μ := fun k => d.sp.length - k) 0 (Nat.zero_le _) sbz_ slz_ (fun k hk => ?_)
  refine sq (h := ?_)
  refine rg (h := ?_)
  refine wy lss ?_
  refine nl (h := ?_)
  refine q_seq (h := ?_)
  refine sq (h := ?_)
  refine cd (by exact rfl) (fun h0 => ?_) (fun h0 => ?_)
  · skip
    have hkn : k < d.sp.length := by have := of_decide_eq_true h0; omega
    obtain ⟨s, hs⟩ : ∃ s, d.sp[k]? = some s := ⟨_, List.getElem?_eq_getElem hkn⟩
    have hfs : frTo d.sp (k + 1) = upF (frTo d.sp k) k s.1 := by rw [frTo, hs]
    refine skp (h := ?_)
    refine q_seq (h := ?_)
    refine sq (h := ?_)
    refine bk (h := ?_)
    refine sq (h := ?_)
    refine rg (h := ?_)
    refine wy mv ?_
    refine wy (ix (A := d.A) (m := d.sp.length)) ?_
    refine wy (ldEW (A := d.A) (hk := encSn_at hs)) ?_
    refine al (h := fun b3 => ?_)
    refine wy asg ?_
    refine WL.cut (by repeat (first | exact Cut.nil | apply Cut.hit | apply Cut.miss (by exact rfl))) ?_
    first | refine stA (h := ?_) | refine stEA (h := ?_)
    refine nl (h := ?_)
    refine q_seq (h := ?_)
    refine rg (h := ?_)
    refine wy mv ?_
    refine wy (by first | exact fa | exact faE) ?_
    refine wy (by first | exact ld | exact ldE) ?_
    refine wy (by first | exact fa | exact faE) ?_
    refine wy ixA ?_
    refine stI (ho := by show 1 + (k : Int).toNat * 1 < 10; omega) (h := ?_)
    rw [show 1 + (k : Int).toNat * 1 = 1 + k by omega, show (⟨m, frTo d.sp k, fun _ => 0⟩ : DS).cells.set (1 + k) (.int .i64 s.1) = (⟨m, frTo d.sp (k + 1), fun _ => 0⟩ : DS).cells from (fr_set ⟨m, frTo d.sp k, fun _ => 0⟩ (by omega) s.1).trans (by rw [hfs])]
    refine nl (h := ?_)
    refine q_blk_norm (h := ?_)
    refine q_seq (h := ?_)
    refine rg (h := ?_)
    refine wy addI ?_
    refine wy mv ?_
    refine nl (h := ?_)
    refine rn (x := k) (k + 1) hkn (by omega) sbz_ slz_
  · skip
    have hkn : k = d.sp.length := by have := of_decide_eq_false h0; omega
    rw [hkn]
    refine et (h := ?_)
    refine q_then_exit (h := ?_)
    refine q_then_exit (h := ?_)
    refine q_blk_hit (h := ?_)
    refine q_seq (h := ?_)
    refine sq (h := ?_)
    refine rg (h := ?_)
    refine wy (by first | exact ldA | exact ldEA) ?_
    first | refine stA (h := ?_) | refine stEA (h := ?_)
    refine nl (h := ?_)
    refine q_seq (h := ?_)
    refine rtn (h := ?_)
    refine q_ret (hR := ?_)
    rw [hE]
    exact fun w hS => ⟨rfl, hS.sub .nil⟩
end Go.Proofs.YtmlhnajgiopfgaaGreat

namespace Go.Proofs.YtmlhnajgiopfgaaGreat
open Go Go.RowKit

set_option maxRecDepth 100000 in
theorem T_play (p : Pg) (hp : POk p) (hn : PgN p) (s : Se) (j : Jb) (hj : p.jobs[s.job.toNat]? = some j) (hmj : 0 ≤ s.job ∧ s.job < p.jobs.length) (hmc : 0 ≤ s.court ∧ s.court < 3) (d : DS) (B : Int) (hd : d.Ok B) (hB : 1440 ≤ B ∧ B ≤ 100000) (he : ∀ i, 0 < d.en i → i < p.jobs.length) (len : Int) (hlen : 0 ≤ len ∧ len ≤ 600) (bd : Nat) :
    Tr Tryz.prog 69 [.pointer (some ⟨bd, 0, none⟩), p.val, s.val, .int .i64 len] [.blk bd 140 d.cells, manyE false (pgU p)] (fun _ : Unit => True) (fun _ => .tuple #[.int .i64 (begV p d s), .int .i64 (begV p d s + len)]) (fun _ => [.blk bd 140 (playD p d s len).cells, manyE false (pgU p)]) := by
  refine ⟨fun w0 w R hst => ?_⟩
  have hnj := hp.nj
  have hre := hp.rest
  have hjo := hp.jb s.job.toNat j (by omega) hj
  have hje := hjo.ear
  have hear : p.ear s.job = j.ear := by unfold Pg.ear; rw [hj]
  have hbv : begV p d s = begTil p d s j.ear 6 := by unfold begV; rw [hear]
  have hfc : d.cells[1 + s.court.toNat * 1]? = some (.int .i64 (d.fr s.court.toNat)) := by rw [Nat.mul_one]; exact fr_at d (by omega)
  have hb0 : begTil p d s j.ear 0 = max (d.fr s.court.toNat) j.ear := rfl
  have hbr := begTil_rng p hre hd hB.1 s hje 6
  refine en Tryz.func69 Tryz.ntmps69 hst (h := fun F => ?_)
  refine sq (h := ?_)
  refine rg (h := ?_)
  refine bxA (h := fun b0 => ?_)
  refine bxA (h := fun b1 => ?_)
  refine wy asg ?_
  refine WL.cut (by repeat (first | exact Cut.nil | apply Cut.hit | apply Cut.miss (by exact rfl))) ?_
  refine wy asg ?_
  refine WL.cut (by repeat (first | exact Cut.nil | apply Cut.hit | apply Cut.miss (by exact rfl))) ?_
  refine nl (h := ?_)
  refine q_seq (h := ?_)
  refine sq (h := ?_)
  refine WC.getRowF (pgU_j p) atz_ ?_
  refine rgD (by kernel_rfl) [(1000000, .blk bd 140 d.cells), (1000000, .ro p.jA 6 p.jobs.length (encJb p.jobs)), (1000000, .blk b0 39 p.cells), (1000000, .blk b1 48 s.cells)] (by repeat (first | exact HS.nil | (apply HS.keep; (repeat (first | exact At.here | apply At.there))) | (apply HS.ro; (repeat (first | exact Rds.ro | exact Rds.own | apply Rds.there))))) (h := ?_)
  refine tk 0 (hy := mv) (h := ?_)
  refine tk 1 (hy := (by first | exact fa | exact faE)) (h := ?_)
  refine tk 2 (hy := (by first | exact ld | exact ldE)) (h := ?_)
  refine tk 3 (hy := nck) (h := ?_)
  refine tk 4 (hy := (by first | exact fa | exact faE)) (h := ?_)
  refine tk 5 (hy := ixA (hb := by omega)) (h := ?_)
  refine tk 6 (hy := ld (hc := hfc)) (h := ?_)
  refine tk 7 (hy := (by first | exact fa | exact faE)) (h := ?_)
  refine tk 8 (hy := (by first | exact ld | exact ldE)) (h := ?_)
  refine tk 9 (hy := (by first | exact fa | exact faE)) (h := ?_)
  refine tk 10 (hy := (by first | exact ld | exact ldE)) (h := ?_)
  refine tk 11 (hy := ix (A := p.jA) (m := p.jobs.length) (hb := by omega)) (h := ?_)
  refine tk 12 (hy := (by first | exact fa | exact faE)) (h := ?_)
  refine tk 13 (hy := ldE (A := p.jA) (hk := encJb_at hj)) (h := ?_)
  refine tk 14 (hy := maxI) (h := ?_)
  refine tk 15 (hy := asg) (h := ?_)
  refine dn (h := ?_)
  refine q_seq (h := ?_)
  refine sq (h := ?_)
  refine sq (h := ?_)
  refine rg (h := ?_)
  refine wy mv ?_
  refine wy nck ?_
  refine wy (by first | exact fa | exact faE) ?_
  refine wy (by first | exact ldA | exact ldEA) ?_
  refine wy mv ?_
  refine nl (h := ?_)
  refine q_seq (h := ?_)
  refine bk (h := ?_)
  refine lp (X := Nat) (I := fun k => k ≤ 6) (le := fun k => [(0, .pointer (some ⟨bd, 0, none⟩)), (3, .int .i64 len), (5, .pointer (some ⟨b0, 0, none⟩)), (6, .pointer (some ⟨b1, 0, none⟩)), (8, .int .i64 (begTil p d s j.ear k)), (30, .agg #[.int .i64 (d.en 0), .int .i64 (d.en 1), .int .i64 (d.en 2), .int .i64 (d.en 3), .int .i64 (d.en 4), .int .i64 (d.en 5)]), (31, .int .i64 k)]) (Le := fun _ => .blk bd 140 d.cells :: manyE false (pgU p) :: .blk b0 39 p.cells :: .blk b1 48 s.cells :: R) (μ := fun k => 6 - k) 0 (Nat.zero_le _) sbz_ slz_ (fun k hk => ?_)
  refine sq (h := ?_)
  refine rg (h := ?_)
  refine wy lss ?_
  refine nl (h := ?_)
  refine q_seq (h := ?_)
  refine sq (h := ?_)
  refine cd (by exact rfl) (fun h0 => ?_) (fun h0 => ?_)
  · skip
    have hk6 : k < 6 := by have := of_decide_eq_true h0; omega
    have hev := enV_at d hk6
    have hek := hd.eb k
    have hbk := begTil_rng p hre hd hB.1 s hje k
    have hbe : begTil p d s j.ear (k + 1) = begK p d s.job (begTil p d s j.ear k) k := rfl
    refine skp (h := ?_)
    refine q_seq (h := ?_)
    refine sq (h := ?_)
    refine bk (h := ?_)
    refine sq (h := ?_)
    refine rg (h := ?_)
    refine wy mv ?_
    refine wy (ixvI (hb := by omega) (hv := by rw [Int.toNat_natCast]; simpa using hev)) ?_
    refine wy asg ?_
    refine WL.cut (by repeat (first | exact Cut.nil | apply Cut.hit | apply Cut.miss (by exact rfl))) ?_
    refine wy asg ?_
    refine WL.cut (by repeat (first | exact Cut.nil | apply Cut.hit | apply Cut.miss (by exact rfl))) ?_
    refine nl (h := ?_)
    refine q_seq (h := ?_)
    refine sq (h := ?_)
    refine rg (h := ?_)
    refine wy mv ?_
    refine wy gtr ?_
    refine wy mv ?_
    apply brAnd 6 37 43 (by exact rfl)
    · intro hb1
      have hpos : 0 < d.en k := of_decide_eq_true hb1
      have hkj := he k hpos
      obtain ⟨jk, hjk⟩ : ∃ jk, p.jobs[((k : Int)).toNat]? = some jk := ⟨_, List.getElem?_eq_getElem (by omega)⟩
      refine un (h := ?_)
      refine wy (by first | exact ldA | exact ldEA) ?_
      refine un (h := ?_)
      refine wy (by first | exact fa | exact faE) ?_
      refine un (h := ?_)
      refine wy (by first | exact ld | exact ldE) ?_
      refine un (h := ?_)
      refine wy mv ?_
      refine un (h := ?_)
      refine cl0 (hc := fun w hS => C_play_share p s.job k j jk hmj (by omega) hj hjk w (PgR.of (fun r hr => hS.many atz_ hr) hn)) (h := ?_)
      refine wy (by first | exact pkT | exact pkF) ?_
      exact mg (by repeat (first | exact trivial | refine ⟨rfl, ?_⟩ | refine ⟨by rw [hb1]; rfl, ?_⟩)) slz_
    · intro hb1
      repeat (first | refine un (h := ?_) | refine sk (h := ?_) | refine WL.y (hy := pkF) (h := ?_) | refine WL.y (hy := pkT) (h := ?_))
      exact mg (by repeat (first | exact trivial | refine ⟨rfl, ?_⟩ | refine ⟨by rw [hb1]; rfl, ?_⟩)) slz_
    refine nl (h := ?_)
    refine q_seq (h := ?_)
    refine cd (by exact rfl) (fun h2 => ?_) (fun h2 => ?_)
    · skip
      have hE : begTil p d s j.ear (k + 1) = max (begTil p d s j.ear k) (d.en k + p.rest) := by rw [hbe, begK, h2]; rfl
      refine rg (h := ?_)
      refine wy mv ?_
      refine wy mv ?_
      refine wy (by first | exact fa | exact faE) ?_
      refine wy (by first | exact ld | exact ldE) ?_
      refine wy (addI (hb := by omega)) ?_
      refine wy maxI ?_
      refine wy asg ?_
      refine WL.cut (by repeat (first | exact Cut.nil | apply Cut.hit | apply Cut.miss (by exact rfl))) ?_
      refine nl (h := ?_)
      refine q_blk_norm (h := ?_)
      refine q_seq (h := ?_)
      refine rg (h := ?_)
      refine wy addI ?_
      refine wy mv ?_
      refine nl (h := ?_)
      refine rn (x := k) (k + 1) hk6 (by omega) (by rw [hE]; repeat (first | exact trivial | refine ⟨rfl, ?_⟩)) slz_
    · skip
      have hE : begTil p d s j.ear (k + 1) = begTil p d s j.ear k := by rw [hbe, begK, h2]; rfl
      refine skp (h := ?_)
      refine q_blk_norm (h := ?_)
      refine q_seq (h := ?_)
      refine rg (h := ?_)
      refine wy addI ?_
      refine wy mv ?_
      refine nl (h := ?_)
      refine rn (x := k) (k + 1) hk6 (by omega) (by rw [hE]; repeat (first | exact trivial | refine ⟨rfl, ?_⟩)) slz_
  · skip
    have hk6 : k = 6 := by have := of_decide_eq_false h0; omega
    rw [hk6, ← hbv]
    rw [← hbv] at hbr
    refine et (h := ?_)
    refine q_then_exit (h := ?_)
    refine q_then_exit (h := ?_)
    refine q_blk_hit (h := ?_)
    refine q_seq (h := ?_)
    refine sq (h := ?_)
    refine rg (h := ?_)
    refine wy mv ?_
    refine wy mv ?_
    refine wy (addI (hb := by omega)) ?_
    refine wy asg ?_
    refine WL.cut (by repeat (first | exact Cut.nil | apply Cut.hit | apply Cut.miss (by exact rfl))) ?_
    refine nl (h := ?_)
    refine q_seq (h := ?_)
    refine sq (h := ?_)
    refine rgD (by kernel_rfl) [(1000000, .blk b1 48 s.cells)] (by repeat (first | exact HS.nil | (apply HS.keep; (repeat (first | exact At.here | apply At.there))) | (apply HS.ro; (repeat (first | exact Rds.ro | exact Rds.own | apply Rds.there))))) (h := ?_)
    refine tk 0 (hy := mv) (h := ?_)
    refine tk 1 (hy := (by first | exact fa | exact faE)) (h := ?_)
    refine tk 2 (hy := (by first | exact ld | exact ldE)) (h := ?_)
    refine tk 3 (hy := mv) (h := ?_)
    refine tk 4 (hy := (by first | exact fa | exact faE)) (h := ?_)
    refine tk 5 (hy := (by first | exact ld | exact ldE)) (h := ?_)
    refine tk 6 (hy := mv) (h := ?_)
    refine tk 7 (hy := mv) (h := ?_)
    refine tk 8 (hy := nck) (h := ?_)
    refine tk 9 (hy := (by first | exact fa | exact faE)) (h := ?_)
    refine tk 12 (hy := nck) (h := ?_)
    refine tk 13 (hy := (by first | exact fa | exact faE)) (h := ?_)
    refine one 10 (h := ?_)
    refine wy (ixA (hb := by omega)) ?_
    refine nx (h := ?_)
    refine one 11 (h := ?_)
    refine stI (ho := by show 1 + s.court.toNat * 1 < 10; omega) (h := ?_)
    rw [show 1 + s.court.toNat * 1 = 1 + s.court.toNat by omega, fr_set d (by omega)]
    refine nx (h := ?_)
    refine one 14 (h := ?_)
    refine wy (ixA (hb := by omega)) ?_
    refine nx (h := ?_)
    refine one 15 (h := ?_)
    refine stI (ho := by show 4 + s.job.toNat * 1 < 10; omega) (h := ?_)
    rw [show 4 + s.job.toNat * 1 = 4 + s.job.toNat by omega, en_set ⟨d.num, upF d.fr s.court.toNat (begV p d s + len), d.en⟩ (by omega)]
    refine nx (h := ?_)
    refine dn (h := ?_)
    refine q_seq (h := ?_)
    refine sq (h := ?_)
    refine rg (h := ?_)
    refine wy mv ?_
    refine wy mv ?_
    refine wy asg ?_
    refine WL.cut (by repeat (first | exact Cut.nil | apply Cut.hit | apply Cut.miss (by exact rfl))) ?_
    refine wy asg ?_
    refine WL.cut (by repeat (first | exact Cut.nil | apply Cut.hit | apply Cut.miss (by exact rfl))) ?_
    refine nl (h := ?_)
    refine q_seq (h := ?_)
    refine rtn (h := ?_)
    refine q_ret (hR := ?_)
    exact fun w hS => ⟨(), trivial, rfl, hS.sub slz_⟩
end Go.Proofs.YtmlhnajgiopfgaaGreat

namespace Go.Proofs.YtmlhnajgiopfgaaGreat
open Go Go.RowKit

structure TsI (p : Pg) (k : Nat) (t : TS) : Prop where
  ok : t.d.Ok (1440 + 1200 * (k : Int))
  pos : ∀ i, 0 < t.d.en i → i < p.jobs.length
  lb : t.bs.length = p.jobs.length
  le : t.es.length = p.jobs.length
theorem runT_succ {p : Pg} {gl : Sn → Int} {o : List Se} {k : Nat} {s : Se} (h : o[k]? = some s) : runT p gl (o.take (k + 1)) = stepT p gl (runT p gl (o.take k)) s := by
  unfold runT
  rw [List.take_add_one, h, List.foldl_append]; rfl
theorem TsI.start {p : Pg} (hp : POk p) (gl : Sn → Int) : TsI p 0 (runT p gl []) :=
  ⟨(open_ok hp 0).mono (by omega), fun i hi => absurd hi (by show ¬ (0 : Int) < 0; omega), List.length_replicate, List.length_replicate⟩
theorem TsI.next {p : Pg} (hp : POk p) {k : Nat} {t : TS} (h : TsI p k t) {D : DS} (hD : D.Ok (1440 + 1200 * (k : Int))) (hP : ∀ i, 0 < D.en i → i < p.jobs.length) {s : Se} (hj : 0 ≤ s.job ∧ s.job < p.jobs.length) {j : Jb} (hjs : p.jobs[s.job.toNat]? = some j) {v : Int} (hv : 0 ≤ v ∧ v ≤ 600) : TsI p (k + 1) ⟨playD p D s v, t.bs.set s.job.toNat (begV p D s), t.es.set s.job.toNat (begV p D s + v)⟩ := by
  have hje := (hp.jb s.job.toNat j (by omega) hjs).ear
  have hb : begV p D s = begTil p D s j.ear 6 := by unfold begV Pg.ear; rw [hjs]
  have hr := begTil_rng p hp.rest hD (by omega) s hje 6
  have hnj := hp.nj
  rw [← hb] at hr
  refine ⟨?_, fun i hi => ?_, by rw [List.length_set]; exact h.lb, by rw [List.length_set]; exact h.le⟩
  · exact hD.put (by omega) (by omega) (by omega)
  · have hi2 : 0 < upF D.en s.job.toNat (begV p D s + v) i := hi
    unfold upF at hi2
    by_cases e : i = s.job.toNat
    · omega
    · rw [if_neg e] at hi2; exact hP i hi2
theorem enI_put8 (xs : List Int) (k : Nat) (y v : Int) : (enI xs).set k ([Value.int .i64 y].set 0 (.int .i64 v)) = enI (xs.set k v) := by
  unfold enI
  rw [List.map_set]; rfl
theorem enI_rep8 (m : Nat) : List.replicate m [Value.int .i64 0] = enI (List.replicate m 0) := by unfold enI; rw [List.map_replicate]; rfl
set_option maxRecDepth 100000 in
set_option maxHeartbeats 1000000 in
theorem C_play_times (p : Pg) (hp : POk p) (o : List Se) (hO : OOk p o) (g : FuncId) (hg : FnOk Tryz.prog g) (gl : Sn → Int) (hgc : ∀ (s : Sn) (w : World), C0 Tryz.prog g [.agg #[.int .i64 s.1, .int .i64 s.2]] w (.int .i64 (gl s))) (hgr : ∀ (i : Nat) (j : Jb), p.jobs[i]? = some j → 0 ≤ gl j.len ∧ gl j.len ≤ 600) (oA : Option Addr) (n oc : Nat) (w : World) (h : PgR w p) (ho : Rd w oA 3 n (encSe o)) :
    CR Tryz.prog 39 [p.val, .slice oA n oc, .func (.func g) #[] #[]] w (fun _ : Nat × Nat => True) (fun q => .tuple #[.slice (some ⟨q.1, 0, none⟩) p.jobs.length p.jobs.length, .slice (some ⟨q.2, 0, none⟩) p.jobs.length p.jobs.length]) (fun q => [.own (some ⟨q.1, 0, none⟩) p.jobs.length 3 1 p.jobs.length (enI (runT p gl o).bs), .own (some ⟨q.2, 0, none⟩) p.jobs.length 3 1 p.jobs.length (enI (runT p gl o).es)]) := by
  have hlen : o.length = n := by have := ho.len; rwa [encSe_len] at this
  have hnd := hp.nd
  have hnj := hp.nj
  have hnc := hp.nc
  have hon := hO.n
  refine ⟨en Tryz.func39 Tryz.ntmps39 (((St.init w).share (e := .ro p.jA 6 p.jobs.length (encJb p.jobs)) h.j rfl rfl rfl).share (e := .ro oA 3 n (encSe o)) ho rfl rfl rfl) (h := fun F => ?_)⟩
  refine sq (h := ?_)
  refine rg (h := ?_)
  refine bxA (h := fun b0 => ?_)
  refine wy asg ?_
  refine WL.cut (by repeat (first | exact Cut.nil | apply Cut.hit | apply Cut.miss (by exact rfl))) ?_
  refine wy asg ?_
  refine WL.cut (by repeat (first | exact Cut.nil | apply Cut.hit | apply Cut.miss (by exact rfl))) ?_
  refine nl (h := ?_)
  refine q_seq (h := ?_)
  refine ct (X := Nat × Nat) (fun _ => True) (fun x => [(1, .slice oA n oc), (2, .func (.func g) #[] #[]), (3, .pointer (some ⟨b0, 0, none⟩)), (6, .slice (some ⟨x.1, 0, none⟩) p.jobs.length p.jobs.length), (7, .slice (some ⟨x.2, 0, none⟩) p.jobs.length p.jobs.length)]) (fun x => [.own (some ⟨x.1, 0, none⟩) p.jobs.length 3 1 p.jobs.length (enI (List.replicate p.jobs.length 0)), .own (some ⟨x.2, 0, none⟩) p.jobs.length 3 1 p.jobs.length (enI (List.replicate p.jobs.length 0)), .blk b0 39 p.cells, .ro p.jA 6 p.jobs.length (encJb p.jobs), .ro oA 3 n (encSe o)]) (h1 := ?_) (h2 := ?_)
  · skip
    refine rgD0 (by kernel_rfl) (h := ?_)
    refine tk 0 (hy := (by first | exact fa | exact faE)) (h := ?_)
    refine tk 1 (hy := (by first | exact ld | exact ldE)) (h := ?_)
    refine tk 2 (hy := lenS) (h := ?_)
    refine tk 4 (hy := (by first | exact fa | exact faE)) (h := ?_)
    refine tk 5 (hy := (by first | exact ld | exact ldE)) (h := ?_)
    refine tk 6 (hy := lenS) (h := ?_)
    refine two 3 7 (h1 := ?_) (h2 := ?_)
    · skip
      refine mks p.jobs.length (hx := by exact rfl) (hy := by exact rfl) (h := fun bA => ?_)
      rw [enI_rep8]
      refine nx (h := ?_)
      refine tk 8 (hy := asg) (h := ?_)
      refine one 7 (h := ?_)
      refine mks p.jobs.length (hx := by exact rfl) (hy := by exact rfl) (h := fun bB => ?_)
      rw [enI_rep8]
      refine nx (h := ?_)
      refine tk 9 (hy := asg) (h := ?_)
      refine dn (h := ?_)
      exact ctn (x := (bA, bB)) trivial sbz_ slz_
    · skip
      refine mks p.jobs.length (hx := by exact rfl) (hy := by exact rfl) (h := fun bB => ?_)
      rw [enI_rep8]
      refine nx (h := ?_)
      refine one 3 (h := ?_)
      refine mks p.jobs.length (hx := by exact rfl) (hy := by exact rfl) (h := fun bA => ?_)
      rw [enI_rep8]
      refine nx (h := ?_)
      refine tk 8 (hy := asg) (h := ?_)
      refine tk 9 (hy := asg) (h := ?_)
      refine dn (h := ?_)
      exact ctn (x := (bA, bB)) trivial sbz_ slz_
  rintro ⟨m1, m2⟩ -
  refine sq (h := ?_)
  refine WC.manyOld h.rows ?_
  refine rg (h := ?_)
  refine wy (by first | exact ldA | exact ldEA) ?_
  refine cl0 (hc := fun w hS => C_play_open p hp 0 (by omega) w (h.old hS)) (h := ?_)
  refine al (h := fun b1 => ?_)
  first | refine stA (h := ?_) | refine stEA (h := ?_)
  refine nl (h := ?_)
  refine q_seq (h := ?_)
  refine sq (h := ?_)
  refine sq (h := ?_)
  refine rg (h := ?_)
  refine wy mv ?_
  refine wy lenS ?_
  refine wy mv ?_
  refine nl (h := ?_)
  refine q_seq (h := ?_)
  refine bk (h := ?_)
  refine lp (X := Nat) (I := fun k => k ≤ n ∧ TsI p k (runT p gl (o.take k))) (le := fun k => [(1, .slice oA n oc), (2, .func (.func g) #[] #[]), (3, .pointer (some ⟨b0, 0, none⟩)), (6, .slice (some ⟨m1, 0, none⟩) p.jobs.length p.jobs.length), (7, .slice (some ⟨m2, 0, none⟩) p.jobs.length p.jobs.length), (8, .pointer (some ⟨b1, 0, none⟩)), (21, .slice oA n oc), (22, .int .i64 n), (23, .int .i64 k)]) (Le := fun k => [.blk b1 140 (runT p gl (o.take k)).d.cells, .own (some ⟨m1, 0, none⟩) p.jobs.length 3 1 p.jobs.length (enI (runT p gl (o.take k)).bs), .own (some ⟨m2, 0, none⟩) p.jobs.length 3 1 p.jobs.length (enI (runT p gl (o.take k)).es), .blk b0 39 p.cells, manyE false (pgU p), .ro p.jA 6 p.jobs.length (encJb p.jobs), .ro oA 3 n (encSe o)]) (μ := fun k => n - k) 0 ⟨Nat.zero_le _, TsI.start hp gl⟩ sbz_ slz_ (fun k hk => ?_)
  obtain ⟨hkN, hT⟩ := hk
  refine sq (h := ?_)
  refine rg (h := ?_)
  refine wy lss ?_
  refine nl (h := ?_)
  refine q_seq (h := ?_)
  refine sq (h := ?_)
  refine cd (by exact rfl) (fun h0 => ?_) (fun h0 => ?_)
  · skip
    have hkn : k < n := by have := of_decide_eq_true h0; omega
    obtain ⟨s, hs⟩ : ∃ s, o[k]? = some s := ⟨_, List.getElem?_eq_getElem (by omega)⟩
    have hm := hO.at_ k s (by omega) hs
    have hmj := hm.job
    have hmd := hm.day
    have hmc := hm.court
    obtain ⟨j, hj⟩ : ∃ j, p.jobs[s.job.toNat]? = some j := ⟨_, List.getElem?_eq_getElem (by omega)⟩
    have hjm := List.mem_of_getElem? hj
    have hgj := hgr _ j hj
    have hl8 : p.len gl s.job = gl j.len := by unfold Pg.len; rw [hj]
    have hrs := runT_succ (p := p) (gl := gl) hs
    obtain ⟨t, ht⟩ : ∃ t, t = runT p gl (o.take k) := ⟨_, rfl⟩
    rw [← ht] at hT ⊢
    have hlb := hT.lb
    have hle := hT.le
    refine skp (h := ?_)
    refine q_seq (h := ?_)
    refine sq (h := ?_)
    refine bk (h := ?_)
    refine sq (h := ?_)
    refine rg (h := ?_)
    refine wy (ix (A := oA) (m := n)) ?_
    refine wy (ldEW (A := oA) (hk := encSe_at hs)) ?_
    refine al (h := fun b2 => ?_)
    first | refine stA (h := ?_) | refine stEA (h := ?_)
    refine nl (h := ?_)
    refine q_seq (h := ?_)
    refine sq (h := ?_)
    refine sq (h := ?_)
    refine rg (h := ?_)
    refine wy (by first | exact fa | exact faE) ?_
    refine wy (by first | exact ld | exact ldE) ?_
    refine wy (by first | exact fa | exact faE) ?_
    refine wy (by first | exact ld | exact ldE) ?_
    refine wy neq ?_
    refine nl (h := ?_)
    refine q_seq (h := ?_)
    refine cd (by exact rfl) (fun h1 => ?_) (fun h1 => ?_)
    · skip
      have hq : (bif decide (s.day = t.d.num) then t.d else openD p s.day) = openD p s.day := by have g9 := h1; rw [Bool.not_eq_true'] at g9; rw [g9]; rfl
      have hO2 := (open_ok hp s.day).mono (C := 1440 + 1200 * (k : Int)) (by omega)
      have hP2 : ∀ i, 0 < (openD p s.day).en i → i < p.jobs.length := fun i hi => absurd hi (by show ¬ (0 : Int) < 0; omega)
      refine rg (h := ?_)
      refine wy (by first | exact ldA | exact ldEA) ?_
      refine wy (by first | exact fa | exact faE) ?_
      refine wy (by first | exact ld | exact ldE) ?_
      refine cl0 (hc := fun w hS => C_play_open p hp s.day hmd w (h.old hS)) (h := ?_)
      first | refine stA (h := ?_) | refine stEA (h := ?_)
      refine nl (h := ?_)
      refine q_seq (h := ?_)
      obtain ⟨D, hD⟩ : ∃ D, D = (bif decide (s.day = t.d.num) then t.d else openD p s.day) := ⟨_, rfl⟩
      have hnx : runT p gl (o.take (k + 1)) = ⟨playD p D s (gl j.len), t.bs.set s.job.toNat (begV p D s), t.es.set s.job.toNat (begV p D s + gl j.len)⟩ := by
        rw [hrs, ← ht, ← hl8, hD]; rfl
      rw [hq] at hD
      rw [← hD] at hO2 hP2 ⊢
      have hT2 := hT.next hp hO2 hP2 hmj hj hgj
      refine rgD (by kernel_rfl) [(1000000, .blk b0 39 p.cells), (1000000, .blk b2 48 s.cells), (1000000, .ro p.jA 6 p.jobs.length (encJb p.jobs))] (by repeat (first | exact HS.nil | (apply HS.keep; (repeat (first | exact At.here | apply At.there))) | (apply HS.ro; (repeat (first | exact Rds.ro | exact Rds.own | apply Rds.there))))) (h := ?_)
      refine tk 0 (hy := mv) (h := ?_)
      refine tk 1 (hy := (by first | exact fa | exact faE)) (h := ?_)
      refine tk 2 (hy := (by first | exact ld | exact ldE)) (h := ?_)
      refine tk 3 (hy := mv) (h := ?_)
      refine tk 4 (hy := (by first | exact fa | exact faE)) (h := ?_)
      refine tk 5 (hy := (by first | exact ld | exact ldE)) (h := ?_)
      refine tk 6 (hy := (by first | exact ldA | exact ldEA)) (h := ?_)
      refine tk 7 (hy := (by first | exact ldA | exact ldEA)) (h := ?_)
      refine tk 8 (hy := mv) (h := ?_)
      refine tk 9 (hy := (by first | exact fa | exact faE)) (h := ?_)
      refine tk 10 (hy := (by first | exact ld | exact ldE)) (h := ?_)
      refine tk 11 (hy := (by first | exact fa | exact faE)) (h := ?_)
      refine tk 12 (hy := (by first | exact ld | exact ldE)) (h := ?_)
      refine tk 13 (hy := ix (A := p.jA) (m := p.jobs.length) (hb := by omega)) (h := ?_)
      refine tk 14 (hy := (by first | exact fa | exact faE)) (h := ?_)
      refine tk 15 (hy := ldEA (A := p.jA) (hk := encJb_at hj)) (h := ?_)
      refine one 16 (h := ?_)
      refine clf0 (hf := hg) (f := g) (fi := []) (cap := []) (hx := by exact rfl) (hc := fun w hS => hgc j.len w) (h := ?_)
      refine nx (h := ?_)
      refine one 17 (h := ?_)
      refine clT (hc := T_play p hp h.nums s j hj hmj (by omega) D (1440 + 1200 * (k : Int)) hO2 (by omega) hP2 (gl j.len) hgj b1) (h := fun _ _ => ?_)
      refine nx (h := ?_)
      refine tk 18 (hy := mv) (h := ?_)
      refine tk 19 (hy := ex) (h := ?_)
      refine tk 20 (hy := ex) (h := ?_)
      refine one 21 (h := ?_)
      refine wy (ix (A := some ⟨m1, 0, none⟩) (m := p.jobs.length) (hb := by omega)) ?_
      refine nx (h := ?_)
      refine one 22 (h := ?_)
      refine stE (A := some ⟨m1, 0, none⟩) (k := s.job.toNat) (j := 0) (hk := enI_at (getD_get (by omega))) (h := ?_)
      rw [enI_put8]
      refine nx (h := ?_)
      refine one 23 (h := ?_)
      refine wy (ix (A := some ⟨m2, 0, none⟩) (m := p.jobs.length) (hb := by omega)) ?_
      refine nx (h := ?_)
      refine one 24 (h := ?_)
      refine stE (A := some ⟨m2, 0, none⟩) (k := s.job.toNat) (j := 0) (hk := enI_at (getD_get (by omega))) (h := ?_)
      rw [enI_put8]
      refine nx (h := ?_)
      refine dn (h := ?_)
      refine q_blk_norm (h := ?_)
      refine q_seq (h := ?_)
      refine rg (h := ?_)
      refine wy addI ?_
      refine wy mv ?_
      refine nl (h := ?_)
      refine rn (x := k) (k + 1) ⟨hkn, by rw [hnx]; exact hT2⟩ (by omega) sbz_ (by rw [hnx]; exact slz_)
    · skip
      have hq : (bif decide (s.day = t.d.num) then t.d else openD p s.day) = t.d := by have g9 := h1; rw [Bool.not_eq_false'] at g9; rw [g9]; rfl
      have hO2 := hT.ok
      have hP2 := hT.pos
      refine skp (h := ?_)
      refine q_seq (h := ?_)
      obtain ⟨D, hD⟩ : ∃ D, D = (bif decide (s.day = t.d.num) then t.d else openD p s.day) := ⟨_, rfl⟩
      have hnx : runT p gl (o.take (k + 1)) = ⟨playD p D s (gl j.len), t.bs.set s.job.toNat (begV p D s), t.es.set s.job.toNat (begV p D s + gl j.len)⟩ := by
        rw [hrs, ← ht, ← hl8, hD]; rfl
      rw [hq] at hD
      rw [← hD] at hO2 hP2 ⊢
      have hT2 := hT.next hp hO2 hP2 hmj hj hgj
      refine rgD (by kernel_rfl) [(1000000, .blk b0 39 p.cells), (1000000, .blk b2 48 s.cells), (1000000, .ro p.jA 6 p.jobs.length (encJb p.jobs))] (by repeat (first | exact HS.nil | (apply HS.keep; (repeat (first | exact At.here | apply At.there))) | (apply HS.ro; (repeat (first | exact Rds.ro | exact Rds.own | apply Rds.there))))) (h := ?_)
      refine tk 0 (hy := mv) (h := ?_)
      refine tk 1 (hy := (by first | exact fa | exact faE)) (h := ?_)
      refine tk 2 (hy := (by first | exact ld | exact ldE)) (h := ?_)
      refine tk 3 (hy := mv) (h := ?_)
      refine tk 4 (hy := (by first | exact fa | exact faE)) (h := ?_)
      refine tk 5 (hy := (by first | exact ld | exact ldE)) (h := ?_)
      refine tk 6 (hy := (by first | exact ldA | exact ldEA)) (h := ?_)
      refine tk 7 (hy := (by first | exact ldA | exact ldEA)) (h := ?_)
      refine tk 8 (hy := mv) (h := ?_)
      refine tk 9 (hy := (by first | exact fa | exact faE)) (h := ?_)
      refine tk 10 (hy := (by first | exact ld | exact ldE)) (h := ?_)
      refine tk 11 (hy := (by first | exact fa | exact faE)) (h := ?_)
      refine tk 12 (hy := (by first | exact ld | exact ldE)) (h := ?_)
      refine tk 13 (hy := ix (A := p.jA) (m := p.jobs.length) (hb := by omega)) (h := ?_)
      refine tk 14 (hy := (by first | exact fa | exact faE)) (h := ?_)
      refine tk 15 (hy := ldEA (A := p.jA) (hk := encJb_at hj)) (h := ?_)
      refine one 16 (h := ?_)
      refine clf0 (hf := hg) (f := g) (fi := []) (cap := []) (hx := by exact rfl) (hc := fun w hS => hgc j.len w) (h := ?_)
      refine nx (h := ?_)
      refine one 17 (h := ?_)
      refine clT (hc := T_play p hp h.nums s j hj hmj (by omega) D (1440 + 1200 * (k : Int)) hO2 (by omega) hP2 (gl j.len) hgj b1) (h := fun _ _ => ?_)
      refine nx (h := ?_)
      refine tk 18 (hy := mv) (h := ?_)
      refine tk 19 (hy := ex) (h := ?_)
      refine tk 20 (hy := ex) (h := ?_)
      refine one 21 (h := ?_)
      refine wy (ix (A := some ⟨m1, 0, none⟩) (m := p.jobs.length) (hb := by omega)) ?_
      refine nx (h := ?_)
      refine one 22 (h := ?_)
      refine stE (A := some ⟨m1, 0, none⟩) (k := s.job.toNat) (j := 0) (hk := enI_at (getD_get (by omega))) (h := ?_)
      rw [enI_put8]
      refine nx (h := ?_)
      refine one 23 (h := ?_)
      refine wy (ix (A := some ⟨m2, 0, none⟩) (m := p.jobs.length) (hb := by omega)) ?_
      refine nx (h := ?_)
      refine one 24 (h := ?_)
      refine stE (A := some ⟨m2, 0, none⟩) (k := s.job.toNat) (j := 0) (hk := enI_at (getD_get (by omega))) (h := ?_)
      rw [enI_put8]
      refine nx (h := ?_)
      refine dn (h := ?_)
      refine q_blk_norm (h := ?_)
      refine q_seq (h := ?_)
      refine rg (h := ?_)
      refine wy addI ?_
      refine wy mv ?_
      refine nl (h := ?_)
      refine rn (x := k) (k + 1) ⟨hkn, by rw [hnx]; exact hT2⟩ (by omega) sbz_ (by rw [hnx]; exact slz_)
  · skip
    have hkn : k = n := by have := of_decide_eq_false h0; omega
    rw [show o.take k = o by rw [hkn, ← hlen, List.take_length]]
    refine et (h := ?_)
    refine q_then_exit (h := ?_)
    refine q_then_exit (h := ?_)
    refine q_blk_hit (h := ?_)
    refine q_seq (h := ?_)
    refine sq (h := ?_)
    refine rg (h := ?_)
    refine wy mv ?_
    refine wy mv ?_
    refine wy asg ?_
    refine WL.cut (by repeat (first | exact Cut.nil | apply Cut.hit | apply Cut.miss (by exact rfl))) ?_
    refine wy asg ?_
    refine WL.cut (by repeat (first | exact Cut.nil | apply Cut.hit | apply Cut.miss (by exact rfl))) ?_
    refine nl (h := ?_)
    refine q_seq (h := ?_)
    refine rtn (h := ?_)
    refine q_ret (hR := ?_)
    exact fun w hS => ⟨(m1, m2), trivial, rfl, hS.sub slz_⟩
end Go.Proofs.YtmlhnajgiopfgaaGreat

namespace Go.Proofs.YtmlhnajgiopfgaaGreat
open Go Go.RowKit

theorem C_play_longest (s : Sn) (w : World) : C0 Tryz.prog 40 [.agg #[.int .i64 s.1, .int .i64 s.2]] w (.int .i64 s.2) := by
  refine ⟨en Tryz.func40 Tryz.ntmps40 (St.init w) (h := fun F => ?_)⟩
  refine sq (h := ?_)
  refine rg (h := ?_)
  refine bxA (h := fun b0 => ?_)
  refine wy asg ?_
  refine nl (h := ?_)
  refine q_seq (h := ?_)
  refine sq (h := ?_)
  refine rg (h := ?_)
  refine wy (by first | exact fa | exact faE) ?_
  refine wy (by first | exact ld | exact ldE) ?_
  refine wy asg ?_
  refine nl (h := ?_)
  refine q_seq (h := ?_)
  refine rtn (h := ?_)
  refine q_ret (hR := ?_)
  exact fun w hS => ⟨rfl, hS.sub slz_⟩
theorem runT_inv {p : Pg} (hp : POk p) {o : List Se} (hO : OOk p o) {gl : Sn → Int} (hgr : ∀ (i : Nat) (j : Jb), p.jobs[i]? = some j → 0 ≤ gl j.len ∧ gl j.len ≤ 600) : ∀ k, k ≤ o.length → TsI p k (runT p gl (o.take k))
  | 0, _ => TsI.start hp gl
  | k + 1, hk => by
    have hT := runT_inv hp hO hgr k (by omega)
    obtain ⟨s, hs⟩ : ∃ s, o[k]? = some s := ⟨_, List.getElem?_eq_getElem (by omega)⟩
    have hm := hO.at_ k s (by omega) hs
    have hmj := hm.job
    obtain ⟨j, hj⟩ : ∃ j, p.jobs[s.job.toNat]? = some j := ⟨_, List.getElem?_eq_getElem (by omega)⟩
    have hl8 : p.len gl s.job = gl j.len := by unfold Pg.len; rw [hj]
    rw [runT_succ hs]
    have h1 : (bif decide (s.day = (runT p gl (o.take k)).d.num) then (runT p gl (o.take k)).d else openD p s.day).Ok (1440 + 1200 * (k : Int)) := by
      cases decide (s.day = (runT p gl (o.take k)).d.num)
      · exact (open_ok hp s.day).mono (by omega)
      · exact hT.ok
    have h2 : ∀ i, 0 < (bif decide (s.day = (runT p gl (o.take k)).d.num) then (runT p gl (o.take k)).d else openD p s.day).en i → i < p.jobs.length := by
      cases decide (s.day = (runT p gl (o.take k)).d.num)
      · exact fun i hi => absurd hi (by show ¬ (0 : Int) < 0; omega)
      · exact hT.pos
    have h3 := hT.next hp h1 h2 hmj hj (hgr _ j hj)
    rw [← hl8] at h3
    exact h3
theorem runT_len {p : Pg} (hp : POk p) {o : List Se} (hO : OOk p o) {gl : Sn → Int} (hgr : ∀ (i : Nat) (j : Jb), p.jobs[i]? = some j → 0 ≤ gl j.len ∧ gl j.len ≤ 600) : (runT p gl o).bs.length = p.jobs.length ∧ (runT p gl o).es.length = p.jobs.length := by
  have h := runT_inv hp hO hgr o.length (Nat.le_refl _)
  rw [List.take_length] at h
  exact ⟨h.lb, h.le⟩
def hiG : Sn → Int := fun s => s.2
theorem hiG_rng {p : Pg} (hp : POk p) : ∀ (i : Nat) (j : Jb), p.jobs[i]? = some j → 0 ≤ hiG j.len ∧ hiG j.len ≤ 600 := fun i j hj => by have := (hp.jb i j (List.getElem?_eq_some_iff.1 hj).1 hj).len; show 0 ≤ j.len.2 ∧ j.len.2 ≤ 600; omega
def FitI (p : Pg) (o : List Se) : Prop := ∀ (i : Nat) (s : Se) (d : Dy) (c : Sn), o[i]? = some s → p.days[s.day.toNat]? = some d → d.sp[s.court.toNat]? = some c → (runT p hiG o).es.getD s.job.toNat 0 ≤ c.2
set_option maxRecDepth 100000 in
theorem C_play_Fits (p : Pg) (hp : POk p) (o : List Se) (hO : OOk p o) (hF : FitI p o) (oA : Option Addr) (n oc : Nat) (w : World) (h : PgR w p) (ho : Rd w oA 3 n (encSe o)) :
    C0 Tryz.prog 14 [p.val, .slice oA n oc] w (.tuple #[.bool true, .int .i64 (-1), .int .i64 0]) := by
  have hlen : o.length = n := by have := ho.len; rwa [encSe_len] at this
  have hnj := hp.nj
  have hon := hO.n
  obtain ⟨z2, hc2⟩ : ∃ c, c = runT p hiG o := ⟨_, rfl⟩
  have hlc := runT_len hp hO (hiG_rng hp)
  rw [← hc2] at hlc
  refine ⟨en Tryz.func14 Tryz.ntmps14 ((((St.init w).share (e := .ro p.dA 1 p.days.length (encDy p.days)) h.d rfl rfl rfl).share (e := .ro p.jA 6 p.jobs.length (encJb p.jobs)) h.j rfl rfl rfl).share (e := .ro oA 3 n (encSe o)) ho rfl rfl rfl) (h := fun F => ?_)⟩
  refine sq (h := ?_)
  refine rg (h := ?_)
  refine bxA (h := fun b0 => ?_)
  refine wy asg ?_
  refine WL.cut (by repeat (first | exact Cut.nil | apply Cut.hit | apply Cut.miss (by exact rfl))) ?_
  refine wy asg ?_
  refine WL.cut (by repeat (first | exact Cut.nil | apply Cut.hit | apply Cut.miss (by exact rfl))) ?_
  refine wy asg ?_
  refine WL.cut (by repeat (first | exact Cut.nil | apply Cut.hit | apply Cut.miss (by exact rfl))) ?_
  refine nl (h := ?_)
  refine q_seq (h := ?_)
  refine sq (h := ?_)
  refine sq (h := ?_)
  refine rg (h := ?_)
  refine wy (by first | exact ldA | exact ldEA) ?_
  refine cl0 (hc := fun w hS => C_play_Check p hp w (h.old hS)) (h := ?_)
  refine wy asg ?_
  refine WL.cut (by repeat (first | exact Cut.nil | apply Cut.hit | apply Cut.miss (by exact rfl))) ?_
  refine nl (h := ?_)
  refine q_seq (h := ?_)
  refine sq (h := ?_)
  refine rg (h := ?_)
  refine wy mv ?_
  refine wy ((Yd.fl (neq) (by rfl))) ?_
  refine nl (h := ?_)
  refine q_seq (h := ?_)
  refine cdF (h := ?_)
  refine skp (h := ?_)
  refine q_seq (h := ?_)
  refine sq (h := ?_)
  refine sq (h := ?_)
  refine rg (h := ?_)
  refine wy (by first | exact ldA | exact ldEA) ?_
  refine wy mv ?_
  refine cl0 (hc := fun w hS => C_play_isOrder p hp o hO oA n oc w (h.old hS) (hS.get rdz_)) (h := ?_)
  refine wy ((Yd.fl (notB) (by rfl))) ?_
  refine nl (h := ?_)
  refine q_seq (h := ?_)
  refine cdF (h := ?_)
  refine skp (h := ?_)
  refine q_seq (h := ?_)
  refine sq (h := ?_)
  refine rg (h := ?_)
  refine wy (by first | exact ldA | exact ldEA) ?_
  refine wy mv ?_
  refine cl (hc := fun w hS => C_play_times p hp o hO 40 inferInstance hiG (fun s w => C_play_longest s w) (hiG_rng hp) oA n oc w (h.old hS) (hS.get rdz_)) (h := fun q1 _ => ?_)
  rw [← hc2]
  refine wy mv ?_
  refine wy ex ?_
  refine wy ex ?_
  refine wy asg ?_
  refine wy asg ?_
  refine nl (h := ?_)
  refine q_seq (h := ?_)
  refine sq (h := ?_)
  refine sq (h := ?_)
  refine rg (h := ?_)
  refine wy mv ?_
  refine wy lenS ?_
  refine wy mv ?_
  refine nl (h := ?_)
  refine q_seq (h := ?_)
  refine bk (h := ?_)
  refine lp (X := Nat) (I := fun k => k ≤ n) (le := fun k => [(2, .pointer (some ⟨b0, 0, none⟩)), (9, .slice (some ⟨q1.2, 0, none⟩) p.jobs.length p.jobs.length), (27, .slice oA n oc), (28, .int .i64 n), (29, .int .i64 k)]) (Le := fun _ => [.own (some ⟨q1.2, 0, none⟩) p.jobs.length 3 1 p.jobs.length (enI z2.es), .blk b0 39 p.cells, .ro p.dA 1 p.days.length (encDy p.days), .ro oA 3 n (encSe o)]) (μ := fun k => n - k) 0 (Nat.zero_le _) sbz_ slz_ (fun k hk => ?_)
  refine sq (h := ?_)
  refine rg (h := ?_)
  refine wy lss ?_
  refine nl (h := ?_)
  refine q_seq (h := ?_)
  refine sq (h := ?_)
  refine cd (by exact rfl) (fun h2 => ?_) (fun h2 => ?_)
  · skip
    have hkn : k < n := by have := of_decide_eq_true h2; omega
    obtain ⟨s, hs⟩ : ∃ s, o[k]? = some s := ⟨_, List.getElem?_eq_getElem (by omega)⟩
    have hm := hO.at_ k s (by omega) hs
    have hmj := hm.job
    have hmd := hm.day
    have hmc := hm.court
    obtain ⟨d, hd⟩ : ∃ d, p.days[s.day.toNat]? = some d := ⟨_, List.getElem?_eq_getElem (by omega)⟩
    have hdm := List.mem_of_getElem? hd
    have hdl := (hp.dy _ d (by omega) hd).1
    obtain ⟨cs, hcs⟩ : ∃ c, d.sp[s.court.toNat]? = some c := ⟨_, List.getElem?_eq_getElem (by omega)⟩
    have hfit := hF k s d cs hs hd hcs
    rw [← hc2] at hfit
    have e1 := enI_at (getD_get (l := z2.es) (i := s.job.toNat) (by omega))
    refine skp (h := ?_)
    refine q_seq (h := ?_)
    refine sq (h := ?_)
    refine bk (h := ?_)
    refine sq (h := ?_)
    refine rg (h := ?_)
    refine wy (ix (A := oA) (m := n)) ?_
    refine wy (ldEW (A := oA) (hk := encSe_at hs)) ?_
    refine al (h := fun b1 => ?_)
    first | refine stA (h := ?_) | refine stEA (h := ?_)
    refine nl (h := ?_)
    refine q_seq (h := ?_)
    refine sq (h := ?_)
    refine WC.old (h.s d hdm) ?_
    refine rgD (by kernel_rfl) [(1000000, .own (some ⟨q1.2, 0, none⟩) p.jobs.length 3 1 p.jobs.length (enI z2.es)), (1000000, .blk b0 39 p.cells), (1000000, .blk b1 48 s.cells), (1000000, .ro p.dA 1 p.days.length (encDy p.days)), (1000000, .ro d.A 2 d.sp.length (encSn d.sp))] (by repeat (first | exact HS.nil | (apply HS.keep; (repeat (first | exact At.here | apply At.there))) | (apply HS.ro; (repeat (first | exact Rds.ro | exact Rds.own | apply Rds.there))))) (h := ?_)
    refine tk 0 (hy := mv) (h := ?_)
    refine tk 1 (hy := (by first | exact fa | exact faE)) (h := ?_)
    refine tk 2 (hy := (by first | exact ld | exact ldE)) (h := ?_)
    refine tk 3 (hy := ix (A := some ⟨q1.2, 0, none⟩) (m := p.jobs.length) (hb := by omega)) (h := ?_)
    refine tk 4 (hy := ldE (A := some ⟨q1.2, 0, none⟩) (hk := e1)) (h := ?_)
    refine tk 5 (hy := (by first | exact fa | exact faE)) (h := ?_)
    refine tk 6 (hy := (by first | exact ld | exact ldE)) (h := ?_)
    refine tk 7 (hy := (by first | exact fa | exact faE)) (h := ?_)
    refine tk 8 (hy := (by first | exact ld | exact ldE)) (h := ?_)
    refine tk 9 (hy := ix (A := p.dA) (m := p.days.length) (hb := by omega)) (h := ?_)
    refine tk 10 (hy := ldE (A := p.dA) (hk := encDy_at hd)) (h := ?_)
    refine tk 11 (hy := (by first | exact fa | exact faE)) (h := ?_)
    refine tk 12 (hy := (by first | exact ld | exact ldE)) (h := ?_)
    refine tk 13 (hy := ix (A := d.A) (m := d.sp.length) (hb := by omega)) (h := ?_)
    refine tk 14 (hy := (by first | exact fa | exact faE)) (h := ?_)
    refine tk 15 (hy := ldE (A := d.A) (hk := encSn_at hcs)) (h := ?_)
    refine tk 16 (hy := (Yd.fl (gtr) (by refine decide_eq_false ?_; omega))) (h := ?_)
    refine dn (h := ?_)
    refine q_seq (h := ?_)
    refine cdF (h := ?_)
    refine skp (h := ?_)
    refine q_blk_norm (h := ?_)
    refine q_seq (h := ?_)
    refine rg (h := ?_)
    refine wy addI ?_
    refine wy mv ?_
    refine nl (h := ?_)
    refine rn (x := k) (k + 1) hkn (by omega) sbz_ slz_
  · skip
    have hkn : k = n := by have := of_decide_eq_false h2; omega
    refine et (h := ?_)
    refine q_then_exit (h := ?_)
    refine q_then_exit (h := ?_)
    refine q_blk_hit (h := ?_)
    refine q_seq (h := ?_)
    refine sq (h := ?_)
    refine rg (h := ?_)
    refine wy asg ?_
    refine WL.cut (by repeat (first | exact Cut.nil | apply Cut.hit | apply Cut.miss (by exact rfl))) ?_
    refine wy asg ?_
    refine WL.cut (by repeat (first | exact Cut.nil | apply Cut.hit | apply Cut.miss (by exact rfl))) ?_
    refine wy asg ?_
    refine WL.cut (by repeat (first | exact Cut.nil | apply Cut.hit | apply Cut.miss (by exact rfl))) ?_
    refine nl (h := ?_)
    refine q_seq (h := ?_)
    refine rtn (h := ?_)
    refine q_ret (hR := ?_)
    exact fun w hS => ⟨rfl, hS.sub .nil⟩
end Go.Proofs.YtmlhnajgiopfgaaGreat
