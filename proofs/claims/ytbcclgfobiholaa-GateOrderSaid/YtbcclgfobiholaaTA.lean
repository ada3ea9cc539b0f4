/- The arrays of this seat's program, as literals. -/
import Derived.Test.YtbcclgfobiholaaTy
import Derived.Test.YtbcclgfobiholaaWF
namespace Go.Proofs.Ytbcclgfobiholaa
open Go
instance : BuildArr Try.prog 62 1 [.bool false, .bool false, .bool false, .bool false] := ⟨fun parts => by kernel_rfl⟩
instance : BuildArr Try.prog 124 1 [] := ⟨fun parts => by kernel_rfl⟩
instance : FlatTy Try.prog 22 [false, false] := ⟨by kernel_rfl, by kernel_rfl, by kernel_rfl⟩
instance : FlatTy Try.prog 23 [false, false] := ⟨by kernel_rfl, by kernel_rfl, by kernel_rfl⟩
instance : FlatTy Try.prog 46 [false, false, false] := ⟨by kernel_rfl, by kernel_rfl, by kernel_rfl⟩
instance : FlatTy Try.prog 47 [false, false, false] := ⟨by kernel_rfl, by kernel_rfl, by kernel_rfl⟩
instance : FlatTy Try.prog 49 [false, false] := ⟨by kernel_rfl, by kernel_rfl, by kernel_rfl⟩
instance : FlatTy Try.prog 50 [false, false] := ⟨by kernel_rfl, by kernel_rfl, by kernel_rfl⟩
instance : FlatTy Try.prog 51 [false, false, false, false] := ⟨by kernel_rfl, by kernel_rfl, by kernel_rfl⟩
instance : FlatTy Try.prog 52 [false, false, false, false] := ⟨by kernel_rfl, by kernel_rfl, by kernel_rfl⟩
instance : FlatTy Try.prog 58 [false, false, false, false] := ⟨by kernel_rfl, by kernel_rfl, by kernel_rfl⟩
instance : FlatTy Try.prog 59 [false, false, false, false] := ⟨by kernel_rfl, by kernel_rfl, by kernel_rfl⟩
instance : MapTy Try.prog 73 3 3 := ⟨by kernel_rfl⟩
end Go.Proofs.Ytbcclgfobiholaa
