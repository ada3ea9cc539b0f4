/- The arrays of this seat's program, as literals. -/
import Derived.Test.YtacaojifempclaaTy
import Derived.Test.YtacaojifempclaaWF
namespace Go.Proofs.Ytacaojifempclaa
open Go
instance : BuildArr Try.prog 111 2 [.int .i64 0, .int .i64 0, .int .i64 0, .int .i64 0, .int .i64 0, .int .i64 0, .int .i64 0, .int .i64 0, .int .i64 0, .int .i64 0, .int .i64 0, .int .i64 0, .int .i64 0, .int .i64 0, .int .i64 0, .int .i64 0, .int .i64 0, .int .i64 0, .int .i64 0, .int .i64 0, .int .i64 0, .int .i64 0, .int .i64 0, .int .i64 0, .int .i64 0, .int .i64 0, .int .i64 0, .int .i64 0, .int .i64 0, .int .i64 0, .int .i64 0, .int .i64 0, .int .i64 0, .int .i64 0, .int .i64 0, .int .i64 0, .int .i64 0, .int .i64 0, .int .i64 0, .int .i64 0, .int .i64 0, .int .i64 0, .int .i64 0, .int .i64 0, .int .i64 0, .int .i64 0, .int .i64 0, .int .i64 0, .int .i64 0, .int .i64 0, .int .i64 0, .int .i64 0, .int .i64 0, .int .i64 0, .int .i64 0, .int .i64 0, .int .i64 0, .int .i64 0, .int .i64 0, .int .i64 0, .int .i64 0, .int .i64 0, .int .i64 0, .int .i64 0, .int .i64 0, .int .i64 0, .int .i64 0, .int .i64 0, .int .i64 0, .int .i64 0, .int .i64 0, .int .i64 0, .int .i64 0, .int .i64 0, .int .i64 0, .int .i64 0, .int .i64 0, .int .i64 0, .int .i64 0, .int .i64 0, .int .i64 0, .int .i64 0, .int .i64 0, .int .i64 0, .int .i64 0, .int .i64 0, .int .i64 0, .int .i64 0, .int .i64 0, .int .i64 0, .int .i64 0, .int .i64 0, .int .i64 0, .int .i64 0, .int .i64 0, .int .i64 0, .int .i64 0, .int .i64 0, .int .i64 0, .int .i64 0, .int .i64 0, .int .i64 0, .int .i64 0, .int .i64 0, .int .i64 0, .int .i64 0, .int .i64 0, .int .i64 0, .int .i64 0, .int .i64 0, .int .i64 0, .int .i64 0, .int .i64 0, .int .i64 0, .int .i64 0, .int .i64 0, .int .i64 0, .int .i64 0, .int .i64 0, .int .i64 0, .int .i64 0, .int .i64 0] := ⟨fun parts => by kernel_rfl⟩
instance : BuildArr Try.prog 157 1 [.int .i64 0, .int .i64 0] := ⟨fun parts => by kernel_rfl⟩
instance : BuildArr Try.prog 181 2 [.int .i64 0, .int .i64 0, .int .i64 0, .int .i64 0, .int .i64 0, .int .i64 0] := ⟨fun parts => by kernel_rfl⟩
instance : BuildArr Try.prog 182 2 [.int .i64 0, .int .i64 0, .int .i64 0, .int .i64 0, .int .i64 0, .int .i64 0] := ⟨fun parts => by kernel_rfl⟩
instance : BuildArr Try.prog 196 1 [] := ⟨fun parts => by kernel_rfl⟩
instance : FlatTy Try.prog 22 [false, false, true, false, false, false, false, false, false, true] := ⟨by kernel_rfl, by kernel_rfl, by kernel_rfl⟩
instance : FlatTy Try.prog 23 [false, false, true, false, false, false, false, false, false, true] := ⟨by kernel_rfl, by kernel_rfl, by kernel_rfl⟩
instance : FlatTy Try.prog 25 [false, false] := ⟨by kernel_rfl, by kernel_rfl, by kernel_rfl⟩
instance : FlatTy Try.prog 26 [false, false] := ⟨by kernel_rfl, by kernel_rfl, by kernel_rfl⟩
instance : FlatTy Try.prog 38 [false, false] := ⟨by kernel_rfl, by kernel_rfl, by kernel_rfl⟩
instance : FlatTy Try.prog 39 [false, false] := ⟨by kernel_rfl, by kernel_rfl, by kernel_rfl⟩
instance : FlatTy Try.prog 43 [false, false, false] := ⟨by kernel_rfl, by kernel_rfl, by kernel_rfl⟩
instance : FlatTy Try.prog 44 [false, false, false] := ⟨by kernel_rfl, by kernel_rfl, by kernel_rfl⟩
instance : FlatTy Try.prog 50 [false, false] := ⟨by kernel_rfl, by kernel_rfl, by kernel_rfl⟩
instance : FlatTy Try.prog 51 [false, false] := ⟨by kernel_rfl, by kernel_rfl, by kernel_rfl⟩
instance : FlatTy Try.prog 61 [false, false, false] := ⟨by kernel_rfl, by kernel_rfl, by kernel_rfl⟩
instance : FlatTy Try.prog 62 [false, false, false] := ⟨by kernel_rfl, by kernel_rfl, by kernel_rfl⟩
instance : FlatTy Try.prog 79 [false, false, true, false, false, false, false, false, false, true] := ⟨by kernel_rfl, by kernel_rfl, by kernel_rfl⟩
instance : FlatTy Try.prog 80 [false, false, true, false, false, false, false, false, false, true] := ⟨by kernel_rfl, by kernel_rfl, by kernel_rfl⟩
instance : FlatTy Try.prog 85 [false, false, false, false] := ⟨by kernel_rfl, by kernel_rfl, by kernel_rfl⟩
instance : FlatTy Try.prog 86 [false, false, false, false] := ⟨by kernel_rfl, by kernel_rfl, by kernel_rfl⟩
instance : MapTy Try.prog 88 86 3 := ⟨by kernel_rfl⟩
instance : FlatTy Try.prog 102 [false, false, false, false] := ⟨by kernel_rfl, by kernel_rfl, by kernel_rfl⟩
instance : FlatTy Try.prog 103 [false, false, false, false] := ⟨by kernel_rfl, by kernel_rfl, by kernel_rfl⟩
instance : FlatTy Try.prog 108 [false, false, false, false] := ⟨by kernel_rfl, by kernel_rfl, by kernel_rfl⟩
instance : FlatTy Try.prog 109 [false, false, false, false] := ⟨by kernel_rfl, by kernel_rfl, by kernel_rfl⟩
instance : FlatTy Try.prog 136 [false, false] := ⟨by kernel_rfl, by kernel_rfl, by kernel_rfl⟩
instance : FlatTy Try.prog 137 [false, false] := ⟨by kernel_rfl, by kernel_rfl, by kernel_rfl⟩
instance : FlatTy Try.prog 139 [false, true] := ⟨by kernel_rfl, by kernel_rfl, by kernel_rfl⟩
instance : FlatTy Try.prog 140 [false, true] := ⟨by kernel_rfl, by kernel_rfl, by kernel_rfl⟩
instance : MapTy Try.prog 142 26 140 := ⟨by kernel_rfl⟩
instance : MapTy Try.prog 154 159 103 := ⟨by kernel_rfl⟩
instance : FlatTy Try.prog 158 [false, false, false, false, false, false, false] := ⟨by kernel_rfl, by kernel_rfl, by kernel_rfl⟩
instance : FlatTy Try.prog 159 [false, false, false, false, false, false, false] := ⟨by kernel_rfl, by kernel_rfl, by kernel_rfl⟩
instance : FlatTy Try.prog 187 [false, true, false, false, false, false, true] := ⟨by kernel_rfl, by kernel_rfl, by kernel_rfl⟩
instance : FlatTy Try.prog 188 [false, true, false, false, false, false, true] := ⟨by kernel_rfl, by kernel_rfl, by kernel_rfl⟩
end Go.Proofs.Ytacaojifempclaa
