/- The arrays of this seat's program, as literals. -/
import Derived.Test.YtjkoaifjmcgpfaaTy
import Derived.Test.YtjkoaifjmcgpfaaWF
namespace Go.Proofs.Ytjkoaifjmcgpfaa
open Go
instance : BuildArr Try.prog 115 1 [] := ⟨fun parts => by kernel_rfl⟩
instance : FlatTy Try.prog 41 [false, false, true] := ⟨by kernel_rfl, by kernel_rfl, by kernel_rfl⟩
instance : FlatTy Try.prog 42 [false, false, true] := ⟨by kernel_rfl, by kernel_rfl, by kernel_rfl⟩
end Go.Proofs.Ytjkoaifjmcgpfaa
