/- The arrays of this seat's program, as literals. -/
import Derived.Test.YtdphljhhcaoleaaTy
import Derived.Test.YtdphljhhcaoleaaWE
namespace Go.Proofs.Ytdphljhhcaoleaa
open Go
instance : BuildArr Try.prog 66 1 [.int .i64 0, .int .i64 0] := ⟨fun parts => by kernel_rfl⟩
instance : BuildArr Try.prog 112 1 [] := ⟨fun parts => by kernel_rfl⟩
end Go.Proofs.Ytdphljhhcaoleaa
