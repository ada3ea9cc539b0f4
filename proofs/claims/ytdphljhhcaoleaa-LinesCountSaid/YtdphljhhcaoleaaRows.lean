/-
  No cell of these rows narrows 'for every input' (looked for: loops, veiled, ifaces, maps, wideKeys, modest, calm, conditions, laid).
  DERIVED. THE GIVEN ROWS OF THIS SEAT. 12 by the template 'for every input the law returns true; each argument reads behind the call as it read before'; 0 by the template 'total and deterministic' (their statements: YtdphljhhcaoleaaTotals.lean).
  GIVEN WITH THE SEED: the statements are not yours to turn. If you find one false, say at which input.
  Laid BY PROGRAM, IN A SANDBOX (cutbox-rows.mjs): the forced cells as the released guide's own fill.sh prints them over the translation a6d303d0f6828e7b… (all of the seat's roots in one cut). By AI agents, Wed Nov 11 2026. No macro, syntax, notation, axiom, sorry.
-/
import Derived.Test.YtdphljhhcaoleaaChecked
import GoSem.Claim
import GoSem.ClaimJoined
import GoSem.ClaimMapViews
import Derived.JoinedTies
import Derived.KernelRfl
namespace Go.Proofs.Ytdphljhhcaoleaa
/- THE CELL 'sum', in the pinned program and in every row, IS THE sha256 OF THE DUMP (.gsa) THAT YtdphljhhcaoleaaProg.lean LOADS. Nothing in Lean hashes anything: it is a label: what it is worth is what the hold of that sum in a sandbox is worth. -/
noncomputable def Try.pinned : Pinned := { name := "ytdphljhhcaoleaa", sum := "a6d303d0f6828e7b8d8c1f400d62a3749e564161a1f55e1fb187448c5de49263", checked := Try.checked }
namespace Rows
def none {H : Type} : Left H := { results := [], args := [] }

/-- 'deucelaw02.LinesLess': WHATEVER THE INPUT: true; the input reads as it did. -/
def linesLessSpec : ChangeSpec := { name := "linesLess", fn := fun _ => fun
  | [d1, d2, d3] => { results := [.lit (.bool true)], args := [d1, d2, d3] }
  | _ => none }
def linesLessRow : OpenClaim := { program := "ytdphljhhcaoleaa", sum := "a6d303d0f6828e7b8d8c1f400d62a3749e564161a1f55e1fb187448c5de49263", func := "deuce/deucelaw02.LinesLess", spec := "linesLess", unfollowed := true, recurses := true, apart := false }
def LinesLessSaid : Prop := linesLessRow.holds Try.pinned (OpenSpec.ofChange linesLessSpec)

/-- ITS FALSE NEIGHBOUR: 'it returns false'. Refute it at one input. -/
def linesLessWrong : ChangeSpec := { name := "linesLess", fn := fun _ => fun
  | [d1, d2, d3] => { results := [.lit (.bool false)], args := [d1, d2, d3] }
  | _ => none }
def LinesLessWrongFalsely : Prop := linesLessRow.holds Try.pinned (OpenSpec.ofChange linesLessWrong)

/-- 'deucelaw02.LinesLarger': WHATEVER THE INPUT: true; the input reads as it did. -/
def linesLargerSpec : ChangeSpec := { name := "linesLarger", fn := fun _ => fun
  | [d1, d2, d3] => { results := [.lit (.bool true)], args := [d1, d2, d3] }
  | _ => none }
def linesLargerRow : OpenClaim := { program := "ytdphljhhcaoleaa", sum := "a6d303d0f6828e7b8d8c1f400d62a3749e564161a1f55e1fb187448c5de49263", func := "deuce/deucelaw02.LinesLarger", spec := "linesLarger", unfollowed := true, recurses := true, apart := false }
def LinesLargerSaid : Prop := linesLargerRow.holds Try.pinned (OpenSpec.ofChange linesLargerSpec)

/-- ITS FALSE NEIGHBOUR: 'it returns false'. Refute it at one input. -/
def linesLargerWrong : ChangeSpec := { name := "linesLarger", fn := fun _ => fun
  | [d1, d2, d3] => { results := [.lit (.bool false)], args := [d1, d2, d3] }
  | _ => none }
def LinesLargerWrongFalsely : Prop := linesLargerRow.holds Try.pinned (OpenSpec.ofChange linesLargerWrong)

/-- 'deucelaw02.LinesShows': WHATEVER THE INPUT: true; the input reads as it did. -/
def linesShowsSpec : ChangeSpec := { name := "linesShows", fn := fun _ => fun
  | [d1, d2, d3] => { results := [.lit (.bool true)], args := [d1, d2, d3] }
  | _ => none }
def linesShowsRow : OpenClaim := { program := "ytdphljhhcaoleaa", sum := "a6d303d0f6828e7b8d8c1f400d62a3749e564161a1f55e1fb187448c5de49263", func := "deuce/deucelaw02.LinesShows", spec := "linesShows", unfollowed := true, recurses := true, apart := false }
def LinesShowsSaid : Prop := linesShowsRow.holds Try.pinned (OpenSpec.ofChange linesShowsSpec)

/-- ITS FALSE NEIGHBOUR: 'it returns false'. Refute it at one input. -/
def linesShowsWrong : ChangeSpec := { name := "linesShows", fn := fun _ => fun
  | [d1, d2, d3] => { results := [.lit (.bool false)], args := [d1, d2, d3] }
  | _ => none }
def LinesShowsWrongFalsely : Prop := linesShowsRow.holds Try.pinned (OpenSpec.ofChange linesShowsWrong)

/-- 'deucelaw02.LinesTouches': WHATEVER THE INPUT: true; the input reads as it did. -/
def linesTouchesSpec : ChangeSpec := { name := "linesTouches", fn := fun _ => fun
  | [d1, d2, d3] => { results := [.lit (.bool true)], args := [d1, d2, d3] }
  | _ => none }
def linesTouchesRow : OpenClaim := { program := "ytdphljhhcaoleaa", sum := "a6d303d0f6828e7b8d8c1f400d62a3749e564161a1f55e1fb187448c5de49263", func := "deuce/deucelaw02.LinesTouches", spec := "linesTouches", unfollowed := true, recurses := true, apart := false }
def LinesTouchesSaid : Prop := linesTouchesRow.holds Try.pinned (OpenSpec.ofChange linesTouchesSpec)

/-- ITS FALSE NEIGHBOUR: 'it returns false'. Refute it at one input. -/
def linesTouchesWrong : ChangeSpec := { name := "linesTouches", fn := fun _ => fun
  | [d1, d2, d3] => { results := [.lit (.bool false)], args := [d1, d2, d3] }
  | _ => none }
def LinesTouchesWrongFalsely : Prop := linesTouchesRow.holds Try.pinned (OpenSpec.ofChange linesTouchesWrong)

/-- 'deucelaw02.LinesSure': WHATEVER THE INPUT: true; the input reads as it did. -/
def linesSureSpec : ChangeSpec := { name := "linesSure", fn := fun _ => fun
  | [d1, d2, d3] => { results := [.lit (.bool true)], args := [d1, d2, d3] }
  | _ => none }
def linesSureRow : OpenClaim := { program := "ytdphljhhcaoleaa", sum := "a6d303d0f6828e7b8d8c1f400d62a3749e564161a1f55e1fb187448c5de49263", func := "deuce/deucelaw02.LinesSure", spec := "linesSure", unfollowed := true, recurses := true, apart := false }
def LinesSureSaid : Prop := linesSureRow.holds Try.pinned (OpenSpec.ofChange linesSureSpec)

/-- ITS FALSE NEIGHBOUR: 'it returns false'. Refute it at one input. -/
def linesSureWrong : ChangeSpec := { name := "linesSure", fn := fun _ => fun
  | [d1, d2, d3] => { results := [.lit (.bool false)], args := [d1, d2, d3] }
  | _ => none }
def LinesSureWrongFalsely : Prop := linesSureRow.holds Try.pinned (OpenSpec.ofChange linesSureWrong)

/-- 'deucelaw02.LinesCount': WHATEVER THE INPUT: true; the input reads as it did. -/
def linesCountSpec : ChangeSpec := { name := "linesCount", fn := fun _ => fun
  | [d1, d2] => { results := [.lit (.bool true)], args := [d1, d2] }
  | _ => none }
def linesCountRow : OpenClaim := { program := "ytdphljhhcaoleaa", sum := "a6d303d0f6828e7b8d8c1f400d62a3749e564161a1f55e1fb187448c5de49263", func := "deuce/deucelaw02.LinesCount", spec := "linesCount", unfollowed := true, recurses := true, apart := false }
def LinesCountSaid : Prop := linesCountRow.holds Try.pinned (OpenSpec.ofChange linesCountSpec)

/-- ITS FALSE NEIGHBOUR: 'it returns false'. Refute it at one input. -/
def linesCountWrong : ChangeSpec := { name := "linesCount", fn := fun _ => fun
  | [d1, d2] => { results := [.lit (.bool false)], args := [d1, d2] }
  | _ => none }
def LinesCountWrongFalsely : Prop := linesCountRow.holds Try.pinned (OpenSpec.ofChange linesCountWrong)

/-- 'deucelaw02.LinesRuns': WHATEVER THE INPUT: true; the input reads as it did. -/
def linesRunsSpec : ChangeSpec := { name := "linesRuns", fn := fun _ => fun
  | [d1, d2] => { results := [.lit (.bool true)], args := [d1, d2] }
  | _ => none }
def linesRunsRow : OpenClaim := { program := "ytdphljhhcaoleaa", sum := "a6d303d0f6828e7b8d8c1f400d62a3749e564161a1f55e1fb187448c5de49263", func := "deuce/deucelaw02.LinesRuns", spec := "linesRuns", unfollowed := true, recurses := true, apart := false }
def LinesRunsSaid : Prop := linesRunsRow.holds Try.pinned (OpenSpec.ofChange linesRunsSpec)

/-- ITS FALSE NEIGHBOUR: 'it returns false'. Refute it at one input. -/
def linesRunsWrong : ChangeSpec := { name := "linesRuns", fn := fun _ => fun
  | [d1, d2] => { results := [.lit (.bool false)], args := [d1, d2] }
  | _ => none }
def LinesRunsWrongFalsely : Prop := linesRunsRow.holds Try.pinned (OpenSpec.ofChange linesRunsWrong)

/-- 'deucelaw02.LinesMirror': WHATEVER THE INPUT: true; the input reads as it did. -/
def linesMirrorSpec : ChangeSpec := { name := "linesMirror", fn := fun _ => fun
  | [d1, d2] => { results := [.lit (.bool true)], args := [d1, d2] }
  | _ => none }
def linesMirrorRow : OpenClaim := { program := "ytdphljhhcaoleaa", sum := "a6d303d0f6828e7b8d8c1f400d62a3749e564161a1f55e1fb187448c5de49263", func := "deuce/deucelaw02.LinesMirror", spec := "linesMirror", unfollowed := true, recurses := true, apart := false }
def LinesMirrorSaid : Prop := linesMirrorRow.holds Try.pinned (OpenSpec.ofChange linesMirrorSpec)

/-- ITS FALSE NEIGHBOUR: 'it returns false'. Refute it at one input. -/
def linesMirrorWrong : ChangeSpec := { name := "linesMirror", fn := fun _ => fun
  | [d1, d2] => { results := [.lit (.bool false)], args := [d1, d2] }
  | _ => none }
def LinesMirrorWrongFalsely : Prop := linesMirrorRow.holds Try.pinned (OpenSpec.ofChange linesMirrorWrong)

/-- 'deucelaw02.LinesSlack': WHATEVER THE INPUT: true; the input reads as it did. -/
def linesSlackSpec : ChangeSpec := { name := "linesSlack", fn := fun _ => fun
  | [d1, d2] => { results := [.lit (.bool true)], args := [d1, d2] }
  | _ => none }
def linesSlackRow : OpenClaim := { program := "ytdphljhhcaoleaa", sum := "a6d303d0f6828e7b8d8c1f400d62a3749e564161a1f55e1fb187448c5de49263", func := "deuce/deucelaw02.LinesSlack", spec := "linesSlack", unfollowed := true, recurses := true, apart := false }
def LinesSlackSaid : Prop := linesSlackRow.holds Try.pinned (OpenSpec.ofChange linesSlackSpec)

/-- ITS FALSE NEIGHBOUR: 'it returns false'. Refute it at one input. -/
def linesSlackWrong : ChangeSpec := { name := "linesSlack", fn := fun _ => fun
  | [d1, d2] => { results := [.lit (.bool false)], args := [d1, d2] }
  | _ => none }
def LinesSlackWrongFalsely : Prop := linesSlackRow.holds Try.pinned (OpenSpec.ofChange linesSlackWrong)

/-- 'deucelaw02.LinesCalls': WHATEVER THE INPUT: true; the input reads as it did. -/
def linesCallsSpec : ChangeSpec := { name := "linesCalls", fn := fun _ => fun
  | [d1, d2, d3] => { results := [.lit (.bool true)], args := [d1, d2, d3] }
  | _ => none }
def linesCallsRow : OpenClaim := { program := "ytdphljhhcaoleaa", sum := "a6d303d0f6828e7b8d8c1f400d62a3749e564161a1f55e1fb187448c5de49263", func := "deuce/deucelaw02.LinesCalls", spec := "linesCalls", unfollowed := true, recurses := true, apart := false }
def LinesCallsSaid : Prop := linesCallsRow.holds Try.pinned (OpenSpec.ofChange linesCallsSpec)

/-- ITS FALSE NEIGHBOUR: 'it returns false'. Refute it at one input. -/
def linesCallsWrong : ChangeSpec := { name := "linesCalls", fn := fun _ => fun
  | [d1, d2, d3] => { results := [.lit (.bool false)], args := [d1, d2, d3] }
  | _ => none }
def LinesCallsWrongFalsely : Prop := linesCallsRow.holds Try.pinned (OpenSpec.ofChange linesCallsWrong)

/-- 'deucelaw02.LinesCentres': WHATEVER THE INPUT: true; the input reads as it did. -/
def linesCentresSpec : ChangeSpec := { name := "linesCentres", fn := fun _ => fun
  | [d] => { results := [.lit (.bool true)], args := [d] }
  | _ => none }
def linesCentresRow : OpenClaim := { program := "ytdphljhhcaoleaa", sum := "a6d303d0f6828e7b8d8c1f400d62a3749e564161a1f55e1fb187448c5de49263", func := "deuce/deucelaw02.LinesCentres", spec := "linesCentres", unfollowed := true, recurses := true, apart := false }
def LinesCentresSaid : Prop := linesCentresRow.holds Try.pinned (OpenSpec.ofChange linesCentresSpec)

/-- ITS FALSE NEIGHBOUR: 'it returns false'. Refute it at one input. -/
def linesCentresWrong : ChangeSpec := { name := "linesCentres", fn := fun _ => fun
  | [d] => { results := [.lit (.bool false)], args := [d] }
  | _ => none }
def LinesCentresWrongFalsely : Prop := linesCentresRow.holds Try.pinned (OpenSpec.ofChange linesCentresWrong)

/-- 'deucelaw02.LinesBlamed': WHATEVER THE INPUT: true; the input reads as it did. -/
def linesBlamedSpec : ChangeSpec := { name := "linesBlamed", fn := fun _ => fun
  | [d1, d2] => { results := [.lit (.bool true)], args := [d1, d2] }
  | _ => none }
def linesBlamedRow : OpenClaim := { program := "ytdphljhhcaoleaa", sum := "a6d303d0f6828e7b8d8c1f400d62a3749e564161a1f55e1fb187448c5de49263", func := "deuce/deucelaw02.LinesBlamed", spec := "linesBlamed", unfollowed := true, recurses := true, apart := false }
def LinesBlamedSaid : Prop := linesBlamedRow.holds Try.pinned (OpenSpec.ofChange linesBlamedSpec)

/-- ITS FALSE NEIGHBOUR: 'it returns false'. Refute it at one input. -/
def linesBlamedWrong : ChangeSpec := { name := "linesBlamed", fn := fun _ => fun
  | [d1, d2] => { results := [.lit (.bool false)], args := [d1, d2] }
  | _ => none }
def LinesBlamedWrongFalsely : Prop := linesBlamedRow.holds Try.pinned (OpenSpec.ofChange linesBlamedWrong)

/- THE SECOND FORM. 'bulk': how many values and letters a reading holds, each counted each time it is reached (what is shared counts as often as it is met; a slice's spare places count too). A statement '..UptoSaid' is the law's where the arguments, and the package variables that the reading takes, are together of bulk at most 1048576: NARROWER than '..Said'. Prove '..Said' where nothing that the law and all that it calls make is longer than what came in: it says more and counts as full. Else prove '..UptoSaid'. A law counts once. -/
mutual
def uptoBulk {H : Type} : DataW H → Nat
  | .lit (.string bytes) => bytes.length + 1
  | .lit _ => 1
  | .nil => 1
  | .ptr d => uptoBulk d + 1
  | .slice elems spare => uptoBulkAll elems + uptoBulkAll spare + 1
  | .agg parts => uptoBulkAll parts + 1
  | .iface _ d => uptoBulk d + 1
  | .map entries => uptoBulkEntries entries + 1
  | .held _ => 1
def uptoBulkAll {H : Type} : List (DataW H) → Nat
  | [] => 0
  | d :: r => uptoBulk d + uptoBulkAll r
def uptoBulkEntries {H : Type} : List (Lit × DataW H) → Nat
  | [] => 0
  | x :: r => uptoBulkEntry x + uptoBulkEntries r
def uptoBulkEntry {H : Type} : Lit × DataW H → Nat
  | (.string bytes, d) => bytes.length + uptoBulk d + 1
  | (_, d) => uptoBulk d + 1
 end
def uptoSmall : (H : Type) → List (DataW H) → Bool := fun _ ds => decide (uptoBulkAll ds ≤ 1048576)
def OpenSpec.upto (s : _root_.Go.ChangeSpec) : _root_.Go.OpenSpec := { _root_.Go.OpenSpec.ofChange s with cond := some uptoSmall }

/-- 'deucelaw02.LinesLess', WHERE WHAT IT READS IS OF BULK AT MOST 1048576: true; the input reads as it did. -/
def linesLessUptoRow : OpenClaim := { program := "ytdphljhhcaoleaa", sum := "a6d303d0f6828e7b8d8c1f400d62a3749e564161a1f55e1fb187448c5de49263", func := "deuce/deucelaw02.LinesLess", spec := "linesLess", unfollowed := true, recurses := true, apart := false, narrowed := true }
def LinesLessUptoSaid : Prop := linesLessUptoRow.holds Try.pinned (OpenSpec.upto linesLessSpec)

/-- 'deucelaw02.LinesLarger', WHERE WHAT IT READS IS OF BULK AT MOST 1048576: true; the input reads as it did. -/
def linesLargerUptoRow : OpenClaim := { program := "ytdphljhhcaoleaa", sum := "a6d303d0f6828e7b8d8c1f400d62a3749e564161a1f55e1fb187448c5de49263", func := "deuce/deucelaw02.LinesLarger", spec := "linesLarger", unfollowed := true, recurses := true, apart := false, narrowed := true }
def LinesLargerUptoSaid : Prop := linesLargerUptoRow.holds Try.pinned (OpenSpec.upto linesLargerSpec)

/-- 'deucelaw02.LinesShows', WHERE WHAT IT READS IS OF BULK AT MOST 1048576: true; the input reads as it did. -/
def linesShowsUptoRow : OpenClaim := { program := "ytdphljhhcaoleaa", sum := "a6d303d0f6828e7b8d8c1f400d62a3749e564161a1f55e1fb187448c5de49263", func := "deuce/deucelaw02.LinesShows", spec := "linesShows", unfollowed := true, recurses := true, apart := false, narrowed := true }
def LinesShowsUptoSaid : Prop := linesShowsUptoRow.holds Try.pinned (OpenSpec.upto linesShowsSpec)

/-- 'deucelaw02.LinesTouches', WHERE WHAT IT READS IS OF BULK AT MOST 1048576: true; the input reads as it did. -/
def linesTouchesUptoRow : OpenClaim := { program := "ytdphljhhcaoleaa", sum := "a6d303d0f6828e7b8d8c1f400d62a3749e564161a1f55e1fb187448c5de49263", func := "deuce/deucelaw02.LinesTouches", spec := "linesTouches", unfollowed := true, recurses := true, apart := false, narrowed := true }
def LinesTouchesUptoSaid : Prop := linesTouchesUptoRow.holds Try.pinned (OpenSpec.upto linesTouchesSpec)

/-- 'deucelaw02.LinesSure', WHERE WHAT IT READS IS OF BULK AT MOST 1048576: true; the input reads as it did. -/
def linesSureUptoRow : OpenClaim := { program := "ytdphljhhcaoleaa", sum := "a6d303d0f6828e7b8d8c1f400d62a3749e564161a1f55e1fb187448c5de49263", func := "deuce/deucelaw02.LinesSure", spec := "linesSure", unfollowed := true, recurses := true, apart := false, narrowed := true }
def LinesSureUptoSaid : Prop := linesSureUptoRow.holds Try.pinned (OpenSpec.upto linesSureSpec)

/-- 'deucelaw02.LinesCount', WHERE WHAT IT READS IS OF BULK AT MOST 1048576: true; the input reads as it did. -/
def linesCountUptoRow : OpenClaim := { program := "ytdphljhhcaoleaa", sum := "a6d303d0f6828e7b8d8c1f400d62a3749e564161a1f55e1fb187448c5de49263", func := "deuce/deucelaw02.LinesCount", spec := "linesCount", unfollowed := true, recurses := true, apart := false, narrowed := true }
def LinesCountUptoSaid : Prop := linesCountUptoRow.holds Try.pinned (OpenSpec.upto linesCountSpec)

/-- 'deucelaw02.LinesRuns', WHERE WHAT IT READS IS OF BULK AT MOST 1048576: true; the input reads as it did. -/
def linesRunsUptoRow : OpenClaim := { program := "ytdphljhhcaoleaa", sum := "a6d303d0f6828e7b8d8c1f400d62a3749e564161a1f55e1fb187448c5de49263", func := "deuce/deucelaw02.LinesRuns", spec := "linesRuns", unfollowed := true, recurses := true, apart := false, narrowed := true }
def LinesRunsUptoSaid : Prop := linesRunsUptoRow.holds Try.pinned (OpenSpec.upto linesRunsSpec)

/-- 'deucelaw02.LinesMirror', WHERE WHAT IT READS IS OF BULK AT MOST 1048576: true; the input reads as it did. -/
def linesMirrorUptoRow : OpenClaim := { program := "ytdphljhhcaoleaa", sum := "a6d303d0f6828e7b8d8c1f400d62a3749e564161a1f55e1fb187448c5de49263", func := "deuce/deucelaw02.LinesMirror", spec := "linesMirror", unfollowed := true, recurses := true, apart := false, narrowed := true }
def LinesMirrorUptoSaid : Prop := linesMirrorUptoRow.holds Try.pinned (OpenSpec.upto linesMirrorSpec)

/-- 'deucelaw02.LinesSlack', WHERE WHAT IT READS IS OF BULK AT MOST 1048576: true; the input reads as it did. -/
def linesSlackUptoRow : OpenClaim := { program := "ytdphljhhcaoleaa", sum := "a6d303d0f6828e7b8d8c1f400d62a3749e564161a1f55e1fb187448c5de49263", func := "deuce/deucelaw02.LinesSlack", spec := "linesSlack", unfollowed := true, recurses := true, apart := false, narrowed := true }
def LinesSlackUptoSaid : Prop := linesSlackUptoRow.holds Try.pinned (OpenSpec.upto linesSlackSpec)

/-- 'deucelaw02.LinesCalls', WHERE WHAT IT READS IS OF BULK AT MOST 1048576: true; the input reads as it did. -/
def linesCallsUptoRow : OpenClaim := { program := "ytdphljhhcaoleaa", sum := "a6d303d0f6828e7b8d8c1f400d62a3749e564161a1f55e1fb187448c5de49263", func := "deuce/deucelaw02.LinesCalls", spec := "linesCalls", unfollowed := true, recurses := true, apart := false, narrowed := true }
def LinesCallsUptoSaid : Prop := linesCallsUptoRow.holds Try.pinned (OpenSpec.upto linesCallsSpec)

/-- 'deucelaw02.LinesCentres', WHERE WHAT IT READS IS OF BULK AT MOST 1048576: true; the input reads as it did. -/
def linesCentresUptoRow : OpenClaim := { program := "ytdphljhhcaoleaa", sum := "a6d303d0f6828e7b8d8c1f400d62a3749e564161a1f55e1fb187448c5de49263", func := "deuce/deucelaw02.LinesCentres", spec := "linesCentres", unfollowed := true, recurses := true, apart := false, narrowed := true }
def LinesCentresUptoSaid : Prop := linesCentresUptoRow.holds Try.pinned (OpenSpec.upto linesCentresSpec)

/-- 'deucelaw02.LinesBlamed', WHERE WHAT IT READS IS OF BULK AT MOST 1048576: true; the input reads as it did. -/
def linesBlamedUptoRow : OpenClaim := { program := "ytdphljhhcaoleaa", sum := "a6d303d0f6828e7b8d8c1f400d62a3749e564161a1f55e1fb187448c5de49263", func := "deuce/deucelaw02.LinesBlamed", spec := "linesBlamed", unfollowed := true, recurses := true, apart := false, narrowed := true }
def LinesBlamedUptoSaid : Prop := linesBlamedUptoRow.holds Try.pinned (OpenSpec.upto linesBlamedSpec)

end Rows
end Go.Proofs.Ytdphljhhcaoleaa
