/-
  No cell of these rows narrows 'for every input' (looked for: loops, veiled, ifaces, maps, wideKeys, modest, calm, conditions, laid).
  DERIVED. THE GIVEN ROWS OF THIS SEAT. 7 by the template 'for every input the law returns true; each argument reads behind the call as it read before'; 0 by the template 'total and deterministic' (their statements: YtacaojifempclaaTotals.lean).
  GIVEN WITH THE SEED: the statements are not yours to turn. If you find one false, say at which input.
  Laid BY PROGRAM, IN A SANDBOX (cutbox-rows.mjs): the forced cells as the released guide's own fill.sh prints them over the translation 4f6616e6db7c54e9… (all of the seat's roots in one cut). By AI agents, Wed Nov 11 2026. No macro, syntax, notation, axiom, sorry.
-/
import Derived.Test.YtacaojifempclaaChecked
import GoSem.Claim
import GoSem.ClaimJoined
import GoSem.ClaimMapViews
import Derived.JoinedTies
import Derived.KernelRfl
namespace Go.Proofs.Ytacaojifempclaa
/- THE CELL 'sum', in the pinned program and in every row, IS THE sha256 OF THE DUMP (.gsa) THAT YtacaojifempclaaProg.lean LOADS. Nothing in Lean hashes anything: it is a label: what it is worth is what the hold of that sum in a sandbox is worth. -/
noncomputable def Try.pinned : Pinned := { name := "ytacaojifempclaa", sum := "4f6616e6db7c54e9151ac5a44d45029de4cf65507115c41bb412424b020a4953", checked := Try.checked }
namespace Rows
def none {H : Type} : Left H := { results := [], args := [] }

/-- 'deucelaw01.ScoreBoards': WHATEVER THE INPUT: true; the input reads as it did. -/
def scoreBoardsSpec : ChangeSpec := { name := "scoreBoards", fn := fun _ => fun
  | [d1, d2, d3] => { results := [.lit (.bool true)], args := [d1, d2, d3] }
  | _ => none }
def scoreBoardsRow : OpenClaim := { program := "ytacaojifempclaa", sum := "4f6616e6db7c54e9151ac5a44d45029de4cf65507115c41bb412424b020a4953", func := "deuce/deucelaw01.ScoreBoards", spec := "scoreBoards", unfollowed := true, recurses := true, plainKeys := false, apart := false }
def ScoreBoardsSaid : Prop := scoreBoardsRow.holds Try.pinned (OpenSpec.ofChange scoreBoardsSpec)

/-- ITS FALSE NEIGHBOUR: 'it returns false'. Refute it at one input. -/
def scoreBoardsWrong : ChangeSpec := { name := "scoreBoards", fn := fun _ => fun
  | [d1, d2, d3] => { results := [.lit (.bool false)], args := [d1, d2, d3] }
  | _ => none }
def ScoreBoardsWrongFalsely : Prop := scoreBoardsRow.holds Try.pinned (OpenSpec.ofChange scoreBoardsWrong)

/-- 'deucelaw09.BallsRests': WHATEVER THE INPUT: true; the input reads as it did. -/
def ballsRestsSpec : ChangeSpec := { name := "ballsRests", fn := fun _ => fun
  | [d1, d2] => { results := [.lit (.bool true)], args := [d1, d2] }
  | _ => none }
def ballsRestsRow : OpenClaim := { program := "ytacaojifempclaa", sum := "4f6616e6db7c54e9151ac5a44d45029de4cf65507115c41bb412424b020a4953", func := "deuce/deucelaw09.BallsRests", spec := "ballsRests", unfollowed := true, recurses := true, plainKeys := false, apart := false }
def BallsRestsSaid : Prop := ballsRestsRow.holds Try.pinned (OpenSpec.ofChange ballsRestsSpec)

/-- ITS FALSE NEIGHBOUR: 'it returns false'. Refute it at one input. -/
def ballsRestsWrong : ChangeSpec := { name := "ballsRests", fn := fun _ => fun
  | [d1, d2] => { results := [.lit (.bool false)], args := [d1, d2] }
  | _ => none }
def BallsRestsWrongFalsely : Prop := ballsRestsRow.holds Try.pinned (OpenSpec.ofChange ballsRestsWrong)

/-- 'deucelaw09.BallsOrder': WHATEVER THE INPUT: true; the input reads as it did. -/
def ballsOrderSpec : ChangeSpec := { name := "ballsOrder", fn := fun _ => fun
  | [d1, d2, d3] => { results := [.lit (.bool true)], args := [d1, d2, d3] }
  | _ => none }
def ballsOrderRow : OpenClaim := { program := "ytacaojifempclaa", sum := "4f6616e6db7c54e9151ac5a44d45029de4cf65507115c41bb412424b020a4953", func := "deuce/deucelaw09.BallsOrder", spec := "ballsOrder", unfollowed := true, recurses := true, plainKeys := false, apart := false }
def BallsOrderSaid : Prop := ballsOrderRow.holds Try.pinned (OpenSpec.ofChange ballsOrderSpec)

/-- ITS FALSE NEIGHBOUR: 'it returns false'. Refute it at one input. -/
def ballsOrderWrong : ChangeSpec := { name := "ballsOrder", fn := fun _ => fun
  | [d1, d2, d3] => { results := [.lit (.bool false)], args := [d1, d2, d3] }
  | _ => none }
def BallsOrderWrongFalsely : Prop := ballsOrderRow.holds Try.pinned (OpenSpec.ofChange ballsOrderWrong)

/-- 'deucelaw09.BallsSums': WHATEVER THE INPUT: true; the input reads as it did. -/
def ballsSumsSpec : ChangeSpec := { name := "ballsSums", fn := fun _ => fun
  | [d1, d2] => { results := [.lit (.bool true)], args := [d1, d2] }
  | _ => none }
def ballsSumsRow : OpenClaim := { program := "ytacaojifempclaa", sum := "4f6616e6db7c54e9151ac5a44d45029de4cf65507115c41bb412424b020a4953", func := "deuce/deucelaw09.BallsSums", spec := "ballsSums", unfollowed := true, recurses := true, plainKeys := false, apart := false }
def BallsSumsSaid : Prop := ballsSumsRow.holds Try.pinned (OpenSpec.ofChange ballsSumsSpec)

/-- ITS FALSE NEIGHBOUR: 'it returns false'. Refute it at one input. -/
def ballsSumsWrong : ChangeSpec := { name := "ballsSums", fn := fun _ => fun
  | [d1, d2] => { results := [.lit (.bool false)], args := [d1, d2] }
  | _ => none }
def BallsSumsWrongFalsely : Prop := ballsSumsRow.holds Try.pinned (OpenSpec.ofChange ballsSumsWrong)

/-- 'deucelaw09.BallsShort': WHATEVER THE INPUT: true; the input reads as it did. -/
def ballsShortSpec : ChangeSpec := { name := "ballsShort", fn := fun _ => fun
  | [d1, d2] => { results := [.lit (.bool true)], args := [d1, d2] }
  | _ => none }
def ballsShortRow : OpenClaim := { program := "ytacaojifempclaa", sum := "4f6616e6db7c54e9151ac5a44d45029de4cf65507115c41bb412424b020a4953", func := "deuce/deucelaw09.BallsShort", spec := "ballsShort", unfollowed := true, recurses := true, plainKeys := false, apart := false }
def BallsShortSaid : Prop := ballsShortRow.holds Try.pinned (OpenSpec.ofChange ballsShortSpec)

/-- ITS FALSE NEIGHBOUR: 'it returns false'. Refute it at one input. -/
def ballsShortWrong : ChangeSpec := { name := "ballsShort", fn := fun _ => fun
  | [d1, d2] => { results := [.lit (.bool false)], args := [d1, d2] }
  | _ => none }
def BallsShortWrongFalsely : Prop := ballsShortRow.holds Try.pinned (OpenSpec.ofChange ballsShortWrong)

/-- 'deucelaw09.BallsMore': WHATEVER THE INPUT: true; the input reads as it did. -/
def ballsMoreSpec : ChangeSpec := { name := "ballsMore", fn := fun _ => fun
  | [d1, d2, d3] => { results := [.lit (.bool true)], args := [d1, d2, d3] }
  | _ => none }
def ballsMoreRow : OpenClaim := { program := "ytacaojifempclaa", sum := "4f6616e6db7c54e9151ac5a44d45029de4cf65507115c41bb412424b020a4953", func := "deuce/deucelaw09.BallsMore", spec := "ballsMore", unfollowed := true, recurses := true, plainKeys := false, apart := false }
def BallsMoreSaid : Prop := ballsMoreRow.holds Try.pinned (OpenSpec.ofChange ballsMoreSpec)

/-- ITS FALSE NEIGHBOUR: 'it returns false'. Refute it at one input. -/
def ballsMoreWrong : ChangeSpec := { name := "ballsMore", fn := fun _ => fun
  | [d1, d2, d3] => { results := [.lit (.bool false)], args := [d1, d2, d3] }
  | _ => none }
def BallsMoreWrongFalsely : Prop := ballsMoreRow.holds Try.pinned (OpenSpec.ofChange ballsMoreWrong)

/-- 'deucelaw09.BallsDepots': WHATEVER THE INPUT: true; the input reads as it did. -/
def ballsDepotsSpec : ChangeSpec := { name := "ballsDepots", fn := fun _ => fun
  | [d1, d2] => { results := [.lit (.bool true)], args := [d1, d2] }
  | _ => none }
def ballsDepotsRow : OpenClaim := { program := "ytacaojifempclaa", sum := "4f6616e6db7c54e9151ac5a44d45029de4cf65507115c41bb412424b020a4953", func := "deuce/deucelaw09.BallsDepots", spec := "ballsDepots", unfollowed := true, recurses := true, plainKeys := false, apart := false }
def BallsDepotsSaid : Prop := ballsDepotsRow.holds Try.pinned (OpenSpec.ofChange ballsDepotsSpec)

/-- ITS FALSE NEIGHBOUR: 'it returns false'. Refute it at one input. -/
def ballsDepotsWrong : ChangeSpec := { name := "ballsDepots", fn := fun _ => fun
  | [d1, d2] => { results := [.lit (.bool false)], args := [d1, d2] }
  | _ => none }
def BallsDepotsWrongFalsely : Prop := ballsDepotsRow.holds Try.pinned (OpenSpec.ofChange ballsDepotsWrong)

/- THE SECOND FORM. 'bulk': how many values and letters a reading holds, each counted each time it is reached (what is shared counts as often as it is met; a slice's spare places count too). A statement '..UptoSaid' is the law's where the arguments, and the package variables that the reading takes, are together of bulk at most 1048576: NARROWER than '..Said'. Prove '..Said' where nothing that the law and all that it calls make is longer than what came in: it says more and counts as full. Else prove '..UptoSaid'. A law counts once. -/
mutual
def uptoBulk {H : Type} : DataW H → Nat
  | .lit (.string bytes) => bytes.length + 1
  | .lit _ => 1
  | .nil => 1
  | .ptr d => uptoBulk d + 1
  | .slice elems spare => uptoBulkAll elems + uptoBulkAll spare + 1
  | .agg parts => uptoBulkAll parts + 1
  | .iface _ d => uptoBulk d + 1
  | .map entries => uptoBulkEntries entries + 1
  | .held _ => 1
def uptoBulkAll {H : Type} : List (DataW H) → Nat
  | [] => 0
  | d :: r => uptoBulk d + uptoBulkAll r
def uptoBulkEntries {H : Type} : List (Lit × DataW H) → Nat
  | [] => 0
  | x :: r => uptoBulkEntry x + uptoBulkEntries r
def uptoBulkEntry {H : Type} : Lit × DataW H → Nat
  | (.string bytes, d) => bytes.length + uptoBulk d + 1
  | (_, d) => uptoBulk d + 1
 end
def uptoSmall : (H : Type) → List (DataW H) → Bool := fun _ ds => decide (uptoBulkAll ds ≤ 1048576)
def OpenSpec.upto (s : _root_.Go.ChangeSpec) : _root_.Go.OpenSpec := { _root_.Go.OpenSpec.ofChange s with cond := some uptoSmall }

/-- 'deucelaw01.ScoreBoards', WHERE WHAT IT READS IS OF BULK AT MOST 1048576: true; the input reads as it did. -/
def scoreBoardsUptoRow : OpenClaim := { program := "ytacaojifempclaa", sum := "4f6616e6db7c54e9151ac5a44d45029de4cf65507115c41bb412424b020a4953", func := "deuce/deucelaw01.ScoreBoards", spec := "scoreBoards", unfollowed := true, recurses := true, plainKeys := false, apart := false, narrowed := true }
def ScoreBoardsUptoSaid : Prop := scoreBoardsUptoRow.holds Try.pinned (OpenSpec.upto scoreBoardsSpec)

/-- 'deucelaw09.BallsRests', WHERE WHAT IT READS IS OF BULK AT MOST 1048576: true; the input reads as it did. -/
def ballsRestsUptoRow : OpenClaim := { program := "ytacaojifempclaa", sum := "4f6616e6db7c54e9151ac5a44d45029de4cf65507115c41bb412424b020a4953", func := "deuce/deucelaw09.BallsRests", spec := "ballsRests", unfollowed := true, recurses := true, plainKeys := false, apart := false, narrowed := true }
def BallsRestsUptoSaid : Prop := ballsRestsUptoRow.holds Try.pinned (OpenSpec.upto ballsRestsSpec)

/-- 'deucelaw09.BallsOrder', WHERE WHAT IT READS IS OF BULK AT MOST 1048576: true; the input reads as it did. -/
def ballsOrderUptoRow : OpenClaim := { program := "ytacaojifempclaa", sum := "4f6616e6db7c54e9151ac5a44d45029de4cf65507115c41bb412424b020a4953", func := "deuce/deucelaw09.BallsOrder", spec := "ballsOrder", unfollowed := true, recurses := true, plainKeys := false, apart := false, narrowed := true }
def BallsOrderUptoSaid : Prop := ballsOrderUptoRow.holds Try.pinned (OpenSpec.upto ballsOrderSpec)

/-- 'deucelaw09.BallsSums', WHERE WHAT IT READS IS OF BULK AT MOST 1048576: true; the input reads as it did. -/
def ballsSumsUptoRow : OpenClaim := { program := "ytacaojifempclaa", sum := "4f6616e6db7c54e9151ac5a44d45029de4cf65507115c41bb412424b020a4953", func := "deuce/deucelaw09.BallsSums", spec := "ballsSums", unfollowed := true, recurses := true, plainKeys := false, apart := false, narrowed := true }
def BallsSumsUptoSaid : Prop := ballsSumsUptoRow.holds Try.pinned (OpenSpec.upto ballsSumsSpec)

/-- 'deucelaw09.BallsShort', WHERE WHAT IT READS IS OF BULK AT MOST 1048576: true; the input reads as it did. -/
def ballsShortUptoRow : OpenClaim := { program := "ytacaojifempclaa", sum := "4f6616e6db7c54e9151ac5a44d45029de4cf65507115c41bb412424b020a4953", func := "deuce/deucelaw09.BallsShort", spec := "ballsShort", unfollowed := true, recurses := true, plainKeys := false, apart := false, narrowed := true }
def BallsShortUptoSaid : Prop := ballsShortUptoRow.holds Try.pinned (OpenSpec.upto ballsShortSpec)

/-- 'deucelaw09.BallsMore', WHERE WHAT IT READS IS OF BULK AT MOST 1048576: true; the input reads as it did. -/
def ballsMoreUptoRow : OpenClaim := { program := "ytacaojifempclaa", sum := "4f6616e6db7c54e9151ac5a44d45029de4cf65507115c41bb412424b020a4953", func := "deuce/deucelaw09.BallsMore", spec := "ballsMore", unfollowed := true, recurses := true, plainKeys := false, apart := false, narrowed := true }
def BallsMoreUptoSaid : Prop := ballsMoreUptoRow.holds Try.pinned (OpenSpec.upto ballsMoreSpec)

/-- 'deucelaw09.BallsDepots', WHERE WHAT IT READS IS OF BULK AT MOST 1048576: true; the input reads as it did. -/
def ballsDepotsUptoRow : OpenClaim := { program := "ytacaojifempclaa", sum := "4f6616e6db7c54e9151ac5a44d45029de4cf65507115c41bb412424b020a4953", func := "deuce/deucelaw09.BallsDepots", spec := "ballsDepots", unfollowed := true, recurses := true, plainKeys := false, apart := false, narrowed := true }
def BallsDepotsUptoSaid : Prop := ballsDepotsUptoRow.holds Try.pinned (OpenSpec.upto ballsDepotsSpec)

end Rows
end Go.Proofs.Ytacaojifempclaa
