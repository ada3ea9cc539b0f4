/-
  No cell of these rows narrows 'for every input' (looked for: loops, veiled, ifaces, maps, wideKeys, modest, calm, conditions, laid).
  DERIVED. THE GIVEN ROWS OF THIS SEAT. 7 by the template 'for every input the law returns true; each argument reads behind the call as it read before'; 0 by the template 'total and deterministic' (their statements: YtebhkghgifiahaaTotals.lean).
  GIVEN WITH THE SEED: the statements are not yours to turn. If you find one false, say at which input.
  Laid BY PROGRAM, IN A SANDBOX (cutbox-rows.mjs): the forced cells as the released guide's own fill.sh prints them over the translation 94f750dc892b56c4… (all of the seat's roots in one cut). By AI agents, Wed Nov 11 2026. No macro, syntax, notation, axiom, sorry.
-/
import Derived.Test.YtebhkghgifiahaaChecked
import GoSem.Claim
import GoSem.ClaimJoined
import GoSem.ClaimMapViews
import Derived.JoinedTies
import Derived.KernelRfl
namespace Go.Proofs.Ytebhkghgifiahaa
/- THE CELL 'sum', in the pinned program and in every row, IS THE sha256 OF THE DUMP (.gsa) THAT YtebhkghgifiahaaProg.lean LOADS. Nothing in Lean hashes anything: it is a label: what it is worth is what the hold of that sum in a sandbox is worth. -/
noncomputable def Try.pinned : Pinned := { name := "ytebhkghgifiahaa", sum := "94f750dc892b56c4b370daaea1ac71970548efc3fe2b960a962adc9b628e96bd", checked := Try.checked }
namespace Rows
def none {H : Type} : Left H := { results := [], args := [] }

/-- 'deucelaw01.ScoreOrders': WHATEVER THE INPUT: true; the input reads as it did. -/
def scoreOrdersSpec : ChangeSpec := { name := "scoreOrders", fn := fun _ => fun
  | [d1, d2, d3] => { results := [.lit (.bool true)], args := [d1, d2, d3] }
  | _ => none }
def scoreOrdersRow : OpenClaim := { program := "ytebhkghgifiahaa", sum := "94f750dc892b56c4b370daaea1ac71970548efc3fe2b960a962adc9b628e96bd", func := "deuce/deucelaw01.ScoreOrders", spec := "scoreOrders", unfollowed := true, recurses := true, plainKeys := false, apart := false }
def ScoreOrdersSaid : Prop := scoreOrdersRow.holds Try.pinned (OpenSpec.ofChange scoreOrdersSpec)

/-- ITS FALSE NEIGHBOUR: 'it returns false'. Refute it at one input. -/
def scoreOrdersWrong : ChangeSpec := { name := "scoreOrders", fn := fun _ => fun
  | [d1, d2, d3] => { results := [.lit (.bool false)], args := [d1, d2, d3] }
  | _ => none }
def ScoreOrdersWrongFalsely : Prop := scoreOrdersRow.holds Try.pinned (OpenSpec.ofChange scoreOrdersWrong)

/-- 'deucelaw01.ScorePlays': WHATEVER THE INPUT: true; the input reads as it did. -/
def scorePlaysSpec : ChangeSpec := { name := "scorePlays", fn := fun _ => fun
  | [d1, d2] => { results := [.lit (.bool true)], args := [d1, d2] }
  | _ => none }
def scorePlaysRow : OpenClaim := { program := "ytebhkghgifiahaa", sum := "94f750dc892b56c4b370daaea1ac71970548efc3fe2b960a962adc9b628e96bd", func := "deuce/deucelaw01.ScorePlays", spec := "scorePlays", unfollowed := true, recurses := true, plainKeys := false, apart := false }
def ScorePlaysSaid : Prop := scorePlaysRow.holds Try.pinned (OpenSpec.ofChange scorePlaysSpec)

/-- ITS FALSE NEIGHBOUR: 'it returns false'. Refute it at one input. -/
def scorePlaysWrong : ChangeSpec := { name := "scorePlays", fn := fun _ => fun
  | [d1, d2] => { results := [.lit (.bool false)], args := [d1, d2] }
  | _ => none }
def ScorePlaysWrongFalsely : Prop := scorePlaysRow.holds Try.pinned (OpenSpec.ofChange scorePlaysWrong)

/-- 'deucelaw01.ScoreStep': WHATEVER THE INPUT: true; the input reads as it did. -/
def scoreStepSpec : ChangeSpec := { name := "scoreStep", fn := fun _ => fun
  | [d1, d2, d3] => { results := [.lit (.bool true)], args := [d1, d2, d3] }
  | _ => none }
def scoreStepRow : OpenClaim := { program := "ytebhkghgifiahaa", sum := "94f750dc892b56c4b370daaea1ac71970548efc3fe2b960a962adc9b628e96bd", func := "deuce/deucelaw01.ScoreStep", spec := "scoreStep", unfollowed := true, recurses := true, plainKeys := false, apart := false }
def ScoreStepSaid : Prop := scoreStepRow.holds Try.pinned (OpenSpec.ofChange scoreStepSpec)

/-- ITS FALSE NEIGHBOUR: 'it returns false'. Refute it at one input. -/
def scoreStepWrong : ChangeSpec := { name := "scoreStep", fn := fun _ => fun
  | [d1, d2, d3] => { results := [.lit (.bool false)], args := [d1, d2, d3] }
  | _ => none }
def ScoreStepWrongFalsely : Prop := scoreStepRow.holds Try.pinned (OpenSpec.ofChange scoreStepWrong)

/-- 'deucelaw01.ScoreSides': WHATEVER THE INPUT: true; the input reads as it did. -/
def scoreSidesSpec : ChangeSpec := { name := "scoreSides", fn := fun _ => fun
  | [d1, d2] => { results := [.lit (.bool true)], args := [d1, d2] }
  | _ => none }
def scoreSidesRow : OpenClaim := { program := "ytebhkghgifiahaa", sum := "94f750dc892b56c4b370daaea1ac71970548efc3fe2b960a962adc9b628e96bd", func := "deuce/deucelaw01.ScoreSides", spec := "scoreSides", unfollowed := true, recurses := true, plainKeys := false, apart := false }
def ScoreSidesSaid : Prop := scoreSidesRow.holds Try.pinned (OpenSpec.ofChange scoreSidesSpec)

/-- ITS FALSE NEIGHBOUR: 'it returns false'. Refute it at one input. -/
def scoreSidesWrong : ChangeSpec := { name := "scoreSides", fn := fun _ => fun
  | [d1, d2] => { results := [.lit (.bool false)], args := [d1, d2] }
  | _ => none }
def ScoreSidesWrongFalsely : Prop := scoreSidesRow.holds Try.pinned (OpenSpec.ofChange scoreSidesWrong)

/-- 'deucelaw01.ScoreServes': WHATEVER THE INPUT: true; the input reads as it did. -/
def scoreServesSpec : ChangeSpec := { name := "scoreServes", fn := fun _ => fun
  | [d1, d2] => { results := [.lit (.bool true)], args := [d1, d2] }
  | _ => none }
def scoreServesRow : OpenClaim := { program := "ytebhkghgifiahaa", sum := "94f750dc892b56c4b370daaea1ac71970548efc3fe2b960a962adc9b628e96bd", func := "deuce/deucelaw01.ScoreServes", spec := "scoreServes", unfollowed := true, recurses := true, plainKeys := false, apart := false }
def ScoreServesSaid : Prop := scoreServesRow.holds Try.pinned (OpenSpec.ofChange scoreServesSpec)

/-- ITS FALSE NEIGHBOUR: 'it returns false'. Refute it at one input. -/
def scoreServesWrong : ChangeSpec := { name := "scoreServes", fn := fun _ => fun
  | [d1, d2] => { results := [.lit (.bool false)], args := [d1, d2] }
  | _ => none }
def ScoreServesWrongFalsely : Prop := scoreServesRow.holds Try.pinned (OpenSpec.ofChange scoreServesWrong)

/-- 'deucelaw01.ScoreBoards': WHATEVER THE INPUT: true; the input reads as it did. -/
def scoreBoardsSpec : ChangeSpec := { name := "scoreBoards", fn := fun _ => fun
  | [d1, d2, d3] => { results := [.lit (.bool true)], args := [d1, d2, d3] }
  | _ => none }
def scoreBoardsRow : OpenClaim := { program := "ytebhkghgifiahaa", sum := "94f750dc892b56c4b370daaea1ac71970548efc3fe2b960a962adc9b628e96bd", func := "deuce/deucelaw01.ScoreBoards", spec := "scoreBoards", unfollowed := true, recurses := true, plainKeys := false, apart := false }
def ScoreBoardsSaid : Prop := scoreBoardsRow.holds Try.pinned (OpenSpec.ofChange scoreBoardsSpec)

/-- ITS FALSE NEIGHBOUR: 'it returns false'. Refute it at one input. -/
def scoreBoardsWrong : ChangeSpec := { name := "scoreBoards", fn := fun _ => fun
  | [d1, d2, d3] => { results := [.lit (.bool false)], args := [d1, d2, d3] }
  | _ => none }
def ScoreBoardsWrongFalsely : Prop := scoreBoardsRow.holds Try.pinned (OpenSpec.ofChange scoreBoardsWrong)

/-- 'deucelaw01.ScoreBounds': WHATEVER THE INPUT: true; the input reads as it did. -/
def scoreBoundsSpec : ChangeSpec := { name := "scoreBounds", fn := fun _ => fun
  | [d1, d2] => { results := [.lit (.bool true)], args := [d1, d2] }
  | _ => none }
def scoreBoundsRow : OpenClaim := { program := "ytebhkghgifiahaa", sum := "94f750dc892b56c4b370daaea1ac71970548efc3fe2b960a962adc9b628e96bd", func := "deuce/deucelaw01.ScoreBounds", spec := "scoreBounds", unfollowed := true, recurses := true, plainKeys := false, apart := false }
def ScoreBoundsSaid : Prop := scoreBoundsRow.holds Try.pinned (OpenSpec.ofChange scoreBoundsSpec)

/-- ITS FALSE NEIGHBOUR: 'it returns false'. Refute it at one input. -/
def scoreBoundsWrong : ChangeSpec := { name := "scoreBounds", fn := fun _ => fun
  | [d1, d2] => { results := [.lit (.bool false)], args := [d1, d2] }
  | _ => none }
def ScoreBoundsWrongFalsely : Prop := scoreBoundsRow.holds Try.pinned (OpenSpec.ofChange scoreBoundsWrong)

/- THE SECOND FORM. 'bulk': how many values and letters a reading holds, each counted each time it is reached (what is shared counts as often as it is met; a slice's spare places count too). A statement '..UptoSaid' is the law's where the arguments, and the package variables that the reading takes, are together of bulk at most 1048576: NARROWER than '..Said'. Prove '..Said' where nothing that the law and all that it calls make is longer than what came in: it says more and counts as full. Else prove '..UptoSaid'. A law counts once. -/
mutual
def uptoBulk {H : Type} : DataW H → Nat
  | .lit (.string bytes) => bytes.length + 1
  | .lit _ => 1
  | .nil => 1
  | .ptr d => uptoBulk d + 1
  | .slice elems spare => uptoBulkAll elems + uptoBulkAll spare + 1
  | .agg parts => uptoBulkAll parts + 1
  | .iface _ d => uptoBulk d + 1
  | .map entries => uptoBulkEntries entries + 1
  | .held _ => 1
def uptoBulkAll {H : Type} : List (DataW H) → Nat
  | [] => 0
  | d :: r => uptoBulk d + uptoBulkAll r
def uptoBulkEntries {H : Type} : List (Lit × DataW H) → Nat
  | [] => 0
  | x :: r => uptoBulkEntry x + uptoBulkEntries r
def uptoBulkEntry {H : Type} : Lit × DataW H → Nat
  | (.string bytes, d) => bytes.length + uptoBulk d + 1
  | (_, d) => uptoBulk d + 1
 end
def uptoSmall : (H : Type) → List (DataW H) → Bool := fun _ ds => decide (uptoBulkAll ds ≤ 1048576)
def OpenSpec.upto (s : _root_.Go.ChangeSpec) : _root_.Go.OpenSpec := { _root_.Go.OpenSpec.ofChange s with cond := some uptoSmall }

/-- 'deucelaw01.ScoreOrders', WHERE WHAT IT READS IS OF BULK AT MOST 1048576: true; the input reads as it did. -/
def scoreOrdersUptoRow : OpenClaim := { program := "ytebhkghgifiahaa", sum := "94f750dc892b56c4b370daaea1ac71970548efc3fe2b960a962adc9b628e96bd", func := "deuce/deucelaw01.ScoreOrders", spec := "scoreOrders", unfollowed := true, recurses := true, plainKeys := false, apart := false, narrowed := true }
def ScoreOrdersUptoSaid : Prop := scoreOrdersUptoRow.holds Try.pinned (OpenSpec.upto scoreOrdersSpec)

/-- 'deucelaw01.ScorePlays', WHERE WHAT IT READS IS OF BULK AT MOST 1048576: true; the input reads as it did. -/
def scorePlaysUptoRow : OpenClaim := { program := "ytebhkghgifiahaa", sum := "94f750dc892b56c4b370daaea1ac71970548efc3fe2b960a962adc9b628e96bd", func := "deuce/deucelaw01.ScorePlays", spec := "scorePlays", unfollowed := true, recurses := true, plainKeys := false, apart := false, narrowed := true }
def ScorePlaysUptoSaid : Prop := scorePlaysUptoRow.holds Try.pinned (OpenSpec.upto scorePlaysSpec)

/-- 'deucelaw01.ScoreStep', WHERE WHAT IT READS IS OF BULK AT MOST 1048576: true; the input reads as it did. -/
def scoreStepUptoRow : OpenClaim := { program := "ytebhkghgifiahaa", sum := "94f750dc892b56c4b370daaea1ac71970548efc3fe2b960a962adc9b628e96bd", func := "deuce/deucelaw01.ScoreStep", spec := "scoreStep", unfollowed := true, recurses := true, plainKeys := false, apart := false, narrowed := true }
def ScoreStepUptoSaid : Prop := scoreStepUptoRow.holds Try.pinned (OpenSpec.upto scoreStepSpec)

/-- 'deucelaw01.ScoreSides', WHERE WHAT IT READS IS OF BULK AT MOST 1048576: true; the input reads as it did. -/
def scoreSidesUptoRow : OpenClaim := { program := "ytebhkghgifiahaa", sum := "94f750dc892b56c4b370daaea1ac71970548efc3fe2b960a962adc9b628e96bd", func := "deuce/deucelaw01.ScoreSides", spec := "scoreSides", unfollowed := true, recurses := true, plainKeys := false, apart := false, narrowed := true }
def ScoreSidesUptoSaid : Prop := scoreSidesUptoRow.holds Try.pinned (OpenSpec.upto scoreSidesSpec)

/-- 'deucelaw01.ScoreServes', WHERE WHAT IT READS IS OF BULK AT MOST 1048576: true; the input reads as it did. -/
def scoreServesUptoRow : OpenClaim := { program := "ytebhkghgifiahaa", sum := "94f750dc892b56c4b370daaea1ac71970548efc3fe2b960a962adc9b628e96bd", func := "deuce/deucelaw01.ScoreServes", spec := "scoreServes", unfollowed := true, recurses := true, plainKeys := false, apart := false, narrowed := true }
def ScoreServesUptoSaid : Prop := scoreServesUptoRow.holds Try.pinned (OpenSpec.upto scoreServesSpec)

/-- 'deucelaw01.ScoreBoards', WHERE WHAT IT READS IS OF BULK AT MOST 1048576: true; the input reads as it did. -/
def scoreBoardsUptoRow : OpenClaim := { program := "ytebhkghgifiahaa", sum := "94f750dc892b56c4b370daaea1ac71970548efc3fe2b960a962adc9b628e96bd", func := "deuce/deucelaw01.ScoreBoards", spec := "scoreBoards", unfollowed := true, recurses := true, plainKeys := false, apart := false, narrowed := true }
def ScoreBoardsUptoSaid : Prop := scoreBoardsUptoRow.holds Try.pinned (OpenSpec.upto scoreBoardsSpec)

/-- 'deucelaw01.ScoreBounds', WHERE WHAT IT READS IS OF BULK AT MOST 1048576: true; the input reads as it did. -/
def scoreBoundsUptoRow : OpenClaim := { program := "ytebhkghgifiahaa", sum := "94f750dc892b56c4b370daaea1ac71970548efc3fe2b960a962adc9b628e96bd", func := "deuce/deucelaw01.ScoreBounds", spec := "scoreBounds", unfollowed := true, recurses := true, plainKeys := false, apart := false, narrowed := true }
def ScoreBoundsUptoSaid : Prop := scoreBoundsUptoRow.holds Try.pinned (OpenSpec.upto scoreBoundsSpec)

end Rows
end Go.Proofs.Ytebhkghgifiahaa
