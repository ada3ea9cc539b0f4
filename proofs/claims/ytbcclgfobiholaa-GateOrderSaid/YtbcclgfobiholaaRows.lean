/-
  No cell of these rows narrows 'for every input' (looked for: loops, veiled, ifaces, maps, wideKeys, modest, calm, conditions, laid).
  DERIVED. THE GIVEN ROWS OF THIS SEAT. 9 by the template 'for every input the law returns true; each argument reads behind the call as it read before'; 0 by the template 'total and deterministic' (their statements: YtbcclgfobiholaaTotals.lean).
  GIVEN WITH THE SEED: the statements are not yours to turn. If you find one false, say at which input.
  Laid BY PROGRAM, IN A SANDBOX (cutbox-rows.mjs): the forced cells as the released guide's own fill.sh prints them over the translation cadac962d7436a45… (all of the seat's roots in one cut). By AI agents, Wed Nov 11 2026. No macro, syntax, notation, axiom, sorry.
-/
import Derived.Test.YtbcclgfobiholaaChecked
import GoSem.Claim
import GoSem.ClaimJoined
import GoSem.ClaimMapViews
import Derived.JoinedTies
import Derived.KernelRfl
namespace Go.Proofs.Ytbcclgfobiholaa
/- THE CELL 'sum', in the pinned program and in every row, IS THE sha256 OF THE DUMP (.gsa) THAT YtbcclgfobiholaaProg.lean LOADS. Nothing in Lean hashes anything: it is a label: what it is worth is what the hold of that sum in a sandbox is worth. -/
noncomputable def Try.pinned : Pinned := { name := "ytbcclgfobiholaa", sum := "cadac962d7436a45e4c8b193d1f9fb00891310a373aeb6f1dd3cd225b5b86269", checked := Try.checked }
namespace Rows
def none {H : Type} : Left H := { results := [], args := [] }

/-- 'deucelaw11.GateAsks': WHATEVER THE INPUT: true; the input reads as it did. -/
def gateAsksSpec : ChangeSpec := { name := "gateAsks", fn := fun _ => fun
  | [d1, d2] => { results := [.lit (.bool true)], args := [d1, d2] }
  | _ => none }
def gateAsksRow : OpenClaim := { program := "ytbcclgfobiholaa", sum := "cadac962d7436a45e4c8b193d1f9fb00891310a373aeb6f1dd3cd225b5b86269", func := "deuce/deucelaw11.GateAsks", spec := "gateAsks", unfollowed := true, recurses := true, apart := false }
def GateAsksSaid : Prop := gateAsksRow.holds Try.pinned (OpenSpec.ofChange gateAsksSpec)

/-- ITS FALSE NEIGHBOUR: 'it returns false'. Refute it at one input. -/
def gateAsksWrong : ChangeSpec := { name := "gateAsks", fn := fun _ => fun
  | [d1, d2] => { results := [.lit (.bool false)], args := [d1, d2] }
  | _ => none }
def GateAsksWrongFalsely : Prop := gateAsksRow.holds Try.pinned (OpenSpec.ofChange gateAsksWrong)

/-- 'deucelaw11.GateRefunds': WHATEVER THE INPUT: true; the input reads as it did. -/
def gateRefundsSpec : ChangeSpec := { name := "gateRefunds", fn := fun _ => fun
  | [d1, d2] => { results := [.lit (.bool true)], args := [d1, d2] }
  | _ => none }
def gateRefundsRow : OpenClaim := { program := "ytbcclgfobiholaa", sum := "cadac962d7436a45e4c8b193d1f9fb00891310a373aeb6f1dd3cd225b5b86269", func := "deuce/deucelaw11.GateRefunds", spec := "gateRefunds", unfollowed := true, recurses := true, apart := false }
def GateRefundsSaid : Prop := gateRefundsRow.holds Try.pinned (OpenSpec.ofChange gateRefundsSpec)

/-- ITS FALSE NEIGHBOUR: 'it returns false'. Refute it at one input. -/
def gateRefundsWrong : ChangeSpec := { name := "gateRefunds", fn := fun _ => fun
  | [d1, d2] => { results := [.lit (.bool false)], args := [d1, d2] }
  | _ => none }
def GateRefundsWrongFalsely : Prop := gateRefundsRow.holds Try.pinned (OpenSpec.ofChange gateRefundsWrong)

/-- 'deucelaw11.GateSeats': WHATEVER THE INPUT: true; the input reads as it did. -/
def gateSeatsSpec : ChangeSpec := { name := "gateSeats", fn := fun _ => fun
  | [d1, d2] => { results := [.lit (.bool true)], args := [d1, d2] }
  | _ => none }
def gateSeatsRow : OpenClaim := { program := "ytbcclgfobiholaa", sum := "cadac962d7436a45e4c8b193d1f9fb00891310a373aeb6f1dd3cd225b5b86269", func := "deuce/deucelaw11.GateSeats", spec := "gateSeats", unfollowed := true, recurses := true, apart := false }
def GateSeatsSaid : Prop := gateSeatsRow.holds Try.pinned (OpenSpec.ofChange gateSeatsSpec)

/-- ITS FALSE NEIGHBOUR: 'it returns false'. Refute it at one input. -/
def gateSeatsWrong : ChangeSpec := { name := "gateSeats", fn := fun _ => fun
  | [d1, d2] => { results := [.lit (.bool false)], args := [d1, d2] }
  | _ => none }
def GateSeatsWrongFalsely : Prop := gateSeatsRow.holds Try.pinned (OpenSpec.ofChange gateSeatsWrong)

/-- 'deucelaw11.GateTurn': WHATEVER THE INPUT: true; the input reads as it did. -/
def gateTurnSpec : ChangeSpec := { name := "gateTurn", fn := fun _ => fun
  | [d1, d2] => { results := [.lit (.bool true)], args := [d1, d2] }
  | _ => none }
def gateTurnRow : OpenClaim := { program := "ytbcclgfobiholaa", sum := "cadac962d7436a45e4c8b193d1f9fb00891310a373aeb6f1dd3cd225b5b86269", func := "deuce/deucelaw11.GateTurn", spec := "gateTurn", unfollowed := true, recurses := true, apart := false }
def GateTurnSaid : Prop := gateTurnRow.holds Try.pinned (OpenSpec.ofChange gateTurnSpec)

/-- ITS FALSE NEIGHBOUR: 'it returns false'. Refute it at one input. -/
def gateTurnWrong : ChangeSpec := { name := "gateTurn", fn := fun _ => fun
  | [d1, d2] => { results := [.lit (.bool false)], args := [d1, d2] }
  | _ => none }
def GateTurnWrongFalsely : Prop := gateTurnRow.holds Try.pinned (OpenSpec.ofChange gateTurnWrong)

/-- 'deucelaw11.GateEnough': WHATEVER THE INPUT: true; the input reads as it did. -/
def gateEnoughSpec : ChangeSpec := { name := "gateEnough", fn := fun _ => fun
  | [d1, d2, d3] => { results := [.lit (.bool true)], args := [d1, d2, d3] }
  | _ => none }
def gateEnoughRow : OpenClaim := { program := "ytbcclgfobiholaa", sum := "cadac962d7436a45e4c8b193d1f9fb00891310a373aeb6f1dd3cd225b5b86269", func := "deuce/deucelaw11.GateEnough", spec := "gateEnough", unfollowed := true, recurses := true, apart := false }
def GateEnoughSaid : Prop := gateEnoughRow.holds Try.pinned (OpenSpec.ofChange gateEnoughSpec)

/-- ITS FALSE NEIGHBOUR: 'it returns false'. Refute it at one input. -/
def gateEnoughWrong : ChangeSpec := { name := "gateEnough", fn := fun _ => fun
  | [d1, d2, d3] => { results := [.lit (.bool false)], args := [d1, d2, d3] }
  | _ => none }
def GateEnoughWrongFalsely : Prop := gateEnoughRow.holds Try.pinned (OpenSpec.ofChange gateEnoughWrong)

/-- 'deucelaw11.GatePaid': WHATEVER THE INPUT: true; the input reads as it did. -/
def gatePaidSpec : ChangeSpec := { name := "gatePaid", fn := fun _ => fun
  | [d1, d2, d3] => { results := [.lit (.bool true)], args := [d1, d2, d3] }
  | _ => none }
def gatePaidRow : OpenClaim := { program := "ytbcclgfobiholaa", sum := "cadac962d7436a45e4c8b193d1f9fb00891310a373aeb6f1dd3cd225b5b86269", func := "deuce/deucelaw11.GatePaid", spec := "gatePaid", unfollowed := true, recurses := true, apart := false }
def GatePaidSaid : Prop := gatePaidRow.holds Try.pinned (OpenSpec.ofChange gatePaidSpec)

/-- ITS FALSE NEIGHBOUR: 'it returns false'. Refute it at one input. -/
def gatePaidWrong : ChangeSpec := { name := "gatePaid", fn := fun _ => fun
  | [d1, d2, d3] => { results := [.lit (.bool false)], args := [d1, d2, d3] }
  | _ => none }
def GatePaidWrongFalsely : Prop := gatePaidRow.holds Try.pinned (OpenSpec.ofChange gatePaidWrong)

/-- 'deucelaw11.GateOrder': WHATEVER THE INPUT: true; the input reads as it did. -/
def gateOrderSpec : ChangeSpec := { name := "gateOrder", fn := fun _ => fun
  | [d1, d2] => { results := [.lit (.bool true)], args := [d1, d2] }
  | _ => none }
def gateOrderRow : OpenClaim := { program := "ytbcclgfobiholaa", sum := "cadac962d7436a45e4c8b193d1f9fb00891310a373aeb6f1dd3cd225b5b86269", func := "deuce/deucelaw11.GateOrder", spec := "gateOrder", unfollowed := true, recurses := true, apart := false }
def GateOrderSaid : Prop := gateOrderRow.holds Try.pinned (OpenSpec.ofChange gateOrderSpec)

/-- ITS FALSE NEIGHBOUR: 'it returns false'. Refute it at one input. -/
def gateOrderWrong : ChangeSpec := { name := "gateOrder", fn := fun _ => fun
  | [d1, d2] => { results := [.lit (.bool false)], args := [d1, d2] }
  | _ => none }
def GateOrderWrongFalsely : Prop := gateOrderRow.holds Try.pinned (OpenSpec.ofChange gateOrderWrong)

/-- 'deucelaw11.GateEnters': WHATEVER THE INPUT: true; the input reads as it did. -/
def gateEntersSpec : ChangeSpec := { name := "gateEnters", fn := fun _ => fun
  | [d1, d2] => { results := [.lit (.bool true)], args := [d1, d2] }
  | _ => none }
def gateEntersRow : OpenClaim := { program := "ytbcclgfobiholaa", sum := "cadac962d7436a45e4c8b193d1f9fb00891310a373aeb6f1dd3cd225b5b86269", func := "deuce/deucelaw11.GateEnters", spec := "gateEnters", unfollowed := true, recurses := true, apart := false }
def GateEntersSaid : Prop := gateEntersRow.holds Try.pinned (OpenSpec.ofChange gateEntersSpec)

/-- ITS FALSE NEIGHBOUR: 'it returns false'. Refute it at one input. -/
def gateEntersWrong : ChangeSpec := { name := "gateEnters", fn := fun _ => fun
  | [d1, d2] => { results := [.lit (.bool false)], args := [d1, d2] }
  | _ => none }
def GateEntersWrongFalsely : Prop := gateEntersRow.holds Try.pinned (OpenSpec.ofChange gateEntersWrong)

/-- 'deucelaw11.GateWithin': WHATEVER THE INPUT: true; the input reads as it did. -/
def gateWithinSpec : ChangeSpec := { name := "gateWithin", fn := fun _ => fun
  | [d1, d2] => { results := [.lit (.bool true)], args := [d1, d2] }
  | _ => none }
def gateWithinRow : OpenClaim := { program := "ytbcclgfobiholaa", sum := "cadac962d7436a45e4c8b193d1f9fb00891310a373aeb6f1dd3cd225b5b86269", func := "deuce/deucelaw11.GateWithin", spec := "gateWithin", unfollowed := true, recurses := true, apart := false }
def GateWithinSaid : Prop := gateWithinRow.holds Try.pinned (OpenSpec.ofChange gateWithinSpec)

/-- ITS FALSE NEIGHBOUR: 'it returns false'. Refute it at one input. -/
def gateWithinWrong : ChangeSpec := { name := "gateWithin", fn := fun _ => fun
  | [d1, d2] => { results := [.lit (.bool false)], args := [d1, d2] }
  | _ => none }
def GateWithinWrongFalsely : Prop := gateWithinRow.holds Try.pinned (OpenSpec.ofChange gateWithinWrong)

/- THE SECOND FORM. 'bulk': how many values and letters a reading holds, each counted each time it is reached (what is shared counts as often as it is met; a slice's spare places count too). A statement '..UptoSaid' is the law's where the arguments, and the package variables that the reading takes, are together of bulk at most 1048576: NARROWER than '..Said'. Prove '..Said' where nothing that the law and all that it calls make is longer than what came in: it says more and counts as full. Else prove '..UptoSaid'. A law counts once. -/
mutual
def uptoBulk {H : Type} : DataW H → Nat
  | .lit (.string bytes) => bytes.length + 1
  | .lit _ => 1
  | .nil => 1
  | .ptr d => uptoBulk d + 1
  | .slice elems spare => uptoBulkAll elems + uptoBulkAll spare + 1
  | .agg parts => uptoBulkAll parts + 1
  | .iface _ d => uptoBulk d + 1
  | .map entries => uptoBulkEntries entries + 1
  | .held _ => 1
def uptoBulkAll {H : Type} : List (DataW H) → Nat
  | [] => 0
  | d :: r => uptoBulk d + uptoBulkAll r
def uptoBulkEntries {H : Type} : List (Lit × DataW H) → Nat
  | [] => 0
  | x :: r => uptoBulkEntry x + uptoBulkEntries r
def uptoBulkEntry {H : Type} : Lit × DataW H → Nat
  | (.string bytes, d) => bytes.length + uptoBulk d + 1
  | (_, d) => uptoBulk d + 1
 end
def uptoSmall : (H : Type) → List (DataW H) → Bool := fun _ ds => decide (uptoBulkAll ds ≤ 1048576)
def OpenSpec.upto (s : _root_.Go.ChangeSpec) : _root_.Go.OpenSpec := { _root_.Go.OpenSpec.ofChange s with cond := some uptoSmall }

/-- 'deucelaw11.GateAsks', WHERE WHAT IT READS IS OF BULK AT MOST 1048576: true; the input reads as it did. -/
def gateAsksUptoRow : OpenClaim := { program := "ytbcclgfobiholaa", sum := "cadac962d7436a45e4c8b193d1f9fb00891310a373aeb6f1dd3cd225b5b86269", func := "deuce/deucelaw11.GateAsks", spec := "gateAsks", unfollowed := true, recurses := true, apart := false, narrowed := true }
def GateAsksUptoSaid : Prop := gateAsksUptoRow.holds Try.pinned (OpenSpec.upto gateAsksSpec)

/-- 'deucelaw11.GateRefunds', WHERE WHAT IT READS IS OF BULK AT MOST 1048576: true; the input reads as it did. -/
def gateRefundsUptoRow : OpenClaim := { program := "ytbcclgfobiholaa", sum := "cadac962d7436a45e4c8b193d1f9fb00891310a373aeb6f1dd3cd225b5b86269", func := "deuce/deucelaw11.GateRefunds", spec := "gateRefunds", unfollowed := true, recurses := true, apart := false, narrowed := true }
def GateRefundsUptoSaid : Prop := gateRefundsUptoRow.holds Try.pinned (OpenSpec.upto gateRefundsSpec)

/-- 'deucelaw11.GateSeats', WHERE WHAT IT READS IS OF BULK AT MOST 1048576: true; the input reads as it did. -/
def gateSeatsUptoRow : OpenClaim := { program := "ytbcclgfobiholaa", sum := "cadac962d7436a45e4c8b193d1f9fb00891310a373aeb6f1dd3cd225b5b86269", func := "deuce/deucelaw11.GateSeats", spec := "gateSeats", unfollowed := true, recurses := true, apart := false, narrowed := true }
def GateSeatsUptoSaid : Prop := gateSeatsUptoRow.holds Try.pinned (OpenSpec.upto gateSeatsSpec)

/-- 'deucelaw11.GateTurn', WHERE WHAT IT READS IS OF BULK AT MOST 1048576: true; the input reads as it did. -/
def gateTurnUptoRow : OpenClaim := { program := "ytbcclgfobiholaa", sum := "cadac962d7436a45e4c8b193d1f9fb00891310a373aeb6f1dd3cd225b5b86269", func := "deuce/deucelaw11.GateTurn", spec := "gateTurn", unfollowed := true, recurses := true, apart := false, narrowed := true }
def GateTurnUptoSaid : Prop := gateTurnUptoRow.holds Try.pinned (OpenSpec.upto gateTurnSpec)

/-- 'deucelaw11.GateEnough', WHERE WHAT IT READS IS OF BULK AT MOST 1048576: true; the input reads as it did. -/
def gateEnoughUptoRow : OpenClaim := { program := "ytbcclgfobiholaa", sum := "cadac962d7436a45e4c8b193d1f9fb00891310a373aeb6f1dd3cd225b5b86269", func := "deuce/deucelaw11.GateEnough", spec := "gateEnough", unfollowed := true, recurses := true, apart := false, narrowed := true }
def GateEnoughUptoSaid : Prop := gateEnoughUptoRow.holds Try.pinned (OpenSpec.upto gateEnoughSpec)

/-- 'deucelaw11.GatePaid', WHERE WHAT IT READS IS OF BULK AT MOST 1048576: true; the input reads as it did. -/
def gatePaidUptoRow : OpenClaim := { program := "ytbcclgfobiholaa", sum := "cadac962d7436a45e4c8b193d1f9fb00891310a373aeb6f1dd3cd225b5b86269", func := "deuce/deucelaw11.GatePaid", spec := "gatePaid", unfollowed := true, recurses := true, apart := false, narrowed := true }
def GatePaidUptoSaid : Prop := gatePaidUptoRow.holds Try.pinned (OpenSpec.upto gatePaidSpec)

/-- 'deucelaw11.GateOrder', WHERE WHAT IT READS IS OF BULK AT MOST 1048576: true; the input reads as it did. -/
def gateOrderUptoRow : OpenClaim := { program := "ytbcclgfobiholaa", sum := "cadac962d7436a45e4c8b193d1f9fb00891310a373aeb6f1dd3cd225b5b86269", func := "deuce/deucelaw11.GateOrder", spec := "gateOrder", unfollowed := true, recurses := true, apart := false, narrowed := true }
def GateOrderUptoSaid : Prop := gateOrderUptoRow.holds Try.pinned (OpenSpec.upto gateOrderSpec)

/-- 'deucelaw11.GateEnters', WHERE WHAT IT READS IS OF BULK AT MOST 1048576: true; the input reads as it did. -/
def gateEntersUptoRow : OpenClaim := { program := "ytbcclgfobiholaa", sum := "cadac962d7436a45e4c8b193d1f9fb00891310a373aeb6f1dd3cd225b5b86269", func := "deuce/deucelaw11.GateEnters", spec := "gateEnters", unfollowed := true, recurses := true, apart := false, narrowed := true }
def GateEntersUptoSaid : Prop := gateEntersUptoRow.holds Try.pinned (OpenSpec.upto gateEntersSpec)

/-- 'deucelaw11.GateWithin', WHERE WHAT IT READS IS OF BULK AT MOST 1048576: true; the input reads as it did. -/
def gateWithinUptoRow : OpenClaim := { program := "ytbcclgfobiholaa", sum := "cadac962d7436a45e4c8b193d1f9fb00891310a373aeb6f1dd3cd225b5b86269", func := "deuce/deucelaw11.GateWithin", spec := "gateWithin", unfollowed := true, recurses := true, apart := false, narrowed := true }
def GateWithinUptoSaid : Prop := gateWithinUptoRow.holds Try.pinned (OpenSpec.upto gateWithinSpec)

end Rows
end Go.Proofs.Ytbcclgfobiholaa
