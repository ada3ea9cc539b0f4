/-
  No cell of these rows narrows 'for every input' (looked for: loops, veiled, ifaces, maps, wideKeys, modest, calm, conditions, laid).
  DERIVED. THE GIVEN ROWS OF THIS SEAT. 7 by the template 'for every input the law returns true; each argument reads behind the call as it read before'; 0 by the template 'total and deterministic' (their statements: YtncoimjgjpcipaaTotals.lean).
  GIVEN WITH THE SEED: the statements are not yours to turn. If you find one false, say at which input.
  Laid BY PROGRAM, IN A SANDBOX (cutbox-rows.mjs): the forced cells as the released guide's own fill.sh prints them over the translation f02baaeebeba2df7… (all of the seat's roots in one cut). By AI agents, Wed Nov 11 2026. No macro, syntax, notation, axiom, sorry.
-/
import Derived.Test.YtncoimjgjpcipaaChecked
import GoSem.Claim
import GoSem.ClaimJoined
import GoSem.ClaimMapViews
import Derived.JoinedTies
import Derived.KernelRfl
namespace Go.Proofs.Ytncoimjgjpcipaa
/- THE CELL 'sum', in the pinned program and in every row, IS THE sha256 OF THE DUMP (.gsa) THAT YtncoimjgjpcipaaProg.lean LOADS. Nothing in Lean hashes anything: it is a label: what it is worth is what the hold of that sum in a sandbox is worth. -/
noncomputable def Try.pinned : Pinned := { name := "ytncoimjgjpcipaa", sum := "f02baaeebeba2df733205f458b35a4914e3d43a2ec01f148c859072dca7aa9ec", checked := Try.checked }
namespace Rows
def none {H : Type} : Left H := { results := [], args := [] }

/-- 'deucelaw03.CardFirst': WHATEVER THE INPUT: true; the input reads as it did. -/
def cardFirstSpec : ChangeSpec := { name := "cardFirst", fn := fun _ => fun
  | [d1, d2] => { results := [.lit (.bool true)], args := [d1, d2] }
  | _ => none }
def cardFirstRow : OpenClaim := { program := "ytncoimjgjpcipaa", sum := "f02baaeebeba2df733205f458b35a4914e3d43a2ec01f148c859072dca7aa9ec", func := "deuce/deucelaw03.CardFirst", spec := "cardFirst", unfollowed := true, recurses := true, plainKeys := false, apart := false }
def CardFirstSaid : Prop := cardFirstRow.holds Try.pinned (OpenSpec.ofChange cardFirstSpec)

/-- ITS FALSE NEIGHBOUR: 'it returns false'. Refute it at one input. -/
def cardFirstWrong : ChangeSpec := { name := "cardFirst", fn := fun _ => fun
  | [d1, d2] => { results := [.lit (.bool false)], args := [d1, d2] }
  | _ => none }
def CardFirstWrongFalsely : Prop := cardFirstRow.holds Try.pinned (OpenSpec.ofChange cardFirstWrong)

/-- 'deucelaw03.CardLooser': WHATEVER THE INPUT: true; the input reads as it did. -/
def cardLooserSpec : ChangeSpec := { name := "cardLooser", fn := fun _ => fun
  | [d1, d2, d3] => { results := [.lit (.bool true)], args := [d1, d2, d3] }
  | _ => none }
def cardLooserRow : OpenClaim := { program := "ytncoimjgjpcipaa", sum := "f02baaeebeba2df733205f458b35a4914e3d43a2ec01f148c859072dca7aa9ec", func := "deuce/deucelaw03.CardLooser", spec := "cardLooser", unfollowed := true, recurses := true, plainKeys := false, apart := false }
def CardLooserSaid : Prop := cardLooserRow.holds Try.pinned (OpenSpec.ofChange cardLooserSpec)

/-- ITS FALSE NEIGHBOUR: 'it returns false'. Refute it at one input. -/
def cardLooserWrong : ChangeSpec := { name := "cardLooser", fn := fun _ => fun
  | [d1, d2, d3] => { results := [.lit (.bool false)], args := [d1, d2, d3] }
  | _ => none }
def CardLooserWrongFalsely : Prop := cardLooserRow.holds Try.pinned (OpenSpec.ofChange cardLooserWrong)

/-- 'deucelaw03.CardCertain': WHATEVER THE INPUT: true; the input reads as it did. -/
def cardCertainSpec : ChangeSpec := { name := "cardCertain", fn := fun _ => fun
  | [d1, d2, d3] => { results := [.lit (.bool true)], args := [d1, d2, d3] }
  | _ => none }
def cardCertainRow : OpenClaim := { program := "ytncoimjgjpcipaa", sum := "f02baaeebeba2df733205f458b35a4914e3d43a2ec01f148c859072dca7aa9ec", func := "deuce/deucelaw03.CardCertain", spec := "cardCertain", unfollowed := true, recurses := true, plainKeys := false, apart := false }
def CardCertainSaid : Prop := cardCertainRow.holds Try.pinned (OpenSpec.ofChange cardCertainSpec)

/-- ITS FALSE NEIGHBOUR: 'it returns false'. Refute it at one input. -/
def cardCertainWrong : ChangeSpec := { name := "cardCertain", fn := fun _ => fun
  | [d1, d2, d3] => { results := [.lit (.bool false)], args := [d1, d2, d3] }
  | _ => none }
def CardCertainWrongFalsely : Prop := cardCertainRow.holds Try.pinned (OpenSpec.ofChange cardCertainWrong)

/-- 'deucelaw03.CardTrue': WHATEVER THE INPUT: true; the input reads as it did. -/
def cardTrueSpec : ChangeSpec := { name := "cardTrue", fn := fun _ => fun
  | [d1, d2] => { results := [.lit (.bool true)], args := [d1, d2] }
  | _ => none }
def cardTrueRow : OpenClaim := { program := "ytncoimjgjpcipaa", sum := "f02baaeebeba2df733205f458b35a4914e3d43a2ec01f148c859072dca7aa9ec", func := "deuce/deucelaw03.CardTrue", spec := "cardTrue", unfollowed := true, recurses := true, plainKeys := false, apart := false }
def CardTrueSaid : Prop := cardTrueRow.holds Try.pinned (OpenSpec.ofChange cardTrueSpec)

/-- ITS FALSE NEIGHBOUR: 'it returns false'. Refute it at one input. -/
def cardTrueWrong : ChangeSpec := { name := "cardTrue", fn := fun _ => fun
  | [d1, d2] => { results := [.lit (.bool false)], args := [d1, d2] }
  | _ => none }
def CardTrueWrongFalsely : Prop := cardTrueRow.holds Try.pinned (OpenSpec.ofChange cardTrueWrong)

/-- 'deucelaw03.CardFewest': WHATEVER THE INPUT: true; the input reads as it did. -/
def cardFewestSpec : ChangeSpec := { name := "cardFewest", fn := fun _ => fun
  | [d1, d2] => { results := [.lit (.bool true)], args := [d1, d2] }
  | _ => none }
def cardFewestRow : OpenClaim := { program := "ytncoimjgjpcipaa", sum := "f02baaeebeba2df733205f458b35a4914e3d43a2ec01f148c859072dca7aa9ec", func := "deuce/deucelaw03.CardFewest", spec := "cardFewest", unfollowed := true, recurses := true, plainKeys := false, apart := false }
def CardFewestSaid : Prop := cardFewestRow.holds Try.pinned (OpenSpec.ofChange cardFewestSpec)

/-- ITS FALSE NEIGHBOUR: 'it returns false'. Refute it at one input. -/
def cardFewestWrong : ChangeSpec := { name := "cardFewest", fn := fun _ => fun
  | [d1, d2] => { results := [.lit (.bool false)], args := [d1, d2] }
  | _ => none }
def CardFewestWrongFalsely : Prop := cardFewestRow.holds Try.pinned (OpenSpec.ofChange cardFewestWrong)

/-- 'deucelaw03.CardSides': WHATEVER THE INPUT: true; the input reads as it did. -/
def cardSidesSpec : ChangeSpec := { name := "cardSides", fn := fun _ => fun
  | [d] => { results := [.lit (.bool true)], args := [d] }
  | _ => none }
def cardSidesRow : OpenClaim := { program := "ytncoimjgjpcipaa", sum := "f02baaeebeba2df733205f458b35a4914e3d43a2ec01f148c859072dca7aa9ec", func := "deuce/deucelaw03.CardSides", spec := "cardSides", unfollowed := true, recurses := true, plainKeys := false, apart := false }
def CardSidesSaid : Prop := cardSidesRow.holds Try.pinned (OpenSpec.ofChange cardSidesSpec)

/-- ITS FALSE NEIGHBOUR: 'it returns false'. Refute it at one input. -/
def cardSidesWrong : ChangeSpec := { name := "cardSides", fn := fun _ => fun
  | [d] => { results := [.lit (.bool false)], args := [d] }
  | _ => none }
def CardSidesWrongFalsely : Prop := cardSidesRow.holds Try.pinned (OpenSpec.ofChange cardSidesWrong)

/-- 'deucetop.TopCard': WHATEVER THE INPUT: true; the input reads as it did. -/
def topCardSpec : ChangeSpec := { name := "topCard", fn := fun _ => fun
  | [d1, d2, d3] => { results := [.lit (.bool true)], args := [d1, d2, d3] }
  | _ => none }
def topCardRow : OpenClaim := { program := "ytncoimjgjpcipaa", sum := "f02baaeebeba2df733205f458b35a4914e3d43a2ec01f148c859072dca7aa9ec", func := "deuce/deucetop.TopCard", spec := "topCard", unfollowed := true, recurses := true, plainKeys := false, apart := false }
def TopCardSaid : Prop := topCardRow.holds Try.pinned (OpenSpec.ofChange topCardSpec)

/-- ITS FALSE NEIGHBOUR: 'it returns false'. Refute it at one input. -/
def topCardWrong : ChangeSpec := { name := "topCard", fn := fun _ => fun
  | [d1, d2, d3] => { results := [.lit (.bool false)], args := [d1, d2, d3] }
  | _ => none }
def TopCardWrongFalsely : Prop := topCardRow.holds Try.pinned (OpenSpec.ofChange topCardWrong)

/- THE SECOND FORM. 'bulk': how many values and letters a reading holds, each counted each time it is reached (what is shared counts as often as it is met; a slice's spare places count too). A statement '..UptoSaid' is the law's where the arguments, and the package variables that the reading takes, are together of bulk at most 1048576: NARROWER than '..Said'. Prove '..Said' where nothing that the law and all that it calls make is longer than what came in: it says more and counts as full. Else prove '..UptoSaid'. A law counts once. -/
mutual
def uptoBulk {H : Type} : DataW H → Nat
  | .lit (.string bytes) => bytes.length + 1
  | .lit _ => 1
  | .nil => 1
  | .ptr d => uptoBulk d + 1
  | .slice elems spare => uptoBulkAll elems + uptoBulkAll spare + 1
  | .agg parts => uptoBulkAll parts + 1
  | .iface _ d => uptoBulk d + 1
  | .map entries => uptoBulkEntries entries + 1
  | .held _ => 1
def uptoBulkAll {H : Type} : List (DataW H) → Nat
  | [] => 0
  | d :: r => uptoBulk d + uptoBulkAll r
def uptoBulkEntries {H : Type} : List (Lit × DataW H) → Nat
  | [] => 0
  | x :: r => uptoBulkEntry x + uptoBulkEntries r
def uptoBulkEntry {H : Type} : Lit × DataW H → Nat
  | (.string bytes, d) => bytes.length + uptoBulk d + 1
  | (_, d) => uptoBulk d + 1
 end
def uptoSmall : (H : Type) → List (DataW H) → Bool := fun _ ds => decide (uptoBulkAll ds ≤ 1048576)
def OpenSpec.upto (s : _root_.Go.ChangeSpec) : _root_.Go.OpenSpec := { _root_.Go.OpenSpec.ofChange s with cond := some uptoSmall }

/-- 'deucelaw03.CardFirst', WHERE WHAT IT READS IS OF BULK AT MOST 1048576: true; the input reads as it did. -/
def cardFirstUptoRow : OpenClaim := { program := "ytncoimjgjpcipaa", sum := "f02baaeebeba2df733205f458b35a4914e3d43a2ec01f148c859072dca7aa9ec", func := "deuce/deucelaw03.CardFirst", spec := "cardFirst", unfollowed := true, recurses := true, plainKeys := false, apart := false, narrowed := true }
def CardFirstUptoSaid : Prop := cardFirstUptoRow.holds Try.pinned (OpenSpec.upto cardFirstSpec)

/-- 'deucelaw03.CardLooser', WHERE WHAT IT READS IS OF BULK AT MOST 1048576: true; the input reads as it did. -/
def cardLooserUptoRow : OpenClaim := { program := "ytncoimjgjpcipaa", sum := "f02baaeebeba2df733205f458b35a4914e3d43a2ec01f148c859072dca7aa9ec", func := "deuce/deucelaw03.CardLooser", spec := "cardLooser", unfollowed := true, recurses := true, plainKeys := false, apart := false, narrowed := true }
def CardLooserUptoSaid : Prop := cardLooserUptoRow.holds Try.pinned (OpenSpec.upto cardLooserSpec)

/-- 'deucelaw03.CardCertain', WHERE WHAT IT READS IS OF BULK AT MOST 1048576: true; the input reads as it did. -/
def cardCertainUptoRow : OpenClaim := { program := "ytncoimjgjpcipaa", sum := "f02baaeebeba2df733205f458b35a4914e3d43a2ec01f148c859072dca7aa9ec", func := "deuce/deucelaw03.CardCertain", spec := "cardCertain", unfollowed := true, recurses := true, plainKeys := false, apart := false, narrowed := true }
def CardCertainUptoSaid : Prop := cardCertainUptoRow.holds Try.pinned (OpenSpec.upto cardCertainSpec)

/-- 'deucelaw03.CardTrue', WHERE WHAT IT READS IS OF BULK AT MOST 1048576: true; the input reads as it did. -/
def cardTrueUptoRow : OpenClaim := { program := "ytncoimjgjpcipaa", sum := "f02baaeebeba2df733205f458b35a4914e3d43a2ec01f148c859072dca7aa9ec", func := "deuce/deucelaw03.CardTrue", spec := "cardTrue", unfollowed := true, recurses := true, plainKeys := false, apart := false, narrowed := true }
def CardTrueUptoSaid : Prop := cardTrueUptoRow.holds Try.pinned (OpenSpec.upto cardTrueSpec)

/-- 'deucelaw03.CardFewest', WHERE WHAT IT READS IS OF BULK AT MOST 1048576: true; the input reads as it did. -/
def cardFewestUptoRow : OpenClaim := { program := "ytncoimjgjpcipaa", sum := "f02baaeebeba2df733205f458b35a4914e3d43a2ec01f148c859072dca7aa9ec", func := "deuce/deucelaw03.CardFewest", spec := "cardFewest", unfollowed := true, recurses := true, plainKeys := false, apart := false, narrowed := true }
def CardFewestUptoSaid : Prop := cardFewestUptoRow.holds Try.pinned (OpenSpec.upto cardFewestSpec)

/-- 'deucelaw03.CardSides', WHERE WHAT IT READS IS OF BULK AT MOST 1048576: true; the input reads as it did. -/
def cardSidesUptoRow : OpenClaim := { program := "ytncoimjgjpcipaa", sum := "f02baaeebeba2df733205f458b35a4914e3d43a2ec01f148c859072dca7aa9ec", func := "deuce/deucelaw03.CardSides", spec := "cardSides", unfollowed := true, recurses := true, plainKeys := false, apart := false, narrowed := true }
def CardSidesUptoSaid : Prop := cardSidesUptoRow.holds Try.pinned (OpenSpec.upto cardSidesSpec)

/-- 'deucetop.TopCard', WHERE WHAT IT READS IS OF BULK AT MOST 1048576: true; the input reads as it did. -/
def topCardUptoRow : OpenClaim := { program := "ytncoimjgjpcipaa", sum := "f02baaeebeba2df733205f458b35a4914e3d43a2ec01f148c859072dca7aa9ec", func := "deuce/deucetop.TopCard", spec := "topCard", unfollowed := true, recurses := true, plainKeys := false, apart := false, narrowed := true }
def TopCardUptoSaid : Prop := topCardUptoRow.holds Try.pinned (OpenSpec.upto topCardSpec)

end Rows
end Go.Proofs.Ytncoimjgjpcipaa
