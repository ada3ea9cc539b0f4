/-
  No cell of these rows narrows 'for every input' (looked for: loops, veiled, ifaces, maps, wideKeys, modest, calm, conditions, laid).
  DERIVED. THE GIVEN ROWS OF THIS SEAT. 3 by the template 'for every input the law returns true; each argument reads behind the call as it read before'; 0 by the template 'total and deterministic' (their statements: YthkliiifllhacaaGreatTotals.lean).
  GIVEN WITH THE SEED: the statements are not yours to turn. If you find one false, say at which input.
  Laid BY PROGRAM, IN A SANDBOX (cutbox-rows.mjs): the forced cells as the released guide's own fill.sh prints them over the translation 0c5e71247dba8d6c… (all of the seat's roots in one cut). By AI agents, Wed Nov 11 2026. No macro, syntax, notation, axiom, sorry.
-/
import Derived.Test.YthkliiifllhacaaGreatChecked
import GoSem.Claim
import GoSem.ClaimJoined
import GoSem.ClaimMapViews
import Derived.JoinedTies
import Derived.KernelRfl
namespace Go.Proofs.YthkliiifllhacaaGreat
/- THE CELL 'sum', in the pinned program and in every row, IS THE sha256 OF THE DUMP (.gsa) THAT YthkliiifllhacaaGreatProg.lean LOADS. Nothing in Lean hashes anything: it is a label: what it is worth is what the hold of that sum in a sandbox is worth. -/
noncomputable def Tryz.pinned : Pinned := { name := "ythkliiifllhacaagreat", sum := "0c5e71247dba8d6c57b0086129ce24b2a2ec274848f97d537cab19c2563e767a", checked := Tryz.checked }
namespace Rows
def none {H : Type} : Left H := { results := [], args := [] }

/-- 'deucetop.TopSeeded': WHATEVER THE INPUT: true; the input reads as it did. -/
def topSeededSpec : ChangeSpec := { name := "topSeeded", fn := fun _ => fun
  | [d1, d2] => { results := [.lit (.bool true)], args := [d1, d2] }
  | _ => none }
def topSeededRow : OpenClaim := { program := "ythkliiifllhacaagreat", sum := "0c5e71247dba8d6c57b0086129ce24b2a2ec274848f97d537cab19c2563e767a", func := "deuce/deucetop.TopSeeded", spec := "topSeeded", unfollowed := true, recurses := true, plainKeys := false, apart := false }
def TopSeededSaid : Prop := topSeededRow.holds Tryz.pinned (OpenSpec.ofChange topSeededSpec)

/-- ITS FALSE NEIGHBOUR: 'it returns false'. Refute it at one input. -/
def topSeededWrong : ChangeSpec := { name := "topSeeded", fn := fun _ => fun
  | [d1, d2] => { results := [.lit (.bool false)], args := [d1, d2] }
  | _ => none }
def TopSeededWrongFalsely : Prop := topSeededRow.holds Tryz.pinned (OpenSpec.ofChange topSeededWrong)

/-- 'deucetop.TopMonday': WHATEVER THE INPUT: true; the input reads as it did. -/
def topMondaySpec : ChangeSpec := { name := "topMonday", fn := fun _ => fun
  | [d1, d2, d3] => { results := [.lit (.bool true)], args := [d1, d2, d3] }
  | _ => none }
def topMondayRow : OpenClaim := { program := "ythkliiifllhacaagreat", sum := "0c5e71247dba8d6c57b0086129ce24b2a2ec274848f97d537cab19c2563e767a", func := "deuce/deucetop.TopMonday", spec := "topMonday", unfollowed := true, recurses := true, plainKeys := false, apart := false }
def TopMondaySaid : Prop := topMondayRow.holds Tryz.pinned (OpenSpec.ofChange topMondaySpec)

/-- ITS FALSE NEIGHBOUR: 'it returns false'. Refute it at one input. -/
def topMondayWrong : ChangeSpec := { name := "topMonday", fn := fun _ => fun
  | [d1, d2, d3] => { results := [.lit (.bool false)], args := [d1, d2, d3] }
  | _ => none }
def TopMondayWrongFalsely : Prop := topMondayRow.holds Tryz.pinned (OpenSpec.ofChange topMondayWrong)

/-- 'deucetop.TopCalled': WHATEVER THE INPUT: true; the input reads as it did. -/
def topCalledSpec : ChangeSpec := { name := "topCalled", fn := fun _ => fun
  | [d1, d2, d3] => { results := [.lit (.bool true)], args := [d1, d2, d3] }
  | _ => none }
def topCalledRow : OpenClaim := { program := "ythkliiifllhacaagreat", sum := "0c5e71247dba8d6c57b0086129ce24b2a2ec274848f97d537cab19c2563e767a", func := "deuce/deucetop.TopCalled", spec := "topCalled", unfollowed := true, recurses := true, plainKeys := false, apart := false }
def TopCalledSaid : Prop := topCalledRow.holds Tryz.pinned (OpenSpec.ofChange topCalledSpec)

/-- ITS FALSE NEIGHBOUR: 'it returns false'. Refute it at one input. -/
def topCalledWrong : ChangeSpec := { name := "topCalled", fn := fun _ => fun
  | [d1, d2, d3] => { results := [.lit (.bool false)], args := [d1, d2, d3] }
  | _ => none }
def TopCalledWrongFalsely : Prop := topCalledRow.holds Tryz.pinned (OpenSpec.ofChange topCalledWrong)

/- THE SECOND FORM. 'bulk': how many values and letters a reading holds, each counted each time it is reached (what is shared counts as often as it is met; a slice's spare places count too). A statement '..UptoSaid' is the law's where the arguments, and the package variables that the reading takes, are together of bulk at most 1048576: NARROWER than '..Said'. Prove '..Said' where nothing that the law and all that it calls make is longer than what came in: it says more and counts as full. Else prove '..UptoSaid'. A law counts once. -/
mutual
def uptoBulk {H : Type} : DataW H → Nat
  | .lit (.string bytes) => bytes.length + 1
  | .lit _ => 1
  | .nil => 1
  | .ptr d => uptoBulk d + 1
  | .slice elems spare => uptoBulkAll elems + uptoBulkAll spare + 1
  | .agg parts => uptoBulkAll parts + 1
  | .iface _ d => uptoBulk d + 1
  | .map entries => uptoBulkEntries entries + 1
  | .held _ => 1
def uptoBulkAll {H : Type} : List (DataW H) → Nat
  | [] => 0
  | d :: r => uptoBulk d + uptoBulkAll r
def uptoBulkEntries {H : Type} : List (Lit × DataW H) → Nat
  | [] => 0
  | x :: r => uptoBulkEntry x + uptoBulkEntries r
def uptoBulkEntry {H : Type} : Lit × DataW H → Nat
  | (.string bytes, d) => bytes.length + uptoBulk d + 1
  | (_, d) => uptoBulk d + 1
 end
def uptoSmall : (H : Type) → List (DataW H) → Bool := fun _ ds => decide (uptoBulkAll ds ≤ 1048576)
def OpenSpec.upto (s : _root_.Go.ChangeSpec) : _root_.Go.OpenSpec := { _root_.Go.OpenSpec.ofChange s with cond := some uptoSmall }

/-- 'deucetop.TopSeeded', WHERE WHAT IT READS IS OF BULK AT MOST 1048576: true; the input reads as it did. -/
def topSeededUptoRow : OpenClaim := { program := "ythkliiifllhacaagreat", sum := "0c5e71247dba8d6c57b0086129ce24b2a2ec274848f97d537cab19c2563e767a", func := "deuce/deucetop.TopSeeded", spec := "topSeeded", unfollowed := true, recurses := true, plainKeys := false, apart := false, narrowed := true }
def TopSeededUptoSaid : Prop := topSeededUptoRow.holds Tryz.pinned (OpenSpec.upto topSeededSpec)

/-- 'deucetop.TopMonday', WHERE WHAT IT READS IS OF BULK AT MOST 1048576: true; the input reads as it did. -/
def topMondayUptoRow : OpenClaim := { program := "ythkliiifllhacaagreat", sum := "0c5e71247dba8d6c57b0086129ce24b2a2ec274848f97d537cab19c2563e767a", func := "deuce/deucetop.TopMonday", spec := "topMonday", unfollowed := true, recurses := true, plainKeys := false, apart := false, narrowed := true }
def TopMondayUptoSaid : Prop := topMondayUptoRow.holds Tryz.pinned (OpenSpec.upto topMondaySpec)

/-- 'deucetop.TopCalled', WHERE WHAT IT READS IS OF BULK AT MOST 1048576: true; the input reads as it did. -/
def topCalledUptoRow : OpenClaim := { program := "ythkliiifllhacaagreat", sum := "0c5e71247dba8d6c57b0086129ce24b2a2ec274848f97d537cab19c2563e767a", func := "deuce/deucetop.TopCalled", spec := "topCalled", unfollowed := true, recurses := true, plainKeys := false, apart := false, narrowed := true }
def TopCalledUptoSaid : Prop := topCalledUptoRow.holds Tryz.pinned (OpenSpec.upto topCalledSpec)

end Rows
end Go.Proofs.YthkliiifllhacaaGreat
