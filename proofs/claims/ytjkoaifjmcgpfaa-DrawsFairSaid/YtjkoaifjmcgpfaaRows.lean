/-
  No cell of these rows narrows 'for every input' (looked for: loops, veiled, ifaces, maps, wideKeys, modest, calm, conditions, laid).
  DERIVED. THE GIVEN ROWS OF THIS SEAT. 9 by the template 'for every input the law returns true; each argument reads behind the call as it read before'; 0 by the template 'total and deterministic' (their statements: YtjkoaifjmcgpfaaTotals.lean).
  GIVEN WITH THE SEED: the statements are not yours to turn. If you find one false, say at which input.
  Laid BY PROGRAM, IN A SANDBOX (cutbox-rows.mjs): the forced cells as the released guide's own fill.sh prints them over the translation a3171bfc3d406e0c… (all of the seat's roots in one cut). By AI agents, Wed Nov 11 2026. No macro, syntax, notation, axiom, sorry.
-/
import Derived.Test.YtjkoaifjmcgpfaaChecked
import GoSem.Claim
import GoSem.ClaimJoined
import GoSem.ClaimMapViews
import Derived.JoinedTies
import Derived.KernelRfl
namespace Go.Proofs.Ytjkoaifjmcgpfaa
/- THE CELL 'sum', in the pinned program and in every row, IS THE sha256 OF THE DUMP (.gsa) THAT YtjkoaifjmcgpfaaProg.lean LOADS. Nothing in Lean hashes anything: it is a label: what it is worth is what the hold of that sum in a sandbox is worth. -/
noncomputable def Try.pinned : Pinned := { name := "ytjkoaifjmcgpfaa", sum := "a3171bfc3d406e0cfdc2614cd2bad681ac71733d070a3e463e2e587772f83511", checked := Try.checked }
namespace Rows
def none {H : Type} : Left H := { results := [], args := [] }

/-- 'deucelaw06.DrawsSame': WHATEVER THE INPUT: true; the input reads as it did. -/
def drawsSameSpec : ChangeSpec := { name := "drawsSame", fn := fun _ => fun
  | [d1, d2, d3] => { results := [.lit (.bool true)], args := [d1, d2, d3] }
  | _ => none }
def drawsSameRow : OpenClaim := { program := "ytjkoaifjmcgpfaa", sum := "a3171bfc3d406e0cfdc2614cd2bad681ac71733d070a3e463e2e587772f83511", func := "deuce/deucelaw06.DrawsSame", spec := "drawsSame", unfollowed := true, recurses := true, apart := false }
def DrawsSameSaid : Prop := drawsSameRow.holds Try.pinned (OpenSpec.ofChange drawsSameSpec)

/-- ITS FALSE NEIGHBOUR: 'it returns false'. Refute it at one input. -/
def drawsSameWrong : ChangeSpec := { name := "drawsSame", fn := fun _ => fun
  | [d1, d2, d3] => { results := [.lit (.bool false)], args := [d1, d2, d3] }
  | _ => none }
def DrawsSameWrongFalsely : Prop := drawsSameRow.holds Try.pinned (OpenSpec.ofChange drawsSameWrong)

/-- 'deucelaw06.DrawsIndex': WHATEVER THE INPUT: true; the input reads as it did. -/
def drawsIndexSpec : ChangeSpec := { name := "drawsIndex", fn := fun _ => fun
  | [d1, d2] => { results := [.lit (.bool true)], args := [d1, d2] }
  | _ => none }
def drawsIndexRow : OpenClaim := { program := "ytjkoaifjmcgpfaa", sum := "a3171bfc3d406e0cfdc2614cd2bad681ac71733d070a3e463e2e587772f83511", func := "deuce/deucelaw06.DrawsIndex", spec := "drawsIndex", unfollowed := true, recurses := true, apart := false }
def DrawsIndexSaid : Prop := drawsIndexRow.holds Try.pinned (OpenSpec.ofChange drawsIndexSpec)

/-- ITS FALSE NEIGHBOUR: 'it returns false'. Refute it at one input. -/
def drawsIndexWrong : ChangeSpec := { name := "drawsIndex", fn := fun _ => fun
  | [d1, d2] => { results := [.lit (.bool false)], args := [d1, d2] }
  | _ => none }
def DrawsIndexWrongFalsely : Prop := drawsIndexRow.holds Try.pinned (OpenSpec.ofChange drawsIndexWrong)

/-- 'deucelaw06.DrawsLots': WHATEVER THE INPUT: true; the input reads as it did. -/
def drawsLotsSpec : ChangeSpec := { name := "drawsLots", fn := fun _ => fun
  | [d1, d2, d3] => { results := [.lit (.bool true)], args := [d1, d2, d3] }
  | _ => none }
def drawsLotsRow : OpenClaim := { program := "ytjkoaifjmcgpfaa", sum := "a3171bfc3d406e0cfdc2614cd2bad681ac71733d070a3e463e2e587772f83511", func := "deuce/deucelaw06.DrawsLots", spec := "drawsLots", unfollowed := true, recurses := true, apart := false }
def DrawsLotsSaid : Prop := drawsLotsRow.holds Try.pinned (OpenSpec.ofChange drawsLotsSpec)

/-- ITS FALSE NEIGHBOUR: 'it returns false'. Refute it at one input. -/
def drawsLotsWrong : ChangeSpec := { name := "drawsLots", fn := fun _ => fun
  | [d1, d2, d3] => { results := [.lit (.bool false)], args := [d1, d2, d3] }
  | _ => none }
def DrawsLotsWrongFalsely : Prop := drawsLotsRow.holds Try.pinned (OpenSpec.ofChange drawsLotsWrong)

/-- 'deucelaw06.DrawsApart': WHATEVER THE INPUT: true; the input reads as it did. -/
def drawsApartSpec : ChangeSpec := { name := "drawsApart", fn := fun _ => fun
  | [d1, d2] => { results := [.lit (.bool true)], args := [d1, d2] }
  | _ => none }
def drawsApartRow : OpenClaim := { program := "ytjkoaifjmcgpfaa", sum := "a3171bfc3d406e0cfdc2614cd2bad681ac71733d070a3e463e2e587772f83511", func := "deuce/deucelaw06.DrawsApart", spec := "drawsApart", unfollowed := true, recurses := true, apart := false }
def DrawsApartSaid : Prop := drawsApartRow.holds Try.pinned (OpenSpec.ofChange drawsApartSpec)

/-- ITS FALSE NEIGHBOUR: 'it returns false'. Refute it at one input. -/
def drawsApartWrong : ChangeSpec := { name := "drawsApart", fn := fun _ => fun
  | [d1, d2] => { results := [.lit (.bool false)], args := [d1, d2] }
  | _ => none }
def DrawsApartWrongFalsely : Prop := drawsApartRow.holds Try.pinned (OpenSpec.ofChange drawsApartWrong)

/-- 'deucelaw06.DrawsFair': WHATEVER THE INPUT: true; the input reads as it did. -/
def drawsFairSpec : ChangeSpec := { name := "drawsFair", fn := fun _ => fun
  | [d1, d2, d3] => { results := [.lit (.bool true)], args := [d1, d2, d3] }
  | _ => none }
def drawsFairRow : OpenClaim := { program := "ytjkoaifjmcgpfaa", sum := "a3171bfc3d406e0cfdc2614cd2bad681ac71733d070a3e463e2e587772f83511", func := "deuce/deucelaw06.DrawsFair", spec := "drawsFair", unfollowed := true, recurses := true, apart := false }
def DrawsFairSaid : Prop := drawsFairRow.holds Try.pinned (OpenSpec.ofChange drawsFairSpec)

/-- ITS FALSE NEIGHBOUR: 'it returns false'. Refute it at one input. -/
def drawsFairWrong : ChangeSpec := { name := "drawsFair", fn := fun _ => fun
  | [d1, d2, d3] => { results := [.lit (.bool false)], args := [d1, d2, d3] }
  | _ => none }
def DrawsFairWrongFalsely : Prop := drawsFairRow.holds Try.pinned (OpenSpec.ofChange drawsFairWrong)

/-- 'deucelaw06.DrawsCounts': WHATEVER THE INPUT: true; the input reads as it did. -/
def drawsCountsSpec : ChangeSpec := { name := "drawsCounts", fn := fun _ => fun
  | [d1, d2, d3] => { results := [.lit (.bool true)], args := [d1, d2, d3] }
  | _ => none }
def drawsCountsRow : OpenClaim := { program := "ytjkoaifjmcgpfaa", sum := "a3171bfc3d406e0cfdc2614cd2bad681ac71733d070a3e463e2e587772f83511", func := "deuce/deucelaw06.DrawsCounts", spec := "drawsCounts", unfollowed := true, recurses := true, apart := false }
def DrawsCountsSaid : Prop := drawsCountsRow.holds Try.pinned (OpenSpec.ofChange drawsCountsSpec)

/-- ITS FALSE NEIGHBOUR: 'it returns false'. Refute it at one input. -/
def drawsCountsWrong : ChangeSpec := { name := "drawsCounts", fn := fun _ => fun
  | [d1, d2, d3] => { results := [.lit (.bool false)], args := [d1, d2, d3] }
  | _ => none }
def DrawsCountsWrongFalsely : Prop := drawsCountsRow.holds Try.pinned (OpenSpec.ofChange drawsCountsWrong)

/-- 'deucelaw06.DrawsSheets': WHATEVER THE INPUT: true; the input reads as it did. -/
def drawsSheetsSpec : ChangeSpec := { name := "drawsSheets", fn := fun _ => fun
  | [d1, d2] => { results := [.lit (.bool true)], args := [d1, d2] }
  | _ => none }
def drawsSheetsRow : OpenClaim := { program := "ytjkoaifjmcgpfaa", sum := "a3171bfc3d406e0cfdc2614cd2bad681ac71733d070a3e463e2e587772f83511", func := "deuce/deucelaw06.DrawsSheets", spec := "drawsSheets", unfollowed := true, recurses := true, apart := false }
def DrawsSheetsSaid : Prop := drawsSheetsRow.holds Try.pinned (OpenSpec.ofChange drawsSheetsSpec)

/-- ITS FALSE NEIGHBOUR: 'it returns false'. Refute it at one input. -/
def drawsSheetsWrong : ChangeSpec := { name := "drawsSheets", fn := fun _ => fun
  | [d1, d2] => { results := [.lit (.bool false)], args := [d1, d2] }
  | _ => none }
def DrawsSheetsWrongFalsely : Prop := drawsSheetsRow.holds Try.pinned (OpenSpec.ofChange drawsSheetsWrong)

/-- 'deucelaw06.DrawsAnyOrder': WHATEVER THE INPUT: true; the input reads as it did. -/
def drawsAnyOrderSpec : ChangeSpec := { name := "drawsAnyOrder", fn := fun _ => fun
  | [d1, d2, d3] => { results := [.lit (.bool true)], args := [d1, d2, d3] }
  | _ => none }
def drawsAnyOrderRow : OpenClaim := { program := "ytjkoaifjmcgpfaa", sum := "a3171bfc3d406e0cfdc2614cd2bad681ac71733d070a3e463e2e587772f83511", func := "deuce/deucelaw06.DrawsAnyOrder", spec := "drawsAnyOrder", unfollowed := true, recurses := true, apart := false }
def DrawsAnyOrderSaid : Prop := drawsAnyOrderRow.holds Try.pinned (OpenSpec.ofChange drawsAnyOrderSpec)

/-- ITS FALSE NEIGHBOUR: 'it returns false'. Refute it at one input. -/
def drawsAnyOrderWrong : ChangeSpec := { name := "drawsAnyOrder", fn := fun _ => fun
  | [d1, d2, d3] => { results := [.lit (.bool false)], args := [d1, d2, d3] }
  | _ => none }
def DrawsAnyOrderWrongFalsely : Prop := drawsAnyOrderRow.holds Try.pinned (OpenSpec.ofChange drawsAnyOrderWrong)

/-- 'deucelaw06.DrawsChanges': WHATEVER THE INPUT: true; the input reads as it did. -/
def drawsChangesSpec : ChangeSpec := { name := "drawsChanges", fn := fun _ => fun
  | [d1, d2] => { results := [.lit (.bool true)], args := [d1, d2] }
  | _ => none }
def drawsChangesRow : OpenClaim := { program := "ytjkoaifjmcgpfaa", sum := "a3171bfc3d406e0cfdc2614cd2bad681ac71733d070a3e463e2e587772f83511", func := "deuce/deucelaw06.DrawsChanges", spec := "drawsChanges", unfollowed := true, recurses := true, apart := false }
def DrawsChangesSaid : Prop := drawsChangesRow.holds Try.pinned (OpenSpec.ofChange drawsChangesSpec)

/-- ITS FALSE NEIGHBOUR: 'it returns false'. Refute it at one input. -/
def drawsChangesWrong : ChangeSpec := { name := "drawsChanges", fn := fun _ => fun
  | [d1, d2] => { results := [.lit (.bool false)], args := [d1, d2] }
  | _ => none }
def DrawsChangesWrongFalsely : Prop := drawsChangesRow.holds Try.pinned (OpenSpec.ofChange drawsChangesWrong)

/- THE SECOND FORM. 'bulk': how many values and letters a reading holds, each counted each time it is reached (what is shared counts as often as it is met; a slice's spare places count too). A statement '..UptoSaid' is the law's where the arguments, and the package variables that the reading takes, are together of bulk at most 1048576: NARROWER than '..Said'. Prove '..Said' where nothing that the law and all that it calls make is longer than what came in: it says more and counts as full. Else prove '..UptoSaid'. A law counts once. -/
mutual
def uptoBulk {H : Type} : DataW H → Nat
  | .lit (.string bytes) => bytes.length + 1
  | .lit _ => 1
  | .nil => 1
  | .ptr d => uptoBulk d + 1
  | .slice elems spare => uptoBulkAll elems + uptoBulkAll spare + 1
  | .agg parts => uptoBulkAll parts + 1
  | .iface _ d => uptoBulk d + 1
  | .map entries => uptoBulkEntries entries + 1
  | .held _ => 1
def uptoBulkAll {H : Type} : List (DataW H) → Nat
  | [] => 0
  | d :: r => uptoBulk d + uptoBulkAll r
def uptoBulkEntries {H : Type} : List (Lit × DataW H) → Nat
  | [] => 0
  | x :: r => uptoBulkEntry x + uptoBulkEntries r
def uptoBulkEntry {H : Type} : Lit × DataW H → Nat
  | (.string bytes, d) => bytes.length + uptoBulk d + 1
  | (_, d) => uptoBulk d + 1
 end
def uptoSmall : (H : Type) → List (DataW H) → Bool := fun _ ds => decide (uptoBulkAll ds ≤ 1048576)
def OpenSpec.upto (s : _root_.Go.ChangeSpec) : _root_.Go.OpenSpec := { _root_.Go.OpenSpec.ofChange s with cond := some uptoSmall }

/-- 'deucelaw06.DrawsSame', WHERE WHAT IT READS IS OF BULK AT MOST 1048576: true; the input reads as it did. -/
def drawsSameUptoRow : OpenClaim := { program := "ytjkoaifjmcgpfaa", sum := "a3171bfc3d406e0cfdc2614cd2bad681ac71733d070a3e463e2e587772f83511", func := "deuce/deucelaw06.DrawsSame", spec := "drawsSame", unfollowed := true, recurses := true, apart := false, narrowed := true }
def DrawsSameUptoSaid : Prop := drawsSameUptoRow.holds Try.pinned (OpenSpec.upto drawsSameSpec)

/-- 'deucelaw06.DrawsIndex', WHERE WHAT IT READS IS OF BULK AT MOST 1048576: true; the input reads as it did. -/
def drawsIndexUptoRow : OpenClaim := { program := "ytjkoaifjmcgpfaa", sum := "a3171bfc3d406e0cfdc2614cd2bad681ac71733d070a3e463e2e587772f83511", func := "deuce/deucelaw06.DrawsIndex", spec := "drawsIndex", unfollowed := true, recurses := true, apart := false, narrowed := true }
def DrawsIndexUptoSaid : Prop := drawsIndexUptoRow.holds Try.pinned (OpenSpec.upto drawsIndexSpec)

/-- 'deucelaw06.DrawsLots', WHERE WHAT IT READS IS OF BULK AT MOST 1048576: true; the input reads as it did. -/
def drawsLotsUptoRow : OpenClaim := { program := "ytjkoaifjmcgpfaa", sum := "a3171bfc3d406e0cfdc2614cd2bad681ac71733d070a3e463e2e587772f83511", func := "deuce/deucelaw06.DrawsLots", spec := "drawsLots", unfollowed := true, recurses := true, apart := false, narrowed := true }
def DrawsLotsUptoSaid : Prop := drawsLotsUptoRow.holds Try.pinned (OpenSpec.upto drawsLotsSpec)

/-- 'deucelaw06.DrawsApart', WHERE WHAT IT READS IS OF BULK AT MOST 1048576: true; the input reads as it did. -/
def drawsApartUptoRow : OpenClaim := { program := "ytjkoaifjmcgpfaa", sum := "a3171bfc3d406e0cfdc2614cd2bad681ac71733d070a3e463e2e587772f83511", func := "deuce/deucelaw06.DrawsApart", spec := "drawsApart", unfollowed := true, recurses := true, apart := false, narrowed := true }
def DrawsApartUptoSaid : Prop := drawsApartUptoRow.holds Try.pinned (OpenSpec.upto drawsApartSpec)

/-- 'deucelaw06.DrawsFair', WHERE WHAT IT READS IS OF BULK AT MOST 1048576: true; the input reads as it did. -/
def drawsFairUptoRow : OpenClaim := { program := "ytjkoaifjmcgpfaa", sum := "a3171bfc3d406e0cfdc2614cd2bad681ac71733d070a3e463e2e587772f83511", func := "deuce/deucelaw06.DrawsFair", spec := "drawsFair", unfollowed := true, recurses := true, apart := false, narrowed := true }
def DrawsFairUptoSaid : Prop := drawsFairUptoRow.holds Try.pinned (OpenSpec.upto drawsFairSpec)

/-- 'deucelaw06.DrawsCounts', WHERE WHAT IT READS IS OF BULK AT MOST 1048576: true; the input reads as it did. -/
def drawsCountsUptoRow : OpenClaim := { program := "ytjkoaifjmcgpfaa", sum := "a3171bfc3d406e0cfdc2614cd2bad681ac71733d070a3e463e2e587772f83511", func := "deuce/deucelaw06.DrawsCounts", spec := "drawsCounts", unfollowed := true, recurses := true, apart := false, narrowed := true }
def DrawsCountsUptoSaid : Prop := drawsCountsUptoRow.holds Try.pinned (OpenSpec.upto drawsCountsSpec)

/-- 'deucelaw06.DrawsSheets', WHERE WHAT IT READS IS OF BULK AT MOST 1048576: true; the input reads as it did. -/
def drawsSheetsUptoRow : OpenClaim := { program := "ytjkoaifjmcgpfaa", sum := "a3171bfc3d406e0cfdc2614cd2bad681ac71733d070a3e463e2e587772f83511", func := "deuce/deucelaw06.DrawsSheets", spec := "drawsSheets", unfollowed := true, recurses := true, apart := false, narrowed := true }
def DrawsSheetsUptoSaid : Prop := drawsSheetsUptoRow.holds Try.pinned (OpenSpec.upto drawsSheetsSpec)

/-- 'deucelaw06.DrawsAnyOrder', WHERE WHAT IT READS IS OF BULK AT MOST 1048576: true; the input reads as it did. -/
def drawsAnyOrderUptoRow : OpenClaim := { program := "ytjkoaifjmcgpfaa", sum := "a3171bfc3d406e0cfdc2614cd2bad681ac71733d070a3e463e2e587772f83511", func := "deuce/deucelaw06.DrawsAnyOrder", spec := "drawsAnyOrder", unfollowed := true, recurses := true, apart := false, narrowed := true }
def DrawsAnyOrderUptoSaid : Prop := drawsAnyOrderUptoRow.holds Try.pinned (OpenSpec.upto drawsAnyOrderSpec)

/-- 'deucelaw06.DrawsChanges', WHERE WHAT IT READS IS OF BULK AT MOST 1048576: true; the input reads as it did. -/
def drawsChangesUptoRow : OpenClaim := { program := "ytjkoaifjmcgpfaa", sum := "a3171bfc3d406e0cfdc2614cd2bad681ac71733d070a3e463e2e587772f83511", func := "deuce/deucelaw06.DrawsChanges", spec := "drawsChanges", unfollowed := true, recurses := true, apart := false, narrowed := true }
def DrawsChangesUptoSaid : Prop := drawsChangesUptoRow.holds Try.pinned (OpenSpec.upto drawsChangesSpec)

end Rows
end Go.Proofs.Ytjkoaifjmcgpfaa
