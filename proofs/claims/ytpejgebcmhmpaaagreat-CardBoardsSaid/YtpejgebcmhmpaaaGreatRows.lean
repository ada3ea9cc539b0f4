/-
  No cell of these rows narrows 'for every input' (looked for: loops, veiled, ifaces, maps, wideKeys, modest, calm, conditions, laid).
  DERIVED. THE GIVEN ROWS OF THIS SEAT. 4 by the template 'for every input the law returns true; each argument reads behind the call as it read before'; 0 by the template 'total and deterministic' (their statements: YtpejgebcmhmpaaaGreatTotals.lean).
  GIVEN WITH THE SEED: the statements are not yours to turn. If you find one false, say at which input.
  Laid BY PROGRAM, IN A SANDBOX (cutbox-rows.mjs): the forced cells as the released guide's own fill.sh prints them over the translation 6a81d0fc1773fc41… (all of the seat's roots in one cut). By AI agents, Wed Nov 11 2026. No macro, syntax, notation, axiom, sorry.
-/
import Derived.Test.YtpejgebcmhmpaaaGreatChecked
import GoSem.Claim
import GoSem.ClaimJoined
import GoSem.ClaimMapViews
import Derived.JoinedTies
import Derived.KernelRfl
namespace Go.Proofs.YtpejgebcmhmpaaaGreat
/- THE CELL 'sum', in the pinned program and in every row, IS THE sha256 OF THE DUMP (.gsa) THAT YtpejgebcmhmpaaaGreatProg.lean LOADS. Nothing in Lean hashes anything: it is a label: what it is worth is what the hold of that sum in a sandbox is worth. -/
noncomputable def Tryz.pinned : Pinned := { name := "ytpejgebcmhmpaaagreat", sum := "6a81d0fc1773fc41a79fa15e181ac4011a925052756ec9606a62f8bc29012113", checked := Tryz.checked }
namespace Rows
def none {H : Type} : Left H := { results := [], args := [] }

/-- 'deucelaw03.CardBoards': WHATEVER THE INPUT: true; the input reads as it did. -/
def cardBoardsSpec : ChangeSpec := { name := "cardBoards", fn := fun _ => fun
  | [d] => { results := [.lit (.bool true)], args := [d] }
  | _ => none }
def cardBoardsRow : OpenClaim := { program := "ytpejgebcmhmpaaagreat", sum := "6a81d0fc1773fc41a79fa15e181ac4011a925052756ec9606a62f8bc29012113", func := "deuce/deucelaw03.CardBoards", spec := "cardBoards", unfollowed := true, recurses := true, plainKeys := false, apart := false }
def CardBoardsSaid : Prop := cardBoardsRow.holds Tryz.pinned (OpenSpec.ofChange cardBoardsSpec)

/-- ITS FALSE NEIGHBOUR: 'it returns false'. Refute it at one input. -/
def cardBoardsWrong : ChangeSpec := { name := "cardBoards", fn := fun _ => fun
  | [d] => { results := [.lit (.bool false)], args := [d] }
  | _ => none }
def CardBoardsWrongFalsely : Prop := cardBoardsRow.holds Tryz.pinned (OpenSpec.ofChange cardBoardsWrong)

/-- 'deucelaw03.CardShows': WHATEVER THE INPUT: true; the input reads as it did. -/
def cardShowsSpec : ChangeSpec := { name := "cardShows", fn := fun _ => fun
  | [d] => { results := [.lit (.bool true)], args := [d] }
  | _ => none }
def cardShowsRow : OpenClaim := { program := "ytpejgebcmhmpaaagreat", sum := "6a81d0fc1773fc41a79fa15e181ac4011a925052756ec9606a62f8bc29012113", func := "deuce/deucelaw03.CardShows", spec := "cardShows", unfollowed := true, recurses := true, plainKeys := false, apart := false }
def CardShowsSaid : Prop := cardShowsRow.holds Tryz.pinned (OpenSpec.ofChange cardShowsSpec)

/-- ITS FALSE NEIGHBOUR: 'it returns false'. Refute it at one input. -/
def cardShowsWrong : ChangeSpec := { name := "cardShows", fn := fun _ => fun
  | [d] => { results := [.lit (.bool false)], args := [d] }
  | _ => none }
def CardShowsWrongFalsely : Prop := cardShowsRow.holds Tryz.pinned (OpenSpec.ofChange cardShowsWrong)

/-- 'deucelaw03.CardShown': WHATEVER THE INPUT: true; the input reads as it did. -/
def cardShownSpec : ChangeSpec := { name := "cardShown", fn := fun _ => fun
  | [d] => { results := [.lit (.bool true)], args := [d] }
  | _ => none }
def cardShownRow : OpenClaim := { program := "ytpejgebcmhmpaaagreat", sum := "6a81d0fc1773fc41a79fa15e181ac4011a925052756ec9606a62f8bc29012113", func := "deuce/deucelaw03.CardShown", spec := "cardShown", unfollowed := true, recurses := true, plainKeys := false, apart := false }
def CardShownSaid : Prop := cardShownRow.holds Tryz.pinned (OpenSpec.ofChange cardShownSpec)

/-- ITS FALSE NEIGHBOUR: 'it returns false'. Refute it at one input. -/
def cardShownWrong : ChangeSpec := { name := "cardShown", fn := fun _ => fun
  | [d] => { results := [.lit (.bool false)], args := [d] }
  | _ => none }
def CardShownWrongFalsely : Prop := cardShownRow.holds Tryz.pinned (OpenSpec.ofChange cardShownWrong)

/-- 'deucelaw03.CardSure': WHATEVER THE INPUT: true; the input reads as it did. -/
def cardSureSpec : ChangeSpec := { name := "cardSure", fn := fun _ => fun
  | [d1, d2] => { results := [.lit (.bool true)], args := [d1, d2] }
  | _ => none }
def cardSureRow : OpenClaim := { program := "ytpejgebcmhmpaaagreat", sum := "6a81d0fc1773fc41a79fa15e181ac4011a925052756ec9606a62f8bc29012113", func := "deuce/deucelaw03.CardSure", spec := "cardSure", unfollowed := true, recurses := true, plainKeys := false, apart := false }
def CardSureSaid : Prop := cardSureRow.holds Tryz.pinned (OpenSpec.ofChange cardSureSpec)

/-- ITS FALSE NEIGHBOUR: 'it returns false'. Refute it at one input. -/
def cardSureWrong : ChangeSpec := { name := "cardSure", fn := fun _ => fun
  | [d1, d2] => { results := [.lit (.bool false)], args := [d1, d2] }
  | _ => none }
def CardSureWrongFalsely : Prop := cardSureRow.holds Tryz.pinned (OpenSpec.ofChange cardSureWrong)

/- THE SECOND FORM. 'bulk': how many values and letters a reading holds, each counted each time it is reached (what is shared counts as often as it is met; a slice's spare places count too). A statement '..UptoSaid' is the law's where the arguments, and the package variables that the reading takes, are together of bulk at most 1048576: NARROWER than '..Said'. Prove '..Said' where nothing that the law and all that it calls make is longer than what came in: it says more and counts as full. Else prove '..UptoSaid'. A law counts once. -/
mutual
def uptoBulk {H : Type} : DataW H → Nat
  | .lit (.string bytes) => bytes.length + 1
  | .lit _ => 1
  | .nil => 1
  | .ptr d => uptoBulk d + 1
  | .slice elems spare => uptoBulkAll elems + uptoBulkAll spare + 1
  | .agg parts => uptoBulkAll parts + 1
  | .iface _ d => uptoBulk d + 1
  | .map entries => uptoBulkEntries entries + 1
  | .held _ => 1
def uptoBulkAll {H : Type} : List (DataW H) → Nat
  | [] => 0
  | d :: r => uptoBulk d + uptoBulkAll r
def uptoBulkEntries {H : Type} : List (Lit × DataW H) → Nat
  | [] => 0
  | x :: r => uptoBulkEntry x + uptoBulkEntries r
def uptoBulkEntry {H : Type} : Lit × DataW H → Nat
  | (.string bytes, d) => bytes.length + uptoBulk d + 1
  | (_, d) => uptoBulk d + 1
 end
def uptoSmall : (H : Type) → List (DataW H) → Bool := fun _ ds => decide (uptoBulkAll ds ≤ 1048576)
def OpenSpec.upto (s : _root_.Go.ChangeSpec) : _root_.Go.OpenSpec := { _root_.Go.OpenSpec.ofChange s with cond := some uptoSmall }

/-- 'deucelaw03.CardBoards', WHERE WHAT IT READS IS OF BULK AT MOST 1048576: true; the input reads as it did. -/
def cardBoardsUptoRow : OpenClaim := { program := "ytpejgebcmhmpaaagreat", sum := "6a81d0fc1773fc41a79fa15e181ac4011a925052756ec9606a62f8bc29012113", func := "deuce/deucelaw03.CardBoards", spec := "cardBoards", unfollowed := true, recurses := true, plainKeys := false, apart := false, narrowed := true }
def CardBoardsUptoSaid : Prop := cardBoardsUptoRow.holds Tryz.pinned (OpenSpec.upto cardBoardsSpec)

/-- 'deucelaw03.CardShows', WHERE WHAT IT READS IS OF BULK AT MOST 1048576: true; the input reads as it did. -/
def cardShowsUptoRow : OpenClaim := { program := "ytpejgebcmhmpaaagreat", sum := "6a81d0fc1773fc41a79fa15e181ac4011a925052756ec9606a62f8bc29012113", func := "deuce/deucelaw03.CardShows", spec := "cardShows", unfollowed := true, recurses := true, plainKeys := false, apart := false, narrowed := true }
def CardShowsUptoSaid : Prop := cardShowsUptoRow.holds Tryz.pinned (OpenSpec.upto cardShowsSpec)

/-- 'deucelaw03.CardShown', WHERE WHAT IT READS IS OF BULK AT MOST 1048576: true; the input reads as it did. -/
def cardShownUptoRow : OpenClaim := { program := "ytpejgebcmhmpaaagreat", sum := "6a81d0fc1773fc41a79fa15e181ac4011a925052756ec9606a62f8bc29012113", func := "deuce/deucelaw03.CardShown", spec := "cardShown", unfollowed := true, recurses := true, plainKeys := false, apart := false, narrowed := true }
def CardShownUptoSaid : Prop := cardShownUptoRow.holds Tryz.pinned (OpenSpec.upto cardShownSpec)

/-- 'deucelaw03.CardSure', WHERE WHAT IT READS IS OF BULK AT MOST 1048576: true; the input reads as it did. -/
def cardSureUptoRow : OpenClaim := { program := "ytpejgebcmhmpaaagreat", sum := "6a81d0fc1773fc41a79fa15e181ac4011a925052756ec9606a62f8bc29012113", func := "deuce/deucelaw03.CardSure", spec := "cardSure", unfollowed := true, recurses := true, plainKeys := false, apart := false, narrowed := true }
def CardSureUptoSaid : Prop := cardSureUptoRow.holds Tryz.pinned (OpenSpec.upto cardSureSpec)

end Rows
end Go.Proofs.YtpejgebcmhmpaaaGreat
