/- The plain model of gate: queues, groups, and when groups are in. -/
import Derived.Test.YtbcclgfobiholaaWN
import Derived.Test.YtbcclgfobiholaaWM
import Derived.Test.YtbcclgfobiholaaWI
import Derived.Test.YtbcclgfobiholaaTA
namespace Go.Proofs.Ytbcclgfobiholaa
open Go Go.RowKit

def win (n lo hi : Int) : Bool := decide (lo ≤ n) && decide (n ≤ hi)
theorem win_iff {n lo hi : Int} : win n lo hi = true ↔ lo ≤ n ∧ n ≤ hi := by simp [win]
structure Pt where
  (id at_ size quits : Int)
abbrev Pt.enc (g : Pt) : List Value := [.int .i64 g.id, .int .i64 g.at_, .int .i64 g.size, .int .i64 g.quits]
abbrev Pt.val (g : Pt) : Value := .agg #[.int .i64 g.id, .int .i64 g.at_, .int .i64 g.size, .int .i64 g.quits]
def encPt (gs : List Pt) : List (List Value) := gs.map Pt.enc
abbrev Fe := Int × Int
def encF (fs : List Fe) : List (List Value) := fs.map fun f => [.int .i64 f.1, .int .i64 f.2]
theorem encPt_len (gs : List Pt) : (encPt gs).length = gs.length := by simp [encPt]
theorem encF_len (fs : List Fe) : (encF fs).length = fs.length := by simp [encF]
theorem encPt_at {gs : List Pt} {k : Nat} {g : Pt} (h : gs[k]? = some g) : (encPt gs)[k]? = some g.enc := by simp [encPt, h]
theorem encF_at {fs : List Fe} {k : Nat} {f : Fe} (h : fs[k]? = some f) : (encF fs)[k]? = some [.int .i64 f.1, .int .i64 f.2] := by simp [encF, h]
structure Qu where
  (opn lo hi seats : Int) (gs : List Pt) (fs : List Fe)
structure QA where
  (gA fA : Option Addr) (gc fc : Nat)
abbrev Qu.cells (q : Qu) (a : QA) : List Value := [.int .i64 q.opn, .int .i64 q.lo, .int .i64 q.hi, .int .i64 q.seats, .slice a.gA q.gs.length a.gc, .slice a.fA q.fs.length a.fc]
abbrev Qu.val (q : Qu) (a : QA) : Value := .agg #[.int .i64 q.opn, .int .i64 q.lo, .int .i64 q.hi, .int .i64 q.seats, .slice a.gA q.gs.length a.gc, .slice a.fA q.fs.length a.fc]
/-- A queue that reads. -/
structure QRd (w : World) (q : Qu) (a : QA) : Prop where
  g : Rd w a.gA 4 q.gs.length (encPt q.gs)
  f : Rd w a.fA 2 q.fs.length (encF q.fs)
  gn : q.gs.length ≤ 9223372036854775807
  fn : q.fs.length ≤ 9223372036854775807
def isT (n : Int) : Bool := win n 0 1440
def ptOk (g : Pt) : Bool := win g.id 0 999 && isT g.at_ && win g.size 1 20 && (decide (g.quits = -1) || win g.quits g.at_ 1440)
def feOk (f : Fe) : Bool := isT f.1 && win f.2 0 9999
def headOk (q : Qu) : Bool := isT q.opn && decide (1 ≤ q.lo) && decide (q.hi ≤ 100) && decide (q.lo ≤ q.hi) && win q.seats 0 9999 && decide ((q.gs.length : Int) ≤ 40) && decide ((q.fs.length : Int) ≤ 40)
def dup (gs : List Pt) (k : Nat) (id : Int) : Bool := (gs.take k).any fun g => decide (g.id = id)
def gsOk (gs : List Pt) : Nat → Bool
  | 0 => true
  | k + 1 => gsOk gs k && (match gs[k]? with | some g => !dup gs k g.id && ptOk g | none => true)
def qOk (q : Qu) : Bool := headOk q && gsOk q.gs q.gs.length && q.fs.all feOk
def chkQ (q : Qu) : Int := bif qOk q then 0 else 110
theorem gsOk_succ {gs : List Pt} {k : Nat} {g : Pt} (h : gs[k]? = some g) : gsOk gs (k + 1) = (gsOk gs k && (!dup gs k g.id && ptOk g)) := by rw [gsOk, h]
theorem gsOk_le {gs : List Pt} {j : Nat} (h : gsOk gs j = false) : ∀ {k : Nat}, j ≤ k → gsOk gs k = false
  | 0, hk => by obtain rfl : j = 0 := by omega
                exact h
  | k + 1, hk => by
    by_cases e : j = k + 1
    · subst e; exact h
    · rw [gsOk, gsOk_le h (k := k) (by omega)]; rfl
theorem dup_succ {gs : List Pt} {k : Nat} {g : Pt} (h : gs[k]? = some g) (id : Int) : dup gs (k + 1) id = (dup gs k id || decide (g.id = id)) := by
  unfold dup
  rw [List.take_add_one, h]
  simp
structure Qu.Ok (q : Qu) : Prop where
  o : 0 ≤ q.opn ∧ q.opn ≤ 1440
  r : 1 ≤ q.lo ∧ q.lo ≤ q.hi ∧ q.hi ≤ 100
  s : 0 ≤ q.seats ∧ q.seats ≤ 9999
  g : q.gs.length ≤ 40
  f : q.fs.length ≤ 40
  pt : ∀ g ∈ q.gs, ptOk g = true
  fe : ∀ f ∈ q.fs, feOk f = true
  nd : ∀ (i j : Nat) (g h : Pt), i < j → q.gs[i]? = some g → q.gs[j]? = some h → g.id ≠ h.id
theorem gsOk_all {gs : List Pt} : ∀ {k : Nat}, gsOk gs k = true → (∀ (i : Nat) (g : Pt), i < k → gs[i]? = some g → ptOk g = true ∧ dup gs i g.id = false)
  | 0, _, i, _, hi, _ => by omega
  | k + 1, h, i, g, hi, hg => by
    rw [gsOk, Bool.and_eq_true] at h
    by_cases e : i = k
    · subst e
      have h2 := h.2
      rw [hg] at h2
      simp only [Bool.and_eq_true, Bool.not_eq_true'] at h2
      exact ⟨h2.2, h2.1⟩
    · exact gsOk_all h.1 i g (by omega) hg
theorem q_ok {q : Qu} (h : qOk q = true) : q.Ok := by
  simp only [qOk, headOk, isT, Bool.and_eq_true, decide_eq_true_eq, win_iff] at h
  obtain ⟨⟨⟨⟨⟨⟨⟨⟨h1, h2⟩, h3⟩, h4⟩, h5⟩, h6⟩, h7⟩, h8⟩, h9⟩ := h
  have hall := gsOk_all h8
  refine ⟨h1, ⟨h2, h4, h3⟩, h5, by omega, by omega, fun g hg => ?_, fun f hf => List.all_eq_true.1 h9 f hf, fun i j g h hij hg hh he => ?_⟩
  · obtain ⟨i, hi, rfl⟩ := List.getElem_of_mem hg
    exact (hall i _ hi (List.getElem?_eq_getElem hi)).1
  · have := (hall j h (List.getElem?_eq_some_iff.1 hh).1 hh).2
    unfold dup at this
    rw [List.any_eq_false] at this
    have hm : g ∈ q.gs.take j := by
      have : (q.gs.take j)[i]? = some g := by rw [List.getElem?_take]; simp [hij, hg]
      exact List.mem_of_getElem? this
    exact this g hm (by simp [he])
theorem chkQ_ok {q : Qu} (h : (!decide (chkQ q = 0)) = false) : q.Ok ∧ qOk q = true := by
  cases hb : qOk q
  · simp [chkQ, hb] at h
  · exact ⟨q_ok hb, rfl⟩
end Go.Proofs.Ytbcclgfobiholaa
