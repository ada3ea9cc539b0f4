/- The plain model of score: formats, pairs, games. -/
import Derived.Test.YtacaojifempclaaWA
import Derived.Test.YtacaojifempclaaWG
import Derived.Test.YtacaojifempclaaTA
namespace Go.Proofs.Ytacaojifempclaa
open Go Go.RowKit

def wi (n lo hi : Int) : Bool := decide (lo ≤ n) && decide (n ≤ hi)
theorem wi_iff {n lo hi : Int} : wi n lo hi = true ↔ lo ≤ n ∧ n ≤ hi := by simp [wi]
theorem wi_not {n lo hi : Int} : (!wi n lo hi) = false ↔ lo ≤ n ∧ n ≤ hi := by simp [wi]
theorem cdT' {α β : Type} (f : α → β) {c : Bool} {x y : α} (h : c = true) : f x = f (bif c then x else y) := by rw [h]; rfl
theorem cdF' {α β : Type} (f : α → β) {c : Bool} {x y : α} (h : c = false) : f y = f (bif c then x else y) := by rw [h]; rfl

structure Fmt where
  (sets games : Int) (noAd : Bool) (tie to ltie lto first thn : Int) (dbl : Bool)
abbrev Fmt.cells (f : Fmt) : List Value := [.int .i64 f.sets, .int .i64 f.games, .bool f.noAd, .int .i64 f.tie, .int .i64 f.to, .int .i64 f.ltie, .int .i64 f.lto, .int .i64 f.first, .int .i64 f.thn, .bool f.dbl]
abbrev Fmt.val (f : Fmt) : Value := .agg #[.int .i64 f.sets, .int .i64 f.games, .bool f.noAd, .int .i64 f.tie, .int .i64 f.to, .int .i64 f.ltie, .int .i64 f.lto, .int .i64 f.first, .int .i64 f.thn, .bool f.dbl]
abbrev Pr := Int × Int
abbrev pv (p : Pr) : Value := .agg #[.int .i64 p.1, .int .i64 p.2]
def tieB (f : Fmt) (n : Int) : Bool := decide (n = -1) || decide (n = 0) || decide (n = f.games - 1) || decide (n = f.games)
def fmtOk (f : Fmt) : Bool := wi f.sets 1 3 && wi f.games 1 8 && tieB f f.tie && tieB f f.ltie && wi f.to 1 15 && wi f.lto 1 15 && wi f.first 0 20 && wi f.thn 0 20
def chkF (f : Fmt) : Int := bif fmtOk f then 0 else 10
structure Fmt.Ok (f : Fmt) : Prop where
  s0 : 1 ≤ f.sets
  s1 : f.sets ≤ 3
  g0 : 1 ≤ f.games
  g1 : f.games ≤ 8
  t : f.tie = -1 ∨ f.tie = 0 ∨ f.tie = f.games - 1 ∨ f.tie = f.games
  lt : f.ltie = -1 ∨ f.ltie = 0 ∨ f.ltie = f.games - 1 ∨ f.ltie = f.games
  o0 : 1 ≤ f.to
  o1 : f.to ≤ 15
  l0 : 1 ≤ f.lto
  l1 : f.lto ≤ 15
  f0 : 0 ≤ f.first
  f1 : f.first ≤ 20
  n0 : 0 ≤ f.thn
  n1 : f.thn ≤ 20
theorem fmt_ok {f : Fmt} (h : fmtOk f = true) : f.Ok := by
  simp only [fmtOk, tieB, Bool.and_eq_true, Bool.or_eq_true, wi_iff, decide_eq_true_eq] at h
  constructor <;> omega
/-- A pair that is far from the bounds. -/
def Sm (p : Pr) : Prop := (-1000000 ≤ p.1 ∧ p.1 ≤ 1000000) ∧ -1000000 ≤ p.2 ∧ p.2 ≤ 1000000
def leadsV (p : Pr) (l b : Int) : Int := bif decide (l ≤ p.1) && decide (b ≤ p.1 - p.2) then 0 else bif decide (l ≤ p.2) && decide (b ≤ p.2 - p.1) then 1 else -1
def setV (f : Fmt) (won : Pr) : Pr := bif decide (won.1 = f.sets - 1) && decide (won.2 = f.sets - 1) then (f.ltie, f.lto) else (f.tie, f.to)
def brksV (s g : Pr) : Bool := decide (g.1 = s.1) && decide (g.2 = s.1)
def addV (p : Pr) (side : Int) : Pr := bif decide (side = 0) then (p.1 + 1, p.2) else (p.1, p.2 + 1)
def gameV (f : Fmt) (s : Pr) (tie : Bool) (p : Pr) : Int := bif tie then leadsV p s.2 2 else bif f.noAd then leadsV p 4 1 else leadsV p 4 2
def dueV (f : Fmt) (n : Int) : Bool := decide (0 < f.first) && (decide (n - f.first = 0) || decide (0 < n - f.first) && decide (0 < f.thn) && decide ((n - f.first) % f.thn = 0))
theorem leadsV_rng (p : Pr) (l b : Int) : -1 ≤ leadsV p l b ∧ leadsV p l b ≤ 1 := by
  unfold leadsV
  cases decide (l ≤ p.1) && decide (b ≤ p.1 - p.2)
  · cases decide (l ≤ p.2) && decide (b ≤ p.2 - p.1) <;> simp
  · simp
end Go.Proofs.Ytacaojifempclaa
