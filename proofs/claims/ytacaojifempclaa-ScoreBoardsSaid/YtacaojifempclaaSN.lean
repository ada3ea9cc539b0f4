/- The plain model of score: where a match is. -/
import Derived.Test.YtacaojifempclaaS1
namespace Go.Proofs.Ytacaojifempclaa
open Go Go.RowKit

structure Gm where
  (set : Int) (tie : Bool) (server winner : Int) (pts : Pr) (fresh : Bool)
abbrev Gm.enc (g : Gm) : List Value := [.int .i64 g.set, .bool g.tie, .int .i64 g.server, .int .i64 g.winner, .int .i64 g.pts.1, .int .i64 g.pts.2, .bool g.fresh]
def encP (ps : List Pr) : List (List Value) := ps.map fun p => [.int .i64 p.1, .int .i64 p.2]
def encB (bs : List Bool) : List (List Value) := bs.map fun b => [.bool b]
def encG (gs : List Gm) : List (List Value) := gs.map Gm.enc
def encI (xs : List Int) : List (List Value) := xs.map fun x => [.int .i64 x]
theorem encP_app (ps : List Pr) (p : Pr) : encP ps ++ [[.int .i64 p.1, .int .i64 p.2]] = encP (ps ++ [p]) := by simp [encP]
theorem encB_app (bs : List Bool) (b : Bool) : encB bs ++ [[.bool b]] = encB (bs ++ [b]) := by simp [encB]
theorem encG_app (gs : List Gm) (g : Gm) : encG gs ++ [g.enc] = encG (gs ++ [g]) := by simp [encG]
theorem encI_len (xs : List Int) : (encI xs).length = xs.length := by simp [encI]
theorem encI_at {xs : List Int} {k : Nat} {x : Int} (h : xs[k]? = some x) : (encI xs)[k]? = some [.int .i64 x] := by simp [encI, h]
theorem encP_at {xs : List Pr} {k : Nat} {x : Pr} (h : xs[k]? = some x) : (encP xs)[k]? = some [.int .i64 x.1, .int .i64 x.2] := by simp [encP, h]
def tieI (l : List Bool) (i : Int) : Bool := l.getD i.toNat false
theorem encB_at {l : List Bool} {i : Int} (h : 0 ≤ i ∧ i < l.length) : (encB l)[i.toNat]? = some [.bool (tieI l i)] := by
  have hi : i.toNat < l.length := by omega
  simp [encB, tieI, List.getElem?_eq_getElem hi, List.getD_eq_getElem?_getD]
structure MS where
  (f : Fmt) (first : Int) (st : List Pr) (g p won : Pr) (server ends balls winner : Int) (ties : List Bool) (gs : List Gm)
structure MA where
  (sA tA gA : Option Addr) (sc tc gc : Nat)
abbrev MS.cells (m : MS) (a : MA) : List Value := [.int .i64 m.f.sets, .int .i64 m.f.games, .bool m.f.noAd, .int .i64 m.f.tie, .int .i64 m.f.to, .int .i64 m.f.ltie, .int .i64 m.f.lto, .int .i64 m.f.first, .int .i64 m.f.thn, .bool m.f.dbl,
  .slice a.sA m.st.length a.sc, .int .i64 m.g.1, .int .i64 m.g.2, .int .i64 m.p.1, .int .i64 m.p.2, .int .i64 m.server, .int .i64 m.ends, .int .i64 m.balls, .int .i64 m.winner, .int .i64 m.first, .int .i64 m.won.1, .int .i64 m.won.2, .slice a.tA m.ties.length a.tc, .slice a.gA m.gs.length a.gc]
abbrev MS.blk (m : MS) (a : MA) (b : Nat) : Ent := .blk b 131 (m.cells a)
abbrev MS.tiesE (m : MS) (a : MA) : Ent := .own a.tA a.tc 4 1 m.ties.length (encB m.ties)
abbrev MS.ents (m : MS) (a : MA) (b : Nat) : List Ent := [m.blk a b, .own a.sA a.sc 26 2 m.st.length (encP m.st), m.tiesE a, .own a.gA a.gc 188 7 m.gs.length (encG m.gs)]
def freshV (f : Fmt) (ties : List Bool) : Bool := !tieI ties ((ties.length : Int) - 1) && dueV f ((ties.length : Int) - 1) || decide (2 ≤ (ties.length : Int) - 1) && tieI ties ((ties.length : Int) - 1 - 2) && dueV f ((ties.length : Int) - 1 - 2)
def turnV (ties : List Bool) (pt : Int) : Int := bif tieI ties ((ties.length : Int) - 1) then (pt + 1) / 2 else 0
def servesV (f : Fmt) (first : Int) (ties : List Bool) (pt : Int) : Int :=
  bif !f.dbl then (first + ((ties.length : Int) - 1) + turnV ties pt) % 2 else
    (first + ((ties.length : Int) - 1) + turnV ties pt) % 2 + 2 * ((((ties.length : Int) - 1 + turnV ties pt % 2) / 2 + turnV ties pt / 2) % 2)
def tiesV (m : MS) : List Bool := m.ties ++ [brksV (setV m.f m.won) m.g]
def nextV (m : MS) : MS := bif decide (0 ≤ m.winner) then { m with server := -1 } else
  { m with ties := tiesV m, balls := bif freshV m.f (tiesV m) then m.balls + 1 else m.balls, server := servesV m.f m.first (tiesV m) 0 }
def begin0 (f : Fmt) (first : Int) : MS := ⟨f, first, [], (0, 0), (0, 0), (0, 0), 0, 0, 0, -1, [], []⟩
def beginV (f : Fmt) (first : Int) : MS := nextV (begin0 f first)
def MS.tie (m : MS) : Bool := tieI m.ties ((m.ties.length : Int) - 1)
def MS.w (m : MS) (side : Int) : Int := gameV m.f (setV m.f m.won) m.tie (addV m.p side)
/-- A point that does not end its game. -/
def pointN (m : MS) (side : Int) : MS :=
  { m with p := addV m.p side, ends := bif m.tie && decide (((addV m.p side).1 + (addV m.p side).2) % 6 = 0) then m.ends + 1 else m.ends, server := servesV m.f m.first m.ties ((addV m.p side).1 + (addV m.p side).2) }
def gameG (m : MS) (side : Int) : Gm := ⟨m.st.length, m.tie, servesV m.f m.first m.ties 0, m.w side, addV m.p side, freshV m.f m.ties⟩
def setEnds (m : MS) (w : Int) : Bool := m.tie || decide (0 ≤ leadsV (addV m.g w) m.f.games 2)
/-- A point that ends its game, before the next game is begun and ends are changed. -/
def pointG (m : MS) (side : Int) : MS :=
  bif setEnds m (m.w side) then
    { m with gs := m.gs ++ [gameG m side], p := (0, 0), st := m.st ++ [addV m.g (m.w side)], g := (0, 0), won := addV m.won (m.w side), winner := bif decide (max (addV m.won (m.w side)).1 (addV m.won (m.w side)).2 = m.f.sets) then m.w side else m.winner }
  else { m with gs := m.gs ++ [gameG m side], p := (0, 0), g := addV m.g (m.w side) }
def pointE (m : MS) (side : Int) : MS :=
  { pointG m side with ends := bif decide (((addV m.g (m.w side)).1 + (addV m.g (m.w side)).2) % 2 = 1) && decide ((pointG m side).winner < 0) then m.ends + 1 else m.ends }
def pointV (m : MS) (side : Int) : MS := bif decide (m.w side < 0) then pointN m side else nextV (pointE m side)
/-- Numbers are small: K points were played. -/
structure MS.Bd (m : MS) (K : Int) : Prop where
  f : m.f.Ok
  fst : m.first = 0 ∨ m.first = 1
  k : 0 ≤ K ∧ K ≤ 1000
  t1 : 1 ≤ (m.ties.length : Int)
  t2 : (m.ties.length : Int) ≤ K + 1
  g : (0 ≤ m.g.1 ∧ m.g.1 ≤ K) ∧ 0 ≤ m.g.2 ∧ m.g.2 ≤ K
  p : (0 ≤ m.p.1 ∧ m.p.1 ≤ K) ∧ 0 ≤ m.p.2 ∧ m.p.2 ≤ K
  won : (0 ≤ m.won.1 ∧ m.won.1 ≤ K) ∧ 0 ≤ m.won.2 ∧ m.won.2 ≤ K
  e : 0 ≤ m.ends ∧ m.ends ≤ K
  b : 0 ≤ m.balls ∧ m.balls ≤ K + 1
  s : (m.st.length : Int) ≤ K
  gs : (m.gs.length : Int) ≤ K
end Go.Proofs.Ytacaojifempclaa
