/- The plain model of draws: plans, sheets as numbers of persons, and all draws that obey. -/
import Derived.Test.YtjkoaifjmcgpfaaWN
import Derived.Test.YtjkoaifjmcgpfaaWM
import Derived.Test.YtjkoaifjmcgpfaaWI
import Derived.Test.YtjkoaifjmcgpfaaTA
namespace Go.Proofs.Ytjkoaifjmcgpfaa
open Go Go.RowKit

def win (n lo hi : Int) : Bool := decide (lo ≤ n) && decide (n ≤ hi)
theorem win_iff {n lo hi : Int} : win n lo hi = true ↔ lo ≤ n ∧ n ≤ hi := by simp [win]
structure Ps where
  (player nation : Int) (qual : Bool)
abbrev Ps.enc (x : Ps) : List Value := [.int .i64 x.player, .int .i64 x.nation, .bool x.qual]
abbrev Ps.val (x : Ps) : Value := .agg #[.int .i64 x.player, .int .i64 x.nation, .bool x.qual]
def encPs (ps : List Ps) : List (List Value) := ps.map Ps.enc
theorem encPs_len (ps : List Ps) : (encPs ps).length = ps.length := by simp [encPs]
theorem encPs_at {ps : List Ps} {k : Nat} {x : Ps} (h : ps[k]? = some x) : (encPs ps)[k]? = some x.enc := by simp [encPs, h]
structure Pl where
  (size seeds : Int) (ps : List Ps) (lots : List Int)
structure PA where
  (pA lA : Option Addr) (pc lc : Nat)
abbrev Pl.cells (p : Pl) (a : PA) : List Value := [.int .i64 p.size, .int .i64 p.seeds, .slice a.pA p.ps.length a.pc, .slice a.lA p.lots.length a.lc]
abbrev Pl.val (p : Pl) (a : PA) : Value := .agg #[.int .i64 p.size, .int .i64 p.seeds, .slice a.pA p.ps.length a.pc, .slice a.lA p.lots.length a.lc]
/-- A plan that reads. -/
structure PRd (w : World) (p : Pl) (a : PA) : Prop where
  r : Rd w a.pA 3 p.ps.length (encPs p.ps)
  l : Rd w a.lA 1 p.lots.length (enI p.lots)
  pn : p.ps.length ≤ 9223372036854775807
  ln : p.lots.length ≤ 9223372036854775807
  pc : p.ps.length ≤ a.pc
def headOk (p : Pl) : Bool := (decide (p.size = 4) || decide (p.size = 8)) && win p.ps.length 2 p.size && decide (p.size - p.ps.length ≤ p.size / 2) && win p.seeds 0 (min (p.size / 2) p.ps.length) && decide ((p.lots.length : Int) ≤ 10)
def psOk (seeds : Int) (i : Nat) (x : Ps) : Bool := win x.player 0 999 && win x.nation 0 9 && !(decide ((i : Int) < seeds) && x.qual)
def dupP (ps : List Ps) (k : Nat) (n : Int) : Bool := (ps.take k).any fun x => decide (x.player = n)
def pssOk (seeds : Int) (ps : List Ps) : Nat → Bool
  | 0 => true
  | k + 1 => pssOk seeds ps k && (match ps[k]? with | some x => !dupP ps k x.player && psOk seeds k x | none => true)
def lotOk (n : Int) : Bool := win n 0 999999
def pOk (p : Pl) : Bool := headOk p && pssOk p.seeds p.ps p.ps.length && p.lots.all lotOk
def chkP (p : Pl) : Int := bif pOk p then 0 else 60
theorem pssOk_succ {seeds : Int} {ps : List Ps} {k : Nat} {x : Ps} (h : ps[k]? = some x) : pssOk seeds ps (k + 1) = (pssOk seeds ps k && (!dupP ps k x.player && psOk seeds k x)) := by rw [pssOk, h]
theorem pssOk_le {seeds : Int} {ps : List Ps} {j : Nat} (h : pssOk seeds ps j = false) : ∀ {k : Nat}, j ≤ k → pssOk seeds ps k = false
  | 0, hk => by obtain rfl : j = 0 := by omega
                exact h
  | k + 1, hk => by
    by_cases e : j = k + 1
    · subst e; exact h
    · rw [pssOk, pssOk_le h (k := k) (by omega)]; rfl
theorem dupP_succ {ps : List Ps} {k : Nat} {x : Ps} (h : ps[k]? = some x) (n : Int) : dupP ps (k + 1) n = (dupP ps k n || decide (x.player = n)) := by
  unfold dupP
  rw [List.take_add_one, h]
  simp
theorem dupP_le {ps : List Ps} {n : Int} {j k : Nat} (h : dupP ps j n = true) (hk : j ≤ k) : dupP ps k n = true := by
  unfold dupP at h ⊢
  obtain ⟨x, hx, he⟩ := List.any_eq_true.1 h
  exact List.any_eq_true.2 ⟨x, (List.take_subset_take_left (l := ps) hk) hx, he⟩
/-- A valid plan. -/
structure Pl.Ok (p : Pl) : Prop where
  z : p.size = 4 ∨ p.size = 8
  n : 2 ≤ p.ps.length ∧ (p.ps.length : Int) ≤ p.size ∧ p.size - p.ps.length ≤ p.size / 2
  s : 0 ≤ p.seeds ∧ p.seeds ≤ p.size / 2 ∧ p.seeds ≤ p.ps.length
  l : p.lots.length ≤ 10
  pr : ∀ (i : Nat) (x : Ps), p.ps[i]? = some x → (0 ≤ x.player ∧ x.player ≤ 999) ∧ (0 ≤ x.nation ∧ x.nation ≤ 9) ∧ ((i : Int) < p.seeds → x.qual = false)
  nd : ∀ (i j : Nat) (x y : Ps), i < j → p.ps[i]? = some x → p.ps[j]? = some y → x.player ≠ y.player
  lt : ∀ n ∈ p.lots, 0 ≤ n ∧ n ≤ 999999
theorem pssOk_all {seeds : Int} {ps : List Ps} : ∀ {k : Nat}, pssOk seeds ps k = true → (∀ (i : Nat) (x : Ps), i < k → ps[i]? = some x → psOk seeds i x = true ∧ dupP ps i x.player = false)
  | 0, _, i, _, hi, _ => by omega
  | k + 1, h, i, x, hi, hx => by
    rw [pssOk, Bool.and_eq_true] at h
    by_cases e : i = k
    · subst e
      have h2 := h.2
      rw [hx] at h2
      simp only [Bool.and_eq_true, Bool.not_eq_true'] at h2
      exact ⟨h2.2, h2.1⟩
    · exact pssOk_all h.1 i x (by omega) hx
theorem p_ok {p : Pl} (h : pOk p = true) : p.Ok := by
  simp only [pOk, headOk, Bool.and_eq_true, Bool.or_eq_true, decide_eq_true_eq, win_iff] at h
  obtain ⟨⟨⟨⟨⟨⟨h1, h2⟩, h3⟩, h4⟩, h5⟩, h6⟩, h7⟩ := h
  have hall := pssOk_all h6
  refine ⟨h1, by omega, by omega, by omega, fun i x hx => ?_, fun i j x y hij hx hy he => ?_, fun n hn => ?_⟩
  · have := (hall i x (List.getElem?_eq_some_iff.1 hx).1 hx).1
    simp only [psOk, Bool.and_eq_true, win_iff, Bool.not_eq_true', Bool.and_eq_false_iff, decide_eq_false_iff_not] at this
    refine ⟨this.1.1, this.1.2, fun hi => ?_⟩
    rcases this.2 with h | h
    · exact absurd hi h
    · exact h
  · have := (hall j y (List.getElem?_eq_some_iff.1 hy).1 hy).2
    unfold dupP at this
    rw [List.any_eq_false] at this
    have hm : x ∈ p.ps.take j := by
      have : (p.ps.take j)[i]? = some x := by rw [List.getElem?_take]; simp [hij, hx]
      exact List.mem_of_getElem? this
    exact this x hm (by simp [he])
  · have := List.all_eq_true.1 h7 n hn
    simpa [lotOk, win_iff] using this
theorem chkP_ok {p : Pl} (h : (!decide (chkP p = 0)) = false) : p.Ok ∧ pOk p = true := by
  cases hb : pOk p
  · simp [chkP, hb] at h
  · exact ⟨p_ok hb, rfl⟩
theorem chkP_no {p : Pl} (h : (!decide (chkP p = 0)) = true) : pOk p = false := by
  cases hb : pOk p
  · rfl
  · simp [chkP, hb] at h
/-! #### what obeys -/
def psAt (p : Pl) (n : Int) : Ps := (p.ps[n.toNat]?).getD ⟨0, 0, false⟩
def apartV (p : Pl) (a b : Int) : Bool :=
  bif decide (a = -1) || decide (b = -1) then !decide (a = b)
  else (!decide ((psAt p a).nation = (psAt p b).nation) || decide ((psAt p a).nation = 0)) && !((psAt p a).qual && (psAt p b).qual)
def seatV (p : Pl) (slot n : Int) : Bool :=
  bif decide (slot = 0) && decide (0 < p.seeds) then decide (n = 0)
  else bif decide (slot = p.size - 1) && decide (1 < p.seeds) then decide (n = 1)
  else bif decide (n = -1) || decide (p.seeds ≤ n) then true
  else decide (1 < n) && [p.size / 4, p.size - 1 - p.size / 4].any fun x => decide (slot = x)
def byesV (p : Pl) : Int := p.size - p.ps.length
def byeV (p : Pl) (n other : Int) : Bool := decide (n = -1) || decide (p.seeds ≤ n) || (decide (other = -1) == decide (n < byesV p))
def matchV (p : Pl) (a b : Int) : Bool :=
  bif decide (byesV p ≤ p.seeds) && ((decide (a = -1) && decide (p.seeds ≤ b)) || (decide (b = -1) && decide (p.seeds ≤ a))) then false
  else apartV p a b && byeV p a b && byeV p b a
def hasV (l : List Int) (n : Int) : Bool := l.any fun x => decide (n = x)
def lastV (l : List Int) : Int := (l.getLast?).getD 0
def leftB (byes n : Int) : Int := bif decide (n = -1) then byes - 1 else byes
def skipV (p : Pl) (l : List Int) (byes n : Int) : Bool :=
  decide (leftB byes n < 0) || (!decide (n = -1) && hasV l n) || !seatV p l.length n || (decide ((l.length : Int) % 2 = 1) && !matchV p (lastV l) n)
/-- All draws from some first slots on. -/
def moreV (p : Pl) (rk : List Int) : Nat → List Int → Int → List (List Int)
  | 0, l, _ => [l]
  | f + 1, l, byes => rk.flatMap fun n => bif skipV p l byes n then [] else moreV p rk f (l ++ [n]) (leftB byes n)
end Go.Proofs.Ytjkoaifjmcgpfaa
