/- Arguments of the laws on appeals, opened; appeals whose strips lie elsewhere. -/
import Derived.Test.YtdphljhhcaoleaaLO
import Derived.Test.YtdphljhhcaoleaaLU
namespace Go.Proofs.Ytdphljhhcaoleaa
open Go Go.RowKit

abbrev ruleSp : List Sp := [.int .i64, .int .i64]
abbrev appealSp : List Sp := [.int .i64, .int .i64, .int .i64, .int .i64, .sl i4, .int .i64, .int .i64, .int .i64, .int .i64, .int .i64, .int .i64, .int .i64, .int .i64, .int .i64]
theorem rule_open {w : World} {cs : List Value} (h : Mts w ruleSp cs) : ∃ p : Int × Int, Value.agg cs.toArray = .agg #[.int .i64 p.1, .int .i64 p.2] := by
  obtain ⟨a, cs, rfl, _, h⟩ := Mts.int_inv h
  obtain ⟨b, cs, rfl, _, h⟩ := h.int_inv
  rw [h.nil_inv]
  exact ⟨(a, b), rfl⟩
theorem map_ofP {α : Type} {f : α → List Value} {p : α → Prop} : ∀ {xs : List (List Value)}, (∀ x ∈ xs, ∃ a, x = f a ∧ p a) → ∃ ys : List α, xs = ys.map f ∧ ∀ y ∈ ys, p y
  | [], _ => ⟨[], rfl, fun y hy => by cases hy⟩
  | x :: xs, h => by
    obtain ⟨a, rfl, ha⟩ := h x (by simp)
    obtain ⟨ys, rfl, hy⟩ := map_ofP (xs := xs) fun y hy => h y (by simp [hy])
    exact ⟨a :: ys, rfl, fun y hm => by
      rcases List.mem_cons.1 hm with rfl | hm
      · exact ha
      · exact hy y hm⟩
theorem appeal_cells {w : World} {cs : List Value} (h : Mts w appealSp cs) : ∃ a : Appeal, cs = a.enc ∧ a.ok w := by
  obtain ⟨kind, cs, rfl, _, h⟩ := Mts.int_inv h
  obtain ⟨side, cs, rfl, _, h⟩ := h.int_inv
  obtain ⟨said, cs, rfl, _, h⟩ := h.int_inv
  obtain ⟨v, A, n, c, cs, rfl, hr, hn, h⟩ := view_cells (ss := i4) h
  obtain ⟨l, r, b, t, rfl⟩ := i4_open h
  exact ⟨⟨kind, side, said, v, A, n, c, ⟨l, r, b, t⟩⟩, rfl, hr, hn⟩
theorem appeals_open {w : World} {v : Value} (h : Mts w [.sl appealSp] [v]) : ∃ (aps : List Appeal) (A : Option Addr) (n c : Nat), v = .slice A n c ∧ Rd w A 14 n (aps.map Appeal.enc) ∧ n ≤ 9223372036854775807 ∧ ∀ a ∈ aps, a.ok w := by
  obtain ⟨A, n, c, xs, cs, e, hr, hn, hx, _⟩ := h.sl_inv
  obtain ⟨ys, rfl, hy⟩ := map_ofP (f := Appeal.enc) (p := fun a => a.ok w) (xs := xs) fun x hxm => appeal_cells (hx x hxm)
  refine ⟨ys, A, n, c, by injection e, hr, hn, hy⟩

/-- An appeal, wherever its strips lie. -/
def Appeal.core (a : Appeal) : Appeal := { a with A := none, n := 0, c := 0 }
theorem runTo_core (each more : Int) (aps : List Appeal) : ∀ k, runTo each more (aps.map Appeal.core) k = runTo each more aps k
  | 0 => rfl
  | k + 1 => by
    rw [runTo, runTo, runTo_core each more aps k, List.getElem?_map]
    cases runTo each more aps k with
    | none => rfl
    | some s => cases aps[k]? <;> rfl
theorem runV_core {each more : Int} {aps bs : List Appeal} (h : bs.map Appeal.core = aps.map Appeal.core) : runV each more bs = runV each more aps := by
  have hl : bs.length = aps.length := by simpa using congrArg List.length h
  unfold runV
  rw [hl, ← runTo_core each more bs, ← runTo_core each more aps, h]
def Appeal.row (a : Appeal) : Row := ⟨a.A, 4, a.n, a.v.enc⟩
theorem runD_len {each more : Int} {aps : List Appeal} : (runD (runV each more aps)).length ≤ aps.length := by
  unfold runV
  cases hb : ruleBad each more aps.length
  · obtain ⟨he, hm, _⟩ := ruleBad_out hb
    simp only [cond_false]
    cases hr : runTo each more aps aps.length with
    | none => simp [runD]
    | some s => exact (runTo_bnd he hm hr).2.2
  · simp [runD]
/-- A round's state: the copies so far. -/
structure CZ where
  (k : Nat) (bs : List Appeal) (A : Option Addr) (c : Nat)
end Go.Proofs.Ytdphljhhcaoleaa
