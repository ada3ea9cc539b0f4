/- The arguments of the laws on scores, opened. -/
import Derived.Test.YtacaojifempclaaS7
namespace Go.Proofs.Ytacaojifempclaa
open Go Go.RowKit

abbrev fmtSp : List Sp := [.int .i64, .int .i64, .bool, .int .i64, .int .i64, .int .i64, .int .i64, .int .i64, .int .i64, .bool]
abbrev i2 : List Sp := [.int .i64, .int .i64]
theorem i2_open {w : World} {cs : List Value} (h : Mts w i2 cs) : ∃ p : Pr, cs = [.int .i64 p.1, .int .i64 p.2] := by
  obtain ⟨a, cs, rfl, _, h⟩ := Mts.int_inv h
  obtain ⟨b, cs, rfl, _, h⟩ := h.int_inv
  rw [h.nil_inv]
  exact ⟨(a, b), rfl⟩
theorem format_open {w : World} {cs : List Value} (h : Mts w fmtSp cs) : ∃ f : Fmt, Value.agg cs.toArray = f.val := by
  obtain ⟨a1, cs, rfl, _, h⟩ := Mts.int_inv h
  obtain ⟨a2, cs, rfl, _, h⟩ := h.int_inv
  obtain ⟨a3, cs, rfl, h3⟩ := h.bool_inv
  obtain ⟨a4, cs, rfl, _, h⟩ := h3.int_inv
  obtain ⟨a5, cs, rfl, _, h⟩ := h.int_inv
  obtain ⟨a6, cs, rfl, _, h⟩ := h.int_inv
  obtain ⟨a7, cs, rfl, _, h⟩ := h.int_inv
  obtain ⟨a8, cs, rfl, _, h⟩ := h.int_inv
  obtain ⟨a9, cs, rfl, _, h⟩ := h.int_inv
  obtain ⟨a10, cs, rfl, h10⟩ := h.bool_inv
  rw [h10.nil_inv]
  exact ⟨⟨a1, a2, a3, a4, a5, a6, a7, a8, a9, a10⟩, rfl⟩
theorem pairs_open {w : World} {v : Value} (h : Mts w [.sl i2] [v]) : ∃ (l : List Pr) (A : Option Addr) (n c : Nat), v = .slice A n c ∧ Rd w A 2 n (encP l) ∧ n ≤ c ∧ c ≤ 9223372036854775807 := by
  obtain ⟨A, n, c, xs, cs, e, hr, hn, hx, _⟩ := h.sl_invc
  obtain ⟨ys, rfl⟩ := map_of (f := fun p : Pr => [.int .i64 p.1, .int .i64 p.2]) (xs := xs) fun x hxm => i2_open (hx x hxm)
  exact ⟨ys, A, n, c, by injection e, hr, hn⟩
theorem points_open {w : World} {cs : List Value} (h : Mts w [.int .i64, .sl [.int .i64]] cs) : ∃ (x : Int) (l : List Int) (A : Option Addr) (n c : Nat), Value.agg cs.toArray = .agg #[.int .i64 x, .slice A n c] ∧ Rd w A 1 n (encI l) ∧ n ≤ c ∧ c ≤ 9223372036854775807 := by
  obtain ⟨x, cs, rfl, _, h⟩ := Mts.int_inv h
  obtain ⟨A, n, c, xs, cs, rfl, hr, hn, hx, h⟩ := h.sl_invc
  rw [h.nil_inv]
  obtain ⟨ys, rfl⟩ := map_of (f := fun x : Int => [.int .i64 x]) (xs := xs) fun x hxm => by
    obtain ⟨a, cs, rfl, _, h⟩ := (hx x hxm).int_inv
    rw [h.nil_inv]
    exact ⟨a, rfl⟩
  exact ⟨x, ys, A, n, c, rfl, hr, hn⟩
theorem board_open {w : World} {cs : List Value} (h : Mts w [.sl i2, .int .i64, .int .i64, .int .i64, .int .i64] cs) : ∃ (b : Brd) (A : Option Addr) (n c : Nat), Value.agg cs.toArray = b.val A n c ∧ Rd w A 2 n (encP b.st) ∧ n ≤ c ∧ c ≤ 9223372036854775807 := by
  obtain ⟨A, n, c, xs, cs, rfl, hr, hn, hx, h⟩ := Mts.sl_invc h
  obtain ⟨a1, cs, rfl, _, h⟩ := h.int_inv
  obtain ⟨a2, cs, rfl, _, h⟩ := h.int_inv
  obtain ⟨a3, cs, rfl, _, h⟩ := h.int_inv
  obtain ⟨a4, cs, rfl, _, h⟩ := h.int_inv
  rw [h.nil_inv]
  obtain ⟨ys, rfl⟩ := map_of (f := fun p : Pr => [.int .i64 p.1, .int .i64 p.2]) (xs := xs) fun x hxm => i2_open (hx x hxm)
  exact ⟨⟨ys, (a1, a2), (a3, a4)⟩, A, n, c, rfl, hr, hn⟩
end Go.Proofs.Ytacaojifempclaa
