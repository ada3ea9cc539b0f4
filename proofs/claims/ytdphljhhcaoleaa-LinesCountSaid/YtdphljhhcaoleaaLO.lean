/- The arguments of the laws on lines, opened. -/
import Derived.Test.YtdphljhhcaoleaaWA
import Derived.Test.YtdphljhhcaoleaaLM
namespace Go.Proofs.Ytdphljhhcaoleaa
open Go Go.RowKit

abbrev i4 : List Sp := [.int .i64, .int .i64, .int .i64, .int .i64]
abbrev viewSp : List Sp := [.int .i64, .sl i4, .int .i64, .int .i64, .int .i64, .int .i64, .int .i64]
theorem i4_open {w : World} {cs : List Value} (h : Mts w i4 cs) : ∃ a b c d : Int, cs = [.int .i64 a, .int .i64 b, .int .i64 c, .int .i64 d] := by
  obtain ⟨a, cs, rfl, _, h⟩ := h.int_inv
  obtain ⟨b, cs, rfl, _, h⟩ := h.int_inv
  obtain ⟨c, cs, rfl, _, h⟩ := h.int_inv
  obtain ⟨d, cs, rfl, _, h⟩ := h.int_inv
  rw [h.nil_inv]
  exact ⟨_, _, _, _, rfl⟩
theorem box_open {w : World} {cs : List Value} (h : Mts w i4 cs) : ∃ b : Box, Value.agg cs.toArray = b.val := by
  obtain ⟨a, b, c, d, rfl⟩ := i4_open h
  exact ⟨⟨a, b, c, d⟩, rfl⟩
theorem mark_open {w : World} {cs : List Value} (h : Mts w i4 cs) : ∃ b : Mark, Value.agg cs.toArray = b.val := by
  obtain ⟨a, b, c, d, rfl⟩ := i4_open h
  exact ⟨⟨a, b, c, d⟩, rfl⟩
theorem view_cells {w : World} {ss : List Sp} {cs : List Value} (h : Mts w (viewSp ++ ss) cs) : ∃ (v : View) (A : Option Addr) (n c : Nat) (cs' : List Value), cs = v.cells A n c ++ cs' ∧ Rd w A 4 n v.enc ∧ n ≤ 9223372036854775807 ∧ Mts w ss cs' := by
  obtain ⟨size, cs, rfl, _, h⟩ := Mts.int_inv h
  obtain ⟨A, n, c, xs, cs, rfl, hr, hn, hx, h⟩ := h.sl_inv
  obtain ⟨wr, cs, rfl, _, h⟩ := h.int_inv
  obtain ⟨hxl, cs, rfl, _, h⟩ := h.int_inv
  obtain ⟨hxh, cs, rfl, _, h⟩ := h.int_inv
  obtain ⟨hyl, cs, rfl, _, h⟩ := h.int_inv
  obtain ⟨hyh, cs, rfl, _, h⟩ := h.int_inv
  obtain ⟨ys, rfl⟩ := map_of (f := Strip.enc) (xs := xs) fun x hxm => by
    obtain ⟨a, b, c, d, rfl⟩ := i4_open (hx x hxm)
    exact ⟨⟨a, b, c, d⟩, rfl⟩
  exact ⟨⟨size, ys, wr, hxl, hxh, hyl, hyh⟩, A, n, c, cs, rfl, hr, hn, h⟩
theorem view_open {w : World} {cs : List Value} (h : Mts w viewSp cs) : ∃ (v : View) (A : Option Addr) (n c : Nat), Value.agg cs.toArray = v.val A n c ∧ Rd w A 4 n v.enc ∧ n ≤ 9223372036854775807 := by
  obtain ⟨v, A, n, c, cs', rfl, hr, hn, h⟩ := view_cells (ss := []) (by simpa using h)
  rw [h.nil_inv]
  exact ⟨v, A, n, c, rfl, hr, hn⟩
end Go.Proofs.Ytdphljhhcaoleaa
