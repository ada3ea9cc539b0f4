/- The arguments of the laws on gates, opened. -/
import Derived.Test.YtbcclgfobiholaaGB
namespace Go.Proofs.Ytbcclgfobiholaa
open Go Go.RowKit

abbrev g4 : List Sp := [.int .i64, .int .i64, .int .i64, .int .i64]
abbrev g2 : List Sp := [.int .i64, .int .i64]
abbrev queueSp : List Sp := [.int .i64, .int .i64, .int .i64, .int .i64, .sl g4, .sl g2]
abbrev termsSp : List Sp := [.int .i64, .int .i64, .sl [.int .i64]]
theorem g4_open {w : World} {cs : List Value} (h : Mts w g4 cs) : ∃ a b c d : Int, cs = [.int .i64 a, .int .i64 b, .int .i64 c, .int .i64 d] := by
  obtain ⟨a, cs, rfl, _, h⟩ := Mts.int_inv h
  obtain ⟨b, cs, rfl, _, h⟩ := h.int_inv
  obtain ⟨c, cs, rfl, _, h⟩ := h.int_inv
  obtain ⟨d, cs, rfl, _, h⟩ := h.int_inv
  rw [h.nil_inv]
  exact ⟨a, b, c, d, rfl⟩
theorem g2_open {w : World} {cs : List Value} (h : Mts w g2 cs) : ∃ p : Fe, cs = [.int .i64 p.1, .int .i64 p.2] := by
  obtain ⟨a, cs, rfl, _, h⟩ := Mts.int_inv h
  obtain ⟨b, cs, rfl, _, h⟩ := h.int_inv
  rw [h.nil_inv]
  exact ⟨(a, b), rfl⟩
theorem span_open {w : World} {cs : List Value} (h : Mts w g2 cs) : ∃ p : Int × Int, Value.agg cs.toArray = .agg #[.int .i64 p.1, .int .i64 p.2] := by
  obtain ⟨p, rfl⟩ := g2_open h
  exact ⟨p, rfl⟩
structure Ask where
  (rate minute id : Int)
abbrev Ask.val (x : Ask) : Value := .agg #[.int .i64 x.rate, .int .i64 x.minute, .int .i64 x.id]
theorem asked_open {w : World} {cs : List Value} (h : Mts w [.int .i64, .int .i64, .int .i64] cs) : ∃ x : Ask, Value.agg cs.toArray = x.val := by
  obtain ⟨a, cs, rfl, _, h⟩ := Mts.int_inv h
  obtain ⟨b, cs, rfl, _, h⟩ := h.int_inv
  obtain ⟨c, cs, rfl, _, h⟩ := h.int_inv
  rw [h.nil_inv]
  exact ⟨⟨a, b, c⟩, rfl⟩
theorem tickets_open {w : World} {v : Value} (h : Mts w [.sl g4] [v]) : ∃ (l : List Tkt) (A : Option Addr) (n c : Nat), v = .slice A n c ∧ Rd w A 4 n (encTk l) ∧ n ≤ c ∧ c ≤ 9223372036854775807 := by
  obtain ⟨A, n, c, xs, cs, e, hr, hn, hx, _⟩ := h.sl_invc
  obtain ⟨ys, rfl⟩ := map_of (f := Tkt.enc) (xs := xs) fun x hxm => by
    obtain ⟨a, b, c, d, rfl⟩ := g4_open (hx x hxm)
    exact ⟨⟨a, b, c, d⟩, rfl⟩
  exact ⟨ys, A, n, c, by injection e, hr, hn⟩
theorem terms_open {w : World} {cs : List Value} (h : Mts w termsSp cs) : ∃ (x : Tm) (A : Option Addr) (c : Nat), Value.agg cs.toArray = x.val A c ∧ Rd w A 1 x.pl.length (enI x.pl) ∧ x.pl.length ≤ c ∧ c ≤ 9223372036854775807 := by
  obtain ⟨a1, cs, rfl, _, h⟩ := Mts.int_inv h
  obtain ⟨a2, cs, rfl, _, h⟩ := h.int_inv
  obtain ⟨A, n, c, xs, cs, rfl, hr, hn, hx, h⟩ := h.sl_invc
  rw [h.nil_inv]
  obtain ⟨ys, rfl⟩ := map_of (f := fun x : Int => [vI x]) (xs := xs) fun x hxm => by
    obtain ⟨a, cs, rfl, _, h⟩ := (hx x hxm).int_inv
    rw [h.nil_inv]
    exact ⟨a, rfl⟩
  have hl : ys.length = n := by have := hr.len; simpa using this
  subst hl
  exact ⟨⟨a1, a2, ys⟩, A, c, rfl, hr, hn⟩
theorem queue_open {w : World} {cs : List Value} (h : Mts w queueSp cs) : ∃ (q : Qu) (a : QA), Value.agg cs.toArray = q.val a ∧ QRd w q a ∧ q.gs.length ≤ a.gc ∧ q.fs.length ≤ a.fc ∧ a.gc ≤ 9223372036854775807 ∧ a.fc ≤ 9223372036854775807 := by
  obtain ⟨a1, cs, rfl, _, h⟩ := Mts.int_inv h
  obtain ⟨a2, cs, rfl, _, h⟩ := h.int_inv
  obtain ⟨a3, cs, rfl, _, h⟩ := h.int_inv
  obtain ⟨a4, cs, rfl, _, h⟩ := h.int_inv
  obtain ⟨A, n, c, xs, cs, rfl, hr, hn, hx, h⟩ := h.sl_invc
  obtain ⟨B, m, d, zs, cs, rfl, hr2, hm, hz, h⟩ := h.sl_invc
  rw [h.nil_inv]
  obtain ⟨gs, rfl⟩ := map_of (f := Pt.enc) (xs := xs) fun x hxm => by
    obtain ⟨a, b, c, d, rfl⟩ := g4_open (hx x hxm)
    exact ⟨⟨a, b, c, d⟩, rfl⟩
  obtain ⟨fs, rfl⟩ := map_of (f := fun f : Fe => [.int .i64 f.1, .int .i64 f.2]) (xs := zs) fun x hxm => g2_open (hz x hxm)
  have hl : gs.length = n := by have := hr.len; simpa using this
  have hl2 : fs.length = m := by have := hr2.len; simpa using this
  subst hl hl2
  exact ⟨⟨a1, a2, a3, a4, gs, fs⟩, ⟨A, B, c, d⟩, rfl, ⟨hr, hr2, by simp only; omega, by simp only; omega⟩, hn.1, hm.1, hn.2, hm.2⟩
end Go.Proofs.Ytbcclgfobiholaa
