/- The arguments of the laws on draws, opened. -/
import Derived.Test.YtjkoaifjmcgpfaaDC
namespace Go.Proofs.Ytjkoaifjmcgpfaa
open Go Go.RowKit

abbrev psSp : List Sp := [.int .i64, .int .i64, .bool]
abbrev planSp : List Sp := [.int .i64, .int .i64, .sl psSp, .sl [.int .i64]]
abbrev changeSp : List Sp := [.sl [.int .i64], .sl [.int .i64], .sl [.int .i64]]
theorem ints_of {w : World} {xs : List (List Value)} (hx : ∀ x ∈ xs, Mts w [.int .i64] x) : ∃ ys : List Int, xs = enI ys := by
  obtain ⟨ys, rfl⟩ := map_of (f := fun x : Int => [vI x]) (xs := xs) fun x hxm => by
    obtain ⟨a, cs, rfl, _, h⟩ := (hx x hxm).int_inv
    rw [h.nil_inv]
    exact ⟨a, rfl⟩
  exact ⟨ys, rfl⟩
theorem ints_open {w : World} {v : Value} (h : Mts w [.sl [.int .i64]] [v]) : ∃ (l : List Int) (A : Option Addr) (c : Nat), v = .slice A l.length c ∧ Rd w A 1 l.length (enI l) ∧ l.length ≤ c ∧ c ≤ 9223372036854775807 := by
  obtain ⟨A, n, c, xs, cs, e, hr, hn, hx, _⟩ := h.sl_invc
  obtain ⟨ys, rfl⟩ := ints_of hx
  have hl : ys.length = n := by have := hr.len; simpa [enI] using this
  subst hl
  exact ⟨ys, A, c, by injection e, hr, hn⟩
structure Chg where
  (s p l : List Int)
structure ChA where
  (s p l : Option Addr) (sc pc lc : Nat)
abbrev Chg.val (x : Chg) (a : ChA) : Value := .agg #[.slice a.s x.s.length a.sc, .slice a.p x.p.length a.pc, .slice a.l x.l.length a.lc]
structure CRd (w : World) (x : Chg) (a : ChA) : Prop where
  s : Rd w a.s 1 x.s.length (enI x.s)
  p : Rd w a.p 1 x.p.length (enI x.p)
  l : Rd w a.l 1 x.l.length (enI x.l)
  hs : x.s.length ≤ a.sc
  hp : x.p.length ≤ a.pc
  hl : x.l.length ≤ a.lc
  ms : a.sc ≤ 9223372036854775807
  mp : a.pc ≤ 9223372036854775807
  ml : a.lc ≤ 9223372036854775807
theorem change_open {w : World} {cs : List Value} (h : Mts w changeSp cs) : ∃ (x : Chg) (a : ChA), Value.agg cs.toArray = x.val a ∧ CRd w x a := by
  obtain ⟨A, n, c, xs, cs, rfl, hr, hn, hx, h⟩ := Mts.sl_invc h
  obtain ⟨B, m, d, ys, cs, rfl, hr2, hm, hy, h⟩ := h.sl_invc
  obtain ⟨C, k, e, zs, cs, rfl, hr3, hk, hz, h⟩ := h.sl_invc
  rw [h.nil_inv]
  obtain ⟨xs, rfl⟩ := ints_of hx
  obtain ⟨ys, rfl⟩ := ints_of hy
  obtain ⟨zs, rfl⟩ := ints_of hz
  have hl : xs.length = n := by have := hr.len; simpa [enI] using this
  have hl2 : ys.length = m := by have := hr2.len; simpa [enI] using this
  have hl3 : zs.length = k := by have := hr3.len; simpa [enI] using this
  subst hl hl2 hl3
  exact ⟨⟨xs, ys, zs⟩, ⟨A, B, C, c, d, e⟩, rfl, hr, hr2, hr3, hn.1, hm.1, hk.1, hn.2, hm.2, hk.2⟩
theorem wf64 {a : Int} (h : (Lit.int .i64 a).wf = true) : -9223372036854775808 ≤ a ∧ a ≤ 9223372036854775807 := by
  have h1 : decide (IntKind.i64.min ≤ a) = true ∧ decide (a ≤ IntKind.i64.max) = true := by simpa only [Lit.wf, Bool.and_eq_true] using h
  exact ⟨of_decide_eq_true h1.1, of_decide_eq_true h1.2⟩
theorem plan_open {w : World} {cs : List Value} (h : Mts w planSp cs) : ∃ (p : Pl) (a : PA), Value.agg cs.toArray = p.val a ∧ PRd w p a ∧ (-9223372036854775808 ≤ p.size ∧ p.size ≤ 9223372036854775807) := by
  obtain ⟨a1, cs, rfl, hwf, h⟩ := Mts.int_inv h
  have hwb : -9223372036854775808 ≤ a1 ∧ a1 ≤ 9223372036854775807 := wf64 hwf
  obtain ⟨a2, cs, rfl, _, h⟩ := h.int_inv
  obtain ⟨A, n, c, xs, cs, rfl, hr, hn, hx, h⟩ := h.sl_invc
  obtain ⟨B, m, d, zs, cs, rfl, hr2, hm, hz, h⟩ := h.sl_invc
  rw [h.nil_inv]
  obtain ⟨ps, rfl⟩ := map_of (f := Ps.enc) (xs := xs) fun x hxm => by
    obtain ⟨a, cs, rfl, _, h⟩ := (hx x hxm).int_inv
    obtain ⟨b, cs, rfl, _, h⟩ := h.int_inv
    obtain ⟨c, cs, rfl, h3⟩ := h.bool_inv
    obtain rfl := h3.nil_inv
    exact ⟨⟨a, b, c⟩, rfl⟩
  obtain ⟨ls, rfl⟩ := ints_of hz
  have hl : ps.length = n := by have := hr.len; simpa using this
  have hl2 : ls.length = m := by have := hr2.len; simpa [enI] using this
  subst hl hl2
  exact ⟨⟨a1, a2, ps, ls⟩, ⟨A, B, c, d⟩, rfl, ⟨hr, hr2, by simp only; omega, by simp only; omega, by simp only; omega⟩, hwb⟩
end Go.Proofs.Ytjkoaifjmcgpfaa
