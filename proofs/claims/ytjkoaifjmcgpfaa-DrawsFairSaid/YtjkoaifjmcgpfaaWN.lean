/- Conversions between kinds of numbers, a byte of a string, sums of unsigned numbers; plain laws, no program is named here. -/
import Derived.Test.YtjkoaifjmcgpfaaWK
import Derived.KernelRfl
namespace Go.Proofs.Ytjkoaifjmcgpfaa
open Go Go.RowKit

section rules
variable {P : Program} {n : Nat} {D : List Deferred} {l : Env} {w0 : World} {L : List Ent}
theorem cvI {x : Operand} {s t : TypeId} {k k' : IntKind} {a : Int} (hx : ev l x = some (.int k' a) := by exact rfl) (hs : (P.underlying s).isSome = true := by kernel_rfl) (hd : P.underlying t = some (.int k) := by kernel_rfl) (hw : k.wrap a = a) : Yd P n D l w0 L (.convert s t x) (.int k a) :=
  ⟨by simp, by simp, fun oo ho ac w hfr _ => by
    obtain ⟨dd, hdd⟩ := Option.isSome_iff_exists.1 hs
    have hrun : (Go.convert s t (.int k' a)).run P w = .ok (.int k a) w := by
      unfold Go.convert
      simp only [Sem.run_bind, run_underlying hdd, run_underlying hd, Result.andThen_ok]
      cases dd <;> simp [Conv.intToInt, hw]
    simp [execOp, ho, hfr.eval hx, hrun]⟩
theorem ixT {x y : Operand} {t : TypeId} {k : IntKind} {s : ByteArray} {i : Int} {b : UInt8} (hi0 : 0 ≤ i) (hb : s[i.toNat]? = some b) (hx : ev l x = some (.string s) := by exact rfl) (hy : ev l y = some (.int k i) := by exact rfl) (hT : P.underlying t = some .string := by kernel_rfl) : Yd P n D l w0 L (.index t x y) (.int .u8 b.toNat) :=
  ⟨by simp, by simp, fun oo ho ac w hfr _ => by
    simp [execOp, ho, hfr.eval hx, hfr.eval hy, Instr.index, asIntOf, run_underlying hT, hi0, hb]⟩
end rules
section rules2
variable {F : Fence} {P : Program} {ops : Array Oper} {Q : Exit → Act → World → Prop} {rest : List Oper} {n : Nat} {D : List Deferred} {l : Env} {w0 : World} {L : List Ent}
variable {d : Nat} {ty : TypeId} {pos : String} {aft : Array Edge}
/-- Some byte of a text of 256 bytes. -/
theorem WL.byte {x y : Operand} {t : TypeId} {k : IntKind} {s : ByteArray} {i : Int} (hi : 0 ≤ i ∧ i < 256) (hx : ev l x = some (.string s) := by exact rfl) (hs : s.size = 256 := by kernel_rfl) (hy : ev l y = some (.int k i) := by exact rfl) (hT : P.underlying t = some .string := by kernel_rfl) (hd : Nat.blt d n = true := by rfl)
    (h : ∀ b : Nat, b ≤ 255 → WL F P ops Q rest n D ((d, .int .u8 (b : Int)) :: l) w0 L) : WL F P ops Q (⟨some d, .index t x y, ty, pos, aft, none⟩ :: rest) n D l w0 L := by
  have hb : s[i.toNat]? = some (s[i.toNat]'(by omega)) := getElem?_pos s i.toNat (by omega)
  exact WL.y (hy := ixT hi.1 hb hx hy hT) (hd := hd) (h := h _ (by have := UInt8.toNat_lt (s[i.toNat]'(by omega)); omega))
end rules2
end Go.Proofs.Ytjkoaifjmcgpfaa
