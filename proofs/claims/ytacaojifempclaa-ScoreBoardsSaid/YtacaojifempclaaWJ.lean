/- A slice that is made; plain laws, no program is named here. -/
import Derived.Test.YtacaojifempclaaWH
import Derived.Laws.MakeOwn
namespace Go.Proofs.Ytacaojifempclaa
open Go Go.RowKit

theorem made_flat (zl : List Value) (hpos : 0 < zl.length) (n : Nat) : (madeCells zl.toArray (n * zl.length)).toList = (List.replicate n zl).flatten := by
  refine List.ext_getElem? fun i => ?_
  have hes : ∀ c ∈ List.replicate n zl, c.length = zl.length := fun c hc => by rw [(List.mem_replicate.1 hc).2]
  have hfl : (List.replicate n zl).flatten.length = n * zl.length := by rw [flatten_len hes, List.length_replicate]
  by_cases hi : i < n * zl.length
  · have hk : i / zl.length < n := (Nat.div_lt_iff_lt_mul hpos).2 hi
    have hj : i % zl.length < zl.length := Nat.mod_lt _ hpos
    have h1 := flatten_get hes (k := i / zl.length) (cs := zl) (j := i % zl.length) (v := zl[i % zl.length]) (by simp [hk]) (List.getElem?_eq_getElem hj)
    rw [Nat.div_add_mod'] at h1
    rw [h1]
    simp [madeCells, hi, hj]
  · have h2 : (madeCells zl.toArray (n * zl.length)).toList.length = n * zl.length := by simp [madeCells]
    rw [List.getElem?_eq_none (by rw [h2]; omega), List.getElem?_eq_none (by rw [hfl]; omega)]

section rules
variable {F : Fence} {P : Program} {ops : Array Oper} {Q : Exit → Act → World → Prop} {rest : List Oper} {n : Nat} {D : List Deferred} {l : Env} {w0 : World} {L M : List Ent}
variable {d : Nat} {ty : TypeId} {pos : String} {aft : Array Edge}

theorem mks {x y : Operand} {t T : TypeId} (m : Nat) (hT : SliceTy P t T := by infer_instance) {agg : Bool} {size bytes : Nat} {z : Value} {zl : List Value} (hE : Ty P T agg size bytes z zl := by infer_instance) {kl kc : IntKind} (hx : ev l x = some (.int kl (m : Int)) := by exact rfl) (hy : ev l y = some (.int kc (m : Int)) := by exact rfl)
    (hb : bytes * m ≤ 281474976710656 := by omega) (hlm : m ≤ 9223372036854775807 := by omega) (hpos : 0 < size := by omega) (h1 : zl.all (·.oneCell') = true := by rfl) (hd : Nat.blt d n = true := by rfl)
    (h : ∀ b, WL F P ops Q rest n D ((d, .slice (some ⟨b, 0, none⟩) m m) :: l) w0 (.own (some ⟨b, 0, none⟩) m T size m (List.replicate m zl) :: L)) : WL F P ops Q (⟨some d, .makeSlice t x y, ty, pos, aft, none⟩ :: rest) n D l w0 L :=
  WL.value (X := Nat) (φ := fun _ => True) (val := fun b => .slice (some ⟨b, 0, none⟩) m m) (L' := fun b => .own (some ⟨b, 0, none⟩) m T size m (List.replicate m zl) :: L) (by simp) hd (fun ac w hfr hst => by
    obtain ⟨i, hi, hi1, hi2, h3⟩ := ty_info hE
    have hzl : zl.length = size := hE.zs
    have hes : ∀ c ∈ List.replicate m zl, c.length = size := fun c hc => by rw [(List.mem_replicate.1 hc).2, hzl]
    have hfl := flatten_len hes
    rw [List.length_replicate] at hfl
    have hmade : madeCells z.cells (m * i.size) = (List.replicate m zl).flatten.toArray := by
      rw [hi1, hE.zc, ← hzl]
      exact Array.toList_inj.1 (by rw [made_flat zl (by omega) m])
    have hrun := run_make (P := P) (w := w) t T i z hT.und hi h3 kl kc (m : Int) (m : Int) (by omega) (Int.le_refl _) (by rw [hi2, ← Int.natCast_mul]; omega) (by omega)
    rw [Int.toNat_natCast, hmade] at hrun
    refine ⟨w.heap.size, w.alloc (.cells (List.replicate m zl).flatten.toArray T), trivial, ?_, ?_⟩
    · simp [execOp, hfr.eval hx, hfr.eval hy, hrun]
    · have hone : ∀ c ∈ List.replicate m zl, ∀ v ∈ c, v.oneCell' = true := fun c hc v hv => by
        rw [(List.mem_replicate.1 hc).2] at hv
        exact List.all_eq_true.1 h1 v hv
      have hown : (w.alloc (.cells (List.replicate m zl).flatten.toArray T)).ownsRow 0 T size (.slice (some ⟨w.heap.size, 0, none⟩) m m) m (List.replicate m zl).flatten :=
        ⟨by rw [hfl], .inr ⟨w.heap.size, m, (List.replicate m zl).flatten.toArray, rfl, Nat.zero_le _, heap_alloc_new w _, Nat.le_refl _, by simp only [maxLen]; omega, by simp [hfl], by rw [← hfl]; exact List.take_length⟩⟩
      refine St.add (M := [_]) hst ((Below.refl _ w).alloc (Nat.le_refl _) _) (fun e he => ?_) (fun e he b hb' => ?_) (List.pairwise_singleton _ _)
      · simp only [List.mem_singleton] at he; subst he
        exact ⟨hown, rd_own hown (by simp) hes hone⟩
      · simp only [List.mem_singleton] at he; subst he
        obtain ⟨ad, had, rfl⟩ := hb'
        injection had with had; subst had; exact Nat.le_refl _) (fun b _ => h b)
end rules
end Go.Proofs.Ytacaojifempclaa
