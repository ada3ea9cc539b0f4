/- The last elements of a row of one's own are cleared. Plain laws, no program is named here. -/
import Derived.Test.YtacaojifempclaaWB
import Derived.Lib.SliceRun
namespace Go.Proofs.Ytacaojifempclaa
open Go Go.RowKit

theorem St.clear {w0 : World} {M : List Ent} {g cap : Nat} {T : TypeId} {n : Nat} {z : Value} (h1 : z.oneCell' = true) : ∀ (r k : Nat) (w : World) (es : List (List Value)), k + r = n → St w0 w (.own (some ⟨g, 0, none⟩) cap T 1 n es :: M) →
    ∃ es', St w0 (w.setCells g k (List.replicate r z)) (.own (some ⟨g, 0, none⟩) cap T 1 n es' :: M) ∧ es'.take k = es.take k
  | 0, k, w, es, _, h => ⟨es, h, rfl⟩
  | r + 1, k, w, es, hk, h => by
    have hlen : es.length = n := (h.ok (.own (some ⟨g, 0, none⟩) cap T 1 n es) (by simp)).2.len
    have he : es[k]? = some (es[k]'(by omega)) := List.getElem?_eq_getElem (by omega)
    obtain ⟨ad, had, _, _, hs⟩ := own_set h he (j := 0) (v := z) (by omega) h1
    injection had with had; subst had
    have e : (⟨g, 0, none⟩ : Addr).add (k * 1 + 0) = ⟨g, k, none⟩ := by rw [add_lit]; simp
    rw [e] at hs
    obtain ⟨es', hs', ht⟩ := St.clear h1 r (k + 1) _ _ (by omega) hs
    refine ⟨es', hs', ?_⟩
    have := congrArg (List.take k) ht
    rw [List.take_take, List.take_take, Nat.min_eq_left (by omega)] at this
    rw [this, List.take_set_of_le (Nat.le_refl k)]

section rules
variable {F : Fence} {P : Program} {ops : Array Oper} {Q : Exit → Act → World → Prop} {rest : List Oper} {n : Nat} {D : List Deferred} {l : Env} {w0 : World} {L M : List Ent}
variable {d : Nat} {ty : TypeId} {pos : String} {aft : Array Edge}
/-- clear of the last elements of a row of one's own. -/
theorem clr {x : Operand} {t T : TypeId} (hT : SliceTy P t T := by infer_instance) {bytes : Nat} {z : Value} {zl : List Value} (hE : Ty P T false 1 bytes z zl := by infer_instance) (h1 : z.oneCell' = true := by rfl) {A : Option Addr} {m cap : Nat} (lo : Nat) {es : List (List Value)}
    (hx : ev l x = some (.slice (if cap = lo then A else A.map (·.add (lo * 1))) (m - lo) (cap - lo)) := by exact rfl) (ha : At L (.own A cap T 1 m es) M := by repeat (first | exact At.here | apply At.there)) (hlo : lo < m)
    (h : ∀ es', es'.take lo = es.take lo → WL F P ops Q rest n D l w0 (.own A cap T 1 m es' :: M)) : WL F P ops Q (⟨none, .call { callee := .builtin .clear, args := #[x], argTypes := #[t] }, ty, pos, aft, none⟩ :: rest) n D l w0 L := by
  intro hF a w hfr hst
  have hst1 := hst.pull ha
  have hroom := hst1.room
  obtain ⟨hown, hrd⟩ := hst1.ok (.own A cap T 1 m es) (by simp)
  rcases hown.2 with ⟨hv, h0⟩ | ⟨g, cap', cur, hv, hb, hg, g1, g2, g3, g4⟩
  · injection hv with e1 e2 e3; omega
  injection hv with e1 e2 e3; subst e1 e3
  have hne : ¬ (cap = lo) := by omega
  obtain ⟨es', hs', ht⟩ := St.clear h1 (m - lo) lo w es (by omega) hst1
  have he := hfr.eval hx
  rw [if_neg hne] at he
  have hadd : (⟨g, 0, none⟩ : Addr).add (lo * 1) = ⟨g, lo, none⟩ := by rw [add_lit]; simp
  have hc : z.cells = #[z] := by cases z <;> simp [Value.oneCell'] at h1 <;> rfl
  have hrun := Lib.run_clear_slice (P := P) w t T ty z hT.und (fun w => run_zeroValue hE w) hc h1 g lo (m - lo) (cap - lo) (by omega)
    (fun j hj => by
      have hk : es[lo + j]? = some (es[lo + j]'(by rw [hrd.len]; omega)) := List.getElem?_eq_getElem _
      have hl := hrd.each _ (List.mem_of_getElem? hk)
      have := hrd.cell _ rfl _ _ hk 0 _ (List.getElem?_eq_getElem (by omega))
      rw [add_lit] at this
      simp at this
      simp [this]) (fun j hj => hown.frozenAt _)
  show (if _ then _ else _)
  rw [if_pos (by simp [Region.wanted])]
  refine ⟨fun f _ => hF.fn f, ?_⟩
  have hr : (execOp a.eval ⟨none, .call { callee := .builtin .clear, args := #[x], argTypes := #[t] }, ty, pos, aft, none⟩).run P w = .ok (.value (.tuple #[])) (w.setCells g lo (List.replicate (m - lo) z)) := by
    simp only [Option.map_some, hadd] at he
    simp [execOp, resolve, invoke, builtin, he, hrun]
  rw [semAt_plain (by simp), hr]
  exact h es' ht hF _ _ (hfr.put_none _) hs'

/-- The first part of a slice, as a value. -/
theorem slP {x : Operand} {t T : TypeId} (hT : SliceTy P t T := by infer_instance) {agg : Bool} {size bytes : Nat} {z : Value} {zl : List Value} (hE : Ty P T agg size bytes z zl := by infer_instance) {A : Option Addr} {m cap : Nat} {hi : Operand} {k : IntKind} (hi' : Nat)
    (hx : ev l x = some (.slice A m cap) := by exact rfl) (hh : ev l hi = some (.int k hi') := by exact rfl) (hc : hi' ≤ cap := by omega) : Yd P n D l w0 L (.slice t x none (some hi) none) (.slice A hi' cap) := by
  have h := slV (P := P) (n := n) (D := D) (w0 := w0) (L := L) hT hE (A := A) (m := m) (cap := cap) (lo := none) (hi := some hi) 0 hi' hx (.inr ⟨hi, k, hi', rfl, hh, by omega, by omega, by omega⟩) (.inl ⟨rfl, rfl⟩)
  have e : (if cap = 0 then A else A.map (·.add (0 * size))) = A := by
    split
    · rfl
    · cases A <;> simp [Addr.add_zero']
  rw [e] at h
  simpa using h
end rules
/-- The first elements of a row that is read. -/
theorem WC.pre {F : Fence} {P : Program} {Q : Exit → Act → World → Prop} {n : Nat} {D : List Deferred} {l : Env} {w0 : World} {L M : List Ent} {c : Code} {A : Option Addr} {size m : Nat} {es : List (List Value)} (ha : At L (.ro A size m es) M) (k : Nat) (hk : k ≤ m) (h : WC F P c Q n D l w0 (.ro A size k (es.take k) :: .ro A size m es :: M)) : WC F P c Q n D l w0 L := by
  refine WC.part (cap := m + 1) ha 0 k (Nat.zero_le _) hk (by omega) ?_
  have e : (if m + 1 = 0 then A else A.map (·.add (0 * size))) = A := by
    rw [if_neg (by omega)]
    cases A <;> simp [Addr.add_zero']
  rw [e]
  simpa using h
theorem SubL.skip {x : Ent} : ∀ {L' L : List Ent}, SubL L' L → SubL L' (x :: L)
  | [], _, _ => .nil
  | _ :: _, _, .cons h hs => .cons (.there h) hs.skip
theorem At.app {e : Ent} : ∀ (A R : List Ent), At (A ++ e :: R) e (A ++ R)
  | [], _ => .here
  | _ :: A, R => .there (At.app A R)
theorem Spl.app1 (A : List Ent) (e : Ent) (R : List Ent) : Spl (A ++ e :: R) (A ++ [e]) R := by
  have h := Spl.app (A ++ [e]) R
  simpa using h
theorem SubL.mid {e : Ent} : ∀ (A R : List Ent), SubL (A ++ e :: R) (e :: (A ++ R))
  | [], R => SubL.refl _
  | a :: A, R => .cons (.there .here) (SubL.mid A R)
end Go.Proofs.Ytacaojifempclaa
