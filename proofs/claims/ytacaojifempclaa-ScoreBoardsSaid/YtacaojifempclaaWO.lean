/- Searches by a function; plain laws, no program is named here. -/
import Derived.Test.YtacaojifempclaaWE
namespace Go.Proofs.Ytacaojifempclaa
open Go Go.RowKit

/-- A property of the k-th element. -/
def pAt {α : Type} (ss : List α) (q : α → Bool) (k : Nat) : Bool := match ss[k]? with
  | some s => q s
  | none => false
theorem pAt_eq {α : Type} {ss : List α} {q : α → Bool} {k : Nat} {s : α} (h : ss[k]? = some s) : pAt ss q k = q s := by simp only [pAt, h]
theorem pAt_any {α : Type} (ss : List α) (q : α → Bool) : (List.range ss.length).any (pAt ss q) = ss.any q := by
  rw [Bool.eq_iff_iff]
  simp only [List.any_eq_true, List.mem_range]
  constructor
  · rintro ⟨k, hk, h⟩
    simp only [pAt, List.getElem?_eq_getElem hk] at h
    exact ⟨ss[k], List.getElem_mem hk, h⟩
  · rintro ⟨s, hs, h⟩
    obtain ⟨k, hk, rfl⟩ := List.getElem_of_mem hs
    exact ⟨k, hk, by simp only [pAt, List.getElem?_eq_getElem hk]; exact h⟩
/-- The first index of which p says yes, or -1. -/
def Fst (p : Nat → Bool) (n : Nat) (j : Int) : Prop := (∃ k : Nat, k < n ∧ j = k ∧ p k = true ∧ ∀ i, i < k → p i = false) ∨ (j = -1 ∧ ∀ i, i < n → p i = false)
theorem Fst.any {p : Nat → Bool} {n : Nat} {j : Int} (h : Fst p n j) : decide (0 ≤ j) = (List.range n).any p := by
  rcases h with ⟨k, hk, rfl, hp, _⟩ | ⟨rfl, hp⟩
  · rw [decide_eq_true (by omega)]
    exact (List.any_eq_true.2 ⟨k, by simpa using hk, hp⟩).symm
  · rw [decide_eq_false (by omega)]
    exact (List.any_eq_false.2 fun k hk => by simp [hp k (by simpa using hk)]).symm

theorem enc_at {α : Type} {f : α → List Value} {ss : List α} {k : Nat} {cs : List Value} (h : (ss.map f)[k]? = some cs) : ∃ s, ss[k]? = some s ∧ cs = f s := by
  rw [List.getElem?_map] at h
  cases hs : ss[k]? with
  | none => simp [hs] at h
  | some s => exact ⟨s, rfl, by simpa [hs] using h.symm⟩
theorem C0.tr {P : Program} {f : FuncId} {vs : List Value} {v : Value} (Lp : List Ent) (h : ∀ w, C0 P f vs w v) : Tr P f vs Lp (fun _ : Unit => True) (fun _ => v) (fun _ => Lp) :=
  ⟨fun w0 w R hst => Calls.mono (h w).out fun e w' ⟨he, hs⟩ => ⟨(), trivial, he, by simpa using hst.join hs rfl⟩⟩

end Go.Proofs.Ytacaojifempclaa
