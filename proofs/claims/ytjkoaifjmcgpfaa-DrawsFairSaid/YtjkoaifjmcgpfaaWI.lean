/- The form's own reach: what a slice that is read takes at most; plain laws, no program is named here. -/
import Derived.Test.YtjkoaifjmcgpfaaWA
import Derived.SizedLaws
import Derived.Deep.Slices
namespace Go.Proofs.Ytjkoaifjmcgpfaa
open Go Go.ChangeShapes Go.WideShapes Go.ChangeAt Go.RowKit Go.Deep

section
variable {H : Type} {enc : TypeId × Value → H} {P : Program} {w : World} {base : Nat} {held : Bool}

theorem slice_weight {t e : TypeId} {fuel n c : Nat} {A : Option Addr} {x : DataW H × List MemPlace} (hu : P.underlying t = some (.slice e)) (h : DataW.trod enc P w base (fun _ => true) held fuel t [.slice A n c] = some x) :
    c = 0 ∨ c * P.bytesOf e ∈ x.1.weights P t := by
  rcases open_slice hu h with ⟨h0, _⟩ | ⟨a, len, cap, m, n', D, Pl, h0, _, hlc, hcm, hm, rfl, hi⟩
  · injection h0 with h0 _; injection h0 with h1 h2 h3; exact .inl h3
  · injection h0 with h0 _; injection h0 with h1 h2 h3
    subst h1 h2 h3
    right
    simp only [if_true] at hm
    subst hm
    simp only [DataW.weights, hu, List.length_map, List.length_range]
    rw [show n + (m - n) = m from by omega]
    exact List.mem_cons_self ..

/-- A field of a struct that is an argument and a slice. -/
theorem field_weight {t t' e : TypeId} {i : Nat} {fs : Array Field} {f : Field} {cs : List Value} {n c : Nat} {A : Option Addr} {d : DataW H} {p : List MemPlace} {ts : List TypeId} {ds : List (DataW H)} {j : Nat} (hu : P.underlying t = some (.struct fs)) (hf : fs[i]? = some f) (ht' : f.type = t') (hs : P.underlying t' = some (.slice e))
    (hc : (cs.drop f.offset).take (P.cellsOf t') = [.slice A n c]) (h : DataW.Trod enc P w base (fun _ => true) held t (.agg cs.toArray) d p) (hj : ts[j]? = some t) (hd : ds[j]? = some d) (hz : (DataW.weightsEach P ts ds).all (· ≤ reachBytes) = true) : c * P.bytesOf e ≤ reachBytes := by
  subst ht'
  obtain ⟨fuel, hfu⟩ := h
  obtain ⟨xs, m, rfl, hx, hcl, hxl, hfs⟩ := DataW.trod_struct hu hfu
  have h1 := hfs i f hf
  have hcs : (Value.agg cs.toArray).cells.toList = cs := by simp [Value.cells]
  rw [hcs, hc] at h1
  have hil : i < xs.length := by have := (Array.getElem?_eq_some_iff.1 hf).1; omega
  rw [List.getElem?_eq_getElem hil] at h1
  rcases slice_weight hs h1 with h0 | hm
  · rw [h0, Nat.zero_mul]; exact Nat.zero_le _
  · have hd' : d = .agg (xs.map (·.1)) := congrArg Prod.fst hx
    have hin : c * P.bytesOf e ∈ d.weights P t := by
      rw [hd']
      simp only [DataW.weights, hu]
      refine DataW.weights_mem_each (j := i) (t := f.type) (d := (xs[i]).1) ?_ ?_ _ hm
      · have : fs.toList[i]? = some f := by simpa using hf
        rw [List.getElem?_map, this]; rfl
      · rw [List.getElem?_map, List.getElem?_eq_getElem hil]; rfl
    have := List.all_eq_true.1 hz _ (DataW.weights_mem_each hj hd _ hin)
    simpa using this
def fieldAt (P : Program) (t : TypeId) (i : Nat) : Option (TypeId × Nat) := match P.underlying t with
  | some (.struct fs) => (fs[i]?).map fun f => (f.type, f.offset)
  | _ => none
/-- The same with closed premises. -/
theorem field_sized (t t' e : TypeId) (i off b j : Nat) {cs : List Value} {n c : Nat} {A : Option Addr} {d : DataW H} {p : List MemPlace} {ts : List TypeId} {ds : List (DataW H)} (hF : fieldAt P t i = some (t', off)) (hs : P.underlying t' = some (.slice e)) (h1c : P.cellsOf t' = 1) (hb : P.bytesOf e = b)
    (h : DataW.Trod enc P w base (fun _ => true) held t (.agg cs.toArray) d p) (hc : (cs.drop off).take 1 = [.slice A n c]) (hj : ts[j]? = some t) (hd : ds[j]? = some d) (hz : (DataW.weightsEach P ts ds).all (· ≤ reachBytes) = true) : c * b ≤ 140737488351232 := by
  unfold fieldAt at hF
  cases hu : P.underlying t with
  | none => rw [hu] at hF; cases hF
  | some dd =>
    rw [hu] at hF
    cases dd <;> simp only [reduceCtorEq] at hF
    rename_i fs
    cases hf : fs[i]? with
    | none => rw [hf] at hF; cases hF
    | some f =>
      rw [hf] at hF
      simp only [Option.map_some, Option.some.injEq, Prod.mk.injEq] at hF
      obtain ⟨h1, h2⟩ := hF
      have := field_weight (n := n) (c := c) (A := A) hu hf h1 hs (by rw [h1c, h2]; exact hc) h hj hd hz
      rw [hb] at this
      exact this
end
end Go.Proofs.Ytjkoaifjmcgpfaa
