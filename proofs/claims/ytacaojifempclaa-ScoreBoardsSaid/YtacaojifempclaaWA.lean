/- An argument of any shape, opened: what its cells are, by its type's shape; and the row's frame for a law that returns true. Plain laws, no program is named here. -/
import Derived.Test.YtacaojifempclaaW9
import Derived.Deep.Slices
import Derived.ProofKit
import Derived.OpenShut
import Derived.JoinedCond
namespace Go.Proofs.Ytacaojifempclaa
open Go Go.RowKit Go.ChangeShapes Go.WideShapes Go.ChangeAt Go.Deep

/-- The shape of one cell. -/
inductive Sp where
  | int (k : IntKind)
  | bool
  | str
  | sl (es : List Sp)

def shpF (P : Program) (r : TypeId → Option (List Sp)) : Nat → List Field → Option (List Sp)
  | _, [] => some []
  | off, f :: fs => bif Nat.beq f.offset off then
      (match r f.type with
      | none => none
      | some s => bif Nat.beq s.length (P.cellsOf f.type) then (match shpF P r (off + s.length) fs with | none => none | some ss => some (s ++ ss)) else none) else none

/-- The shape of a type: its cells, one after the other. -/
def shp (P : Program) : Nat → TypeId → Option (List Sp)
  | 0, _ => none
  | d + 1, t => match P.underlying t with
    | some .bool => some [.bool]
    | some (.int k) => some [.int k]
    | some .string => some [.str]
    | some (.slice e) => (match shp P d e with
      | none => none
      | some s => bif Nat.beq s.length (P.cellsOf e) then some [.sl s] else none)
    | some (.struct fs) => (match shpF P (shp P d) 0 fs.toList with
      | none => none
      | some s => bif Nat.beq s.length (P.cellsOf t) then some s else none)
    | _ => none

/-- Cells of a shape. -/
inductive Mts (w : World) : List Sp → List Value → Prop
  | nil : Mts w [] []
  | int {k : IntKind} {n : Int} {ss : List Sp} {cs : List Value} (h : (Lit.int k n).wf = true) (t : Mts w ss cs) : Mts w (.int k :: ss) (.int k n :: cs)
  | bool {b : Bool} {ss : List Sp} {cs : List Value} (t : Mts w ss cs) : Mts w (.bool :: ss) (.bool b :: cs)
  | str {s : ByteArray} {ss : List Sp} {cs : List Value} (t : Mts w ss cs) : Mts w (.str :: ss) (.string s :: cs)
  | sl {es : List Sp} {A : Option Addr} {n c : Nat} {xs : List (List Value)} {ss : List Sp} {cs : List Value} (hr : Rd w A es.length n xs) (hn : n ≤ c ∧ c ≤ 9223372036854775807) (hx : ∀ x ∈ xs, Mts w es x) (t : Mts w ss cs) : Mts w (.sl es :: ss) (.slice A n c :: cs)

theorem Mts.len {w : World} {ss : List Sp} {cs : List Value} (h : Mts w ss cs) : cs.length = ss.length := by
  induction h <;> simp_all
theorem Mts.one {w : World} {ss : List Sp} {cs : List Value} (h : Mts w ss cs) : ∀ v ∈ cs, v.oneCell' = true := by
  induction h with
  | nil => intro v hv; cases hv
  | int _ _ ih => intro v hv; rcases List.mem_cons.1 hv with rfl | hv; exact rfl; exact ih v hv
  | bool _ ih => intro v hv; rcases List.mem_cons.1 hv with rfl | hv; exact rfl; exact ih v hv
  | str _ ih => intro v hv; rcases List.mem_cons.1 hv with rfl | hv; exact rfl; exact ih v hv
  | sl _ _ _ _ _ ih => intro v hv; rcases List.mem_cons.1 hv with rfl | hv; exact rfl; exact ih v hv
theorem Mts.app {w : World} {ss ss' : List Sp} {cs cs' : List Value} (h : Mts w ss cs) (h' : Mts w ss' cs') : Mts w (ss ++ ss') (cs ++ cs') := by
  induction h with
  | nil => exact h'
  | int h _ ih => exact .int h ih
  | bool _ ih => exact .bool ih
  | str _ ih => exact .str ih
  | sl hr hn hx _ _ ih => exact .sl hr hn hx ih

section
variable {H : Type} {enc : TypeId × Value → H} {P : Program} {w : World} {base : Nat} {spare : Nat → Bool} {held : Bool}

theorem shpF_Mts {r : TypeId → Option (List Sp)} {n : Nat} {cs : List Value} (hr : ∀ t cs x ss, DataW.trod enc P w base spare held n t cs = some x → r t = some ss → Mts w ss cs) : ∀ (fs : List Field) (off : Nat) (ss : List Sp), shpF P r off fs = some ss →
    (∀ f ∈ fs, ∃ x, DataW.trod enc P w base spare held n f.type ((cs.drop f.offset).take (P.cellsOf f.type)) = some x) → Mts w ss ((cs.drop off).take ss.length)
  | [], off, ss, h, _ => by
    simp [shpF] at h; subst h; simp; exact .nil
  | f :: fs, off, ss, h, hx => by
    rw [shpF] at h
    cases ho : Nat.beq f.offset off with
    | false => rw [ho] at h; cases h
    | true =>
      rw [ho] at h
      simp only [cond_true] at h
      cases hs : r f.type with
      | none => rw [hs] at h; cases h
      | some s =>
        rw [hs] at h
        simp only at h
        cases hl : Nat.beq s.length (P.cellsOf f.type) with
        | false => rw [hl] at h; cases h
        | true =>
          rw [hl] at h
          simp only [cond_true] at h
          cases hF : shpF P r (off + s.length) fs with
          | none => rw [hF] at h; cases h
          | some ss' =>
            rw [hF] at h
            simp only [Option.some.injEq] at h
            subst h
            obtain ⟨x, hx1⟩ := hx f (by simp)
            have e1 := Nat.eq_of_beq_eq_true ho
            have e2 := Nat.eq_of_beq_eq_true hl
            have h1 := hr _ _ _ _ hx1 hs
            have h2 := shpF_Mts hr fs (off + s.length) ss' hF fun f' hf' => hx f' (by simp [hf'])
            rw [e1, ← e2] at h1
            have h3 := h1.app h2
            have : (List.take s.length (List.drop off cs) ++ List.take ss'.length (List.drop (off + s.length) cs)) = List.take (s ++ ss').length (List.drop off cs) := by
              rw [List.length_append, List.take_add, List.drop_drop]
            rwa [this] at h3

theorem trod_Mts : ∀ (d : Nat) (fuel : Nat) (t : TypeId) (cs : List Value) (x : DataW H × List MemPlace) (ss : List Sp), DataW.trod enc P w base spare held fuel t cs = some x → shp P d t = some ss → Mts w ss cs
  | 0, _, _, _, _, _, _, hs => by simp [shp] at hs
  | d + 1, fuel, t, cs, x, ss, h, hs => by
    cases fuel with
    | zero => simp [DataW.trod] at h
    | succ n =>
      rw [shp] at hs
      cases hu : P.underlying t with
      | none => simp [hu] at hs
      | some dd =>
        cases dd <;> simp only [hu, reduceCtorEq] at hs
        case bool =>
          simp only [Option.some.injEq] at hs; subst hs
          unfold DataW.trod at h
          rw [hu] at h
          split at h <;> simp_all
          exact .bool .nil
        case int k =>
          simp only [Option.some.injEq] at hs; subst hs
          unfold DataW.trod at h
          rw [hu] at h
          split at h <;> simp_all
          obtain ⟨⟨rfl, hw⟩, _⟩ := h
          exact .int hw .nil
        case string =>
          simp only [Option.some.injEq] at hs; subst hs
          unfold DataW.trod at h
          rw [hu] at h
          split at h <;> simp_all
          exact .str .nil
        case slice e =>
          cases he : shp P d e with
          | none => rw [he] at hs; cases hs
          | some s =>
            rw [he] at hs
            simp only at hs
            cases hl : Nat.beq s.length (P.cellsOf e) with
            | false => rw [hl] at hs; cases hs
            | true =>
              rw [hl] at hs
              simp only [cond_true, Option.some.injEq] at hs
              subst hs
              have hl' := Nat.eq_of_beq_eq_true hl
              rcases open_slice hu h with ⟨rfl, _⟩ | ⟨a, len, cap, m, n', D, Pl, rfl, _, hlc, hcm, hm, _, hi⟩
              · exact .sl (Rd.nil w none _) (by omega) (fun x hx => by cases hx) .nil
              · have hlm : len ≤ m := by rw [hm]; split <;> omega
                have hcmx : cap ≤ 9223372036854775807 := by simpa [maxLen] using hcm
                have hex : ∀ i : Fin len, ∃ cs', w.cells? base (a.add (i * P.cellsOf e)) (P.cellsOf e) = some cs' ∧ Mts w s cs' := fun i => by
                  obtain ⟨cs', h1, h2⟩ := hi i (by have := i.2; omega)
                  exact ⟨cs', h1, trod_Mts d n' e cs' _ s h2 he⟩
                let g : Fin len → List Value := fun i => (hex i).choose
                have hg : ∀ i : Fin len, w.cells? base (a.add (i * P.cellsOf e)) (P.cellsOf e) = some (g i) ∧ Mts w s (g i) := fun i => (hex i).choose_spec
                refine .sl (xs := List.ofFn g) ⟨by simp, fun c hc => ?_, fun _ => ⟨a, rfl⟩, fun ad had k c hk j v hj => ?_, fun c hc => ?_⟩ (by omega) (fun c hc => ?_) .nil
                · obtain ⟨i, rfl⟩ := List.mem_ofFn.1 hc
                  exact (hg i).2.len
                · have hkl : k < len := by have := (List.getElem?_eq_some_iff.1 hk).1; simpa using this
                  have hc : c = g ⟨k, hkl⟩ := by
                    rw [List.getElem?_ofFn, dif_pos hkl] at hk
                    exact (Option.some.inj hk).symm
                  subst hc
                  injection had with had; subst had
                  obtain ⟨_, hcl, hat⟩ := World.cells?_some (hg ⟨k, hkl⟩).1
                  have hjl : j < (g ⟨k, hkl⟩).length := (List.getElem?_eq_some_iff.1 hj).1
                  have h1 := hat j (by omega)
                  rw [hj, add_add', ← hl'] at h1
                  exact h1
                · obtain ⟨i, rfl⟩ := List.mem_ofFn.1 hc
                  exact (hg i).2.one
                · obtain ⟨i, rfl⟩ := List.mem_ofFn.1 hc
                  exact (hg i).2
        case struct fs =>
          cases hF : shpF P (shp P d) 0 fs.toList with
          | none => rw [hF] at hs; cases hs
          | some s =>
            rw [hF] at hs
            simp only at hs
            cases hl : Nat.beq s.length (P.cellsOf t) with
            | false => rw [hl] at hs; cases hs
            | true =>
              rw [hl] at hs
              simp only [cond_true, Option.some.injEq] at hs
              subst hs
              have hl' := Nat.eq_of_beq_eq_true hl
              obtain ⟨xs, n', _, _, hcl, hxl, hf⟩ := DataW.trod_struct hu h
              have h1 := shpF_Mts (n := n') (cs := cs) (fun t cs x ss h1 h2 => trod_Mts d n' t cs x ss h1 h2) fs.toList 0 s hF fun f hfm => by
                obtain ⟨i, hi⟩ := List.getElem?_of_mem hfm
                have hi' : fs[i]? = some f := by simpa using hi
                have hil : i < xs.length := by have := (Array.getElem?_eq_some_iff.1 hi').1; omega
                exact ⟨xs[i], (hf i f hi').trans (List.getElem?_eq_getElem hil)⟩
              rw [List.drop_zero, List.take_of_length_le (by omega)] at h1
              exact h1
end

/-- A value that is no struct and no array is one cell. -/
theorem cell_of {P : Program} {w : World} {r : Reach} {base : Nat} {t : TypeId} {v : Value} (hu : (match P.underlying t with | some .bool => true | some (.int _) => true | some .string => true | some (.slice _) => true | _ => false) = true) (h : Value.okWide P w r base t v) : v.cells = #[v] := by
  unfold Value.okWide at h
  cases hq : P.underlying t with
  | none => simp [hq] at hu
  | some dd =>
    cases dd <;> simp [hq] at hu <;> (rw [hq] at h; cases v <;> first | rfl | (simp [Cell.okWide, Cell.ok, hq] at h))

theorem Mts.int_inv {w : World} {k : IntKind} {ss : List Sp} {cs : List Value} (h : Mts w (.int k :: ss) cs) : ∃ n cs', cs = .int k n :: cs' ∧ (Lit.int k n).wf = true ∧ Mts w ss cs' := by
  cases h with
  | int h t => exact ⟨_, _, rfl, h, t⟩
theorem Mts.bool_inv {w : World} {ss : List Sp} {cs : List Value} (h : Mts w (.bool :: ss) cs) : ∃ b cs', cs = .bool b :: cs' ∧ Mts w ss cs' := by
  cases h with
  | bool t => exact ⟨_, _, rfl, t⟩
theorem Mts.str_inv {w : World} {ss : List Sp} {cs : List Value} (h : Mts w (.str :: ss) cs) : ∃ b cs', cs = .string b :: cs' ∧ Mts w ss cs' := by
  cases h with
  | str t => exact ⟨_, _, rfl, t⟩
theorem Mts.sl_inv {w : World} {es ss : List Sp} {cs : List Value} (h : Mts w (.sl es :: ss) cs) : ∃ A n c xs cs', cs = .slice A n c :: cs' ∧ Rd w A es.length n xs ∧ n ≤ 9223372036854775807 ∧ (∀ x ∈ xs, Mts w es x) ∧ Mts w ss cs' := by
  cases h with
  | sl hr hn hx t => exact ⟨_, _, _, _, _, rfl, hr, Nat.le_trans hn.1 hn.2, hx, t⟩
theorem Mts.sl_invc {w : World} {es ss : List Sp} {cs : List Value} (h : Mts w (.sl es :: ss) cs) : ∃ A n c xs cs', cs = .slice A n c :: cs' ∧ Rd w A es.length n xs ∧ (n ≤ c ∧ c ≤ 9223372036854775807) ∧ (∀ x ∈ xs, Mts w es x) ∧ Mts w ss cs' := by
  cases h with
  | sl hr hn hx t => exact ⟨_, _, _, _, _, rfl, hr, hn, hx, t⟩
theorem Mts.nil_inv {w : World} {cs : List Value} (h : Mts w [] cs) : cs = [] := by cases h; rfl

theorem map_of {α : Type} {f : α → List Value} : ∀ {xs : List (List Value)}, (∀ x ∈ xs, ∃ a, x = f a) → ∃ ys : List α, xs = ys.map f
  | [], _ => ⟨[], rfl⟩
  | x :: xs, h => by
    obtain ⟨a, rfl⟩ := h x (by simp)
    obtain ⟨ys, rfl⟩ := map_of (xs := xs) fun y hy => h y (by simp [hy])
    exact ⟨a :: ys, rfl⟩

section
variable {H : Type} {enc : TypeId × Value → H} {P : Program}

/-- An argument that is a struct. -/
theorem arg_agg {w : World} {base : Nat} {spare : Nat → Bool} {held : Bool} {r : Reach} {b0 : Nat} {t : TypeId} {v : Value} {d : DataW H} {p : List MemPlace} {ss : List Sp} (k : Nat) (hu : (match P.underlying t with | some (.struct _) => true | _ => false) = true) (hs : shp P k t = some ss)
    (hv : Value.okWide P w r b0 t v) (h : DataW.Trod enc P w base spare held t v d p) : ∃ cs, v = .agg cs.toArray ∧ Mts w ss cs := by
  cases hq : P.underlying t with
  | none => simp [hq] at hu
  | some dd =>
    cases dd <;> simp [hq] at hu
    obtain ⟨cs, rfl, _⟩ := okWide_struct hq hv
    obtain ⟨fuel, hf⟩ := h
    exact ⟨cs.toList, by simp, trod_Mts k _ _ _ _ _ hf hs⟩
/-- An argument of one cell. -/
theorem arg_cell {w : World} {base : Nat} {spare : Nat → Bool} {held : Bool} {r : Reach} {b0 : Nat} {t : TypeId} {v : Value} {d : DataW H} {p : List MemPlace} {ss : List Sp} (k : Nat) (hu : (match P.underlying t with | some .bool => true | some (.int _) => true | some .string => true | some (.slice _) => true | _ => false) = true) (hs : shp P k t = some ss)
    (hv : Value.okWide P w r b0 t v) (h : DataW.Trod enc P w base spare held t v d p) : Mts w ss [v] := by
  obtain ⟨fuel, hf⟩ := h
  have := trod_Mts k _ _ _ _ _ hf hs
  rwa [cell_of hu hv] at this

theorem below_trodAll {W W' : World} (hl : laidOutB P = true) (hB : Below W.heap.size W W') : ∀ {ts : List TypeId} {vs : List Value} {ds : List (DataW H)} {ps : List MemPlace}, (∀ t ∈ ts, P.readableRec t = true ∧ t < P.types.size) →
    DataW.TrodAll enc P W 0 (fun _ => true) true ts vs ds ps → (∀ x ∈ ps, x.block < W.heap.size) → DataW.TrodAll enc P W' 0 (fun b => decide (b < W.heap.size)) true ts vs ds ps
  | [], [], [], _, _, h, _ => h
  | t :: ts, v :: vs, d :: ds, ps, hr, ⟨p, q, h1, h2, e⟩, hlt =>
    ⟨p, q, Below.trod hl (hr t (by simp)).1 (hr t (by simp)).2 h1 hB (fun x hx => hlt x (by rw [e]; exact List.mem_append_left _ hx)),
      below_trodAll hl hB (fun t ht => hr t (by simp [ht])) h2 (fun x hx => hlt x (by rw [e]; exact List.mem_append_right _ hx)), e⟩

/-- A law's row: it returns true, and its arguments read as they did. -/
theorem post_true {f : Func} {s : ChangeSpec} {fresh handsOn : Bool} {W W' : World} {args : Array Value} {ds gs : List (DataW H)} {before : List MemPlace} {bt : TypeId} (hW : DataW.Whole enc P f.params.toList s.vars false W args.toList ds gs before)
    (hsv : s.vars = []) (hres : f.resultTypes = #[bt]) (hu : P.underlying bt = some .bool) (hfr : (s.fn H (ds ++ gs)).results = [.lit (.bool true)]) (hfa : (s.fn H (ds ++ gs)).args = ds) (hfv : (s.fn H (ds ++ gs)).vars = [])
    (hB : Below W.heap.size W W') (hl : laidOutB P = true) (hok : f.params.toList.all (fun t => P.readableRec t && decide (t < P.types.size)) = true) : s.post enc P f false fresh handsOn false W args (.bool true) W' := by
  have hW' := hW
  obtain ⟨p, q, hA, hV, hpq, hfz, hnd⟩ := hW
  have hok' : ∀ t ∈ f.params.toList, P.readableRec t = true ∧ t < P.types.size := fun t ht => by
    have := List.all_eq_true.1 hok t ht
    simpa using this
  refine ⟨ds, gs, before, [], p, [], hW', ?_, ?_, ?_, hB.frame _, fun h => by cases h⟩
  · rw [hres, hfr]
    exact trodAll_cons_mk (shut_bool hu _) trodAll_mk0
  · rw [hfa]
    exact below_trodAll hl hB hok' hA (fun x hx => by simpa using hW'.lt x (by rw [hpq]; exact List.mem_append_left _ hx))
  · rw [hsv, hfv]; rfl

theorem trodAll_out {w : World} {base : Nat} {spare : Nat → Bool} {held : Bool} {t : TypeId} {ts : List TypeId} {vs : List Value} {ds : List (DataW H)} {ps : List MemPlace} (h : DataW.TrodAll enc P w base spare held (t :: ts) vs ds ps) :
    ∃ v vs' d ds' p q, vs = v :: vs' ∧ ds = d :: ds' ∧ DataW.Trod enc P w base spare held t v d p ∧ DataW.TrodAll enc P w base spare held ts vs' ds' q := by
  match vs, ds, h with
  | v :: vs', d :: ds', ⟨p, q, h1, h2, _⟩ => exact ⟨v, vs', d, ds', p, q, rfl, rfl, h1, h2⟩
theorem trodAll_end {w : World} {base : Nat} {spare : Nat → Bool} {held : Bool} {vs : List Value} {ds : List (DataW H)} {ps : List MemPlace} (h : DataW.TrodAll enc P w base spare held [] vs ds ps) : vs = [] ∧ ds = [] := by
  match vs, ds, h with
  | [], [], _ => exact ⟨rfl, rfl⟩
end
end Go.Proofs.Ytacaojifempclaa
