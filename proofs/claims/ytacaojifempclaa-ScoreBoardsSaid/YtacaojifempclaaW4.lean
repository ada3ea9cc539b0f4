/- Rules for literals, append, slices and calls in a walk over symbolic slots and a symbolic heap; plain laws, no program is named here. -/
import Derived.Test.YtacaojifempclaaW3
namespace Go.Proofs.Ytacaojifempclaa
open Go Go.RowKit

/-! ### literals -/
class BuildTy (P : Program) (t : TypeId) (pl : outParam (List (Nat × Nat))) (zl : outParam (List Value)) : Prop where
  eq : ∀ parts, P.built t parts = Instr.fill (fun i => pl.toArray[i]?) zl.toArray parts

theorem foldl_put (vs : List Value) : ∀ (k off : Nat) (cells : Array Value), ((vs.zipIdx k).foldl (fun cs (x : Value × Nat) => cs.setIfInBounds (off + x.2) x.1) cells) = (putAll cells.toList (off + k) vs).toArray := by
  induction vs with
  | nil => intro k off cells; simp [putAll]
  | cons v vs ih =>
    intro k off cells
    simp only [List.zipIdx_cons, List.foldl_cons, putAll]
    rw [ih]
    simp [Nat.add_assoc]

theorem fill_step (place : Nat → Option (Nat × Nat)) (cs vs : List Value) (i off size : Nat) (v : Value) (rest : List (Nat × Value)) (hp : place i = some (off, size)) (hv : v.cells = vs.toArray) (hl : vs.length = size) (hfit : off + size ≤ cs.length) :
    Instr.fill place cs.toArray ((i, v) :: rest) = Instr.fill place (putAll cs off vs).toArray rest := by
  have h1 : ¬ (off + size > cs.length) := by omega
  have hf := foldl_put vs 0 off cs.toArray
  simp only [Nat.add_zero] at hf
  simp only [Instr.fill, hp, hv, List.size_toArray, hl, ne_eq, not_true_eq_false, decide_false, Bool.false_or, decide_eq_true_eq, if_neg h1]
  rw [← Array.foldl_toList, Array.toList_zipIdx, hf]

inductive Bld (l : Env) (pl : List (Nat × Nat)) : List (Nat × Operand) → List Value → List Value → Prop
  | nil {cs : List Value} : Bld l pl [] cs cs
  | one {i off : Nat} {x : Operand} {v : Value} {parts : List (Nat × Operand)} {cs cs' r : List Value} (hp : pl[i]? = some (off, 1)) (hx : ev l x = some v) (h1 : v.oneCell' = true) (hput : PutR cs off [v] cs') (h : Bld l pl parts cs' r) : Bld l pl ((i, x) :: parts) cs r
  | agg {i off size : Nat} {x : Operand} {vs : List Value} {parts : List (Nat × Operand)} {cs cs' r : List Value} (hp : pl[i]? = some (off, size)) (h0 : 0 < size) (hx : ev l x = some (.agg vs.toArray)) (hl : vs.length = size) (hput : PutR cs off vs cs') (h : Bld l pl parts cs' r) : Bld l pl ((i, x) :: parts) cs r

theorem cells_one {v : Value} (h : v.oneCell' = true) : v.cells = [v].toArray := by cases v <;> simp [Value.oneCell'] at h <;> rfl

theorem Bld.out {a : Act} {n : Nat} {D : List Deferred} {l : Env} (hfr : Fr a n D l) {pl : List (Nat × Nat)} {parts : List (Nat × Operand)} {cs r : List Value} (h : Bld l pl parts cs r) :
    Instr.fill (fun i => pl[i]?) cs.toArray (parts.map fun p => (p.1, a.eval p.2)) = some r.toArray := by
  induction h with
  | nil => simp [Instr.fill]
  | one hp hx h1 hput _ ih =>
    simp only [List.map_cons]
    rw [fill_step _ _ [_] _ _ 1 _ _ hp (by rw [hfr.eval hx]; exact cells_one h1) rfl (by simpa using hput.out.2 (by simp)), ← hput.out.1]
    exact ih
  | @agg i off size x vs parts cs cs' r hp h0 hx hl hput _ ih =>
    simp only [List.map_cons]
    have hv : vs ≠ [] := by rintro rfl; simp at hl; omega
    rw [fill_step _ _ vs _ _ size _ _ hp (by rw [hfr.eval hx]; rfl) hl (by have := hput.out.2 hv; omega), ← hput.out.1]
    exact ih

/-- The elements of a slice literal, in their order. -/
inductive Els (l : Env) (size : Nat) : List (Nat × Operand) → Nat → List (List Value) → Prop
  | nil {k : Nat} : Els l size [] k []
  | one {k : Nat} {x : Operand} {v : Value} {parts : List (Nat × Operand)} {es : List (List Value)} (hx : ev l x = some v) (h1 : v.oneCell' = true) (hs : size = 1) (h : Els l size parts (k + 1) es) : Els l size ((k, x) :: parts) k ([v] :: es)
  | agg {k : Nat} {x : Operand} {vs : List Value} {parts : List (Nat × Operand)} {es : List (List Value)} (hx : ev l x = some (.agg vs.toArray)) (h1 : vs.all (·.oneCell') = true) (hs : vs.length = size) (h : Els l size parts (k + 1) es) : Els l size ((k, x) :: parts) k (vs :: es)

theorem putAll_mid {α : Type} : ∀ (vs pre old post : List α), old.length = vs.length → putAll (pre ++ (old ++ post)) pre.length vs = pre ++ (vs ++ post)
  | [], pre, old, post, h => by
    have : old = [] := List.eq_nil_of_length_eq_zero (by simpa using h)
    subst this; rfl
  | v :: vs, pre, o :: old, post, h => by
    have ih := putAll_mid vs (pre ++ [v]) old post (by simpa using h)
    simp only [List.length_append, List.length_singleton, List.append_assoc, List.singleton_append] at ih
    simp only [putAll, List.cons_append]
    rw [List.set_append_right _ _ (Nat.le_refl _)]
    simpa using ih

theorem Els.out {a : Act} {n : Nat} {D : List Deferred} {l : Env} (hfr : Fr a n D l) {size : Nat} {parts : List (Nat × Operand)} {k : Nat} {es : List (List Value)} (h : Els l size parts k es) :
    es.length = parts.length ∧ (∀ c ∈ es, c.length = size) ∧ (∀ c ∈ es, ∀ v ∈ c, v.oneCell' = true) ∧
    ∀ (pre old : List Value), pre.length = k * size → old.length = parts.length * size → Instr.fill (fun i => some (i * size, size)) (pre ++ old).toArray (parts.map fun p => (p.1, a.eval p.2)) = some (pre ++ es.flatten).toArray := by
  induction h with
  | nil =>
    refine ⟨rfl, by simp, by simp, fun pre old _ ho => ?_⟩
    have : old = [] := List.eq_nil_of_length_eq_zero (by simpa using ho)
    subst this; simp [Instr.fill]
  | @one k x v parts es hx h1 hs _ ih =>
    subst hs
    obtain ⟨i1, i2, i3, i4⟩ := ih
    refine ⟨by simp [i1], by simpa using i2, by simpa [h1] using i3, fun pre old hp ho => ?_⟩
    obtain ⟨u, old, rfl⟩ : ∃ u o, old = u :: o := by cases old with | nil => simp at ho | cons u o => exact ⟨u, o, rfl⟩
    simp only [List.map_cons]
    rw [fill_step _ _ [v] _ (k * 1) 1 _ _ rfl (by rw [hfr.eval hx]; exact cells_one h1) rfl (by simp [hp])]
    have hm := putAll_mid [v] pre [u] old rfl
    simp only [List.singleton_append] at hm
    rw [← hp, hm]
    have := i4 (pre ++ [v]) old (by simp [hp]) (by simpa using ho)
    simpa using this
  | @agg k x vs parts es hx h1 hs _ ih =>
    obtain ⟨i1, i2, i3, i4⟩ := ih
    refine ⟨by simp [i1], by simpa [hs] using i2, fun c hc v hv => ?_, fun pre old hp ho => ?_⟩
    · rcases List.mem_cons.1 hc with rfl | hc
      · exact List.all_eq_true.1 h1 v hv
      · exact i3 c hc v hv
    · have hlen : old.length = size + parts.length * size := by rw [ho]; simp [Nat.add_mul, Nat.add_comm]
      simp only [List.map_cons]
      rw [fill_step _ _ vs _ (k * size) size _ _ rfl (by rw [hfr.eval hx]; rfl) hs (by simp [hp]; omega)]
      have hm := putAll_mid vs pre (old.take size) (old.drop size) (by simp [hs]; omega)
      rw [List.take_append_drop] at hm
      rw [← hp, hm]
      have := i4 (pre ++ vs) (old.drop size) (by simp [hp, hs, Nat.add_mul]) (by simp; omega)
      simpa using this

section rules
variable {F : Fence} {P : Program} {ops : Array Oper} {Q : Exit → Act → World → Prop} {rest : List Oper} {n : Nat} {D : List Deferred} {l : Env} {w0 : World} {L M : List Ent}
variable {d : Nat} {ty : TypeId} {pos : String} {aft : Array Edge}

theorem bd {t : TypeId} {pl : List (Nat × Nat)} {zl : List Value} (hT : BuildTy P t pl zl := by infer_instance) {parts : List (Nat × Operand)} {r : List Value}
    (hb : Bld l pl parts zl r := by repeat (first | exact Bld.nil | (apply Bld.one; exact rfl; exact rfl; exact rfl; (repeat (first | exact PutR.nil | apply PutR.put | apply PutR.skip))) | (apply Bld.agg; exact rfl; exact Nat.succ_pos _; exact rfl; exact rfl; (repeat (first | exact PutR.nil | apply PutR.put | apply PutR.skip))))) : Yd P n D l w0 L (.build t parts.toArray) (.agg r.toArray) :=
  ⟨by simp, by simp, fun oo ho ac w hfr _ => by
    have hbuilt := hb.out hfr
    rw [show (fun i => pl[i]?) = (fun i => pl.toArray[i]?) from by funext i; simp, ← hT.eq] at hbuilt
    have hrun := run_build (P := P) w t (parts.toArray.map fun p => (p.1, ac.eval p.2)) r.toArray (by simpa using hbuilt)
    simp only [List.map_toArray] at hrun
    simp [execOp, ho, hrun]⟩

theorem flatten_get {es : List (List Value)} {size : Nat} (hs : ∀ c ∈ es, c.length = size) : ∀ {k : Nat} {cs : List Value} {j : Nat} {v : Value}, es[k]? = some cs → cs[j]? = some v → es.flatten[k * size + j]? = some v := by
  induction es with
  | nil => intro k cs j v hk; simp at hk
  | cons c es ih =>
    intro k cs j v hk hj
    have hc := hs c (by simp)
    simp only [List.flatten_cons]
    cases k with
    | zero =>
      simp at hk; subst hk
      have hjl : j < c.length := (List.getElem?_eq_some_iff.1 hj).1
      rw [Nat.zero_mul, Nat.zero_add, List.getElem?_append_left hjl]; exact hj
    | succ k =>
      simp at hk
      rw [List.getElem?_append_right (by rw [hc, Nat.add_mul]; omega)]
      have := ih (fun c' h' => hs c' (by simp [h'])) hk hj
      rw [show (k + 1) * size + j - c.length = k * size + j by rw [hc, Nat.add_mul]; omega]
      exact this

theorem flatten_len {es : List (List Value)} {size : Nat} (hs : ∀ c ∈ es, c.length = size) : es.flatten.length = es.length * size := by
  induction es with
  | nil => simp
  | cons c es ih => simp [ih fun c' h' => hs c' (by simp [h']), hs c (by simp), Nat.add_mul, Nat.add_comm]

/-- Out of a row that is owned: it reads. -/
theorem rd_own {w : World} {A : Option Addr} {cap : Nat} {T : TypeId} {size m : Nat} {es : List (List Value)} (ho : w.ownsRow 0 T size (.slice A m cap) m es.flatten) (hl : es.length = m) (hs : ∀ c ∈ es, c.length = size) (h1 : ∀ c ∈ es, ∀ v ∈ c, v.oneCell' = true) : Rd w A size m es := by
  refine ⟨hl, hs, fun hm => ?_, fun ad hA k cs hk j v hj => ?_, h1⟩
  · rcases ho.2 with ⟨_, h0⟩ | ⟨g, cap', cur, hv, _⟩
    · omega
    · injection hv with hv; exact ⟨_, hv⟩
  · subst hA
    rcases ho.2 with ⟨hv, _⟩ | ⟨g, cap', cur, hv, _⟩
    · cases hv
    · injection hv with hv; injection hv with hv; subst hv
      exact ho.cells (g := g) rfl _ v (flatten_get hs hk hj)

theorem bs {t T : TypeId} (hT : SliceTy P t T := by infer_instance) {agg : Bool} {size bytes : Nat} {z : Value} {zl : List Value} (hE : Ty P T agg size bytes z zl := by infer_instance) {len : Nat} {parts : List (Nat × Operand)} {es : List (List Value)}
    (hb : Els l size parts 0 es := by repeat (first | exact Els.nil | (apply Els.one; exact rfl; exact rfl; exact rfl) | (apply Els.agg; exact rfl; exact rfl; exact rfl))) (hlen : parts.length = len := by rfl) (hbig : len * size ≤ 16777216 := by omega) (hpos : 0 < size := by omega)
    (hd : Nat.blt d n = true := by rfl) (h : ∀ b, WL F P ops Q rest n D ((d, .slice (some ⟨b, 0, none⟩) len len) :: l) w0 (.own (some ⟨b, 0, none⟩) len T size len es :: L)) :
    WL F P ops Q (⟨some d, .buildSlice t len parts.toArray, ty, pos, aft, none⟩ :: rest) n D l w0 L :=
  WL.value (X := Nat) (φ := fun _ => True) (val := fun b => .slice (some ⟨b, 0, none⟩) len len) (L' := fun b => .own (some ⟨b, 0, none⟩) len T size len es :: L) (by simp) hd (fun ac w hfr hst => by
    obtain ⟨h1, h2, h3, h4⟩ := hb.out hfr
    have hfl := flatten_len h2
    have hf := h4 [] ((Array.range (len * size)).map (zl.toArray[· % zl.length]!)).toList (by simp) (by simp [hlen])
    simp only [List.nil_append, Array.toArray_toList] at hf
    refine ⟨w.heap.size, w.alloc (.cells es.flatten.toArray T), trivial, ?_, ?_⟩
    · have hsz : ¬ (2 ^ 24 < len * size) := by omega
      by_cases h0 : len * size = 0
      · have hf0 : Instr.fill (fun i => some (i * size, size)) #[] (parts.map fun p => (p.1, ac.eval p.2)) = some es.flatten.toArray := by
          rw [h0, Array.range_zero'] at hf; simpa using hf
        simp [execOp, Instr.buildSlice, run_underlying hT.und, run_sizeOf hE, h0, Array.range_zero', hf0, newRow]
      · simp [execOp, Instr.buildSlice, run_underlying hT.und, run_sizeOf hE, run_zeroValue hE, hE.zc, hsz, h0, newRow] 
        simp at hf
        rw [hf]
        simp
    · have hml : len ≤ maxLen := by
        have : len ≤ len * size := Nat.le_mul_of_pos_right _ hpos
        simp only [maxLen]; omega
      have hown : (w.alloc (.cells es.flatten.toArray T)).ownsRow 0 T size (.slice (some ⟨w.heap.size, 0, none⟩) len len) len es.flatten :=
        ⟨by rw [hfl, h1, hlen], .inr ⟨w.heap.size, len, es.flatten.toArray, rfl, Nat.zero_le _, heap_alloc_new w _, Nat.le_refl _, hml, by simp [hfl, h1, hlen], by
          rw [← hlen, ← h1, ← hfl]; exact List.take_length⟩⟩
      refine St.add (M := [_]) hst ((Below.refl _ w).alloc (Nat.le_refl _) _) (fun e he => ?_) (fun e he b hb' => ?_) (List.pairwise_singleton _ _)
      · simp only [List.mem_singleton] at he; subst he
        exact ⟨hown, rd_own hown (by rw [h1, hlen]) h2 h3⟩
      · simp only [List.mem_singleton] at he; subst he
        obtain ⟨ad, had, rfl⟩ := hb'
        injection had with had; subst had; exact Nat.le_refl _) (fun b _ => h b)

end rules
end Go.Proofs.Ytacaojifempclaa
