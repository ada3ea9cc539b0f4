/- More rules: a place in a slice that is not nil, a store of a whole element. Plain laws, no program is named here. -/
import Derived.Test.YtdphljhhcaoleaaWD
namespace Go.Proofs.Ytdphljhhcaoleaa
open Go Go.RowKit

section rules
variable {F : Fence} {P : Program} {ops : Array Oper} {Q : Exit → Act → World → Prop} {rest : List Oper} {n : Nat} {D : List Deferred} {l : Env} {w0 : World} {L M : List Ent}
variable {d : Nat} {ty : TypeId} {pos : String} {aft : Array Edge}

/-- A row of one's own that is not empty is not nil. -/
theorem WC.some_ {c : Code} {A : Option Addr} {cap : Nat} {T : TypeId} {size k : Nat} {es : List (List Value)} (ha : At L (.own A cap T size k es) M) (hk : 0 < k) (h : A.isSome = true → WC F P c Q n D l w0 L) : WC F P c Q n D l w0 L :=
  WC.know (fun w hst => by
    obtain ⟨ad, rfl⟩ := (hst.ok _ ha.mem).2.some_ hk
    rfl) h

theorem ixS {x i : Operand} {t e : TypeId} (hT : SliceTy P t e := by infer_instance) {agg : Bool} {size bytes : Nat} {z : Value} {zl : List Value} (hE : Ty P e agg size bytes z zl := by infer_instance) {A : Option Addr} {m c : Nat} {k : IntKind} {j : Int}
    (hx : ev l x = some (.slice A m c) := by exact rfl) (hi : ev l i = some (.int k j) := by exact rfl)
    (hs : A.isSome = true := by assumption) (hb : 0 ≤ j ∧ j < m := by omega) : Yd P n D l w0 L (.indexAddr t x i) (pe A size j.toNat 0) :=
  ⟨by simp, by simp, fun oo ho ac w hfr hst => by
    obtain ⟨ad, rfl⟩ := Option.isSome_iff_exists.1 hs
    simp [execOp, ho, hfr.eval hx, hfr.eval hi, Instr.indexAt, asIntOf, run_underlying hT.und, hb, run_sizeOf hE, pe]⟩

theorem run_storeRow {A : Option Addr} {cap : Nat} {T : TypeId} {size m k : Nat} : ∀ (vs : List Value) (i : Nat) (w : World) (es : List (List Value)) (cs : List Value), St w0 w (.own A cap T size m es :: M) → es[k]? = some cs → i + vs.length ≤ size → (∀ v ∈ vs, v.oneCell' = true) →
    ∃ w', (∀ ad, A = some ad → (storeCells (ad.add (k * size)) vs i).run P w = .ok () w') ∧ St w0 w' (.own A cap T size m (es.set k (putAll cs i vs)) :: M)
  | [], i, w, es, cs, h, hk, _, _ => ⟨w, fun ad _ => by simp [storeCells], by
      rw [putAll]
      have : es.set k cs = es := by
        refine List.ext_getElem? fun j => ?_
        rw [List.getElem?_set]
        split
        · next e => subst e; rw [hk]; simp [(List.getElem?_eq_some_iff.1 hk).1]
        · rfl
      rw [this]; exact h⟩
  | v :: vs, i, w, es, cs, h, hk, hl, h1 => by
    have hl' : i + (vs.length + 1) ≤ size := by simpa using hl
    obtain ⟨ad, hA, ⟨u, hu⟩, hf, hs⟩ := own_set h hk (j := i) (v := v) (by omega) (h1 v (by simp))
    have hk' : (es.set k (cs.set i v))[k]? = some (cs.set i v) := List.getElem?_set_self (List.getElem?_eq_some_iff.1 hk).1
    obtain ⟨w', hr, hs'⟩ := run_storeRow vs (i + 1) _ _ _ hs hk' (by omega) (fun u hu => h1 u (by simp [hu]))
    rw [List.set_set] at hs'
    refine ⟨w', fun ad' hA' => ?_, hs'⟩
    rw [hA] at hA'; injection hA' with hA'; subst hA'
    unfold storeCells
    rw [Sem.run_bind, add_add', run_store P w _ v _ (h1 v (by simp)), hu]
    simp only [hf, Bool.false_eq_true, if_false, Result.andThen_ok]
    exact hr ad hA
theorem putAll_whole {α : Type} : ∀ (vs cs : List α), cs.length = vs.length → putAll cs 0 vs = vs
  | [], cs, h => by simpa [putAll] using List.eq_nil_of_length_eq_zero h
  | v :: vs, c :: cs, h => by
    simp only [putAll, List.set_cons_zero]
    rw [putAll_cons, putAll_whole vs cs (by simpa using h)]

/-- A store of a whole element. -/
theorem stEW {x y : Operand} {t T : TypeId} {bytes sz cap m k : Nat} {z : Value} {zl : List Value} {A : Option Addr} {es : List (List Value)} {vs : List Value} (hx : ev l x = some (pe A sz k 0) := by exact rfl) (hy : ev l y = some (.agg vs.toArray) := by exact rfl)
    (hT : Ty P t true sz bytes z zl := by infer_instance) (h1 : vs.all (·.oneCell') = true := by rfl) (hsz : vs.length = sz := by rfl)
    (ha : At L (.own A cap T sz m es) M := by repeat (first | exact At.here | apply At.there)) (hk : k < m := by omega)
    (h : WL F P ops Q rest n D l w0 (.own A cap T sz m (es.set k vs) :: M)) : WL F P ops Q (⟨none, .store t x y, ty, pos, aft, none⟩ :: rest) n D l w0 L :=
  WL.skipop (by simp) (fun ac w hfr hst => by
    have hst1 := hst.pull ha
    have hrd := (hst1.ok _ List.mem_cons_self).2
    have hlen : es.length = m := hrd.len
    have hke : es[k]? = some (es[k]'(by omega)) := List.getElem?_eq_getElem _
    have hcl := hrd.each _ (List.mem_of_getElem? hke)
    obtain ⟨ad, rfl⟩ := hrd.some_ (by omega)
    obtain ⟨w', hr, hs⟩ := run_storeRow (P := P) vs 0 w es _ hst1 hke (by omega) (by simpa using h1)
    rw [putAll_whole _ _ (by omega)] at hs
    refine ⟨w', ?_, hs⟩
    have he := hfr.eval hx
    have hr' := hr ad rfl
    simp [execOp, he, pe, hfr.eval hy, Instr.storeAt, Instr.sureAddr, storeVar, run_sizeOf hT, Value.cells, hsz, hr']) h
end rules

/-! #### a list of which the first k are turned -/
def mix {α : Type} (f : α → α) (l : List α) (k : Nat) : List α := (l.take k).map f ++ l.drop k
theorem mix_zero {α : Type} (f : α → α) (l : List α) : mix f l 0 = l := by simp [mix]
theorem mix_end {α : Type} (f : α → α) (l : List α) {k : Nat} (h : l.length ≤ k) : mix f l k = l.map f := by
  rw [mix, List.take_of_length_le h, List.drop_eq_nil_of_le h, List.append_nil]
theorem mix_len {α : Type} (f : α → α) (l : List α) (k : Nat) : (mix f l k).length = l.length := by
  simp [mix]; omega
theorem mix_at {α : Type} {f : α → α} {l : List α} {k : Nat} {x : α} (h : l[k]? = some x) : (mix f l k)[k]? = some x := by
  have hk : k < l.length := (List.getElem?_eq_some_iff.1 h).1
  rw [mix, List.getElem?_append_right (by simp; omega)]
  simp [Nat.min_eq_left (Nat.le_of_lt hk), h]
theorem mix_set {α : Type} {f : α → α} {l : List α} {k : Nat} {x : α} (h : l[k]? = some x) : (mix f l k).set k (f x) = mix f l (k + 1) := by
  have hk : k < l.length := (List.getElem?_eq_some_iff.1 h).1
  rw [mix, mix, List.take_add_one, h]
  rw [List.set_append_right _ _ (by simp; omega)]
  simp [Nat.min_eq_left (Nat.le_of_lt hk)]
  rw [List.drop_eq_getElem_cons hk]; rfl
end Go.Proofs.Ytdphljhhcaoleaa
