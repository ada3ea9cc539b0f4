/- Rules for maps whose keys are flat structs. Plain laws, no program is named here. -/
import Derived.Test.YtacaojifempclaaWF
namespace Go.Proofs.Ytacaojifempclaa
open Go Go.RowKit

section rules
variable {F : Fence} {P : Program} {ops : Array Oper} {Q : Exit → Act → World → Prop} {rest : List Oper} {n : Nat} {D : List Deferred} {l : Env} {w0 : World} {L M : List Ent}
variable {d : Nat} {ty : TypeId} {pos : String} {aft : Array Edge}

theorem getMap {w : World} {r : Nat} {es : Array MapEntry} {c : Nat} (h : w.heap[r]? = some (.map es c)) : (getObj r).run P w = .ok (.map es c) w := by simp [getObj, Sem.run, h]
theorem putMap {w : World} {r : Nat} {es : Array MapEntry} {c : Nat} (o : Obj) (h : w.heap[r]? = some (.map es c)) : (setObj r o).run P w = .ok () (w.putObj r o) := by simp [setObj, Sem.run, h, World.putObj]

/-- A new map. -/
theorem mkm {t : TypeId} (hd : Nat.blt d n = true := by rfl) (h : ∀ b, WL F P ops Q rest n D ((d, .map (some b)) :: l) w0 (.obj b (.map #[] 0) :: L)) : WL F P ops Q (⟨some d, .makeMap t none, ty, pos, aft, none⟩ :: rest) n D l w0 L :=
  WL.value (X := Nat) (φ := fun _ => True) (val := fun b => .map (some b)) (L' := fun b => .obj b (.map #[] 0) :: L) (by simp) hd (fun a w hfr hst => ⟨w.heap.size, _, trivial, by simp [execOp, Instr.makeMap], hst.allocObj _⟩) (fun b _ => h b)

theorem run_lookupF {t kt e : TypeId} {ks : List Bool} {agg : Bool} {size bytes : Nat} {z : Value} {zl : List Value} (hT : MapTy P t kt e) (hK : FlatTy P kt ks) (hE : Ty P e agg size bytes z zl) {w : World} {b : Nat} {es : Array MapEntry} {c : Nat} (hb : w.heap[b]? = some (.map es c)) {kv : List (List Fl × Value)} (hm : MapIs es kv) (hs : ∀ p ∈ kv, shapeOf p.1 = ks) {k : List Fl} (hk : shapeOf k = ks) (ok : Bool) :
    (Instr.lookup t (.map (some b)) (.agg (fv k).toArray) ok).run P w = .ok (bif ok then .tuple #[(lkp kv k).getD z, .bool (lkp kv k).isSome] else (lkp kv k).getD z) w := by
  obtain ⟨r, hr, hc⟩ := run_findKey hK hk es.toList kv w hm hs
  have hck := fun em => checkKeyF em 8 kt ks hK.flt 9992 k w hk
  simp only [fval, hK.agg, cond_true] at hck
  have hck' : ∀ em, (Instr.checkKey em 10000 kt (.agg (fv k).toArray)).run P w = .ok () w := hck
  unfold Instr.lookup
  simp only [Sem.run_bind, run_underlying hT.und, Result.andThen_ok, getMap hb, Sem.run_pure, hck', hr]
  rcases hc with ⟨rfl, h1, _⟩ | ⟨j, v, e', rfl, h1, _⟩
  · simp only [Sem.run_bind, run_zeroValue hE, Result.andThen_ok, Sem.run_pure, h1]
    cases ok <;> rfl
  · simp only [Sem.run_pure, Result.andThen_ok, h1]
    cases ok <;> rfl

/-- What a map holds, and whether it does. -/
theorem lkC {m x : Operand} {t kt e : TypeId} {ks : List Bool} {agg : Bool} {size bytes : Nat} {z : Value} {zl : List Value} (hT : MapTy P t kt e := by infer_instance) (hK : FlatTy P kt ks := by infer_instance) (hE : Ty P e agg size bytes z zl := by infer_instance) {b : Nat} {es : Array MapEntry} {c : Nat} {kv : List (List Fl × Value)} {cs : List Value} {k : List Fl}
    (hm : MapIs es kv) (hs : ∀ p ∈ kv, shapeOf p.1 = ks) (hx : ev l m = some (.map (some b)) := by exact rfl) (hy : ev l x = some (.agg cs.toArray) := by exact rfl) (hl : FlL cs k := by repeat (first | exact FlL.nil | apply FlL.int | apply FlL.bool)) (hk : shapeOf k = ks := by rfl)
    (ha : At L (.obj b (.map es c)) M := by repeat (first | exact At.here | apply At.there)) : Yd P n D l w0 L (.lookup t m x true) (.tuple #[(lkp kv k).getD z, .bool (lkp kv k).isSome]) :=
  ⟨by simp, by simp, fun oo ho ac w hfr hst => by
    have hr := run_lookupF hT hK hE (hst _ ha.mem) hm hs hk true
    rw [← hl.out] at hr
    simp [execOp, ho, hfr.eval hx, hfr.eval hy, hr]⟩
theorem lkN {m x : Operand} {t kt e : TypeId} {ks : List Bool} {agg : Bool} {size bytes : Nat} {z : Value} {zl : List Value} (hT : MapTy P t kt e := by infer_instance) (hK : FlatTy P kt ks := by infer_instance) (hE : Ty P e agg size bytes z zl := by infer_instance) {b : Nat} {es : Array MapEntry} {c : Nat} {kv : List (List Fl × Value)} {cs : List Value} {k : List Fl}
    (hm : MapIs es kv) (hs : ∀ p ∈ kv, shapeOf p.1 = ks) (hx : ev l m = some (.map (some b)) := by exact rfl) (hy : ev l x = some (.agg cs.toArray) := by exact rfl) (hl : FlL cs k := by repeat (first | exact FlL.nil | apply FlL.int | apply FlL.bool)) (hk : shapeOf k = ks := by rfl)
    (ha : At L (.obj b (.map es c)) M := by repeat (first | exact At.here | apply At.there)) : Yd P n D l w0 L (.lookup t m x false) ((lkp kv k).getD z) :=
  ⟨by simp, by simp, fun oo ho ac w hfr hst => by
    have hr := run_lookupF hT hK hE (hst _ ha.mem) hm hs hk false
    rw [← hl.out] at hr
    simp [execOp, ho, hfr.eval hx, hfr.eval hy, hr]⟩

theorem sameBits_flat (k : List Fl) : Instr.sameBits 10000 (.agg (fv k).toArray) (.agg (fv k).toArray) = true := by
  have h1 : ∀ (m : Nat) (x : Fl), Instr.sameBits m x.v x.v = true := fun m x => by cases x <;> cases m <;> simp [Fl.v, Instr.sameBits]
  show Instr.sameBits (9999 + 1) _ _ = true
  simp only [Instr.sameBits, List.size_toArray, beq_self_eq_true, Bool.true_and, List.all_eq_true]
  intro p hp
  have : ∃ x : Fl, p = (x.v, x.v) := by
    have hz : (fv k).zip (fv k) = k.map fun x => (x.v, x.v) := by
      simp only [fv, List.zip_map']
    have hp' : p ∈ (fv k).zip (fv k) := by simpa using hp
    rw [hz] at hp'
    obtain ⟨x, _, rfl⟩ := List.mem_map.1 hp'
    exact ⟨x, rfl⟩
  obtain ⟨x, rfl⟩ := this
  exact h1 _ x

theorem run_updateF {t kt e : TypeId} {ks : List Bool} (hT : MapTy P t kt e) (hK : FlatTy P kt ks) {w : World} {b : Nat} {es : Array MapEntry} {c : Nat} (hb : w.heap[b]? = some (.map es c)) {kv : List (List Fl × Value)} (hm : MapIs es kv) (hs : ∀ p ∈ kv, shapeOf p.1 = ks) {k : List Fl} (hk : shapeOf k = ks) (v : Value) :
    ∃ es' c', (Instr.mapUpdate t (.map (some b)) (.agg (fv k).toArray) v).run P w = .ok () (w.putObj b (.map es' c')) ∧ MapIs es' (updM kv k v) := by
  obtain ⟨r, hr, hc⟩ := run_findKey hK hk es.toList kv w hm hs
  have hck := fun em => checkKeyF em 8 kt ks hK.flt 9992 k w hk
  simp only [fval, hK.agg, cond_true] at hck
  have hck' : ∀ em, (Instr.checkKey em 10000 kt (.agg (fv k).toArray)).run P w = .ok () w := hck
  unfold Instr.mapUpdate
  simp only [Sem.run_bind, run_underlying hT.und, Result.andThen_ok, getMap hb, Sem.run_pure, hck', hr]
  rcases hc with ⟨rfl, h1, h2⟩ | ⟨j, u, e', rfl, h1, h3, h4, h5⟩
  · refine ⟨_, _, putMap _ hb, ?_⟩
    have hm' : es.toList.map (fun e => (e.key, e.val)) = kv.map fun p => (Value.agg (fv p.1).toArray, p.2) := hm
    simp only [MapIs, h2, Array.toList_push, List.map_append, hm', List.map_cons, List.map_nil]
  · have hj : es[j]? = some e' := by simpa using h3
    have hjl : j < es.size := (Array.getElem?_eq_some_iff.1 hj).1
    have hst : (Instr.keyThatStays (.agg (fv k).toArray) (.agg (fv k).toArray)).run P w = .ok (.agg (fv k).toArray) w := by
      simp [Instr.keyThatStays, sameBits_flat]
    simp only [hj, Option.map_some, Option.getD_some, h4, Sem.run_bind, hst, Result.andThen_ok]
    refine ⟨_, _, putMap _ hb, ?_⟩
    have he : (es.modify j fun e => { e with key := .agg (fv k).toArray, val := v }).toList = es.toList.set j { e' with val := v } := by
      rw [Array.toList_modify]
      refine List.ext_getElem? fun i => ?_
      rw [List.getElem?_modify, List.getElem?_set]
      by_cases e : j = i
      · subst e
        have : es.toList[j]? = some e' := h3
        rw [this]
        simp [hjl, ← h4]
      · simp [e]
    rw [MapIs, he]
    exact h5 v

/-- A map's entry is set. -/
theorem mup {m x y : Operand} {t kt e : TypeId} {ks : List Bool} (hT : MapTy P t kt e := by infer_instance) (hK : FlatTy P kt ks := by infer_instance) {b : Nat} {es : Array MapEntry} {c : Nat} {kv : List (List Fl × Value)} {cs : List Value} {k : List Fl} {v : Value}
    (hm : MapIs es kv) (hs : ∀ p ∈ kv, shapeOf p.1 = ks) (hx : ev l m = some (.map (some b)) := by exact rfl) (hy : ev l x = some (.agg cs.toArray) := by exact rfl) (hv : ev l y = some v := by exact rfl) (hl : FlL cs k := by repeat (first | exact FlL.nil | apply FlL.int | apply FlL.bool)) (hk : shapeOf k = ks := by rfl)
    (ha : At L (.obj b (.map es c)) M := by repeat (first | exact At.here | apply At.there)) (h : ∀ es' c', MapIs es' (updM kv k v) → WL F P ops Q rest n D l w0 (.obj b (.map es' c') :: M)) : WL F P ops Q (⟨none, .mapUpdate t m x y, ty, pos, aft, none⟩ :: rest) n D l w0 L := by
  intro hF a w hfr hst
  have hst1 := hst.pull ha
  obtain ⟨es', c', hr, hm'⟩ := run_updateF (P := P) hT hK hst1.objAt hm hs hk v
  rw [← hl.out] at hr
  have he : (execOp a.eval ⟨none, .mapUpdate t m x y, ty, pos, aft, none⟩).run P w = .ok .skip (w.putObj b (.map es' c')) := by
    simp [execOp, hfr.eval hx, hfr.eval hy, hfr.eval hv, hr]
  show (if _ then _ else _)
  rw [if_pos (by simp [Region.wanted])]
  refine ⟨fun f _ => hF.fn f, ?_⟩
  rw [semAt_plain (by simp), he]
  exact h es' c' hm' hF _ _ (hfr.put_none (.bool true)) (hst1.putObj _)
/-- An entry of a map's literal is set. -/
theorem mupI {m x y : Operand} {t kt e : TypeId} {ks : List Bool} (hT : MapTy P t kt e := by infer_instance) (hK : FlatTy P kt ks := by infer_instance) {b : Nat} {es : Array MapEntry} {c : Nat} {kv : List (List Fl × Value)} {cs : List Value} {k : List Fl} {v : Value}
    (hm : MapIs es kv) (hs : ∀ p ∈ kv, shapeOf p.1 = ks) (hx : ev l m = some (.map (some b)) := by exact rfl) (hy : ev l x = some (.agg cs.toArray) := by exact rfl) (hv : ev l y = some v := by exact rfl) (hl : FlL cs k := by repeat (first | exact FlL.nil | apply FlL.int | apply FlL.bool)) (hk : shapeOf k = ks := by rfl)
    (ha : At L (.obj b (.map es c)) M := by repeat (first | exact At.here | apply At.there)) (h : ∀ es' c', MapIs es' (updM kv k v) → WL F P ops Q rest n D l w0 (.obj b (.map es' c') :: M)) : WL F P ops Q (⟨none, .insert t m x y, ty, pos, aft, none⟩ :: rest) n D l w0 L := by
  intro hF a w hfr hst
  have hst1 := hst.pull ha
  obtain ⟨es', c', hr, hm'⟩ := run_updateF (P := P) hT hK hst1.objAt hm hs hk v
  rw [← hl.out] at hr
  have he : (execOp a.eval ⟨none, .insert t m x y, ty, pos, aft, none⟩).run P w = .ok .skip (w.putObj b (.map es' c')) := by
    simp [execOp, hfr.eval hx, hfr.eval hy, hfr.eval hv, hr]
  show (if _ then _ else _)
  rw [if_pos (by simp [Region.wanted])]
  refine ⟨fun f _ => hF.fn f, ?_⟩
  rw [semAt_plain (by simp), he]
  exact h es' c' hm' hF _ _ (hfr.put_none (.bool true)) (hst1.putObj _)
theorem mapIs0 : MapIs #[] [] := rfl
end rules
theorem updM_shape {ks : List Bool} : ∀ {kv : List (List Fl × Value)} {k : List Fl} {v : Value}, (∀ p ∈ kv, shapeOf p.1 = ks) → shapeOf k = ks → ∀ p ∈ updM kv k v, shapeOf p.1 = ks
  | [], k, v, _, hk, p, hp => by simp only [updM, List.mem_singleton] at hp; subst hp; exact hk
  | q :: kv, k, v, hs, hk, p, hp => by
    rw [updM] at hp
    split at hp
    · rcases List.mem_cons.1 hp with rfl | hp
      · exact hk
      · exact hs p (by simp [hp])
    · rcases List.mem_cons.1 hp with rfl | hp
      · exact hs _ (by simp)
      · exact updM_shape (kv := kv) (fun p hp => hs p (by simp [hp])) hk p hp
theorem lkp_upd : ∀ (kv : List (List Fl × Value)) (k k' : List Fl) (v : Value), lkp (updM kv k v) k' = if k' = k then some v else lkp kv k'
  | [], k, k', v => by
    by_cases e : k' = k <;> simp [updM, lkp, e]
  | p :: kv, k, k', v => by
    have ih := lkp_upd kv k k' v
    by_cases e : k = p.1
    · rw [updM, if_pos e]
      by_cases e' : k' = k
      · simp [lkp, e']
      · have : ¬ k' = p.1 := fun h => e' (h.trans e.symm)
        simp [lkp, e', this]
    · rw [updM, if_neg e]
      by_cases e1 : k' = p.1
      · have : ¬ k' = k := fun h => e (h.symm.trans e1)
        simp [lkp, e1]
        exact fun h => absurd h.symm e
      · simpa [lkp, e1] using ih
end Go.Proofs.Ytacaojifempclaa
