/- Maps whose keys are numbers; plain laws, no program is named here. -/
import Derived.Test.YtjkoaifjmcgpfaaWG
namespace Go.Proofs.Ytjkoaifjmcgpfaa
open Go Go.RowKit

/-- The entries of a map, in their order: keys and values. -/
def MapN (es : Array MapEntry) (kv : List (Int × Value)) : Prop := es.toList.map (fun e => (e.key, e.val)) = kv.map fun p => (.int .i64 p.1, p.2)
def lkn (kv : List (Int × Value)) (k : Int) : Option Value := match kv with
  | [] => none
  | p :: kv => if k = p.1 then some p.2 else lkn kv k
def upn (kv : List (Int × Value)) (k : Int) (v : Value) : List (Int × Value) := match kv with
  | [] => [(k, v)]
  | p :: kv => if k = p.1 then (k, v) :: kv else p :: upn kv k v
theorem lkn_up : ∀ (kv : List (Int × Value)) (k k' : Int) (v : Value), lkn (upn kv k v) k' = if k' = k then some v else lkn kv k'
  | [], k, k', v => by simp [upn, lkn]
  | p :: kv, k, k', v => by
    have ih := lkn_up kv k k' v
    rw [upn]
    by_cases h : k = p.1
    · rw [if_pos h, lkn, lkn]
      by_cases h' : k' = k
      · simp [h']
      · rw [if_neg h', if_neg h', if_neg (fun e => h' (e.trans h.symm))]
    · rw [if_neg h, lkn, lkn, ih]
      by_cases h1 : k' = p.1
      · rw [if_pos h1, if_neg (fun e => h (e.symm.trans h1)), if_pos h1]
      · rw [if_neg h1, if_neg h1]
theorem mapN0 : MapN #[] [] := rfl
class IntTy (P : Program) (t : TypeId) : Prop where
  und : P.underlying t = some (.int .i64)

section
variable {P : Program}
theorem findNow_int {k : Int} : ∀ (es : List MapEntry) (kv : List (Int × Value)) (i : Nat), es.map (fun e => (e.key, e.val)) = kv.map (fun p => (.int .i64 p.1, p.2)) →
    (Instr.findNow (.int .i64) (.int .i64 k) es i = some none ∧ lkn kv k = none ∧ ∀ v, upn kv k v = kv ++ [(k, v)]) ∨
    ∃ j u e', Instr.findNow (.int .i64) (.int .i64 k) es i = some (some (i + j, u)) ∧ lkn kv k = some u ∧ es[j]? = some e' ∧ e'.key = .int .i64 k ∧ ∀ v, (es.set j { e' with val := v }).map (fun e => (e.key, e.val)) = (upn kv k v).map fun p => (.int .i64 p.1, p.2)
  | [], [], i, _ => .inl ⟨rfl, rfl, fun _ => rfl⟩
  | [], p :: kv, i, h => by simp at h
  | e :: es, [], i, h => by simp at h
  | e :: es, p :: kv, i, h => by
    simp only [List.map_cons, List.cons.injEq, Prod.mk.injEq] at h
    obtain ⟨⟨h1, h2⟩, h3⟩ := h
    by_cases hk : k = p.1
    · right
      refine ⟨0, e.val, e, ?_, ?_, rfl, by rw [h1, hk], fun v => ?_⟩
      · simp [Instr.findNow, Instr.sameNow, h1, hk]
      · rw [lkn, if_pos hk, h2]
      · rw [upn, if_pos hk]
        simp only [List.set_cons_zero, List.map_cons, List.cons.injEq, Prod.mk.injEq]
        exact ⟨⟨by rw [h1, hk], trivial⟩, h3⟩
    · have hn : Instr.findNow (.int .i64) (.int .i64 k) (e :: es) i = Instr.findNow (.int .i64) (.int .i64 k) es (i + 1) := by
        have hkb : (k == p.1) = false := by simpa using hk
        simp [Instr.findNow, Instr.sameNow, h1, hkb]
      rcases findNow_int es kv (i + 1) h3 with ⟨q1, q2, q3⟩ | ⟨j, u, e', q1, q2, q3, q4, q5⟩
      · left
        refine ⟨by rw [hn, q1], by rw [lkn, if_neg hk, q2], fun v => by rw [upn, if_neg hk, q3]; rfl⟩
      · right
        refine ⟨j + 1, u, e', by rw [hn, q1]; congr 3; omega, by rw [lkn, if_neg hk, q2], q3, q4, fun v => ?_⟩
        rw [upn, if_neg hk]
        simp only [List.set_cons_succ, List.map_cons, h1, h2, q5 v]
theorem run_findKeyN {kt : TypeId} (hK : P.underlying kt = some (.int .i64)) {k : Int} (es : List MapEntry) (kv : List (Int × Value)) (w : World) (h : es.map (fun e => (e.key, e.val)) = kv.map (fun p => (.int .i64 p.1, p.2))) :
    ((Instr.findKey kt (.int .i64 k) es).run P w = .ok none w ∧ lkn kv k = none ∧ ∀ v, upn kv k v = kv ++ [(k, v)]) ∨
    ∃ j u e', (Instr.findKey kt (.int .i64 k) es).run P w = .ok (some (j, u)) w ∧ lkn kv k = some u ∧ es[j]? = some e' ∧ e'.key = .int .i64 k ∧ ∀ v, (es.set j { e' with val := v }).map (fun e => (e.key, e.val)) = (upn kv k v).map fun p => (.int .i64 p.1, p.2) := by
  rcases findNow_int (k := k) es kv 0 h with ⟨q1, q2, q3⟩ | ⟨j, u, e', q1, q2, q3, q4, q5⟩
  · exact .inl ⟨by simp [Instr.findKey, run_underlying hK, q1], q2, q3⟩
  · rw [Nat.zero_add] at q1
    exact .inr ⟨j, u, e', by simp [Instr.findKey, run_underlying hK, q1], q2, q3, q4, q5⟩
theorem run_checkN {kt : TypeId} (hK : P.underlying kt = some (.int .i64)) (em : Bool) (k : Int) (w : World) : (Instr.checkKey em 10000 kt (.int .i64 k)).run P w = .ok () w := by
  have h : ∀ n : Nat, (Instr.checkKey em (n + 1) kt (.int .i64 k)).run P w = .ok () w := fun n => by
    rw [Instr.checkKey]
    simp [run_underlying hK]
  exact h 9999
theorem run_lookupN {t kt e : TypeId} {agg : Bool} {size bytes : Nat} {z : Value} {zl : List Value} (hT : MapTy P t kt e) (hK : P.underlying kt = some (.int .i64)) (hE : Ty P e agg size bytes z zl) {w : World} {b : Nat} {es : Array MapEntry} {c : Nat} (hb : w.heap[b]? = some (.map es c)) {kv : List (Int × Value)} (hm : MapN es kv) (k : Int) (ok : Bool) :
    (Instr.lookup t (.map (some b)) (.int .i64 k) ok).run P w = .ok (bif ok then .tuple #[(lkn kv k).getD z, .bool (lkn kv k).isSome] else (lkn kv k).getD z) w := by
  have hck := fun em => run_checkN (P := P) hK em k w
  unfold Instr.lookup
  rcases run_findKeyN hK (k := k) es.toList kv w hm with ⟨q1, q2, _⟩ | ⟨j, u, e', q1, q2, _⟩
  · simp only [Sem.run_bind, run_underlying hT.und, Result.andThen_ok, getMap hb, Sem.run_pure, hck, q1, run_zeroValue hE, q2]
    cases ok <;> rfl
  · simp only [Sem.run_bind, run_underlying hT.und, Result.andThen_ok, getMap hb, hck, q1, q2, Sem.run_pure]
    cases ok <;> rfl
theorem run_updateN {t kt e : TypeId} (hT : MapTy P t kt e) (hK : P.underlying kt = some (.int .i64)) {w : World} {b : Nat} {es : Array MapEntry} {c : Nat} (hb : w.heap[b]? = some (.map es c)) {kv : List (Int × Value)} (hm : MapN es kv) (k : Int) (v : Value) :
    ∃ es' c', (Instr.mapUpdate t (.map (some b)) (.int .i64 k) v).run P w = .ok () (w.putObj b (.map es' c')) ∧ MapN es' (upn kv k v) := by
  have hck := fun em => run_checkN (P := P) hK em k w
  unfold Instr.mapUpdate
  rcases run_findKeyN hK (k := k) es.toList kv w hm with ⟨q1, q2, q3⟩ | ⟨j, u, e', q1, q2, h3, h4, h5⟩
  · simp only [Sem.run_bind, run_underlying hT.und, Result.andThen_ok, getMap hb, hck, q1]
    refine ⟨_, _, putMap _ hb, ?_⟩
    have hm' : es.toList.map (fun e => (e.key, e.val)) = kv.map fun p => (Value.int .i64 p.1, p.2) := hm
    simp only [MapN, q3, Array.toList_push, List.map_append, hm', List.map_cons, List.map_nil]
  · have hj : es[j]? = some e' := by simpa using h3
    have hjl : j < es.size := (Array.getElem?_eq_some_iff.1 hj).1
    have hst : (Instr.keyThatStays (.int .i64 k) (.int .i64 k)).run P w = .ok (.int .i64 k) w := by
      simp [Instr.keyThatStays, Instr.sameBits]
    simp only [Sem.run_bind, run_underlying hT.und, Result.andThen_ok, getMap hb, hck, q1, hj, Option.map_some, Option.getD_some, h4, hst]
    refine ⟨_, _, putMap _ hb, ?_⟩
    have he : (es.modify j fun e => { e with key := .int .i64 k, val := v }).toList = es.toList.set j { e' with val := v } := by
      rw [Array.toList_modify]
      refine List.ext_getElem? fun i => ?_
      rw [List.getElem?_modify, List.getElem?_set]
      by_cases e : j = i
      · subst e
        have : es.toList[j]? = some e' := h3
        rw [this]
        simp [hjl, ← h4]
      · simp [e]
    rw [MapN, he]
    exact h5 v
end

section rules
variable {F : Fence} {P : Program} {ops : Array Oper} {Q : Exit → Act → World → Prop} {rest : List Oper} {n : Nat} {D : List Deferred} {l : Env} {w0 : World} {L M : List Ent}
variable {d : Nat} {ty : TypeId} {pos : String} {aft : Array Edge}
theorem lkNI {m x : Operand} {t kt e : TypeId} {agg : Bool} {size bytes : Nat} {z : Value} {zl : List Value} {b : Nat} {es : Array MapEntry} {c : Nat} {kv : List (Int × Value)} {k : Int}
    (hm : MapN es kv) (hT : MapTy P t kt e := by infer_instance) (hK : P.underlying kt = some (.int .i64) := by kernel_rfl) (hE : Ty P e agg size bytes z zl := by infer_instance) (hx : ev l m = some (.map (some b)) := by exact rfl) (hy : ev l x = some (.int .i64 k) := by exact rfl)
    (ha : At L (.obj b (.map es c)) M := by repeat (first | exact At.here | apply At.there)) : Yd P n D l w0 L (.lookup t m x false) ((lkn kv k).getD z) :=
  ⟨by simp, by simp, fun oo ho ac w hfr hst => by
    have hr := run_lookupN hT hK hE (hst _ ha.mem) hm k false
    simp [execOp, ho, hfr.eval hx, hfr.eval hy, hr]⟩
theorem mupN {m x y : Operand} {t kt e : TypeId} {b : Nat} {es : Array MapEntry} {c : Nat} {kv : List (Int × Value)} {k : Int} {v : Value}
    (hm : MapN es kv) (hT : MapTy P t kt e := by infer_instance) (hK : P.underlying kt = some (.int .i64) := by kernel_rfl) (hx : ev l m = some (.map (some b)) := by exact rfl) (hy : ev l x = some (.int .i64 k) := by exact rfl) (hv : ev l y = some v := by exact rfl)
    (ha : At L (.obj b (.map es c)) M := by repeat (first | exact At.here | apply At.there)) (h : ∀ es' c', MapN es' (upn kv k v) → WL F P ops Q rest n D l w0 (.obj b (.map es' c') :: M)) : WL F P ops Q (⟨none, .mapUpdate t m x y, ty, pos, aft, none⟩ :: rest) n D l w0 L := by
  intro hF a w hfr hst
  have hst1 := hst.pull ha
  obtain ⟨es', c', hr, hm'⟩ := run_updateN (P := P) hT hK hst1.objAt hm k v
  have he : (execOp a.eval ⟨none, .mapUpdate t m x y, ty, pos, aft, none⟩).run P w = .ok .skip (w.putObj b (.map es' c')) := by
    simp [execOp, hfr.eval hx, hfr.eval hy, hfr.eval hv, hr]
  show (if _ then _ else _)
  rw [if_pos (by simp [Region.wanted])]
  refine ⟨fun f _ => hF.fn f, ?_⟩
  rw [semAt_plain (by simp), he]
  exact h es' c' hm' hF _ _ (hfr.put_none (.bool true)) (hst1.putObj _)
end rules
end Go.Proofs.Ytjkoaifjmcgpfaa
