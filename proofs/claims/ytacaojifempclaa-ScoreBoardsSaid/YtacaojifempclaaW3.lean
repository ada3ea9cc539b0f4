/- Rules for operations on memory in a walk over symbolic slots and a symbolic heap; plain laws, no program is named here. -/
import Derived.Test.YtacaojifempclaaW2
namespace Go.Proofs.Ytacaojifempclaa
open Go Go.RowKit

/-- The address of cell j of element k of the slice that begins at A. -/
def pe (A : Option Addr) (size k j : Nat) : Value := .pointer (some ((A.getD ⟨0, 0, none⟩).add (k * size + j)))

/-- Tk l o m r: r is what stands in l from o on, m long. -/
inductive Tk {α : Type} : List α → Nat → Nat → List α → Prop
  | nil {l : List α} : Tk l 0 0 []
  | cons {x : α} {l : List α} {m : Nat} {r : List α} (h : Tk l 0 m r) : Tk (x :: l) 0 (m + 1) (x :: r)
  | skip {x : α} {l : List α} {o m : Nat} {r : List α} (h : Tk l o m r) : Tk (x :: l) (o + 1) m r

theorem Tk.out {α : Type} {l : List α} {o m : Nat} {r : List α} (h : Tk l o m r) : r.length = m ∧ ∀ j v, r[j]? = some v → l[o + j]? = some v := by
  induction h with
  | nil => simp
  | cons _ ih =>
    refine ⟨by simp [ih.1], fun j v hj => ?_⟩
    cases j with
    | zero => simpa using hj
    | succ j => have := ih.2 j v (by simpa using hj); simpa using this
  | skip _ ih =>
    refine ⟨ih.1, fun j v hj => ?_⟩
    rw [Nat.add_right_comm]
    simpa using ih.2 j v hj

/-- PutR l o vs l': l' is l with vs laid over it from o on. -/
inductive PutR {α : Type} : List α → Nat → List α → List α → Prop
  | nil {l : List α} {o : Nat} : PutR l o [] l
  | put {x v : α} {l vs l' : List α} (h : PutR l 0 vs l') : PutR (x :: l) 0 (v :: vs) (v :: l')
  | skip {x : α} {l vs l' : List α} {o : Nat} (h : PutR l o vs l') : PutR (x :: l) (o + 1) vs (x :: l')

def putAll {α : Type} (l : List α) (o : Nat) : List α → List α
  | [] => l
  | v :: vs => putAll (l.set o v) (o + 1) vs

theorem putAll_cons {α : Type} (x : α) : ∀ (vs l : List α) (o : Nat), putAll (x :: l) (o + 1) vs = x :: putAll l o vs
  | [], _, _ => rfl
  | v :: vs, l, o => by simp only [putAll, List.set_cons_succ]; exact putAll_cons x vs _ _

theorem PutR.out {α : Type} {l vs l' : List α} {o : Nat} (h : PutR l o vs l') : l' = putAll l o vs ∧ (vs ≠ [] → o + vs.length ≤ l.length) := by
  induction h with
  | nil => exact ⟨rfl, fun h => absurd rfl h⟩
  | @put x v l vs l' h ih =>
    refine ⟨?_, fun _ => ?_⟩
    · simp only [putAll, List.set_cons_zero]; rw [putAll_cons, ih.1]
    · cases vs with
      | nil => simp
      | cons u vs => have := ih.2 (by simp); simp at this ⊢; omega
  | skip h ih =>
    refine ⟨by rw [putAll_cons, ih.1], fun hv => ?_⟩
    have := ih.2 hv
    simp; omega

theorem add_lit (b o i : Nat) : (⟨b, o, none⟩ : Addr).add i = ⟨b, o + i, none⟩ := Addr.add_lit b o i

section
variable {P : Program}

theorem run_storeCells {w0 : World} {M : List Ent} {b : Nat} {T : TypeId} : ∀ (vs cs : List Value) (o i : Nat) (w : World), St w0 w (.blk b T cs :: M) → (vs ≠ [] → o + i + vs.length ≤ cs.length) → (∀ v ∈ vs, v.oneCell' = true) →
    ∃ w', (storeCells ⟨b, o, none⟩ vs i).run P w = .ok () w' ∧ St w0 w' (.blk b T (putAll cs (o + i) vs) :: M)
  | [], cs, o, i, w, h, _, _ => ⟨w, by simp [storeCells], h⟩
  | v :: vs, cs, o, i, w, h, hl, h1 => by
    have hl' : o + i + (vs.length + 1) ≤ cs.length := by simpa using hl (by simp)
    have hc : w.cell? ⟨b, o + i, none⟩ = some (cs[o + i]'(by omega)) := by rw [h.cell .here, List.getElem?_eq_getElem (by omega)]
    have hf := h.notFrozen .here (o + i)
    obtain ⟨w', hr, hs⟩ := run_storeCells vs (cs.set (o + i) v) o (i + 1) (w.setCell ⟨b, o + i, none⟩ v) (h.setCell (o + i) v) (fun _ => by simp; omega) (fun u hu => h1 u (by simp [hu]))
    refine ⟨w', ?_, hs⟩
    unfold storeCells
    rw [Sem.run_bind, add_lit, run_store P w _ v _ (h1 v (by simp)), hc]
    simp only [hf, Bool.false_eq_true, if_false, Result.andThen_ok]
    exact hr

theorem run_fieldAt {s k off : Nat} {ft : TypeId} {size : Nat} (h : FieldTy P s k off ft size) (a : Addr) (w : World) : (Instr.fieldAt s (.pointer (some a)) k).run P w = .ok (.pointer (some (a.add off))) w := by
  have hu := h.und
  have hz := h.nz
  cases hq : P.underlying s with
  | none => simp [hq] at hu
  | some d =>
    cases d <;> simp [hq, fldD] at hu
    rename_i fs
    obtain ⟨f, hf, h1, h2⟩ := hu
    cases hi : P.info? ft with
    | none => simp [hi] at hz
    | some i =>
      simp [hi] at hz
      subst h1 h2
      simp [Instr.fieldAt, run_underlying hq, hf, Instr.sureAddr, fieldPlace, sizeOf, typeInfo, hi, hz]

theorem asArr {v : Value} {vs : List Value} (h : v.cells = vs.toArray) : v.cells.toList = vs := by simp [h]
end

section rules
variable {F : Fence} {P : Program} {ops : Array Oper} {Q : Exit → Act → World → Prop} {rest : List Oper} {n : Nat} {D : List Deferred} {l : Env} {w0 : World} {L M : List Ent}
variable {d : Nat} {ty : TypeId} {pos : String} {aft : Array Edge}

/-! #### addresses -/
theorem fa {x : Operand} {s k off : Nat} {ft : TypeId} {size : Nat} (hT : FieldTy P s k off ft size := by infer_instance) {b o : Nat} (hx : ev l x = some (.pointer (some ⟨b, o, none⟩)) := by exact rfl) : Yd P n D l w0 L (.fieldAddr s x k) (.pointer (some ⟨b, o + off, none⟩)) :=
  ⟨by simp, by simp, fun oo ho ac w hfr _ => by simp [execOp, ho, hfr.eval hx, run_fieldAt hT, add_lit]⟩

theorem faE {x : Operand} {s k off : Nat} {ft : TypeId} {size : Nat} (hT : FieldTy P s k off ft size := by infer_instance) {A : Option Addr} {sz i j : Nat} (hx : ev l x = some (pe A sz i j) := by exact rfl) : Yd P n D l w0 L (.fieldAddr s x k) (pe A sz i (j + off)) :=
  ⟨by simp, by simp, fun oo ho ac w hfr _ => by
    have he := hfr.eval hx
    simp [execOp, ho, he, pe, run_fieldAt hT, add_add', Nat.add_assoc]⟩

theorem ix {x i : Operand} {t e : TypeId} (hT : SliceTy P t e := by infer_instance) {agg : Bool} {size bytes : Nat} {z : Value} {zl : List Value} (hE : Ty P e agg size bytes z zl := by infer_instance) {A : Option Addr} {m c : Nat} {k : IntKind} {j : Int} {es : List (List Value)}
    (hx : ev l x = some (.slice A m c) := by exact rfl) (hi : ev l i = some (.int k j) := by exact rfl)
    (hr : Rds L A size m es := by repeat (first | exact Rds.ro | exact Rds.own | apply Rds.there)) (hb : 0 ≤ j ∧ j < m := by omega) : Yd P n D l w0 L (.indexAddr t x i) (pe A size j.toNat 0) :=
  ⟨by simp, by simp, fun oo ho ac w hfr hst => by
    obtain ⟨ad, rfl⟩ := (hst.get hr).some_ (by omega)
    simp [execOp, ho, hfr.eval hx, hfr.eval hi, Instr.indexAt, asIntOf, run_underlying hT.und, hb, run_sizeOf hE, pe]⟩

/-! #### loads -/
theorem ld {x : Operand} {t : TypeId} {size bytes : Nat} {z : Value} {zl : List Value} (hT : Ty P t false size bytes z zl := by infer_instance) {b o : Nat} {T : TypeId} {cs : List Value} {v : Value}
    (hx : ev l x = some (.pointer (some ⟨b, o, none⟩)) := by exact rfl) (ha : At L (.blk b T cs) M := by repeat (first | exact At.here | apply At.there)) (hc : cs[o]? = some v := by exact rfl) : Yd P n D l w0 L (.load t x) (v) :=
  ⟨by simp, by simp, fun oo ho ac w hfr hst => by
    have hcell : w.cell? ⟨b, o, none⟩ = some v := by rw [hst.cell ha, hc]
    simp [execOp, ho, hfr.eval hx, Instr.loadAt, Instr.sureAddr, run_loadVar1 hT hcell]⟩

theorem ldA {x : Operand} {t : TypeId} {size bytes : Nat} {z : Value} {zl : List Value} (hT : Ty P t true size bytes z zl := by infer_instance) {b o : Nat} {T : TypeId} {cs vs : List Value}
    (hx : ev l x = some (.pointer (some ⟨b, o, none⟩)) := by exact rfl) (ha : At L (.blk b T cs) M := by repeat (first | exact At.here | apply At.there))
    (hc : Tk cs o size vs := by repeat (first | exact Tk.nil | apply Tk.cons | apply Tk.skip)) : Yd P n D l w0 L (.load t x) (.agg vs.toArray) :=
  ⟨by simp, by simp, fun oo ho ac w hfr hst => by
    have hcell : ∀ j v, vs[j]? = some v → w.cell? ((⟨b, o, none⟩ : Addr).add j) = some v := fun j v hj => by
      rw [add_lit, hst.cell ha]; exact hc.out.2 j v hj
    simp [execOp, ho, hfr.eval hx, Instr.loadAt, Instr.sureAddr, run_loadVarA hT hc.out.1 hcell]⟩

theorem gm {α : Type} (f : α → List Value) (xs : List α) (k : Nat) (h : k < xs.length) : (xs.map f)[k]? = some (f xs[k]) := by simp [h]

theorem ldE {x : Operand} {t : TypeId} {size bytes : Nat} {z : Value} {zl : List Value} (hT : Ty P t false size bytes z zl := by infer_instance) {A : Option Addr} {sz k j m : Nat} {es : List (List Value)} {cs : List Value} {v : Value}
    (hx : ev l x = some (pe A sz k j) := by exact rfl) (hr : Rds L A sz m es := by repeat (first | exact Rds.ro | exact Rds.own | apply Rds.there))
    (hk : es[k]? = some cs := by first | exact rfl | exact gm _ _ _ (by omega)) (hc : cs[j]? = some v := by exact rfl) : Yd P n D l w0 L (.load t x) (v) :=
  ⟨by simp, by simp, fun oo ho ac w hfr hst => by
    have hrd := hst.get hr
    obtain ⟨ad, rfl⟩ := hrd.some_ (by have := (List.getElem?_eq_some_iff.1 hk).1; have := hrd.len; omega)
    have hcell := hrd.cell ad rfl k cs hk j v hc
    have he := hfr.eval hx
    simp [execOp, ho, he, pe, Instr.loadAt, Instr.sureAddr, run_loadVar1 hT hcell]⟩

theorem ldEA {x : Operand} {t : TypeId} {size bytes : Nat} {z : Value} {zl : List Value} (hT : Ty P t true size bytes z zl := by infer_instance) {A : Option Addr} {sz k j m : Nat} {es : List (List Value)} {cs vs : List Value}
    (hx : ev l x = some (pe A sz k j) := by exact rfl) (hr : Rds L A sz m es := by repeat (first | exact Rds.ro | exact Rds.own | apply Rds.there))
    (hk : es[k]? = some cs := by first | exact rfl | exact gm _ _ _ (by omega)) (hc : Tk cs j size vs := by repeat (first | exact Tk.nil | apply Tk.cons | apply Tk.skip)) : Yd P n D l w0 L (.load t x) (.agg vs.toArray) :=
  ⟨by simp, by simp, fun oo ho ac w hfr hst => by
    have hrd := hst.get hr
    obtain ⟨ad, rfl⟩ := hrd.some_ (by have := (List.getElem?_eq_some_iff.1 hk).1; have := hrd.len; omega)
    have hcell : ∀ i v, vs[i]? = some v → w.cell? ((ad.add (k * sz + j)).add i) = some v := fun i v hi => by
      rw [add_add', Nat.add_assoc]; exact hrd.cell ad rfl k cs hk (j + i) v (hc.out.2 i v hi)
    have he := hfr.eval hx
    simp [execOp, ho, he, pe, Instr.loadAt, Instr.sureAddr, run_loadVarA hT hc.out.1 hcell]⟩

/-! #### new variables -/
theorem bx {x : Operand} {t : TypeId} {v : Value} (hx : ev l x = some v := by exact rfl) (h1 : v.oneCell' = true := by rfl) (hd : Nat.blt d n = true := by rfl)
    (h : ∀ b, WL F P ops Q rest n D ((d, .pointer (some ⟨b, 0, none⟩)) :: l) w0 (.blk b t [v] :: L)) : WL F P ops Q (⟨some d, .box t x, ty, pos, aft, none⟩ :: rest) n D l w0 L :=
  WL.value (X := Nat) (φ := fun _ => True) (val := fun b => .pointer (some ⟨b, 0, none⟩)) (L' := fun b => .blk b t [v] :: L) (by simp) hd (fun ac w hfr hst => by
    have hc : v.cells = #[v] := by cases v <;> simp [Value.oneCell'] at h1 <;> rfl
    refine ⟨w.heap.size, w.alloc (.cells #[v] t), trivial, ?_, hst.alloc t #[v]⟩
    simp [execOp, hfr.eval hx, Instr.box, newVar, newRow, hc]) (fun b _ => h b)

theorem bxA {x : Operand} {t : TypeId} {vs : List Value} (hx : ev l x = some (.agg vs.toArray) := by exact rfl) (hd : Nat.blt d n = true := by rfl)
    (h : ∀ b, WL F P ops Q rest n D ((d, .pointer (some ⟨b, 0, none⟩)) :: l) w0 (.blk b t vs :: L)) : WL F P ops Q (⟨some d, .box t x, ty, pos, aft, none⟩ :: rest) n D l w0 L :=
  WL.value (X := Nat) (φ := fun _ => True) (val := fun b => .pointer (some ⟨b, 0, none⟩)) (L' := fun b => .blk b t vs :: L) (by simp) hd (fun ac w hfr hst => by
    refine ⟨w.heap.size, w.alloc (.cells vs.toArray t), trivial, ?_, by simpa using hst.alloc t vs.toArray⟩
    simp [execOp, hfr.eval hx, Instr.box, newVar, newRow, Value.cells]) (fun b _ => h b)

theorem al {t : TypeId} {agg : Bool} {size bytes : Nat} {z : Value} {zl : List Value} (hT : Ty P t agg size bytes z zl := by infer_instance) (hd : Nat.blt d n = true := by rfl)
    (h : ∀ b, WL F P ops Q rest n D ((d, .pointer (some ⟨b, 0, none⟩)) :: l) w0 (.blk b t zl :: L)) : WL F P ops Q (⟨some d, .alloc t, ty, pos, aft, none⟩ :: rest) n D l w0 L :=
  WL.value (X := Nat) (φ := fun _ => True) (val := fun b => .pointer (some ⟨b, 0, none⟩)) (L' := fun b => .blk b t zl :: L) (by simp) hd (fun ac w hfr hst => by
    refine ⟨w.heap.size, w.alloc (.cells zl.toArray t), trivial, ?_, by simpa using hst.alloc t zl.toArray⟩
    simp [execOp, Instr.alloc, run_zeroValue hT, newVar, newRow, hT.zc]) (fun b _ => h b)

/-! #### stores -/
theorem st {x y : Operand} {t : TypeId} {size bytes : Nat} {z : Value} {zl : List Value} (hT : Ty P t false size bytes z zl := by infer_instance) {b o : Nat} {T : TypeId} {cs cs' : List Value} {v : Value}
    (hx : ev l x = some (.pointer (some ⟨b, o, none⟩)) := by exact rfl) (hy : ev l y = some v := by exact rfl) (h1 : v.oneCell' = true := by rfl) (hsz : size = 1 := by rfl)
    (ha : At L (.blk b T cs) M := by repeat (first | exact At.here | apply At.there)) (hp : PutR cs o [v] cs' := by repeat (first | exact PutR.nil | apply PutR.put | apply PutR.skip))
    (h : WL F P ops Q rest n D l w0 (.blk b T cs' :: M)) : WL F P ops Q (⟨none, .store t x y, ty, pos, aft, none⟩ :: rest) n D l w0 L :=
  WL.skipop (by simp) (fun ac w hfr hst => by
    have hc : v.cells = #[v] := by cases v <;> simp [Value.oneCell'] at h1 <;> rfl
    obtain ⟨w', hr, hs⟩ := run_storeCells (P := P) [v] cs o 0 w (hst.pull ha) (fun _ => by have := hp.out.2 (by simp); simpa using this) (by simpa using h1)
    rw [Nat.add_zero, ← hp.out.1] at hs
    refine ⟨w', ?_, hs⟩
    simp [execOp, hfr.eval hx, hfr.eval hy, Instr.storeAt, Instr.sureAddr, storeVar, run_sizeOf hT, hc, hsz, hr]) h

theorem stA {x y : Operand} {t : TypeId} {size bytes : Nat} {z : Value} {zl : List Value} (hT : Ty P t true size bytes z zl := by infer_instance) {b o : Nat} {T : TypeId} {cs cs' vs : List Value}
    (hx : ev l x = some (.pointer (some ⟨b, o, none⟩)) := by exact rfl) (hy : ev l y = some (.agg vs.toArray) := by exact rfl) (h1 : vs.all (·.oneCell') = true := by rfl) (hsz : vs.length = size := by rfl)
    (ha : At L (.blk b T cs) M := by repeat (first | exact At.here | apply At.there)) (hp : PutR cs o vs cs' := by repeat (first | exact PutR.nil | apply PutR.put | apply PutR.skip))
    (h : WL F P ops Q rest n D l w0 (.blk b T cs' :: M)) : WL F P ops Q (⟨none, .store t x y, ty, pos, aft, none⟩ :: rest) n D l w0 L :=
  WL.skipop (by simp) (fun ac w hfr hst => by
    obtain ⟨w', hr, hs⟩ := run_storeCells (P := P) vs cs o 0 w (hst.pull ha) (fun hv => by have := hp.out.2 hv; simpa using this) (by simpa using h1)
    rw [Nat.add_zero, ← hp.out.1] at hs
    refine ⟨w', ?_, hs⟩
    simp [execOp, hfr.eval hx, hfr.eval hy, Instr.storeAt, Instr.sureAddr, storeVar, run_sizeOf hT, Value.cells, hsz, hr]) h

end rules
end Go.Proofs.Ytacaojifempclaa
