/- More rules for operations: whole elements, stores into elements, arrays, equality of plain structs and arrays, conversions; plain laws, no program is named here. -/
import Derived.Test.YtacaojifempclaaW8
import Derived.Laws.StructEq
import Derived.Laws.Cover3
namespace Go.Proofs.Ytacaojifempclaa
open Go Go.RowKit

theorem Rds.cons {x : Ent} {L : List Ent} {A : Option Addr} {size n : Nat} {es : List (List Value)} (h : Rds L A size n es) : Rds (x :: L) A size n es := .there h

theorem Spl.app : ∀ (A R : List Ent), Spl (A ++ R) A R
  | [], _ => .nil
  | _ :: A, R => .cons .here (Spl.app A R)

section rules
variable {F : Fence} {P : Program} {ops : Array Oper} {Q : Exit → Act → World → Prop} {rest : List Oper} {n : Nat} {D : List Deferred} {l : Env} {w0 : World} {L M : List Ent}
variable {d : Nat} {ty : TypeId} {pos : String} {aft : Array Edge}

/-- A whole element. -/
theorem ldEW {x : Operand} {t : TypeId} {sz bytes : Nat} {z : Value} {zl : List Value} {A : Option Addr} {k m : Nat} {es : List (List Value)} {cs : List Value} (hx : ev l x = some (pe A sz k 0) := by exact rfl) (hT : Ty P t true sz bytes z zl := by infer_instance)
    (hr : Rds L A sz m es := by repeat (first | exact Rds.ro | exact Rds.own | apply Rds.there)) (hk : es[k]? = some cs := by first | assumption | exact gm _ _ _ (by omega)) : Yd P n D l w0 L (.load t x) (.agg cs.toArray) :=
  ⟨by simp, by simp, fun oo ho ac w hfr hst => by
    have hrd := hst.get hr
    obtain ⟨ad, rfl⟩ := hrd.some_ (by have := (List.getElem?_eq_some_iff.1 hk).1; have := hrd.len; omega)
    have hl := hrd.each cs (List.mem_of_getElem? hk)
    have hcell : ∀ i v, cs[i]? = some v → w.cell? ((ad.add (k * sz + 0)).add i) = some v := fun i v hi => by
      rw [add_add', Nat.add_assoc]; exact hrd.cell ad rfl k cs hk (0 + i) v (by simpa using hi)
    have he := hfr.eval hx
    have hlv := run_loadVarA hT hl hcell
    simp only [Nat.add_zero] at hlv
    simp [execOp, ho, he, pe, Instr.loadAt, Instr.sureAddr, hlv]⟩

theorem flatten_set {es : List (List Value)} {size : Nat} (hs : ∀ c ∈ es, c.length = size) : ∀ {k j : Nat} {cs : List Value} {v : Value}, es[k]? = some cs → j < size → es.flatten.set (k * size + j) v = (es.set k (cs.set j v)).flatten := by
  induction es with
  | nil => intro k j cs v hk; simp at hk
  | cons c es ih =>
    intro k j cs v hk hj
    have hc := hs c (by simp)
    cases k with
    | zero =>
      simp at hk; subst hk
      simp only [List.flatten_cons, Nat.zero_mul, Nat.zero_add, List.set_cons_zero]
      rw [List.set_append_left _ _ (by omega)]
    | succ k =>
      simp at hk
      simp only [List.flatten_cons, List.set_cons_succ]
      rw [List.set_append_right _ _ (by rw [hc, Nat.add_mul]; omega), ← ih (fun c' h' => hs c' (by simp [h'])) hk hj]
      congr 2
      rw [hc, Nat.add_mul]; omega

theorem own_set {w : World} {M : List Ent} {A : Option Addr} {cap : Nat} {T : TypeId} {size m : Nat} {es : List (List Value)} (h : St w0 w (.own A cap T size m es :: M)) {k j : Nat} {cs : List Value} {v : Value} (hk : es[k]? = some cs) (hj : j < size) (h1 : v.oneCell' = true) :
    ∃ ad, A = some ad ∧ (∃ u, w.cell? (ad.add (k * size + j)) = some u) ∧ w.frozen? (ad.add (k * size + j)) = false ∧ St w0 (w.setCell (ad.add (k * size + j)) v) (.own A cap T size m (es.set k (cs.set j v)) :: M) := by
  obtain ⟨hown, hrd⟩ := h.ok (.own A cap T size m es) (by simp)
  have hkl : k < es.length := (List.getElem?_eq_some_iff.1 hk).1
  obtain ⟨ad, rfl⟩ := hrd.some_ (by have := hrd.len; omega)
  have hl := hrd.each cs (List.mem_of_getElem? hk)
  have hc := hrd.cell ad rfl k cs hk j cs[j] (List.getElem?_eq_getElem (by omega))
  rcases hown.2 with ⟨hv, _⟩ | ⟨g, cap', cur, hv, _⟩
  · cases hv
  · injection hv with hv1 hv2 hv3; injection hv1 with hv1; subst hv1 hv3
    have hst := hown.stored (w := w) (g := g) (k * size + j) v
    rw [flatten_set hrd.each hk hj] at hst
    have hadd : (⟨g, 0, none⟩ : Addr).add (k * size + j) = ⟨g, k * size + j, none⟩ := by rw [add_lit]; simp
    refine ⟨_, rfl, ⟨_, hc⟩, by rw [hadd]; exact hown.frozenAt _, ?_⟩
    rw [hadd]
    have hmem : ∀ c ∈ es.set k (cs.set j v), c.length = size ∧ ∀ u ∈ c, u.oneCell' = true := fun c hc => by
      rcases List.mem_or_eq_of_mem_set hc with hc | rfl
      · exact ⟨hrd.each c hc, hrd.one c hc⟩
      · refine ⟨by simpa using hl, fun u hu => ?_⟩
        rcases List.mem_or_eq_of_mem_set hu with hu | rfl
        · exact hrd.one cs (List.mem_of_getElem? hk) u hu
        · exact h1
    refine h.turn rfl (fun q hq hnf => hst.2.block q hq fun he => hnf ⟨_, rfl, by injection he with he; exact he.symm⟩) hst.2.os hst.2.tape hst.2.output hst.2.size ⟨hst.1, rd_own hst.1 (by simp [hrd.len]) (fun c hc => (hmem c hc).1) (fun c hc => (hmem c hc).2)⟩ (fun q hq => .inl hq)

/-- A store into a field of an element. -/
theorem stE {x y : Operand} {t T : TypeId} {size bytes sz cap m k j : Nat} {z : Value} {zl : List Value} {A : Option Addr} {es : List (List Value)} {cs : List Value} {v : Value} (hx : ev l x = some (pe A sz k j) := by exact rfl) (hy : ev l y = some v := by exact rfl)
    (hT : Ty P t false size bytes z zl := by infer_instance) (h1 : v.oneCell' = true := by rfl) (hsz : size = 1 := by rfl)
    (ha : At L (.own A cap T sz m es) M := by repeat (first | exact At.here | apply At.there)) (hk : es[k]? = some cs := by first | assumption | exact rfl | exact gm _ _ _ (by omega)) (hj : Nat.blt j sz = true := by rfl)
    (h : WL F P ops Q rest n D l w0 (.own A cap T sz m (es.set k (cs.set j v)) :: M)) : WL F P ops Q (⟨none, .store t x y, ty, pos, aft, none⟩ :: rest) n D l w0 L :=
  WL.skipop (by simp) (fun ac w hfr hst => by
    have hc : v.cells = #[v] := by cases v <;> simp [Value.oneCell'] at h1 <;> rfl
    obtain ⟨ad, rfl, ⟨u, hu⟩, hf, hs⟩ := own_set (hst.pull ha) hk (by simpa [Nat.blt_eq] using hj) h1
    have hr := run_storeCells1 (P := P) h1 hu hf
    have he := hfr.eval hx
    refine ⟨_, ?_, hs⟩
    simp [execOp, he, pe, hfr.eval hy, Instr.storeAt, Instr.sureAddr, storeVar, run_sizeOf hT, hc, hsz, hr]) h

/-- The place of an element of an array. -/
theorem ixA {x i : Operand} {t e : TypeId} {len sz bytes b o : Nat} {agg : Bool} {z : Value} {zl : List Value} {k : IntKind} {j : Int} (hT : ArrayTy P t len e := by infer_instance) (hE : Ty P e agg sz bytes z zl := by infer_instance)
    (hx : ev l x = some (.pointer (some ⟨b, o, none⟩)) := by exact rfl) (hi : ev l i = some (.int k j) := by exact rfl) (hb : 0 ≤ j ∧ j < len := by omega) : Yd P n D l w0 L (.indexAddr t x i) (.pointer (some ⟨b, o + j.toNat * sz, none⟩)) :=
  ⟨by simp, by simp, fun oo ho ac w hfr hst => by
    simp [execOp, ho, hfr.eval hx, hfr.eval hi, Instr.indexAt, asIntOf, run_underlying hT.und, hb, run_sizeOf hE, Instr.sureAddr, add_lit]⟩

/-! #### equality of plain structs and arrays -/
def intD : Option TypeDesc → Bool
  | some (.int _) => true
  | _ => false

def fieldsI (P : Program) : Option TypeDesc → Option (List (Bool × Nat × Bool))
  | some (.struct fs) => some (fs.toList.map fun f => (f.name == "_", f.offset, intD (P.underlying f.type)))
  | _ => none

class EqS (P : Program) (t : TypeId) (m : outParam Nat) : Prop where
  und : fieldsI P (P.underlying t) = some ((List.range m).map fun i => (false, i, true))
  stood : P.stoodInHeld t = false
  grd : P.eqGuardType P.depth t = false

class EqA (P : Program) (t : TypeId) (m : outParam Nat) : Prop where
  und : P.underlying t = some (.array m (P.elem t))
  int : intD (P.underlying (P.elem t)) = true
  sz : (P.info? (P.elem t)).map (·.size) = some 1
  grd : P.eqGuardType P.depth t = false

theorem run_part_int {t : TypeId} (h : intD (P.underlying t) = true) {cs : Array Value} {o : Nat} {v : Value} (hv : cs[o]? = some v) (w : World) : (part t cs o).run P w = .ok v w := by
  cases hq : P.underlying t with
  | none => simp [hq, intD] at h
  | some dd =>
    cases dd <;> simp [hq, intD] at h
    simp [part, isAgg, run_underlying hq, hv]

theorem run_eqInt {t : TypeId} (h : intD (P.underlying t) = true) (d : Nat) (k : IntKind) (a b : Int) (w : World) : (Op.equalIn (d + 1) t (.int k a) (.int k b)).run P w = .ok (decide (a = b)) w := by
  cases hq : P.underlying t with
  | none => simp [hq, intD] at h
  | some dd =>
    cases dd <;> simp [hq, intD] at h
    simp [Op.equalIn, run_underlying hq]
    rfl

def vI (x : Int) : Value := .int .i64 x

theorem run_eqFields (d : Nat) (w : World) (xs ys : List Int) (hl : xs.length = ys.length) : ∀ (fs : List Field) (o : Nat), fs.map (fun f => (f.name == "_", f.offset, intD (P.underlying f.type))) = (List.range' o (xs.length - o)).map (fun i => (false, i, true)) → o ≤ xs.length →
    (Op.eqFields (d + 1) (xs.map vI).toArray (ys.map vI).toArray fs).run P w = .ok (decide (xs.drop o = ys.drop o)) w
  | [], o, h, ho => by
    have h0 : xs.length - o = 0 := by simpa using (congrArg List.length h).symm
    have e1 : xs.drop o = [] := List.drop_eq_nil_of_le (by omega)
    have e2 : ys.drop o = [] := List.drop_eq_nil_of_le (by omega)
    simp [Op.eqFields, e1, e2]
  | f :: fs, o, h, ho => by
    obtain ⟨r, hr⟩ : ∃ r, xs.length - o = r + 1 := by
      have := congrArg List.length h
      simp at this
      exact ⟨fs.length, by omega⟩
    rw [hr, List.range'_succ] at h
    simp only [List.map_cons, List.cons.injEq, Prod.mk.injEq] at h
    obtain ⟨⟨hn, hof, hin⟩, hrest⟩ := h
    have hx : (xs.map vI).toArray[f.offset]? = some (.int .i64 (xs[o]'(by omega))) := by rw [hof]; simp [vI, show o < xs.length by omega]
    have hy : (ys.map vI).toArray[f.offset]? = some (.int .i64 (ys[o]'(by omega))) := by rw [hof]; simp [vI, show o < ys.length by omega]
    have hne : f.name ≠ "_" := by simpa using hn
    have ih := run_eqFields d w xs ys hl fs (o + 1) (by rw [show xs.length - (o + 1) = r by omega]; exact hrest) (by omega)
    have dx : xs.drop o = xs[o]'(by omega) :: xs.drop (o + 1) := List.drop_eq_getElem_cons (by omega)
    have dy : ys.drop o = ys[o]'(by omega) :: ys.drop (o + 1) := List.drop_eq_getElem_cons (by omega)
    simp only [Op.eqFields, if_pos hne, Sem.run_bind, run_part_int hin hx, run_part_int hin hy, Result.andThen_ok, run_eqInt hin]
    rw [dx, dy]
    by_cases he : xs[o]'(by omega) = ys[o]'(by omega)
    · rw [decide_eq_true he]
      refine Eq.trans ih ?_
      congr 1
      simp only [List.cons.injEq, he, true_and]
    · rw [decide_eq_false he]
      refine Eq.trans (Sem.run_pure ..) ?_
      simp only [List.cons.injEq, he, false_and, decide_false]

theorem run_equalS {t : TypeId} {m : Nat} (h : EqS P t m) (xs ys : List Int) (hx : xs.length = m) (hy : ys.length = m) (w : World) : (Op.equal t (.agg (xs.map vI).toArray) (.agg (ys.map vI).toArray)).run P w = .ok (decide (xs = ys)) w := by
  have hu := h.und
  cases hq : P.underlying t with
  | none => simp [hq, fieldsI] at hu
  | some dd =>
    cases dd <;> simp only [hq, fieldsI, Option.some.injEq, reduceCtorEq] at hu
    rename_i fs
    have hf : P.underlying t = some (.struct (P.fieldsOf t)) := by simp [Program.fieldsOf, hq]
    have hfs : P.fieldsOf t = fs := by simp [Program.fieldsOf, hq]
    have h1 : ∀ d : Nat, (Op.equalIn (d + 1 + 1) t (.agg (xs.map vI).toArray) (.agg (ys.map vI).toArray)).run P w = .ok (decide (xs = ys)) w := fun d => by
      rw [run_equalIn_struct w (d + 1) t _ _ hf h.stood, hfs]
      have := run_eqFields (P := P) d w xs ys (by omega) fs.toList 0 (by rw [hu, hx, List.range_eq_range']; simp) (by omega)
      simpa using this
    exact h1 9998

theorem run_equalA {t : TypeId} (h : EqA P t 2) (a b a' b' : Int) (w : World) : (Op.equal t (.agg #[.int .i64 a, .int .i64 b]) (.agg #[.int .i64 a', .int .i64 b'])).run P w = .ok (decide ([a, b] = [a', b'])) w := by
  have hsz := h.sz
  cases hi : P.info? (P.elem t) with
  | none => simp [hi] at hsz
  | some i =>
    simp [hi] at hsz
    have h1 : ∀ d : Nat, (Op.equalIn (d + 1 + 1) t (.agg #[.int .i64 a, .int .i64 b]) (.agg #[.int .i64 a', .int .i64 b'])).run P w = .ok (decide ([a, b] = [a', b'])) w := fun d => by
      rw [Op.equalIn]
      simp only [Sem.run_bind, run_underlying h.und, Result.andThen_ok, sizeOf, typeInfo, run_program, hi, Sem.run_pure, hsz]
      have p0 : ∀ x y : Int, (part (P.elem t) #[.int .i64 x, .int .i64 y] 0).run P w = .ok (.int .i64 x) w := fun x y => run_part_int h.int rfl w
      have p1 : ∀ x y : Int, (part (P.elem t) #[.int .i64 x, .int .i64 y] 1).run P w = .ok (.int .i64 y) w := fun x y => run_part_int h.int rfl w
      rw [Std.Legacy.Range.forIn_eq_forIn_range']
      by_cases e1 : a = a' <;> by_cases e2 : b = b' <;>
        simp [List.range', Std.Legacy.Range.size, p0, p1, run_eqInt h.int, e1, e2, Sem.run_bind]
    exact h1 9998

/-- The cells of a plain struct or array, and its numbers. -/
inductive IntL : List Value → List Int → Prop
  | nil : IntL [] []
  | cons {x : Int} {cs : List Value} {xs : List Int} (h : IntL cs xs) : IntL (.int .i64 x :: cs) (x :: xs)
theorem IntL.out {cs : List Value} {xs : List Int} (h : IntL cs xs) : cs = xs.map vI := by
  induction h with
  | nil => rfl
  | cons _ ih => simp [vI, ih]

theorem eqlT {x y : Operand} {t u : TypeId} {m : Nat} (hE : EqS P t m := by infer_instance) {cs ds : List Value} {as' bs' : List Int} (hx : ev l x = some (.agg cs.toArray) := by exact rfl) (hy : ev l y = some (.agg ds.toArray) := by exact rfl)
    (ha : IntL cs as' := by repeat (first | exact IntL.nil | apply IntL.cons)) (hb : IntL ds bs' := by repeat (first | exact IntL.nil | apply IntL.cons)) (h1 : as'.length = m := by rfl) (h2 : bs'.length = m := by rfl) : Yd P n D l w0 L (.binOp .eql t x y u) (.bool (decide (as' = bs'))) :=
  ⟨by simp, by simp, fun oo ho ac w hfr _ => by
    have h := run_equalS hE as' bs' h1 h2 w
    rw [← ha.out, ← hb.out] at h
    simp [execOp, ho, hfr.eval hx, hfr.eval hy, binOp, h, eqGuard, hE.grd]⟩
theorem neqT {x y : Operand} {t u : TypeId} {m : Nat} (hE : EqS P t m := by infer_instance) {cs ds : List Value} {as' bs' : List Int} (hx : ev l x = some (.agg cs.toArray) := by exact rfl) (hy : ev l y = some (.agg ds.toArray) := by exact rfl)
    (ha : IntL cs as' := by repeat (first | exact IntL.nil | apply IntL.cons)) (hb : IntL ds bs' := by repeat (first | exact IntL.nil | apply IntL.cons)) (h1 : as'.length = m := by rfl) (h2 : bs'.length = m := by rfl) : Yd P n D l w0 L (.binOp .neq t x y u) (.bool (!decide (as' = bs'))) :=
  ⟨by simp, by simp, fun oo ho ac w hfr _ => by
    have h := run_equalS hE as' bs' h1 h2 w
    rw [← ha.out, ← hb.out] at h
    simp [execOp, ho, hfr.eval hx, hfr.eval hy, binOp, h, eqGuard, hE.grd]⟩
theorem eqlA {x y : Operand} {t u : TypeId} (hE : EqA P t 2 := by infer_instance) {a b a' b' : Int} (hx : ev l x = some (.agg #[.int .i64 a, .int .i64 b]) := by exact rfl) (hy : ev l y = some (.agg #[.int .i64 a', .int .i64 b']) := by exact rfl) :
    Yd P n D l w0 L (.binOp .eql t x y u) (.bool (decide ([a, b] = [a', b']))) :=
  ⟨by simp, by simp, fun oo ho ac w hfr _ => by
    have h := run_equalA hE a b a' b' w
    simp only [execOp, ho, hfr.eval hx, hfr.eval hy, binOp, Sem.run_bind, eqGuard]
    simp [h, hE.grd]⟩
theorem eqlN {x y : Operand} {t u e : TypeId} (hT : SliceTy P t e := by infer_instance) {A : Option Addr} {m c : Nat} (hx : ev l x = some (.slice A m c) := by exact rfl) (hy : ev l y = some (.slice none 0 0) := by exact rfl) : Yd P n D l w0 L (.binOp .eql t x y u) (.bool A.isNone) :=
  ⟨by simp, by simp, fun oo ho ac w hfr _ => by
    have h := run_equal_slice_nil (P := P) w t e A m c hT.und
    simp only [execOp, ho, hfr.eval hx, hfr.eval hy, binOp, Sem.run_bind, eqGuard]
    simp [h]⟩

end rules
end Go.Proofs.Ytacaojifempclaa
