/- Flat values (numbers and truths, in structs of structs) compared; maps whose keys are flat. Plain laws, no program is named here. -/
import Derived.Test.YtacaojifempclaaWE
import Derived.ChangeKeysEq
namespace Go.Proofs.Ytacaojifempclaa
open Go Go.RowKit

/-- A plain cell. -/
inductive Fl where
  | i (n : Int)
  | b (t : Bool)
deriving DecidableEq
def Fl.v : Fl → Value
  | .i n => .int .i64 n
  | .b t => .bool t
def Fl.isB : Fl → Bool
  | .i _ => false
  | .b _ => true
def fv (xs : List Fl) : List Value := xs.map Fl.v
def isAggD : Option TypeDesc → Bool
  | some (.struct _) => true
  | some (.array _ _) => true
  | _ => false
def szOk (P : Program) (t : TypeId) (n : Nat) : Bool := match P.info? t with
  | some i => Nat.beq i.size n
  | none => false
def fltF (P : Program) (r : TypeId → Option (List Bool)) : Nat → List Field → Option (List Bool)
  | _, [] => some []
  | off, f :: fs => bif f.name == "_" then none else bif Nat.beq f.offset off then
      (match r f.type with
      | none => none
      | some s => bif szOk P f.type s.length then (match fltF P r (off + s.length) fs with | none => none | some ss => some (s ++ ss)) else none) else none
/-- The shape of a flat type: its cells; true: a truth. -/
def flt (P : Program) : Nat → TypeId → Option (List Bool)
  | 0, _ => none
  | d + 1, t => match P.underlying t with
    | some .bool => some [true]
    | some (.int .i64) => some [false]
    | some (.struct fs) => bif P.stoodInHeld t then none else fltF P (flt P d) 0 fs.toList
    | some (.array n e) => match flt P d e with
      | none => none
      | some s => bif szOk P e s.length then some (List.replicate n s).flatten else none
    | _ => none
/-- The value of a flat type with some cells. -/
def fval (P : Program) (t : TypeId) (xs : List Fl) : Value := bif isAggD (P.underlying t) then .agg (fv xs).toArray else (xs.headD (.i 0)).v
def shapeOf (xs : List Fl) : List Bool := xs.map Fl.isB

section
variable {P : Program}

theorem run_isAggD {t : TypeId} {dd : TypeDesc} (h : P.underlying t = some dd) (w : World) : (isAgg t).run P w = .ok (isAggD (some dd)) w := by
  cases dd <;> simp [isAgg, run_underlying h, isAggD]

theorem flt_und {h : Nat} {t : TypeId} {ks : List Bool} (hf : flt P h t = some ks) : ∃ dd, P.underlying t = some dd := by
  cases h with
  | zero => simp [flt] at hf
  | succ h =>
    rw [flt] at hf
    cases hq : P.underlying t with
    | none => simp [hq] at hf
    | some dd => exact ⟨dd, rfl⟩

theorem shape_one {xs : List Fl} {b : Bool} (h : shapeOf xs = [b]) : ∃ x, xs = [x] ∧ x.isB = b := by
  cases xs with
  | nil => simp [shapeOf] at h
  | cons x xs =>
    simp only [shapeOf, List.map_cons, List.cons.injEq, List.map_eq_nil_iff] at h
    obtain ⟨h1, rfl⟩ := h
    exact ⟨x, rfl, h1⟩

theorem flt_scalar {h : Nat} {t : TypeId} {ks : List Bool} (hf : flt P h t = some ks) (ha : isAggD (P.underlying t) = false) : ks.length = 1 := by
  cases h with
  | zero => simp [flt] at hf
  | succ h =>
    rw [flt] at hf
    cases hq : P.underlying t with
    | none => simp [hq] at hf
    | some dd =>
      rw [hq] at hf ha
      cases dd <;> (try simp only [reduceCtorEq] at hf) <;> first
        | (simp only [Option.some.injEq] at hf; subst hf; rfl)
        | (rename_i k; cases k <;> (try simp only [reduceCtorEq] at hf) <;> (simp only [Option.some.injEq] at hf; subst hf; rfl))
        | (simp only [isAggD, reduceCtorEq, Bool.true_eq_false] at ha; done)

/-- A part of a flat value. -/
theorem run_partF {h : Nat} {t : TypeId} {s : List Bool} (hf : flt P h t = some s) (hz : szOk P t s.length = true) (xs : List Fl) (o : Nat) (hl : o + s.length ≤ xs.length) (w : World) :
    (part t (fv xs).toArray o).run P w = .ok (fval P t ((xs.drop o).take s.length)) w := by
  obtain ⟨dd, hu⟩ := flt_und hf
  unfold part
  rw [Sem.run_bind, run_isAggD hu, Result.andThen_ok]
  cases ha : isAggD (some dd) with
  | true =>
    simp only [if_true]
    cases hi : P.info? t with
    | none => simp [szOk, hi] at hz
    | some i =>
      have hsz : i.size = s.length := by
        simp only [szOk, hi] at hz
        exact Nat.eq_of_beq_eq_true hz
      have hso : (sizeOf t).run P w = .ok s.length w := by simp [sizeOf, typeInfo, hi, hsz]
      rw [Sem.run_bind, hso, Result.andThen_ok, Sem.run_pure, fval, hu, ha, cond_true]
      congr 2
      simp [fv, List.extract_toArray, List.map_take, List.map_drop]
  | false =>
    have h1 := flt_scalar hf (by rw [hu]; exact ha)
    have hx : xs[o]? = some (xs[o]'(by omega)) := List.getElem?_eq_getElem (by omega)
    have hc : (fv xs).toArray[o]? = some (xs[o]'(by omega)).v := by simp [fv, hx]
    simp only [Bool.false_eq_true, if_false, hc, Sem.run_pure]
    rw [fval, hu, ha, cond_false, h1, List.drop_eq_getElem_cons (by omega)]
    rfl

theorem eqFieldsF {h d : Nat} (ih : ∀ (t : TypeId) (ks : List Bool), flt P h t = some ks → ∀ (xs ys : List Fl) (w : World), shapeOf xs = ks → shapeOf ys = ks → (Op.equalIn (d + h) t (fval P t xs) (fval P t ys)).run P w = .ok (decide (xs = ys)) w) (xs ys : List Fl) :
    ∀ (fs : List Field) (o : Nat) (ss : List Bool), fltF P (flt P h) o fs = some ss → shapeOf (xs.drop o) = ss → shapeOf (ys.drop o) = ss → o ≤ xs.length → o ≤ ys.length → ∀ w : World,
    (Op.eqFields (d + h) (fv xs).toArray (fv ys).toArray fs).run P w = .ok (decide (xs.drop o = ys.drop o)) w
  | [], o, ss, hf, hx, hy, _, _, w => by
    simp only [fltF, Option.some.injEq] at hf
    subst hf
    have e1 : xs.drop o = [] := by simpa [shapeOf] using hx
    have e2 : ys.drop o = [] := by simpa [shapeOf] using hy
    rw [e1, e2]
    simp [Op.eqFields]
  | f :: fs, o, ss, hf, hx, hy, hlx, hly, w => by
    rw [fltF] at hf
    cases hn : f.name == "_" with
    | true => rw [hn] at hf; simp at hf
    | false =>
      rw [hn] at hf
      simp only [cond_false] at hf
      cases ho : Nat.beq f.offset o with
      | false => rw [ho] at hf; cases hf
      | true =>
        rw [ho] at hf
        simp only [cond_true] at hf
        cases hs : flt P h f.type with
        | none => rw [hs] at hf; cases hf
        | some s =>
          rw [hs] at hf
          simp only at hf
          cases hz : szOk P f.type s.length with
          | false => rw [hz] at hf; cases hf
          | true =>
            rw [hz] at hf
            simp only [cond_true] at hf
            cases hr : fltF P (flt P h) (o + s.length) fs with
            | none => rw [hr] at hf; cases hf
            | some rr =>
              rw [hr] at hf
              simp only [Option.some.injEq] at hf
              subst hf
              have ho' := Nat.eq_of_beq_eq_true ho
              have hne : f.name ≠ "_" := by simpa using hn
              have lx : xs.length - o = s.length + rr.length := by have := congrArg List.length hx; simpa [shapeOf] using this
              have ly : ys.length - o = s.length + rr.length := by have := congrArg List.length hy; simpa [shapeOf] using this
              have sx : shapeOf ((xs.drop o).take s.length) = s := by
                have := congrArg (List.take s.length) hx
                simpa [shapeOf, List.map_take] using this
              have sy : shapeOf ((ys.drop o).take s.length) = s := by
                have := congrArg (List.take s.length) hy
                simpa [shapeOf, List.map_take] using this
              have rx : shapeOf (xs.drop (o + s.length)) = rr := by
                have := congrArg (List.drop s.length) hx
                simpa [shapeOf, List.map_drop, List.drop_drop] using this
              have ry : shapeOf (ys.drop (o + s.length)) = rr := by
                have := congrArg (List.drop s.length) hy
                simpa [shapeOf, List.map_drop, List.drop_drop] using this
              have hrest := eqFieldsF ih xs ys fs (o + s.length) rr hr rx ry (by omega) (by omega) w
              simp only [Op.eqFields, if_pos hne, Sem.run_bind, ho', run_partF hs hz xs o (by omega), run_partF hs hz ys o (by omega), Result.andThen_ok, ih f.type s hs _ _ _ sx sy]
              by_cases he : (xs.drop o).take s.length = (ys.drop o).take s.length
              · rw [decide_eq_true he]
                simp only [Bool.not_true, Bool.false_eq_true, if_false]
                rw [hrest]
                congr 1
                have dx : xs.drop o = (xs.drop o).take s.length ++ xs.drop (o + s.length) := by rw [← List.drop_drop, List.take_append_drop]
                have dy : ys.drop o = (ys.drop o).take s.length ++ ys.drop (o + s.length) := by rw [← List.drop_drop, List.take_append_drop]
                rw [decide_eq_decide, dx, dy, he]
                simp
              · rw [decide_eq_false he]
                simp only [Bool.not_false, if_true, Sem.run_pure]
                congr 1
                symm
                rw [decide_eq_false_iff_not]
                exact fun e => he (by rw [e])

theorem szOk_at {t : TypeId} {n : Nat} (h : szOk P t n = true) : ∃ i, P.info? t = some i ∧ i.size = n := by
  unfold szOk at h
  cases hi : P.info? t with
  | none => rw [hi] at h; cases h
  | some i => rw [hi] at h; exact ⟨i, rfl, Nat.eq_of_beq_eq_true h⟩
theorem rep_split {xs : List Fl} {s : List Bool} {m o : Nat} (h : shapeOf (xs.drop o) = (List.replicate (m + 1) s).flatten) : o + s.length ≤ xs.length + (if s.length = 0 then o else 0) ∧ shapeOf ((xs.drop o).take s.length) = s ∧ shapeOf (xs.drop (o + s.length)) = (List.replicate m s).flatten := by
  rw [List.replicate_succ, List.flatten_cons] at h
  have lx : xs.length - o = s.length + ((List.replicate m s).flatten).length := by have := congrArg List.length h; simpa [shapeOf] using this
  refine ⟨?_, ?_, ?_⟩
  · by_cases e : s.length = 0
    · rw [if_pos e]; omega
    · rw [if_neg e]; omega
  · have := congrArg (List.take s.length) h
    simpa [shapeOf, List.map_take] using this
  · have := congrArg (List.drop s.length) h
    simpa [shapeOf, List.map_drop, List.drop_drop] using this
theorem eqItemsF {h d : Nat} (ih : ∀ (t : TypeId) (ks : List Bool), flt P h t = some ks → ∀ (xs ys : List Fl) (w : World), shapeOf xs = ks → shapeOf ys = ks → (Op.equalIn (d + h) t (fval P t xs) (fval P t ys)).run P w = .ok (decide (xs = ys)) w) {e : TypeId} {s : List Bool} (hs : flt P h e = some s) (hz : szOk P e s.length = true) (xs ys : List Fl) :
    ∀ (m j : Nat), j * s.length ≤ xs.length → j * s.length ≤ ys.length → shapeOf (xs.drop (j * s.length)) = (List.replicate m s).flatten → shapeOf (ys.drop (j * s.length)) = (List.replicate m s).flatten → ∀ w : World,
    (Op.eqItems (d + h) e s.length (fv xs).toArray (fv ys).toArray (List.range' j m)).run P w = .ok (decide (xs.drop (j * s.length) = ys.drop (j * s.length))) w
  | 0, j, _, _, hx, hy, w => by
    have e1 : xs.drop (j * s.length) = [] := by simpa [shapeOf] using hx
    have e2 : ys.drop (j * s.length) = [] := by simpa [shapeOf] using hy
    rw [e1, e2]
    simp [Op.eqItems]
  | m + 1, j, hlx, hly, hx, hy, w => by
    obtain ⟨lx, sx, rx⟩ := rep_split hx
    obtain ⟨ly, sy, ry⟩ := rep_split hy
    have hj : j * s.length + s.length = (j + 1) * s.length := by rw [Nat.succ_mul]
    have lx' : j * s.length + s.length ≤ xs.length := by split at lx <;> omega
    have ly' : j * s.length + s.length ≤ ys.length := by split at ly <;> omega
    rw [hj] at rx ry
    have hrest := eqItemsF ih hs hz xs ys m (j + 1) (by omega) (by omega) rx ry w
    rw [List.range'_succ]
    simp only [Op.eqItems, Sem.run_bind, run_partF hs hz xs _ lx', run_partF hs hz ys _ ly', Result.andThen_ok, ih e s hs _ _ _ sx sy]
    by_cases he : (xs.drop (j * s.length)).take s.length = (ys.drop (j * s.length)).take s.length
    · rw [decide_eq_true he]
      simp only [Bool.not_true, Bool.false_eq_true, if_false]
      rw [hrest]
      congr 1
      have dx : xs.drop (j * s.length) = (xs.drop (j * s.length)).take s.length ++ xs.drop ((j + 1) * s.length) := by rw [← hj, ← List.drop_drop, List.take_append_drop]
      have dy : ys.drop (j * s.length) = (ys.drop (j * s.length)).take s.length ++ ys.drop ((j + 1) * s.length) := by rw [← hj, ← List.drop_drop, List.take_append_drop]
      rw [decide_eq_decide, dx, dy, he]
      simp
    · rw [decide_eq_false he]
      simp only [Bool.not_false, if_true, Sem.run_pure]
      congr 1
      symm
      rw [decide_eq_false_iff_not]
      exact fun e => he (by rw [e])

/-- Equality of flat values. -/
theorem equalF : ∀ (h : Nat) (t : TypeId) (ks : List Bool), flt P h t = some ks → ∀ (d : Nat) (xs ys : List Fl) (w : World), shapeOf xs = ks → shapeOf ys = ks →
    (Op.equalIn (d + h) t (fval P t xs) (fval P t ys)).run P w = .ok (decide (xs = ys)) w
  | 0, t, ks, hf, _, _, _, _, _, _ => by simp [flt] at hf
  | h + 1, t, ks, hf, d, xs, ys, w, hx, hy => by
    rw [flt] at hf
    cases hu : P.underlying t with
    | none => simp [hu] at hf
    | some dd =>
      rw [hu] at hf
      cases dd <;> (try simp only [reduceCtorEq] at hf)
      case bool =>
        simp only [Option.some.injEq] at hf; subst hf
        obtain ⟨x, rfl, bx⟩ := shape_one hx
        obtain ⟨y, rfl, by'⟩ := shape_one hy
        cases x <;> simp [Fl.isB] at bx
        cases y <;> simp [Fl.isB] at by'
        rename_i a b
        simp only [fval, hu, isAggD, cond_false, List.headD_cons, Fl.v]
        rw [← Nat.add_assoc]
        simp only [Op.equalIn, Sem.run_bind, run_underlying hu, Result.andThen_ok, Sem.run_pure]
        cases a <;> cases b <;> rfl
      case int k =>
        cases k <;> (try simp only [reduceCtorEq] at hf)
        simp only [Option.some.injEq] at hf
        subst hf
        obtain ⟨x, rfl, bx⟩ := shape_one hx
        obtain ⟨y, rfl, by'⟩ := shape_one hy
        cases x <;> simp [Fl.isB] at bx
        cases y <;> simp [Fl.isB] at by'
        rename_i a b
        simp only [fval, hu, isAggD, cond_false, List.headD_cons, Fl.v]
        rw [← Nat.add_assoc]
        simp only [Op.equalIn, Sem.run_bind, run_underlying hu, Result.andThen_ok, if_true, Sem.run_pure]
        congr 1
        by_cases e : a = b <;> simp [e]
      case struct fs =>
        cases hs : P.stoodInHeld t with
        | true => rw [hs] at hf; simp at hf
        | false =>
          rw [hs] at hf
          simp only [cond_false] at hf
          have hff : P.fieldsOf t = fs := by simp [Program.fieldsOf, hu]
          have hu' : P.underlying t = some (.struct (P.fieldsOf t)) := by rw [hff]; exact hu
          simp only [fval, hu, isAggD, cond_true]
          rw [← Nat.add_assoc, run_equalIn_struct w (d + h) t _ _ hu' hs, hff]
          have := eqFieldsF (d := d) (fun t ks hk xs ys w hx hy => equalF h t ks hk d xs ys w hx hy) xs ys fs.toList 0 ks hf (by simpa using hx) (by simpa using hy) (Nat.zero_le _) (Nat.zero_le _) w
          simpa using this
      case array n e =>
        cases hs : flt P h e with
        | none => rw [hs] at hf; cases hf
        | some s =>
          rw [hs] at hf
          simp only at hf
          cases hz : szOk P e s.length with
          | false => rw [hz] at hf; cases hf
          | true =>
            rw [hz] at hf
            simp only [cond_true, Option.some.injEq] at hf
            subst hf
            obtain ⟨i, hi, hsz⟩ := szOk_at hz
            have hce : P.cellsOf e = s.length := by simp [Program.cellsOf, hi, hsz]
            simp only [fval, hu, isAggD, cond_true]
            rw [← Nat.add_assoc, run_equalIn_array w (d + h) _ _ hu hi, hce, List.range_eq_range']
            have := eqItemsF (d := d) (fun t ks hk xs ys w hx hy => equalF h t ks hk d xs ys w hx hy) hs hz xs ys n 0 (by simp) (by simp) (by simpa using hx) (by simpa using hy) w
            simpa using this

theorem run_equalF {h : Nat} {t : TypeId} {ks : List Bool} (hf : flt P h t = some ks) (hh : h ≤ 10000) {xs ys : List Fl} (hx : shapeOf xs = ks) (hy : shapeOf ys = ks) (w : World) : (Op.equal t (fval P t xs) (fval P t ys)).run P w = .ok (decide (xs = ys)) w := by
  have := equalF h t ks hf (10000 - h) xs ys w hx hy
  rw [Nat.sub_add_cancel hh] at this
  exact this

/-- A flat key is fit to be one. -/
theorem checkKeyF (em : Bool) : ∀ (h : Nat) (t : TypeId) (ks : List Bool), flt P h t = some ks → ∀ (d : Nat) (xs : List Fl) (w : World), shapeOf xs = ks → (Instr.checkKey em (d + h) t (fval P t xs)).run P w = .ok () w
  | 0, t, ks, hf, _, _, _, _ => by simp [flt] at hf
  | h + 1, t, ks, hf, d, xs, w, hx => by
    rw [flt] at hf
    cases hu : P.underlying t with
    | none => simp [hu] at hf
    | some dd =>
      rw [hu] at hf
      cases dd <;> (try simp only [reduceCtorEq] at hf)
      case bool =>
        simp only [Option.some.injEq] at hf; subst hf
        obtain ⟨x, rfl, bx⟩ := shape_one hx
        rw [← Nat.add_assoc]
        simp [Instr.checkKey, run_underlying hu]
      case int k =>
        rw [← Nat.add_assoc]
        simp [Instr.checkKey, run_underlying hu]
      case struct fs =>
        cases hs : P.stoodInHeld t with
        | true => rw [hs] at hf; simp at hf
        | false =>
          rw [hs] at hf
          simp only [cond_false] at hf
          simp only [fval, hu, isAggD, cond_true]
          rw [← Nat.add_assoc]
          simp only [Instr.checkKey, Sem.run_bind, run_underlying hu, Result.andThen_ok]
          rw [← Array.forIn_toList]
          have key : ∀ (l : List Field) (o : Nat) (ss : List Bool), fltF P (flt P h) o l = some ss → shapeOf (xs.drop o) = ss → o ≤ xs.length → ∀ w : World,
              Sem.run P (forIn l PUnit.unit fun f _ => if f.name ≠ "_" then (do
                let v ← part f.type (fv xs).toArray f.offset
                Instr.checkKey em (d + h) f.type v
                pure (ForInStep.yield PUnit.unit)) else pure (ForInStep.yield PUnit.unit)) w = .ok PUnit.unit w := by
            intro l
            induction l with
            | nil => intro o ss _ _ _ w; simp
            | cons f l ih =>
              intro o ss hf hx hl w
              rw [fltF] at hf
              cases hn : f.name == "_" with
              | true => rw [hn] at hf; simp at hf
              | false =>
                rw [hn] at hf
                simp only [cond_false] at hf
                cases ho : Nat.beq f.offset o with
                | false => rw [ho] at hf; cases hf
                | true =>
                  rw [ho] at hf
                  simp only [cond_true] at hf
                  cases hs : flt P h f.type with
                  | none => rw [hs] at hf; cases hf
                  | some s =>
                    rw [hs] at hf
                    simp only at hf
                    cases hz : szOk P f.type s.length with
                    | false => rw [hz] at hf; cases hf
                    | true =>
                      rw [hz] at hf
                      simp only [cond_true] at hf
                      cases hr : fltF P (flt P h) (o + s.length) l with
                      | none => rw [hr] at hf; cases hf
                      | some rr =>
                        rw [hr] at hf
                        simp only [Option.some.injEq] at hf
                        subst hf
                        have ho' := Nat.eq_of_beq_eq_true ho
                        have hne : f.name ≠ "_" := by simpa using hn
                        have lx : xs.length - o = s.length + rr.length := by have := congrArg List.length hx; simpa [shapeOf] using this
                        have sx : shapeOf ((xs.drop o).take s.length) = s := by
                          have := congrArg (List.take s.length) hx
                          simpa [shapeOf, List.map_take] using this
                        have rx : shapeOf (xs.drop (o + s.length)) = rr := by
                          have := congrArg (List.drop s.length) hx
                          simpa [shapeOf, List.map_drop, List.drop_drop] using this
                        have h1 := checkKeyF em h f.type s hs d _ w sx
                        have h2 := ih (o + s.length) rr hr rx (by omega) w
                        rw [List.forIn_cons]
                        simp only [if_pos hne, Sem.run_bind, ho', run_partF hs hz xs o (by omega), Result.andThen_ok, h1, Sem.run_pure]
                        exact h2
          rw [key fs.toList 0 ks hf (by simpa using hx) (Nat.zero_le _) w]
          simp
      case array n e =>
        cases hs : flt P h e with
        | none => rw [hs] at hf; cases hf
        | some s =>
          rw [hs] at hf
          simp only at hf
          cases hz : szOk P e s.length with
          | false => rw [hz] at hf; cases hf
          | true =>
            rw [hz] at hf
            simp only [cond_true, Option.some.injEq] at hf
            subst hf
            obtain ⟨i, hi, hsz⟩ := szOk_at hz
            have hso : ∀ w, (sizeOf e).run P w = .ok s.length w := fun w => by simp [sizeOf, typeInfo, hi, hsz]
            simp only [fval, hu, isAggD, cond_true]
            rw [← Nat.add_assoc]
            simp only [Instr.checkKey, Sem.run_bind, run_underlying hu, Result.andThen_ok]
            simp only [Std.Legacy.Range.forIn_eq_forIn_range', Std.Legacy.Range.size, Nat.sub_zero, Nat.add_one_sub_one, Nat.div_one]
            have key : ∀ (m j : Nat), j * s.length ≤ xs.length → shapeOf (xs.drop (j * s.length)) = (List.replicate m s).flatten → ∀ w : World,
                Sem.run P (forIn (List.range' j m) PUnit.unit fun i _ => (do
                  let v ← part e (fv xs).toArray (i * (← sizeOf e))
                  Instr.checkKey em (d + h) e v
                  pure (ForInStep.yield PUnit.unit))) w = .ok PUnit.unit w := by
              intro m
              induction m with
              | zero => intro j _ _ w; simp
              | succ m ih =>
                intro j hl hx w
                obtain ⟨lx, sx, rx⟩ := rep_split hx
                have hj : j * s.length + s.length = (j + 1) * s.length := by rw [Nat.succ_mul]
                have lx' : j * s.length + s.length ≤ xs.length := by split at lx <;> omega
                rw [hj] at rx
                have h1 := checkKeyF em h e s hs d _ w sx
                have h2 := ih (j + 1) (by omega) rx w
                rw [List.range'_succ, List.forIn_cons]
                simp only [Sem.run_bind, hso, run_partF hs hz xs _ lx', Result.andThen_ok, h1, Sem.run_pure]
                exact h2
            rw [key n 0 (by simp) (by simpa using hx) w]
            simp
end

/-- A flat struct. -/
def isStrD : Option TypeDesc → Bool
  | some (.struct _) => true
  | _ => false
class FlatTy (P : Program) (t : TypeId) (ks : outParam (List Bool)) : Prop where
  flt : flt P 8 t = some ks
  str : isStrD (P.underlying t) = true
  grd : P.eqGuardType P.depth t = false
theorem FlatTy.agg {P : Program} {t : TypeId} {ks : List Bool} (h : FlatTy P t ks) : isAggD (P.underlying t) = true := by
  have := h.str
  cases hu : P.underlying t with
  | none => rw [hu] at this; cases this
  | some dd => rw [hu] at this; cases dd <;> first | rfl | cases this
class MapTy (P : Program) (t : TypeId) (k e : outParam TypeId) : Prop where
  und : P.underlying t = some (.map k e)

/-- The cells of a flat struct, and its plain cells. -/
inductive FlL : List Value → List Fl → Prop
  | nil : FlL [] []
  | int {x : Int} {cs : List Value} {xs : List Fl} (h : FlL cs xs) : FlL (.int .i64 x :: cs) (.i x :: xs)
  | bool {x : Bool} {cs : List Value} {xs : List Fl} (h : FlL cs xs) : FlL (.bool x :: cs) (.b x :: xs)
theorem FlL.out {cs : List Value} {xs : List Fl} (h : FlL cs xs) : cs = fv xs := by
  induction h with
  | nil => rfl
  | int _ ih => simp [fv, Fl.v] at ih ⊢; exact ih
  | bool _ ih => simp [fv, Fl.v] at ih ⊢; exact ih

section rules
variable {F : Fence} {P : Program} {ops : Array Oper} {Q : Exit → Act → World → Prop} {rest : List Oper} {n : Nat} {D : List Deferred} {l : Env} {w0 : World} {L M : List Ent}
variable {d : Nat} {ty : TypeId} {pos : String} {aft : Array Edge}

theorem nck {x : Operand} {a : Addr} (hx : ev l x = some (.pointer (some a)) := by exact rfl) : Yd P n D l w0 L (.nilCheck x) (.pointer (some a)) :=
  ⟨by simp, by simp, fun oo ho ac w hfr _ => by simp [execOp, ho, hfr.eval hx]⟩

theorem eqlF {x y : Operand} {t u : TypeId} {ks : List Bool} (hE : FlatTy P t ks := by infer_instance) {cs ds : List Value} {xs ys : List Fl} (hx : ev l x = some (.agg cs.toArray) := by exact rfl) (hy : ev l y = some (.agg ds.toArray) := by exact rfl)
    (ha : FlL cs xs := by repeat (first | exact FlL.nil | apply FlL.int | apply FlL.bool)) (hb : FlL ds ys := by repeat (first | exact FlL.nil | apply FlL.int | apply FlL.bool)) (h1 : shapeOf xs = ks := by rfl) (h2 : shapeOf ys = ks := by rfl) : Yd P n D l w0 L (.binOp .eql t x y u) (.bool (decide (xs = ys))) :=
  ⟨by simp, by simp, fun oo ho ac w hfr _ => by
    have h := run_equalF hE.flt (by decide) h1 h2 w
    simp only [fval, hE.agg, cond_true] at h
    rw [← ha.out, ← hb.out] at h
    simp [execOp, ho, hfr.eval hx, hfr.eval hy, binOp, h, eqGuard, hE.grd]⟩
theorem neqF {x y : Operand} {t u : TypeId} {ks : List Bool} (hE : FlatTy P t ks := by infer_instance) {cs ds : List Value} {xs ys : List Fl} (hx : ev l x = some (.agg cs.toArray) := by exact rfl) (hy : ev l y = some (.agg ds.toArray) := by exact rfl)
    (ha : FlL cs xs := by repeat (first | exact FlL.nil | apply FlL.int | apply FlL.bool)) (hb : FlL ds ys := by repeat (first | exact FlL.nil | apply FlL.int | apply FlL.bool)) (h1 : shapeOf xs = ks := by rfl) (h2 : shapeOf ys = ks := by rfl) : Yd P n D l w0 L (.binOp .neq t x y u) (.bool (!decide (xs = ys))) :=
  ⟨by simp, by simp, fun oo ho ac w hfr _ => by
    have h := run_equalF hE.flt (by decide) h1 h2 w
    simp only [fval, hE.agg, cond_true] at h
    rw [← ha.out, ← hb.out] at h
    simp [execOp, ho, hfr.eval hx, hfr.eval hy, binOp, h, eqGuard, hE.grd]⟩

/-! #### maps whose keys are flat structs -/
/-- The entries of a map, in their order: keys' plain cells, and values. -/
def MapIs (es : Array MapEntry) (kv : List (List Fl × Value)) : Prop := es.toList.map (fun e => (e.key, e.val)) = kv.map fun p => (.agg (fv p.1).toArray, p.2)
def lkp (kv : List (List Fl × Value)) (k : List Fl) : Option Value := (kv.find? fun p => decide (k = p.1)).map (·.2)
def updM (kv : List (List Fl × Value)) (k : List Fl) (v : Value) : List (List Fl × Value) := match kv with
  | [] => [(k, v)]
  | p :: kv => if k = p.1 then (k, v) :: kv else p :: updM kv k v

theorem run_findAsking {t : TypeId} {ks : List Bool} (hE : FlatTy P t ks) {k : List Fl} (hk : shapeOf k = ks) : ∀ (es : List MapEntry) (kv : List (List Fl × Value)) (i : Nat) (w : World), es.map (fun e => (e.key, e.val)) = kv.map (fun p => (.agg (fv p.1).toArray, p.2)) → (∀ p ∈ kv, shapeOf p.1 = ks) →
    ∃ r, (Instr.findAsking t (.agg (fv k).toArray) es i).run P w = .ok r w ∧ ((r = none ∧ lkp kv k = none ∧ updM kv k = fun v => kv ++ [(k, v)]) ∨ ∃ j v e, r = some (i + j, v) ∧ lkp kv k = some v ∧ es[j]? = some e ∧ e.key = .agg (fv k).toArray ∧ ∀ u, (es.set j { e with val := u }).map (fun e => (e.key, e.val)) = (updM kv k u).map (fun p => (.agg (fv p.1).toArray, p.2)))
  | [], [], i, w, _, _ => ⟨none, by simp [Instr.findAsking], .inl ⟨rfl, rfl, rfl⟩⟩
  | [], _ :: _, _, _, h, _ => by simp at h
  | _ :: _, [], _, _, h, _ => by simp at h
  | e :: es, p :: kv, i, w, h, hs => by
    simp only [List.map_cons, List.cons.injEq, Prod.mk.injEq] at h
    obtain ⟨⟨h1, h2⟩, h3⟩ := h
    have heq := run_equalF hE.flt (by decide) hk (hs p (by simp)) w
    simp only [fval, hE.agg, cond_true] at heq
    by_cases e0 : k = p.1
    · refine ⟨some (i, e.val), ?_, .inr ⟨0, p.2, e, by rw [h2]; rfl, by simp [lkp, e0], rfl, by rw [h1, e0], fun u => ?_⟩⟩
      · rw [Instr.findAsking, Sem.run_bind, h1, heq, Result.andThen_ok, decide_eq_true e0]
        simp
      · obtain ⟨pk, pv⟩ := p
        simp only at e0 h1; subst e0
        simp [List.set_cons_zero, h3, updM, h1]
    · obtain ⟨r, hr, hc⟩ := run_findAsking hE hk es kv (i + 1) w h3 fun q hq => hs q (by simp [hq])
      refine ⟨r, ?_, ?_⟩
      · rw [Instr.findAsking, Sem.run_bind, h1, heq, Result.andThen_ok, decide_eq_false e0]
        simpa using hr
      · rcases hc with ⟨rfl, c1, c2⟩ | ⟨j, v, e', rfl, c1, c2, c3, c4⟩
        · refine .inl ⟨rfl, by simpa [lkp, e0] using c1, ?_⟩
          funext v
          simp only [updM, if_neg e0, c2, List.cons_append]
        · refine .inr ⟨j + 1, v, e', by rw [Nat.add_assoc, Nat.add_comm 1 j], by simpa [lkp, e0] using c1, by simpa using c2, c3, fun u => ?_⟩
          simp only [List.set_cons_succ, List.map_cons, updM, if_neg e0, c4 u, h1, h2]

theorem findNow_struct {fs : Array Field} {k : Value} : ∀ (es : List MapEntry) (i : Nat), Instr.findNow (.struct fs) k es i = none ∨ (es = [] ∧ Instr.findNow (.struct fs) k es i = some none)
  | [], i => .inr ⟨rfl, rfl⟩
  | e :: es, i => .inl (by simp [Instr.findNow, Instr.sameNow])

theorem agg_struct {t : TypeId} {ks : List Bool} (hE : FlatTy P t ks) : ∃ fs, P.underlying t = some (.struct fs) := by
  have ha := hE.str
  cases hu : P.underlying t with
  | none => rw [hu] at ha; cases ha
  | some dd =>
    rw [hu] at ha
    cases dd <;> first | exact ⟨_, rfl⟩ | cases ha

theorem run_findKey {t : TypeId} {ks : List Bool} (hE : FlatTy P t ks) {k : List Fl} (hk : shapeOf k = ks) (es : List MapEntry) (kv : List (List Fl × Value)) (w : World) (h : es.map (fun e => (e.key, e.val)) = kv.map (fun p => (.agg (fv p.1).toArray, p.2))) (hs : ∀ p ∈ kv, shapeOf p.1 = ks) :
    ∃ r, (Instr.findKey t (.agg (fv k).toArray) es).run P w = .ok r w ∧ ((r = none ∧ lkp kv k = none ∧ updM kv k = fun v => kv ++ [(k, v)]) ∨ ∃ j v e, r = some (j, v) ∧ lkp kv k = some v ∧ es[j]? = some e ∧ e.key = .agg (fv k).toArray ∧ ∀ u, (es.set j { e with val := u }).map (fun e => (e.key, e.val)) = (updM kv k u).map (fun p => (.agg (fv p.1).toArray, p.2))) := by
  obtain ⟨fs, hu⟩ := agg_struct hE
  obtain ⟨r, hr, hc⟩ := run_findAsking hE hk es kv 0 w h hs
  refine ⟨r, ?_, by simpa using hc⟩
  unfold Instr.findKey
  rw [Sem.run_bind, run_underlying hu, Result.andThen_ok]
  rcases findNow_struct (fs := fs) (k := .agg (fv k).toArray) es 0 with h1 | ⟨rfl, h1⟩
  · rw [h1]; exact hr
  · rw [h1]
    have : r = none := by
      simp [Instr.findAsking] at hr
      exact hr.symm
    subst this
    simp
end rules
end Go.Proofs.Ytacaojifempclaa
