/- One rule for each operation of a walk over symbolic slots and a symbolic heap; plain laws, no program is named here. -/
import Derived.KernelRfl
import Derived.Test.YtacaojifempclaaW1
import Derived.Maps.AppendAt
namespace Go.Proofs.Ytacaojifempclaa
open Go Go.RowKit

/-! ### types, as classes -/
def aggD : TypeDesc → Bool
  | .struct _ | .array _ _ => true
  | _ => false

class Ty (P : Program) (t : TypeId) (agg : outParam Bool) (size bytes : outParam Nat) (z : outParam Value) (zl : outParam (List Value)) : Prop where
  info : (P.info? t).map (fun i => (i.zero, i.size, i.bytes)) = some (some z, size, bytes)
  und : (P.underlying t).map aggD = some agg
  zc : z.cells = zl.toArray
  zs : zl.length = size

class SliceTy (P : Program) (t : TypeId) (e : outParam TypeId) : Prop where
  und : P.underlying t = some (.slice e)

class ArrayTy (P : Program) (t : TypeId) (len : outParam Nat) (e : outParam TypeId) : Prop where
  und : P.underlying t = some (.array len e)

def fldD (k : Nat) : TypeDesc → Option (Nat × TypeId)
  | .struct fs => (fs[k]?).map fun f => (f.offset, f.type)
  | _ => none

class FieldTy (P : Program) (s k : Nat) (off : outParam Nat) (ft : outParam TypeId) (size : outParam Nat) : Prop where
  und : (P.underlying s).bind (fldD k) = some (off, ft)
  nz : (P.info? ft).map (·.size) = some (size + 1)

section
variable {P : Program}

theorem ty_info {t : TypeId} {agg : Bool} {size bytes : Nat} {z : Value} {zl : List Value} (h : Ty P t agg size bytes z zl) : ∃ i, P.info? t = some i ∧ i.size = size ∧ i.bytes = bytes ∧ i.zero = some z := by
  have := h.info
  cases hq : P.info? t with
  | none => simp [hq] at this
  | some i => simp [hq] at this; exact ⟨i, rfl, this.2.1, this.2.2, this.1⟩

theorem run_sizeOf {t : TypeId} {agg : Bool} {size bytes : Nat} {z : Value} {zl : List Value} (h : Ty P t agg size bytes z zl) (w : World) : (sizeOf t).run P w = .ok size w := by
  obtain ⟨i, hi, hs, _, _⟩ := ty_info h
  simp [sizeOf, typeInfo, hi, hs]

theorem run_zeroValue {t : TypeId} {agg : Bool} {size bytes : Nat} {z : Value} {zl : List Value} (h : Ty P t agg size bytes z zl) (w : World) : (zeroValue t).run P w = .ok z w := by
  obtain ⟨i, hi, _, _, hz⟩ := ty_info h
  simp [zeroValue, typeInfo, hi, hz]

theorem run_isAgg {t : TypeId} {agg : Bool} {size bytes : Nat} {z : Value} {zl : List Value} (h : Ty P t agg size bytes z zl) (w : World) : (isAgg t).run P w = .ok agg w := by
  have hu := h.und
  cases hq : P.underlying t with
  | none => simp [hq] at hu
  | some d =>
    simp [hq] at hu
    unfold isAgg
    rw [Sem.run_bind, run_underlying hq w]
    simp only [Result.andThen_ok]
    cases d <;> simp [aggD] at hu <;> subst hu <;> rfl

theorem run_loadVar1 {t : TypeId} {size bytes : Nat} {z : Value} {zl : List Value} (h : Ty P t false size bytes z zl) {w : World} {a : Addr} {v : Value} (hc : w.cell? a = some v) : (loadVar t a).run P w = .ok v w := by
  simp [loadVar, Sem.run_bind, run_isAgg h, hc]

theorem run_loadVarA {t : TypeId} {size bytes : Nat} {z : Value} {zl : List Value} (h : Ty P t true size bytes z zl) {w : World} {a : Addr} {vs : List Value} (hl : vs.length = size) (hc : ∀ j v, vs[j]? = some v → w.cell? (a.add j) = some v) :
    (loadVar t a).run P w = .ok (.agg vs.toArray) w := by
  have := run_loadCells_list (P := P) w a vs hc
  rw [hl] at this
  simp [loadVar, Sem.run_bind, run_isAgg h, run_sizeOf h, this]

theorem run_storeCells1 {w : World} {a : Addr} {v u : Value} (h1 : v.oneCell' = true) (hc : w.cell? a = some u) (hf : w.frozen? a = false) : (storeCells a [v]).run P w = .ok () (w.setCell a v) := by
  have e : a.add 0 = a := Addr.add_zero' a
  simp [storeCells, run_store P w _ v _ h1, e, hc, hf]

end

/-! ### the judgement -/
structure FreeF (F : Fence) : Prop where
  fn : ∀ f, F.fn f
  depth : F.depth = none
  alive : F.alive = false

def WL (F : Fence) (P : Program) (ops : Array Oper) (Q : Exit → Act → World → Prop) (rest : List Oper) (n : Nat) (D : List Deferred) (l : Env) (w0 : World) (L : List Ent) : Prop :=
  FreeF F → ∀ a w, Fr a n D l → St w0 w L → wpListIn F 0 P ops Q rest a w

theorem semAt_plain {r : Option Nat} {ρ : Operand → Value} {o : Oper} (h : ∀ c, o.op ≠ .defer c) : Oper.semAt r ρ o = execOp ρ o := by
  cases r with
  | none => exact Oper.semAt_none ..
  | some l => exact Oper.semAt_some l ρ o h

section rules
variable {F : Fence} {P : Program} {ops : Array Oper} {Q : Exit → Act → World → Prop} {rest : List Oper} {n : Nat} {D : List Deferred} {l : Env} {w0 : World} {L M : List Ent}
variable {d : Nat} {ty : TypeId} {pos : String} {aft : Array Edge}

/-- An operation that yields a value. -/
theorem WL.value {op : Op} {X : Type} {φ : X → Prop} {val : X → Value} {L' : X → List Ent} (hnd : ∀ c, op ≠ .defer c) (hd : Nat.blt d n = true)
    (hrun : ∀ a w, Fr a n D l → St w0 w L → ∃ x w', φ x ∧ (execOp a.eval ⟨some d, op, ty, pos, aft, none⟩).run P w = .ok (.value (val x)) w' ∧ St w0 w' (L' x))
    (h : ∀ x, φ x → WL F P ops Q rest n D ((d, val x) :: l) w0 (L' x)) : WL F P ops Q (⟨some d, op, ty, pos, aft, none⟩ :: rest) n D l w0 L := by
  intro hF a w hfr hst
  obtain ⟨x, w', hx, hr, hst'⟩ := hrun a w hfr hst
  show (if _ then _ else _)
  rw [if_pos (by simp [Region.wanted])]
  refine ⟨fun f _ => hF.fn f, ?_⟩
  rw [semAt_plain hnd, hr]
  exact h x hx hF _ w' (hfr.put hd _) hst'

/-- A pure operation. -/
theorem WL.pure1 {op : Op} {v : Value} (hnd : ∀ c, op ≠ .defer c) (hd : Nat.blt d n = true)
    (hrun : ∀ a w, Fr a n D l → St w0 w L → (execOp a.eval ⟨some d, op, ty, pos, aft, none⟩).run P w = .ok (.value v) w)
    (h : WL F P ops Q rest n D ((d, v) :: l) w0 L) : WL F P ops Q (⟨some d, op, ty, pos, aft, none⟩ :: rest) n D l w0 L :=
  WL.value (X := Unit) (φ := fun _ => True) (val := fun _ => v) (L' := fun _ => L) hnd hd (fun a w hfr hst => ⟨(), w, trivial, hrun a w hfr hst, hst⟩) (fun _ _ => h)

/-- A pure operation's value, whatever else the operation's record holds. -/
structure Yd (P : Program) (n : Nat) (D : List Deferred) (l : Env) (w0 : World) (L : List Ent) (op : Op) (v : Value) : Prop where
  nd : ∀ c, op ≠ .defer c
  nsel : ∀ cs b, op ≠ .select cs b
  run : ∀ (o : Oper), o.op = op → ∀ a w, Fr a n D l → OkL w L → (execOp a.eval o).run P w = .ok (.value v) w

theorem WL.y {op : Op} {v : Value} (hy : Yd P n D l w0 L op v) (hd : Nat.blt d n = true := by rfl)
    (h : WL F P ops Q rest n D ((d, v) :: l) w0 L) : WL F P ops Q (⟨some d, op, ty, pos, aft, none⟩ :: rest) n D l w0 L :=
  WL.pure1 hy.nd hd (fun a w hfr hst => hy.run _ rfl a w hfr hst.ok) h

theorem WL.skipop {op : Op} {L' : List Ent} (hnd : ∀ c, op ≠ .defer c)
    (hrun : ∀ a w, Fr a n D l → St w0 w L → ∃ w', (execOp a.eval ⟨none, op, ty, pos, aft, none⟩).run P w = .ok .skip w' ∧ St w0 w' L')
    (h : WL F P ops Q rest n D l w0 L') : WL F P ops Q (⟨none, op, ty, pos, aft, none⟩ :: rest) n D l w0 L := by
  intro hF a w hfr hst
  obtain ⟨w', hr, hst'⟩ := hrun a w hfr hst
  show (if _ then _ else _)
  rw [if_pos (by simp [Region.wanted])]
  refine ⟨fun f _ => hF.fn f, ?_⟩
  rw [semAt_plain hnd, hr]
  exact h hF _ w' (hfr.put_none _) hst'

theorem WL.sub {l' : Env} (hs : Sub l' l) (h : WL F P ops Q rest n D l' w0 L) : WL F P ops Q rest n D l w0 L := fun hF a w hfr hst => h hF a w (hfr.sub hs) hst
theorem WL.subL {L' : List Ent} (hs : SubL L' L) (h : WL F P ops Q rest n D l w0 L') : WL F P ops Q rest n D l w0 L := fun hF a w hfr hst => h hF a w hfr (hst.sub hs)
/-- What the heap says may be used. -/
theorem WL.know {p : Prop} (hp : ∀ w, St w0 w L → p) (h : p → WL F P ops Q rest n D l w0 L) : WL F P ops Q rest n D l w0 L := fun hF a w hfr hst => h (hp w hst) hF a w hfr hst

/-! #### copies, tests, arithmetic -/
theorem mv {x : Operand} {v : Value} (hx : ev l x = some v := by exact rfl) : Yd P n D l w0 L (.move x) (v) :=
  ⟨by simp, by simp, fun oo ho a w hfr _ => by simp [execOp, ho, hfr.eval hx]⟩

theorem asg {x : Operand} {v : Value} (hx : ev l x = some v := by exact rfl) : Yd P n D l w0 L (.assign x) (v) :=
  ⟨by simp, by simp, fun oo ho a w hfr _ => by simp [execOp, ho, hfr.eval hx]⟩

theorem pkT {c x y : Operand} {v : Value} (hc : ev l c = some (.bool true) := by exact rfl) (hx : ev l x = some v := by exact rfl) : Yd P n D l w0 L (.pick c x y) (v) :=
  ⟨by simp, by simp, fun oo ho a w hfr _ => by simp [execOp, ho, hfr.eval hc, hfr.eval hx, asBool]⟩

theorem pkF {c x y : Operand} {v : Value} (hc : ev l c = some (.bool false) := by exact rfl) (hy : ev l y = some v := by exact rfl) : Yd P n D l w0 L (.pick c x y) (v) :=
  ⟨by simp, by simp, fun oo ho a w hfr _ => by simp [execOp, ho, hfr.eval hc, hfr.eval hy, asBool]⟩

theorem lss {x y : Operand} {a b : Int} {k : IntKind} {t u : TypeId} (hx : ev l x = some (.int k a) := by exact rfl) (hy : ev l y = some (.int k b) := by exact rfl) : Yd P n D l w0 L (.binOp .lss t x y u) (.bool (decide (a < b))) :=
  ⟨by simp, by simp, fun oo ho ac w hfr _ => by simp [execOp, ho, hfr.eval hx, hfr.eval hy, eqGuard_lss, binOp_lss]⟩
theorem leq {x y : Operand} {a b : Int} {k : IntKind} {t u : TypeId} (hx : ev l x = some (.int k a) := by exact rfl) (hy : ev l y = some (.int k b) := by exact rfl) : Yd P n D l w0 L (.binOp .leq t x y u) (.bool (decide (a ≤ b))) :=
  ⟨by simp, by simp, fun oo ho ac w hfr _ => by simp [execOp, ho, hfr.eval hx, hfr.eval hy, eqGuard_leq, binOp_leq]⟩
theorem gtr {x y : Operand} {a b : Int} {k : IntKind} {t u : TypeId} (hx : ev l x = some (.int k a) := by exact rfl) (hy : ev l y = some (.int k b) := by exact rfl) : Yd P n D l w0 L (.binOp .gtr t x y u) (.bool (decide (b < a))) :=
  ⟨by simp, by simp, fun oo ho ac w hfr _ => by simp [execOp, ho, hfr.eval hx, hfr.eval hy, eqGuard_gtr, binOp_gtr]⟩
theorem geq {x y : Operand} {a b : Int} {k : IntKind} {t u : TypeId} (hx : ev l x = some (.int k a) := by exact rfl) (hy : ev l y = some (.int k b) := by exact rfl) : Yd P n D l w0 L (.binOp .geq t x y u) (.bool (decide (b ≤ a))) :=
  ⟨by simp, by simp, fun oo ho ac w hfr _ => by simp [execOp, ho, hfr.eval hx, hfr.eval hy, eqGuard_geq, binOp_geq]⟩
theorem eql {x y : Operand} {a b : Int} {k : IntKind} {t u : TypeId} (hx : ev l x = some (.int k a) := by exact rfl) (hy : ev l y = some (.int k b) := by exact rfl) : Yd P n D l w0 L (.binOp .eql t x y u) (.bool (decide (a = b))) :=
  ⟨by simp, by simp, fun oo ho ac w hfr _ => by simp [execOp, ho, hfr.eval hx, hfr.eval hy, eqGuard_at_int, binOp_eql]; rfl⟩
theorem neq {x y : Operand} {a b : Int} {k : IntKind} {t u : TypeId} (hx : ev l x = some (.int k a) := by exact rfl) (hy : ev l y = some (.int k b) := by exact rfl) : Yd P n D l w0 L (.binOp .neq t x y u) (.bool (!decide (a = b))) :=
  ⟨by simp, by simp, fun oo ho ac w hfr _ => by simp [execOp, ho, hfr.eval hx, hfr.eval hy, eqGuard_at_int, binOp_neq]; rfl⟩

/-- equality of truths -/
theorem eqlB {x y : Operand} {a b : Bool} {t u : TypeId} (hb : P.underlying t = some .bool := by kernel_rfl) (hx : ev l x = some (.bool a) := by exact rfl) (hy : ev l y = some (.bool b) := by exact rfl) : Yd P n D l w0 L (.binOp .eql t x y u) (.bool (a == b)) :=
  ⟨by simp, by simp, fun oo ho ac w hfr _ => by
    have : ∀ d : Nat, (Op.equalIn (d + 1) t (.bool a) (.bool b)).run P w = .ok (a == b) w := fun d => by
      simp [Op.equalIn, run_underlying hb]
    simp [execOp, ho, hfr.eval hx, hfr.eval hy, eqGuard_at_bool, binOp, Op.equal, Op.maxDepth, this 9999]⟩
theorem neqB {x y : Operand} {a b : Bool} {t u : TypeId} (hb : P.underlying t = some .bool := by kernel_rfl) (hx : ev l x = some (.bool a) := by exact rfl) (hy : ev l y = some (.bool b) := by exact rfl) : Yd P n D l w0 L (.binOp .neq t x y u) (.bool (!(a == b))) :=
  ⟨by simp, by simp, fun oo ho ac w hfr _ => by
    have : ∀ d : Nat, (Op.equalIn (d + 1) t (.bool a) (.bool b)).run P w = .ok (a == b) w := fun d => by
      simp [Op.equalIn, run_underlying hb]
    simp [execOp, ho, hfr.eval hx, hfr.eval hy, eqGuard_at_bool, binOp, Op.equal, Op.maxDepth, this 9999]⟩

theorem addI {x y : Operand} {a b : Int} {t u : TypeId} (hx : ev l x = some (.int .i64 a) := by exact rfl) (hy : ev l y = some (.int .i64 b) := by exact rfl) 
    (hb : -9223372036854775808 ≤ a + b ∧ a + b ≤ 9223372036854775807 := by omega) : Yd P n D l w0 L (.binOp .add t x y u) (.int .i64 (a + b)) :=
  ⟨by simp, by simp, fun oo ho ac w hfr _ => by simp [execOp, ho, hfr.eval hx, hfr.eval hy, eqGuard_add, binOp_add, Op.intArith, IntWalk.i64_in _ hb]⟩
theorem subI {x y : Operand} {a b : Int} {t u : TypeId} (hx : ev l x = some (.int .i64 a) := by exact rfl) (hy : ev l y = some (.int .i64 b) := by exact rfl) 
    (hb : -9223372036854775808 ≤ a - b ∧ a - b ≤ 9223372036854775807 := by omega) : Yd P n D l w0 L (.binOp .sub t x y u) (.int .i64 (a - b)) :=
  ⟨by simp, by simp, fun oo ho ac w hfr _ => by simp [execOp, ho, hfr.eval hx, hfr.eval hy, eqGuard_sub, binOp_sub, Op.intArith, IntWalk.i64_in _ hb]⟩
theorem mulI {x y : Operand} {a b : Int} {t u : TypeId} (hx : ev l x = some (.int .i64 a) := by exact rfl) (hy : ev l y = some (.int .i64 b) := by exact rfl) 
    (hb : -9223372036854775808 ≤ a * b ∧ a * b ≤ 9223372036854775807 := by omega) : Yd P n D l w0 L (.binOp .mul t x y u) (.int .i64 (a * b)) :=
  ⟨by simp, by simp, fun oo ho ac w hfr _ => by simp [execOp, ho, hfr.eval hx, hfr.eval hy, eqGuard_mul, binOp_mul, Op.intArith, IntWalk.i64_in _ hb]⟩
theorem quoI {x y : Operand} {a b : Int} {t u : TypeId} (hx : ev l x = some (.int .i64 a) := by exact rfl) (hy : ev l y = some (.int .i64 b) := by exact rfl) 
    (hb : 0 ≤ a ∧ a ≤ 9223372036854775807 ∧ 1 ≤ b := by omega) : Yd P n D l w0 L (.binOp .quo t x y u) (.int .i64 (a / b)) :=
  ⟨by simp, by simp, fun oo ho ac w hfr _ => by
    have h0 : ¬ b = 0 := by omega
    simp [execOp, ho, hfr.eval hx, hfr.eval hy, eqGuard_quo, binOp_quo, Op.intDiv, h0, IntWalk.i64_quo _ _ hb]⟩
theorem remI {x y : Operand} {a b : Int} {t u : TypeId} (hx : ev l x = some (.int .i64 a) := by exact rfl) (hy : ev l y = some (.int .i64 b) := by exact rfl) 
    (hb : 0 ≤ a ∧ 1 ≤ b := by omega) : Yd P n D l w0 L (.binOp .rem t x y u) (.int .i64 (a % b)) :=
  ⟨by simp, by simp, fun oo ho ac w hfr _ => by
    have h0 : ¬ b = 0 := by omega
    simp [execOp, ho, hfr.eval hx, hfr.eval hy, eqGuard_rem, binOp_rem, Op.intDiv, h0, IntWalk.rem_in _ _ hb.1]⟩
theorem notB {x : Operand} {b : Bool} {t : TypeId} (hx : ev l x = some (.bool b) := by exact rfl) : Yd P n D l w0 L (.unOp .not t x) (.bool (!b)) :=
  ⟨by simp, by simp, fun oo ho ac w hfr _ => by simp [execOp, ho, hfr.eval hx, Op.unary]⟩
theorem negI {x : Operand} {a : Int} {t : TypeId} (hx : ev l x = some (.int .i64 a) := by exact rfl) 
    (hb : -9223372036854775807 ≤ a ∧ a ≤ 9223372036854775807 := by omega) : Yd P n D l w0 L (.unOp .neg t x) (.int .i64 (-a)) :=
  ⟨by simp, by simp, fun oo ho ac w hfr _ => by
    have h0 : IntKind.i64.wrap (-a) = -a := IntWalk.i64_in _ (by omega)
    simp [execOp, ho, hfr.eval hx, Op.unary, Op.intArith, h0]⟩

theorem ex {x : Operand} {vs : List Value} {i : Nat} {v : Value} (hx : ev l x = some (.tuple vs.toArray) := by exact rfl) (hv : vs[i]? = some v := by exact rfl) : Yd P n D l w0 L (.extract x i) (v) :=
  ⟨by simp, by simp, fun oo ho ac w hfr _ => by
    have hv' : vs.toArray[i]? = some v := by simpa using hv
    simp [execOp, ho, hfr.eval hx, Instr.extract, hv']⟩

theorem mkf {fn : Fn} {first captured : List Operand} {vs us : List Value} (hf : Evs l first vs := by repeat (first | exact Evs.nil | (apply Evs.cons; exact rfl))) (hc : Evs l captured us := by repeat (first | exact Evs.nil | (apply Evs.cons; exact rfl))) : Yd P n D l w0 L (.makeFunc fn first.toArray captured.toArray) (.func fn vs.toArray us.toArray) :=
  ⟨by simp, by simp, fun oo ho ac w hfr _ => by simp [execOp, ho, Instr.makeFunc, hfr.evals hf, hfr.evals hc]⟩

/-! #### min, max of two -/
theorem minI {x y : Operand} {a b : Int} {k : IntKind} {ts : Array TypeId} (hx : ev l x = some (.int k a) := by exact rfl) (hy : ev l y = some (.int k b) := by exact rfl) : Yd P n D l w0 L (.call { callee := .builtin .min, args := #[x, y], argTypes := ts }) (.int k (min a b)) :=
  ⟨by simp, by simp, fun oo ho ac w hfr _ => by
    have : (if b < a then b else a) = min a b := by omega
    simp [execOp, ho, resolve, invoke, builtin, hfr.eval hx, hfr.eval hy, Builtin.min_, Builtin.min2, this]⟩
theorem maxI {x y : Operand} {a b : Int} {k : IntKind} {ts : Array TypeId} (hx : ev l x = some (.int k a) := by exact rfl) (hy : ev l y = some (.int k b) := by exact rfl) : Yd P n D l w0 L (.call { callee := .builtin .max, args := #[x, y], argTypes := ts }) (.int k (max a b)) :=
  ⟨by simp, by simp, fun oo ho ac w hfr _ => by
    have : (if a < b then b else a) = max a b := by omega
    simp [execOp, ho, resolve, invoke, builtin, hfr.eval hx, hfr.eval hy, Builtin.max_, Builtin.max2, this]⟩
theorem maxI3 {x y z : Operand} {a b c : Int} {k : IntKind} {ts : Array TypeId} (hx : ev l x = some (.int k a) := by exact rfl) (hy : ev l y = some (.int k b) := by exact rfl) (hz : ev l z = some (.int k c) := by exact rfl) : Yd P n D l w0 L (.call { callee := .builtin .max, args := #[x, y, z], argTypes := ts }) (.int k (max (max a b) c)) :=
  ⟨by simp, by simp, fun oo ho ac w hfr _ => by
    have e1 : (if a < b then b else a) = max a b := by omega
    have e2 : (if max a b < c then c else max a b) = max (max a b) c := by omega
    simp [execOp, ho, resolve, invoke, builtin, hfr.eval hx, hfr.eval hy, hfr.eval hz, Builtin.max_, Builtin.max2, e1, e2]⟩

theorem lenS {x : Operand} {A : Option Addr} {m c : Nat} {t e : TypeId} (hT : SliceTy P t e := by infer_instance) (hx : ev l x = some (.slice A m c) := by exact rfl) : Yd P n D l w0 L (.call { callee := .builtin .len, args := #[x], argTypes := #[t] }) (.int .i64 m) :=
  ⟨by simp, by simp, fun oo ho ac w hfr _ => by
    simp [execOp, ho, resolve, invoke, builtin, hfr.eval hx, Builtin.len_, run_underlying hT.und, goInt]⟩

end rules
end Go.Proofs.Ytacaojifempclaa
