/- The texts of the walk, part 2. -/
import Derived.Test.YthkliiifllhacaaGreatJ1
import Derived.Test.YthkliiifllhacaaGreatProg
import Derived.KernelRfl
import Derived.Maps.RangeRun
namespace Go.Proofs.YthkliiifllhacaaGreat
open Go Go.RowKit

theorem St.clearN {w0 : World} {M : List Ent} {g cap : Nat} {T : TypeId} {n size : Nat} (h0 : 0 < size) : ∀ (vs : List Value) (i : Nat) (w : World) (es : List (List Value)), i + vs.length = n * size → (∀ v ∈ vs, v.oneCell' = true) → St w0 w (.own (some ⟨g, 0, none⟩) cap T size n es :: M) →
    ∃ es', St w0 (w.setCells g i vs) (.own (some ⟨g, 0, none⟩) cap T size n es' :: M) ∧ ∀ lo, lo * size ≤ i → es'.take lo = es.take lo
  | [], i, w, es, _, _, h => ⟨es, h, fun _ _ => rfl⟩
  | v :: vs, i, w, es, hi, h1, h => by
    have hlen : es.length = n := (h.ok (.own (some ⟨g, 0, none⟩) cap T size n es) (by simp)).2.len
    rw [List.length_cons] at hi
    have hk : i / size < n := by rw [Nat.div_lt_iff_lt_mul h0]; omega
    have he : es[i / size]? = some (es[i / size]'(by omega)) := List.getElem?_eq_getElem (by omega)
    obtain ⟨ad, had, _, _, hs⟩ := own_set h he (j := i % size) (v := v) (Nat.mod_lt _ h0) (h1 v (by simp))
    injection had with had; subst had
    have e : (⟨g, 0, none⟩ : Addr).add (i / size * size + i % size) = ⟨g, i, none⟩ := by
      rw [add_lit, Nat.mul_comm, Nat.div_add_mod]; simp
    rw [e] at hs
    obtain ⟨es', hs', ht⟩ := St.clearN h0 vs (i + 1) _ _ (by omega) (fun u hu => h1 u (by simp [hu])) hs
    refine ⟨es', hs', fun lo hlo => ?_⟩
    rw [ht lo (by omega), List.take_set_of_le]
    exact (Nat.le_div_iff_mul_le h0).2 hlo
theorem zeroCells_mem {zl : List Value} {n : Nat} (h0 : 0 < zl.length) {v : Value} (h : v ∈ (Builtin.zeroCells zl.toArray n).toList) : v ∈ zl := by
  simp only [Builtin.zeroCells, Array.toList_map, List.mem_map] at h
  obtain ⟨i, _, rfl⟩ := h
  have hm : i % zl.length < zl.length := Nat.mod_lt _ h0
  simp only [List.size_toArray]
  rw [getElem!_pos zl.toArray (i % zl.length) (by simpa using hm)]
  simp
theorem zeroCells_len (zl : List Value) (n : Nat) : (Builtin.zeroCells zl.toArray n).toList.length = n * zl.length := by
  simp [Builtin.zeroCells]
section rules
variable {F : Fence} {P : Program} {ops : Array Oper} {Q : Exit → Act → World → Prop} {rest : List Oper} {n : Nat} {D : List Deferred} {l : Env} {w0 : World} {L M : List Ent}
variable {d : Nat} {ty : TypeId} {pos : String} {aft : Array Edge}
theorem clrS {x : Operand} {t T : TypeId} (hT : SliceTy P t T := by infer_instance) {agg : Bool} {size bytes : Nat} {z : Value} {zl : List Value} (hE : Ty P T agg size bytes z zl := by infer_instance) (h1 : zl.all (·.oneCell') = true := by rfl) (h0 : 0 < size := by decide) {A : Option Addr} {m cap : Nat} (lo : Nat) {es : List (List Value)}
    (hx : ev l x = some (.slice (if cap = lo then A else A.map (·.add (lo * size))) (m - lo) (cap - lo)) := by exact rfl) (ha : At L (.own A cap T size m es) M := by repeat (first | exact At.here | apply At.there)) (hlo : lo < m)
    (h : ∀ es', es'.take lo = es.take lo → WL F P ops Q rest n D l w0 (.own A cap T size m es' :: M)) : WL F P ops Q (⟨none, .call { callee := .builtin .clear, args := #[x], argTypes := #[t] }, ty, pos, aft, none⟩ :: rest) n D l w0 L := by
  intro hF a w hfr hst
  have hst1 := hst.pull ha
  obtain ⟨hown, hrd⟩ := hst1.ok (.own A cap T size m es) (by simp)
  rcases hown.2 with ⟨hv, h0'⟩ | ⟨g, cap', cur, hv, hb, hg, g1, g2, g3, g4⟩
  · injection hv with e1 e2 e3
    have := hrd.len; have := hrd.some_ (by omega)
    obtain ⟨_, h⟩ := this
    rw [e1] at h; cases h
  injection hv with e1 e2 e3; subst e1 e3
  have hne : ¬ (cap = lo) := by
    have := hst1.room; omega
  have hzl : zl.length = size := hE.zs
  have hsum : lo * size + (Builtin.zeroCells zl.toArray (m - lo)).toList.length = m * size := by
    rw [zeroCells_len, hzl, ← Nat.add_mul]; congr 1; omega
  have hone : ∀ v ∈ (Builtin.zeroCells zl.toArray (m - lo)).toList, v.oneCell' = true := fun v hv => List.all_eq_true.1 h1 v (zeroCells_mem (by omega) hv)
  obtain ⟨es', hs', ht⟩ := St.clearN h0 _ (lo * size) w es hsum hone hst1
  have he := hfr.eval hx
  rw [if_neg hne] at he
  have hadd : (⟨g, 0, none⟩ : Addr).add (lo * size) = ⟨g, lo * size, none⟩ := by rw [add_lit]; simp
  have hst := run_storeCells_cells (P := P) g (lo * size) _ 0 w (fun j hj => by
      rw [zeroCells_len, hzl] at hj
      have hlt : lo * size + j < m * size := by rw [zeroCells_len, hzl] at hsum; omega
      have hk' : (lo * size + j) / size < m := by rw [Nat.div_lt_iff_lt_mul h0]; exact hlt
      have hk : es[(lo * size + j) / size]? = some (es[(lo * size + j) / size]'(by rw [hrd.len]; exact hk')) := List.getElem?_eq_getElem _
      have hl := hrd.each _ (List.mem_of_getElem? hk)
      have := hrd.cell _ rfl _ _ hk ((lo * size + j) % size) _ (List.getElem?_eq_getElem (by rw [hl]; exact Nat.mod_lt _ h0))
      rw [add_lit, Nat.mul_comm _ size, Nat.div_add_mod] at this
      simp at this
      simp [this]) (fun j hj => hown.frozenAt _) hone
  rw [Nat.add_zero] at hst
  have hrun : (Builtin.clear_ #[t] ty #[.slice (some ⟨g, lo * size, none⟩) (m - lo) (cap - lo)]).run P w = .ok (.tuple #[]) (w.setCells g (lo * size) (Builtin.zeroCells zl.toArray (m - lo)).toList) := by
    have hzv : (zeroValue T).run P w = .ok z w := run_zeroValue hE w
    obtain ⟨q, hq⟩ : ∃ q, m - lo = q + 1 := ⟨m - lo - 1, by omega⟩
    rw [hq] at hst ⊢
    simp [Builtin.clear_, run_underlying hT.und, hzv, hE.zc, hst]
  show (if _ then _ else _)
  rw [if_pos (by simp [Region.wanted])]
  refine ⟨fun f _ => hF.fn f, ?_⟩
  have hr : (execOp a.eval ⟨none, .call { callee := .builtin .clear, args := #[x], argTypes := #[t] }, ty, pos, aft, none⟩).run P w = .ok (.value (.tuple #[])) (w.setCells g (lo * size) (Builtin.zeroCells zl.toArray (m - lo)).toList) := by
    simp only [Option.map_some, hadd] at he
    simp [execOp, resolve, invoke, builtin, he, hrun]
  rw [semAt_plain (by simp), hr]
  exact h es' (ht lo (Nat.le_refl _)) hF _ _ (hfr.put_none _) hs'
end rules

section
variable {F : Fence} {P : Program} {Q : Exit → Act → World → Prop} {n : Nat} {D : List Deferred} {l : Env} {w0 : World} {L M M' M'' : List Ent}
end
/-! #### short names of steps -/
section
variable {F : Fence} {P : Program} {ops : Array Oper} {Q : Exit → Act → World → Prop} {rest : List Oper} {n : Nat} {D : List Deferred} {l : Env} {w0 : World} {L : List Ent} {d : Nat} {ty : TypeId} {pos : String} {aft : Array Edge} {op : Op} {v : Value}
theorem ww (h : WL F P ops Q rest n D ((d, v) :: l) w0 L) (hy : Yd P n D l w0 L op v := by first | exact fa | exact faE | exact mv | exact ld | exact ldE | exact asg | exact ldA | exact ldEA | exact pkT | exact pkF | exact addI | exact eql | exact bd | exact ex | exact nck | exact lenS | exact lss | exact notB | exact subI | exact geq | exact neq | exact gtr | exact leq | exact remI | exact mulI | exact maxI | exact quoI | exact mkf | exact minI) (hd : Nat.blt d n = true := by rfl) : WL F P ops Q (⟨some d, op, ty, pos, aft, none⟩ :: rest) n D l w0 L := WL.y hy hd h
theorem uz {dst : Option Nat} {j g : Nat} {b : Bool} (h : WL F P ops Q (⟨dst, op, ty, pos, aft, none⟩ :: rest) n D l w0 L) (hg : gsl ops j = some g := by exact rfl) (hv : look l g = some (.bool b) := by exact rfl) : WL F P ops Q (⟨dst, op, ty, pos, aft, some (j, b)⟩ :: rest) n D l w0 L := un hg hv h
theorem uw {j g : Nat} {b : Bool} (h : WL F P ops Q rest n D ((d, v) :: l) w0 L) (hg : gsl ops j = some g := by exact rfl) (hv : look l g = some (.bool b) := by exact rfl) (hy : Yd P n D l w0 L op v := by first | exact fa | exact faE | exact mv | exact ld | exact ldE | exact asg | exact ldA | exact ldEA | exact pkT | exact pkF | exact addI | exact eql | exact bd | exact ex | exact nck | exact lenS | exact lss | exact notB | exact subI | exact geq | exact neq | exact gtr | exact leq | exact remI | exact mulI | exact maxI | exact quoI | exact mkf | exact minI) (hd : Nat.blt d n = true := by rfl) : WL F P ops Q (⟨some d, op, ty, pos, aft, some (j, b)⟩ :: rest) n D l w0 L := un hg hv (WL.y hy hd h)
theorem kz {j g : Nat} {b : Bool} {v : Value} (h : WL F P ops Q rest n D ((d, undef) :: l) w0 L) (hg : gsl ops j = some g := by exact rfl) (hv : look l g = some v := by exact rfl) (hn : noB b v = true := by exact rfl) (hd : Nat.blt d n = true := by rfl) : WL F P ops Q (⟨some d, op, ty, pos, aft, some (j, b)⟩ :: rest) n D l w0 L := sk hg hv hn hd h
theorem wz (h : WL F P ops Q rest n D ((d, v) :: l) w0 L) (hy : Yd P n D l w0 L op v := by first | exact pkF | exact pkT) (hd : Nat.blt d n = true := by rfl) : WL F P ops Q (⟨some d, op, ty, pos, aft, none⟩ :: rest) n D l w0 L := WL.y hy hd h
theorem sr {id : Nat} {os : List Oper} {y : Code} (h : WL F P os.toArray (Exit.then (y.wpIn F 0 P Q) Q) os n D l w0 L) : WC F P (.seq (.region id os.toArray false) y) Q n D l w0 L := sq (rg h)
theorem nq {y : Code} (h : WC F P y Q n D l w0 L) : WL F P ops (Exit.then (y.wpIn F 0 P Q) Q) [] n D l w0 L := nl (q_seq h)
theorem nr {id : Nat} {os : List Oper} {y : Code} (h : WL F P os.toArray (Exit.then (y.wpIn F 0 P Q) Q) os n D l w0 L) : WL F P ops (Exit.then ((Code.seq (.region id os.toArray false) y).wpIn F 0 P Q) Q) [] n D l w0 L := nq (sr h)
theorem czz {c : Operand} {x y : Code} {b : Bool} (ht : b = true → WC F P x Q n D l w0 L) (hf : b = false → WC F P y Q n D l w0 L) (hc : ev l c = some (.bool b) := by exact rfl) : WC F P (.cond c x y) Q n D l w0 L := cd hc ht hf
theorem tw {held : List (Nat × Ent)} {fuel : Nat} {listed : Array Bool} (i : Nat) {gd : Option (Nat × Bool)} {E : List Ent} (h : WH F P ops Q held fuel (listed.setIfInBounds i true) n D ((d, v) :: l) w0 L)
    (hi : ops[i]? = some ⟨some d, op, ty, pos, aft, gd⟩ := by exact rfl) (hg : gd = none ∨ ∃ j b g, gd = some (j, b) ∧ gsl ops j = some g ∧ look l g = some (.bool b) := by first | exact .inl rfl | exact .inr ⟨_, _, _, rfl, rfl, rfl⟩)
    (hE : HE ops i held E := by repeat (first | exact HE.nil | (apply HE.keep; exact rfl) | apply HE.drop)) (hy : Yd P n D l w0 E op v := by first | exact fa | exact faE | exact mv | exact ld | exact ldE | exact asg | exact ldA | exact ldEA | exact pkT | exact pkF | exact addI | exact eql | exact bd | exact ex | exact nck | exact lenS | exact lss | exact notB | exact subI | exact geq | exact neq | exact gtr | exact leq | exact remI | exact mulI | exact maxI | exact quoI | exact mkf | exact minI)
    (hc : (plainOps ops && Region.free .any ops listed i && (Region.ready .any ops listed).contains i) = true := by kernel_rfl) (hne : (held.map (·.1)).all (fun k => !Nat.beq k i) = true := by exact rfl)
    (hl : ((held.map (·.1)).all fun k => !waits ops k i || !listed.getD k false) = true := by exact rfl) (hd : Nat.blt d n = true := by rfl) : WH F P ops Q held (fuel + 1) listed n D l w0 L := tk i hi hg hE hy hc hne hl hd h
end
end Go.Proofs.YthkliiifllhacaaGreat

namespace Go.Proofs.YthkliiifllhacaaGreat
open Go

-- 1 func()
instance : Ty Tryz.prog 1 false 1 8 (.nilFunc) [.nilFunc] := ⟨by kernel_rfl, by kernel_rfl, rfl, rfl⟩
-- 2 int64
instance : Ty Tryz.prog 2 false 1 8 (.int .i64 0) [.int .i64 0] := ⟨by kernel_rfl, by kernel_rfl, rfl, rfl⟩
-- 3 int
instance : Ty Tryz.prog 3 false 1 8 (.int .i64 0) [.int .i64 0] := ⟨by kernel_rfl, by kernel_rfl, rfl, rfl⟩
-- 4 bool
instance : Ty Tryz.prog 4 false 1 1 (.bool false) [.bool false] := ⟨by kernel_rfl, by kernel_rfl, rfl, rfl⟩
-- 5 uint8
instance : Ty Tryz.prog 5 false 1 1 (.int .u8 0) [.int .u8 0] := ⟨by kernel_rfl, by kernel_rfl, rfl, rfl⟩
-- 7 struct { x int64; y int; signed bool; code abi.BoundsErrorCode }
instance : Ty Tryz.prog 7 true 4 24 (.agg #[.int .i64 0, .int .i64 0, .bool false, .int .u8 0]) [.int .i64 0, .int .i64 0, .bool false, .int .u8 0] := ⟨by kernel_rfl, by kernel_rfl, rfl, rfl⟩
instance : FieldTy Tryz.prog 7 0 0 2 0 := ⟨by kernel_rfl, by kernel_rfl⟩
instance : FieldTy Tryz.prog 7 1 1 3 0 := ⟨by kernel_rfl, by kernel_rfl⟩
instance : FieldTy Tryz.prog 7 2 2 4 0 := ⟨by kernel_rfl, by kernel_rfl⟩
instance : FieldTy Tryz.prog 7 3 3 6 0 := ⟨by kernel_rfl, by kernel_rfl⟩
instance : BuildTy Tryz.prog 7 [(0, 1), (1, 1), (2, 1), (3, 1)] [.int .i64 0, .int .i64 0, .bool false, .int .u8 0] := ⟨fun parts => by kernel_rfl⟩
-- 9 string
instance : Ty Tryz.prog 9 false 1 16 (.string ByteArray.empty) [.string ByteArray.empty] := ⟨by kernel_rfl, by kernel_rfl, rfl, rfl⟩
-- 12 uintptr
instance : Ty Tryz.prog 12 false 1 8 (.int .u64 0) [.int .u64 0] := ⟨by kernel_rfl, by kernel_rfl, rfl, rfl⟩
-- 13 struct { msg string; addr uintptr }
instance : Ty Tryz.prog 13 true 2 24 (.agg #[.string ByteArray.empty, .int .u64 0]) [.string ByteArray.empty, .int .u64 0] := ⟨by kernel_rfl, by kernel_rfl, rfl, rfl⟩
instance : FieldTy Tryz.prog 13 0 0 9 0 := ⟨by kernel_rfl, by kernel_rfl⟩
instance : FieldTy Tryz.prog 13 1 1 12 0 := ⟨by kernel_rfl, by kernel_rfl⟩
instance : BuildTy Tryz.prog 13 [(0, 1), (1, 1)] [.string ByteArray.empty, .int .u64 0] := ⟨fun parts => by kernel_rfl⟩
-- 18 struct { typ *abi.Type }
instance : Ty Tryz.prog 18 true 1 8 (.agg #[.pointer none]) [.pointer none] := ⟨by kernel_rfl, by kernel_rfl, rfl, rfl⟩
instance : FieldTy Tryz.prog 18 0 0 17 0 := ⟨by kernel_rfl, by kernel_rfl⟩
instance : BuildTy Tryz.prog 18 [(0, 1)] [.pointer none] := ⟨fun parts => by kernel_rfl⟩
-- 20 
instance : Ty Tryz.prog 20 false 1 16 (.nilIface) [.nilIface] := ⟨by kernel_rfl, by kernel_rfl, rfl, rfl⟩
-- 21 int32
instance : Ty Tryz.prog 21 false 1 4 (.int .i32 0) [.int .i32 0] := ⟨by kernel_rfl, by kernel_rfl, rfl, rfl⟩
-- 22 []api.Report
instance : Ty Tryz.prog 22 false 1 24 (.slice none 0 0) [.slice none 0 0] := ⟨by kernel_rfl, by kernel_rfl, rfl, rfl⟩
instance : SliceTy Tryz.prog 22 90 := ⟨by kernel_rfl⟩
-- 23 []api.Absence
instance : Ty Tryz.prog 23 false 1 24 (.slice none 0 0) [.slice none 0 0] := ⟨by kernel_rfl, by kernel_rfl, rfl, rfl⟩
instance : SliceTy Tryz.prog 23 115 := ⟨by kernel_rfl⟩
-- 24 struct { Players int; Counts int; Reports []api.Report; Bans []api.Absence; Frozen []api.Absence }
instance : Ty Tryz.prog 24 true 5 88 (.agg #[.int .i64 0, .int .i64 0, .slice none 0 0, .slice none 0 0, .slice none 0 0]) [.int .i64 0, .int .i64 0, .slice none 0 0, .slice none 0 0, .slice none 0 0] := ⟨by kernel_rfl, by kernel_rfl, rfl, rfl⟩
instance : FieldTy Tryz.prog 24 0 0 3 0 := ⟨by kernel_rfl, by kernel_rfl⟩
instance : FieldTy Tryz.prog 24 1 1 3 0 := ⟨by kernel_rfl, by kernel_rfl⟩
instance : FieldTy Tryz.prog 24 2 2 22 0 := ⟨by kernel_rfl, by kernel_rfl⟩
instance : FieldTy Tryz.prog 24 3 3 23 0 := ⟨by kernel_rfl, by kernel_rfl⟩
instance : FieldTy Tryz.prog 24 4 4 23 0 := ⟨by kernel_rfl, by kernel_rfl⟩
instance : BuildTy Tryz.prog 24 [(0, 1), (1, 1), (2, 1), (3, 1), (4, 1)] [.int .i64 0, .int .i64 0, .slice none 0 0, .slice none 0 0, .slice none 0 0] := ⟨fun parts => by kernel_rfl⟩
-- 25 deuce/api.Ledger
instance : Ty Tryz.prog 25 true 5 88 (.agg #[.int .i64 0, .int .i64 0, .slice none 0 0, .slice none 0 0, .slice none 0 0]) [.int .i64 0, .int .i64 0, .slice none 0 0, .slice none 0 0, .slice none 0 0] := ⟨by kernel_rfl, by kernel_rfl, rfl, rfl⟩
instance : FieldTy Tryz.prog 25 0 0 3 0 := ⟨by kernel_rfl, by kernel_rfl⟩
instance : FieldTy Tryz.prog 25 1 1 3 0 := ⟨by kernel_rfl, by kernel_rfl⟩
instance : FieldTy Tryz.prog 25 2 2 22 0 := ⟨by kernel_rfl, by kernel_rfl⟩
instance : FieldTy Tryz.prog 25 3 3 23 0 := ⟨by kernel_rfl, by kernel_rfl⟩
instance : FieldTy Tryz.prog 25 4 4 23 0 := ⟨by kernel_rfl, by kernel_rfl⟩
instance : BuildTy Tryz.prog 25 [(0, 1), (1, 1), (2, 1), (3, 1), (4, 1)] [.int .i64 0, .int .i64 0, .slice none 0 0, .slice none 0 0, .slice none 0 0] := ⟨fun parts => by kernel_rfl⟩
-- 26 []int
instance : Ty Tryz.prog 26 false 1 24 (.slice none 0 0) [.slice none 0 0] := ⟨by kernel_rfl, by kernel_rfl, rfl, rfl⟩
instance : SliceTy Tryz.prog 26 3 := ⟨by kernel_rfl⟩
-- 27 struct { Week int; Nations []int; Lots []int }
instance : Ty Tryz.prog 27 true 3 56 (.agg #[.int .i64 0, .slice none 0 0, .slice none 0 0]) [.int .i64 0, .slice none 0 0, .slice none 0 0] := ⟨by kernel_rfl, by kernel_rfl, rfl, rfl⟩
instance : FieldTy Tryz.prog 27 0 0 3 0 := ⟨by kernel_rfl, by kernel_rfl⟩
instance : FieldTy Tryz.prog 27 1 1 26 0 := ⟨by kernel_rfl, by kernel_rfl⟩
instance : FieldTy Tryz.prog 27 2 2 26 0 := ⟨by kernel_rfl, by kernel_rfl⟩
instance : BuildTy Tryz.prog 27 [(0, 1), (1, 1), (2, 1)] [.int .i64 0, .slice none 0 0, .slice none 0 0] := ⟨fun parts => by kernel_rfl⟩
-- 28 deuce/deucetop.Ballot
instance : Ty Tryz.prog 28 true 3 56 (.agg #[.int .i64 0, .slice none 0 0, .slice none 0 0]) [.int .i64 0, .slice none 0 0, .slice none 0 0] := ⟨by kernel_rfl, by kernel_rfl, rfl, rfl⟩
instance : FieldTy Tryz.prog 28 0 0 3 0 := ⟨by kernel_rfl, by kernel_rfl⟩
instance : FieldTy Tryz.prog 28 1 1 26 0 := ⟨by kernel_rfl, by kernel_rfl⟩
instance : FieldTy Tryz.prog 28 2 2 26 0 := ⟨by kernel_rfl, by kernel_rfl⟩
instance : BuildTy Tryz.prog 28 [(0, 1), (1, 1), (2, 1)] [.int .i64 0, .slice none 0 0, .slice none 0 0] := ⟨fun parts => by kernel_rfl⟩
-- 29 func(api.Ledger) bool
instance : Ty Tryz.prog 29 false 1 8 (.nilFunc) [.nilFunc] := ⟨by kernel_rfl, by kernel_rfl, rfl, rfl⟩
-- 30 deuce/api.Errno
instance : Ty Tryz.prog 30 false 1 8 (.int .i64 0) [.int .i64 0] := ⟨by kernel_rfl, by kernel_rfl, rfl, rfl⟩
-- 31 func(api.Ledger) api.Errno
instance : Ty Tryz.prog 31 false 1 8 (.nilFunc) [.nilFunc] := ⟨by kernel_rfl, by kernel_rfl, rfl, rfl⟩
-- 32 func() bool
instance : Ty Tryz.prog 32 false 1 8 (.nilFunc) [.nilFunc] := ⟨by kernel_rfl, by kernel_rfl, rfl, rfl⟩
-- 34 func(api.Ledger, int) ([]int, api.Errno)
instance : Ty Tryz.prog 34 false 1 8 (.nilFunc) [.nilFunc] := ⟨by kernel_rfl, by kernel_rfl, rfl, rfl⟩
-- 35 []api.Person
instance : Ty Tryz.prog 35 false 1 24 (.slice none 0 0) [.slice none 0 0] := ⟨by kernel_rfl, by kernel_rfl, rfl, rfl⟩
instance : SliceTy Tryz.prog 35 103 := ⟨by kernel_rfl⟩
-- 36 struct { Size int; Seeds int; Persons []api.Person; Lots []int }
instance : Ty Tryz.prog 36 true 4 64 (.agg #[.int .i64 0, .int .i64 0, .slice none 0 0, .slice none 0 0]) [.int .i64 0, .int .i64 0, .slice none 0 0, .slice none 0 0] := ⟨by kernel_rfl, by kernel_rfl, rfl, rfl⟩
instance : FieldTy Tryz.prog 36 0 0 3 0 := ⟨by kernel_rfl, by kernel_rfl⟩
instance : FieldTy Tryz.prog 36 1 1 3 0 := ⟨by kernel_rfl, by kernel_rfl⟩
instance : FieldTy Tryz.prog 36 2 2 35 0 := ⟨by kernel_rfl, by kernel_rfl⟩
instance : FieldTy Tryz.prog 36 3 3 26 0 := ⟨by kernel_rfl, by kernel_rfl⟩
instance : BuildTy Tryz.prog 36 [(0, 1), (1, 1), (2, 1), (3, 1)] [.int .i64 0, .int .i64 0, .slice none 0 0, .slice none 0 0] := ⟨fun parts => by kernel_rfl⟩
-- 37 deuce/api.Plan
instance : Ty Tryz.prog 37 true 4 64 (.agg #[.int .i64 0, .int .i64 0, .slice none 0 0, .slice none 0 0]) [.int .i64 0, .int .i64 0, .slice none 0 0, .slice none 0 0] := ⟨by kernel_rfl, by kernel_rfl, rfl, rfl⟩
instance : FieldTy Tryz.prog 37 0 0 3 0 := ⟨by kernel_rfl, by kernel_rfl⟩
instance : FieldTy Tryz.prog 37 1 1 3 0 := ⟨by kernel_rfl, by kernel_rfl⟩
instance : FieldTy Tryz.prog 37 2 2 35 0 := ⟨by kernel_rfl, by kernel_rfl⟩
instance : FieldTy Tryz.prog 37 3 3 26 0 := ⟨by kernel_rfl, by kernel_rfl⟩
instance : BuildTy Tryz.prog 37 [(0, 1), (1, 1), (2, 1), (3, 1)] [.int .i64 0, .int .i64 0, .slice none 0 0, .slice none 0 0] := ⟨fun parts => by kernel_rfl⟩
-- 39 func([]int, deucetop.Ballot) (api.Plan, bool)
instance : Ty Tryz.prog 39 false 1 8 (.nilFunc) [.nilFunc] := ⟨by kernel_rfl, by kernel_rfl, rfl, rfl⟩
-- 40 func(api.Plan) ([]int, api.Errno)
instance : Ty Tryz.prog 40 false 1 8 (.nilFunc) [.nilFunc] := ⟨by kernel_rfl, by kernel_rfl, rfl, rfl⟩
-- 42 func(api.Ledger, int, int) (int, api.Errno)
instance : Ty Tryz.prog 42 false 1 8 (.nilFunc) [.nilFunc] := ⟨by kernel_rfl, by kernel_rfl, rfl, rfl⟩
-- 43 func(api.Ledger, deucetop.Ballot) bool
instance : Ty Tryz.prog 43 false 1 8 (.nilFunc) [.nilFunc] := ⟨by kernel_rfl, by kernel_rfl, rfl, rfl⟩
-- 44 func(api.Ledger) api.Ledger
instance : Ty Tryz.prog 44 false 1 8 (.nilFunc) [.nilFunc] := ⟨by kernel_rfl, by kernel_rfl, rfl, rfl⟩
-- 46 func(api.Ledger, []api.Report) (api.Ledger, api.Errno)
instance : Ty Tryz.prog 46 false 1 8 (.nilFunc) [.nilFunc] := ⟨by kernel_rfl, by kernel_rfl, rfl, rfl⟩
-- 47 func(api.Ledger, deucetop.Ballot, int) bool
instance : Ty Tryz.prog 47 false 1 8 (.nilFunc) [.nilFunc] := ⟨by kernel_rfl, by kernel_rfl, rfl, rfl⟩
-- 48 struct { Sets int; Games int; NoAd bool; Tie int; To int; LastTie int; LastTo int; First int; Then int; Doubles bool }
instance : Ty Tryz.prog 48 true 10 80 (.agg #[.int .i64 0, .int .i64 0, .bool false, .int .i64 0, .int .i64 0, .int .i64 0, .int .i64 0, .int .i64 0, .int .i64 0, .bool false]) [.int .i64 0, .int .i64 0, .bool false, .int .i64 0, .int .i64 0, .int .i64 0, .int .i64 0, .int .i64 0, .int .i64 0, .bool false] := ⟨by kernel_rfl, by kernel_rfl, rfl, rfl⟩
instance : FieldTy Tryz.prog 48 0 0 3 0 := ⟨by kernel_rfl, by kernel_rfl⟩
instance : FieldTy Tryz.prog 48 1 1 3 0 := ⟨by kernel_rfl, by kernel_rfl⟩
instance : FieldTy Tryz.prog 48 2 2 4 0 := ⟨by kernel_rfl, by kernel_rfl⟩
instance : FieldTy Tryz.prog 48 3 3 3 0 := ⟨by kernel_rfl, by kernel_rfl⟩
instance : FieldTy Tryz.prog 48 4 4 3 0 := ⟨by kernel_rfl, by kernel_rfl⟩
instance : FieldTy Tryz.prog 48 5 5 3 0 := ⟨by kernel_rfl, by kernel_rfl⟩
instance : FieldTy Tryz.prog 48 6 6 3 0 := ⟨by kernel_rfl, by kernel_rfl⟩
instance : FieldTy Tryz.prog 48 7 7 3 0 := ⟨by kernel_rfl, by kernel_rfl⟩
instance : FieldTy Tryz.prog 48 8 8 3 0 := ⟨by kernel_rfl, by kernel_rfl⟩
instance : FieldTy Tryz.prog 48 9 9 4 0 := ⟨by kernel_rfl, by kernel_rfl⟩
instance : BuildTy Tryz.prog 48 [(0, 1), (1, 1), (2, 1), (3, 1), (4, 1), (5, 1), (6, 1), (7, 1), (8, 1), (9, 1)] [.int .i64 0, .int .i64 0, .bool false, .int .i64 0, .int .i64 0, .int .i64 0, .int .i64 0, .int .i64 0, .int .i64 0, .bool false] := ⟨fun parts => by kernel_rfl⟩
-- 49 deuce/api.Format
instance : Ty Tryz.prog 49 true 10 80 (.agg #[.int .i64 0, .int .i64 0, .bool false, .int .i64 0, .int .i64 0, .int .i64 0, .int .i64 0, .int .i64 0, .int .i64 0, .bool false]) [.int .i64 0, .int .i64 0, .bool false, .int .i64 0, .int .i64 0, .int .i64 0, .int .i64 0, .int .i64 0, .int .i64 0, .bool false] := ⟨by kernel_rfl, by kernel_rfl, rfl, rfl⟩
instance : FieldTy Tryz.prog 49 0 0 3 0 := ⟨by kernel_rfl, by kernel_rfl⟩
instance : FieldTy Tryz.prog 49 1 1 3 0 := ⟨by kernel_rfl, by kernel_rfl⟩
instance : FieldTy Tryz.prog 49 2 2 4 0 := ⟨by kernel_rfl, by kernel_rfl⟩
instance : FieldTy Tryz.prog 49 3 3 3 0 := ⟨by kernel_rfl, by kernel_rfl⟩
instance : FieldTy Tryz.prog 49 4 4 3 0 := ⟨by kernel_rfl, by kernel_rfl⟩
instance : FieldTy Tryz.prog 49 5 5 3 0 := ⟨by kernel_rfl, by kernel_rfl⟩
instance : FieldTy Tryz.prog 49 6 6 3 0 := ⟨by kernel_rfl, by kernel_rfl⟩
instance : FieldTy Tryz.prog 49 7 7 3 0 := ⟨by kernel_rfl, by kernel_rfl⟩
instance : FieldTy Tryz.prog 49 8 8 3 0 := ⟨by kernel_rfl, by kernel_rfl⟩
instance : FieldTy Tryz.prog 49 9 9 4 0 := ⟨by kernel_rfl, by kernel_rfl⟩
instance : BuildTy Tryz.prog 49 [(0, 1), (1, 1), (2, 1), (3, 1), (4, 1), (5, 1), (6, 1), (7, 1), (8, 1), (9, 1)] [.int .i64 0, .int .i64 0, .bool false, .int .i64 0, .int .i64 0, .int .i64 0, .int .i64 0, .int .i64 0, .int .i64 0, .bool false] := ⟨fun parts => by kernel_rfl⟩
-- 50 []deucetop.Rally
instance : Ty Tryz.prog 50 false 1 24 (.slice none 0 0) [.slice none 0 0] := ⟨by kernel_rfl, by kernel_rfl, rfl, rfl⟩
instance : SliceTy Tryz.prog 50 65 := ⟨by kernel_rfl⟩
-- 51 func(api.Format) api.Errno
instance : Ty Tryz.prog 51 false 1 8 (.nilFunc) [.nilFunc] := ⟨by kernel_rfl, by kernel_rfl, rfl, rfl⟩
-- 52 []api.Note
instance : Ty Tryz.prog 52 false 1 24 (.slice none 0 0) [.slice none 0 0] := ⟨by kernel_rfl, by kernel_rfl, rfl, rfl⟩
instance : SliceTy Tryz.prog 52 75 := ⟨by kernel_rfl⟩
-- 53 struct { Format api.Format; First int; Marks []api.Note }
instance : Ty Tryz.prog 53 true 12 112 (.agg #[.int .i64 0, .int .i64 0, .bool false, .int .i64 0, .int .i64 0, .int .i64 0, .int .i64 0, .int .i64 0, .int .i64 0, .bool false, .int .i64 0, .slice none 0 0]) [.int .i64 0, .int .i64 0, .bool false, .int .i64 0, .int .i64 0, .int .i64 0, .int .i64 0, .int .i64 0, .int .i64 0, .bool false, .int .i64 0, .slice none 0 0] := ⟨by kernel_rfl, by kernel_rfl, rfl, rfl⟩
instance : FieldTy Tryz.prog 53 0 0 49 9 := ⟨by kernel_rfl, by kernel_rfl⟩
instance : FieldTy Tryz.prog 53 1 10 3 0 := ⟨by kernel_rfl, by kernel_rfl⟩
instance : FieldTy Tryz.prog 53 2 11 52 0 := ⟨by kernel_rfl, by kernel_rfl⟩
instance : BuildTy Tryz.prog 53 [(0, 10), (10, 1), (11, 1)] [.int .i64 0, .int .i64 0, .bool false, .int .i64 0, .int .i64 0, .int .i64 0, .int .i64 0, .int .i64 0, .int .i64 0, .bool false, .int .i64 0, .slice none 0 0] := ⟨fun parts => by kernel_rfl⟩
-- 54 deuce/api.Card
instance : Ty Tryz.prog 54 true 12 112 (.agg #[.int .i64 0, .int .i64 0, .bool false, .int .i64 0, .int .i64 0, .int .i64 0, .int .i64 0, .int .i64 0, .int .i64 0, .bool false, .int .i64 0, .slice none 0 0]) [.int .i64 0, .int .i64 0, .bool false, .int .i64 0, .int .i64 0, .int .i64 0, .int .i64 0, .int .i64 0, .int .i64 0, .bool false, .int .i64 0, .slice none 0 0] := ⟨by kernel_rfl, by kernel_rfl, rfl, rfl⟩
instance : FieldTy Tryz.prog 54 0 0 49 9 := ⟨by kernel_rfl, by kernel_rfl⟩
instance : FieldTy Tryz.prog 54 1 10 3 0 := ⟨by kernel_rfl, by kernel_rfl⟩
instance : FieldTy Tryz.prog 54 2 11 52 0 := ⟨by kernel_rfl, by kernel_rfl⟩
instance : BuildTy Tryz.prog 54 [(0, 10), (10, 1), (11, 1)] [.int .i64 0, .int .i64 0, .bool false, .int .i64 0, .int .i64 0, .int .i64 0, .int .i64 0, .int .i64 0, .int .i64 0, .bool false, .int .i64 0, .slice none 0 0] := ⟨fun parts => by kernel_rfl⟩
-- 55 []api.Strip
instance : Ty Tryz.prog 55 false 1 24 (.slice none 0 0) [.slice none 0 0] := ⟨by kernel_rfl, by kernel_rfl, rfl, rfl⟩
instance : SliceTy Tryz.prog 55 119 := ⟨by kernel_rfl⟩
-- 56 struct { Low int; High int }
instance : Ty Tryz.prog 56 true 2 16 (.agg #[.int .i64 0, .int .i64 0]) [.int .i64 0, .int .i64 0] := ⟨by kernel_rfl, by kernel_rfl, rfl, rfl⟩
instance : EqS Tryz.prog 56 2 := ⟨by kernel_rfl, by kernel_rfl, by kernel_rfl⟩
instance : FieldTy Tryz.prog 56 0 0 3 0 := ⟨by kernel_rfl, by kernel_rfl⟩
instance : FieldTy Tryz.prog 56 1 1 3 0 := ⟨by kernel_rfl, by kernel_rfl⟩
instance : BuildTy Tryz.prog 56 [(0, 1), (1, 1)] [.int .i64 0, .int .i64 0] := ⟨fun parts => by kernel_rfl⟩
-- 57 deuce/api.Span
instance : Ty Tryz.prog 57 true 2 16 (.agg #[.int .i64 0, .int .i64 0]) [.int .i64 0, .int .i64 0] := ⟨by kernel_rfl, by kernel_rfl, rfl, rfl⟩
instance : EqS Tryz.prog 57 2 := ⟨by kernel_rfl, by kernel_rfl, by kernel_rfl⟩
instance : FieldTy Tryz.prog 57 0 0 3 0 := ⟨by kernel_rfl, by kernel_rfl⟩
instance : FieldTy Tryz.prog 57 1 1 3 0 := ⟨by kernel_rfl, by kernel_rfl⟩
instance : BuildTy Tryz.prog 57 [(0, 1), (1, 1)] [.int .i64 0, .int .i64 0] := ⟨fun parts => by kernel_rfl⟩
-- 58 struct { Size int; Strips []api.Strip; Wrong int; HalfX api.Span; HalfY api.Span }
instance : Ty Tryz.prog 58 true 7 72 (.agg #[.int .i64 0, .slice none 0 0, .int .i64 0, .int .i64 0, .int .i64 0, .int .i64 0, .int .i64 0]) [.int .i64 0, .slice none 0 0, .int .i64 0, .int .i64 0, .int .i64 0, .int .i64 0, .int .i64 0] := ⟨by kernel_rfl, by kernel_rfl, rfl, rfl⟩
instance : FieldTy Tryz.prog 58 0 0 3 0 := ⟨by kernel_rfl, by kernel_rfl⟩
instance : FieldTy Tryz.prog 58 1 1 55 0 := ⟨by kernel_rfl, by kernel_rfl⟩
instance : FieldTy Tryz.prog 58 2 2 3 0 := ⟨by kernel_rfl, by kernel_rfl⟩
instance : FieldTy Tryz.prog 58 3 3 57 1 := ⟨by kernel_rfl, by kernel_rfl⟩
instance : FieldTy Tryz.prog 58 4 5 57 1 := ⟨by kernel_rfl, by kernel_rfl⟩
instance : BuildTy Tryz.prog 58 [(0, 1), (1, 1), (2, 1), (3, 2), (5, 2)] [.int .i64 0, .slice none 0 0, .int .i64 0, .int .i64 0, .int .i64 0, .int .i64 0, .int .i64 0] := ⟨fun parts => by kernel_rfl⟩
-- 59 deuce/api.View
instance : Ty Tryz.prog 59 true 7 72 (.agg #[.int .i64 0, .slice none 0 0, .int .i64 0, .int .i64 0, .int .i64 0, .int .i64 0, .int .i64 0]) [.int .i64 0, .slice none 0 0, .int .i64 0, .int .i64 0, .int .i64 0, .int .i64 0, .int .i64 0] := ⟨by kernel_rfl, by kernel_rfl, rfl, rfl⟩
instance : FieldTy Tryz.prog 59 0 0 3 0 := ⟨by kernel_rfl, by kernel_rfl⟩
instance : FieldTy Tryz.prog 59 1 1 55 0 := ⟨by kernel_rfl, by kernel_rfl⟩
instance : FieldTy Tryz.prog 59 2 2 3 0 := ⟨by kernel_rfl, by kernel_rfl⟩
instance : FieldTy Tryz.prog 59 3 3 57 1 := ⟨by kernel_rfl, by kernel_rfl⟩
instance : FieldTy Tryz.prog 59 4 5 57 1 := ⟨by kernel_rfl, by kernel_rfl⟩
instance : BuildTy Tryz.prog 59 [(0, 1), (1, 1), (2, 1), (3, 2), (5, 2)] [.int .i64 0, .slice none 0 0, .int .i64 0, .int .i64 0, .int .i64 0, .int .i64 0, .int .i64 0] := ⟨fun parts => by kernel_rfl⟩
-- 60 struct { Left int; Right int; Bottom int; Top int }
instance : Ty Tryz.prog 60 true 4 32 (.agg #[.int .i64 0, .int .i64 0, .int .i64 0, .int .i64 0]) [.int .i64 0, .int .i64 0, .int .i64 0, .int .i64 0] := ⟨by kernel_rfl, by kernel_rfl, rfl, rfl⟩
instance : EqS Tryz.prog 60 4 := ⟨by kernel_rfl, by kernel_rfl, by kernel_rfl⟩
instance : FieldTy Tryz.prog 60 0 0 3 0 := ⟨by kernel_rfl, by kernel_rfl⟩
instance : FieldTy Tryz.prog 60 1 1 3 0 := ⟨by kernel_rfl, by kernel_rfl⟩
instance : FieldTy Tryz.prog 60 2 2 3 0 := ⟨by kernel_rfl, by kernel_rfl⟩
instance : FieldTy Tryz.prog 60 3 3 3 0 := ⟨by kernel_rfl, by kernel_rfl⟩
instance : BuildTy Tryz.prog 60 [(0, 1), (1, 1), (2, 1), (3, 1)] [.int .i64 0, .int .i64 0, .int .i64 0, .int .i64 0] := ⟨fun parts => by kernel_rfl⟩
-- 61 deuce/api.Box
instance : Ty Tryz.prog 61 true 4 32 (.agg #[.int .i64 0, .int .i64 0, .int .i64 0, .int .i64 0]) [.int .i64 0, .int .i64 0, .int .i64 0, .int .i64 0] := ⟨by kernel_rfl, by kernel_rfl, rfl, rfl⟩
instance : EqS Tryz.prog 61 4 := ⟨by kernel_rfl, by kernel_rfl, by kernel_rfl⟩
instance : FieldTy Tryz.prog 61 0 0 3 0 := ⟨by kernel_rfl, by kernel_rfl⟩
instance : FieldTy Tryz.prog 61 1 1 3 0 := ⟨by kernel_rfl, by kernel_rfl⟩
instance : FieldTy Tryz.prog 61 2 2 3 0 := ⟨by kernel_rfl, by kernel_rfl⟩
instance : FieldTy Tryz.prog 61 3 3 3 0 := ⟨by kernel_rfl, by kernel_rfl⟩
instance : BuildTy Tryz.prog 61 [(0, 1), (1, 1), (2, 1), (3, 1)] [.int .i64 0, .int .i64 0, .int .i64 0, .int .i64 0] := ⟨fun parts => by kernel_rfl⟩
-- 62 struct { X int; Y int; HalfX int; HalfY int }
instance : Ty Tryz.prog 62 true 4 32 (.agg #[.int .i64 0, .int .i64 0, .int .i64 0, .int .i64 0]) [.int .i64 0, .int .i64 0, .int .i64 0, .int .i64 0] := ⟨by kernel_rfl, by kernel_rfl, rfl, rfl⟩
instance : EqS Tryz.prog 62 4 := ⟨by kernel_rfl, by kernel_rfl, by kernel_rfl⟩
instance : FieldTy Tryz.prog 62 0 0 3 0 := ⟨by kernel_rfl, by kernel_rfl⟩
instance : FieldTy Tryz.prog 62 1 1 3 0 := ⟨by kernel_rfl, by kernel_rfl⟩
instance : FieldTy Tryz.prog 62 2 2 3 0 := ⟨by kernel_rfl, by kernel_rfl⟩
instance : FieldTy Tryz.prog 62 3 3 3 0 := ⟨by kernel_rfl, by kernel_rfl⟩
instance : BuildTy Tryz.prog 62 [(0, 1), (1, 1), (2, 1), (3, 1)] [.int .i64 0, .int .i64 0, .int .i64 0, .int .i64 0] := ⟨fun parts => by kernel_rfl⟩
-- 63 deuce/api.Mark
instance : Ty Tryz.prog 63 true 4 32 (.agg #[.int .i64 0, .int .i64 0, .int .i64 0, .int .i64 0]) [.int .i64 0, .int .i64 0, .int .i64 0, .int .i64 0] := ⟨by kernel_rfl, by kernel_rfl, rfl, rfl⟩
instance : EqS Tryz.prog 63 4 := ⟨by kernel_rfl, by kernel_rfl, by kernel_rfl⟩
instance : FieldTy Tryz.prog 63 0 0 3 0 := ⟨by kernel_rfl, by kernel_rfl⟩
instance : FieldTy Tryz.prog 63 1 1 3 0 := ⟨by kernel_rfl, by kernel_rfl⟩
instance : FieldTy Tryz.prog 63 2 2 3 0 := ⟨by kernel_rfl, by kernel_rfl⟩
instance : FieldTy Tryz.prog 63 3 3 3 0 := ⟨by kernel_rfl, by kernel_rfl⟩
instance : BuildTy Tryz.prog 63 [(0, 1), (1, 1), (2, 1), (3, 1)] [.int .i64 0, .int .i64 0, .int .i64 0, .int .i64 0] := ⟨fun parts => by kernel_rfl⟩
-- 64 struct { Side int; View api.View; Box api.Box; Mark api.Mark }
instance : Ty Tryz.prog 64 true 16 144 (.agg #[.int .i64 0, .int .i64 0, .slice none 0 0, .int .i64 0, .int .i64 0, .int .i64 0, .int .i64 0, .int .i64 0, .int .i64 0, .int .i64 0, .int .i64 0, .int .i64 0, .int .i64 0, .int .i64 0, .int .i64 0, .int .i64 0]) [.int .i64 0, .int .i64 0, .slice none 0 0, .int .i64 0, .int .i64 0, .int .i64 0, .int .i64 0, .int .i64 0, .int .i64 0, .int .i64 0, .int .i64 0, .int .i64 0, .int .i64 0, .int .i64 0, .int .i64 0, .int .i64 0] := ⟨by kernel_rfl, by kernel_rfl, rfl, rfl⟩
instance : FieldTy Tryz.prog 64 0 0 3 0 := ⟨by kernel_rfl, by kernel_rfl⟩
instance : FieldTy Tryz.prog 64 1 1 59 6 := ⟨by kernel_rfl, by kernel_rfl⟩
instance : FieldTy Tryz.prog 64 2 8 61 3 := ⟨by kernel_rfl, by kernel_rfl⟩
instance : FieldTy Tryz.prog 64 3 12 63 3 := ⟨by kernel_rfl, by kernel_rfl⟩
instance : BuildTy Tryz.prog 64 [(0, 1), (1, 7), (8, 4), (12, 4)] [.int .i64 0, .int .i64 0, .slice none 0 0, .int .i64 0, .int .i64 0, .int .i64 0, .int .i64 0, .int .i64 0, .int .i64 0, .int .i64 0, .int .i64 0, .int .i64 0, .int .i64 0, .int .i64 0, .int .i64 0, .int .i64 0] := ⟨fun parts => by kernel_rfl⟩
-- 65 deuce/deucetop.Rally
instance : Ty Tryz.prog 65 true 16 144 (.agg #[.int .i64 0, .int .i64 0, .slice none 0 0, .int .i64 0, .int .i64 0, .int .i64 0, .int .i64 0, .int .i64 0, .int .i64 0, .int .i64 0, .int .i64 0, .int .i64 0, .int .i64 0, .int .i64 0, .int .i64 0, .int .i64 0]) [.int .i64 0, .int .i64 0, .slice none 0 0, .int .i64 0, .int .i64 0, .int .i64 0, .int .i64 0, .int .i64 0, .int .i64 0, .int .i64 0, .int .i64 0, .int .i64 0, .int .i64 0, .int .i64 0, .int .i64 0, .int .i64 0] := ⟨by kernel_rfl, by kernel_rfl, rfl, rfl⟩
instance : FieldTy Tryz.prog 65 0 0 3 0 := ⟨by kernel_rfl, by kernel_rfl⟩
instance : FieldTy Tryz.prog 65 1 1 59 6 := ⟨by kernel_rfl, by kernel_rfl⟩
instance : FieldTy Tryz.prog 65 2 8 61 3 := ⟨by kernel_rfl, by kernel_rfl⟩
instance : FieldTy Tryz.prog 65 3 12 63 3 := ⟨by kernel_rfl, by kernel_rfl⟩
instance : BuildTy Tryz.prog 65 [(0, 1), (1, 7), (8, 4), (12, 4)] [.int .i64 0, .int .i64 0, .slice none 0 0, .int .i64 0, .int .i64 0, .int .i64 0, .int .i64 0, .int .i64 0, .int .i64 0, .int .i64 0, .int .i64 0, .int .i64 0, .int .i64 0, .int .i64 0, .int .i64 0, .int .i64 0] := ⟨fun parts => by kernel_rfl⟩
-- 66 func(api.View) bool
instance : Ty Tryz.prog 66 false 1 8 (.nilFunc) [.nilFunc] := ⟨by kernel_rfl, by kernel_rfl, rfl, rfl⟩
-- 67 func(api.View) api.Errno
instance : Ty Tryz.prog 67 false 1 8 (.nilFunc) [.nilFunc] := ⟨by kernel_rfl, by kernel_rfl, rfl, rfl⟩
-- 68 func(api.Box) bool
instance : Ty Tryz.prog 68 false 1 8 (.nilFunc) [.nilFunc] := ⟨by kernel_rfl, by kernel_rfl, rfl, rfl⟩
-- 69 func(api.View, api.Mark) bool
instance : Ty Tryz.prog 69 false 1 8 (.nilFunc) [.nilFunc] := ⟨by kernel_rfl, by kernel_rfl, rfl, rfl⟩
-- 70 func(api.Mark, api.Box) bool
instance : Ty Tryz.prog 70 false 1 8 (.nilFunc) [.nilFunc] := ⟨by kernel_rfl, by kernel_rfl, rfl, rfl⟩
-- 71 func(api.View, api.Box) (int, api.Errno)
instance : Ty Tryz.prog 71 false 1 8 (.nilFunc) [.nilFunc] := ⟨by kernel_rfl, by kernel_rfl, rfl, rfl⟩
-- 72 struct { A int; B int }
instance : Ty Tryz.prog 72 true 2 16 (.agg #[.int .i64 0, .int .i64 0]) [.int .i64 0, .int .i64 0] := ⟨by kernel_rfl, by kernel_rfl, rfl, rfl⟩
instance : EqS Tryz.prog 72 2 := ⟨by kernel_rfl, by kernel_rfl, by kernel_rfl⟩
instance : FieldTy Tryz.prog 72 0 0 3 0 := ⟨by kernel_rfl, by kernel_rfl⟩
instance : FieldTy Tryz.prog 72 1 1 3 0 := ⟨by kernel_rfl, by kernel_rfl⟩
instance : BuildTy Tryz.prog 72 [(0, 1), (1, 1)] [.int .i64 0, .int .i64 0] := ⟨fun parts => by kernel_rfl⟩
-- 73 deuce/api.Pair
instance : Ty Tryz.prog 73 true 2 16 (.agg #[.int .i64 0, .int .i64 0]) [.int .i64 0, .int .i64 0] := ⟨by kernel_rfl, by kernel_rfl, rfl, rfl⟩
instance : EqS Tryz.prog 73 2 := ⟨by kernel_rfl, by kernel_rfl, by kernel_rfl⟩
instance : FieldTy Tryz.prog 73 0 0 3 0 := ⟨by kernel_rfl, by kernel_rfl⟩
instance : FieldTy Tryz.prog 73 1 1 3 0 := ⟨by kernel_rfl, by kernel_rfl⟩
instance : BuildTy Tryz.prog 73 [(0, 1), (1, 1)] [.int .i64 0, .int .i64 0] := ⟨fun parts => by kernel_rfl⟩
-- 74 struct { Kind int; Side int; Pair api.Pair }
instance : Ty Tryz.prog 74 true 4 32 (.agg #[.int .i64 0, .int .i64 0, .int .i64 0, .int .i64 0]) [.int .i64 0, .int .i64 0, .int .i64 0, .int .i64 0] := ⟨by kernel_rfl, by kernel_rfl, rfl, rfl⟩
instance : FieldTy Tryz.prog 74 0 0 3 0 := ⟨by kernel_rfl, by kernel_rfl⟩
instance : FieldTy Tryz.prog 74 1 1 3 0 := ⟨by kernel_rfl, by kernel_rfl⟩
instance : FieldTy Tryz.prog 74 2 2 73 1 := ⟨by kernel_rfl, by kernel_rfl⟩
instance : BuildTy Tryz.prog 74 [(0, 1), (1, 1), (2, 2)] [.int .i64 0, .int .i64 0, .int .i64 0, .int .i64 0] := ⟨fun parts => by kernel_rfl⟩
-- 75 deuce/api.Note
instance : Ty Tryz.prog 75 true 4 32 (.agg #[.int .i64 0, .int .i64 0, .int .i64 0, .int .i64 0]) [.int .i64 0, .int .i64 0, .int .i64 0, .int .i64 0] := ⟨by kernel_rfl, by kernel_rfl, rfl, rfl⟩
instance : FieldTy Tryz.prog 75 0 0 3 0 := ⟨by kernel_rfl, by kernel_rfl⟩
instance : FieldTy Tryz.prog 75 1 1 3 0 := ⟨by kernel_rfl, by kernel_rfl⟩
instance : FieldTy Tryz.prog 75 2 2 73 1 := ⟨by kernel_rfl, by kernel_rfl⟩
instance : BuildTy Tryz.prog 75 [(0, 1), (1, 1), (2, 2)] [.int .i64 0, .int .i64 0, .int .i64 0, .int .i64 0] := ⟨fun parts => by kernel_rfl⟩
-- 76 []api.Pair
instance : Ty Tryz.prog 76 false 1 24 (.slice none 0 0) [.slice none 0 0] := ⟨by kernel_rfl, by kernel_rfl, rfl, rfl⟩
instance : SliceTy Tryz.prog 76 73 := ⟨by kernel_rfl⟩
-- 77 struct { Sets []api.Pair; Games api.Pair; Points api.Pair }
instance : Ty Tryz.prog 77 true 5 56 (.agg #[.slice none 0 0, .int .i64 0, .int .i64 0, .int .i64 0, .int .i64 0]) [.slice none 0 0, .int .i64 0, .int .i64 0, .int .i64 0, .int .i64 0] := ⟨by kernel_rfl, by kernel_rfl, rfl, rfl⟩
instance : FieldTy Tryz.prog 77 0 0 76 0 := ⟨by kernel_rfl, by kernel_rfl⟩
instance : FieldTy Tryz.prog 77 1 1 73 1 := ⟨by kernel_rfl, by kernel_rfl⟩
instance : FieldTy Tryz.prog 77 2 3 73 1 := ⟨by kernel_rfl, by kernel_rfl⟩
instance : BuildTy Tryz.prog 77 [(0, 1), (1, 2), (3, 2)] [.slice none 0 0, .int .i64 0, .int .i64 0, .int .i64 0, .int .i64 0] := ⟨fun parts => by kernel_rfl⟩
-- 78 deuce/api.Board
instance : Ty Tryz.prog 78 true 5 56 (.agg #[.slice none 0 0, .int .i64 0, .int .i64 0, .int .i64 0, .int .i64 0]) [.slice none 0 0, .int .i64 0, .int .i64 0, .int .i64 0, .int .i64 0] := ⟨by kernel_rfl, by kernel_rfl, rfl, rfl⟩
instance : FieldTy Tryz.prog 78 0 0 76 0 := ⟨by kernel_rfl, by kernel_rfl⟩
instance : FieldTy Tryz.prog 78 1 1 73 1 := ⟨by kernel_rfl, by kernel_rfl⟩
instance : FieldTy Tryz.prog 78 2 3 73 1 := ⟨by kernel_rfl, by kernel_rfl⟩
instance : BuildTy Tryz.prog 78 [(0, 1), (1, 2), (3, 2)] [.slice none 0 0, .int .i64 0, .int .i64 0, .int .i64 0, .int .i64 0] := ⟨fun parts => by kernel_rfl⟩
-- 79 struct { Board api.Board; Server int; Ends int; Balls int; Winner int }
instance : Ty Tryz.prog 79 true 9 88 (.agg #[.slice none 0 0, .int .i64 0, .int .i64 0, .int .i64 0, .int .i64 0, .int .i64 0, .int .i64 0, .int .i64 0, .int .i64 0]) [.slice none 0 0, .int .i64 0, .int .i64 0, .int .i64 0, .int .i64 0, .int .i64 0, .int .i64 0, .int .i64 0, .int .i64 0] := ⟨by kernel_rfl, by kernel_rfl, rfl, rfl⟩
instance : FieldTy Tryz.prog 79 0 0 78 4 := ⟨by kernel_rfl, by kernel_rfl⟩
instance : FieldTy Tryz.prog 79 1 5 3 0 := ⟨by kernel_rfl, by kernel_rfl⟩
instance : FieldTy Tryz.prog 79 2 6 3 0 := ⟨by kernel_rfl, by kernel_rfl⟩
instance : FieldTy Tryz.prog 79 3 7 3 0 := ⟨by kernel_rfl, by kernel_rfl⟩
instance : FieldTy Tryz.prog 79 4 8 3 0 := ⟨by kernel_rfl, by kernel_rfl⟩
instance : BuildTy Tryz.prog 79 [(0, 5), (5, 1), (6, 1), (7, 1), (8, 1)] [.slice none 0 0, .int .i64 0, .int .i64 0, .int .i64 0, .int .i64 0, .int .i64 0, .int .i64 0, .int .i64 0, .int .i64 0] := ⟨fun parts => by kernel_rfl⟩
-- 80 deuce/api.Score
instance : Ty Tryz.prog 80 true 9 88 (.agg #[.slice none 0 0, .int .i64 0, .int .i64 0, .int .i64 0, .int .i64 0, .int .i64 0, .int .i64 0, .int .i64 0, .int .i64 0]) [.slice none 0 0, .int .i64 0, .int .i64 0, .int .i64 0, .int .i64 0, .int .i64 0, .int .i64 0, .int .i64 0, .int .i64 0] := ⟨by kernel_rfl, by kernel_rfl, rfl, rfl⟩
instance : FieldTy Tryz.prog 80 0 0 78 4 := ⟨by kernel_rfl, by kernel_rfl⟩
instance : FieldTy Tryz.prog 80 1 5 3 0 := ⟨by kernel_rfl, by kernel_rfl⟩
instance : FieldTy Tryz.prog 80 2 6 3 0 := ⟨by kernel_rfl, by kernel_rfl⟩
instance : FieldTy Tryz.prog 80 3 7 3 0 := ⟨by kernel_rfl, by kernel_rfl⟩
instance : FieldTy Tryz.prog 80 4 8 3 0 := ⟨by kernel_rfl, by kernel_rfl⟩
instance : BuildTy Tryz.prog 80 [(0, 5), (5, 1), (6, 1), (7, 1), (8, 1)] [.slice none 0 0, .int .i64 0, .int .i64 0, .int .i64 0, .int .i64 0, .int .i64 0, .int .i64 0, .int .i64 0, .int .i64 0] := ⟨fun parts => by kernel_rfl⟩
-- 82 func(api.Format, int, []int) (api.Score, api.Errno)
instance : Ty Tryz.prog 82 false 1 8 (.nilFunc) [.nilFunc] := ⟨by kernel_rfl, by kernel_rfl, rfl, rfl⟩
-- 83 []api.Board
instance : Ty Tryz.prog 83 false 1 24 (.slice none 0 0) [.slice none 0 0] := ⟨by kernel_rfl, by kernel_rfl, rfl, rfl⟩
instance : SliceTy Tryz.prog 83 78 := ⟨by kernel_rfl⟩
-- 85 func(api.Card) ([]api.Board, api.Errno)
instance : Ty Tryz.prog 85 false 1 8 (.nilFunc) [.nilFunc] := ⟨by kernel_rfl, by kernel_rfl, rfl, rfl⟩
-- 86 func(api.Card) (int, api.Errno)
instance : Ty Tryz.prog 86 false 1 8 (.nilFunc) [.nilFunc] := ⟨by kernel_rfl, by kernel_rfl, rfl, rfl⟩
-- 87 func(api.Board, api.Board) bool
instance : Ty Tryz.prog 87 false 1 8 (.nilFunc) [.nilFunc] := ⟨by kernel_rfl, by kernel_rfl, rfl, rfl⟩
-- 88 func(api.Format, int, []deucetop.Rally) bool
instance : Ty Tryz.prog 88 false 1 8 (.nilFunc) [.nilFunc] := ⟨by kernel_rfl, by kernel_rfl, rfl, rfl⟩
-- 89 struct { Id int; Player int; Week int; Points int; Must bool }
instance : Ty Tryz.prog 89 true 5 40 (.agg #[.int .i64 0, .int .i64 0, .int .i64 0, .int .i64 0, .bool false]) [.int .i64 0, .int .i64 0, .int .i64 0, .int .i64 0, .bool false] := ⟨by kernel_rfl, by kernel_rfl, rfl, rfl⟩
instance : FieldTy Tryz.prog 89 0 0 3 0 := ⟨by kernel_rfl, by kernel_rfl⟩
instance : FieldTy Tryz.prog 89 1 1 3 0 := ⟨by kernel_rfl, by kernel_rfl⟩
instance : FieldTy Tryz.prog 89 2 2 3 0 := ⟨by kernel_rfl, by kernel_rfl⟩
instance : FieldTy Tryz.prog 89 3 3 3 0 := ⟨by kernel_rfl, by kernel_rfl⟩
instance : FieldTy Tryz.prog 89 4 4 4 0 := ⟨by kernel_rfl, by kernel_rfl⟩
instance : BuildTy Tryz.prog 89 [(0, 1), (1, 1), (2, 1), (3, 1), (4, 1)] [.int .i64 0, .int .i64 0, .int .i64 0, .int .i64 0, .bool false] := ⟨fun parts => by kernel_rfl⟩
-- 90 deuce/api.Report
instance : Ty Tryz.prog 90 true 5 40 (.agg #[.int .i64 0, .int .i64 0, .int .i64 0, .int .i64 0, .bool false]) [.int .i64 0, .int .i64 0, .int .i64 0, .int .i64 0, .bool false] := ⟨by kernel_rfl, by kernel_rfl, rfl, rfl⟩
instance : FieldTy Tryz.prog 90 0 0 3 0 := ⟨by kernel_rfl, by kernel_rfl⟩
instance : FieldTy Tryz.prog 90 1 1 3 0 := ⟨by kernel_rfl, by kernel_rfl⟩
instance : FieldTy Tryz.prog 90 2 2 3 0 := ⟨by kernel_rfl, by kernel_rfl⟩
instance : FieldTy Tryz.prog 90 3 3 3 0 := ⟨by kernel_rfl, by kernel_rfl⟩
instance : FieldTy Tryz.prog 90 4 4 4 0 := ⟨by kernel_rfl, by kernel_rfl⟩
instance : BuildTy Tryz.prog 90 [(0, 1), (1, 1), (2, 1), (3, 1), (4, 1)] [.int .i64 0, .int .i64 0, .int .i64 0, .int .i64 0, .bool false] := ⟨fun parts => by kernel_rfl⟩
-- 91 func([]api.Report) bool
instance : Ty Tryz.prog 91 false 1 8 (.nilFunc) [.nilFunc] := ⟨by kernel_rfl, by kernel_rfl, rfl, rfl⟩
-- 92 func() api.Ledger
instance : Ty Tryz.prog 92 false 1 8 (.nilFunc) [.nilFunc] := ⟨by kernel_rfl, by kernel_rfl, rfl, rfl⟩
-- 94 func() (api.Plan, api.Plan)
instance : Ty Tryz.prog 94 false 1 8 (.nilFunc) [.nilFunc] := ⟨by kernel_rfl, by kernel_rfl, rfl, rfl⟩
-- 96 func() (api.View, api.Box)
instance : Ty Tryz.prog 96 false 1 8 (.nilFunc) [.nilFunc] := ⟨by kernel_rfl, by kernel_rfl, rfl, rfl⟩
-- 97 func() api.Card
instance : Ty Tryz.prog 97 false 1 8 (.nilFunc) [.nilFunc] := ⟨by kernel_rfl, by kernel_rfl, rfl, rfl⟩
-- 98 *rank.book
instance : Ty Tryz.prog 98 false 1 8 (.pointer none) [.pointer none] := ⟨by kernel_rfl, by kernel_rfl, rfl, rfl⟩
-- 100 func(api.Ledger, int, int) (*rank.book, api.Errno)
instance : Ty Tryz.prog 100 false 1 8 (.nilFunc) [.nilFunc] := ⟨by kernel_rfl, by kernel_rfl, rfl, rfl⟩
-- 101 func(int) []int
instance : Ty Tryz.prog 101 false 1 8 (.nilFunc) [.nilFunc] := ⟨by kernel_rfl, by kernel_rfl, rfl, rfl⟩
-- 102 struct { Player int; Nation int; Qualified bool }
instance : Ty Tryz.prog 102 true 3 24 (.agg #[.int .i64 0, .int .i64 0, .bool false]) [.int .i64 0, .int .i64 0, .bool false] := ⟨by kernel_rfl, by kernel_rfl, rfl, rfl⟩
instance : FieldTy Tryz.prog 102 0 0 3 0 := ⟨by kernel_rfl, by kernel_rfl⟩
instance : FieldTy Tryz.prog 102 1 1 3 0 := ⟨by kernel_rfl, by kernel_rfl⟩
instance : FieldTy Tryz.prog 102 2 2 4 0 := ⟨by kernel_rfl, by kernel_rfl⟩
instance : BuildTy Tryz.prog 102 [(0, 1), (1, 1), (2, 1)] [.int .i64 0, .int .i64 0, .bool false] := ⟨fun parts => by kernel_rfl⟩
-- 103 deuce/api.Person
instance : Ty Tryz.prog 103 true 3 24 (.agg #[.int .i64 0, .int .i64 0, .bool false]) [.int .i64 0, .int .i64 0, .bool false] := ⟨by kernel_rfl, by kernel_rfl, rfl, rfl⟩
instance : FieldTy Tryz.prog 103 0 0 3 0 := ⟨by kernel_rfl, by kernel_rfl⟩
instance : FieldTy Tryz.prog 103 1 1 3 0 := ⟨by kernel_rfl, by kernel_rfl⟩
instance : FieldTy Tryz.prog 103 2 2 4 0 := ⟨by kernel_rfl, by kernel_rfl⟩
instance : BuildTy Tryz.prog 103 [(0, 1), (1, 1), (2, 1)] [.int .i64 0, .int .i64 0, .bool false] := ⟨fun parts => by kernel_rfl⟩
-- 104 func(api.Plan) api.Errno
instance : Ty Tryz.prog 104 false 1 8 (.nilFunc) [.nilFunc] := ⟨by kernel_rfl, by kernel_rfl, rfl, rfl⟩
-- 105 func(api.Plan) (int, api.Errno)
instance : Ty Tryz.prog 105 false 1 8 (.nilFunc) [.nilFunc] := ⟨by kernel_rfl, by kernel_rfl, rfl, rfl⟩
-- 107 func(api.Plan, int) ([]int, bool)
instance : Ty Tryz.prog 107 false 1 8 (.nilFunc) [.nilFunc] := ⟨by kernel_rfl, by kernel_rfl, rfl, rfl⟩
-- 108 func(int, int) int
instance : Ty Tryz.prog 108 false 1 8 (.nilFunc) [.nilFunc] := ⟨by kernel_rfl, by kernel_rfl, rfl, rfl⟩
-- 109 map[api.Report]int
instance : Ty Tryz.prog 109 false 1 8 (.map none) [.map none] := ⟨by kernel_rfl, by kernel_rfl, rfl, rfl⟩
-- 110 func(...[]api.Report) []api.Report
instance : Ty Tryz.prog 110 false 1 8 (.nilFunc) [.nilFunc] := ⟨by kernel_rfl, by kernel_rfl, rfl, rfl⟩
-- 112 func([]api.Report) ([]api.Report, bool)
instance : Ty Tryz.prog 112 false 1 8 (.nilFunc) [.nilFunc] := ⟨by kernel_rfl, by kernel_rfl, rfl, rfl⟩
-- 113 func([]api.Absence) []api.Absence
instance : Ty Tryz.prog 113 false 1 8 (.nilFunc) [.nilFunc] := ⟨by kernel_rfl, by kernel_rfl, rfl, rfl⟩
-- 114 struct { Player int; From int; To int }
instance : Ty Tryz.prog 114 true 3 24 (.agg #[.int .i64 0, .int .i64 0, .int .i64 0]) [.int .i64 0, .int .i64 0, .int .i64 0] := ⟨by kernel_rfl, by kernel_rfl, rfl, rfl⟩
instance : EqS Tryz.prog 114 3 := ⟨by kernel_rfl, by kernel_rfl, by kernel_rfl⟩
instance : FieldTy Tryz.prog 114 0 0 3 0 := ⟨by kernel_rfl, by kernel_rfl⟩
instance : FieldTy Tryz.prog 114 1 1 3 0 := ⟨by kernel_rfl, by kernel_rfl⟩
instance : FieldTy Tryz.prog 114 2 2 3 0 := ⟨by kernel_rfl, by kernel_rfl⟩
instance : BuildTy Tryz.prog 114 [(0, 1), (1, 1), (2, 1)] [.int .i64 0, .int .i64 0, .int .i64 0] := ⟨fun parts => by kernel_rfl⟩
-- 115 deuce/api.Absence
instance : Ty Tryz.prog 115 true 3 24 (.agg #[.int .i64 0, .int .i64 0, .int .i64 0]) [.int .i64 0, .int .i64 0, .int .i64 0] := ⟨by kernel_rfl, by kernel_rfl, rfl, rfl⟩
instance : EqS Tryz.prog 115 3 := ⟨by kernel_rfl, by kernel_rfl, by kernel_rfl⟩
instance : FieldTy Tryz.prog 115 0 0 3 0 := ⟨by kernel_rfl, by kernel_rfl⟩
instance : FieldTy Tryz.prog 115 1 1 3 0 := ⟨by kernel_rfl, by kernel_rfl⟩
instance : FieldTy Tryz.prog 115 2 2 3 0 := ⟨by kernel_rfl, by kernel_rfl⟩
instance : BuildTy Tryz.prog 115 [(0, 1), (1, 1), (2, 1)] [.int .i64 0, .int .i64 0, .int .i64 0] := ⟨fun parts => by kernel_rfl⟩
-- 116 func(int, int, int) bool
instance : Ty Tryz.prog 116 false 1 8 (.nilFunc) [.nilFunc] := ⟨by kernel_rfl, by kernel_rfl, rfl, rfl⟩
-- 117 func(api.Format, int) bool
instance : Ty Tryz.prog 117 false 1 8 (.nilFunc) [.nilFunc] := ⟨by kernel_rfl, by kernel_rfl, rfl, rfl⟩
-- 118 struct { P int; Q int; Low int; High int }
instance : Ty Tryz.prog 118 true 4 32 (.agg #[.int .i64 0, .int .i64 0, .int .i64 0, .int .i64 0]) [.int .i64 0, .int .i64 0, .int .i64 0, .int .i64 0] := ⟨by kernel_rfl, by kernel_rfl, rfl, rfl⟩
instance : EqS Tryz.prog 118 4 := ⟨by kernel_rfl, by kernel_rfl, by kernel_rfl⟩
instance : FieldTy Tryz.prog 118 0 0 3 0 := ⟨by kernel_rfl, by kernel_rfl⟩
instance : FieldTy Tryz.prog 118 1 1 3 0 := ⟨by kernel_rfl, by kernel_rfl⟩
instance : FieldTy Tryz.prog 118 2 2 3 0 := ⟨by kernel_rfl, by kernel_rfl⟩
instance : FieldTy Tryz.prog 118 3 3 3 0 := ⟨by kernel_rfl, by kernel_rfl⟩
instance : BuildTy Tryz.prog 118 [(0, 1), (1, 1), (2, 1), (3, 1)] [.int .i64 0, .int .i64 0, .int .i64 0, .int .i64 0] := ⟨fun parts => by kernel_rfl⟩
-- 119 deuce/api.Strip
instance : Ty Tryz.prog 119 true 4 32 (.agg #[.int .i64 0, .int .i64 0, .int .i64 0, .int .i64 0]) [.int .i64 0, .int .i64 0, .int .i64 0, .int .i64 0] := ⟨by kernel_rfl, by kernel_rfl, rfl, rfl⟩
instance : EqS Tryz.prog 119 4 := ⟨by kernel_rfl, by kernel_rfl, by kernel_rfl⟩
instance : FieldTy Tryz.prog 119 0 0 3 0 := ⟨by kernel_rfl, by kernel_rfl⟩
instance : FieldTy Tryz.prog 119 1 1 3 0 := ⟨by kernel_rfl, by kernel_rfl⟩
instance : FieldTy Tryz.prog 119 2 2 3 0 := ⟨by kernel_rfl, by kernel_rfl⟩
instance : FieldTy Tryz.prog 119 3 3 3 0 := ⟨by kernel_rfl, by kernel_rfl⟩
instance : BuildTy Tryz.prog 119 [(0, 1), (1, 1), (2, 1), (3, 1)] [.int .i64 0, .int .i64 0, .int .i64 0, .int .i64 0] := ⟨fun parts => by kernel_rfl⟩
-- 120 func(api.View, int, int) []int
instance : Ty Tryz.prog 120 false 1 8 (.nilFunc) [.nilFunc] := ⟨by kernel_rfl, by kernel_rfl, rfl, rfl⟩
-- 121 func(int, int, int) int
instance : Ty Tryz.prog 121 false 1 8 (.nilFunc) [.nilFunc] := ⟨by kernel_rfl, by kernel_rfl, rfl, rfl⟩
-- 122 func(api.View, api.Box) api.Errno
instance : Ty Tryz.prog 122 false 1 8 (.nilFunc) [.nilFunc] := ⟨by kernel_rfl, by kernel_rfl, rfl, rfl⟩
-- 123 func(api.View, api.Box) int
instance : Ty Tryz.prog 123 false 1 8 (.nilFunc) [.nilFunc] := ⟨by kernel_rfl, by kernel_rfl, rfl, rfl⟩
-- 124 []api.Game
instance : Ty Tryz.prog 124 false 1 24 (.slice none 0 0) [.slice none 0 0] := ⟨by kernel_rfl, by kernel_rfl, rfl, rfl⟩
instance : SliceTy Tryz.prog 124 229 := ⟨by kernel_rfl⟩
-- 125 struct { Score api.Score; First int; Games []api.Game; Fresh bool }
instance : Ty Tryz.prog 125 true 12 128 (.agg #[.slice none 0 0, .int .i64 0, .int .i64 0, .int .i64 0, .int .i64 0, .int .i64 0, .int .i64 0, .int .i64 0, .int .i64 0, .int .i64 0, .slice none 0 0, .bool false]) [.slice none 0 0, .int .i64 0, .int .i64 0, .int .i64 0, .int .i64 0, .int .i64 0, .int .i64 0, .int .i64 0, .int .i64 0, .int .i64 0, .slice none 0 0, .bool false] := ⟨by kernel_rfl, by kernel_rfl, rfl, rfl⟩
instance : FieldTy Tryz.prog 125 0 0 80 8 := ⟨by kernel_rfl, by kernel_rfl⟩
instance : FieldTy Tryz.prog 125 1 9 3 0 := ⟨by kernel_rfl, by kernel_rfl⟩
instance : FieldTy Tryz.prog 125 2 10 124 0 := ⟨by kernel_rfl, by kernel_rfl⟩
instance : FieldTy Tryz.prog 125 3 11 4 0 := ⟨by kernel_rfl, by kernel_rfl⟩
instance : BuildTy Tryz.prog 125 [(0, 9), (9, 1), (10, 1), (11, 1)] [.slice none 0 0, .int .i64 0, .int .i64 0, .int .i64 0, .int .i64 0, .int .i64 0, .int .i64 0, .int .i64 0, .int .i64 0, .int .i64 0, .slice none 0 0, .bool false] := ⟨fun parts => by kernel_rfl⟩
-- 126 deuce/deuceref01.Match
instance : Ty Tryz.prog 126 true 12 128 (.agg #[.slice none 0 0, .int .i64 0, .int .i64 0, .int .i64 0, .int .i64 0, .int .i64 0, .int .i64 0, .int .i64 0, .int .i64 0, .int .i64 0, .slice none 0 0, .bool false]) [.slice none 0 0, .int .i64 0, .int .i64 0, .int .i64 0, .int .i64 0, .int .i64 0, .int .i64 0, .int .i64 0, .int .i64 0, .int .i64 0, .slice none 0 0, .bool false] := ⟨by kernel_rfl, by kernel_rfl, rfl, rfl⟩
instance : FieldTy Tryz.prog 126 0 0 80 8 := ⟨by kernel_rfl, by kernel_rfl⟩
instance : FieldTy Tryz.prog 126 1 9 3 0 := ⟨by kernel_rfl, by kernel_rfl⟩
instance : FieldTy Tryz.prog 126 2 10 124 0 := ⟨by kernel_rfl, by kernel_rfl⟩
instance : FieldTy Tryz.prog 126 3 11 4 0 := ⟨by kernel_rfl, by kernel_rfl⟩
instance : BuildTy Tryz.prog 126 [(0, 9), (9, 1), (10, 1), (11, 1)] [.slice none 0 0, .int .i64 0, .int .i64 0, .int .i64 0, .int .i64 0, .int .i64 0, .int .i64 0, .int .i64 0, .int .i64 0, .int .i64 0, .slice none 0 0, .bool false] := ⟨fun parts => by kernel_rfl⟩
-- 128 func(api.Format, int, []int) (deuceref01.Match, api.Errno)
instance : Ty Tryz.prog 128 false 1 8 (.nilFunc) [.nilFunc] := ⟨by kernel_rfl, by kernel_rfl, rfl, rfl⟩
-- 129 *score.match
instance : Ty Tryz.prog 129 false 1 8 (.pointer none) [.pointer none] := ⟨by kernel_rfl, by kernel_rfl, rfl, rfl⟩
-- 131 func(api.Format, int, []int) (*score.match, api.Errno)
instance : Ty Tryz.prog 131 false 1 8 (.nilFunc) [.nilFunc] := ⟨by kernel_rfl, by kernel_rfl, rfl, rfl⟩
-- 132 struct { api.Format }
instance : Ty Tryz.prog 132 true 10 80 (.agg #[.int .i64 0, .int .i64 0, .bool false, .int .i64 0, .int .i64 0, .int .i64 0, .int .i64 0, .int .i64 0, .int .i64 0, .bool false]) [.int .i64 0, .int .i64 0, .bool false, .int .i64 0, .int .i64 0, .int .i64 0, .int .i64 0, .int .i64 0, .int .i64 0, .bool false] := ⟨by kernel_rfl, by kernel_rfl, rfl, rfl⟩
instance : FieldTy Tryz.prog 132 0 0 49 9 := ⟨by kernel_rfl, by kernel_rfl⟩
instance : BuildTy Tryz.prog 132 [(0, 10)] [.int .i64 0, .int .i64 0, .bool false, .int .i64 0, .int .i64 0, .int .i64 0, .int .i64 0, .int .i64 0, .int .i64 0, .bool false] := ⟨fun parts => by kernel_rfl⟩
-- 133 deuce/score.rules
instance : Ty Tryz.prog 133 true 10 80 (.agg #[.int .i64 0, .int .i64 0, .bool false, .int .i64 0, .int .i64 0, .int .i64 0, .int .i64 0, .int .i64 0, .int .i64 0, .bool false]) [.int .i64 0, .int .i64 0, .bool false, .int .i64 0, .int .i64 0, .int .i64 0, .int .i64 0, .int .i64 0, .int .i64 0, .bool false] := ⟨by kernel_rfl, by kernel_rfl, rfl, rfl⟩
instance : FieldTy Tryz.prog 133 0 0 49 9 := ⟨by kernel_rfl, by kernel_rfl⟩
instance : BuildTy Tryz.prog 133 [(0, 10)] [.int .i64 0, .int .i64 0, .bool false, .int .i64 0, .int .i64 0, .int .i64 0, .int .i64 0, .int .i64 0, .int .i64 0, .bool false] := ⟨fun parts => by kernel_rfl⟩
-- 134 []bool
instance : Ty Tryz.prog 134 false 1 24 (.slice none 0 0) [.slice none 0 0] := ⟨by kernel_rfl, by kernel_rfl, rfl, rfl⟩
instance : SliceTy Tryz.prog 134 4 := ⟨by kernel_rfl⟩
-- 135 struct { score.rules; api.Score; first int; won api.Pair; ties []bool; games []api.Game }
instance : Ty Tryz.prog 135 true 24 240 (.agg #[.int .i64 0, .int .i64 0, .bool false, .int .i64 0, .int .i64 0, .int .i64 0, .int .i64 0, .int .i64 0, .int .i64 0, .bool false, .slice none 0 0, .int .i64 0, .int .i64 0, .int .i64 0, .int .i64 0, .int .i64 0, .int .i64 0, .int .i64 0, .int .i64 0, .int .i64 0, .int .i64 0, .int .i64 0, .slice none 0 0, .slice none 0 0]) [.int .i64 0, .int .i64 0, .bool false, .int .i64 0, .int .i64 0, .int .i64 0, .int .i64 0, .int .i64 0, .int .i64 0, .bool false, .slice none 0 0, .int .i64 0, .int .i64 0, .int .i64 0, .int .i64 0, .int .i64 0, .int .i64 0, .int .i64 0, .int .i64 0, .int .i64 0, .int .i64 0, .int .i64 0, .slice none 0 0, .slice none 0 0] := ⟨by kernel_rfl, by kernel_rfl, rfl, rfl⟩
instance : FieldTy Tryz.prog 135 0 0 133 9 := ⟨by kernel_rfl, by kernel_rfl⟩
instance : FieldTy Tryz.prog 135 1 10 80 8 := ⟨by kernel_rfl, by kernel_rfl⟩
instance : FieldTy Tryz.prog 135 2 19 3 0 := ⟨by kernel_rfl, by kernel_rfl⟩
instance : FieldTy Tryz.prog 135 3 20 73 1 := ⟨by kernel_rfl, by kernel_rfl⟩
instance : FieldTy Tryz.prog 135 4 22 134 0 := ⟨by kernel_rfl, by kernel_rfl⟩
instance : FieldTy Tryz.prog 135 5 23 124 0 := ⟨by kernel_rfl, by kernel_rfl⟩
instance : BuildTy Tryz.prog 135 [(0, 10), (10, 9), (19, 1), (20, 2), (22, 1), (23, 1)] [.int .i64 0, .int .i64 0, .bool false, .int .i64 0, .int .i64 0, .int .i64 0, .int .i64 0, .int .i64 0, .int .i64 0, .bool false, .slice none 0 0, .int .i64 0, .int .i64 0, .int .i64 0, .int .i64 0, .int .i64 0, .int .i64 0, .int .i64 0, .int .i64 0, .int .i64 0, .int .i64 0, .int .i64 0, .slice none 0 0, .slice none 0 0] := ⟨fun parts => by kernel_rfl⟩
-- 136 deuce/score.match
instance : Ty Tryz.prog 136 true 24 240 (.agg #[.int .i64 0, .int .i64 0, .bool false, .int .i64 0, .int .i64 0, .int .i64 0, .int .i64 0, .int .i64 0, .int .i64 0, .bool false, .slice none 0 0, .int .i64 0, .int .i64 0, .int .i64 0, .int .i64 0, .int .i64 0, .int .i64 0, .int .i64 0, .int .i64 0, .int .i64 0, .int .i64 0, .int .i64 0, .slice none 0 0, .slice none 0 0]) [.int .i64 0, .int .i64 0, .bool false, .int .i64 0, .int .i64 0, .int .i64 0, .int .i64 0, .int .i64 0, .int .i64 0, .bool false, .slice none 0 0, .int .i64 0, .int .i64 0, .int .i64 0, .int .i64 0, .int .i64 0, .int .i64 0, .int .i64 0, .int .i64 0, .int .i64 0, .int .i64 0, .int .i64 0, .slice none 0 0, .slice none 0 0] := ⟨by kernel_rfl, by kernel_rfl, rfl, rfl⟩
instance : FieldTy Tryz.prog 136 0 0 133 9 := ⟨by kernel_rfl, by kernel_rfl⟩
instance : FieldTy Tryz.prog 136 1 10 80 8 := ⟨by kernel_rfl, by kernel_rfl⟩
instance : FieldTy Tryz.prog 136 2 19 3 0 := ⟨by kernel_rfl, by kernel_rfl⟩
instance : FieldTy Tryz.prog 136 3 20 73 1 := ⟨by kernel_rfl, by kernel_rfl⟩
instance : FieldTy Tryz.prog 136 4 22 134 0 := ⟨by kernel_rfl, by kernel_rfl⟩
instance : FieldTy Tryz.prog 136 5 23 124 0 := ⟨by kernel_rfl, by kernel_rfl⟩
instance : BuildTy Tryz.prog 136 [(0, 10), (10, 9), (19, 1), (20, 2), (22, 1), (23, 1)] [.int .i64 0, .int .i64 0, .bool false, .int .i64 0, .int .i64 0, .int .i64 0, .int .i64 0, .int .i64 0, .int .i64 0, .bool false, .slice none 0 0, .int .i64 0, .int .i64 0, .int .i64 0, .int .i64 0, .int .i64 0, .int .i64 0, .int .i64 0, .int .i64 0, .int .i64 0, .int .i64 0, .int .i64 0, .slice none 0 0, .slice none 0 0] := ⟨fun parts => by kernel_rfl⟩
-- 137 map[card.spot]*card.node
instance : Ty Tryz.prog 137 false 1 8 (.map none) [.map none] := ⟨by kernel_rfl, by kernel_rfl, rfl, rfl⟩
-- 138 deuce/card.crowd
instance : Ty Tryz.prog 138 false 1 8 (.map none) [.map none] := ⟨by kernel_rfl, by kernel_rfl, rfl, rfl⟩
-- 140 func(api.Card) (card.crowd, api.Errno)
instance : Ty Tryz.prog 140 false 1 8 (.nilFunc) [.nilFunc] := ⟨by kernel_rfl, by kernel_rfl, rfl, rfl⟩
-- 141 [5]api.Pair
instance : Ty Tryz.prog 141 true 10 80 (.agg #[.int .i64 0, .int .i64 0, .int .i64 0, .int .i64 0, .int .i64 0, .int .i64 0, .int .i64 0, .int .i64 0, .int .i64 0, .int .i64 0]) [.int .i64 0, .int .i64 0, .int .i64 0, .int .i64 0, .int .i64 0, .int .i64 0, .int .i64 0, .int .i64 0, .int .i64 0, .int .i64 0] := ⟨by kernel_rfl, by kernel_rfl, rfl, rfl⟩
instance : ArrayTy Tryz.prog 141 5 73 := ⟨by kernel_rfl⟩
-- 142 struct { first int; over int; sets [5]api.Pair; games api.Pair; points api.Pair }
instance : Ty Tryz.prog 142 true 16 128 (.agg #[.int .i64 0, .int .i64 0, .int .i64 0, .int .i64 0, .int .i64 0, .int .i64 0, .int .i64 0, .int .i64 0, .int .i64 0, .int .i64 0, .int .i64 0, .int .i64 0, .int .i64 0, .int .i64 0, .int .i64 0, .int .i64 0]) [.int .i64 0, .int .i64 0, .int .i64 0, .int .i64 0, .int .i64 0, .int .i64 0, .int .i64 0, .int .i64 0, .int .i64 0, .int .i64 0, .int .i64 0, .int .i64 0, .int .i64 0, .int .i64 0, .int .i64 0, .int .i64 0] := ⟨by kernel_rfl, by kernel_rfl, rfl, rfl⟩
instance : FieldTy Tryz.prog 142 0 0 3 0 := ⟨by kernel_rfl, by kernel_rfl⟩
instance : FieldTy Tryz.prog 142 1 1 3 0 := ⟨by kernel_rfl, by kernel_rfl⟩
instance : FieldTy Tryz.prog 142 2 2 141 9 := ⟨by kernel_rfl, by kernel_rfl⟩
instance : FieldTy Tryz.prog 142 3 12 73 1 := ⟨by kernel_rfl, by kernel_rfl⟩
instance : FieldTy Tryz.prog 142 4 14 73 1 := ⟨by kernel_rfl, by kernel_rfl⟩
instance : BuildTy Tryz.prog 142 [(0, 1), (1, 1), (2, 10), (12, 2), (14, 2)] [.int .i64 0, .int .i64 0, .int .i64 0, .int .i64 0, .int .i64 0, .int .i64 0, .int .i64 0, .int .i64 0, .int .i64 0, .int .i64 0, .int .i64 0, .int .i64 0, .int .i64 0, .int .i64 0, .int .i64 0, .int .i64 0] := ⟨fun parts => by kernel_rfl⟩
-- 143 deuce/card.spot
instance : Ty Tryz.prog 143 true 16 128 (.agg #[.int .i64 0, .int .i64 0, .int .i64 0, .int .i64 0, .int .i64 0, .int .i64 0, .int .i64 0, .int .i64 0, .int .i64 0, .int .i64 0, .int .i64 0, .int .i64 0, .int .i64 0, .int .i64 0, .int .i64 0, .int .i64 0]) [.int .i64 0, .int .i64 0, .int .i64 0, .int .i64 0, .int .i64 0, .int .i64 0, .int .i64 0, .int .i64 0, .int .i64 0, .int .i64 0, .int .i64 0, .int .i64 0, .int .i64 0, .int .i64 0, .int .i64 0, .int .i64 0] := ⟨by kernel_rfl, by kernel_rfl, rfl, rfl⟩
instance : FieldTy Tryz.prog 143 0 0 3 0 := ⟨by kernel_rfl, by kernel_rfl⟩
instance : FieldTy Tryz.prog 143 1 1 3 0 := ⟨by kernel_rfl, by kernel_rfl⟩
instance : FieldTy Tryz.prog 143 2 2 141 9 := ⟨by kernel_rfl, by kernel_rfl⟩
instance : FieldTy Tryz.prog 143 3 12 73 1 := ⟨by kernel_rfl, by kernel_rfl⟩
instance : FieldTy Tryz.prog 143 4 14 73 1 := ⟨by kernel_rfl, by kernel_rfl⟩
instance : BuildTy Tryz.prog 143 [(0, 1), (1, 1), (2, 10), (12, 2), (14, 2)] [.int .i64 0, .int .i64 0, .int .i64 0, .int .i64 0, .int .i64 0, .int .i64 0, .int .i64 0, .int .i64 0, .int .i64 0, .int .i64 0, .int .i64 0, .int .i64 0, .int .i64 0, .int .i64 0, .int .i64 0, .int .i64 0] := ⟨fun parts => by kernel_rfl⟩
-- 144 func() api.Board
instance : Ty Tryz.prog 144 false 1 8 (.nilFunc) [.nilFunc] := ⟨by kernel_rfl, by kernel_rfl, rfl, rfl⟩
-- 145 func(...int) int
instance : Ty Tryz.prog 145 false 1 8 (.nilFunc) [.nilFunc] := ⟨by kernel_rfl, by kernel_rfl, rfl, rfl⟩
-- 146 func([]api.Pair, []api.Pair, func(api.Pair, api.Pair) int) int
instance : Ty Tryz.prog 146 false 1 8 (.nilFunc) [.nilFunc] := ⟨by kernel_rfl, by kernel_rfl, rfl, rfl⟩
-- 147 func(api.Pair, api.Pair) int
instance : Ty Tryz.prog 147 false 1 8 (.nilFunc) [.nilFunc] := ⟨by kernel_rfl, by kernel_rfl, rfl, rfl⟩
-- 148 func(api.Board, api.Board) int
instance : Ty Tryz.prog 148 false 1 8 (.nilFunc) [.nilFunc] := ⟨by kernel_rfl, by kernel_rfl, rfl, rfl⟩
-- 149 func([]api.Board, func(api.Board, api.Board) int)
instance : Ty Tryz.prog 149 false 1 8 (.nilFunc) [.nilFunc] := ⟨by kernel_rfl, by kernel_rfl, rfl, rfl⟩
-- 150 func([]api.Board, func(api.Board, api.Board) bool) []api.Board
instance : Ty Tryz.prog 150 false 1 8 (.nilFunc) [.nilFunc] := ⟨by kernel_rfl, by kernel_rfl, rfl, rfl⟩
-- 152 func(api.Card) (card.crowd, int, api.Errno)
instance : Ty Tryz.prog 152 false 1 8 (.nilFunc) [.nilFunc] := ⟨by kernel_rfl, by kernel_rfl, rfl, rfl⟩
-- 153 func(int, []api.Absence) bool
instance : Ty Tryz.prog 153 false 1 8 (.nilFunc) [.nilFunc] := ⟨by kernel_rfl, by kernel_rfl, rfl, rfl⟩
-- 154 func(int, api.Report) bool
instance : Ty Tryz.prog 154 false 1 8 (.nilFunc) [.nilFunc] := ⟨by kernel_rfl, by kernel_rfl, rfl, rfl⟩
-- 156 func() (api.Format, []int)
instance : Ty Tryz.prog 156 false 1 8 (.nilFunc) [.nilFunc] := ⟨by kernel_rfl, by kernel_rfl, rfl, rfl⟩
-- 157 func(api.Ledger) (*rank.book, api.Errno)
instance : Ty Tryz.prog 157 false 1 8 (.nilFunc) [.nilFunc] := ⟨by kernel_rfl, by kernel_rfl, rfl, rfl⟩
-- 158 []rank.line
instance : Ty Tryz.prog 158 false 1 24 (.slice none 0 0) [.slice none 0 0] := ⟨by kernel_rfl, by kernel_rfl, rfl, rfl⟩
instance : SliceTy Tryz.prog 158 166 := ⟨by kernel_rfl⟩
-- 159 struct { api.Ledger }
instance : Ty Tryz.prog 159 true 5 88 (.agg #[.int .i64 0, .int .i64 0, .slice none 0 0, .slice none 0 0, .slice none 0 0]) [.int .i64 0, .int .i64 0, .slice none 0 0, .slice none 0 0, .slice none 0 0] := ⟨by kernel_rfl, by kernel_rfl, rfl, rfl⟩
instance : FieldTy Tryz.prog 159 0 0 25 4 := ⟨by kernel_rfl, by kernel_rfl⟩
instance : BuildTy Tryz.prog 159 [(0, 5)] [.int .i64 0, .int .i64 0, .slice none 0 0, .slice none 0 0, .slice none 0 0] := ⟨fun parts => by kernel_rfl⟩
-- 160 deuce/rank.book
instance : Ty Tryz.prog 160 true 5 88 (.agg #[.int .i64 0, .int .i64 0, .slice none 0 0, .slice none 0 0, .slice none 0 0]) [.int .i64 0, .int .i64 0, .slice none 0 0, .slice none 0 0, .slice none 0 0] := ⟨by kernel_rfl, by kernel_rfl, rfl, rfl⟩
instance : FieldTy Tryz.prog 160 0 0 25 4 := ⟨by kernel_rfl, by kernel_rfl⟩
instance : BuildTy Tryz.prog 160 [(0, 5)] [.int .i64 0, .int .i64 0, .slice none 0 0, .slice none 0 0, .slice none 0 0] := ⟨fun parts => by kernel_rfl⟩
-- 161 func(int, int) []api.Report
instance : Ty Tryz.prog 161 false 1 8 (.nilFunc) [.nilFunc] := ⟨by kernel_rfl, by kernel_rfl, rfl, rfl⟩
-- 162 func([]api.Absence, int, int) bool
instance : Ty Tryz.prog 162 false 1 8 (.nilFunc) [.nilFunc] := ⟨by kernel_rfl, by kernel_rfl, rfl, rfl⟩
-- 163 func([]api.Report) int
instance : Ty Tryz.prog 163 false 1 8 (.nilFunc) [.nilFunc] := ⟨by kernel_rfl, by kernel_rfl, rfl, rfl⟩
-- 164 func([]api.Report) []api.Report
instance : Ty Tryz.prog 164 false 1 8 (.nilFunc) [.nilFunc] := ⟨by kernel_rfl, by kernel_rfl, rfl, rfl⟩
-- 165 struct { player int; points int; musts int; many int }
instance : Ty Tryz.prog 165 true 4 32 (.agg #[.int .i64 0, .int .i64 0, .int .i64 0, .int .i64 0]) [.int .i64 0, .int .i64 0, .int .i64 0, .int .i64 0] := ⟨by kernel_rfl, by kernel_rfl, rfl, rfl⟩
instance : EqS Tryz.prog 165 4 := ⟨by kernel_rfl, by kernel_rfl, by kernel_rfl⟩
instance : FieldTy Tryz.prog 165 0 0 3 0 := ⟨by kernel_rfl, by kernel_rfl⟩
instance : FieldTy Tryz.prog 165 1 1 3 0 := ⟨by kernel_rfl, by kernel_rfl⟩
instance : FieldTy Tryz.prog 165 2 2 3 0 := ⟨by kernel_rfl, by kernel_rfl⟩
instance : FieldTy Tryz.prog 165 3 3 3 0 := ⟨by kernel_rfl, by kernel_rfl⟩
instance : BuildTy Tryz.prog 165 [(0, 1), (1, 1), (2, 1), (3, 1)] [.int .i64 0, .int .i64 0, .int .i64 0, .int .i64 0] := ⟨fun parts => by kernel_rfl⟩
-- 166 deuce/rank.line
instance : Ty Tryz.prog 166 true 4 32 (.agg #[.int .i64 0, .int .i64 0, .int .i64 0, .int .i64 0]) [.int .i64 0, .int .i64 0, .int .i64 0, .int .i64 0] := ⟨by kernel_rfl, by kernel_rfl, rfl, rfl⟩
instance : EqS Tryz.prog 166 4 := ⟨by kernel_rfl, by kernel_rfl, by kernel_rfl⟩
instance : FieldTy Tryz.prog 166 0 0 3 0 := ⟨by kernel_rfl, by kernel_rfl⟩
instance : FieldTy Tryz.prog 166 1 1 3 0 := ⟨by kernel_rfl, by kernel_rfl⟩
instance : FieldTy Tryz.prog 166 2 2 3 0 := ⟨by kernel_rfl, by kernel_rfl⟩
instance : FieldTy Tryz.prog 166 3 3 3 0 := ⟨by kernel_rfl, by kernel_rfl⟩
instance : BuildTy Tryz.prog 166 [(0, 1), (1, 1), (2, 1), (3, 1)] [.int .i64 0, .int .i64 0, .int .i64 0, .int .i64 0] := ⟨fun parts => by kernel_rfl⟩
-- 167 func([]rank.line, func(rank.line, rank.line) int)
instance : Ty Tryz.prog 167 false 1 8 (.nilFunc) [.nilFunc] := ⟨by kernel_rfl, by kernel_rfl, rfl, rfl⟩
-- 168 func(rank.line, rank.line) int
instance : Ty Tryz.prog 168 false 1 8 (.nilFunc) [.nilFunc] := ⟨by kernel_rfl, by kernel_rfl, rfl, rfl⟩
-- 169 func(rank.line) int
instance : Ty Tryz.prog 169 false 1 8 (.nilFunc) [.nilFunc] := ⟨by kernel_rfl, by kernel_rfl, rfl, rfl⟩
-- 170 func(func([]int) bool)
instance : Ty Tryz.prog 170 false 1 8 (.nilFunc) [.nilFunc] := ⟨by kernel_rfl, by kernel_rfl, rfl, rfl⟩
-- 171 func(api.Plan) func(func([]int) bool)
instance : Ty Tryz.prog 171 false 1 8 (.nilFunc) [.nilFunc] := ⟨by kernel_rfl, by kernel_rfl, rfl, rfl⟩
-- 172 func(api.Plan, []int) []int
instance : Ty Tryz.prog 172 false 1 8 (.nilFunc) [.nilFunc] := ⟨by kernel_rfl, by kernel_rfl, rfl, rfl⟩
-- 173 func([]int, int) int
instance : Ty Tryz.prog 173 false 1 8 (.nilFunc) [.nilFunc] := ⟨by kernel_rfl, by kernel_rfl, rfl, rfl⟩
-- 174 [][]api.Report
instance : Ty Tryz.prog 174 false 1 24 (.slice none 0 0) [.slice none 0 0] := ⟨by kernel_rfl, by kernel_rfl, rfl, rfl⟩
instance : SliceTy Tryz.prog 174 22 := ⟨by kernel_rfl⟩
-- 175 func([]api.Report, int) []api.Report
instance : Ty Tryz.prog 175 false 1 8 (.nilFunc) [.nilFunc] := ⟨by kernel_rfl, by kernel_rfl, rfl, rfl⟩
-- 176 func([]api.Report, func(api.Report, api.Report) int)
instance : Ty Tryz.prog 176 false 1 8 (.nilFunc) [.nilFunc] := ⟨by kernel_rfl, by kernel_rfl, rfl, rfl⟩
-- 177 func(api.Report, api.Report) int
instance : Ty Tryz.prog 177 false 1 8 (.nilFunc) [.nilFunc] := ⟨by kernel_rfl, by kernel_rfl, rfl, rfl⟩
-- 178 func(api.Box) api.Errno
instance : Ty Tryz.prog 178 false 1 8 (.nilFunc) [.nilFunc] := ⟨by kernel_rfl, by kernel_rfl, rfl, rfl⟩
-- 179 []lines.point
instance : Ty Tryz.prog 179 false 1 24 (.slice none 0 0) [.slice none 0 0] := ⟨by kernel_rfl, by kernel_rfl, rfl, rfl⟩
instance : SliceTy Tryz.prog 179 183 := ⟨by kernel_rfl⟩
-- 180 func(api.View) []lines.point
instance : Ty Tryz.prog 180 false 1 8 (.nilFunc) [.nilFunc] := ⟨by kernel_rfl, by kernel_rfl, rfl, rfl⟩
-- 181 func([]lines.point, func(lines.point) bool) bool
instance : Ty Tryz.prog 181 false 1 8 (.nilFunc) [.nilFunc] := ⟨by kernel_rfl, by kernel_rfl, rfl, rfl⟩
-- 182 struct { x int; y int }
instance : Ty Tryz.prog 182 true 2 16 (.agg #[.int .i64 0, .int .i64 0]) [.int .i64 0, .int .i64 0] := ⟨by kernel_rfl, by kernel_rfl, rfl, rfl⟩
instance : EqS Tryz.prog 182 2 := ⟨by kernel_rfl, by kernel_rfl, by kernel_rfl⟩
instance : FieldTy Tryz.prog 182 0 0 3 0 := ⟨by kernel_rfl, by kernel_rfl⟩
instance : FieldTy Tryz.prog 182 1 1 3 0 := ⟨by kernel_rfl, by kernel_rfl⟩
instance : BuildTy Tryz.prog 182 [(0, 1), (1, 1)] [.int .i64 0, .int .i64 0] := ⟨fun parts => by kernel_rfl⟩
-- 183 deuce/lines.point
instance : Ty Tryz.prog 183 true 2 16 (.agg #[.int .i64 0, .int .i64 0]) [.int .i64 0, .int .i64 0] := ⟨by kernel_rfl, by kernel_rfl, rfl, rfl⟩
instance : EqS Tryz.prog 183 2 := ⟨by kernel_rfl, by kernel_rfl, by kernel_rfl⟩
instance : FieldTy Tryz.prog 183 0 0 3 0 := ⟨by kernel_rfl, by kernel_rfl⟩
instance : FieldTy Tryz.prog 183 1 1 3 0 := ⟨by kernel_rfl, by kernel_rfl⟩
instance : BuildTy Tryz.prog 183 [(0, 1), (1, 1)] [.int .i64 0, .int .i64 0] := ⟨fun parts => by kernel_rfl⟩
-- 184 func(api.View, lines.point) api.Mark
instance : Ty Tryz.prog 184 false 1 8 (.nilFunc) [.nilFunc] := ⟨by kernel_rfl, by kernel_rfl, rfl, rfl⟩
-- 185 func(lines.point) bool
instance : Ty Tryz.prog 185 false 1 8 (.nilFunc) [.nilFunc] := ⟨by kernel_rfl, by kernel_rfl, rfl, rfl⟩
-- 186 func(api.Format, int) deuceref01.Match
instance : Ty Tryz.prog 186 false 1 8 (.nilFunc) [.nilFunc] := ⟨by kernel_rfl, by kernel_rfl, rfl, rfl⟩
-- 187 func(api.Format, deuceref01.Match, int) deuceref01.Match
instance : Ty Tryz.prog 187 false 1 8 (.nilFunc) [.nilFunc] := ⟨by kernel_rfl, by kernel_rfl, rfl, rfl⟩
-- 188 func(api.Format, deuceref01.Match) int
instance : Ty Tryz.prog 188 false 1 8 (.nilFunc) [.nilFunc] := ⟨by kernel_rfl, by kernel_rfl, rfl, rfl⟩
-- 189 func(score.rules, int) *score.match
instance : Ty Tryz.prog 189 false 1 8 (.nilFunc) [.nilFunc] := ⟨by kernel_rfl, by kernel_rfl, rfl, rfl⟩
-- 190 func(int)
instance : Ty Tryz.prog 190 false 1 8 (.nilFunc) [.nilFunc] := ⟨by kernel_rfl, by kernel_rfl, rfl, rfl⟩
-- 191 func([]api.Pair) []api.Pair
instance : Ty Tryz.prog 191 false 1 8 (.nilFunc) [.nilFunc] := ⟨by kernel_rfl, by kernel_rfl, rfl, rfl⟩
-- 192 func([]api.Board, int, int, int, func(api.Board, api.Board) int)
instance : Ty Tryz.prog 192 false 1 8 (.nilFunc) [.nilFunc] := ⟨by kernel_rfl, by kernel_rfl, rfl, rfl⟩
-- 193 func(uint) int
instance : Ty Tryz.prog 193 false 1 8 (.nilFunc) [.nilFunc] := ⟨by kernel_rfl, by kernel_rfl, rfl, rfl⟩
-- 194 uint
instance : Ty Tryz.prog 194 false 1 8 (.int .u64 0) [.int .u64 0] := ⟨by kernel_rfl, by kernel_rfl, rfl, rfl⟩
-- 195 func(api.Card) api.Errno
instance : Ty Tryz.prog 195 false 1 8 (.nilFunc) [.nilFunc] := ⟨by kernel_rfl, by kernel_rfl, rfl, rfl⟩
-- 196 struct { api.Card }
instance : Ty Tryz.prog 196 true 12 112 (.agg #[.int .i64 0, .int .i64 0, .bool false, .int .i64 0, .int .i64 0, .int .i64 0, .int .i64 0, .int .i64 0, .int .i64 0, .bool false, .int .i64 0, .slice none 0 0]) [.int .i64 0, .int .i64 0, .bool false, .int .i64 0, .int .i64 0, .int .i64 0, .int .i64 0, .int .i64 0, .int .i64 0, .bool false, .int .i64 0, .slice none 0 0] := ⟨by kernel_rfl, by kernel_rfl, rfl, rfl⟩
instance : FieldTy Tryz.prog 196 0 0 54 11 := ⟨by kernel_rfl, by kernel_rfl⟩
instance : BuildTy Tryz.prog 196 [(0, 12)] [.int .i64 0, .int .i64 0, .bool false, .int .i64 0, .int .i64 0, .int .i64 0, .int .i64 0, .int .i64 0, .int .i64 0, .bool false, .int .i64 0, .slice none 0 0] := ⟨fun parts => by kernel_rfl⟩
-- 197 deuce/card.reader
instance : Ty Tryz.prog 197 true 12 112 (.agg #[.int .i64 0, .int .i64 0, .bool false, .int .i64 0, .int .i64 0, .int .i64 0, .int .i64 0, .int .i64 0, .int .i64 0, .bool false, .int .i64 0, .slice none 0 0]) [.int .i64 0, .int .i64 0, .bool false, .int .i64 0, .int .i64 0, .int .i64 0, .int .i64 0, .int .i64 0, .int .i64 0, .bool false, .int .i64 0, .slice none 0 0] := ⟨by kernel_rfl, by kernel_rfl, rfl, rfl⟩
instance : FieldTy Tryz.prog 197 0 0 54 11 := ⟨by kernel_rfl, by kernel_rfl⟩
instance : BuildTy Tryz.prog 197 [(0, 12)] [.int .i64 0, .int .i64 0, .bool false, .int .i64 0, .int .i64 0, .int .i64 0, .int .i64 0, .int .i64 0, .int .i64 0, .bool false, .int .i64 0, .slice none 0 0] := ⟨fun parts => by kernel_rfl⟩
-- 198 func() card.crowd
instance : Ty Tryz.prog 198 false 1 8 (.nilFunc) [.nilFunc] := ⟨by kernel_rfl, by kernel_rfl, rfl, rfl⟩
-- 199 func(card.crowd, api.Note) card.crowd
instance : Ty Tryz.prog 199 false 1 8 (.nilFunc) [.nilFunc] := ⟨by kernel_rfl, by kernel_rfl, rfl, rfl⟩
-- 200 func(api.Report, int) int
instance : Ty Tryz.prog 200 false 1 8 (.nilFunc) [.nilFunc] := ⟨by kernel_rfl, by kernel_rfl, rfl, rfl⟩
-- 201 func([]api.Absence, func(api.Absence) bool) bool
instance : Ty Tryz.prog 201 false 1 8 (.nilFunc) [.nilFunc] := ⟨by kernel_rfl, by kernel_rfl, rfl, rfl⟩
-- 202 func(api.Absence) bool
instance : Ty Tryz.prog 202 false 1 8 (.nilFunc) [.nilFunc] := ⟨by kernel_rfl, by kernel_rfl, rfl, rfl⟩
-- 203 func([]rank.line, int, int, int, func(rank.line, rank.line) int)
instance : Ty Tryz.prog 203 false 1 8 (.nilFunc) [.nilFunc] := ⟨by kernel_rfl, by kernel_rfl, rfl, rfl⟩
-- 204 func([]api.Person, func(api.Person) bool) bool
instance : Ty Tryz.prog 204 false 1 8 (.nilFunc) [.nilFunc] := ⟨by kernel_rfl, by kernel_rfl, rfl, rfl⟩
-- 205 func(api.Person) bool
instance : Ty Tryz.prog 205 false 1 8 (.nilFunc) [.nilFunc] := ⟨by kernel_rfl, by kernel_rfl, rfl, rfl⟩
-- 206 func([]int, func(int) bool) bool
instance : Ty Tryz.prog 206 false 1 8 (.nilFunc) [.nilFunc] := ⟨by kernel_rfl, by kernel_rfl, rfl, rfl⟩
-- 207 func(int) bool
instance : Ty Tryz.prog 207 false 1 8 (.nilFunc) [.nilFunc] := ⟨by kernel_rfl, by kernel_rfl, rfl, rfl⟩
-- 208 func([]int, func(int, int) int)
instance : Ty Tryz.prog 208 false 1 8 (.nilFunc) [.nilFunc] := ⟨by kernel_rfl, by kernel_rfl, rfl, rfl⟩
-- 209 func([]int) bool
instance : Ty Tryz.prog 209 false 1 8 (.nilFunc) [.nilFunc] := ⟨by kernel_rfl, by kernel_rfl, rfl, rfl⟩
-- 210 func([]int, int) bool
instance : Ty Tryz.prog 210 false 1 8 (.nilFunc) [.nilFunc] := ⟨by kernel_rfl, by kernel_rfl, rfl, rfl⟩
-- 211 func([]int) []int
instance : Ty Tryz.prog 211 false 1 8 (.nilFunc) [.nilFunc] := ⟨by kernel_rfl, by kernel_rfl, rfl, rfl⟩
-- 212 func(api.Plan, int, int) bool
instance : Ty Tryz.prog 212 false 1 8 (.nilFunc) [.nilFunc] := ⟨by kernel_rfl, by kernel_rfl, rfl, rfl⟩
-- 213 func(api.Ledger, []api.Absence) bool
instance : Ty Tryz.prog 213 false 1 8 (.nilFunc) [.nilFunc] := ⟨by kernel_rfl, by kernel_rfl, rfl, rfl⟩
-- 214 func([]api.Report, int, func(api.Report, api.Report) int)
instance : Ty Tryz.prog 214 false 1 8 (.nilFunc) [.nilFunc] := ⟨by kernel_rfl, by kernel_rfl, rfl, rfl⟩
-- 215 func([]api.Strip, func(api.Strip) bool) bool
instance : Ty Tryz.prog 215 false 1 8 (.nilFunc) [.nilFunc] := ⟨by kernel_rfl, by kernel_rfl, rfl, rfl⟩
-- 216 func(api.Strip) bool
instance : Ty Tryz.prog 216 false 1 8 (.nilFunc) [.nilFunc] := ⟨by kernel_rfl, by kernel_rfl, rfl, rfl⟩
-- 217 func(api.Span, int, int) bool
instance : Ty Tryz.prog 217 false 1 8 (.nilFunc) [.nilFunc] := ⟨by kernel_rfl, by kernel_rfl, rfl, rfl⟩
-- 218 func(func(lines.point, []int) bool)
instance : Ty Tryz.prog 218 false 1 8 (.nilFunc) [.nilFunc] := ⟨by kernel_rfl, by kernel_rfl, rfl, rfl⟩
-- 219 func(api.View) func(func(lines.point, []int) bool)
instance : Ty Tryz.prog 219 false 1 8 (.nilFunc) [.nilFunc] := ⟨by kernel_rfl, by kernel_rfl, rfl, rfl⟩
-- 220 func([]lines.point, func(lines.point) bool) int
instance : Ty Tryz.prog 220 false 1 8 (.nilFunc) [.nilFunc] := ⟨by kernel_rfl, by kernel_rfl, rfl, rfl⟩
-- 221 func(api.Format, deuceref01.Match) deuceref01.Match
instance : Ty Tryz.prog 221 false 1 8 (.nilFunc) [.nilFunc] := ⟨by kernel_rfl, by kernel_rfl, rfl, rfl⟩
-- 223 func(api.Format, api.Board) (bool, int)
instance : Ty Tryz.prog 223 false 1 8 (.nilFunc) [.nilFunc] := ⟨by kernel_rfl, by kernel_rfl, rfl, rfl⟩
-- 224 func(api.Pair, int) api.Pair
instance : Ty Tryz.prog 224 false 1 8 (.nilFunc) [.nilFunc] := ⟨by kernel_rfl, by kernel_rfl, rfl, rfl⟩
-- 225 func(api.Format, api.Pair) int
instance : Ty Tryz.prog 225 false 1 8 (.nilFunc) [.nilFunc] := ⟨by kernel_rfl, by kernel_rfl, rfl, rfl⟩
-- 226 func(api.Pair, int) int
instance : Ty Tryz.prog 226 false 1 8 (.nilFunc) [.nilFunc] := ⟨by kernel_rfl, by kernel_rfl, rfl, rfl⟩
-- 227 func(api.Format, int, int, bool, int) int
instance : Ty Tryz.prog 227 false 1 8 (.nilFunc) [.nilFunc] := ⟨by kernel_rfl, by kernel_rfl, rfl, rfl⟩
-- 228 struct { Set int; Tie bool; Server int; Winner int; Points api.Pair; Fresh bool }
instance : Ty Tryz.prog 228 true 7 56 (.agg #[.int .i64 0, .bool false, .int .i64 0, .int .i64 0, .int .i64 0, .int .i64 0, .bool false]) [.int .i64 0, .bool false, .int .i64 0, .int .i64 0, .int .i64 0, .int .i64 0, .bool false] := ⟨by kernel_rfl, by kernel_rfl, rfl, rfl⟩
instance : FieldTy Tryz.prog 228 0 0 3 0 := ⟨by kernel_rfl, by kernel_rfl⟩
instance : FieldTy Tryz.prog 228 1 1 4 0 := ⟨by kernel_rfl, by kernel_rfl⟩
instance : FieldTy Tryz.prog 228 2 2 3 0 := ⟨by kernel_rfl, by kernel_rfl⟩
instance : FieldTy Tryz.prog 228 3 3 3 0 := ⟨by kernel_rfl, by kernel_rfl⟩
instance : FieldTy Tryz.prog 228 4 4 73 1 := ⟨by kernel_rfl, by kernel_rfl⟩
instance : FieldTy Tryz.prog 228 5 6 4 0 := ⟨by kernel_rfl, by kernel_rfl⟩
instance : BuildTy Tryz.prog 228 [(0, 1), (1, 1), (2, 1), (3, 1), (4, 2), (6, 1)] [.int .i64 0, .bool false, .int .i64 0, .int .i64 0, .int .i64 0, .int .i64 0, .bool false] := ⟨fun parts => by kernel_rfl⟩
-- 229 deuce/api.Game
instance : Ty Tryz.prog 229 true 7 56 (.agg #[.int .i64 0, .bool false, .int .i64 0, .int .i64 0, .int .i64 0, .int .i64 0, .bool false]) [.int .i64 0, .bool false, .int .i64 0, .int .i64 0, .int .i64 0, .int .i64 0, .bool false] := ⟨by kernel_rfl, by kernel_rfl, rfl, rfl⟩
instance : FieldTy Tryz.prog 229 0 0 3 0 := ⟨by kernel_rfl, by kernel_rfl⟩
instance : FieldTy Tryz.prog 229 1 1 4 0 := ⟨by kernel_rfl, by kernel_rfl⟩
instance : FieldTy Tryz.prog 229 2 2 3 0 := ⟨by kernel_rfl, by kernel_rfl⟩
instance : FieldTy Tryz.prog 229 3 3 3 0 := ⟨by kernel_rfl, by kernel_rfl⟩
instance : FieldTy Tryz.prog 229 4 4 73 1 := ⟨by kernel_rfl, by kernel_rfl⟩
instance : FieldTy Tryz.prog 229 5 6 4 0 := ⟨by kernel_rfl, by kernel_rfl⟩
instance : BuildTy Tryz.prog 229 [(0, 1), (1, 1), (2, 1), (3, 1), (4, 2), (6, 1)] [.int .i64 0, .bool false, .int .i64 0, .int .i64 0, .int .i64 0, .int .i64 0, .bool false] := ⟨fun parts => by kernel_rfl⟩
-- 230 func([]api.Pair) api.Pair
instance : Ty Tryz.prog 230 false 1 8 (.nilFunc) [.nilFunc] := ⟨by kernel_rfl, by kernel_rfl, rfl, rfl⟩
-- 231 struct { tie int; to int }
instance : Ty Tryz.prog 231 true 2 16 (.agg #[.int .i64 0, .int .i64 0]) [.int .i64 0, .int .i64 0] := ⟨by kernel_rfl, by kernel_rfl, rfl, rfl⟩
instance : EqS Tryz.prog 231 2 := ⟨by kernel_rfl, by kernel_rfl, by kernel_rfl⟩
instance : FieldTy Tryz.prog 231 0 0 3 0 := ⟨by kernel_rfl, by kernel_rfl⟩
instance : FieldTy Tryz.prog 231 1 1 3 0 := ⟨by kernel_rfl, by kernel_rfl⟩
instance : BuildTy Tryz.prog 231 [(0, 1), (1, 1)] [.int .i64 0, .int .i64 0] := ⟨fun parts => by kernel_rfl⟩
-- 232 deuce/score.set
instance : Ty Tryz.prog 232 true 2 16 (.agg #[.int .i64 0, .int .i64 0]) [.int .i64 0, .int .i64 0] := ⟨by kernel_rfl, by kernel_rfl, rfl, rfl⟩
instance : EqS Tryz.prog 232 2 := ⟨by kernel_rfl, by kernel_rfl, by kernel_rfl⟩
instance : FieldTy Tryz.prog 232 0 0 3 0 := ⟨by kernel_rfl, by kernel_rfl⟩
instance : FieldTy Tryz.prog 232 1 1 3 0 := ⟨by kernel_rfl, by kernel_rfl⟩
instance : BuildTy Tryz.prog 232 [(0, 1), (1, 1)] [.int .i64 0, .int .i64 0] := ⟨fun parts => by kernel_rfl⟩
-- 233 func(api.Pair) score.set
instance : Ty Tryz.prog 233 false 1 8 (.nilFunc) [.nilFunc] := ⟨by kernel_rfl, by kernel_rfl, rfl, rfl⟩
-- 234 func() int
instance : Ty Tryz.prog 234 false 1 8 (.nilFunc) [.nilFunc] := ⟨by kernel_rfl, by kernel_rfl, rfl, rfl⟩
-- 235 func(api.Pair) int
instance : Ty Tryz.prog 235 false 1 8 (.nilFunc) [.nilFunc] := ⟨by kernel_rfl, by kernel_rfl, rfl, rfl⟩
-- 236 func(score.set, bool, api.Pair) int
instance : Ty Tryz.prog 236 false 1 8 (.nilFunc) [.nilFunc] := ⟨by kernel_rfl, by kernel_rfl, rfl, rfl⟩
-- 237 func(int) int
instance : Ty Tryz.prog 237 false 1 8 (.nilFunc) [.nilFunc] := ⟨by kernel_rfl, by kernel_rfl, rfl, rfl⟩
-- 238 func(api.Pair, int, int) int
instance : Ty Tryz.prog 238 false 1 8 (.nilFunc) [.nilFunc] := ⟨by kernel_rfl, by kernel_rfl, rfl, rfl⟩
-- 239 func([]api.Board, int, int, func(api.Board, api.Board) int)
instance : Ty Tryz.prog 239 false 1 8 (.nilFunc) [.nilFunc] := ⟨by kernel_rfl, by kernel_rfl, rfl, rfl⟩
-- 240 slices.sortedHint
instance : Ty Tryz.prog 240 false 1 8 (.int .i64 0) [.int .i64 0] := ⟨by kernel_rfl, by kernel_rfl, rfl, rfl⟩
-- 242 func([]api.Board, int, int, func(api.Board, api.Board) int) (int, slices.sortedHint)
instance : Ty Tryz.prog 242 false 1 8 (.nilFunc) [.nilFunc] := ⟨by kernel_rfl, by kernel_rfl, rfl, rfl⟩
-- 243 func([]api.Board, int, int, func(api.Board, api.Board) int) bool
instance : Ty Tryz.prog 243 false 1 8 (.nilFunc) [.nilFunc] := ⟨by kernel_rfl, by kernel_rfl, rfl, rfl⟩
-- 244 func([]api.Board, int, int, int, func(api.Board, api.Board) int) int
instance : Ty Tryz.prog 244 false 1 8 (.nilFunc) [.nilFunc] := ⟨by kernel_rfl, by kernel_rfl, rfl, rfl⟩
-- 246 func([]api.Board, int, int, int, func(api.Board, api.Board) int) (int, bool)
instance : Ty Tryz.prog 246 false 1 8 (.nilFunc) [.nilFunc] := ⟨by kernel_rfl, by kernel_rfl, rfl, rfl⟩
-- 247 func(uint32) int
instance : Ty Tryz.prog 247 false 1 8 (.nilFunc) [.nilFunc] := ⟨by kernel_rfl, by kernel_rfl, rfl, rfl⟩
-- 248 uint32
instance : Ty Tryz.prog 248 false 1 4 (.int .u32 0) [.int .u32 0] := ⟨by kernel_rfl, by kernel_rfl, rfl, rfl⟩
-- 249 func(uint64) int
instance : Ty Tryz.prog 249 false 1 8 (.nilFunc) [.nilFunc] := ⟨by kernel_rfl, by kernel_rfl, rfl, rfl⟩
-- 250 uint64
instance : Ty Tryz.prog 250 false 1 8 (.int .u64 0) [.int .u64 0] := ⟨by kernel_rfl, by kernel_rfl, rfl, rfl⟩
-- 251 func(api.Note) bool
instance : Ty Tryz.prog 251 false 1 8 (.nilFunc) [.nilFunc] := ⟨by kernel_rfl, by kernel_rfl, rfl, rfl⟩
-- 252 func(*card.node)
instance : Ty Tryz.prog 252 false 1 8 (.nilFunc) [.nilFunc] := ⟨by kernel_rfl, by kernel_rfl, rfl, rfl⟩
-- 253 *card.node
instance : Ty Tryz.prog 253 false 1 8 (.pointer none) [.pointer none] := ⟨by kernel_rfl, by kernel_rfl, rfl, rfl⟩
-- 254 struct { card.spot; before *card.node; side int; many api.Span }
instance : Ty Tryz.prog 254 true 20 160 (.agg #[.int .i64 0, .int .i64 0, .int .i64 0, .int .i64 0, .int .i64 0, .int .i64 0, .int .i64 0, .int .i64 0, .int .i64 0, .int .i64 0, .int .i64 0, .int .i64 0, .int .i64 0, .int .i64 0, .int .i64 0, .int .i64 0, .pointer none, .int .i64 0, .int .i64 0, .int .i64 0]) [.int .i64 0, .int .i64 0, .int .i64 0, .int .i64 0, .int .i64 0, .int .i64 0, .int .i64 0, .int .i64 0, .int .i64 0, .int .i64 0, .int .i64 0, .int .i64 0, .int .i64 0, .int .i64 0, .int .i64 0, .int .i64 0, .pointer none, .int .i64 0, .int .i64 0, .int .i64 0] := ⟨by kernel_rfl, by kernel_rfl, rfl, rfl⟩
instance : FieldTy Tryz.prog 254 0 0 143 15 := ⟨by kernel_rfl, by kernel_rfl⟩
instance : FieldTy Tryz.prog 254 1 16 253 0 := ⟨by kernel_rfl, by kernel_rfl⟩
instance : FieldTy Tryz.prog 254 2 17 3 0 := ⟨by kernel_rfl, by kernel_rfl⟩
instance : FieldTy Tryz.prog 254 3 18 57 1 := ⟨by kernel_rfl, by kernel_rfl⟩
instance : BuildTy Tryz.prog 254 [(0, 16), (16, 1), (17, 1), (18, 2)] [.int .i64 0, .int .i64 0, .int .i64 0, .int .i64 0, .int .i64 0, .int .i64 0, .int .i64 0, .int .i64 0, .int .i64 0, .int .i64 0, .int .i64 0, .int .i64 0, .int .i64 0, .int .i64 0, .int .i64 0, .int .i64 0, .pointer none, .int .i64 0, .int .i64 0, .int .i64 0] := ⟨fun parts => by kernel_rfl⟩
-- 255 deuce/card.node
instance : Ty Tryz.prog 255 true 20 160 (.agg #[.int .i64 0, .int .i64 0, .int .i64 0, .int .i64 0, .int .i64 0, .int .i64 0, .int .i64 0, .int .i64 0, .int .i64 0, .int .i64 0, .int .i64 0, .int .i64 0, .int .i64 0, .int .i64 0, .int .i64 0, .int .i64 0, .pointer none, .int .i64 0, .int .i64 0, .int .i64 0]) [.int .i64 0, .int .i64 0, .int .i64 0, .int .i64 0, .int .i64 0, .int .i64 0, .int .i64 0, .int .i64 0, .int .i64 0, .int .i64 0, .int .i64 0, .int .i64 0, .int .i64 0, .int .i64 0, .int .i64 0, .int .i64 0, .pointer none, .int .i64 0, .int .i64 0, .int .i64 0] := ⟨by kernel_rfl, by kernel_rfl, rfl, rfl⟩
instance : FieldTy Tryz.prog 255 0 0 143 15 := ⟨by kernel_rfl, by kernel_rfl⟩
instance : FieldTy Tryz.prog 255 1 16 253 0 := ⟨by kernel_rfl, by kernel_rfl⟩
instance : FieldTy Tryz.prog 255 2 17 3 0 := ⟨by kernel_rfl, by kernel_rfl⟩
instance : FieldTy Tryz.prog 255 3 18 57 1 := ⟨by kernel_rfl, by kernel_rfl⟩
instance : BuildTy Tryz.prog 255 [(0, 16), (16, 1), (17, 1), (18, 2)] [.int .i64 0, .int .i64 0, .int .i64 0, .int .i64 0, .int .i64 0, .int .i64 0, .int .i64 0, .int .i64 0, .int .i64 0, .int .i64 0, .int .i64 0, .int .i64 0, .int .i64 0, .int .i64 0, .int .i64 0, .int .i64 0, .pointer none, .int .i64 0, .int .i64 0, .int .i64 0] := ⟨fun parts => by kernel_rfl⟩
-- 256 func(card.crowd, int) card.crowd
instance : Ty Tryz.prog 256 false 1 8 (.nilFunc) [.nilFunc] := ⟨by kernel_rfl, by kernel_rfl, rfl, rfl⟩
-- 257 func(api.Note, *card.node) bool
instance : Ty Tryz.prog 257 false 1 8 (.nilFunc) [.nilFunc] := ⟨by kernel_rfl, by kernel_rfl, rfl, rfl⟩
-- 258 func([]api.Absence, func(api.Absence) bool) int
instance : Ty Tryz.prog 258 false 1 8 (.nilFunc) [.nilFunc] := ⟨by kernel_rfl, by kernel_rfl, rfl, rfl⟩
-- 259 func([]rank.line, int, int, func(rank.line, rank.line) int)
instance : Ty Tryz.prog 259 false 1 8 (.nilFunc) [.nilFunc] := ⟨by kernel_rfl, by kernel_rfl, rfl, rfl⟩
-- 260 func([]rank.line, int, int, func(rank.line, rank.line) int) (int, slices.sortedHint)
instance : Ty Tryz.prog 260 false 1 8 (.nilFunc) [.nilFunc] := ⟨by kernel_rfl, by kernel_rfl, rfl, rfl⟩
-- 261 func([]rank.line, int, int, func(rank.line, rank.line) int) bool
instance : Ty Tryz.prog 261 false 1 8 (.nilFunc) [.nilFunc] := ⟨by kernel_rfl, by kernel_rfl, rfl, rfl⟩
-- 262 func([]rank.line, int, int, int, func(rank.line, rank.line) int) int
instance : Ty Tryz.prog 262 false 1 8 (.nilFunc) [.nilFunc] := ⟨by kernel_rfl, by kernel_rfl, rfl, rfl⟩
-- 263 func([]rank.line, int, int, int, func(rank.line, rank.line) int) (int, bool)
instance : Ty Tryz.prog 263 false 1 8 (.nilFunc) [.nilFunc] := ⟨by kernel_rfl, by kernel_rfl, rfl, rfl⟩
-- 264 func([]api.Person, func(api.Person) bool) int
instance : Ty Tryz.prog 264 false 1 8 (.nilFunc) [.nilFunc] := ⟨by kernel_rfl, by kernel_rfl, rfl, rfl⟩
-- 265 func([]int, func(int) bool) int
instance : Ty Tryz.prog 265 false 1 8 (.nilFunc) [.nilFunc] := ⟨by kernel_rfl, by kernel_rfl, rfl, rfl⟩
-- 266 func([]int, int, int, int, func(int, int) int)
instance : Ty Tryz.prog 266 false 1 8 (.nilFunc) [.nilFunc] := ⟨by kernel_rfl, by kernel_rfl, rfl, rfl⟩
-- 267 func(int, int) bool
instance : Ty Tryz.prog 267 false 1 8 (.nilFunc) [.nilFunc] := ⟨by kernel_rfl, by kernel_rfl, rfl, rfl⟩
-- 268 func([]api.Report, int, int, func(api.Report, api.Report) int)
instance : Ty Tryz.prog 268 false 1 8 (.nilFunc) [.nilFunc] := ⟨by kernel_rfl, by kernel_rfl, rfl, rfl⟩
-- 269 func([]api.Report, int, int, int, func(api.Report, api.Report) int)
instance : Ty Tryz.prog 269 false 1 8 (.nilFunc) [.nilFunc] := ⟨by kernel_rfl, by kernel_rfl, rfl, rfl⟩
-- 270 func([]api.Strip, func(api.Strip) bool) int
instance : Ty Tryz.prog 270 false 1 8 (.nilFunc) [.nilFunc] := ⟨by kernel_rfl, by kernel_rfl, rfl, rfl⟩
-- 271 func(lines.point, []int) bool
instance : Ty Tryz.prog 271 false 1 8 (.nilFunc) [.nilFunc] := ⟨by kernel_rfl, by kernel_rfl, rfl, rfl⟩
-- 273 func(api.Format, bool) (int, int)
instance : Ty Tryz.prog 273 false 1 8 (.nilFunc) [.nilFunc] := ⟨by kernel_rfl, by kernel_rfl, rfl, rfl⟩
-- 274 func(api.Format, api.Pair) bool
instance : Ty Tryz.prog 274 false 1 8 (.nilFunc) [.nilFunc] := ⟨by kernel_rfl, by kernel_rfl, rfl, rfl⟩
-- 275 func(api.Pair) bool
instance : Ty Tryz.prog 275 false 1 8 (.nilFunc) [.nilFunc] := ⟨by kernel_rfl, by kernel_rfl, rfl, rfl⟩
-- 276 slices.xorshift
instance : Ty Tryz.prog 276 false 1 8 (.int .u64 0) [.int .u64 0] := ⟨by kernel_rfl, by kernel_rfl, rfl, rfl⟩
-- 277 func(int) uint
instance : Ty Tryz.prog 277 false 1 8 (.nilFunc) [.nilFunc] := ⟨by kernel_rfl, by kernel_rfl, rfl, rfl⟩
-- 278 func() uint64
instance : Ty Tryz.prog 278 false 1 8 (.nilFunc) [.nilFunc] := ⟨by kernel_rfl, by kernel_rfl, rfl, rfl⟩
-- 279 func([]api.Board, int, *int, func(api.Board, api.Board) int) int
instance : Ty Tryz.prog 279 false 1 8 (.nilFunc) [.nilFunc] := ⟨by kernel_rfl, by kernel_rfl, rfl, rfl⟩
-- 280 *int
instance : Ty Tryz.prog 280 false 1 8 (.pointer none) [.pointer none] := ⟨by kernel_rfl, by kernel_rfl, rfl, rfl⟩
-- 281 func([]api.Board, int, int, int, *int, func(api.Board, api.Board) int) int
instance : Ty Tryz.prog 281 false 1 8 (.nilFunc) [.nilFunc] := ⟨by kernel_rfl, by kernel_rfl, rfl, rfl⟩
-- 283 func(*card.node, int) *card.node
instance : Ty Tryz.prog 283 false 1 8 (.nilFunc) [.nilFunc] := ⟨by kernel_rfl, by kernel_rfl, rfl, rfl⟩
-- 284 func() api.Pair
instance : Ty Tryz.prog 284 false 1 8 (.nilFunc) [.nilFunc] := ⟨by kernel_rfl, by kernel_rfl, rfl, rfl⟩
-- 285 func(*card.node) api.Score
instance : Ty Tryz.prog 285 false 1 8 (.nilFunc) [.nilFunc] := ⟨by kernel_rfl, by kernel_rfl, rfl, rfl⟩
-- 286 func([]rank.line, int, *int, func(rank.line, rank.line) int) int
instance : Ty Tryz.prog 286 false 1 8 (.nilFunc) [.nilFunc] := ⟨by kernel_rfl, by kernel_rfl, rfl, rfl⟩
-- 287 func([]rank.line, int, int, int, *int, func(rank.line, rank.line) int) int
instance : Ty Tryz.prog 287 false 1 8 (.nilFunc) [.nilFunc] := ⟨by kernel_rfl, by kernel_rfl, rfl, rfl⟩
-- 288 func([]int, int, int, func(int, int) int)
instance : Ty Tryz.prog 288 false 1 8 (.nilFunc) [.nilFunc] := ⟨by kernel_rfl, by kernel_rfl, rfl, rfl⟩
-- 289 func([]int, int, int, func(int, int) int) (int, slices.sortedHint)
instance : Ty Tryz.prog 289 false 1 8 (.nilFunc) [.nilFunc] := ⟨by kernel_rfl, by kernel_rfl, rfl, rfl⟩
-- 290 func([]int, int, int, func(int, int) int) bool
instance : Ty Tryz.prog 290 false 1 8 (.nilFunc) [.nilFunc] := ⟨by kernel_rfl, by kernel_rfl, rfl, rfl⟩
-- 291 func([]int, int, int, int, func(int, int) int) int
instance : Ty Tryz.prog 291 false 1 8 (.nilFunc) [.nilFunc] := ⟨by kernel_rfl, by kernel_rfl, rfl, rfl⟩
-- 292 func([]int, int, int, int, func(int, int) int) (int, bool)
instance : Ty Tryz.prog 292 false 1 8 (.nilFunc) [.nilFunc] := ⟨by kernel_rfl, by kernel_rfl, rfl, rfl⟩
-- 293 *slices.xorshift
instance : Ty Tryz.prog 293 false 1 8 (.pointer none) [.pointer none] := ⟨by kernel_rfl, by kernel_rfl, rfl, rfl⟩
-- 294 func([]api.Board, int, int, *int, func(api.Board, api.Board) int) (int, int)
instance : Ty Tryz.prog 294 false 1 8 (.nilFunc) [.nilFunc] := ⟨by kernel_rfl, by kernel_rfl, rfl, rfl⟩
-- 295 func(api.Pair, int, int, int) bool
instance : Ty Tryz.prog 295 false 1 8 (.nilFunc) [.nilFunc] := ⟨by kernel_rfl, by kernel_rfl, rfl, rfl⟩
-- 296 func() []int
instance : Ty Tryz.prog 296 false 1 8 (.nilFunc) [.nilFunc] := ⟨by kernel_rfl, by kernel_rfl, rfl, rfl⟩
-- 297 func([]rank.line, int, int, *int, func(rank.line, rank.line) int) (int, int)
instance : Ty Tryz.prog 297 false 1 8 (.nilFunc) [.nilFunc] := ⟨by kernel_rfl, by kernel_rfl, rfl, rfl⟩
-- 298 func([]int, int, *int, func(int, int) int) int
instance : Ty Tryz.prog 298 false 1 8 (.nilFunc) [.nilFunc] := ⟨by kernel_rfl, by kernel_rfl, rfl, rfl⟩
-- 299 func([]int, int, int, int, *int, func(int, int) int) int
instance : Ty Tryz.prog 299 false 1 8 (.nilFunc) [.nilFunc] := ⟨by kernel_rfl, by kernel_rfl, rfl, rfl⟩
-- 300 func([]int)
instance : Ty Tryz.prog 300 false 1 8 (.nilFunc) [.nilFunc] := ⟨by kernel_rfl, by kernel_rfl, rfl, rfl⟩
-- 301 func([]int, int, int, *int, func(int, int) int) (int, int)
instance : Ty Tryz.prog 301 false 1 8 (.nilFunc) [.nilFunc] := ⟨by kernel_rfl, by kernel_rfl, rfl, rfl⟩
-- 302 func() string
instance : Ty Tryz.prog 302 false 1 8 (.nilFunc) [.nilFunc] := ⟨by kernel_rfl, by kernel_rfl, rfl, rfl⟩
-- 303 struct { _interface *abi.Type; concrete *abi.Type; asserted *abi.Type; missingMethod string }
instance : Ty Tryz.prog 303 true 4 40 (.agg #[.pointer none, .pointer none, .pointer none, .string ByteArray.empty]) [.pointer none, .pointer none, .pointer none, .string ByteArray.empty] := ⟨by kernel_rfl, by kernel_rfl, rfl, rfl⟩
instance : FieldTy Tryz.prog 303 0 0 17 0 := ⟨by kernel_rfl, by kernel_rfl⟩
instance : FieldTy Tryz.prog 303 1 1 17 0 := ⟨by kernel_rfl, by kernel_rfl⟩
instance : FieldTy Tryz.prog 303 2 2 17 0 := ⟨by kernel_rfl, by kernel_rfl⟩
instance : FieldTy Tryz.prog 303 3 3 9 0 := ⟨by kernel_rfl, by kernel_rfl⟩
instance : BuildTy Tryz.prog 303 [(0, 1), (1, 1), (2, 1), (3, 1)] [.pointer none, .pointer none, .pointer none, .string ByteArray.empty] := ⟨fun parts => by kernel_rfl⟩
-- 305 [0]*runtime.PanicNilError
instance : Ty Tryz.prog 305 true 0 0 (.agg #[]) [] := ⟨by kernel_rfl, by kernel_rfl, rfl, rfl⟩
instance : ArrayTy Tryz.prog 305 0 16 := ⟨by kernel_rfl⟩
-- 306 struct { _ [0]*runtime.PanicNilError }
instance : Ty Tryz.prog 306 true 0 0 (.agg #[]) [] := ⟨by kernel_rfl, by kernel_rfl, rfl, rfl⟩
-- 310 func(unsafe.Pointer, unsafe.Pointer) bool
instance : Ty Tryz.prog 310 false 1 8 (.nilFunc) [.nilFunc] := ⟨by kernel_rfl, by kernel_rfl, rfl, rfl⟩
-- 311 *uint8
instance : Ty Tryz.prog 311 false 1 8 (.pointer none) [.pointer none] := ⟨by kernel_rfl, by kernel_rfl, rfl, rfl⟩
-- 314 struct { Size_ uintptr; PtrBytes uintptr; Hash uint32; TFlag abi.TFlag; Align_ uint8; FieldAlign_ uint8; Kind_ abi.Kind; Equal func(unsafe.Pointer, unsafe.Pointer) bool; GCData *uint8; Str abi.NameOff; PtrToThis abi.TypeOff }
instance : Ty Tryz.prog 314 true 11 48 (.agg #[.int .u64 0, .int .u64 0, .int .u32 0, .int .u8 0, .int .u8 0, .int .u8 0, .int .u8 0, .nilFunc, .pointer none, .int .i32 0, .int .i32 0]) [.int .u64 0, .int .u64 0, .int .u32 0, .int .u8 0, .int .u8 0, .int .u8 0, .int .u8 0, .nilFunc, .pointer none, .int .i32 0, .int .i32 0] := ⟨by kernel_rfl, by kernel_rfl, rfl, rfl⟩
instance : FieldTy Tryz.prog 314 0 0 12 0 := ⟨by kernel_rfl, by kernel_rfl⟩
instance : FieldTy Tryz.prog 314 1 1 12 0 := ⟨by kernel_rfl, by kernel_rfl⟩
instance : FieldTy Tryz.prog 314 2 2 248 0 := ⟨by kernel_rfl, by kernel_rfl⟩
instance : FieldTy Tryz.prog 314 3 3 308 0 := ⟨by kernel_rfl, by kernel_rfl⟩
instance : FieldTy Tryz.prog 314 4 4 5 0 := ⟨by kernel_rfl, by kernel_rfl⟩
instance : FieldTy Tryz.prog 314 5 5 5 0 := ⟨by kernel_rfl, by kernel_rfl⟩
instance : FieldTy Tryz.prog 314 6 6 309 0 := ⟨by kernel_rfl, by kernel_rfl⟩
instance : FieldTy Tryz.prog 314 7 7 310 0 := ⟨by kernel_rfl, by kernel_rfl⟩
instance : FieldTy Tryz.prog 314 8 8 311 0 := ⟨by kernel_rfl, by kernel_rfl⟩
instance : FieldTy Tryz.prog 314 9 9 312 0 := ⟨by kernel_rfl, by kernel_rfl⟩
instance : FieldTy Tryz.prog 314 10 10 313 0 := ⟨by kernel_rfl, by kernel_rfl⟩
instance : BuildTy Tryz.prog 314 [(0, 1), (1, 1), (2, 1), (3, 1), (4, 1), (5, 1), (6, 1), (7, 1), (8, 1), (9, 1), (10, 1)] [.int .u64 0, .int .u64 0, .int .u32 0, .int .u8 0, .int .u8 0, .int .u8 0, .int .u8 0, .nilFunc, .pointer none, .int .i32 0, .int .i32 0] := ⟨fun parts => by kernel_rfl⟩
-- 316 unsafe.Pointer
instance : Ty Tryz.prog 316 false 1 8 (.pointer none) [.pointer none] := ⟨by kernel_rfl, by kernel_rfl, rfl, rfl⟩
-- deuce/deucetop.TopSeeded
instance : FnOk Tryz.prog 3 := ⟨by kernel_rfl⟩
-- deuce/deucetop.TopMonday
instance : FnOk Tryz.prog 4 := ⟨by kernel_rfl⟩
-- deuce/deucetop.TopCalled
instance : FnOk Tryz.prog 5 := ⟨by kernel_rfl⟩
-- deuce/deucelaw04.Far
instance : FnOk Tryz.prog 6 := ⟨by kernel_rfl⟩
-- deuce/deuceref04.Check
instance : FnOk Tryz.prog 7 := ⟨by kernel_rfl⟩
-- deuce/deucetop.seeded
instance : FnOk Tryz.prog 8 := ⟨by kernel_rfl⟩
-- deuce/rank.List
instance : FnOk Tryz.prog 9 := ⟨by kernel_rfl⟩
-- deuce/deucetop.ranked
instance : FnOk Tryz.prog 10 := ⟨by kernel_rfl⟩
-- deuce/draws.Draw
instance : FnOk Tryz.prog 11 := ⟨by kernel_rfl⟩
-- deuce/rank.Place
instance : FnOk Tryz.prog 12 := ⟨by kernel_rfl⟩
-- deuce/deuceref04.Copy
instance : FnOk Tryz.prog 13 := ⟨by kernel_rfl⟩
-- deuce/rank.Merge
instance : FnOk Tryz.prog 14 := ⟨by kernel_rfl⟩
-- deuce/deuceref01.Check
instance : FnOk Tryz.prog 15 := ⟨by kernel_rfl⟩
-- deuce/deucelaw02.Far
instance : FnOk Tryz.prog 16 := ⟨by kernel_rfl⟩
-- deuce/deuceref02.Check
instance : FnOk Tryz.prog 17 := ⟨by kernel_rfl⟩
-- deuce/deuceref02.IsBox
instance : FnOk Tryz.prog 18 := ⟨by kernel_rfl⟩
-- deuce/deuceref02.IsTruth
instance : FnOk Tryz.prog 19 := ⟨by kernel_rfl⟩
-- deuce/deuceref02.Touch
instance : FnOk Tryz.prog 20 := ⟨by kernel_rfl⟩
-- deuce/lines.Call
instance : FnOk Tryz.prog 21 := ⟨by kernel_rfl⟩
-- deuce/deuceref01.Play
instance : FnOk Tryz.prog 22 := ⟨by kernel_rfl⟩
-- deuce/score.Play
instance : FnOk Tryz.prog 23 := ⟨by kernel_rfl⟩
-- deuce/card.Boards
instance : FnOk Tryz.prog 24 := ⟨by kernel_rfl⟩
-- deuce/card.First
instance : FnOk Tryz.prog 25 := ⟨by kernel_rfl⟩
-- deuce/deuceref03.SameBoard
instance : FnOk Tryz.prog 26 := ⟨by kernel_rfl⟩
-- deuce/deuceref04.isLedger
instance : FnOk Tryz.prog 27 := ⟨by kernel_rfl⟩
-- deuce/deuceref04.clash
instance : FnOk Tryz.prog 28 := ⟨by kernel_rfl⟩
-- deuce/deucelaw04.Example
instance : FnOk Tryz.prog 29 := ⟨by kernel_rfl⟩
-- deuce/deucelaw06.Example
instance : FnOk Tryz.prog 30 := ⟨by kernel_rfl⟩
-- deuce/deucelaw02.Example
instance : FnOk Tryz.prog 31 := ⟨by kernel_rfl⟩
-- deuce/deucelaw03.Example
instance : FnOk Tryz.prog 32 := ⟨by kernel_rfl⟩
-- deuce/rank.ask
instance : FnOk Tryz.prog 33 := ⟨by kernel_rfl⟩
-- (*deuce/rank.book).list
instance : FnOk Tryz.prog 34 := ⟨by kernel_rfl⟩
-- deuce/deuceref06.Check
instance : FnOk Tryz.prog 35 := ⟨by kernel_rfl⟩
-- deuce/draws.Count
instance : FnOk Tryz.prog 36 := ⟨by kernel_rfl⟩
-- deuce/draws.pick
instance : FnOk Tryz.prog 37 := ⟨by kernel_rfl⟩
-- (*deuce/rank.book).place
instance : FnOk Tryz.prog 38 := ⟨by kernel_rfl⟩
-- deuce/rank.Check
instance : FnOk Tryz.prog 39 := ⟨by kernel_rfl⟩
-- slices.Concat[[]deuce/api.Report,deuce/api.Report]
instance : FnOk Tryz.prog 40 := ⟨by kernel_rfl⟩
-- deuce/rank.once
instance : FnOk Tryz.prog 41 := ⟨by kernel_rfl⟩
-- slices.Clone[[]deuce/api.Absence,deuce/api.Absence]
instance : FnOk Tryz.prog 42 := ⟨by kernel_rfl⟩
-- deuce/deuceref01.within
instance : FnOk Tryz.prog 43 := ⟨by kernel_rfl⟩
-- deuce/deuceref01.isTie
instance : FnOk Tryz.prog 44 := ⟨by kernel_rfl⟩
-- deuce/deuceref02.within
instance : FnOk Tryz.prog 45 := ⟨by kernel_rfl⟩
-- deuce/deuceref02.IsMark
instance : FnOk Tryz.prog 46 := ⟨by kernel_rfl⟩
-- deuce/deuceref02.wrong
instance : FnOk Tryz.prog 47 := ⟨by kernel_rfl⟩
-- deuce/deuceref02.far
instance : FnOk Tryz.prog 48 := ⟨by kernel_rfl⟩
-- deuce/lines.check
instance : FnOk Tryz.prog 49 := ⟨by kernel_rfl⟩
-- deuce/lines.call
instance : FnOk Tryz.prog 50 := ⟨by kernel_rfl⟩
-- deuce/deuceref01.Run
instance : FnOk Tryz.prog 51 := ⟨by kernel_rfl⟩
-- deuce/score.play
instance : FnOk Tryz.prog 52 := ⟨by kernel_rfl⟩
-- deuce/card.possible
instance : FnOk Tryz.prog 53 := ⟨by kernel_rfl⟩
-- (deuce/card.spot).board
instance : FnOk Tryz.prog 54 := ⟨by kernel_rfl⟩
-- deuce/card.Boards$1
instance : FnOk Tryz.prog 55 := ⟨by kernel_rfl⟩
-- cmp.Or[int]
instance : FnOk Tryz.prog 56 := ⟨by kernel_rfl⟩
-- slices.CompareFunc[[]deuce/api.Pair,[]deuce/api.Pair,deuce/api.Pair,deuce/api.Pair]
instance : FnOk Tryz.prog 57 := ⟨by kernel_rfl⟩
-- deuce/card.order
instance : FnOk Tryz.prog 58 := ⟨by kernel_rfl⟩
-- slices.SortFunc[[]deuce/api.Board,deuce/api.Board]
instance : FnOk Tryz.prog 59 := ⟨by kernel_rfl⟩
-- slices.CompactFunc[[]deuce/api.Board,deuce/api.Board]
instance : FnOk Tryz.prog 60 := ⟨by kernel_rfl⟩
-- deuce/card.Boards$2
instance : FnOk Tryz.prog 61 := ⟨by kernel_rfl⟩
-- deuce/card.all
instance : FnOk Tryz.prog 62 := ⟨by kernel_rfl⟩
-- deuce/deuceref04.within
instance : FnOk Tryz.prog 63 := ⟨by kernel_rfl⟩
-- deuce/deuceref04.areLeaves
instance : FnOk Tryz.prog 64 := ⟨by kernel_rfl⟩
-- deuce/deuceref04.isReport
instance : FnOk Tryz.prog 65 := ⟨by kernel_rfl⟩
-- deuce/deucelaw01.Example
instance : FnOk Tryz.prog 66 := ⟨by kernel_rfl⟩
-- deuce/rank.open
instance : FnOk Tryz.prog 67 := ⟨by kernel_rfl⟩
-- deuce/rank.within
instance : FnOk Tryz.prog 68 := ⟨by kernel_rfl⟩
-- (*deuce/rank.book).count
instance : FnOk Tryz.prog 69 := ⟨by kernel_rfl⟩
-- deuce/rank.away
instance : FnOk Tryz.prog 70 := ⟨by kernel_rfl⟩
-- deuce/rank.sum
instance : FnOk Tryz.prog 71 := ⟨by kernel_rfl⟩
-- (*deuce/rank.book).taken
instance : FnOk Tryz.prog 72 := ⟨by kernel_rfl⟩
-- slices.SortFunc[[]deuce/rank.line,deuce/rank.line]
instance : FnOk Tryz.prog 73 := ⟨by kernel_rfl⟩
-- (deuce/rank.line).compare
instance : FnOk Tryz.prog 74 := ⟨by kernel_rfl⟩
-- deuce/deuceref06.within
instance : FnOk Tryz.prog 75 := ⟨by kernel_rfl⟩
-- deuce/draws.Check
instance : FnOk Tryz.prog 76 := ⟨by kernel_rfl⟩
-- deuce/draws.draws
instance : FnOk Tryz.prog 77 := ⟨by kernel_rfl⟩
-- deuce/draws.sheet
instance : FnOk Tryz.prog 78 := ⟨by kernel_rfl⟩
-- slices.Index[[]int,int]
instance : FnOk Tryz.prog 79 := ⟨by kernel_rfl⟩
-- deuce/rank.isLedger
instance : FnOk Tryz.prog 80 := ⟨by kernel_rfl⟩
-- slices.Grow[[]deuce/api.Report,deuce/api.Report]
instance : FnOk Tryz.prog 81 := ⟨by kernel_rfl⟩
-- slices.Clone[[]deuce/api.Report,deuce/api.Report]
instance : FnOk Tryz.prog 82 := ⟨by kernel_rfl⟩
-- slices.SortStableFunc[[]deuce/api.Report,deuce/api.Report]
instance : FnOk Tryz.prog 83 := ⟨by kernel_rfl⟩
-- deuce/rank.once$1
instance : FnOk Tryz.prog 84 := ⟨by kernel_rfl⟩
-- slices.Compact[[]deuce/api.Report,deuce/api.Report]
instance : FnOk Tryz.prog 85 := ⟨by kernel_rfl⟩
-- deuce/lines.Check
instance : FnOk Tryz.prog 86 := ⟨by kernel_rfl⟩
-- deuce/lines.checkBox
instance : FnOk Tryz.prog 87 := ⟨by kernel_rfl⟩
-- deuce/lines.truths
instance : FnOk Tryz.prog 88 := ⟨by kernel_rfl⟩
-- slices.ContainsFunc[[]deuce/lines.point,deuce/lines.point]
instance : FnOk Tryz.prog 89 := ⟨by kernel_rfl⟩
-- deuce/lines.call$1
instance : FnOk Tryz.prog 90 := ⟨by kernel_rfl⟩
-- deuce/lines.touches
instance : FnOk Tryz.prog 91 := ⟨by kernel_rfl⟩
-- deuce/lines.small
instance : FnOk Tryz.prog 92 := ⟨by kernel_rfl⟩
-- deuce/lines.call$2
instance : FnOk Tryz.prog 93 := ⟨by kernel_rfl⟩
-- deuce/lines.large
instance : FnOk Tryz.prog 94 := ⟨by kernel_rfl⟩
-- deuce/deuceref01.Begin
instance : FnOk Tryz.prog 95 := ⟨by kernel_rfl⟩
-- deuce/deuceref01.Point
instance : FnOk Tryz.prog 96 := ⟨by kernel_rfl⟩
-- deuce/deuceref01.Next
instance : FnOk Tryz.prog 97 := ⟨by kernel_rfl⟩
-- deuce/score.Check
instance : FnOk Tryz.prog 98 := ⟨by kernel_rfl⟩
-- deuce/score.begin
instance : FnOk Tryz.prog 99 := ⟨by kernel_rfl⟩
-- (*deuce/score.match).point
instance : FnOk Tryz.prog 100 := ⟨by kernel_rfl⟩
-- slices.Clone[[]deuce/api.Pair,deuce/api.Pair]
instance : FnOk Tryz.prog 101 := ⟨by kernel_rfl⟩
-- slices.pdqsortCmpFunc[deuce/api.Board]
instance : FnOk Tryz.prog 102 := ⟨by kernel_rfl⟩
-- math/bits.Len
instance : FnOk Tryz.prog 103 := ⟨by kernel_rfl⟩
-- deuce/card.Check
instance : FnOk Tryz.prog 104 := ⟨by kernel_rfl⟩
-- (deuce/card.reader).begin
instance : FnOk Tryz.prog 105 := ⟨by kernel_rfl⟩
-- (deuce/card.reader).read
instance : FnOk Tryz.prog 106 := ⟨by kernel_rfl⟩
-- (*deuce/rank.book).age
instance : FnOk Tryz.prog 107 := ⟨by kernel_rfl⟩
-- slices.ContainsFunc[[]deuce/api.Absence,deuce/api.Absence]
instance : FnOk Tryz.prog 108 := ⟨by kernel_rfl⟩
-- deuce/rank.away$1
instance : FnOk Tryz.prog 109 := ⟨by kernel_rfl⟩
-- (*deuce/rank.book).taken$1
instance : FnOk Tryz.prog 110 := ⟨by kernel_rfl⟩
-- slices.pdqsortCmpFunc[deuce/rank.line]
instance : FnOk Tryz.prog 111 := ⟨by kernel_rfl⟩
-- deuce/draws.within
instance : FnOk Tryz.prog 112 := ⟨by kernel_rfl⟩
-- slices.ContainsFunc[[]deuce/api.Person,deuce/api.Person]
instance : FnOk Tryz.prog 113 := ⟨by kernel_rfl⟩
-- deuce/draws.Check$1
instance : FnOk Tryz.prog 114 := ⟨by kernel_rfl⟩
-- slices.ContainsFunc[[]int,int]
instance : FnOk Tryz.prog 115 := ⟨by kernel_rfl⟩
-- deuce/draws.Check$2
instance : FnOk Tryz.prog 116 := ⟨by kernel_rfl⟩
-- slices.SortFunc[[]int,int]
instance : FnOk Tryz.prog 117 := ⟨by kernel_rfl⟩
-- deuce/draws.draws$1
instance : FnOk Tryz.prog 118 := ⟨by kernel_rfl⟩
-- deuce/draws.draws$2
instance : FnOk Tryz.prog 119 := ⟨by kernel_rfl⟩
-- deuce/draws.draws$2$1
instance : FnOk Tryz.prog 120 := ⟨by kernel_rfl⟩
-- slices.Clone[[]int,int]
instance : FnOk Tryz.prog 121 := ⟨by kernel_rfl⟩
-- slices.Contains[[]int,int]
instance : FnOk Tryz.prog 122 := ⟨by kernel_rfl⟩
-- deuce/draws.seat
instance : FnOk Tryz.prog 123 := ⟨by kernel_rfl⟩
-- deuce/draws.match
instance : FnOk Tryz.prog 124 := ⟨by kernel_rfl⟩
-- deuce/rank.areLeaves
instance : FnOk Tryz.prog 125 := ⟨by kernel_rfl⟩
-- deuce/rank.isLedger$1
instance : FnOk Tryz.prog 126 := ⟨by kernel_rfl⟩
-- slices.stableCmpFunc[deuce/api.Report]
instance : FnOk Tryz.prog 127 := ⟨by kernel_rfl⟩
-- slices.ContainsFunc[[]deuce/api.Strip,deuce/api.Strip]
instance : FnOk Tryz.prog 128 := ⟨by kernel_rfl⟩
-- deuce/lines.Check$1
instance : FnOk Tryz.prog 129 := ⟨by kernel_rfl⟩
-- deuce/lines.isStrip
instance : FnOk Tryz.prog 130 := ⟨by kernel_rfl⟩
-- deuce/lines.within
instance : FnOk Tryz.prog 131 := ⟨by kernel_rfl⟩
-- deuce/lines.isSpan
instance : FnOk Tryz.prog 132 := ⟨by kernel_rfl⟩
-- deuce/lines.all
instance : FnOk Tryz.prog 133 := ⟨by kernel_rfl⟩
-- slices.IndexFunc[[]deuce/lines.point,deuce/lines.point]
instance : FnOk Tryz.prog 134 := ⟨by kernel_rfl⟩
-- deuce/lines.beyond
instance : FnOk Tryz.prog 135 := ⟨by kernel_rfl⟩
-- deuce/deuceref01.begin
instance : FnOk Tryz.prog 136 := ⟨by kernel_rfl⟩
-- deuce/deuceref01.tied
instance : FnOk Tryz.prog 137 := ⟨by kernel_rfl⟩
-- deuce/deuceref01.plus
instance : FnOk Tryz.prog 138 := ⟨by kernel_rfl⟩
-- deuce/deuceref01.gameWinner
instance : FnOk Tryz.prog 139 := ⟨by kernel_rfl⟩
-- deuce/deuceref01.leads
instance : FnOk Tryz.prog 140 := ⟨by kernel_rfl⟩
-- deuce/deuceref01.Server
instance : FnOk Tryz.prog 141 := ⟨by kernel_rfl⟩
-- deuce/deuceref01.Won
instance : FnOk Tryz.prog 142 := ⟨by kernel_rfl⟩
-- deuce/score.Check$1
instance : FnOk Tryz.prog 143 := ⟨by kernel_rfl⟩
-- deuce/score.within
instance : FnOk Tryz.prog 144 := ⟨by kernel_rfl⟩
-- (*deuce/score.match).next
instance : FnOk Tryz.prog 145 := ⟨by kernel_rfl⟩
-- (deuce/score.rules).set
instance : FnOk Tryz.prog 146 := ⟨by kernel_rfl⟩
-- (*deuce/score.match).number
instance : FnOk Tryz.prog 147 := ⟨by kernel_rfl⟩
-- deuce/score.add
instance : FnOk Tryz.prog 148 := ⟨by kernel_rfl⟩
-- deuce/score.sum
instance : FnOk Tryz.prog 149 := ⟨by kernel_rfl⟩
-- (deuce/score.rules).game
instance : FnOk Tryz.prog 150 := ⟨by kernel_rfl⟩
-- (*deuce/score.match).serves
instance : FnOk Tryz.prog 151 := ⟨by kernel_rfl⟩
-- (*deuce/score.match).fresh
instance : FnOk Tryz.prog 152 := ⟨by kernel_rfl⟩
-- deuce/score.leads
instance : FnOk Tryz.prog 153 := ⟨by kernel_rfl⟩
-- slices.insertionSortCmpFunc[deuce/api.Board]
instance : FnOk Tryz.prog 154 := ⟨by kernel_rfl⟩
-- slices.heapSortCmpFunc[deuce/api.Board]
instance : FnOk Tryz.prog 155 := ⟨by kernel_rfl⟩
-- slices.breakPatternsCmpFunc[deuce/api.Board]
instance : FnOk Tryz.prog 156 := ⟨by kernel_rfl⟩
-- slices.choosePivotCmpFunc[deuce/api.Board]
instance : FnOk Tryz.prog 157 := ⟨by kernel_rfl⟩
-- slices.reverseRangeCmpFunc[deuce/api.Board]
instance : FnOk Tryz.prog 158 := ⟨by kernel_rfl⟩
-- slices.partialInsertionSortCmpFunc[deuce/api.Board]
instance : FnOk Tryz.prog 159 := ⟨by kernel_rfl⟩
-- slices.partitionEqualCmpFunc[deuce/api.Board]
instance : FnOk Tryz.prog 160 := ⟨by kernel_rfl⟩
-- slices.partitionCmpFunc[deuce/api.Board]
instance : FnOk Tryz.prog 161 := ⟨by kernel_rfl⟩
-- math/bits.Len32
instance : FnOk Tryz.prog 162 := ⟨by kernel_rfl⟩
-- math/bits.Len64
instance : FnOk Tryz.prog 163 := ⟨by kernel_rfl⟩
-- deuce/card.within
instance : FnOk Tryz.prog 164 := ⟨by kernel_rfl⟩
-- deuce/card.isMark
instance : FnOk Tryz.prog 165 := ⟨by kernel_rfl⟩
-- (deuce/card.crowd).put
instance : FnOk Tryz.prog 166 := ⟨by kernel_rfl⟩
-- (deuce/card.reader).play
instance : FnOk Tryz.prog 167 := ⟨by kernel_rfl⟩
-- (deuce/card.reader).holds
instance : FnOk Tryz.prog 168 := ⟨by kernel_rfl⟩
-- slices.IndexFunc[[]deuce/api.Absence,deuce/api.Absence]
instance : FnOk Tryz.prog 169 := ⟨by kernel_rfl⟩
-- slices.insertionSortCmpFunc[deuce/rank.line]
instance : FnOk Tryz.prog 170 := ⟨by kernel_rfl⟩
-- slices.heapSortCmpFunc[deuce/rank.line]
instance : FnOk Tryz.prog 171 := ⟨by kernel_rfl⟩
-- slices.breakPatternsCmpFunc[deuce/rank.line]
instance : FnOk Tryz.prog 172 := ⟨by kernel_rfl⟩
-- slices.choosePivotCmpFunc[deuce/rank.line]
instance : FnOk Tryz.prog 173 := ⟨by kernel_rfl⟩
-- slices.reverseRangeCmpFunc[deuce/rank.line]
instance : FnOk Tryz.prog 174 := ⟨by kernel_rfl⟩
-- slices.partialInsertionSortCmpFunc[deuce/rank.line]
instance : FnOk Tryz.prog 175 := ⟨by kernel_rfl⟩
-- slices.partitionEqualCmpFunc[deuce/rank.line]
instance : FnOk Tryz.prog 176 := ⟨by kernel_rfl⟩
-- slices.partitionCmpFunc[deuce/rank.line]
instance : FnOk Tryz.prog 177 := ⟨by kernel_rfl⟩
-- slices.IndexFunc[[]deuce/api.Person,deuce/api.Person]
instance : FnOk Tryz.prog 178 := ⟨by kernel_rfl⟩
-- slices.IndexFunc[[]int,int]
instance : FnOk Tryz.prog 179 := ⟨by kernel_rfl⟩
-- slices.pdqsortCmpFunc[int]
instance : FnOk Tryz.prog 180 := ⟨by kernel_rfl⟩
-- deuce/draws.match$1
instance : FnOk Tryz.prog 181 := ⟨by kernel_rfl⟩
-- deuce/draws.apart
instance : FnOk Tryz.prog 182 := ⟨by kernel_rfl⟩
-- deuce/rank.areLeaves$1
instance : FnOk Tryz.prog 183 := ⟨by kernel_rfl⟩
-- slices.insertionSortCmpFunc[deuce/api.Report]
instance : FnOk Tryz.prog 184 := ⟨by kernel_rfl⟩
-- slices.symMergeCmpFunc[deuce/api.Report]
instance : FnOk Tryz.prog 185 := ⟨by kernel_rfl⟩
-- slices.IndexFunc[[]deuce/api.Strip,deuce/api.Strip]
instance : FnOk Tryz.prog 186 := ⟨by kernel_rfl⟩
-- deuce/lines.all$1
instance : FnOk Tryz.prog 187 := ⟨by kernel_rfl⟩
-- deuce/lines.wrong
instance : FnOk Tryz.prog 188 := ⟨by kernel_rfl⟩
-- deuce/deuceref01.due
instance : FnOk Tryz.prog 189 := ⟨by kernel_rfl⟩
-- deuce/deuceref01.Rule
instance : FnOk Tryz.prog 190 := ⟨by kernel_rfl⟩
-- deuce/deuceref01.IsLast
instance : FnOk Tryz.prog 191 := ⟨by kernel_rfl⟩
-- (deuce/score.set).breaks
instance : FnOk Tryz.prog 192 := ⟨by kernel_rfl⟩
-- (deuce/score.rules).due
instance : FnOk Tryz.prog 193 := ⟨by kernel_rfl⟩
-- slices.siftDownCmpFunc[deuce/api.Board]
instance : FnOk Tryz.prog 194 := ⟨by kernel_rfl⟩
-- slices.nextPowerOfTwo
instance : FnOk Tryz.prog 195 := ⟨by kernel_rfl⟩
-- (*slices.xorshift).Next
instance : FnOk Tryz.prog 196 := ⟨by kernel_rfl⟩
-- slices.medianAdjacentCmpFunc[deuce/api.Board]
instance : FnOk Tryz.prog 197 := ⟨by kernel_rfl⟩
-- slices.medianCmpFunc[deuce/api.Board]
instance : FnOk Tryz.prog 198 := ⟨by kernel_rfl⟩
-- deuce/card.isMark$1
instance : FnOk Tryz.prog 199 := ⟨by kernel_rfl⟩
-- deuce/card.isMark$2
instance : FnOk Tryz.prog 200 := ⟨by kernel_rfl⟩
-- (deuce/card.reader).next
instance : FnOk Tryz.prog 201 := ⟨by kernel_rfl⟩
-- (deuce/card.spot).won
instance : FnOk Tryz.prog 202 := ⟨by kernel_rfl⟩
-- (deuce/card.reader).score
instance : FnOk Tryz.prog 203 := ⟨by kernel_rfl⟩
-- slices.siftDownCmpFunc[deuce/rank.line]
instance : FnOk Tryz.prog 204 := ⟨by kernel_rfl⟩
-- slices.medianAdjacentCmpFunc[deuce/rank.line]
instance : FnOk Tryz.prog 205 := ⟨by kernel_rfl⟩
-- slices.medianCmpFunc[deuce/rank.line]
instance : FnOk Tryz.prog 206 := ⟨by kernel_rfl⟩
-- slices.insertionSortCmpFunc[int]
instance : FnOk Tryz.prog 207 := ⟨by kernel_rfl⟩
-- slices.heapSortCmpFunc[int]
instance : FnOk Tryz.prog 208 := ⟨by kernel_rfl⟩
-- slices.breakPatternsCmpFunc[int]
instance : FnOk Tryz.prog 209 := ⟨by kernel_rfl⟩
-- slices.choosePivotCmpFunc[int]
instance : FnOk Tryz.prog 210 := ⟨by kernel_rfl⟩
-- slices.reverseRangeCmpFunc[int]
instance : FnOk Tryz.prog 211 := ⟨by kernel_rfl⟩
-- slices.partialInsertionSortCmpFunc[int]
instance : FnOk Tryz.prog 212 := ⟨by kernel_rfl⟩
-- slices.partitionEqualCmpFunc[int]
instance : FnOk Tryz.prog 213 := ⟨by kernel_rfl⟩
-- slices.partitionCmpFunc[int]
instance : FnOk Tryz.prog 214 := ⟨by kernel_rfl⟩
-- slices.rotateCmpFunc[deuce/api.Report]
instance : FnOk Tryz.prog 215 := ⟨by kernel_rfl⟩
-- slices.order2CmpFunc[deuce/api.Board]
instance : FnOk Tryz.prog 216 := ⟨by kernel_rfl⟩
-- deuce/card.more
instance : FnOk Tryz.prog 217 := ⟨by kernel_rfl⟩
-- deuce/card.leads
instance : FnOk Tryz.prog 218 := ⟨by kernel_rfl⟩
-- (*deuce/card.node).row
instance : FnOk Tryz.prog 219 := ⟨by kernel_rfl⟩
-- slices.order2CmpFunc[deuce/rank.line]
instance : FnOk Tryz.prog 220 := ⟨by kernel_rfl⟩
-- slices.siftDownCmpFunc[int]
instance : FnOk Tryz.prog 221 := ⟨by kernel_rfl⟩
-- slices.medianAdjacentCmpFunc[int]
instance : FnOk Tryz.prog 222 := ⟨by kernel_rfl⟩
-- slices.medianCmpFunc[int]
instance : FnOk Tryz.prog 223 := ⟨by kernel_rfl⟩
-- slices.swapRangeCmpFunc[deuce/api.Report]
instance : FnOk Tryz.prog 224 := ⟨by kernel_rfl⟩
-- slices.Reverse[[]int,int]
instance : FnOk Tryz.prog 225 := ⟨by kernel_rfl⟩
-- slices.order2CmpFunc[int]
instance : FnOk Tryz.prog 226 := ⟨by kernel_rfl⟩
end Go.Proofs.YthkliiifllhacaaGreat

namespace Go.Proofs.YthkliiifllhacaaGreat
open Go
instance : BuildArr Tryz.prog 141 2 [.int .i64 0, .int .i64 0, .int .i64 0, .int .i64 0, .int .i64 0, .int .i64 0, .int .i64 0, .int .i64 0, .int .i64 0, .int .i64 0] := ⟨fun parts => by kernel_rfl⟩
instance : BuildArr Tryz.prog 305 1 [] := ⟨fun parts => by kernel_rfl⟩
instance : FlatTy Tryz.prog 48 [false, false, true, false, false, false, false, false, false, true] := ⟨by kernel_rfl, by kernel_rfl, by kernel_rfl⟩
instance : FlatTy Tryz.prog 49 [false, false, true, false, false, false, false, false, false, true] := ⟨by kernel_rfl, by kernel_rfl, by kernel_rfl⟩
instance : FlatTy Tryz.prog 56 [false, false] := ⟨by kernel_rfl, by kernel_rfl, by kernel_rfl⟩
instance : FlatTy Tryz.prog 57 [false, false] := ⟨by kernel_rfl, by kernel_rfl, by kernel_rfl⟩
instance : FlatTy Tryz.prog 60 [false, false, false, false] := ⟨by kernel_rfl, by kernel_rfl, by kernel_rfl⟩
instance : FlatTy Tryz.prog 61 [false, false, false, false] := ⟨by kernel_rfl, by kernel_rfl, by kernel_rfl⟩
instance : FlatTy Tryz.prog 62 [false, false, false, false] := ⟨by kernel_rfl, by kernel_rfl, by kernel_rfl⟩
instance : FlatTy Tryz.prog 63 [false, false, false, false] := ⟨by kernel_rfl, by kernel_rfl, by kernel_rfl⟩
instance : FlatTy Tryz.prog 72 [false, false] := ⟨by kernel_rfl, by kernel_rfl, by kernel_rfl⟩
instance : FlatTy Tryz.prog 73 [false, false] := ⟨by kernel_rfl, by kernel_rfl, by kernel_rfl⟩
instance : FlatTy Tryz.prog 74 [false, false, false, false] := ⟨by kernel_rfl, by kernel_rfl, by kernel_rfl⟩
instance : FlatTy Tryz.prog 75 [false, false, false, false] := ⟨by kernel_rfl, by kernel_rfl, by kernel_rfl⟩
instance : FlatTy Tryz.prog 89 [false, false, false, false, true] := ⟨by kernel_rfl, by kernel_rfl, by kernel_rfl⟩
instance : FlatTy Tryz.prog 90 [false, false, false, false, true] := ⟨by kernel_rfl, by kernel_rfl, by kernel_rfl⟩
instance : FlatTy Tryz.prog 102 [false, false, true] := ⟨by kernel_rfl, by kernel_rfl, by kernel_rfl⟩
instance : FlatTy Tryz.prog 103 [false, false, true] := ⟨by kernel_rfl, by kernel_rfl, by kernel_rfl⟩
instance : MapTy Tryz.prog 109 90 3 := ⟨by kernel_rfl⟩
instance : FlatTy Tryz.prog 114 [false, false, false] := ⟨by kernel_rfl, by kernel_rfl, by kernel_rfl⟩
instance : FlatTy Tryz.prog 115 [false, false, false] := ⟨by kernel_rfl, by kernel_rfl, by kernel_rfl⟩
instance : FlatTy Tryz.prog 118 [false, false, false, false] := ⟨by kernel_rfl, by kernel_rfl, by kernel_rfl⟩
instance : FlatTy Tryz.prog 119 [false, false, false, false] := ⟨by kernel_rfl, by kernel_rfl, by kernel_rfl⟩
instance : FlatTy Tryz.prog 132 [false, false, true, false, false, false, false, false, false, true] := ⟨by kernel_rfl, by kernel_rfl, by kernel_rfl⟩
instance : FlatTy Tryz.prog 133 [false, false, true, false, false, false, false, false, false, true] := ⟨by kernel_rfl, by kernel_rfl, by kernel_rfl⟩
instance : MapTy Tryz.prog 137 143 253 := ⟨by kernel_rfl⟩
instance : MapTy Tryz.prog 138 143 253 := ⟨by kernel_rfl⟩
instance : FlatTy Tryz.prog 142 [false, false, false, false, false, false, false, false, false, false, false, false, false, false, false, false] := ⟨by kernel_rfl, by kernel_rfl, by kernel_rfl⟩
instance : FlatTy Tryz.prog 143 [false, false, false, false, false, false, false, false, false, false, false, false, false, false, false, false] := ⟨by kernel_rfl, by kernel_rfl, by kernel_rfl⟩
instance : FlatTy Tryz.prog 165 [false, false, false, false] := ⟨by kernel_rfl, by kernel_rfl, by kernel_rfl⟩
instance : FlatTy Tryz.prog 166 [false, false, false, false] := ⟨by kernel_rfl, by kernel_rfl, by kernel_rfl⟩
instance : FlatTy Tryz.prog 182 [false, false] := ⟨by kernel_rfl, by kernel_rfl, by kernel_rfl⟩
instance : FlatTy Tryz.prog 183 [false, false] := ⟨by kernel_rfl, by kernel_rfl, by kernel_rfl⟩
instance : FlatTy Tryz.prog 228 [false, true, false, false, false, false, true] := ⟨by kernel_rfl, by kernel_rfl, by kernel_rfl⟩
instance : FlatTy Tryz.prog 229 [false, true, false, false, false, false, true] := ⟨by kernel_rfl, by kernel_rfl, by kernel_rfl⟩
instance : FlatTy Tryz.prog 231 [false, false] := ⟨by kernel_rfl, by kernel_rfl, by kernel_rfl⟩
instance : FlatTy Tryz.prog 232 [false, false] := ⟨by kernel_rfl, by kernel_rfl, by kernel_rfl⟩
end Go.Proofs.YthkliiifllhacaaGreat

namespace Go.Proofs.YthkliiifllhacaaGreat
open Go Go.RowKit

def wi (n lo hi : Int) : Bool := decide (lo ≤ n) && decide (n ≤ hi)
theorem wi_iff {n lo hi : Int} : wi n lo hi = true ↔ lo ≤ n ∧ n ≤ hi := by simp [wi]
theorem wi_not {n lo hi : Int} : (!wi n lo hi) = false ↔ lo ≤ n ∧ n ≤ hi := by simp [wi]

structure Fmt where
 (sets games : Int) (noAd : Bool) (tie to ltie lto first thn : Int) (dbl : Bool)
abbrev Fmt.cells (f : Fmt) : List Value := [.int .i64 f.sets, .int .i64 f.games, .bool f.noAd, .int .i64 f.tie, .int .i64 f.to, .int .i64 f.ltie, .int .i64 f.lto, .int .i64 f.first, .int .i64 f.thn, .bool f.dbl]
abbrev Fmt.val (f : Fmt) : Value := .agg #[.int .i64 f.sets, .int .i64 f.games, .bool f.noAd, .int .i64 f.tie, .int .i64 f.to, .int .i64 f.ltie, .int .i64 f.lto, .int .i64 f.first, .int .i64 f.thn, .bool f.dbl]
abbrev Pr := Int × Int
abbrev pv (p : Pr) : Value := .agg #[.int .i64 p.1, .int .i64 p.2]
def tieB (f : Fmt) (n : Int) : Bool := decide (n = -1) || decide (n = 0) || decide (n = f.games - 1) || decide (n = f.games)
def fmtOk (f : Fmt) : Bool := wi f.sets 1 3 && wi f.games 1 8 && tieB f f.tie && tieB f f.ltie && wi f.to 1 15 && wi f.lto 1 15 && wi f.first 0 20 && wi f.thn 0 20
def chkF (f : Fmt) : Int := bif fmtOk f then 0 else 10
structure Fmt.Ok (f : Fmt) : Prop where
 s0 : 1 ≤ f.sets
 s1 : f.sets ≤ 3
 g0 : 1 ≤ f.games
 g1 : f.games ≤ 8
 t : f.tie = -1 ∨ f.tie = 0 ∨ f.tie = f.games - 1 ∨ f.tie = f.games
 lt : f.ltie = -1 ∨ f.ltie = 0 ∨ f.ltie = f.games - 1 ∨ f.ltie = f.games
 o0 : 1 ≤ f.to
 o1 : f.to ≤ 15
 l0 : 1 ≤ f.lto
 l1 : f.lto ≤ 15
 f0 : 0 ≤ f.first
 f1 : f.first ≤ 20
 n0 : 0 ≤ f.thn
 n1 : f.thn ≤ 20
theorem fmt_ok {f : Fmt} (h : fmtOk f = true) : f.Ok := by
 simp only [fmtOk, tieB, Bool.and_eq_true, Bool.or_eq_true, wi_iff, decide_eq_true_eq] at h
 constructor <;> omega
def Sm (p : Pr) : Prop := (-1000000 ≤ p.1 ∧ p.1 ≤ 1000000) ∧ -1000000 ≤ p.2 ∧ p.2 ≤ 1000000
def leadsV (p : Pr) (l b : Int) : Int := bif decide (l ≤ p.1) && decide (b ≤ p.1 - p.2) then 0 else bif decide (l ≤ p.2) && decide (b ≤ p.2 - p.1) then 1 else -1
def setV (f : Fmt) (won : Pr) : Pr := bif decide (won.1 = f.sets - 1) && decide (won.2 = f.sets - 1) then (f.ltie, f.lto) else (f.tie, f.to)
def brksV (s g : Pr) : Bool := decide (g.1 = s.1) && decide (g.2 = s.1)
def addV (p : Pr) (side : Int) : Pr := bif decide (side = 0) then (p.1 + 1, p.2) else (p.1, p.2 + 1)
def gameV (f : Fmt) (s : Pr) (tie : Bool) (p : Pr) : Int := bif tie then leadsV p s.2 2 else bif f.noAd then leadsV p 4 1 else leadsV p 4 2
def dueV (f : Fmt) (n : Int) : Bool := decide (0 < f.first) && (decide (n - f.first = 0) || decide (0 < n - f.first) && decide (0 < f.thn) && decide ((n - f.first) % f.thn = 0))
end Go.Proofs.YthkliiifllhacaaGreat

namespace Go.Proofs.YthkliiifllhacaaGreat
open Go Go.RowKit

theorem C_score_within (n lo hi : Int) (w : World) : C0 Tryz.prog 144 [.int .i64 n, .int .i64 lo, .int .i64 hi] w (.bool (wi n lo hi)) := by
 refine ⟨en Tryz.func144 Tryz.ntmps144 (St.init w) (h := fun F => ?_)⟩
 refine sr ?_
 refine ww ?_
 refine nr ?_
 iterate 4 refine ww ?_
 apply brAnd 4 10 14 (by exact rfl)
 ·
  intro hb0
  iterate 3 refine uw ?_
  refine ww ?_
  exact mg (by repeat (first | exact trivial | refine ⟨rfl, ?_⟩ | refine ⟨by rw [hb0]; rfl, ?_⟩)) slz_
 ·
  intro hb0
  repeat (first | refine uz ?_ | refine kz ?_ | refine wz ?_)
  exact mg (by repeat (first | exact trivial | refine ⟨rfl, ?_⟩ | refine ⟨by rw [hb0]; rfl, ?_⟩)) slz_
 refine ww ?_
 refine nq ?_
 refine rtn ?_
 refine q_ret (hR := ?_)
 exact fun w hS => ⟨rfl, hS.sub slz_⟩
theorem T_score_Check1 (f : Fmt) (n : Int) (hg : 1 ≤ f.games ∧ f.games ≤ 8) (a0 : Nat) : Tr Tryz.prog 143 [.int .i64 n, .pointer (some ⟨a0, 0, none⟩)] [.blk a0 49 f.cells] (fun _ : Unit => True) (fun _ => .bool (tieB f n)) (fun _ => [.blk a0 49 f.cells]) := by
 refine ⟨fun w0 w R hst => ?_⟩
 refine en Tryz.func143 Tryz.ntmps143 hst (h := fun F => ?_)
 refine sr ?_
 refine ww ?_
 refine nr ?_
 iterate 3 refine ww ?_
 apply brOr 3 6 9 (by exact rfl)
 ·
  intro hb0
  iterate 2 refine uw ?_
  refine ww ?_
  exact mg (by repeat (first | exact trivial | refine ⟨rfl, ?_⟩ | refine ⟨by rw [hb0]; rfl, ?_⟩)) slz_
 ·
  intro hb0
  repeat (first | refine uz ?_ | refine kz ?_ | refine wz ?_)
  exact mg (by repeat (first | exact trivial | refine ⟨rfl, ?_⟩ | refine ⟨by rw [hb0]; rfl, ?_⟩)) slz_
 refine ww ?_
 apply brOr 6 10 16 (by exact rfl)
 ·
  intro hb1
  iterate 5 refine uw ?_
  refine ww ?_
  exact mg (by repeat (first | exact trivial | refine ⟨rfl, ?_⟩ | refine ⟨by rw [hb1]; rfl, ?_⟩)) slz_
 ·
  intro hb1
  repeat (first | refine uz ?_ | refine kz ?_ | refine wz ?_)
  exact mg (by repeat (first | exact trivial | refine ⟨rfl, ?_⟩ | refine ⟨by rw [hb1]; rfl, ?_⟩)) slz_
 refine ww ?_
 apply brOr 5 17 22 (by exact rfl)
 ·
  intro hb2
  iterate 4 refine uw ?_
  refine ww ?_
  exact mg (by repeat (first | exact trivial | refine ⟨rfl, ?_⟩ | refine ⟨by rw [hb2]; rfl, ?_⟩)) slz_
 ·
  intro hb2
  repeat (first | refine uz ?_ | refine kz ?_ | refine wz ?_)
  exact mg (by repeat (first | exact trivial | refine ⟨rfl, ?_⟩ | refine ⟨by rw [hb2]; rfl, ?_⟩)) slz_
 refine ww ?_
 refine nq ?_
 refine rtn ?_
 refine q_ret (hR := ?_)
 exact fun w hS => ⟨(), trivial, rfl, hS⟩

theorem C_score_Check (f : Fmt) (w : World) : C0 Tryz.prog 98 [f.val] w (.int .i64 (chkF f)) := by
 refine ⟨en Tryz.func98 Tryz.ntmps98 (St.init w) (h := fun F => ?_)⟩
 refine sr ?_
 refine bxA (h := fun b0 => ?_)
 refine ww ?_
 refine nr ?_
 iterate 2 refine ww ?_
 refine nq ?_
 refine sq ?_
 refine sr ?_
 iterate 2 refine ww ?_
 refine cl0 (hc := fun w hS => C_score_within ..) (h := ?_)
 refine ww ?_
 apply brAnd 4 8 12 (by exact rfl)
 ·
  intro hb0
  iterate 2 refine uw ?_
  refine uz ?_
  refine cl0 (hc := fun w hS => C_score_within ..) (h := ?_)
  refine ww ?_
  exact mg (by repeat (first | exact trivial | refine ⟨rfl, ?_⟩ | refine ⟨by rw [hb0]; rfl, ?_⟩)) slz_
 ·
  intro hb0
  repeat (first | refine uz ?_ | refine kz ?_ | refine wz ?_)
  exact mg (by repeat (first | exact trivial | refine ⟨rfl, ?_⟩ | refine ⟨by rw [hb0]; rfl, ?_⟩)) slz_
 refine ww ?_
 apply brAnd 5 13 18 (by exact rfl)
 ·
  intro hb1
  have hg : 1 ≤ f.games ∧ f.games ≤ 8 := by simp only [Bool.and_eq_true, wi_iff] at hb1; omega
  iterate 3 refine uw ?_
  refine uz ?_
  refine clfT inferInstance (fi := []) (cap := [.pointer (some ⟨b0, 0, none⟩)]) (by exact rfl) (by repeat (first | exact Evs.nil | (apply Evs.cons; exact rfl))) (T_score_Check1 f f.tie hg b0) rfl (by repeat (first | exact Spl.nil | (apply Spl.cons; (repeat (first | exact At.here | apply At.there))))) (h := fun _ _ => ?_)
  refine ww ?_
  exact mg (by repeat (first | exact trivial | refine ⟨rfl, ?_⟩ | refine ⟨by rw [hb1]; rfl, ?_⟩)) slz_
 ·
  intro hb1
  repeat (first | refine uz ?_ | refine kz ?_ | refine wz ?_)
  exact mg (by repeat (first | exact trivial | refine ⟨rfl, ?_⟩ | refine ⟨by rw [hb1]; rfl, ?_⟩)) slz_
 refine ww ?_
 apply brAnd 5 19 24 (by exact rfl)
 ·
  intro hb2
  have hg : 1 ≤ f.games ∧ f.games ≤ 8 := by simp only [Bool.and_eq_true, wi_iff] at hb2; omega
  iterate 3 refine uw ?_
  refine uz ?_
  refine clfT inferInstance (fi := []) (cap := [.pointer (some ⟨b0, 0, none⟩)]) (by exact rfl) (by repeat (first | exact Evs.nil | (apply Evs.cons; exact rfl))) (T_score_Check1 f f.ltie hg b0) rfl (by repeat (first | exact Spl.nil | (apply Spl.cons; (repeat (first | exact At.here | apply At.there))))) (h := fun _ _ => ?_)
  refine ww ?_
  exact mg (by repeat (first | exact trivial | refine ⟨rfl, ?_⟩ | refine ⟨by rw [hb2]; rfl, ?_⟩)) slz_
 ·
  intro hb2
  repeat (first | refine uz ?_ | refine kz ?_ | refine wz ?_)
  exact mg (by repeat (first | exact trivial | refine ⟨rfl, ?_⟩ | refine ⟨by rw [hb2]; rfl, ?_⟩)) slz_
 refine ww ?_
 apply brAnd 4 25 29 (by exact rfl)
 ·
  intro hb3
  iterate 2 refine uw ?_
  refine uz ?_
  refine cl0 (hc := fun w hS => C_score_within ..) (h := ?_)
  refine ww ?_
  exact mg (by repeat (first | exact trivial | refine ⟨rfl, ?_⟩ | refine ⟨by rw [hb3]; rfl, ?_⟩)) slz_
 ·
  intro hb3
  repeat (first | refine uz ?_ | refine kz ?_ | refine wz ?_)
  exact mg (by repeat (first | exact trivial | refine ⟨rfl, ?_⟩ | refine ⟨by rw [hb3]; rfl, ?_⟩)) slz_
 refine ww ?_
 apply brAnd 4 30 34 (by exact rfl)
 ·
  intro hb4
  iterate 2 refine uw ?_
  refine uz ?_
  refine cl0 (hc := fun w hS => C_score_within ..) (h := ?_)
  refine ww ?_
  exact mg (by repeat (first | exact trivial | refine ⟨rfl, ?_⟩ | refine ⟨by rw [hb4]; rfl, ?_⟩)) slz_
 ·
  intro hb4
  repeat (first | refine uz ?_ | refine kz ?_ | refine wz ?_)
  exact mg (by repeat (first | exact trivial | refine ⟨rfl, ?_⟩ | refine ⟨by rw [hb4]; rfl, ?_⟩)) slz_
 refine ww ?_
 apply brAnd 4 35 39 (by exact rfl)
 ·
  intro hb5
  iterate 2 refine uw ?_
  refine uz ?_
  refine cl0 (hc := fun w hS => C_score_within ..) (h := ?_)
  refine ww ?_
  exact mg (by repeat (first | exact trivial | refine ⟨rfl, ?_⟩ | refine ⟨by rw [hb5]; rfl, ?_⟩)) slz_
 ·
  intro hb5
  repeat (first | refine uz ?_ | refine kz ?_ | refine wz ?_)
  exact mg (by repeat (first | exact trivial | refine ⟨rfl, ?_⟩ | refine ⟨by rw [hb5]; rfl, ?_⟩)) slz_
 refine ww ?_
 apply brAnd 4 40 44 (by exact rfl)
 ·
  intro hb6
  iterate 2 refine uw ?_
  refine uz ?_
  refine cl0 (hc := fun w hS => C_score_within ..) (h := ?_)
  refine ww ?_
  exact mg (by repeat (first | exact trivial | refine ⟨rfl, ?_⟩ | refine ⟨by rw [hb6]; rfl, ?_⟩)) slz_
 ·
  intro hb6
  repeat (first | refine uz ?_ | refine kz ?_ | refine wz ?_)
  exact mg (by repeat (first | exact trivial | refine ⟨rfl, ?_⟩ | refine ⟨by rw [hb6]; rfl, ?_⟩)) slz_
 refine nq ?_
 refine czz (fun h7 => ?_) fun h7 => ?_
 ·
  refine sr ?_
  refine ww ?_
  refine nq ?_
  refine rtn ?_
  refine q_then_ret ?_
  refine q_ret (hR := ?_)
  exact fun w hS => ⟨cdT' (fun x : Int => Ending.returned (Value.int .i64 x)) h7, hS.sub slz_⟩
 ·
  refine skp ?_
  refine q_seq ?_
  refine sr ?_
  refine ww ?_
  refine nq ?_
  refine rtn ?_
  refine q_ret (hR := ?_)
  exact fun w hS => ⟨cdF' (fun x : Int => Ending.returned (Value.int .i64 x)) h7, hS.sub slz_⟩

theorem C_score_leads (p : Pr) (l b : Int) (hp : Sm p) (w : World) : C0 Tryz.prog 153 [pv p, .int .i64 l, .int .i64 b] w (.int .i64 (leadsV p l b)) := by
 obtain ⟨⟨h1, h2⟩, h3, h4⟩ := hp
 refine ⟨en Tryz.func153 Tryz.ntmps153 (St.init w) (h := fun F => ?_)⟩
 refine sr ?_
 refine bxA (h := fun b0 => ?_)
 refine ww ?_
 refine nq ?_
 refine sq ?_
 refine bk ?_
 refine sr ?_
 iterate 5 refine ww ?_
 apply brAnd 8 12 20 (by exact rfl)
 ·
  intro hb0
  iterate 7 refine uw ?_
  refine ww ?_
  exact mg (by repeat (first | exact trivial | refine ⟨rfl, ?_⟩ | refine ⟨by rw [hb0]; rfl, ?_⟩)) slz_
 ·
  intro hb0
  repeat (first | refine uz ?_ | refine kz ?_ | refine wz ?_)
  exact mg (by repeat (first | exact trivial | refine ⟨rfl, ?_⟩ | refine ⟨by rw [hb0]; rfl, ?_⟩)) slz_
 refine ww ?_
 refine nq ?_
 refine czz (fun h1 => ?_) fun h1 => ?_
 ·
  refine sr ?_
  refine ww ?_
  refine nq ?_
  refine rtn ?_
  refine q_blk_ret ?_
  refine q_then_ret ?_
  refine q_ret (hR := ?_)
  exact fun w hS => ⟨cdT' (fun x : Int => Ending.returned (Value.int .i64 x)) h1, hS.sub slz_⟩
 ·
  refine sr ?_
  iterate 5 refine ww ?_
  apply brAnd 8 26 34 (by exact rfl)
  ·
   intro hb2
   iterate 7 refine uw ?_
   refine ww ?_
   exact mg (by repeat (first | exact trivial | refine ⟨rfl, ?_⟩ | refine ⟨by rw [hb2]; rfl, ?_⟩)) slz_
  ·
   intro hb2
   repeat (first | refine uz ?_ | refine kz ?_ | refine wz ?_)
   exact mg (by repeat (first | exact trivial | refine ⟨rfl, ?_⟩ | refine ⟨by rw [hb2]; rfl, ?_⟩)) slz_
  refine ww ?_
  refine nq ?_
  refine czz (fun h3 => ?_) fun h3 => ?_
  ·
   refine sr ?_
   refine ww ?_
   refine nq ?_
   refine rtn ?_
   refine q_blk_ret ?_
   refine q_then_ret ?_
   refine q_ret (hR := ?_)
   exact fun w hS => ⟨(cdT' (fun x : Int => Ending.returned (Value.int .i64 x)) h3).trans (cdF' (fun x : Int => Ending.returned (Value.int .i64 x)) h1), hS.sub slz_⟩
  ·
   refine skp ?_
   refine q_blk_norm ?_
   refine q_seq ?_
   refine sr ?_
   refine ww ?_
   refine nq ?_
   refine rtn ?_
   refine q_ret (hR := ?_)
   exact fun w hS => ⟨(cdF' (fun x : Int => Ending.returned (Value.int .i64 x)) h3).trans (cdF' (fun x : Int => Ending.returned (Value.int .i64 x)) h1), hS.sub slz_⟩

theorem C_rules_set (f : Fmt) (won : Pr) (hf : f.Ok) (w : World) : C0 Tryz.prog 146 [f.val, pv won] w (pv (setV f won)) := by
 have h1 := hf.s0
 have h2 := hf.s1
 refine ⟨en Tryz.func146 Tryz.ntmps146 (St.init w) (h := fun F => ?_)⟩
 refine sr ?_
 refine bxA (h := fun b0 => ?_)
 refine bxA (h := fun b1 => ?_)
 refine al (h := fun b2 => ?_)
 refine nq ?_
 refine sq ?_
 refine sr ?_
 iterate 8 refine ww ?_
 apply brAnd 8 12 20 (by exact rfl)
 ·
  intro hb0
  iterate 7 refine uw ?_
  refine ww ?_
  exact mg (by repeat (first | exact trivial | refine ⟨rfl, ?_⟩ | refine ⟨by rw [hb0]; rfl, ?_⟩)) slz_
 ·
  intro hb0
  repeat (first | refine uz ?_ | refine kz ?_ | refine wz ?_)
  exact mg (by repeat (first | exact trivial | refine ⟨rfl, ?_⟩ | refine ⟨by rw [hb0]; rfl, ?_⟩)) slz_
 refine nq ?_
 refine czz (fun h1 => ?_) fun h1 => ?_
 ·
  refine sr ?_
  iterate 7 refine ww ?_
  first | refine stA (h := ?_) | refine stEA (h := ?_)
  refine nq ?_
  refine rtn ?_
  refine q_then_ret ?_
  refine q_ret (hR := ?_)
  exact fun w hS => ⟨cdT' (x := (f.ltie, f.lto)) (fun p : Pr => Ending.returned (pv p)) h1, hS.sub slz_⟩
 ·
  refine skp ?_
  refine q_seq ?_
  refine sr ?_
  iterate 7 refine ww ?_
  first | refine stA (h := ?_) | refine stEA (h := ?_)
  refine nq ?_
  refine rtn ?_
  refine q_ret (hR := ?_)
  exact fun w hS => ⟨cdF' (y := (f.tie, f.to)) (fun p : Pr => Ending.returned (pv p)) h1, hS.sub slz_⟩

theorem C_set_breaks (s g : Pr) (w : World) : C0 Tryz.prog 192 [pv s, pv g] w (.bool (brksV s g)) := by
 refine ⟨en Tryz.func192 Tryz.ntmps192 (St.init w) (h := fun F => ?_)⟩
 refine sr ?_
 refine bxA (h := fun b0 => ?_)
 refine bxA (h := fun b1 => ?_)
 refine ww ?_
 refine nr ?_
 iterate 6 refine ww ?_
 apply brAnd 6 10 16 (by exact rfl)
 ·
  intro hb0
  iterate 5 refine uw ?_
  refine ww ?_
  exact mg (by repeat (first | exact trivial | refine ⟨rfl, ?_⟩ | refine ⟨by rw [hb0]; rfl, ?_⟩)) slz_
 ·
  intro hb0
  repeat (first | refine uz ?_ | refine kz ?_ | refine wz ?_)
  exact mg (by repeat (first | exact trivial | refine ⟨rfl, ?_⟩ | refine ⟨by rw [hb0]; rfl, ?_⟩)) slz_
 refine ww ?_
 refine nq ?_
 refine rtn ?_
 refine q_ret (hR := ?_)
 exact fun w hS => ⟨rfl, hS.sub slz_⟩

theorem C_score_add (p : Pr) (side : Int) (hp : Sm p) (w : World) : C0 Tryz.prog 148 [pv p, .int .i64 side] w (pv (addV p side)) := by
 obtain ⟨⟨h1, h2⟩, h3, h4⟩ := hp
 refine ⟨en Tryz.func148 Tryz.ntmps148 (St.init w) (h := fun F => ?_)⟩
 refine sr ?_
 refine bxA (h := fun b0 => ?_)
 refine al (h := fun b1 => ?_)
 refine nq ?_
 refine sq ?_
 refine sr ?_
 iterate 2 refine ww ?_
 refine nq ?_
 refine czz (fun h0 => ?_) fun h0 => ?_
 ·
  refine rg ?_
  iterate 4 refine ww ?_
  first | refine st (h := ?_) | refine stE (h := ?_)
  refine nr ?_
  refine ww ?_
  first | refine stA (h := ?_) | refine stEA (h := ?_)
  refine nq ?_
  refine rtn ?_
  refine q_ret (hR := ?_)
  exact fun w hS => ⟨cdT' (x := (p.1 + 1, p.2)) (fun p : Pr => Ending.returned (pv p)) h0, hS.sub slz_⟩
 ·
  refine rg ?_
  iterate 4 refine ww ?_
  first | refine st (h := ?_) | refine stE (h := ?_)
  refine nr ?_
  refine ww ?_
  first | refine stA (h := ?_) | refine stEA (h := ?_)
  refine nq ?_
  refine rtn ?_
  refine q_ret (hR := ?_)
  exact fun w hS => ⟨cdF' (y := (p.1, p.2 + 1)) (fun p : Pr => Ending.returned (pv p)) h0, hS.sub slz_⟩

theorem C_score_sum (p : Pr) (hp : Sm p) (w : World) : C0 Tryz.prog 149 [pv p] w (.int .i64 (p.1 + p.2)) := by
 obtain ⟨⟨h1, h2⟩, h3, h4⟩ := hp
 refine ⟨en Tryz.func149 Tryz.ntmps149 (St.init w) (h := fun F => ?_)⟩
 refine sr ?_
 refine bxA (h := fun b0 => ?_)
 refine ww ?_
 refine nr ?_
 iterate 6 refine ww ?_
 refine nq ?_
 refine rtn ?_
 refine q_ret (hR := ?_)
 exact fun w hS => ⟨rfl, hS.sub slz_⟩

theorem C_rules_game (f : Fmt) (s : Pr) (tie : Bool) (p : Pr) (hp : Sm p) (w : World) : C0 Tryz.prog 150 [f.val, pv s, .bool tie, pv p] w (.int .i64 (gameV f s tie p)) := by
 refine ⟨en Tryz.func150 Tryz.ntmps150 (St.init w) (h := fun F => ?_)⟩
 refine sr ?_
 refine bxA (h := fun b0 => ?_)
 refine bxA (h := fun b1 => ?_)
 refine bxA (h := fun b2 => ?_)
 refine ww ?_
 refine nq ?_
 refine sq ?_
 refine bk ?_
 refine sr ?_
 iterate 2 refine ww ?_
 refine nq ?_
 refine czz (fun h0 => ?_) fun h0 => ?_
 ·
  refine sr ?_
  iterate 3 refine ww ?_
  refine cl0 (hc := fun w hS => C_score_leads _ _ _ (by assumption) w) (h := ?_)
  refine ww ?_
  refine nq ?_
  refine rtn ?_
  refine q_blk_ret ?_
  refine q_then_ret ?_
  refine q_ret (hR := ?_)
  exact fun w hS => ⟨cdT' (fun x : Int => Ending.returned (Value.int .i64 x)) h0, hS.sub slz_⟩
 ·
  refine sr ?_
  iterate 4 refine ww ?_
  refine nq ?_
  refine czz (fun h1 => ?_) fun h1 => ?_
  ·
   refine sr ?_
   refine ww ?_
   refine cl0 (hc := fun w hS => C_score_leads _ _ _ (by assumption) w) (h := ?_)
   refine ww ?_
   refine nq ?_
   refine rtn ?_
   refine q_blk_ret ?_
   refine q_then_ret ?_
   refine q_ret (hR := ?_)
   exact fun w hS => ⟨(cdT' (fun x : Int => Ending.returned (Value.int .i64 x)) h1).trans (cdF' (fun x : Int => Ending.returned (Value.int .i64 x)) h0), hS.sub slz_⟩
  ·
   refine skp ?_
   refine q_blk_norm ?_
   refine q_seq ?_
   refine sr ?_
   refine ww ?_
   refine cl0 (hc := fun w hS => C_score_leads _ _ _ (by assumption) w) (h := ?_)
   refine ww ?_
   refine nq ?_
   refine rtn ?_
   refine q_ret (hR := ?_)
   exact fun w hS => ⟨(cdF' (fun x : Int => Ending.returned (Value.int .i64 x)) h1).trans (cdF' (fun x : Int => Ending.returned (Value.int .i64 x)) h0), hS.sub slz_⟩

theorem C_rules_due (f : Fmt) (n : Int) (hf : f.Ok) (hn : -1000000 ≤ n ∧ n ≤ 1000000) (w : World) : C0 Tryz.prog 193 [f.val, .int .i64 n] w (.bool (dueV f n)) := by
 have h1 := hf.f0
 have h2 := hf.f1
 have h3 := hf.n0
 refine ⟨en Tryz.func193 Tryz.ntmps193 (St.init w) (h := fun F => ?_)⟩
 refine sr ?_
 refine bxA (h := fun b0 => ?_)
 refine ww ?_
 refine nr ?_
 iterate 6 refine ww ?_
 refine nr ?_
 iterate 5 refine ww ?_
 apply brAnd 21 15 36 (by exact rfl)
 ·
  intro hb0
  iterate 3 refine uw ?_
  apply brOr 17 18 35 (by exact rfl)
  ·
   intro hb1
   iterate 3 refine uw ?_
   apply brAnd 5 21 26 (by exact rfl)
   ·
    intro hb2
    iterate 5 refine uw ?_
    exact mg (by repeat (first | exact trivial | refine ⟨rfl, ?_⟩ | refine ⟨by rw [hb2]; rfl, ?_⟩ | refine ⟨by rw [hb0]; rfl, ?_⟩ | refine ⟨by rw [hb1]; rfl, ?_⟩)) slz_
   ·
    intro hb2
    repeat (first | refine uz ?_ | refine kz ?_ | refine wz ?_)
    exact mg (by repeat (first | exact trivial | refine ⟨rfl, ?_⟩ | refine ⟨by rw [hb2]; rfl, ?_⟩ | refine ⟨by rw [hb0]; rfl, ?_⟩ | refine ⟨by rw [hb1]; rfl, ?_⟩)) slz_
   refine uw ?_
   apply brAnd 7 27 34 (by exact rfl)
   ·
    intro hb3
    obtain ⟨hng, hthn⟩ : 0 < n - f.first ∧ 0 < f.thn := by simp only [Bool.and_eq_true, decide_eq_true_eq] at hb3; omega
    iterate 7 refine uw ?_
    exact mg (by repeat (first | exact trivial | refine ⟨rfl, ?_⟩ | refine ⟨by rw [hb3]; rfl, ?_⟩ | refine ⟨by rw [hb0]; rfl, ?_⟩ | refine ⟨by rw [hb1]; rfl, ?_⟩)) slz_
   ·
    intro hb3
    repeat (first | refine uz ?_ | refine kz ?_ | refine wz ?_)
    exact mg (by repeat (first | exact trivial | refine ⟨rfl, ?_⟩ | refine ⟨by rw [hb3]; rfl, ?_⟩ | refine ⟨by rw [hb0]; rfl, ?_⟩ | refine ⟨by rw [hb1]; rfl, ?_⟩)) slz_
   refine uw ?_
   exact mg (by repeat (first | exact trivial | refine ⟨rfl, ?_⟩ | refine ⟨by rw [hb1]; rfl, ?_⟩ | refine ⟨by rw [hb0]; rfl, ?_⟩)) slz_
  ·
   intro hb1
   repeat (first | refine uz ?_ | refine kz ?_ | refine wz ?_)
   exact mg (by repeat (first | exact trivial | refine ⟨rfl, ?_⟩ | refine ⟨by rw [hb1]; rfl, ?_⟩ | refine ⟨by rw [hb0]; rfl, ?_⟩)) slz_
  refine ww ?_
  exact mg (by repeat (first | exact trivial | refine ⟨rfl, ?_⟩ | refine ⟨by rw [hb0]; rfl, ?_⟩)) slz_
 ·
  intro hb0
  repeat (first | refine uz ?_ | refine kz ?_ | refine wz ?_)
  exact mg (by repeat (first | exact trivial | refine ⟨rfl, ?_⟩ | refine ⟨by rw [hb0]; rfl, ?_⟩)) slz_
 refine ww ?_
 refine nq ?_
 refine rtn ?_
 refine q_ret (hR := ?_)
 exact fun w hS => ⟨rfl, hS.sub slz_⟩
end Go.Proofs.YthkliiifllhacaaGreat

namespace Go.Proofs.YthkliiifllhacaaGreat
open Go Go.RowKit

structure Gm where
 (set : Int) (tie : Bool) (server winner : Int) (pts : Pr) (fresh : Bool)
abbrev Gm.enc (g : Gm) : List Value := [.int .i64 g.set, .bool g.tie, .int .i64 g.server, .int .i64 g.winner, .int .i64 g.pts.1, .int .i64 g.pts.2, .bool g.fresh]
def encP (ps : List Pr) : List (List Value) := ps.map fun p => [.int .i64 p.1, .int .i64 p.2]
def encB (bs : List Bool) : List (List Value) := bs.map fun b => [.bool b]
def encG (gs : List Gm) : List (List Value) := gs.map Gm.enc
def encI (xs : List Int) : List (List Value) := xs.map fun x => [.int .i64 x]
theorem encP_app (ps : List Pr) (p : Pr) : encP ps ++ [[.int .i64 p.1, .int .i64 p.2]] = encP (ps ++ [p]) := by simp [encP]
theorem encB_app (bs : List Bool) (b : Bool) : encB bs ++ [[.bool b]] = encB (bs ++ [b]) := by simp [encB]
theorem encG_app (gs : List Gm) (g : Gm) : encG gs ++ [g.enc] = encG (gs ++ [g]) := by simp [encG]
theorem encI_len (xs : List Int) : (encI xs).length = xs.length := by simp [encI]
theorem encI_at {xs : List Int} {k : Nat} {x : Int} (h : xs[k]? = some x) : (encI xs)[k]? = some [.int .i64 x] := by simp [encI, h]
theorem encP_at {xs : List Pr} {k : Nat} {x : Pr} (h : xs[k]? = some x) : (encP xs)[k]? = some [.int .i64 x.1, .int .i64 x.2] := by simp [encP, h]
def tieI (l : List Bool) (i : Int) : Bool := l.getD i.toNat false
theorem encB_at {l : List Bool} {i : Int} (h : 0 ≤ i ∧ i < l.length) : (encB l)[i.toNat]? = some [.bool (tieI l i)] := by
 have hi : i.toNat < l.length := by omega
 simp [encB, tieI, List.getElem?_eq_getElem hi, List.getD_eq_getElem?_getD]
structure MS where
 (f : Fmt) (first : Int) (st : List Pr) (g p won : Pr) (server ends balls winner : Int) (ties : List Bool) (gs : List Gm)
structure MA where
 (sA tA gA : Option Addr) (sc tc gc : Nat)
abbrev MS.cells (m : MS) (a : MA) : List Value := [.int .i64 m.f.sets, .int .i64 m.f.games, .bool m.f.noAd, .int .i64 m.f.tie, .int .i64 m.f.to, .int .i64 m.f.ltie, .int .i64 m.f.lto, .int .i64 m.f.first, .int .i64 m.f.thn, .bool m.f.dbl,
 .slice a.sA m.st.length a.sc, .int .i64 m.g.1, .int .i64 m.g.2, .int .i64 m.p.1, .int .i64 m.p.2, .int .i64 m.server, .int .i64 m.ends, .int .i64 m.balls, .int .i64 m.winner, .int .i64 m.first, .int .i64 m.won.1, .int .i64 m.won.2, .slice a.tA m.ties.length a.tc, .slice a.gA m.gs.length a.gc]
abbrev MS.blk (m : MS) (a : MA) (b : Nat) : Ent := .blk b 136 (m.cells a)
abbrev MS.tiesE (m : MS) (a : MA) : Ent := .own a.tA a.tc 4 1 m.ties.length (encB m.ties)
abbrev MS.ents (m : MS) (a : MA) (b : Nat) : List Ent := [m.blk a b, .own a.sA a.sc 73 2 m.st.length (encP m.st), m.tiesE a, .own a.gA a.gc 229 7 m.gs.length (encG m.gs)]
def freshV (f : Fmt) (ties : List Bool) : Bool := !tieI ties ((ties.length : Int) - 1) && dueV f ((ties.length : Int) - 1) || decide (2 ≤ (ties.length : Int) - 1) && tieI ties ((ties.length : Int) - 1 - 2) && dueV f ((ties.length : Int) - 1 - 2)
def turnV (ties : List Bool) (pt : Int) : Int := bif tieI ties ((ties.length : Int) - 1) then (pt + 1) / 2 else 0
def servesV (f : Fmt) (first : Int) (ties : List Bool) (pt : Int) : Int :=
 bif !f.dbl then (first + ((ties.length : Int) - 1) + turnV ties pt) % 2 else
  (first + ((ties.length : Int) - 1) + turnV ties pt) % 2 + 2 * ((((ties.length : Int) - 1 + turnV ties pt % 2) / 2 + turnV ties pt / 2) % 2)
def tiesV (m : MS) : List Bool := m.ties ++ [brksV (setV m.f m.won) m.g]
def nextV (m : MS) : MS := bif decide (0 ≤ m.winner) then { m with server := -1 } else
 { m with ties := tiesV m, balls := bif freshV m.f (tiesV m) then m.balls + 1 else m.balls, server := servesV m.f m.first (tiesV m) 0 }
def begin0 (f : Fmt) (first : Int) : MS := ⟨f, first, [], (0, 0), (0, 0), (0, 0), 0, 0, 0, -1, [], []⟩
def beginV (f : Fmt) (first : Int) : MS := nextV (begin0 f first)
def MS.tie (m : MS) : Bool := tieI m.ties ((m.ties.length : Int) - 1)
def MS.w (m : MS) (side : Int) : Int := gameV m.f (setV m.f m.won) m.tie (addV m.p side)
def pointN (m : MS) (side : Int) : MS :=
 { m with p := addV m.p side, ends := bif m.tie && decide (((addV m.p side).1 + (addV m.p side).2) % 6 = 0) then m.ends + 1 else m.ends, server := servesV m.f m.first m.ties ((addV m.p side).1 + (addV m.p side).2) }
def gameG (m : MS) (side : Int) : Gm := ⟨m.st.length, m.tie, servesV m.f m.first m.ties 0, m.w side, addV m.p side, freshV m.f m.ties⟩
def setEnds (m : MS) (w : Int) : Bool := m.tie || decide (0 ≤ leadsV (addV m.g w) m.f.games 2)
def pointG (m : MS) (side : Int) : MS :=
 bif setEnds m (m.w side) then
  { m with gs := m.gs ++ [gameG m side], p := (0, 0), st := m.st ++ [addV m.g (m.w side)], g := (0, 0), won := addV m.won (m.w side), winner := bif decide (max (addV m.won (m.w side)).1 (addV m.won (m.w side)).2 = m.f.sets) then m.w side else m.winner }
 else { m with gs := m.gs ++ [gameG m side], p := (0, 0), g := addV m.g (m.w side) }
def pointE (m : MS) (side : Int) : MS :=
 { pointG m side with ends := bif decide (((addV m.g (m.w side)).1 + (addV m.g (m.w side)).2) % 2 = 1) && decide ((pointG m side).winner < 0) then m.ends + 1 else m.ends }
def pointV (m : MS) (side : Int) : MS := bif decide (m.w side < 0) then pointN m side else nextV (pointE m side)
structure MS.Bd (m : MS) (K : Int) : Prop where
 f : m.f.Ok
 fst : m.first = 0 ∨ m.first = 1
 k : 0 ≤ K ∧ K ≤ 1000
 t1 : 1 ≤ (m.ties.length : Int)
 t2 : (m.ties.length : Int) ≤ K + 1
 g : (0 ≤ m.g.1 ∧ m.g.1 ≤ K) ∧ 0 ≤ m.g.2 ∧ m.g.2 ≤ K
 p : (0 ≤ m.p.1 ∧ m.p.1 ≤ K) ∧ 0 ≤ m.p.2 ∧ m.p.2 ≤ K
 won : (0 ≤ m.won.1 ∧ m.won.1 ≤ K) ∧ 0 ≤ m.won.2 ∧ m.won.2 ≤ K
 e : 0 ≤ m.ends ∧ m.ends ≤ K
 b : 0 ≤ m.balls ∧ m.balls ≤ K + 1
 s : (m.st.length : Int) ≤ K
 gs : (m.gs.length : Int) ≤ K
end Go.Proofs.YthkliiifllhacaaGreat

namespace Go.Proofs.YthkliiifllhacaaGreat
open Go Go.RowKit

theorem T_number (m : MS) (a : MA) (b : Nat) (hb : 1 ≤ (m.ties.length : Int) ∧ (m.ties.length : Int) ≤ 100000) :
  Tr Tryz.prog 147 [.pointer (some ⟨b, 0, none⟩)] [m.blk a b] (fun _ : Unit => True) (fun _ => .int .i64 ((m.ties.length : Int) - 1)) (fun _ => [m.blk a b]) := by
 refine ⟨fun w0 w R hst => ?_⟩
 refine en Tryz.func147 Tryz.ntmps147 hst (h := fun F => ?_)
 refine sr ?_
 refine ww ?_
 refine nr ?_
 iterate 7 refine ww ?_
 refine nq ?_
 refine rtn ?_
 refine q_ret (hR := ?_)
 exact fun w hS => ⟨(), trivial, rfl, hS⟩

theorem T_fresh (m : MS) (a : MA) (b : Nat) (hf : m.f.Ok) (hb : 1 ≤ (m.ties.length : Int) ∧ (m.ties.length : Int) ≤ 100000) :
  Tr Tryz.prog 152 [.pointer (some ⟨b, 0, none⟩)] [m.blk a b, m.tiesE a] (fun _ : Unit => True) (fun _ => .bool (freshV m.f m.ties)) (fun _ => [m.blk a b, m.tiesE a]) := by
 refine ⟨fun w0 w R hst => ?_⟩
 have hk1 := encB_at (l := m.ties) (i := (m.ties.length : Int) - 1) (by omega)
 refine en Tryz.func152 Tryz.ntmps152 hst (h := fun F => ?_)
 refine sr ?_
 refine ww ?_
 refine nr ?_
 refine ww ?_
 refine clT (hc := T_number m a b hb) (h := fun _ _ => ?_)
 refine ww ?_
 refine nr ?_
 iterate 5 refine ww ?_
 refine wy ix ?_
 refine wy (ldE (hk := hk1)) ?_
 iterate 2 refine ww ?_
 apply brAnd 7 14 21 (by exact rfl)
 ·
  intro hb0
  iterate 5 refine uw ?_
  refine uz ?_
  refine cl0 (hc := fun w hS => C_rules_due _ _ (by assumption) (by omega) w) (h := ?_)
  refine ww ?_
  exact mg (by repeat (first | exact trivial | refine ⟨rfl, ?_⟩ | refine ⟨by rw [hb0]; rfl, ?_⟩)) slz_
 ·
  intro hb0
  repeat (first | refine uz ?_ | refine kz ?_ | refine wz ?_)
  exact mg (by repeat (first | exact trivial | refine ⟨rfl, ?_⟩ | refine ⟨by rw [hb0]; rfl, ?_⟩)) slz_
 refine ww ?_
 apply brOr 22 22 44 (by exact rfl)
 ·
  intro hb1
  iterate 3 refine uw ?_
  apply brAnd 9 25 34 (by exact rfl)
  ·
   intro hb2
   have hn2 : 2 ≤ (m.ties.length : Int) - 1 := by simpa using hb2
   have hk2 := encB_at (l := m.ties) (i := (m.ties.length : Int) - 1 - 2) (by omega)
   iterate 6 refine uw ?_
   refine uz ?_
   refine wy ix ?_
   refine uz ?_
   refine wy (ldE (hk := hk2)) ?_
   refine uw ?_
   exact mg (by repeat (first | exact trivial | refine ⟨rfl, ?_⟩ | refine ⟨by rw [hb2]; rfl, ?_⟩ | refine ⟨by rw [hb1]; rfl, ?_⟩)) slz_
  ·
   intro hb2
   repeat (first | refine uz ?_ | refine kz ?_ | refine wz ?_)
   exact mg (by repeat (first | exact trivial | refine ⟨rfl, ?_⟩ | refine ⟨by rw [hb2]; rfl, ?_⟩ | refine ⟨by rw [hb1]; rfl, ?_⟩)) slz_
  refine uw ?_
  apply brAnd 8 35 43 (by exact rfl)
  ·
   intro hb3
   have hn2 : 2 ≤ (m.ties.length : Int) - 1 := by simp only [Bool.and_eq_true, decide_eq_true_eq] at hb3; omega
   iterate 6 refine uw ?_
   refine uz ?_
   refine cl0 (hc := fun w hS => C_rules_due _ _ (by assumption) (by omega) w) (h := ?_)
   refine uw ?_
   exact mg (by repeat (first | exact trivial | refine ⟨rfl, ?_⟩ | refine ⟨by rw [hb3]; rfl, ?_⟩ | refine ⟨by rw [hb1]; rfl, ?_⟩)) slz_
  ·
   intro hb3
   repeat (first | refine uz ?_ | refine kz ?_ | refine wz ?_)
   exact mg (by repeat (first | exact trivial | refine ⟨rfl, ?_⟩ | refine ⟨by rw [hb3]; rfl, ?_⟩ | refine ⟨by rw [hb1]; rfl, ?_⟩)) slz_
  refine ww ?_
  exact mg (by repeat (first | exact trivial | refine ⟨rfl, ?_⟩ | refine ⟨by rw [hb1]; rfl, ?_⟩)) slz_
 ·
  intro hb1
  repeat (first | refine uz ?_ | refine kz ?_ | refine wz ?_)
  exact mg (by repeat (first | exact trivial | refine ⟨rfl, ?_⟩ | refine ⟨by rw [hb1]; rfl, ?_⟩)) slz_
 refine ww ?_
 refine nq ?_
 refine rtn ?_
 refine q_ret (hR := ?_)
 exact fun w hS => ⟨(), trivial, rfl, hS.sub slz_⟩

theorem T_serves (m : MS) (a : MA) (b : Nat) (pt : Int) (hf : 0 ≤ m.first ∧ m.first ≤ 1) (hp : 0 ≤ pt ∧ pt ≤ 100000) (hb : 1 ≤ (m.ties.length : Int) ∧ (m.ties.length : Int) ≤ 100000) :
  Tr Tryz.prog 151 [.pointer (some ⟨b, 0, none⟩), .int .i64 pt] [m.blk a b, m.tiesE a] (fun _ : Unit => True) (fun _ => .int .i64 (servesV m.f m.first m.ties pt)) (fun _ => [m.blk a b, m.tiesE a]) := by
 refine ⟨fun w0 w R hst => ?_⟩
 have hk1 := encB_at (l := m.ties) (i := (m.ties.length : Int) - 1) (by omega)
 refine en Tryz.func151 Tryz.ntmps151 hst (h := fun F => ?_)
 refine sr ?_
 refine ww ?_
 refine nr ?_
 refine ww ?_
 refine clT (hc := T_number m a b hb) (h := fun _ _ => ?_)
 iterate 2 refine ww ?_
 refine nq ?_
 refine sq ?_
 refine sr ?_
 iterate 5 refine ww ?_
 refine wy ix ?_
 refine wy (ldE (hk := hk1)) ?_
 refine nq ?_
 refine czz (fun h0 => ?_) fun h0 => ?_
 ·
  have ht : turnV m.ties pt = (pt + 1) / 2 := by rw [turnV, h0]; rfl
  refine rg ?_
  iterate 4 refine ww ?_
  refine nr ?_
  iterate 10 refine ww ?_
  refine nq ?_
  refine sq ?_
  refine sr ?_
  iterate 7 refine ww ?_
  refine nq ?_
  refine czz (fun h1 => ?_) fun h1 => ?_
  ·
   have hsv : servesV m.f m.first m.ties pt = (m.first + ((m.ties.length : Int) - 1) + turnV m.ties pt) % 2 := by rw [servesV, h1]; rfl
   refine sr ?_
   iterate 2 refine ww ?_
   refine nq ?_
   refine rtn ?_
   refine q_then_ret ?_
   refine q_ret (hR := ?_)
   rw [hsv, ht]
   exact fun w hS => ⟨(), trivial, rfl, hS.sub slz_⟩
  ·
   have hsv : servesV m.f m.first m.ties pt = (m.first + ((m.ties.length : Int) - 1) + turnV m.ties pt) % 2 + 2 * ((((m.ties.length : Int) - 1 + turnV m.ties pt % 2) / 2 + turnV m.ties pt / 2) % 2) := by rw [servesV, h1]; rfl
   refine skp ?_
   refine q_seq ?_
   refine sr ?_
   iterate 9 refine ww ?_
   refine nr ?_
   iterate 6 refine ww ?_
   refine nq ?_
   refine rtn ?_
   refine q_ret (hR := ?_)
   rw [hsv, ht]
   exact fun w hS => ⟨(), trivial, rfl, hS.sub slz_⟩
 ·
  have ht : turnV m.ties pt = 0 := by rw [turnV, h0]; rfl
  refine skp ?_
  refine q_seq ?_
  refine sr ?_
  iterate 10 refine ww ?_
  refine nq ?_
  refine sq ?_
  refine sr ?_
  iterate 7 refine ww ?_
  refine nq ?_
  refine czz (fun h2 => ?_) fun h2 => ?_
  ·
   have hsv : servesV m.f m.first m.ties pt = (m.first + ((m.ties.length : Int) - 1) + turnV m.ties pt) % 2 := by rw [servesV, h2]; rfl
   refine sr ?_
   iterate 2 refine ww ?_
   refine nq ?_
   refine rtn ?_
   refine q_then_ret ?_
   refine q_ret (hR := ?_)
   rw [hsv, ht]
   exact fun w hS => ⟨(), trivial, rfl, hS.sub slz_⟩
  ·
   have hsv : servesV m.f m.first m.ties pt = (m.first + ((m.ties.length : Int) - 1) + turnV m.ties pt) % 2 + 2 * ((((m.ties.length : Int) - 1 + turnV m.ties pt % 2) / 2 + turnV m.ties pt / 2) % 2) := by rw [servesV, h2]; rfl
   refine skp ?_
   refine q_seq ?_
   refine sr ?_
   iterate 9 refine ww ?_
   refine nr ?_
   iterate 6 refine ww ?_
   refine nq ?_
   refine rtn ?_
   refine q_ret (hR := ?_)
   rw [hsv, ht]
   exact fun w hS => ⟨(), trivial, rfl, hS.sub slz_⟩
end Go.Proofs.YthkliiifllhacaaGreat

namespace Go.Proofs.YthkliiifllhacaaGreat
open Go Go.RowKit

set_option maxRecDepth 100000 in
theorem T_next (m : MS) (a : MA) (b : Nat) (hf : m.f.Ok) (hfs : 0 ≤ m.first ∧ m.first ≤ 1) (ht : (m.ties.length : Int) ≤ 90000) (hbal : 0 ≤ m.balls ∧ m.balls ≤ 100000) :
  Tr Tryz.prog 145 [.pointer (some ⟨b, 0, none⟩)] (m.ents a b) (fun _ : MA => True) (fun _ => .tuple #[]) (fun a' => (nextV m).ents a' b) := by
 refine ⟨fun w0 w R hst => ?_⟩
 have hb1 : 1 ≤ ((tiesV m).length : Int) ∧ ((tiesV m).length : Int) ≤ 100000 := by
  have : (tiesV m).length = m.ties.length + 1 := by simp [tiesV]
  omega
 have hl : (tiesV m).length = m.ties.length + 1 := by simp [tiesV]
 have he : encB (tiesV m) = encB m.ties ++ [[.bool (brksV (setV m.f m.won) m.g)]] := (encB_app ..).symm
 refine en Tryz.func145 Tryz.ntmps145 hst (h := fun F => ?_)
 refine sq ?_
 refine sr ?_
 iterate 6 refine ww ?_
 refine nq ?_
 refine czz (fun h0 => ?_) fun h0 => ?_
 ·
  have hnx : nextV m = { m with server := -1 } := by rw [nextV, h0]; rfl
  refine sr ?_
  iterate 4 refine ww ?_
  first | refine st (h := ?_) | refine stE (h := ?_)
  refine nq ?_
  refine rtn ?_
  refine q_then_ret ?_
  refine q_ret (hR := ?_)
  rw [hnx]
  exact fun w hS => ⟨a, trivial, rfl, hS.sub slz_⟩
 ·
  have hw0 : decide (0 ≤ m.winner) = false := h0
  refine skp ?_
  refine q_seq ?_
  refine ct (X := Option Addr × Nat) (fun _ => True) (fun _ => [(0, .pointer (some ⟨b, 0, none⟩))]) (fun x => ({ m with ties := tiesV m } : MS).ents ⟨a.sA, x.1, a.gA, a.sc, x.2, a.gc⟩ b ++ R) (h1 := ?_) (h2 := ?_)
  ·
   refine rgD (by kernel_rfl) [(25, m.blk a b)] (by repeat (first | exact HS.nil | (apply HS.keep; (repeat (first | exact At.here | apply At.there))) | (apply HS.ro; (repeat (first | exact Rds.ro | exact Rds.own | apply Rds.there))))) (h := ?_)
   refine tw 0 ?_
   refine tw 1 ?_
   refine tw 2 ?_
   refine tw 3 ?_
   refine tw 4 ?_
   refine tw 5 ?_
   refine tw 6 ?_
   refine tw 7 ?_
   refine tw 8 ?_
   refine tw 9 ?_
   refine tw 10 ?_
   refine tw 11 ?_
   refine tw 12 ?_
   refine tw 14 ?_
   refine tw 15 ?_
   refine tw 16 ?_
   refine tw 17 ?_
   refine tw 18 ?_
   refine tw 19 ?_
   refine one 13 (h := ?_)
   refine cl0 (hc := fun w hS => C_rules_set _ _ (by assumption) w) (h := ?_)
   refine nx (h := ?_)
   refine one 20 (h := ?_)
   refine cl0 (hc := fun w hS => C_set_breaks _ _ w) (h := ?_)
   refine nx (h := ?_)
   refine one 21 (h := ?_)
   refine bs (h := fun b0 => ?_)
   refine nx (h := ?_)
   refine one 22 (h := ?_)
   first | refine ap (h := fun A1 c1 => ?_) | refine ap0 (h := fun A1 c1 => ?_)
   refine nx (h := ?_)
   refine tw 23 ?_
   refine tw 24 ?_
   refine one 25 (h := ?_)
   first | refine st (h := ?_) | refine stE (h := ?_)
   refine nx (h := ?_)
   refine dn (h := ?_)
   exact ctn ⟨_, _⟩ trivial sbz_ (by dsimp only [MS.ents, MS.blk, MS.cells, MS.tiesE]; rw [hl, he]; repeat (first | exact SubL.nil | (apply SubL.cons; (repeat (first | exact At.here | apply At.there))) | exact SubL.refl _ | apply SubL.skip))
  rintro ⟨A1, c1⟩ -
  dsimp only [MS.ents, MS.blk, MS.cells, MS.tiesE]
  refine sq ?_
  refine sr ?_
  refine ww ?_
  refine clT (hc := T_fresh { m with ties := tiesV m } ⟨a.sA, A1, a.gA, a.sc, c1, a.gc⟩ b hf hb1) (h := fun _ _ => ?_)
  dsimp only [MS.blk, MS.cells, MS.tiesE]
  refine nq ?_
  refine czz (fun h1 => ?_) fun h1 => ?_
  ·
   have hnx : nextV m = { m with ties := tiesV m, balls := m.balls + 1, server := servesV m.f m.first (tiesV m) 0 } := by rw [nextV, hw0, h1]; rfl
   refine rg ?_
   iterate 9 refine ww ?_
   first | refine st (h := ?_) | refine stE (h := ?_)
   refine nq ?_
   refine rg ?_
   iterate 2 refine ww ?_
   first
    | refine clT (hc := T_serves { m with ties := tiesV m, balls := m.balls + 1 } ⟨a.sA, A1, a.gA, a.sc, c1, a.gc⟩ b 0 hfs (by omega) hb1) (h := fun _ _ => ?_)
    | refine clT (hc := T_serves { m with ties := tiesV m } ⟨a.sA, A1, a.gA, a.sc, c1, a.gc⟩ b 0 hfs (by omega) hb1) (h := fun _ _ => ?_)
   iterate 3 refine ww ?_
   first | refine st (h := ?_) | refine stE (h := ?_)
   refine nl ?_
   refine q_end (hR := ?_)
   rw [hnx]
   exact fun w hS => ⟨⟨a.sA, A1, a.gA, a.sc, c1, a.gc⟩, trivial, rfl, hS.sub slz_⟩
  ·
   have hnx : nextV m = { m with ties := tiesV m, server := servesV m.f m.first (tiesV m) 0 } := by rw [nextV, hw0, h1]; rfl
   refine skp ?_
   refine q_seq ?_
   refine rg ?_
   iterate 2 refine ww ?_
   first
    | refine clT (hc := T_serves { m with ties := tiesV m, balls := m.balls + 1 } ⟨a.sA, A1, a.gA, a.sc, c1, a.gc⟩ b 0 hfs (by omega) hb1) (h := fun _ _ => ?_)
    | refine clT (hc := T_serves { m with ties := tiesV m } ⟨a.sA, A1, a.gA, a.sc, c1, a.gc⟩ b 0 hfs (by omega) hb1) (h := fun _ _ => ?_)
   iterate 3 refine ww ?_
   first | refine st (h := ?_) | refine stE (h := ?_)
   refine nl ?_
   refine q_end (hR := ?_)
   rw [hnx]
   exact fun w hS => ⟨⟨a.sA, A1, a.gA, a.sc, c1, a.gc⟩, trivial, rfl, hS.sub slz_⟩

set_option maxRecDepth 100000 in
theorem C_score_begin (f : Fmt) (first : Int) (hf : f.Ok) (hfs : 0 ≤ first ∧ first ≤ 1) (w : World) :
  CR Tryz.prog 99 [f.val, .int .i64 first] w (fun _ : Nat × MA => True) (fun x => .pointer (some ⟨x.1, 0, none⟩)) (fun x => (beginV f first).ents x.2 x.1) := by
 refine ⟨en Tryz.func99 Tryz.ntmps99 (St.init w) (h := fun F => ?_)⟩
 refine sr ?_
 refine bxA (h := fun b0 => ?_)
 refine ww ?_
 refine nr ?_
 iterate 3 refine ww ?_
 refine bxA (h := fun b1 => ?_)
 refine ww ?_
 refine nr ?_
 iterate 4 refine ww ?_
 first | refine st (h := ?_) | refine stE (h := ?_)
 refine nr ?_
 refine ww ?_
 refine WL.nilOwn 73 2 (h := ?_)
 refine WL.nilOwn 4 1 (h := ?_)
 refine WL.nilOwn 229 7 (h := ?_)
 refine clT (hc := T_next (begin0 f first) ⟨none, none, none, 0, 0, 0⟩ b1 hf hfs (by simp [begin0]) (by simp [begin0])) (h := fun x _ => ?_)
 refine nr ?_
 iterate 2 refine ww ?_
 refine nq ?_
 refine rtn ?_
 refine q_ret (hR := ?_)
 exact fun w hS => ⟨(b1, x), trivial, rfl, hS.sub slz_⟩
end Go.Proofs.YthkliiifllhacaaGreat

namespace Go.Proofs.YthkliiifllhacaaGreat
open Go Go.RowKit

theorem addV_bd {p : Pr} {K side : Int} (h : (0 ≤ p.1 ∧ p.1 ≤ K) ∧ 0 ≤ p.2 ∧ p.2 ≤ K) : (0 ≤ (addV p side).1 ∧ (addV p side).1 ≤ K + 1) ∧ 0 ≤ (addV p side).2 ∧ (addV p side).2 ≤ K + 1 := by
 unfold addV
 cases decide (side = 0) <;> simp only [cond_true, cond_false] <;> omega
theorem sm_of {p : Pr} {K : Int} (h : (0 ≤ p.1 ∧ p.1 ≤ K) ∧ 0 ≤ p.2 ∧ p.2 ≤ K) (hK : K ≤ 100000) : Sm p := ⟨by omega, by omega⟩

set_option maxRecDepth 100000 in
set_option maxHeartbeats 2000000 in
theorem T_point (m : MS) (a : MA) (b : Nat) (side K : Int) (hB : m.Bd K) :
  Tr Tryz.prog 100 [.pointer (some ⟨b, 0, none⟩), .int .i64 side] (m.ents a b) (fun _ : MA => True) (fun _ => .tuple #[]) (fun a' => (pointV m side).ents a' b) := by
 refine ⟨fun w0 w R hst => ?_⟩
 have hf := hB.f
 have hfs : 0 ≤ m.first ∧ m.first ≤ 1 := by have := hB.fst; omega
 have hK := hB.k
 have hb1 : 1 ≤ (m.ties.length : Int) ∧ (m.ties.length : Int) ≤ 100000 := ⟨hB.t1, by have := hB.t2; omega⟩
 have hb2 : (m.ties.length : Int) ≤ 90000 := by have := hB.t2; omega
 have hbb : 0 ≤ m.balls ∧ m.balls ≤ 100000 := by have := hB.b; omega
 have hbe := hB.e
 have hbs := hB.s
 have hbg := hB.gs
 have hSw := sm_of hB.won (by omega)
 have hSp := sm_of hB.p (by omega)
 have hSg := sm_of hB.g (by omega)
 have hp0 := addV_bd (side := side) hB.p
 have hg0 := addV_bd (side := m.w side) hB.g
 have hw0 := addV_bd (side := m.w side) hB.won
 have hSp' := sm_of hp0 (by omega)
 have hSg' := sm_of hg0 (by omega)
 have hk1 := encB_at (l := m.ties) (i := (m.ties.length : Int) - 1) (by omega)
 have hgl : (m.gs ++ [gameG m side]).length = m.gs.length + 1 := by simp
 have hge : encG (m.gs ++ [gameG m side]) = encG m.gs ++ [(gameG m side).enc] := (encG_app ..).symm
 have hsl : (m.st ++ [addV m.g (m.w side)]).length = m.st.length + 1 := by simp
 have hse' : encP (m.st ++ [addV m.g (m.w side)]) = encP m.st ++ [[.int .i64 (addV m.g (m.w side)).1, .int .i64 (addV m.g (m.w side)).2]] := (encP_app ..).symm
 refine en Tryz.func100 Tryz.ntmps100 hst (h := fun F => ?_)
 refine ct (X := Nat) (fun _ => True) (fun x => [(0, .pointer (some ⟨b, 0, none⟩)), (1, .int .i64 side), (4, .pointer (some ⟨x, 0, none⟩)), (5, .int .i64 ((m.ties.length : Int) - 1))]) (fun x => .blk x 232 [.int .i64 (setV m.f m.won).1, .int .i64 (setV m.f m.won).2] :: (m.ents a b ++ R)) (h1 := ?_) (h2 := ?_)
 ·
  refine rgD (by kernel_rfl) [(1000000, m.blk a b)] (by repeat (first | exact HS.nil | (apply HS.keep; (repeat (first | exact At.here | apply At.there))) | (apply HS.ro; (repeat (first | exact Rds.ro | exact Rds.own | apply Rds.there))))) (h := ?_)
  dsimp only [MS.ents, MS.blk, MS.cells, MS.tiesE]
  refine tw 0 ?_
  refine tw 1 ?_
  refine tw 2 ?_
  refine tw 3 ?_
  refine tw 4 ?_
  refine tw 5 ?_
  refine tw 6 ?_
  refine tw 7 ?_
  refine tw 9 ?_
  refine two 8 11 (h1 := ?_) (h2 := ?_)
  ·
   refine cl0 (hc := fun w hS => C_rules_set _ _ (by assumption) w) (h := ?_)
   refine nx (h := ?_)
   refine two 10 11 (h1 := ?_) (h2 := ?_)
   ·
    refine clT (hc := T_number m a b hb1) (h := fun _ _ => ?_)
    dsimp only [MS.ents, MS.blk, MS.cells, MS.tiesE]
    refine nx (h := ?_)
    refine one 11 (h := ?_)
    refine al (h := fun b0 => ?_)
    refine nx (h := ?_)
    refine one 12 (h := ?_)
    first | refine stA (h := ?_) | refine stEA (h := ?_)
    refine nx (h := ?_)
    refine tw 13 ?_
    refine dn (h := ?_)
    exact ctn _ trivial sbz_ slz_
   ·
    refine al (h := fun b1 => ?_)
    refine nx (h := ?_)
    refine one 10 (h := ?_)
    refine clT (hc := T_number m a b hb1) (h := fun _ _ => ?_)
    dsimp only [MS.ents, MS.blk, MS.cells, MS.tiesE]
    refine nx (h := ?_)
    refine one 12 (h := ?_)
    first | refine stA (h := ?_) | refine stEA (h := ?_)
    refine nx (h := ?_)
    refine tw 13 ?_
    refine dn (h := ?_)
    exact ctn _ trivial sbz_ slz_
  ·
   refine al (h := fun b2 => ?_)
   refine nx (h := ?_)
   refine one 8 (h := ?_)
   refine cl0 (hc := fun w hS => C_rules_set _ _ (by assumption) w) (h := ?_)
   refine nx (h := ?_)
   refine one 10 (h := ?_)
   refine clT (hc := T_number m a b hb1) (h := fun _ _ => ?_)
   dsimp only [MS.ents, MS.blk, MS.cells, MS.tiesE]
   refine nx (h := ?_)
   refine one 12 (h := ?_)
   first | refine stA (h := ?_) | refine stEA (h := ?_)
   refine nx (h := ?_)
   refine tw 13 ?_
   refine dn (h := ?_)
   exact ctn _ trivial sbz_ slz_
 rintro sB -
 dsimp only [MS.ents, MS.blk, MS.cells, MS.tiesE]
 refine sr ?_
 iterate 5 refine ww ?_
 refine wy ix ?_
 refine wy (ldE (hk := hk1)) ?_
 refine ww ?_
 refine nr ?_
 iterate 8 refine ww ?_
 refine cl0 (hc := fun w hS => C_score_add _ _ (by assumption) w) (h := ?_)
 iterate 4 refine ww ?_
 first | refine stA (h := ?_) | refine stEA (h := ?_)
 refine nr ?_
 iterate 6 refine ww ?_
 refine cl0 (hc := fun w hS => C_score_sum _ (by assumption) w) (h := ?_)
 refine ww ?_
 refine nq ?_
 refine sq ?_
 refine rgD (by kernel_rfl) [(1000000, ({ m with p := addV m.p side } : MS).blk a b), (1000000, .blk sB 232 [.int .i64 (setV m.f m.won).1, .int .i64 (setV m.f m.won).2])] (by repeat (first | exact HS.nil | (apply HS.keep; (repeat (first | exact At.here | apply At.there))) | (apply HS.ro; (repeat (first | exact Rds.ro | exact Rds.own | apply Rds.there))))) (h := ?_)
 dsimp only [MS.ents, MS.blk, MS.cells, MS.tiesE]
 refine tw 0 ?_
 refine tw 1 ?_
 refine tw 2 ?_
 refine tw 3 ?_
 refine tw 4 ?_
 refine tw 5 ?_
 refine tw 6 ?_
 refine tw 7 ?_
 refine tw 8 ?_
 refine tw 9 ?_
 refine tw 10 ?_
 refine tw 11 ?_
 refine one 12 (h := ?_)
 refine cl0 (hc := fun w hS => C_rules_game _ _ _ _ (by assumption) w) (h := ?_)
 refine nx (h := ?_)
 refine tw 13 ?_
 refine dn (h := ?_)
 refine q_seq ?_
 refine sq ?_
 refine sr ?_
 iterate 2 refine ww ?_
 refine nq ?_
 refine czz (fun h0 => ?_) fun h0 => ?_
 ·
  have hw : decide (m.w side < 0) = true := h0
  refine sq ?_
  refine sr ?_
  iterate 2 refine ww ?_
  apply brAnd 4 64 68 (by exact rfl)
  ·
   intro hb1
   iterate 3 refine uw ?_
   refine ww ?_
   exact mg (by repeat (first | exact trivial | refine ⟨rfl, ?_⟩ | refine ⟨by rw [hb1]; rfl, ?_⟩)) slz_
  ·
   intro hb1
   repeat (first | refine uz ?_ | refine kz ?_ | refine wz ?_)
   exact mg (by repeat (first | exact trivial | refine ⟨rfl, ?_⟩ | refine ⟨by rw [hb1]; rfl, ?_⟩)) slz_
  refine nq ?_
  refine czz (fun h2 => ?_) fun h2 => ?_
  ·
   have hpt : pointV m side = { m with p := addV m.p side, ends := m.ends + 1, server := servesV m.f m.first m.ties ((addV m.p side).1 + (addV m.p side).2) } := by
    have h' : (m.tie && decide (((addV m.p side).1 + (addV m.p side).2) % 6 = 0)) = true := h2
    rw [pointV, hw, cond_true, pointN, h']; rfl
   refine rg ?_
   iterate 9 refine ww ?_
   first | refine st (h := ?_) | refine stE (h := ?_)
   refine nr ?_
   iterate 3 refine ww ?_
   first
    | refine clT (hc := T_serves { m with p := addV m.p side, ends := m.ends + 1 } a b ((addV m.p side).1 + (addV m.p side).2) hfs (by omega) hb1) (h := fun _ _ => ?_)
    | refine clT (hc := T_serves { m with p := addV m.p side } a b ((addV m.p side).1 + (addV m.p side).2) hfs (by omega) hb1) (h := fun _ _ => ?_)
   dsimp only [MS.ents, MS.blk, MS.cells, MS.tiesE]
   iterate 3 refine ww ?_
   first | refine st (h := ?_) | refine stE (h := ?_)
   refine nq ?_
   refine rtn ?_
   refine q_then_ret ?_
   refine q_ret (hR := ?_)
   first
    | (rw [hpt]; exact fun w hS => ⟨a, trivial, rfl, hS.sub slz_⟩)
    | (rw [pointV, hw, cond_false, hE, hG]; exact fun w hS => ⟨a', trivial, rfl, hS.sub slz_⟩)
  ·
   have hpt : pointV m side = { m with p := addV m.p side, server := servesV m.f m.first m.ties ((addV m.p side).1 + (addV m.p side).2) } := by
    have h' : (m.tie && decide (((addV m.p side).1 + (addV m.p side).2) % 6 = 0)) = false := h2
    rw [pointV, hw, cond_true, pointN, h']; rfl
   refine skp ?_
   refine q_seq ?_
   refine sr ?_
   iterate 3 refine ww ?_
   first
    | refine clT (hc := T_serves { m with p := addV m.p side, ends := m.ends + 1 } a b ((addV m.p side).1 + (addV m.p side).2) hfs (by omega) hb1) (h := fun _ _ => ?_)
    | refine clT (hc := T_serves { m with p := addV m.p side } a b ((addV m.p side).1 + (addV m.p side).2) hfs (by omega) hb1) (h := fun _ _ => ?_)
   dsimp only [MS.ents, MS.blk, MS.cells, MS.tiesE]
   iterate 3 refine ww ?_
   first | refine st (h := ?_) | refine stE (h := ?_)
   refine nq ?_
   refine rtn ?_
   refine q_then_ret ?_
   refine q_ret (hR := ?_)
   first
    | (rw [hpt]; exact fun w hS => ⟨a, trivial, rfl, hS.sub slz_⟩)
    | (rw [pointV, hw, cond_false, hE, hG]; exact fun w hS => ⟨a', trivial, rfl, hS.sub slz_⟩)
 ·
  have hw : decide (m.w side < 0) = false := h0
  refine skp ?_
  refine q_seq ?_
  refine ct (X := Option Addr × Nat) (fun _ => True) (fun _ => [(0, .pointer (some ⟨b, 0, none⟩)), (6, .bool m.tie), (8, .int .i64 (m.w side))]) (fun x => ({ m with p := addV m.p side, gs := m.gs ++ [gameG m side] } : MS).ents ⟨a.sA, a.tA, x.1, a.sc, a.tc, x.2⟩ b ++ R) (h1 := ?_) (h2 := ?_)
  ·
   refine rgD (by kernel_rfl) [(29, ({ m with p := addV m.p side } : MS).blk a b)] (by repeat (first | exact HS.nil | (apply HS.keep; (repeat (first | exact At.here | apply At.there))) | (apply HS.ro; (repeat (first | exact Rds.ro | exact Rds.own | apply Rds.there))))) (h := ?_)
   dsimp only [MS.ents, MS.blk, MS.cells, MS.tiesE]
   refine tw 0 ?_
   refine tw 1 ?_
   refine tw 2 ?_
   refine tw 3 ?_
   refine tw 4 ?_
   refine tw 5 ?_
   refine tw 6 ?_
   refine tw 7 ?_
   refine tw 8 ?_
   refine tw 9 ?_
   refine tw 10 ?_
   refine tw 11 ?_
   refine tw 12 ?_
   refine tw 13 ?_
   refine tw 15 ?_
   refine tw 16 ?_
   refine tw 17 ?_
   refine tw 18 ?_
   refine tw 19 ?_
   refine tw 20 ?_
   refine tw 21 ?_
   refine tw 22 ?_
   refine one 14 (h := ?_)
   refine clT (hc := T_serves { m with p := addV m.p side } a b 0 hfs (by omega) hb1) (h := fun _ _ => ?_)
   dsimp only [MS.ents, MS.blk, MS.cells, MS.tiesE]
   refine nx (h := ?_)
   refine one 23 (h := ?_)
   refine clT (hc := T_fresh { m with p := addV m.p side } a b hf hb1) (h := fun _ _ => ?_)
   dsimp only [MS.ents, MS.blk, MS.cells, MS.tiesE]
   refine nx (h := ?_)
   refine tw 24 ?_
   refine one 25 (h := ?_)
   refine bs (h := fun b3 => ?_)
   refine nx (h := ?_)
   refine one 26 (h := ?_)
   first | refine ap (h := fun A1 c1 => ?_) | refine ap0 (h := fun A1 c1 => ?_)
   refine nx (h := ?_)
   refine tw 27 ?_
   refine tw 28 ?_
   refine one 29 (h := ?_)
   first | refine st (h := ?_) | refine stE (h := ?_)
   refine nx (h := ?_)
   refine dn (h := ?_)
   exact ctn ⟨_, _⟩ trivial sbz_ (by dsimp only [MS.ents, MS.blk, MS.cells, MS.tiesE]; rw [hgl, hge]; repeat (first | exact SubL.nil | (apply SubL.cons; (repeat (first | exact At.here | apply At.there))) | exact SubL.refl _ | apply SubL.skip))
  rintro ⟨gA1, gc1⟩ -
  dsimp only [MS.ents, MS.blk, MS.cells, MS.tiesE]
  refine sr ?_
  iterate 6 refine ww ?_
  first | refine stA (h := ?_) | refine stEA (h := ?_)
  refine nr ?_
  iterate 7 refine ww ?_
  refine cl0 (hc := fun w hS => C_score_add _ _ (by assumption) w) (h := ?_)
  refine al (h := fun b4 => ?_)
  first | refine stA (h := ?_) | refine stEA (h := ?_)
  refine nr ?_
  iterate 6 refine ww ?_
  first | refine stA (h := ?_) | refine stEA (h := ?_)
  refine nq ?_
  refine sq ?_
  refine ct1 145 (v := .bool (setEnds m (m.w side))) (h1 := ?_) (h2 := ?_)
  ·
   refine rgD (by kernel_rfl) [(1000000, ({ m with p := (0, 0), g := addV m.g (m.w side), gs := m.gs ++ [gameG m side] } : MS).blk ⟨a.sA, a.tA, gA1, a.sc, a.tc, gc1⟩ b), (1000000, .blk b4 73 [.int .i64 (addV m.g (m.w side)).1, .int .i64 (addV m.g (m.w side)).2])] (by repeat (first | exact HS.nil | (apply HS.keep; (repeat (first | exact At.here | apply At.there))) | (apply HS.ro; (repeat (first | exact Rds.ro | exact Rds.own | apply Rds.there))))) (h := ?_)
   dsimp only [MS.ents, MS.blk, MS.cells, MS.tiesE]
   refine tw 0 ?_
   refine tw 1 ?_
   refine brH (g := 135) (by exact rfl) (fun hb3 => ?_) (fun hb3 => ?_)
   ·
    refine tkS 2 (h := ?_)
    refine tkS 3 (h := ?_)
    refine tkS 4 (h := ?_)
    refine tkS 5 (h := ?_)
    refine tkS 6 (h := ?_)
    refine tkS 7 (h := ?_)
    refine tkS 8 (h := ?_)
    refine tkS 9 (h := ?_)
    refine tkS 10 (h := ?_)
    refine tw 11 ?_
    refine dn (h := ?_)
    exact ct1n (by repeat (first | exact trivial | refine ⟨rfl, ?_⟩ | refine ⟨by rw [setEnds, ‹m.tie = true›]; rfl, ?_⟩ | refine ⟨by rw [setEnds, ‹m.tie = false›]; rfl, ?_⟩)) slz_
   ·
    refine tw 2 ?_
    refine tw 3 ?_
    refine tw 4 ?_
    refine tw 5 ?_
    refine tw 6 ?_
    refine tw 7 ?_
    refine tw 8 ?_
    refine one 9 (h := ?_)
    refine uz ?_
    refine cl0 (hc := fun w hS => C_score_leads _ _ _ (by assumption) w) (h := ?_)
    refine nx (h := ?_)
    refine tw 10 ?_
    refine tw 11 ?_
    refine dn (h := ?_)
    exact ct1n (by repeat (first | exact trivial | refine ⟨rfl, ?_⟩ | refine ⟨by rw [setEnds, ‹m.tie = true›]; rfl, ?_⟩ | refine ⟨by rw [setEnds, ‹m.tie = false›]; rfl, ?_⟩)) slz_
  refine czz (fun h4 => ?_) fun h4 => ?_
  ·
   have hse : setEnds m (m.w side) = true := h4
   refine ct (X := Option Addr × Nat) (fun _ => True) (fun _ => [(0, .pointer (some ⟨b, 0, none⟩)), (8, .int .i64 (m.w side)), (9, .pointer (some ⟨b4, 0, none⟩))]) (fun x => .blk b4 73 [.int .i64 (addV m.g (m.w side)).1, .int .i64 (addV m.g (m.w side)).2] :: (({ m with p := (0, 0), g := addV m.g (m.w side), gs := m.gs ++ [gameG m side], st := m.st ++ [addV m.g (m.w side)] } : MS).ents ⟨x.1, a.tA, gA1, x.2, a.tc, gc1⟩ b ++ R)) (h1 := ?_) (h2 := ?_)
   ·
    refine rgD (by kernel_rfl) [(14, ({ m with p := (0, 0), g := addV m.g (m.w side), gs := m.gs ++ [gameG m side] } : MS).blk ⟨a.sA, a.tA, gA1, a.sc, a.tc, gc1⟩ b), (1000000, .blk b4 73 [.int .i64 (addV m.g (m.w side)).1, .int .i64 (addV m.g (m.w side)).2])] (by repeat (first | exact HS.nil | (apply HS.keep; (repeat (first | exact At.here | apply At.there))) | (apply HS.ro; (repeat (first | exact Rds.ro | exact Rds.own | apply Rds.there))))) (h := ?_)
    dsimp only [MS.ents, MS.blk, MS.cells, MS.tiesE]
    refine tw 0 ?_
    refine tw 1 ?_
    refine tw 2 ?_
    refine tw 3 ?_
    refine tw 4 ?_
    refine tw 5 ?_
    refine tw 6 ?_
    refine tw 7 ?_
    refine one 8 (h := ?_)
    refine bs (h := fun b5 => ?_)
    refine nx (h := ?_)
    refine one 9 (h := ?_)
    first | refine ap (h := fun A2 c2 => ?_) | refine ap0 (h := fun A2 c2 => ?_)
    refine nx (h := ?_)
    refine tw 10 ?_
    refine tw 11 ?_
    refine tw 12 ?_
    refine tw 13 ?_
    refine one 14 (h := ?_)
    first | refine st (h := ?_) | refine stE (h := ?_)
    refine nx (h := ?_)
    refine dn (h := ?_)
    exact ctn ⟨_, _⟩ trivial sbz_ (by dsimp only [MS.ents, MS.blk, MS.cells, MS.tiesE]; rw [hsl, hse']; repeat (first | exact SubL.nil | (apply SubL.cons; (repeat (first | exact At.here | apply At.there))) | exact SubL.refl _ | apply SubL.skip))
   rintro ⟨sA1, sc1⟩ -
   dsimp only [MS.ents, MS.blk, MS.cells, MS.tiesE]
   refine sr ?_
   iterate 6 refine ww ?_
   first | refine stA (h := ?_) | refine stEA (h := ?_)
   refine nr ?_
   iterate 6 refine ww ?_
   refine cl0 (hc := fun w hS => C_score_add _ _ (by assumption) w) (h := ?_)
   iterate 2 refine ww ?_
   first | refine stA (h := ?_) | refine stEA (h := ?_)
   refine nq ?_
   refine sq ?_
   refine rgD (by kernel_rfl) [(1000000, ({ m with p := (0, 0), g := (0, 0), gs := m.gs ++ [gameG m side], st := m.st ++ [addV m.g (m.w side)], won := addV m.won (m.w side) } : MS).blk ⟨sA1, a.tA, gA1, sc1, a.tc, gc1⟩ b)] (by repeat (first | exact HS.nil | (apply HS.keep; (repeat (first | exact At.here | apply At.there))) | (apply HS.ro; (repeat (first | exact Rds.ro | exact Rds.own | apply Rds.there))))) (h := ?_)
   dsimp only [MS.ents, MS.blk, MS.cells, MS.tiesE]
   refine tw 0 ?_
   refine tw 1 ?_
   refine tw 2 ?_
   refine tw 3 ?_
   refine tw 4 ?_
   refine tw 5 ?_
   refine tw 6 ?_
   refine tw 7 ?_
   refine tw 8 ?_
   refine tw 9 ?_
   refine tw 10 ?_
   refine tw 11 ?_
   refine tw 12 ?_
   refine tw 13 ?_
   refine tw 14 ?_
   refine tw 15 ?_
   refine tw 16 ?_
   refine tw 17 ?_
   refine dn (h := ?_)
   refine q_seq ?_
   refine czz (fun h5 => ?_) fun h5 => ?_
   ·
    have hG : pointG m side = { m with gs := m.gs ++ [gameG m side], p := (0, 0), st := m.st ++ [addV m.g (m.w side)], g := (0, 0), won := addV m.won (m.w side), winner := m.w side } := by rw [pointG, hse, h5]; rfl
    refine rg ?_
    iterate 5 refine ww ?_
    first | refine st (h := ?_) | refine stE (h := ?_)
    refine nq ?_
    refine sq ?_
    refine sr ?_
    refine ww ?_
    refine cl0 (hc := fun w hS => C_score_sum _ (by assumption) w) (h := ?_)
    iterate 3 refine ww ?_
    apply brAnd 7 202 209 (by exact rfl)
    ·
     intro hb6
     iterate 6 refine uw ?_
     refine ww ?_
     exact mg (by repeat (first | exact trivial | refine ⟨rfl, ?_⟩ | refine ⟨by rw [hb6]; rfl, ?_⟩)) slz_
    ·
     intro hb6
     repeat (first | refine uz ?_ | refine kz ?_ | refine wz ?_)
     exact mg (by repeat (first | exact trivial | refine ⟨rfl, ?_⟩ | refine ⟨by rw [hb6]; rfl, ?_⟩)) slz_
    refine nq ?_
    refine czz (fun h7 => ?_) fun h7 => ?_
    ·
     have hE : pointE m side = { pointG m side with ends := m.ends + 1 } := by rw [pointE, hG]; dsimp only; rw [h7]; rfl
     refine rg ?_
     iterate 9 refine ww ?_
     first | refine st (h := ?_) | refine stE (h := ?_)
     refine nq ?_
     refine rg ?_
     refine ww ?_
     first
      | refine clT (hc := T_next ⟨m.f, m.first, m.st ++ [addV m.g (m.w side)], (0, 0), (0, 0), addV m.won (m.w side), m.server, _, m.balls, _, m.ties, m.gs ++ [gameG m side]⟩ ⟨sA1, a.tA, gA1, sc1, a.tc, gc1⟩ b hf hfs hb2 hbb) (h := fun a' _ => ?_)
      | refine clT (hc := T_next ⟨m.f, m.first, m.st, addV m.g (m.w side), (0, 0), m.won, m.server, _, m.balls, _, m.ties, m.gs ++ [gameG m side]⟩ ⟨a.sA, a.tA, gA1, a.sc, a.tc, gc1⟩ b hf hfs hb2 hbb) (h := fun a' _ => ?_)
     refine nl ?_
     refine q_end (hR := ?_)
     first
      | (rw [hpt]; exact fun w hS => ⟨a, trivial, rfl, hS.sub slz_⟩)
      | (rw [pointV, hw, cond_false, hE, hG]; exact fun w hS => ⟨a', trivial, rfl, hS.sub slz_⟩)
    ·
     have hE : pointE m side = pointG m side := by rw [pointE, hG]; dsimp only; rw [h7]; rfl
     refine skp ?_
     refine q_seq ?_
     refine rg ?_
     refine ww ?_
     first
      | refine clT (hc := T_next ⟨m.f, m.first, m.st ++ [addV m.g (m.w side)], (0, 0), (0, 0), addV m.won (m.w side), m.server, _, m.balls, _, m.ties, m.gs ++ [gameG m side]⟩ ⟨sA1, a.tA, gA1, sc1, a.tc, gc1⟩ b hf hfs hb2 hbb) (h := fun a' _ => ?_)
      | refine clT (hc := T_next ⟨m.f, m.first, m.st, addV m.g (m.w side), (0, 0), m.won, m.server, _, m.balls, _, m.ties, m.gs ++ [gameG m side]⟩ ⟨a.sA, a.tA, gA1, a.sc, a.tc, gc1⟩ b hf hfs hb2 hbb) (h := fun a' _ => ?_)
     refine nl ?_
     refine q_end (hR := ?_)
     first
      | (rw [hpt]; exact fun w hS => ⟨a, trivial, rfl, hS.sub slz_⟩)
      | (rw [pointV, hw, cond_false, hE, hG]; exact fun w hS => ⟨a', trivial, rfl, hS.sub slz_⟩)
   ·
    have hG : pointG m side = { m with gs := m.gs ++ [gameG m side], p := (0, 0), st := m.st ++ [addV m.g (m.w side)], g := (0, 0), won := addV m.won (m.w side) } := by rw [pointG, hse, h5]; rfl
    refine skp ?_
    refine q_seq ?_
    refine sq ?_
    refine sr ?_
    refine ww ?_
    refine cl0 (hc := fun w hS => C_score_sum _ (by assumption) w) (h := ?_)
    iterate 3 refine ww ?_
    apply brAnd 7 202 209 (by exact rfl)
    ·
     intro hb8
     iterate 6 refine uw ?_
     refine ww ?_
     exact mg (by repeat (first | exact trivial | refine ⟨rfl, ?_⟩ | refine ⟨by rw [hb8]; rfl, ?_⟩)) slz_
    ·
     intro hb8
     repeat (first | refine uz ?_ | refine kz ?_ | refine wz ?_)
     exact mg (by repeat (first | exact trivial | refine ⟨rfl, ?_⟩ | refine ⟨by rw [hb8]; rfl, ?_⟩)) slz_
    refine nq ?_
    refine czz (fun h9 => ?_) fun h9 => ?_
    ·
     have hE : pointE m side = { pointG m side with ends := m.ends + 1 } := by rw [pointE, hG]; dsimp only; rw [h9]; rfl
     refine rg ?_
     iterate 9 refine ww ?_
     first | refine st (h := ?_) | refine stE (h := ?_)
     refine nq ?_
     refine rg ?_
     refine ww ?_
     first
      | refine clT (hc := T_next ⟨m.f, m.first, m.st ++ [addV m.g (m.w side)], (0, 0), (0, 0), addV m.won (m.w side), m.server, _, m.balls, _, m.ties, m.gs ++ [gameG m side]⟩ ⟨sA1, a.tA, gA1, sc1, a.tc, gc1⟩ b hf hfs hb2 hbb) (h := fun a' _ => ?_)
      | refine clT (hc := T_next ⟨m.f, m.first, m.st, addV m.g (m.w side), (0, 0), m.won, m.server, _, m.balls, _, m.ties, m.gs ++ [gameG m side]⟩ ⟨a.sA, a.tA, gA1, a.sc, a.tc, gc1⟩ b hf hfs hb2 hbb) (h := fun a' _ => ?_)
     refine nl ?_
     refine q_end (hR := ?_)
     first
      | (rw [hpt]; exact fun w hS => ⟨a, trivial, rfl, hS.sub slz_⟩)
      | (rw [pointV, hw, cond_false, hE, hG]; exact fun w hS => ⟨a', trivial, rfl, hS.sub slz_⟩)
    ·
     have hE : pointE m side = pointG m side := by rw [pointE, hG]; dsimp only; rw [h9]; rfl
     refine skp ?_
     refine q_seq ?_
     refine rg ?_
     refine ww ?_
     first
      | refine clT (hc := T_next ⟨m.f, m.first, m.st ++ [addV m.g (m.w side)], (0, 0), (0, 0), addV m.won (m.w side), m.server, _, m.balls, _, m.ties, m.gs ++ [gameG m side]⟩ ⟨sA1, a.tA, gA1, sc1, a.tc, gc1⟩ b hf hfs hb2 hbb) (h := fun a' _ => ?_)
      | refine clT (hc := T_next ⟨m.f, m.first, m.st, addV m.g (m.w side), (0, 0), m.won, m.server, _, m.balls, _, m.ties, m.gs ++ [gameG m side]⟩ ⟨a.sA, a.tA, gA1, a.sc, a.tc, gc1⟩ b hf hfs hb2 hbb) (h := fun a' _ => ?_)
     refine nl ?_
     refine q_end (hR := ?_)
     first
      | (rw [hpt]; exact fun w hS => ⟨a, trivial, rfl, hS.sub slz_⟩)
      | (rw [pointV, hw, cond_false, hE, hG]; exact fun w hS => ⟨a', trivial, rfl, hS.sub slz_⟩)
  ·
   have hse : setEnds m (m.w side) = false := h4
   have hG : pointG m side = { m with gs := m.gs ++ [gameG m side], p := (0, 0), g := addV m.g (m.w side) } := by rw [pointG, hse]; rfl
   refine skp ?_
   refine q_seq ?_
   refine sq ?_
   refine sr ?_
   refine ww ?_
   refine cl0 (hc := fun w hS => C_score_sum _ (by assumption) w) (h := ?_)
   iterate 3 refine ww ?_
   apply brAnd 7 202 209 (by exact rfl)
   ·
    intro hb10
    iterate 6 refine uw ?_
    refine ww ?_
    exact mg (by repeat (first | exact trivial | refine ⟨rfl, ?_⟩ | refine ⟨by rw [hb10]; rfl, ?_⟩)) slz_
   ·
    intro hb10
    repeat (first | refine uz ?_ | refine kz ?_ | refine wz ?_)
    exact mg (by repeat (first | exact trivial | refine ⟨rfl, ?_⟩ | refine ⟨by rw [hb10]; rfl, ?_⟩)) slz_
   refine nq ?_
   refine czz (fun h11 => ?_) fun h11 => ?_
   ·
    have hE : pointE m side = { pointG m side with ends := m.ends + 1 } := by rw [pointE, hG]; dsimp only; rw [h11]; rfl
    refine rg ?_
    iterate 9 refine ww ?_
    first | refine st (h := ?_) | refine stE (h := ?_)
    refine nq ?_
    refine rg ?_
    refine ww ?_
    first
     | refine clT (hc := T_next ⟨m.f, m.first, m.st ++ [addV m.g (m.w side)], (0, 0), (0, 0), addV m.won (m.w side), m.server, _, m.balls, _, m.ties, m.gs ++ [gameG m side]⟩ ⟨sA1, a.tA, gA1, sc1, a.tc, gc1⟩ b hf hfs hb2 hbb) (h := fun a' _ => ?_)
     | refine clT (hc := T_next ⟨m.f, m.first, m.st, addV m.g (m.w side), (0, 0), m.won, m.server, _, m.balls, _, m.ties, m.gs ++ [gameG m side]⟩ ⟨a.sA, a.tA, gA1, a.sc, a.tc, gc1⟩ b hf hfs hb2 hbb) (h := fun a' _ => ?_)
    refine nl ?_
    refine q_end (hR := ?_)
    first
     | (rw [hpt]; exact fun w hS => ⟨a, trivial, rfl, hS.sub slz_⟩)
     | (rw [pointV, hw, cond_false, hE, hG]; exact fun w hS => ⟨a', trivial, rfl, hS.sub slz_⟩)
   ·
    have hE : pointE m side = pointG m side := by rw [pointE, hG]; dsimp only; rw [h11]; rfl
    refine skp ?_
    refine q_seq ?_
    refine rg ?_
    refine ww ?_
    first
     | refine clT (hc := T_next ⟨m.f, m.first, m.st ++ [addV m.g (m.w side)], (0, 0), (0, 0), addV m.won (m.w side), m.server, _, m.balls, _, m.ties, m.gs ++ [gameG m side]⟩ ⟨sA1, a.tA, gA1, sc1, a.tc, gc1⟩ b hf hfs hb2 hbb) (h := fun a' _ => ?_)
     | refine clT (hc := T_next ⟨m.f, m.first, m.st, addV m.g (m.w side), (0, 0), m.won, m.server, _, m.balls, _, m.ties, m.gs ++ [gameG m side]⟩ ⟨a.sA, a.tA, gA1, a.sc, a.tc, gc1⟩ b hf hfs hb2 hbb) (h := fun a' _ => ?_)
    refine nl ?_
    refine q_end (hR := ?_)
    first
     | (rw [hpt]; exact fun w hS => ⟨a, trivial, rfl, hS.sub slz_⟩)
     | (rw [pointV, hw, cond_false, hE, hG]; exact fun w hS => ⟨a', trivial, rfl, hS.sub slz_⟩)
end Go.Proofs.YthkliiifllhacaaGreat

namespace Go.Proofs.YthkliiifllhacaaGreat
open Go Go.RowKit

def sideBad (s : Int) : Bool := !decide (s = 0) && !decide (s = 1)
def playTo (f : Fmt) (first : Int) (xs : List Int) : Nat → Option MS
 | 0 => some (beginV f first)
 | k + 1 => match playTo f first xs k, xs[k]? with
  | some m, some s => bif sideBad s || decide (0 ≤ m.winner) then none else some (pointV m s)
  | _, _ => none
def preE (f : Fmt) (first : Int) (n : Nat) : Int := bif !decide (chkF f = 0) then chkF f else bif sideBad first then 1 else bif decide ((600 : Int) < n) then 2 else 0
def playO (f : Fmt) (first : Int) (xs : List Int) : Option MS := bif !decide (preE f first xs.length = 0) then none else playTo f first xs xs.length
def playE (f : Fmt) (first : Int) (xs : List Int) : Int := bif !decide (preE f first xs.length = 0) then preE f first xs.length else match playTo f first xs xs.length with | some _ => 0 | none => 11
theorem playTo_succ {f : Fmt} {first : Int} {xs : List Int} {k : Nat} {m : MS} {s : Int} (h : playTo f first xs k = some m) (hs : xs[k]? = some s) : playTo f first xs (k + 1) = bif sideBad s || decide (0 ≤ m.winner) then none else some (pointV m s) := by rw [playTo, h, hs]
theorem playTo_none {f : Fmt} {first : Int} {xs : List Int} {j : Nat} (h : playTo f first xs j = none) : ∀ {k : Nat}, j ≤ k → playTo f first xs k = none
  | 0, hk => by obtain rfl : j = 0 := by omega
                exact h
  | k + 1, hk => by
    by_cases e : j = k + 1
    · subst e; exact h
    · rw [playTo, playTo_none h (k := k) (by omega)]
theorem chkF_ok {f : Fmt} (h : (!decide (chkF f = 0)) = false) : f.Ok := by
 cases hb : fmtOk f
 ·
  simp [chkF, hb] at h
 ·
  exact fmt_ok hb
theorem side_ok {s : Int} (h : sideBad s = false) : s = 0 ∨ s = 1 := by
 simp only [sideBad, Bool.and_eq_false_iff, Bool.not_eq_false', decide_eq_true_eq] at h
 exact h

theorem nextV_bd {m : MS} {K : Int} (hf : m.f.Ok) (hfs : m.first = 0 ∨ m.first = 1) (hk : 0 ≤ K ∧ K ≤ 1000) (ht : (m.ties.length : Int) ≤ K) (ht1 : 0 ≤ m.winner → 1 ≤ (m.ties.length : Int))
  (hg : (0 ≤ m.g.1 ∧ m.g.1 ≤ K) ∧ 0 ≤ m.g.2 ∧ m.g.2 ≤ K) (hp : (0 ≤ m.p.1 ∧ m.p.1 ≤ K) ∧ 0 ≤ m.p.2 ∧ m.p.2 ≤ K) (hw : (0 ≤ m.won.1 ∧ m.won.1 ≤ K) ∧ 0 ≤ m.won.2 ∧ m.won.2 ≤ K) (he : 0 ≤ m.ends ∧ m.ends ≤ K) (hb : 0 ≤ m.balls ∧ m.balls ≤ K) (hs : (m.st.length : Int) ≤ K) (hgs : (m.gs.length : Int) ≤ K) : (nextV m).Bd K := by
 unfold nextV
 cases hd : decide (0 ≤ m.winner)
 ·
  have hl : ((tiesV m).length : Int) = m.ties.length + 1 := by simp [tiesV]
  refine ⟨hf, hfs, hk, ?_, ?_, hg, hp, hw, he, ?_, hs, hgs⟩
  ·
   simp only [cond_false]; omega
  ·
   simp only [cond_false]; omega
  ·
   simp only [cond_false]
   cases freshV m.f (tiesV m) <;> simp only [cond_true, cond_false] <;> omega
 ·
  have h1 := ht1 (by simpa using hd)
  refine ⟨hf, hfs, hk, h1, ?_, hg, hp, hw, he, ?_, hs, hgs⟩
  ·
   simp only [cond_true]; omega
  ·
   simp only [cond_true]; omega
theorem beginV_bd {f : Fmt} {first : Int} (hf : f.Ok) (h1 : first = 0 ∨ first = 1) : (beginV f first).Bd 0 :=
 nextV_bd hf h1 (by omega) (by simp [begin0]) (by simp [begin0]) (by simp [begin0]) (by simp [begin0]) (by simp [begin0]) (by simp [begin0]) (by simp [begin0]) (by simp [begin0]) (by simp [begin0])
theorem pointV_bd {m : MS} {K side : Int} (h : m.Bd K) (hK : K < 1000) : (pointV m side).Bd (K + 1) := by
 obtain ⟨hf, hfs, hk, ht1, ht2, hg, hp, hw, he, hb, hs, hgs⟩ := h
 have hp' := addV_bd (side := side) hp
 have hg' := addV_bd (side := m.w side) hg
 have hw' := addV_bd (side := m.w side) hw
 unfold pointV
 cases hd : decide (m.w side < 0)
 ·
  simp only [cond_false]
  have hz : (0 ≤ (0 : Int) ∧ (0 : Int) ≤ K + 1) ∧ (0 : Int) ≤ 0 ∧ (0 : Int) ≤ K + 1 := by omega
  have hends : ∀ c : Bool, 0 ≤ (bif c then m.ends + 1 else m.ends) ∧ (bif c then m.ends + 1 else m.ends) ≤ K + 1 := fun c => by cases c <;> simp only [cond_true, cond_false] <;> omega
  have hl : ((m.gs ++ [gameG m side]).length : Int) ≤ K + 1 := by simp; omega
  have hl2 : ((m.st ++ [addV m.g (m.w side)]).length : Int) ≤ K + 1 := by simp; omega
  unfold pointE pointG
  cases setEnds m (m.w side)
  ·
   simp only [cond_false]
   exact nextV_bd hf hfs (by omega) (by dsimp only; omega) (fun _ => ht1) hg' hz (by dsimp only; omega) (hends _) (by dsimp only; omega) (by dsimp only; omega) hl
  ·
   simp only [cond_true]
   exact nextV_bd hf hfs (by omega) (by dsimp only; omega) (fun _ => ht1) hz hz hw' (hends _) (by dsimp only; omega) hl2 hl
 ·
  simp only [cond_true, pointN]
  refine ⟨hf, hfs, by omega, ht1, by dsimp only; omega, by dsimp only; omega, hp', by dsimp only; omega, ?_, by dsimp only; omega, by dsimp only; omega, by dsimp only; omega⟩
  dsimp only
  cases m.tie && decide (((addV m.p side).1 + (addV m.p side).2) % 6 = 0) <;> simp only [cond_true, cond_false] <;> omega
structure PZ where
 (k : Nat) (m : MS) (a : MA)

set_option maxRecDepth 100000 in
theorem C_play_none (f : Fmt) (first : Int) (xs : List Int) (A : Option Addr) (n c : Nat) (w : World) (h : Rd w A 1 n (encI xs)) (hn : n ≤ 9223372036854775807) (hO : playO f first xs = none) :
  C0 Tryz.prog 52 [f.val, .int .i64 first, .slice A n c] w (.tuple #[.pointer none, .int .i64 (playE f first xs)]) := by
 have hlen : xs.length = n := by have := h.len; rwa [encI_len] at this
 refine ⟨en Tryz.func52 Tryz.ntmps52 ((St.init w).share (e := .ro A 1 n (encI xs)) h rfl rfl rfl) (h := fun F => ?_)⟩
 refine sr ?_
 refine bxA (h := fun b0 => ?_)
 iterate 2 refine ww ?_
 refine nq ?_
 refine sq ?_
 refine sr ?_
 refine ww ?_
 refine cl0 (hc := fun w hS => C_score_Check _ w) (h := ?_)
 refine ww ?_
 refine nr ?_
 iterate 2 refine ww ?_
 refine nq ?_
 refine czz (fun h0 => ?_) fun h0 => ?_
 ·
  have hE : playE f first xs = chkF f := by simp only [playE, preE, h0, cond_true]
  refine sr ?_
  iterate 3 refine ww ?_
  refine nq ?_
  refine rtn ?_
  refine q_then_ret ?_
  refine q_ret (hR := ?_)
  rw [hE]
  exact fun w hS => ⟨rfl, hS.sub slz_⟩
 ·
  have hf := chkF_ok h0
  have hc0 : (!decide (chkF f = 0)) = false := h0
  refine skp ?_
  refine q_seq ?_
  refine sq ?_
  refine sr ?_
  iterate 3 refine ww ?_
  apply brAnd 3 19 22 (by exact rfl)
  ·
   intro hb1
   iterate 2 refine uw ?_
   refine ww ?_
   exact mg (by repeat (first | exact trivial | refine ⟨rfl, ?_⟩ | refine ⟨by rw [hb1]; rfl, ?_⟩)) slz_
  ·
   intro hb1
   repeat (first | refine uz ?_ | refine kz ?_ | refine wz ?_)
   exact mg (by repeat (first | exact trivial | refine ⟨rfl, ?_⟩ | refine ⟨by rw [hb1]; rfl, ?_⟩)) slz_
  refine nq ?_
  refine czz (fun h2 => ?_) fun h2 => ?_
  ·
   have hE : playE f first xs = 1 := by
    have h' : sideBad first = true := h2
    simp only [playE, preE, hc0, h', cond_true, cond_false]; rfl
   refine sr ?_
   iterate 2 refine ww ?_
   refine nq ?_
   refine rtn ?_
   refine q_then_ret ?_
   refine q_ret (hR := ?_)
   rw [hE]
   exact fun w hS => ⟨rfl, hS.sub slz_⟩
  ·
   have hfs := side_ok (s := first) h2
   have hs0 : sideBad first = false := h2
   refine skp ?_
   refine q_seq ?_
   refine sq ?_
   refine sr ?_
   iterate 3 refine ww ?_
   refine nq ?_
   refine czz (fun h3 => ?_) fun h3 => ?_
   ·
    have hE : playE f first xs = 2 := by
     have h' : decide ((600 : Int) < xs.length) = true := by rw [hlen]; exact h3
     simp only [playE, preE, hc0, hs0, h', cond_true, cond_false]; rfl
    refine sr ?_
    iterate 2 refine ww ?_
    refine nq ?_
    refine rtn ?_
    refine q_then_ret ?_
    refine q_ret (hR := ?_)
    rw [hE]
    exact fun w hS => ⟨rfl, hS.sub slz_⟩
   ·
    have hn6 : n ≤ 600 := by simp only [decide_eq_false_iff_not] at h3; omega
    have hp0 : preE f first xs.length = 0 := by
     have h' : decide ((600 : Int) < xs.length) = false := by rw [hlen]; exact h3
     simp only [preE, hc0, hs0, h', cond_false]
    refine skp ?_
    refine q_seq ?_
    refine sr ?_
    iterate 3 refine ww ?_
    refine cl (hc := fun w hS => C_score_begin f first hf (by omega) w) (h := fun x1 _ => ?_)
    refine ww ?_
    refine nq ?_
    refine sq ?_
    refine sr ?_
    iterate 3 refine ww ?_
    refine nq ?_
    refine bk ?_
    refine lp (X := PZ) (I := fun z => z.k ≤ n ∧ playTo f first xs z.k = some z.m ∧ z.m.Bd z.k) (le := fun z => [(9, .pointer (some ⟨x1.1, 0, none⟩)), (30, .slice A n c), (31, .int .i64 n), (32, .int .i64 z.k)]) (Le := fun z => z.m.ents z.a x1.1 ++ [.ro A 1 n (encI xs)]) (μ := fun z => n - z.k) ⟨0, beginV f first, x1.2⟩ ⟨Nat.zero_le _, rfl, beginV_bd hf hfs⟩ sbz_ slz_ (fun z hz => ?_)
    obtain ⟨hzk, hzr, hzb⟩ := hz
    refine sr ?_
    refine ww ?_
    refine nq ?_
    refine sq ?_
    refine czz (fun h4 => ?_) fun h4 => ?_
    ·
     have hkn : z.k < n := by simp only [decide_eq_true_eq] at h4; omega
     obtain ⟨s, hs⟩ : ∃ s, xs[z.k]? = some s := ⟨_, List.getElem?_eq_getElem (by omega)⟩
     have hse := encI_at hs
     have hstep := playTo_succ hzr hs
     refine skp ?_
     refine q_seq ?_
     refine sq ?_
     refine bk ?_
     refine sr ?_
     refine wy (ix (hb := by omega)) ?_
     refine wy (ldE (hk := hse)) ?_
     refine ww ?_
     refine nq ?_
     refine sq ?_
     refine sr ?_
     iterate 3 refine ww ?_
     apply brAnd 3 38 41 (by exact rfl)
     ·
      intro hb5
      iterate 2 refine uw ?_
      refine ww ?_
      exact mg (by repeat (first | exact trivial | refine ⟨rfl, ?_⟩ | refine ⟨by rw [hb5]; rfl, ?_⟩)) slz_
     ·
      intro hb5
      repeat (first | refine uz ?_ | refine kz ?_ | refine wz ?_)
      exact mg (by repeat (first | exact trivial | refine ⟨rfl, ?_⟩ | refine ⟨by rw [hb5]; rfl, ?_⟩)) slz_
     refine ww ?_
     apply brOr 7 42 49 (by exact rfl)
     ·
      intro hb6
      iterate 6 refine uw ?_
      refine ww ?_
      exact mg (by repeat (first | exact trivial | refine ⟨rfl, ?_⟩ | refine ⟨by rw [hb6]; rfl, ?_⟩)) slz_
     ·
      intro hb6
      repeat (first | refine uz ?_ | refine kz ?_ | refine wz ?_)
      exact mg (by repeat (first | exact trivial | refine ⟨rfl, ?_⟩ | refine ⟨by rw [hb6]; rfl, ?_⟩)) slz_
     refine nq ?_
     refine czz (fun h7 => ?_) fun h7 => ?_
     ·
      have hE : playE f first xs = 11 := by
       have h' : (sideBad s || decide (0 ≤ z.m.winner)) = true := h7
       rw [h'] at hstep
       have := playTo_none (k := xs.length) hstep (by omega)
       rw [playE, hp0, this]; rfl
      refine sr ?_
      iterate 2 refine ww ?_
      refine nq ?_
      refine rtn ?_
      refine q_then_ret ?_
      refine q_blk_ret ?_
      iterate 2 refine q_then_ret ?_
      refine q_blk_ret ?_
      refine q_then_ret ?_
      refine q_ret (hR := ?_)
      rw [hE]
      exact fun w hS => ⟨rfl, hS.sub slz_⟩
     ·
      have hnx : playTo f first xs (z.k + 1) = some (pointV z.m s) := by
       have h' : (sideBad s || decide (0 ≤ z.m.winner)) = false := h7
       rw [hstep, h']; rfl
      refine skp ?_
      refine q_seq ?_
      refine rg ?_
      iterate 2 refine ww ?_
      refine clT (hc := T_point z.m z.a x1.1 s z.k hzb) (h := fun x2 _ => ?_)
      refine nl ?_
      refine q_blk_norm ?_
      refine q_seq ?_
      refine rg ?_
      iterate 2 refine ww ?_
      refine nl ?_
      refine rn (x := z) ⟨z.k + 1, pointV z.m s, x2⟩ ⟨by dsimp only; omega, hnx, by have := pointV_bd (side := s) hzb (by omega); simpa using this⟩ (by dsimp only; omega) sbz_ slz_
    ·
     exfalso
     have hkn : z.k = n := by simp only [decide_eq_false_iff_not] at h4; omega
     rw [playO, hp0, hlen, ← hkn, hzr] at hO
     cases hO
set_option maxRecDepth 100000 in
theorem C_play_some (f : Fmt) (first : Int) (xs : List Int) (A : Option Addr) (n c : Nat) (w : World) (h : Rd w A 1 n (encI xs)) (hn : n ≤ 9223372036854775807) {m : MS} (hO : playO f first xs = some m) :
  CR Tryz.prog 52 [f.val, .int .i64 first, .slice A n c] w (fun _ : Nat × MA => True) (fun x => .tuple #[.pointer (some ⟨x.1, 0, none⟩), .int .i64 0]) (fun x => m.ents x.2 x.1) := by
 have hlen : xs.length = n := by have := h.len; rwa [encI_len] at this
 refine ⟨en Tryz.func52 Tryz.ntmps52 ((St.init w).share (e := .ro A 1 n (encI xs)) h rfl rfl rfl) (h := fun F => ?_)⟩
 refine sr ?_
 refine bxA (h := fun b0 => ?_)
 iterate 2 refine ww ?_
 refine nq ?_
 refine sq ?_
 refine sr ?_
 refine ww ?_
 refine cl0 (hc := fun w hS => C_score_Check _ w) (h := ?_)
 refine ww ?_
 refine nr ?_
 iterate 2 refine ww ?_
 refine nq ?_
 refine czz (fun h0 => ?_) fun h0 => ?_
 ·
  exfalso
  have hp : (!decide (preE f first xs.length = 0)) = true := by
   have h' : (!decide (chkF f = 0)) = true := h0
   simp only [preE, h', cond_true]
  rw [playO, hp] at hO
  cases hO
 ·
  have hf := chkF_ok h0
  have hc0 : (!decide (chkF f = 0)) = false := h0
  refine skp ?_
  refine q_seq ?_
  refine sq ?_
  refine sr ?_
  iterate 3 refine ww ?_
  apply brAnd 3 19 22 (by exact rfl)
  ·
   intro hb1
   iterate 2 refine uw ?_
   refine ww ?_
   exact mg (by repeat (first | exact trivial | refine ⟨rfl, ?_⟩ | refine ⟨by rw [hb1]; rfl, ?_⟩)) slz_
  ·
   intro hb1
   repeat (first | refine uz ?_ | refine kz ?_ | refine wz ?_)
   exact mg (by repeat (first | exact trivial | refine ⟨rfl, ?_⟩ | refine ⟨by rw [hb1]; rfl, ?_⟩)) slz_
  refine nq ?_
  refine czz (fun h2 => ?_) fun h2 => ?_
  ·
   exfalso
   have hp : (!decide (preE f first xs.length = 0)) = true := by
    have h' : sideBad first = true := h2
    simp only [preE, hc0, h', cond_true, cond_false]; rfl
   rw [playO, hp] at hO
   cases hO
  ·
   have hfs := side_ok (s := first) h2
   have hs0 : sideBad first = false := h2
   refine skp ?_
   refine q_seq ?_
   refine sq ?_
   refine sr ?_
   iterate 3 refine ww ?_
   refine nq ?_
   refine czz (fun h3 => ?_) fun h3 => ?_
   ·
    exfalso
    have hp : (!decide (preE f first xs.length = 0)) = true := by
     have h' : decide ((600 : Int) < xs.length) = true := by rw [hlen]; exact h3
     simp only [preE, hc0, hs0, h', cond_true, cond_false]; rfl
    rw [playO, hp] at hO
    cases hO
   ·
    have hn6 : n ≤ 600 := by simp only [decide_eq_false_iff_not] at h3; omega
    have hp0 : preE f first xs.length = 0 := by
     have h' : decide ((600 : Int) < xs.length) = false := by rw [hlen]; exact h3
     simp only [preE, hc0, hs0, h', cond_false]
    refine skp ?_
    refine q_seq ?_
    refine sr ?_
    iterate 3 refine ww ?_
    refine cl (hc := fun w hS => C_score_begin f first hf (by omega) w) (h := fun x1 _ => ?_)
    refine ww ?_
    refine nq ?_
    refine sq ?_
    refine sr ?_
    iterate 3 refine ww ?_
    refine nq ?_
    refine bk ?_
    refine lp (X := PZ) (I := fun z => z.k ≤ n ∧ playTo f first xs z.k = some z.m ∧ z.m.Bd z.k) (le := fun z => [(9, .pointer (some ⟨x1.1, 0, none⟩)), (30, .slice A n c), (31, .int .i64 n), (32, .int .i64 z.k)]) (Le := fun z => z.m.ents z.a x1.1 ++ [.ro A 1 n (encI xs)]) (μ := fun z => n - z.k) ⟨0, beginV f first, x1.2⟩ ⟨Nat.zero_le _, rfl, beginV_bd hf hfs⟩ sbz_ slz_ (fun z hz => ?_)
    obtain ⟨hzk, hzr, hzb⟩ := hz
    refine sr ?_
    refine ww ?_
    refine nq ?_
    refine sq ?_
    refine czz (fun h4 => ?_) fun h4 => ?_
    ·
     have hkn : z.k < n := by simp only [decide_eq_true_eq] at h4; omega
     obtain ⟨s, hs⟩ : ∃ s, xs[z.k]? = some s := ⟨_, List.getElem?_eq_getElem (by omega)⟩
     have hse := encI_at hs
     have hstep := playTo_succ hzr hs
     refine skp ?_
     refine q_seq ?_
     refine sq ?_
     refine bk ?_
     refine sr ?_
     refine wy (ix (hb := by omega)) ?_
     refine wy (ldE (hk := hse)) ?_
     refine ww ?_
     refine nq ?_
     refine sq ?_
     refine sr ?_
     iterate 3 refine ww ?_
     apply brAnd 3 38 41 (by exact rfl)
     ·
      intro hb5
      iterate 2 refine uw ?_
      refine ww ?_
      exact mg (by repeat (first | exact trivial | refine ⟨rfl, ?_⟩ | refine ⟨by rw [hb5]; rfl, ?_⟩)) slz_
     ·
      intro hb5
      repeat (first | refine uz ?_ | refine kz ?_ | refine wz ?_)
      exact mg (by repeat (first | exact trivial | refine ⟨rfl, ?_⟩ | refine ⟨by rw [hb5]; rfl, ?_⟩)) slz_
     refine ww ?_
     apply brOr 7 42 49 (by exact rfl)
     ·
      intro hb6
      iterate 6 refine uw ?_
      refine ww ?_
      exact mg (by repeat (first | exact trivial | refine ⟨rfl, ?_⟩ | refine ⟨by rw [hb6]; rfl, ?_⟩)) slz_
     ·
      intro hb6
      repeat (first | refine uz ?_ | refine kz ?_ | refine wz ?_)
      exact mg (by repeat (first | exact trivial | refine ⟨rfl, ?_⟩ | refine ⟨by rw [hb6]; rfl, ?_⟩)) slz_
     refine nq ?_
     refine czz (fun h7 => ?_) fun h7 => ?_
     ·
      exfalso
      have h' : (sideBad s || decide (0 ≤ z.m.winner)) = true := h7
      rw [h'] at hstep
      have := playTo_none (k := xs.length) hstep (by omega)
      rw [playO, hp0, this] at hO
      cases hO
     ·
      have hnx : playTo f first xs (z.k + 1) = some (pointV z.m s) := by
       have h' : (sideBad s || decide (0 ≤ z.m.winner)) = false := h7
       rw [hstep, h']; rfl
      refine skp ?_
      refine q_seq ?_
      refine rg ?_
      iterate 2 refine ww ?_
      refine clT (hc := T_point z.m z.a x1.1 s z.k hzb) (h := fun x2 _ => ?_)
      refine nl ?_
      refine q_blk_norm ?_
      refine q_seq ?_
      refine rg ?_
      iterate 2 refine ww ?_
      refine nl ?_
      refine rn (x := z) ⟨z.k + 1, pointV z.m s, x2⟩ ⟨by dsimp only; omega, hnx, by have := pointV_bd (side := s) hzb (by omega); simpa using this⟩ (by dsimp only; omega) sbz_ slz_
    ·
     have hkn : z.k = n := by simp only [decide_eq_false_iff_not] at h4; omega
     rw [playO, hp0, hlen, ← hkn, hzr] at hO
     obtain rfl : z.m = m := by simpa using hO
     refine et ?_
     iterate 2 refine q_then_exit ?_
     refine q_blk_hit ?_
     refine q_seq ?_
     refine sr ?_
     iterate 3 refine ww ?_
     refine nq ?_
     refine rtn ?_
     refine q_ret (hR := ?_)
     exact fun w hS => ⟨(x1.1, z.a), trivial, rfl, hS.sub slz_⟩

structure Sc where
 (st : List Pr) (g p : Pr) (server ends balls winner : Int)
def MS.sc (m : MS) : Sc := ⟨m.st, m.g, m.p, m.server, m.ends, m.balls, m.winner⟩
def scO (o : Option MS) : Sc := match o with | some m => m.sc | none => ⟨[], (0, 0), (0, 0), 0, 0, 0, 0⟩
abbrev Sc.cells (s : Sc) (A : Option Addr) (c : Nat) : List Value := [.slice A s.st.length c, .int .i64 s.g.1, .int .i64 s.g.2, .int .i64 s.p.1, .int .i64 s.p.2, .int .i64 s.server, .int .i64 s.ends, .int .i64 s.balls, .int .i64 s.winner]
abbrev Sc.val (s : Sc) (A : Option Addr) (c : Nat) : Value := .agg #[.slice A s.st.length c, .int .i64 s.g.1, .int .i64 s.g.2, .int .i64 s.p.1, .int .i64 s.p.2, .int .i64 s.server, .int .i64 s.ends, .int .i64 s.balls, .int .i64 s.winner]
theorem playE_none {f : Fmt} {first : Int} {xs : List Int} (h : playO f first xs = none) : ¬ playE f first xs = 0 := by
 unfold playO at h
 unfold playE
 cases hp : !decide (preE f first xs.length = 0)
 ·
  rw [hp] at h
  simp only [cond_false] at h ⊢
  rw [h]; decide
 ·
  simp only [cond_true]
  simpa using hp
theorem playE_some {f : Fmt} {first : Int} {xs : List Int} {m : MS} (h : playO f first xs = some m) : playE f first xs = 0 := by
 unfold playO at h
 unfold playE
 cases hp : !decide (preE f first xs.length = 0)
 ·
  rw [hp] at h
  simp only [cond_false] at h ⊢
  rw [h]
 ·
  rw [hp] at h; cases h

set_option maxRecDepth 100000 in
theorem C_score_Play_n (f : Fmt) (first : Int) (xs : List Int) (A : Option Addr) (n c : Nat) (w : World) (h : Rd w A 1 n (encI xs)) (hn : n ≤ 9223372036854775807) (hO : playO f first xs = none) :
  CR Tryz.prog 23 [f.val, .int .i64 first, .slice A n c] w (fun _ : Option Addr × Nat => True) (fun x => .tuple #[(scO (playO f first xs)).val x.1 x.2, .int .i64 (playE f first xs)]) (fun x => [.own x.1 x.2 73 2 (scO (playO f first xs)).st.length (encP (scO (playO f first xs)).st)]) := by
 have hE := playE_none hO
 rw [hO]
 refine ⟨en Tryz.func23 Tryz.ntmps23 ((St.init w).share (e := .ro A 1 n (encI xs)) h rfl rfl rfl) (h := fun F => ?_)⟩
 refine sr ?_
 refine bxA (h := fun b0 => ?_)
 refine al (h := fun b1 => ?_)
 refine ww ?_
 refine nr ?_
 iterate 3 refine ww ?_
 refine cl0 (hc := fun w hS => C_play_none f first xs A n c w (hS.get rdz_) hn hO) (h := ?_)
 iterate 5 refine ww ?_
 refine nq ?_
 iterate 2 refine sq ?_
 refine WC.nilOwn 73 2 (h := ?_)
 refine rg ?_
 iterate 2 refine ww ?_
 refine nq ?_
 refine czz (fun h0 => ?_) fun h0 => ?_
 ·
  refine sr ?_
  iterate 2 refine ww ?_
  first | refine stA (h := ?_) | refine stEA (h := ?_)
  refine ww ?_
  refine nq ?_
  refine rtn ?_
  refine q_then_ret ?_
  refine q_ret (hR := ?_)
  exact fun w hS => ⟨(none, 0), trivial, rfl, hS.sub slz_⟩
 ·
  exfalso
  simp at h0
  exact hE h0

set_option maxRecDepth 100000 in
theorem C_score_Play_s (f : Fmt) (first : Int) (xs : List Int) (A : Option Addr) (n c : Nat) (w : World) (h : Rd w A 1 n (encI xs)) (hn : n ≤ 9223372036854775807) {m : MS} (hO : playO f first xs = some m) :
  CR Tryz.prog 23 [f.val, .int .i64 first, .slice A n c] w (fun _ : Option Addr × Nat => True) (fun x => .tuple #[(scO (playO f first xs)).val x.1 x.2, .int .i64 (playE f first xs)]) (fun x => [.own x.1 x.2 73 2 (scO (playO f first xs)).st.length (encP (scO (playO f first xs)).st)]) := by
 have hE := playE_some hO
 rw [hE, hO]
 refine ⟨en Tryz.func23 Tryz.ntmps23 ((St.init w).share (e := .ro A 1 n (encI xs)) h rfl rfl rfl) (h := fun F => ?_)⟩
 refine sr ?_
 refine bxA (h := fun b0 => ?_)
 refine al (h := fun b1 => ?_)
 refine ww ?_
 refine nr ?_
 iterate 3 refine ww ?_
 refine cl (hc := fun w hS => C_play_some f first xs A n c w (hS.get rdz_) hn hO) (h := fun x _ => ?_)
 iterate 5 refine ww ?_
 refine nq ?_
 refine sq ?_
 refine sr ?_
 iterate 2 refine ww ?_
 refine nq ?_
 refine czz (fun h0 => ?_) fun h0 => ?_
 ·
  exact absurd h0 (by decide)
 ·
  refine skp ?_
  refine q_seq ?_
  refine sr ?_
  iterate 4 refine ww ?_
  first | refine stA (h := ?_) | refine stEA (h := ?_)
  refine ww ?_
  refine nq ?_
  refine rtn ?_
  refine q_ret (hR := ?_)
  exact fun w hS => ⟨(x.2.sA, x.2.sc), trivial, rfl, hS.sub slz_⟩

theorem C_score_Play (f : Fmt) (first : Int) (xs : List Int) (A : Option Addr) (n c : Nat) (w : World) (h : Rd w A 1 n (encI xs)) (hn : n ≤ 9223372036854775807) :
  CR Tryz.prog 23 [f.val, .int .i64 first, .slice A n c] w (fun _ : Option Addr × Nat => True) (fun x => .tuple #[(scO (playO f first xs)).val x.1 x.2, .int .i64 (playE f first xs)]) (fun x => [.own x.1 x.2 73 2 (scO (playO f first xs)).st.length (encP (scO (playO f first xs)).st)]) := by
 cases hO : playO f first xs with
 | none => have := C_score_Play_n f first xs A n c w h hn hO; rwa [hO] at this
 | some m => have := C_score_Play_s f first xs A n c w h hn hO; rwa [hO] at this

end Go.Proofs.YthkliiifllhacaaGreat

namespace Go.Proofs.YthkliiifllhacaaGreat
open Go Go.RowKit

end Go.Proofs.YthkliiifllhacaaGreat

namespace Go.Proofs.YthkliiifllhacaaGreat
open Go Go.RowKit

end Go.Proofs.YthkliiifllhacaaGreat

namespace Go.Proofs.YthkliiifllhacaaGreat
open Go Go.RowKit

structure Brd where
 (st : List Pr) (g p : Pr)
abbrev Brd.val (b : Brd) (A : Option Addr) (n c : Nat) : Value := .agg #[.slice A n c, .int .i64 b.g.1, .int .i64 b.g.2, .int .i64 b.p.1, .int .i64 b.p.2]
abbrev Brd.cells (b : Brd) (A : Option Addr) (n c : Nat) : List Value := [.slice A n c, .int .i64 b.g.1, .int .i64 b.g.2, .int .i64 b.p.1, .int .i64 b.p.2]
def Brd.all (b : Brd) : List Pr := b.st ++ [b.g, b.p]
end Go.Proofs.YthkliiifllhacaaGreat

namespace Go.Proofs.YthkliiifllhacaaGreat
open Go Go.RowKit

abbrev i2 : List Sp := [.int .i64, .int .i64]
end Go.Proofs.YthkliiifllhacaaGreat

namespace Go.Proofs.YthkliiifllhacaaGreat
open Go Go.RowKit

def Stm (es : Array MapEntry) (c : Nat) : Prop := (es.toList.map (·.born)).Nodup ∧ ∀ e ∈ es.toList, e.born < c
theorem stm0 : Stm #[] 0 := ⟨List.nodup_nil, fun e he => by simp at he⟩
theorem stm_push {es : Array MapEntry} {c : Nat} (h : Stm es c) (k v : Value) : Stm (es.push { key := k, val := v, born := c }) (c + 1) := by
 constructor
 ·
  rw [Array.toList_push, List.map_append, List.map_cons, List.map_nil, List.nodup_append]
  refine ⟨h.1, List.nodup_cons.2 ⟨by simp, List.nodup_nil⟩, fun a ha b hb => ?_⟩
  obtain ⟨e, he, rfl⟩ := List.mem_map.1 ha
  rw [List.mem_singleton] at hb
  have h3 := h.2 e he
  rw [hb]
  intro e2
  exact absurd e2 (Nat.ne_of_lt h3)
 ·
  intro e he
  rw [Array.toList_push, List.mem_append, List.mem_singleton] at he
  rcases he with he | rfl
  ·
   have := h.2 e he; omega
  ·
   exact Nat.lt_succ_self _
theorem stm_mod {es : Array MapEntry} {c : Nat} (h : Stm es c) (j : Nat) (k v : Value) : Stm (es.modify j fun e => { e with key := k, val := v }) c := by
 have hb : (es.modify j fun e => { e with key := k, val := v }).toList.map (·.born) = es.toList.map (·.born) := by
  rw [Array.toList_modify]
  refine List.ext_getElem? fun i => ?_
  rw [List.getElem?_map, List.getElem?_map, List.getElem?_modify]
  by_cases e : j = i
  ·
   subst e; simp only [if_pos]; cases es.toList[j]? <;> rfl
  ·
   simp only [if_neg e]; cases es.toList[i]? <;> rfl
 refine ⟨by rw [hb]; exact h.1, fun e he => ?_⟩
 have : e.born ∈ es.toList.map (·.born) := hb ▸ List.mem_map.2 ⟨e, he, rfl⟩
 obtain ⟨e', he', e2⟩ := List.mem_map.1 this
 have := h.2 e' he'
 omega

section rules
variable {F : Fence} {P : Program} {ops : Array Oper} {Q : Exit → Act → World → Prop} {rest : List Oper} {n : Nat} {D : List Deferred} {l : Env} {w0 : World} {L M : List Ent}
variable {d : Nat} {ty : TypeId} {pos : String} {aft : Array Edge}

theorem run_updateS {t kt e : TypeId} {ks : List Bool} (hT : MapTy P t kt e) (hK : FlatTy P kt ks) {w : World} {b : Nat} {es : Array MapEntry} {c : Nat} (hb : w.heap[b]? = some (.map es c)) {kv : List (List Fl × Value)} (hm : MapIs es kv) (hs : ∀ p ∈ kv, shapeOf p.1 = ks) {k : List Fl} (hk : shapeOf k = ks) (v : Value) (hst0 : Stm es c) :
  ∃ es' c', (Instr.mapUpdate t (.map (some b)) (.agg (fv k).toArray) v).run P w = .ok () (w.putObj b (.map es' c')) ∧ MapIs es' (updM kv k v) ∧ Stm es' c' := by
 obtain ⟨r, hr, hc⟩ := run_findKey hK hk es.toList kv w hm hs
 have hck := fun em => checkKeyF em 8 kt ks hK.flt 9992 k w hk
 simp only [fval, hK.agg, cond_true] at hck
 have hck' : ∀ em, (Instr.checkKey em 10000 kt (.agg (fv k).toArray)).run P w = .ok () w := hck
 unfold Instr.mapUpdate
 simp only [Sem.run_bind, run_underlying hT.und, Result.andThen_ok, getMap hb, Sem.run_pure, hck', hr]
 rcases hc with ⟨rfl, h1, h2⟩ | ⟨j, u, e', rfl, h1, h3, h4, h5⟩
 ·
  refine ⟨_, _, putMap _ hb, ?_, stm_push hst0 _ _⟩
  have hm' : es.toList.map (fun e => (e.key, e.val)) = kv.map fun p => (Value.agg (fv p.1).toArray, p.2) := hm
  simp only [MapIs, h2, Array.toList_push, List.map_append, hm', List.map_cons, List.map_nil]
 ·
  have hj : es[j]? = some e' := by simpa using h3
  have hjl : j < es.size := (Array.getElem?_eq_some_iff.1 hj).1
  have hst : (Instr.keyThatStays (.agg (fv k).toArray) (.agg (fv k).toArray)).run P w = .ok (.agg (fv k).toArray) w := by
   simp [Instr.keyThatStays, sameBits_flat]
  simp only [hj, Option.map_some, Option.getD_some, h4, Sem.run_bind, hst, Result.andThen_ok]
  refine ⟨_, _, putMap _ hb, ?_, stm_mod hst0 _ _ _⟩
  have he : (es.modify j fun e => { e with key := .agg (fv k).toArray, val := v }).toList = es.toList.set j { e' with val := v } := by
   rw [Array.toList_modify]
   refine List.ext_getElem? fun i => ?_
   rw [List.getElem?_modify, List.getElem?_set]
   by_cases e : j = i
   ·
    subst e
    have : es.toList[j]? = some e' := h3
    rw [this]
    simp [hjl, ← h4]
   ·
    simp [e]
  rw [MapIs, he]
  exact h5 v
theorem mupS {m x y : Operand} {t kt e : TypeId} {ks : List Bool} (hT : MapTy P t kt e := by infer_instance) (hK : FlatTy P kt ks := by infer_instance) {b : Nat} {es : Array MapEntry} {c : Nat} {kv : List (List Fl × Value)} {cs : List Value} {k : List Fl} {v : Value}
  (hm : MapIs es kv) (hs : ∀ p ∈ kv, shapeOf p.1 = ks) (hst0 : Stm es c) (hx : ev l m = some (.map (some b)) := by exact rfl) (hy : ev l x = some (.agg cs.toArray) := by exact rfl) (hv : ev l y = some v := by exact rfl) (hl : FlL cs k := by repeat (first | exact FlL.nil | apply FlL.int | apply FlL.bool)) (hk : shapeOf k = ks := by rfl)
  (ha : At L (.obj b (.map es c)) M := by repeat (first | exact At.here | apply At.there)) (h : ∀ es' c', MapIs es' (updM kv k v) → Stm es' c' → WL F P ops Q rest n D l w0 (.obj b (.map es' c') :: M)) : WL F P ops Q (⟨none, .mapUpdate t m x y, ty, pos, aft, none⟩ :: rest) n D l w0 L := by
 intro hF a w hfr hst
 have hst1 := hst.pull ha
 obtain ⟨es', c', hr, hm', hs'⟩ := run_updateS (P := P) hT hK hst1.objAt hm hs hk v hst0
 rw [← hl.out] at hr
 have he : (execOp a.eval ⟨none, .mapUpdate t m x y, ty, pos, aft, none⟩).run P w = .ok .skip (w.putObj b (.map es' c')) := by
  simp [execOp, hfr.eval hx, hfr.eval hy, hfr.eval hv, hr]
 show (if _ then _ else _)
 rw [if_pos (by simp [Region.wanted])]
 refine ⟨fun f _ => hF.fn f, ?_⟩
 rw [semAt_plain (by simp), he]
 exact h es' c' hm' hs' hF _ _ (hfr.put_none (.bool true)) (hst1.putObj _)

abbrev KV := Value × Value
def kvOf (e : MapEntry) : KV := (e.key, e.val)
def LastIs (es : Array MapEntry) (seen : Array Nat) (last : Option KV) : Prop := ∀ kv, last = some kv → ∃ (seen' : Array Nat) (e : MapEntry), seen = seen'.push e.born ∧ e ∈ es.toList ∧ kvOf e = kv
def itE (r b : Nat) (es : Array MapEntry) (c : Nat) (todo : List KV) (last : Option KV) : Ent := .gen true true (fun k => k = r) (fun w => ∃ seen, w.heap[r]? = some (.mapIter (some b) c seen c) ∧ todo.Perm ((leftOf es seen).toList.map kvOf) ∧ LastIs es seen last)
 (fun w w' hb ⟨seen, h1, h2⟩ => ⟨seen, (hb r rfl).trans h1, h2⟩) (fun w k ⟨seen, h1, _⟩ hk => by subst hk; exact heap_lt h1)
def roM (b : Nat) (es : Array MapEntry) (c : Nat) : Ent := .gen true false (fun k => k = b) (fun w => w.heap[b]? = some (.map es c)) (fun w w' hb h => (hb b rfl).trans h) (fun w k h hk => by subst hk; exact heap_lt h)
theorem St.toRoM {w0 w : World} {M : List Ent} {b : Nat} {es : Array MapEntry} {c : Nat} (h : St w0 w (.obj b (.map es c) :: M)) : St w0 w (roM b es c :: M) := by
 have hp := List.pairwise_cons.1 h.sep
 refine ⟨h.below, fun x hx => ?_, fun x hx hf k hk => ?_, List.pairwise_cons.2 ⟨fun x hx _ k hk hk' => hp.1 x hx (.inl rfl) k hk hk', hp.2⟩⟩
 ·
  rcases List.mem_cons.1 hx with rfl | hx
  ·
   exact h.ok (.obj b (.map es c)) (by simp)
  ·
   exact h.ok x (by simp [hx])
 ·
  rcases List.mem_cons.1 hx with rfl | hx
  ·
   exact h.new (.obj b (.map es c)) (by simp) rfl k hk
  ·
   exact h.new x (by simp [hx]) hf k hk
theorem St.dupM {w0 w : World} {M : List Ent} {b : Nat} {es : Array MapEntry} {c : Nat} (h : St w0 w (roM b es c :: M)) : St w0 w (roM b es c :: roM b es c :: M) := by
 have hp := List.pairwise_cons.1 h.sep
 refine ⟨h.below, fun x hx => ?_, fun x hx hf k hk => ?_, List.pairwise_cons.2 ⟨fun x hx ho k hk hk' => ?_, h.sep⟩⟩
 ·
  rcases List.mem_cons.1 hx with rfl | hx
  ·
   exact h.ok _ (by simp)
  ·
   exact h.ok x hx
 ·
  rcases List.mem_cons.1 hx with rfl | hx
  ·
   exact h.new _ (by simp) hf k hk
  ·
   exact h.new x hx hf k hk
 ·
  rcases List.mem_cons.1 hx with rfl | hx
  ·
   rcases ho with h1 | h1 <;> cases h1
  ·
   exact hp.1 x hx ho k hk hk'
theorem left_none (es : Array MapEntry) : leftOf es #[] = es := by
 unfold leftOf
 exact Array.filter_eq_self.2 fun a _ => by simp
theorem rngM {x : Operand} {t kt e : TypeId} (hT : MapTy P t kt e := by infer_instance) {b : Nat} {es : Array MapEntry} {c : Nat} (hx : ev l x = some (.map (some b)) := by exact rfl) (ha : At L (roM b es c) M := by repeat (first | exact At.here | apply At.there)) (hd : Nat.blt d n = true := by rfl)
  (h : ∀ r, WL F P ops Q rest n D ((d, .pointer (some ⟨r, 0, none⟩)) :: l) w0 (itE r b es c (es.toList.map kvOf) none :: L)) : WL F P ops Q (⟨some d, .range t x, ty, pos, aft, none⟩ :: rest) n D l w0 L :=
 WL.value (X := Nat) (φ := fun _ => True) (val := fun r => .pointer (some ⟨r, 0, none⟩)) (L' := fun r => itE r b es c (es.toList.map kvOf) none :: L) (by simp) hd (fun a w hfr hst => by
  have hb : w.heap[b]? = some (.map es c) := hst.ok (roM b es c) ha.mem
  have hr := run_range_map (P := P) w t kt e b es c hT.und hb
  have hs := hst.allocObj (.mapIter (some b) c #[] c)
  refine ⟨w.heap.size, _, trivial, by simp [execOp, hfr.eval hx, hr]; rfl, ?_⟩
  refine hs.turn (e' := itE _ b es c _ none) rfl (fun _ _ _ => rfl) rfl rfl rfl (Nat.le_refl _) ⟨#[], ?_, ?_, fun kv h => (by cases h)⟩ (fun k hk => .inl hk)
  ·
   exact heap_alloc_new w _
  ·
   rw [left_none]) (fun r _ => h r)
theorem WC.toRoM {c0 : Code} {b : Nat} {es : Array MapEntry} {c : Nat} (ha : At L (.obj b (.map es c)) M) (h : WC F P c0 Q n D l w0 (roM b es c :: M)) : WC F P c0 Q n D l w0 L := fun hF a w hfr hst => h hF a w hfr (hst.pull ha).toRoM
theorem WL.toRoM {b : Nat} {es : Array MapEntry} {c : Nat} (ha : At L (.obj b (.map es c)) M) (h : WL F P ops Q rest n D l w0 (roM b es c :: M)) : WL F P ops Q rest n D l w0 L := fun hF a w hfr hst => h hF a w hfr (hst.pull ha).toRoM
theorem WC.dupM {c0 : Code} {b : Nat} {es : Array MapEntry} {c : Nat} (ha : At L (roM b es c) M) (h : WC F P c0 Q n D l w0 (roM b es c :: roM b es c :: M)) : WC F P c0 Q n D l w0 L := fun hF a w hfr hst => h hF a w hfr (hst.pull ha).dupM
def nxV : Option KV → Value
 | none => .tuple #[.bool false]
 | some kv => .tuple #[.bool true, kv.1, kv.2]
def NxO (todo : List KV) (o : Option KV) (todo' : List KV) : Prop := match o with
 | none => todo = [] ∧ todo' = []
 | some kv => todo.Perm (kv :: todo')
theorem born_apart {es : List MapEntry} (h : (es.map (·.born)).Nodup) {a b : MapEntry} (ha : a ∈ es) (hb : b ∈ es) (e : a.born = b.born) : a = b := by
 induction es with
 | nil => cases ha
 | cons x es ih =>
  rw [List.map_cons, List.nodup_cons] at h
  rcases List.mem_cons.1 ha with h1 | h1
  ·
   rcases List.mem_cons.1 hb with h2 | h2
   ·
    rw [h1, h2]
   ·
    exact absurd (List.mem_map.2 ⟨b, h2, by rw [← e, h1]⟩) h.1
  ·
   rcases List.mem_cons.1 hb with h2 | h2
   ·
    exact absurd (List.mem_map.2 ⟨a, h1, by rw [e, h2]⟩) h.1
   ·
    exact ih h.2 h1 h2
theorem nodup_of_born {es : List MapEntry} (h : (es.map (·.born)).Nodup) : es.Nodup := by
 induction es with
 | nil => exact List.nodup_nil
 | cons x es ih =>
  rw [List.map_cons, List.nodup_cons] at h
  exact List.nodup_cons.2 ⟨fun hm => h.1 (List.mem_map.2 ⟨x, hm, rfl⟩), ih h.2⟩
theorem left_perm {es : Array MapEntry} (h : (es.toList.map (·.born)).Nodup) {seen : Array Nat} {e : MapEntry} (he : e ∈ (leftOf es seen).toList) : (leftOf es seen).toList.Perm (e :: (leftOf es (seen.push e.born)).toList) := by
 have hnd : (leftOf es seen).toList.Nodup := by
  have : es.toList.Nodup := nodup_of_born h
  unfold leftOf
  rw [Array.toList_filter]
  exact this.filter _
 obtain ⟨hem, hes⟩ := mem_left he
 have hnd2 : (leftOf es (seen.push e.born)).toList.Nodup := by
  have : es.toList.Nodup := nodup_of_born h
  unfold leftOf
  rw [Array.toList_filter]
  exact this.filter _
 have hm : ∀ x : MapEntry, x ∈ (leftOf es (seen.push e.born)).toList ↔ x ∈ es.toList ∧ seen.contains x.born = false ∧ x.born ≠ e.born := fun x => by
  unfold leftOf
  rw [Array.toList_filter, List.mem_filter, contains_push]
  simp
 have hm0 : ∀ x : MapEntry, x ∈ (leftOf es seen).toList ↔ x ∈ es.toList ∧ seen.contains x.born = false := fun x => by
  unfold leftOf
  rw [Array.toList_filter, List.mem_filter]
  simp
 refine (List.perm_ext_iff_of_nodup hnd (List.nodup_cons.2 ⟨fun h2 => ((hm e).1 h2).2.2 rfl, hnd2⟩)).2 fun x => ?_
 rw [hm0, List.mem_cons, hm]
 constructor
 ·
  rintro ⟨h1, h2⟩
  by_cases e2 : x.born = e.born
  ·
   exact .inl (born_apart h h1 hem e2)
  ·
   exact .inr ⟨h1, h2, e2⟩
 ·
  rintro (rfl | ⟨h1, h2, _⟩)
  ·
   exact ⟨hem, hes⟩
  ·
   exact ⟨h1, h2⟩
theorem nxtM {x : Operand} {r b : Nat} {es : Array MapEntry} {c : Nat} {todo : List KV} {last : Option KV} {M' : List Ent} (hs : Stm es c) (hx : ev l x = some (.pointer (some ⟨r, 0, none⟩)) := by exact rfl) (ha : At L (itE r b es c todo last) M := by repeat (first | exact At.here | apply At.there)) (hb : At M (roM b es c) M' := by repeat (first | exact At.here | apply At.there)) (hd : Nat.blt d n = true := by rfl)
  (h : ∀ o todo', NxO todo o todo' → WL F P ops Q rest n D ((d, nxV o) :: l) w0 (itE r b es c todo' o :: M)) : WL F P ops Q (⟨some d, .next x false, ty, pos, aft, none⟩ :: rest) n D l w0 L :=
 WL.value (X := Option KV × List KV) (φ := fun p => NxO todo p.1 p.2) (val := fun p => nxV p.1) (L' := fun p => itE r b es c p.2 p.1 :: M) (by simp) hd (fun a w hfr hst => by
  have hst1 := hst.pull ha
  obtain ⟨seen, h1, h2, h2'⟩ := hst1.ok (itE r b es c todo last) (by simp)
  have h3 : w.heap[b]? = some (.map es c) := hst1.ok (roM b es c) (by simp [hb.mem])
  rcases run_next_at (P := P) w ty r b c c seen es c h1 h3 hs.2 (Nat.le_refl _) with ⟨h0, hrun⟩ | ⟨e, he, w1, hal, hrun⟩
  ·
   have hnil : todo = [] := by
    have : (leftOf es seen).toList = [] := by
     rw [← Array.length_toList] at h0
     exact List.eq_nil_of_length_eq_zero h0
    rw [this, List.map_nil] at h2
    exact h2.eq_nil
   subst hnil
   refine ⟨(none, []), w, ⟨rfl, rfl⟩, ?_, hst1.turn (e' := itE r b es c [] none) rfl (fun _ _ _ => rfl) rfl rfl rfl (Nat.le_refl _) ⟨seen, h1, h2, fun kv h => (by cases h)⟩ (fun k hk => .inl hk)⟩
   simp [execOp, hfr.eval hx, hrun, nxV]
  ·
   have hp := left_perm hs.1 he
   have hem := (mem_left he).1
   have hr1 : w1.heap[r]? = some (.mapIter (some b) c seen c) := by rcases hal with rfl | rfl <;> exact h1
   refine ⟨(some (kvOf e), (leftOf es (seen.push e.born)).toList.map kvOf), _, h2.trans (hp.map kvOf), by simp [execOp, hfr.eval hx, hrun, nxV, kvOf]; rfl, ?_⟩
   have hset := MapKept.heap_set (o' := .mapIter (some b) c (seen.push e.born) c) hr1
   have hw : w1.heap = w.heap ∧ w1.os = w.os ∧ w1.tape = w.tape ∧ w1.output = w.output ∧ w.drawn ≤ w1.drawn := by
    rcases hal with rfl | rfl
    ·
     exact ⟨rfl, rfl, rfl, rfl, Nat.le_refl _⟩
    ·
     exact ⟨rfl, rfl, rfl, rfl, Nat.le_succ _⟩
   refine hst1.turn (w' := ChangeMaps.setBlock w1 r _) (e' := itE r b es c _ (some (kvOf e))) rfl (fun k _ hk => ?_) hw.2.1 hw.2.2.1 hw.2.2.2.1 (by show w.heap.size ≤ (w1.heap.setIfInBounds r _).size; rw [Array.size_setIfInBounds, hw.1]; exact Nat.le_refl _) ⟨seen.push e.born, hset.1, .refl _, fun kv hkv => ⟨seen, e, rfl, hem, Option.some.inj hkv⟩⟩ (fun k hk => .inl hk) hw.2.2.2.2
   rw [← hw.1]; exact hset.2 k (fun e => hk e)) (fun p hp => h p.1 p.2 hp)
theorem entM {x : Operand} {r b : Nat} {es : Array MapEntry} {c : Nat} {todo : List KV} {kv : KV} {M' : List Ent} (hs : Stm es c) (hx : ev l x = some (.pointer (some ⟨r, 0, none⟩)) := by exact rfl) (ha : At L (itE r b es c todo (some kv)) M := by repeat (first | exact At.here | apply At.there)) (hb : At L (roM b es c) M' := by repeat (first | exact At.here | apply At.there)) : Yd P n D l w0 L (.entry x) (.tuple #[kv.1, kv.2]) :=
 ⟨by simp, by simp, fun oo ho ac w hfr hst => by
  obtain ⟨seen, h1, _, h3⟩ := hst _ ha.mem
  have h4 : w.heap[b]? = some (.map es c) := hst _ hb.mem
  obtain ⟨seen', e, rfl, he, rfl⟩ := h3 kv rfl
  have hr := run_entry_at (P := P) w r b c seen' es c e h1 h4 he hs.1
  simp [execOp, ho, hfr.eval hx, hr, kvOf]⟩
theorem exN {x : Operand} {o : Option KV} (hx : ev l x = some (nxV o) := by exact rfl) : Yd P n D l w0 L (.extract x 0) (.bool o.isSome) :=
 ⟨by simp, by simp, fun oo ho ac w hfr _ => by
  cases o <;> simp [execOp, ho, hfr.eval hx, nxV] <;> rfl⟩
end rules

section
variable {w0 w : World} {M : List Ent} {e e1 e2 : Ent}
theorem St.split (h : St w0 w (e :: M)) (hx : e.excl = true) (h1 : e1.ok w) (h2 : e2.ok w) (f1 : ∀ k, e1.fp k → e.fp k) (f2 : ∀ k, e2.fp k → e.fp k) (hd : ∀ k, e1.fp k → e2.fp k → False) : St w0 w (e1 :: e2 :: M) := by
 have hp := List.pairwise_cons.1 h.sep
 refine ⟨h.below, fun x hxm => ?_, fun x hxm hf b hb => ?_, List.pairwise_cons.2 ⟨fun x hxm _ b hb hb' => ?_, List.pairwise_cons.2 ⟨fun x hxm _ b hb hb' => ?_, hp.2⟩⟩⟩
 ·
  rcases List.mem_cons.1 hxm with rfl | hxm
  ·
   exact h1
  rcases List.mem_cons.1 hxm with rfl | hxm
  ·
   exact h2
  ·
   exact h.ok x (by simp [hxm])
 ·
  rcases List.mem_cons.1 hxm with rfl | hxm
  ·
   exact h.new e (by simp) (Ent.fresh_of_excl hx) b (f1 b hb)
  rcases List.mem_cons.1 hxm with rfl | hxm
  ·
   exact h.new e (by simp) (Ent.fresh_of_excl hx) b (f2 b hb)
  ·
   exact h.new x (by simp [hxm]) hf b hb
 ·
  rcases List.mem_cons.1 hxm with rfl | hxm
  ·
   exact hd b hb hb'
  ·
   exact hp.1 x hxm (.inl hx) b (f1 b hb) hb'
 ·
  exact hp.1 x hxm (.inl hx) b (f2 b hb) hb'
theorem St.fuse (h : St w0 w (e1 :: e2 :: M)) (x1 : e1.excl = true) (x2 : e2.excl = true) (ho : e.ok w) (hf : ∀ k, e.fp k → e1.fp k ∨ e2.fp k) : St w0 w (e :: M) := by
 have hp := List.pairwise_cons.1 h.sep
 have hp2 := List.pairwise_cons.1 hp.2
 refine ⟨h.below, fun x hxm => ?_, fun x hxm hf' b hb => ?_, List.pairwise_cons.2 ⟨fun x hxm _ b hb hb' => ?_, hp2.2⟩⟩
 ·
  rcases List.mem_cons.1 hxm with rfl | hxm
  ·
   exact ho
  ·
   exact h.ok x (by simp [hxm])
 ·
  rcases List.mem_cons.1 hxm with rfl | hxm
  ·
   rcases hf b hb with h1 | h1
   ·
    exact h.new e1 (by simp) (Ent.fresh_of_excl x1) b h1
   ·
    exact h.new e2 (by simp) (Ent.fresh_of_excl x2) b h1
  ·
   exact h.new x (by simp [hxm]) hf' b hb
 ·
  rcases hf b hb with h1 | h1
  ·
   exact hp.1 x (by simp [hxm]) (.inl x1) b h1 hb'
  ·
   exact hp2.1 x hxm (.inl x2) b h1 hb'
end
end Go.Proofs.YthkliiifllhacaaGreat

namespace Go.Proofs.YthkliiifllhacaaGreat
open Go Go.RowKit

end Go.Proofs.YthkliiifllhacaaGreat

namespace Go.Proofs.YthkliiifllhacaaGreat
open Go Go.RowKit

end Go.Proofs.YthkliiifllhacaaGreat

namespace Go.Proofs.YthkliiifllhacaaGreat
open Go Go.RowKit

end Go.Proofs.YthkliiifllhacaaGreat

namespace Go.Proofs.YthkliiifllhacaaGreat
open Go Go.RowKit

end Go.Proofs.YthkliiifllhacaaGreat

namespace Go.Proofs.YthkliiifllhacaaGreat
open Go Go.RowKit

end Go.Proofs.YthkliiifllhacaaGreat

namespace Go.Proofs.YthkliiifllhacaaGreat
open Go Go.RowKit

end Go.Proofs.YthkliiifllhacaaGreat

namespace Go.Proofs.YthkliiifllhacaaGreat
open Go Go.RowKit

instance : DecidableEq Brd := fun a b => by
 cases a; cases b
 simp only [Brd.mk.injEq]
 infer_instance
def exF : Fmt := ⟨2, 2, false, 2, 3, 0, 4, 2, 2, false⟩
def exP : List Int := [0, 0, 0, 0, 1, 1, 1, 1, 0, 0, 0, 0, 0, 0, 0, 0, 1, 1, 1, 1]
theorem C_law1_Example (w : World) : CR Tryz.prog 66 [] w (fun _ : Option Addr × Nat => True) (fun x => .tuple #[exF.val, .slice x.1 20 x.2]) (fun x => [.own x.1 x.2 3 1 20 (encI exP)]) := by
 refine ⟨en Tryz.func66 Tryz.ntmps66 (St.init w) (h := fun F => ?_)⟩
 refine sr ?_
 refine al (h := fun b0 => ?_)
 refine ww ?_
 refine nr ?_
 refine ww ?_
 refine al (h := fun b1 => ?_)
 first | refine stA (h := ?_) | refine stEA (h := ?_)
 refine nr ?_
 refine ww ?_
 refine bs (h := fun b2 => ?_)
 first | refine stA (h := ?_) | refine stEA (h := ?_)
 refine ww ?_
 refine nq ?_
 refine rtn ?_
 refine q_ret (hR := ?_)
 exact fun w hS => ⟨(_, _), trivial, rfl, hS.sub slz_⟩
end Go.Proofs.YthkliiifllhacaaGreat

namespace Go.Proofs.YthkliiifllhacaaGreat
open Go Go.RowKit

end Go.Proofs.YthkliiifllhacaaGreat

namespace Go.Proofs.YthkliiifllhacaaGreat
open Go Go.RowKit

def wside (p : Pr) : Int := bif decide (p.2 < p.1) then 0 else 1
def wonTo (l : List Pr) : Nat → Pr
 | 0 => (0, 0)
 | k + 1 => match l[k]? with
  | some p => addV (wonTo l k) (wside p)
  | none => wonTo l k
def wonV (l : List Pr) : Pr := wonTo l l.length
theorem wonTo_succ {l : List Pr} {k : Nat} {p : Pr} (h : l[k]? = some p) : wonTo l (k + 1) = addV (wonTo l k) (wside p) := by rw [wonTo, h]
theorem wonTo_bd (l : List Pr) : ∀ k, (0 ≤ (wonTo l k).1 ∧ (wonTo l k).1 ≤ (k : Int)) ∧ 0 ≤ (wonTo l k).2 ∧ (wonTo l k).2 ≤ (k : Int)
 | 0 => by simp [wonTo]
 | k + 1 => by
  have ih := wonTo_bd l k
  rw [wonTo]
  cases l[k]? with
  | none => dsimp only; omega
  | some p => have := addV_bd (side := wside p) ih; simpa using this
theorem wonTo_app (l : List Pr) (p : Pr) : ∀ k, k ≤ l.length → wonTo (l ++ [p]) k = wonTo l k
 | 0, _ => rfl
 | k + 1, hk => by rw [wonTo, wonTo, wonTo_app l p k (by omega), List.getElem?_append_left (by omega)]
theorem wonV_app (l : List Pr) (p : Pr) : wonV (l ++ [p]) = addV (wonV l) (wside p) := by
 unfold wonV
 have hl : (l ++ [p]).length = l.length + 1 := by simp
 rw [hl, wonTo_succ (p := p) (by simp), wonTo_app l p _ (Nat.le_refl _)]
structure WZ where
 (k : Nat) (p : Pr)
def turnR (tie : Bool) (pt : Int) : Int := bif tie then (pt + 1) / 2 else 0
def befTo (first side : Int) : Nat → Int
 | 0 => 0
 | k + 1 => bif decide ((first + (k : Int)) % 2 = side) then befTo first side k + 1 else befTo first side k
def servR (f : Fmt) (first : Int) (game : Nat) (tie : Bool) (pt : Int) : Int :=
 bif !f.dbl then (first + game + turnR tie pt) % 2 else (first + game + turnR tie pt) % 2 + 2 * ((befTo first ((first + game + turnR tie pt) % 2) game + turnR tie pt / 2) % 2)
end Go.Proofs.YthkliiifllhacaaGreat

namespace Go.Proofs.YthkliiifllhacaaGreat
open Go Go.RowKit

structure RS where
 (st : List Pr) (g p : Pr) (server ends balls winner first : Int) (gs : List Gm) (fresh : Bool)
abbrev RS.cells (r : RS) (sA : Option Addr) (sc : Nat) (gA : Option Addr) (gc : Nat) : List Value := [.slice sA r.st.length sc, .int .i64 r.g.1, .int .i64 r.g.2, .int .i64 r.p.1, .int .i64 r.p.2, .int .i64 r.server, .int .i64 r.ends, .int .i64 r.balls, .int .i64 r.winner, .int .i64 r.first, .slice gA r.gs.length gc, .bool r.fresh]
abbrev RS.val (r : RS) (sA : Option Addr) (sc : Nat) (gA : Option Addr) (gc : Nat) : Value := .agg #[.slice sA r.st.length sc, .int .i64 r.g.1, .int .i64 r.g.2, .int .i64 r.p.1, .int .i64 r.p.2, .int .i64 r.server, .int .i64 r.ends, .int .i64 r.balls, .int .i64 r.winner, .int .i64 r.first, .slice gA r.gs.length gc, .bool r.fresh]
structure RS.Bd (r : RS) (K : Int) : Prop where
 k : 0 ≤ K ∧ K ≤ 990
 fst : 0 ≤ r.first ∧ r.first ≤ 1
 g : (0 ≤ r.g.1 ∧ r.g.1 ≤ K) ∧ 0 ≤ r.g.2 ∧ r.g.2 ≤ K
 p : (0 ≤ r.p.1 ∧ r.p.1 ≤ K) ∧ 0 ≤ r.p.2 ∧ r.p.2 ≤ K
 e : 0 ≤ r.ends ∧ r.ends ≤ K
 b : 0 ≤ r.balls ∧ r.balls ≤ K + 1
 s : (r.st.length : Int) ≤ K
 gs : (r.gs.length : Int) ≤ K
end Go.Proofs.YthkliiifllhacaaGreat

namespace Go.Proofs.YthkliiifllhacaaGreat
open Go Go.RowKit

theorem leads_n {p : Pr} {l b : Int} : leadsV p l b = -1 ↔ ¬ (l ≤ p.1 ∧ b ≤ p.1 - p.2) ∧ ¬ (l ≤ p.2 ∧ b ≤ p.2 - p.1) := by
 unfold leadsV
 cases h1 : decide (l ≤ p.1) && decide (b ≤ p.1 - p.2)
 ·
  cases h2 : decide (l ≤ p.2) && decide (b ≤ p.2 - p.1)
  ·
   simp at h1 h2 ⊢; omega
  ·
   simp at h1 h2 ⊢; omega
 ·
  simp at h1 ⊢; omega
theorem leads_0 {p : Pr} {l b : Int} : leadsV p l b = 0 ↔ (l ≤ p.1 ∧ b ≤ p.1 - p.2) := by
 unfold leadsV
 cases h1 : decide (l ≤ p.1) && decide (b ≤ p.1 - p.2)
 ·
  cases h2 : decide (l ≤ p.2) && decide (b ≤ p.2 - p.1) <;> simp at h1 h2 ⊢ <;> omega
 ·
  simp at h1 ⊢; omega
theorem leads_1 {p : Pr} {l b : Int} (hb : 1 ≤ b) : leadsV p l b = 1 ↔ (l ≤ p.2 ∧ b ≤ p.2 - p.1) := by
 unfold leadsV
 cases h1 : decide (l ≤ p.1) && decide (b ≤ p.1 - p.2)
 ·
  cases h2 : decide (l ≤ p.2) && decide (b ≤ p.2 - p.1) <;> simp at h1 h2 ⊢ <;> omega
 ·
  simp at h1 ⊢; omega
theorem add_0 (p : Pr) : addV p 0 = (p.1 + 1, p.2) := rfl
theorem add_1 (p : Pr) : addV p 1 = (p.1, p.2 + 1) := rfl
theorem add_sum (p : Pr) (side : Int) : (addV p side).1 + (addV p side).2 = p.1 + p.2 + 1 := by
 unfold addV; cases decide (side = 0) <;> simp only [cond_true, cond_false] <;> omega
theorem leads_add {p : Pr} {l b side : Int} (hb : 1 ≤ b) (hs : side = 0 ∨ side = 1) (h : leadsV p l b = -1) : leadsV (addV p side) l b = -1 ∨ leadsV (addV p side) l b = side := by
 rw [leads_n] at h
 rcases hs with rfl | rfl
 ·
  by_cases h0 : leadsV (addV p 0) l b = 0
  ·
   exact .inr h0
  ·
   left
   rw [leads_n]
   rw [leads_0] at h0
   rw [add_0] at h0 ⊢
   exact ⟨h0, by simp only; omega⟩
 ·
  by_cases h0 : leadsV (addV p 1) l b = 1
  ·
   exact .inr h0
  ·
   left
   rw [leads_n]
   rw [leads_1 hb] at h0
   rw [add_1] at h0 ⊢
   exact ⟨by simp only; omega, h0⟩
theorem game_add {f : Fmt} {s p : Pr} {t : Bool} {side : Int} (hs : side = 0 ∨ side = 1) (h : gameV f s t p = -1) : gameV f s t (addV p side) = -1 ∨ gameV f s t (addV p side) = side := by
 unfold gameV at *
 cases t
 ·
  cases hn : f.noAd <;> rw [hn] at h <;> exact leads_add (by omega) hs h
 ·
  exact leads_add (by omega) hs h

theorem befTo_half (first side : Int) (hf : 0 ≤ first ∧ first ≤ 1) (hs : 0 ≤ side ∧ side ≤ 1) : ∀ k : Nat, befTo first side k = if first = side then ((k : Int) + 1) / 2 else (k : Int) / 2
 | 0 => by simp [befTo]
 | k + 1 => by
  rw [befTo, befTo_half first side hf hs k]
  by_cases h1 : (first + (k : Int)) % 2 = side
  ·
   rw [decide_eq_true h1]
   by_cases h2 : first = side
   ·
    simp only [if_pos h2, cond_true]; omega
   ·
    simp only [if_neg h2, cond_true]; omega
  ·
   rw [decide_eq_false h1]
   by_cases h2 : first = side
   ·
    simp only [if_pos h2, cond_false]; omega
   ·
    simp only [if_neg h2, cond_false]; omega
theorem serv_eq {f : Fmt} {first : Int} {game : Nat} {ties : List Bool} {tie : Bool} {pt : Int} (hf : 0 ≤ first ∧ first ≤ 1) (hl : ties.length = game + 1) (ht : tieI ties ((ties.length : Int) - 1) = tie) (hp : 0 ≤ pt) : servR f first game tie pt = servesV f first ties pt := by
 have hg : (ties.length : Int) - 1 = game := by omega
 have htu : turnV ties pt = turnR tie pt := by unfold turnV turnR; rw [ht]
 have ht0 : 0 ≤ turnR tie pt := by unfold turnR; cases tie <;> simp <;> omega
 unfold servR servesV
 rw [htu, hg]
 generalize turnR tie pt = t at *
 cases f.dbl
 ·
  rfl
 ·
  simp only [Bool.not_true, cond_false]
  rw [befTo_half first _ hf (by omega)]
  by_cases h : first = (first + (game : Int) + t) % 2
  ·
   rw [if_pos h]; omega
  ·
   rw [if_neg h]; omega

theorem tieI_app {l : List Bool} {b : Bool} : tieI (l ++ [b]) ((((l ++ [b]).length : Nat) : Int) - 1) = b := by
 have : ((((l ++ [b]).length : Nat) : Int) - 1).toNat = l.length := by simp
 rw [tieI, this]
 simp
structure MS.Inv (m : MS) : Prop where
 w : m.winner = -1
 won : m.won = wonV m.st
 tl : m.ties.length = m.gs.length + 1
 te : ∀ (i : Nat) g, m.gs[i]? = some g → m.ties[i]? = some g.tie
 ta : m.tie = brksV (setV m.f m.won) m.g
 g0 : 0 ≤ m.g.1 ∧ 0 ≤ m.g.2
 ld : leadsV m.g m.f.games 2 = -1
 ad : m.f.noAd = true → m.tie = false → m.p.1 < 4 ∧ m.p.2 < 4
 go : gameV m.f (setV m.f m.won) m.tie m.p = -1
 ws : m.won.1 < m.f.sets ∧ m.won.2 < m.f.sets
 p0 : 0 ≤ m.p.1 ∧ 0 ≤ m.p.2
 sv : m.server = servesV m.f m.first m.ties (m.p.1 + m.p.2)
theorem set_to (f : Fmt) (hf : f.Ok) (won : Pr) : 1 ≤ (setV f won).2 ∧ -1 ≤ (setV f won).1 := by
 have h1 := hf.o0
 have h2 := hf.l0
 have h3 := hf.t
 have h4 := hf.lt
 have h5 := hf.g0
 unfold setV
 cases decide (won.1 = f.sets - 1) && decide (won.2 = f.sets - 1) <;> simp only [cond_true, cond_false] <;> omega
theorem game_00 {f : Fmt} (hf : f.Ok) (won : Pr) (t : Bool) : gameV f (setV f won) t (0, 0) = -1 := by
 have := set_to f hf won
 unfold gameV
 cases t <;> cases f.noAd <;> simp only [cond_true, cond_false] <;> rw [leads_n] <;> simp only <;> omega
structure MS.Pre (m : MS) : Prop where
 w : m.winner = -1
 won : m.won = wonV m.st
 tl : m.ties.length = m.gs.length
 te : ∀ (i : Nat) g, m.gs[i]? = some g → m.ties[i]? = some g.tie
 g0 : 0 ≤ m.g.1 ∧ 0 ≤ m.g.2
theorem next_inv {m : MS} (hf : m.f.Ok) (hp : m.Pre) (hld : leadsV m.g m.f.games 2 = -1) (hws : m.won.1 < m.f.sets ∧ m.won.2 < m.f.sets) (hp0 : m.p = (0, 0)) : (nextV m).Inv := by
 have hw : decide (0 ≤ m.winner) = false := by rw [hp.w]; rfl
 have e : nextV m = { m with ties := tiesV m, balls := bif freshV m.f (tiesV m) then m.balls + 1 else m.balls, server := servesV m.f m.first (tiesV m) 0 } := by rw [nextV, hw]; rfl
 rw [e]
 refine ⟨hp.w, hp.won, by simp [tiesV, hp.tl], fun i g hg => ?_, tieI_app, hp.g0, hld, fun _ _ => ?_, ?_, hws, ?_, ?_⟩
 ·
  have hi : i < m.gs.length := (List.getElem?_eq_some_iff.1 hg).1
  show (tiesV m)[i]? = _
  rw [tiesV, List.getElem?_append_left (by rw [hp.tl]; exact hi)]
  exact hp.te i g hg
 ·
  dsimp only; rw [hp0]; simp
 ·
  dsimp only; rw [hp0]; exact game_00 hf _ _
 ·
  dsimp only; rw [hp0]; simp
 ·
  dsimp only; rw [hp0]; rfl

structure MS.Done (m : MS) : Prop where
 w : m.winner = 0 ∨ m.winner = 1
 sv : m.server = -1
def gameOver (m : MS) (side : Int) : MS := { m with gs := m.gs ++ [gameG m side], p := (0, 0), g := addV m.g side, ends := bif decide (((addV m.g side).1 + (addV m.g side).2) % 2 = 1) then m.ends + 1 else m.ends }
def setOver (m : MS) (side : Int) : MS := { m with gs := m.gs ++ [gameG m side], p := (0, 0), st := m.st ++ [addV m.g side], g := (0, 0), won := addV m.won side, ends := bif decide (((addV m.g side).1 + (addV m.g side).2) % 2 = 1) then m.ends + 1 else m.ends }
def matchOver (m : MS) (side : Int) : MS := { m with gs := m.gs ++ [gameG m side], p := (0, 0), st := m.st ++ [addV m.g side], g := (0, 0), won := addV m.won side, winner := side, server := -1 }
inductive Stp (m : MS) (side : Int) : MS → Prop
 | no (hw : m.w side = -1) (hi : (pointN m side).Inv) : Stp m side (pointN m side)
 | game (hw : m.w side = side) (he : setEnds m side = false) (hp : (gameOver m side).Pre) (hi : (nextV (gameOver m side)).Inv) : Stp m side (nextV (gameOver m side))
 | set (hw : m.w side = side) (he : setEnds m side = true) (hl : (addV m.g side).2 < (addV m.g side).1 ↔ side = 0) (ho : max (addV m.won side).1 (addV m.won side).2 < m.f.sets) (hp : (setOver m side).Pre) (hi : (nextV (setOver m side)).Inv) : Stp m side (nextV (setOver m side))
 | over (hw : m.w side = side) (he : setEnds m side = true) (hl : (addV m.g side).2 < (addV m.g side).1 ↔ side = 0) (ho : max (addV m.won side).1 (addV m.won side).2 = m.f.sets) : Stp m side (matchOver m side)

theorem wside_eq {p : Pr} {side : Int} (hs : side = 0 ∨ side = 1) (h : p.2 < p.1 ↔ side = 0) : wside p = side := by
 unfold wside
 by_cases h0 : p.2 < p.1
 ·
  rw [decide_eq_true h0]; have := h.1 h0; simp [this]
 ·
  rw [decide_eq_false h0]
  have : side ≠ 0 := fun e => h0 (h.2 e)
  simp only [cond_false]; omega
theorem set_lead {m : MS} (h : m.Inv) {side : Int} (hs : side = 0 ∨ side = 1) (he : setEnds m side = true) : (addV m.g side).2 < (addV m.g side).1 ↔ side = 0 := by
 unfold setEnds at he
 rw [Bool.or_eq_true, decide_eq_true_eq] at he
 rcases he with ht | hl
 ·
  have hb := h.ta
  rw [ht] at hb
  have := hb.symm
  simp only [brksV, Bool.and_eq_true, decide_eq_true_eq] at this
  rcases hs with rfl | rfl
  ·
   rw [add_0]; dsimp only; omega
  ·
   rw [add_1]; dsimp only; omega
 ·
  rcases leads_add (b := 2) (by omega) hs h.ld with h1 | h1
  ·
   omega
  ·
   rcases hs with rfl | rfl
   ·
    rw [leads_0] at h1; rw [add_0] at h1 ⊢; dsimp only at h1 ⊢; omega
   ·
    rw [leads_1 (by omega)] at h1; rw [add_1] at h1 ⊢; dsimp only at h1 ⊢; omega

theorem point_step {m : MS} (hf : m.f.Ok) (h : m.Inv) {side : Int} (hs : side = 0 ∨ side = 1) : Stp m side (pointV m side) := by
 have h01 : 0 ≤ (addV m.g side).1 ∧ 0 ≤ (addV m.g side).2 := by
  have := h.g0
  unfold addV; cases decide (side = 0) <;> simp only [cond_true, cond_false] <;> omega
 have tie' : ∀ (i : Nat) g, (m.gs ++ [gameG m side])[i]? = some g → m.ties[i]? = some g.tie := fun i g hg => by
  by_cases hi : i < m.gs.length
  ·
   rw [List.getElem?_append_left hi] at hg; exact h.te i g hg
  ·
   have hl : i < (m.gs ++ [gameG m side]).length := (List.getElem?_eq_some_iff.1 hg).1
   obtain rfl : i = m.gs.length := by simp at hl; omega
   simp at hg
   subst hg
   have hlt : m.gs.length < m.ties.length := by rw [h.tl]; omega
   show m.ties[m.gs.length]? = some m.tie
   rw [List.getElem?_eq_getElem hlt]
   have e : m.tie = m.ties.getD m.gs.length false := by
    rw [MS.tie, tieI]
    congr 1
    have := h.tl
    omega
   rw [e, List.getD_eq_getElem?_getD, List.getElem?_eq_getElem hlt]
   rfl
 have htl : m.ties.length = (m.gs ++ [gameG m side]).length := by rw [h.tl]; simp
 rcases game_add (f := m.f) (s := setV m.f m.won) (t := m.tie) hs h.go with hw | hw
 ·
  have e : pointV m side = pointN m side := by
   have : decide (m.w side < 0) = true := by rw [MS.w, hw]; rfl
   rw [pointV, this]; rfl
  rw [e]
  refine .no hw ⟨h.w, h.won, h.tl, h.te, h.ta, h.g0, h.ld, fun hn ht => ?_, hw, h.ws, ?_, rfl⟩
  ·
   have ht' : m.tie = false := ht
   have hp := h.ad hn ht'
   have hg : gameV m.f (setV m.f m.won) m.tie (addV m.p side) = -1 := hw
   unfold gameV at hg
   rw [ht', show m.f.noAd = true from hn] at hg
   simp only [cond_true, cond_false] at hg
   rw [leads_n] at hg
   show (addV m.p side).1 < 4 ∧ (addV m.p side).2 < 4
   rcases hs with rfl | rfl
   ·
    rw [add_0] at hg ⊢; simp only at hg ⊢; omega
   ·
    rw [add_1] at hg ⊢; simp only at hg ⊢; omega
  ·
   show 0 ≤ (addV m.p side).1 ∧ 0 ≤ (addV m.p side).2
   have := h.p0
   rcases hs with rfl | rfl
   ·
    rw [add_0]; simp only; omega
   ·
    rw [add_1]; simp only; omega
 ·
  have hws : m.w side = side := hw
  have hs0 : 0 ≤ side := by omega
  have hlt : decide (m.w side < 0) = false := by rw [hws]; simp; omega
  cases he : setEnds m side
  ·
   have hG : pointG m side = { m with gs := m.gs ++ [gameG m side], p := (0, 0), g := addV m.g side } := by rw [pointG, hws, he]; rfl
   have hE : pointE m side = gameOver m side := by
    rw [pointE, hG, hws]
    have : decide (m.winner < 0) = true := by rw [h.w]; rfl
    simp only [this, Bool.and_true]
    rfl
   rw [pointV, hlt, cond_false, hE]
   have hld : leadsV (addV m.g side) m.f.games 2 = -1 := by
    have := he
    unfold setEnds at this
    rw [Bool.or_eq_false_iff, decide_eq_false_iff_not] at this
    rcases leads_add (b := 2) (by omega) hs h.ld with h1 | h1
    ·
     exact h1
    ·
     omega
   have hp : (gameOver m side).Pre := ⟨h.w, h.won, htl, tie', h01⟩
   exact .game hws he hp (next_inv hf hp hld h.ws rfl)
  ·
   have hl := set_lead h hs he
   have hwn : wonV (m.st ++ [addV m.g side]) = addV m.won side := by rw [wonV_app, wside_eq hs hl, h.won]
   have hle : (addV m.won side).1 ≤ m.f.sets ∧ (addV m.won side).2 ≤ m.f.sets := by
    have := h.ws
    rcases hs with rfl | rfl
    ·
     rw [add_0]; simp only; omega
    ·
     rw [add_1]; simp only; omega
   by_cases ho : max (addV m.won side).1 (addV m.won side).2 = m.f.sets
   ·
    have hG : pointG m side = { m with gs := m.gs ++ [gameG m side], p := (0, 0), st := m.st ++ [addV m.g side], g := (0, 0), won := addV m.won side, winner := side } := by rw [pointG, hws, he]; simp only [cond_true, decide_eq_true ho]
    have hE : pointE m side = { m with gs := m.gs ++ [gameG m side], p := (0, 0), st := m.st ++ [addV m.g side], g := (0, 0), won := addV m.won side, winner := side } := by
     rw [pointE, hG]
     have : decide (side < 0) = false := by simp; omega
     simp only [this, Bool.and_false, cond_false]
    have e : pointV m side = matchOver m side := by
     rw [pointV, hlt, cond_false, hE, nextV]
     simp only [decide_eq_true hs0, cond_true]
     rfl
    rw [e]
    exact .over hws he hl ho
   ·
    have hG : pointG m side = { m with gs := m.gs ++ [gameG m side], p := (0, 0), st := m.st ++ [addV m.g side], g := (0, 0), won := addV m.won side } := by rw [pointG, hws, he]; simp only [cond_true, decide_eq_false ho, cond_false]
    have hE : pointE m side = setOver m side := by
     rw [pointE, hG, hws]
     have : decide (m.winner < 0) = true := by rw [h.w]; rfl
     simp only [this, Bool.and_true]
     rfl
    rw [pointV, hlt, cond_false, hE]
    have hp : (setOver m side).Pre := ⟨h.w, hwn.symm, htl, tie', by simp [setOver]⟩
    refine .set hws he hl (by omega) hp (next_inv hf hp ?_ ?_ rfl)
    ·
     have := hf.g0
     show leadsV (0, 0) m.f.games 2 = -1
     rw [leads_n]; simp only; omega
    ·
     show (addV m.won side).1 < m.f.sets ∧ (addV m.won side).2 < m.f.sets
     omega

theorem begin_pre (f : Fmt) (first : Int) : (begin0 f first).Pre := ⟨rfl, rfl, rfl, fun i g h => by simp [begin0] at h, by simp [begin0]⟩
theorem begin_inv {f : Fmt} (hf : f.Ok) (first : Int) : (beginV f first).Inv :=
 next_inv (m := begin0 f first) hf (begin_pre f first) (by have := hf.g0; rw [leads_n]; simp only [begin0]; omega) (by have := hf.s0; simp only [begin0]; omega) rfl
theorem stp_f {m m' : MS} {side : Int} (h : Stp m side m') : m'.f = m.f ∧ m'.first = m.first := by
 have hn : ∀ m0 : MS, (nextV m0).f = m0.f ∧ (nextV m0).first = m0.first := fun m0 => by unfold nextV; cases decide (0 ≤ m0.winner) <;> exact ⟨rfl, rfl⟩
 cases h with
 | no => exact ⟨rfl, rfl⟩
 | game => exact hn _
 | set => exact hn _
 | over => exact ⟨rfl, rfl⟩
theorem stp_inv {m m' : MS} {side : Int} (hs : side = 0 ∨ side = 1) (h : Stp m side m') : m'.Inv ∨ m'.Done := by
 cases h with
 | no _ hi => exact .inl hi
 | game _ _ _ hi => exact .inl hi
 | set _ _ _ _ _ hi => exact .inl hi
 | over => exact .inr ⟨hs, rfl⟩
theorem playTo_inv {f : Fmt} {first : Int} {xs : List Int} (hf : f.Ok) : ∀ {k : Nat} {m : MS}, playTo f first xs k = some m → m.f = f ∧ m.first = first ∧ (m.Inv ∨ m.Done)
 | 0, m, h => by
  simp only [playTo, Option.some.injEq] at h
  subst h
  exact ⟨rfl, rfl, .inl (begin_inv hf first)⟩
 | k + 1, m, h => by
  rw [playTo] at h
  cases h1 : playTo f first xs k with
  | none => rw [h1] at h; cases h
  | some m0 =>
   cases h2 : xs[k]? with
   | none => rw [h1, h2] at h; cases h
   | some s =>
    rw [h1, h2] at h
    simp only at h
    obtain ⟨e1, e2, hi⟩ := playTo_inv hf h1
    cases hb : sideBad s || decide (0 ≤ m0.winner)
    ·
     rw [hb] at h
     simp only [cond_false, Option.some.injEq] at h
     subst h
     rw [Bool.or_eq_false_iff] at hb
     have hs := side_ok hb.1
     rcases hi with hi | hd
     ·
      have hst := point_step (e1 ▸ hf) hi hs
      have := stp_f hst
      exact ⟨this.1.trans e1, this.2.trans e2, stp_inv hs hst⟩
     ·
      have := hb.2
      rw [decide_eq_false_iff_not] at this
      have := hd.w
      omega
    ·
     rw [hb] at h; cases h
end Go.Proofs.YthkliiifllhacaaGreat

namespace Go.Proofs.YthkliiifllhacaaGreat
open Go Go.RowKit

end Go.Proofs.YthkliiifllhacaaGreat

namespace Go.Proofs.YthkliiifllhacaaGreat
open Go Go.RowKit

structure Spot where
 (first : Int) (st : List Pr) (g p : Pr)
theorem Spot.ext' {a b : Spot} (h1 : a.first = b.first) (h2 : a.st = b.st) (h3 : a.g = b.g) (h4 : a.p = b.p) : a = b := by
 cases a; cases b; cases h1; cases h2; cases h3; cases h4; rfl
instance : DecidableEq Spot := fun a b => decidable_of_iff (a.first = b.first ∧ a.st = b.st ∧ a.g = b.g ∧ a.p = b.p) ⟨fun h => Spot.ext' h.1 h.2.1 h.2.2.1 h.2.2.2, fun h => by subst h; exact ⟨rfl, rfl, rfl, rfl⟩⟩
def spotOf (m : MS) : Spot := ⟨m.first, m.st, m.g, m.p⟩
def ldS (p : Pr) (side l b : Int) : Bool := bif decide (side = 1) then decide (l ≤ p.2) && decide (b ≤ p.2 - p.1) else decide (l ≤ p.1) && decide (b ≤ p.1 - p.2)
def topS (s : Spot) : Int := max (wonV s.st).1 (wonV s.st).2
def tieS (f : Fmt) (s : Spot) : Bool := brksV (setV f (wonV s.st)) s.g
def leastS (f : Fmt) (s : Spot) : Int := bif tieS f s then (setV f (wonV s.st)).2 else 4
def byS (f : Fmt) (s : Spot) : Int := bif tieS f s then 2 else bif f.noAd then 1 else 2
def gotS (f : Fmt) (s : Spot) (side : Int) : Bool := ldS (addV s.p side) side (leastS f s) (byS f s)
def endS' (f : Fmt) (s : Spot) (side : Int) : Bool := tieS f s || ldS (addV s.g side) side f.games 2
def stepS (f : Fmt) (s : Spot) (side : Int) : Spot :=
 bif gotS f s side then (bif endS' f s side then ⟨s.first, s.st ++ [addV s.g side], (0, 0), (0, 0)⟩ else ⟨s.first, s.st, addV s.g side, (0, 0)⟩) else ⟨s.first, s.st, s.g, addV s.p side⟩
def nxtS (f : Fmt) (s : Spot) (side : Int) : Option Spot := bif decide (topS s = f.sets) then none else some (stepS f s side)
def sumP (l : List Pr) : Int := (l.map fun p => p.1 + p.2).sum
def cntS (s : Spot) : Int := sumP s.st + (s.g.1 + s.g.2)
def winS (f : Fmt) (s : Spot) : Int := bif decide ((wonV s.st).1 = f.sets) then 0 else bif decide ((wonV s.st).2 = f.sets) then 1 else -1
def srvS (f : Fmt) (s : Spot) : Int := bif decide (topS s = f.sets) then -1 else servR f s.first (cntS s).toNat (tieS f s) (s.p.1 + s.p.2)
structure Rch (m : MS) : Prop where
 inv : m.Inv ∨ (m.Done ∧ max (wonV m.st).1 (wonV m.st).2 = m.f.sets ∧ m.winner = winS m.f (spotOf m))
 cnt : (m.gs.length : Int) = cntS (spotOf m)

theorem lds_eq {p : Pr} {side l b : Int} (hs : side = 0 ∨ side = 1) (hb : 1 ≤ b) (h : leadsV p l b = -1 ∨ leadsV p l b = side) : ldS p side l b = decide (leadsV p l b = side) := by
 rcases hs with rfl | rfl
 ·
  rw [ldS, decide_eq_false (by decide), cond_false, Bool.eq_iff_iff, Bool.and_eq_true, decide_eq_true_eq, decide_eq_true_eq, decide_eq_true_eq, leads_0]
 ·
  rw [ldS, decide_eq_true rfl, cond_true, Bool.eq_iff_iff, Bool.and_eq_true, decide_eq_true_eq, decide_eq_true_eq, decide_eq_true_eq, leads_1 hb]
theorem sumP_app (l : List Pr) (p : Pr) : sumP (l ++ [p]) = sumP l + (p.1 + p.2) := by
 unfold sumP; rw [List.map_append, List.sum_append]; simp
theorem next_spot (m : MS) : spotOf (nextV m) = spotOf m ∧ (nextV m).gs = m.gs ∧ (nextV m).f = m.f := by
 unfold nextV; cases decide (0 ≤ m.winner) <;> exact ⟨rfl, rfl, rfl⟩
section
variable {m : MS}
theorem got_eq (h : m.Inv) {side : Int} (hs : side = 0 ∨ side = 1) : gotS m.f (spotOf m) side = decide (m.w side = side) := by
 have hw := game_add (f := m.f) (s := setV m.f m.won) (t := m.tie) hs h.go
 have ht : tieS m.f (spotOf m) = m.tie := by rw [h.ta, h.won]; rfl
 have hv : setV m.f (wonV (spotOf m).st) = setV m.f m.won := by rw [h.won]; rfl
 rw [gotS, leastS, byS, ht, hv, MS.w]
 unfold gameV at hw ⊢
 cases htt : m.tie
 ·
  rw [htt] at hw
  cases hn : m.f.noAd
  ·
   rw [hn] at hw; exact lds_eq hs (by decide) hw
  ·
   rw [hn] at hw; exact lds_eq hs (by decide) hw
 ·
  rw [htt] at hw
  exact lds_eq (b := 2) hs (by decide) hw
theorem ends_eq (h : m.Inv) {side : Int} (hs : side = 0 ∨ side = 1) (hw : m.w side = side) : endS' m.f (spotOf m) side = setEnds m side := by
 have ht : tieS m.f (spotOf m) = m.tie := by rw [h.ta, h.won]; rfl
 have hl := leads_add (b := 2) (by decide) hs h.ld
 rw [endS', ht, setEnds]
 have e := lds_eq (p := addV m.g side) (l := m.f.games) (b := 2) hs (by decide) hl
 show (m.tie || ldS (addV m.g side) side m.f.games 2) = _
 rw [e]
 congr 1
 rw [Bool.eq_iff_iff, decide_eq_true_eq, decide_eq_true_eq]
 omega
theorem inv_top (h : m.Inv) : decide (topS (spotOf m) = m.f.sets) = false := by
 have := h.ws
 rw [h.won] at this
 apply decide_eq_false
 show ¬ max (wonV m.st).1 (wonV m.st).2 = m.f.sets
 omega
end
theorem rch_next {m : MS} (h1 : (nextV m).Inv) (h2 : (m.gs.length : Int) = cntS (spotOf m)) : Rch (nextV m) :=
 ⟨.inl h1, by rw [(next_spot m).1, (next_spot m).2.1]; exact h2⟩
theorem rch_begin {f : Fmt} (hf : f.Ok) (first : Int) : Rch (beginV f first) := rch_next (m := begin0 f first) (begin_inv hf first) rfl
theorem begin_spot (f : Fmt) (first : Int) : spotOf (beginV f first) = ⟨first, [], (0, 0), (0, 0)⟩ := (next_spot (begin0 f first)).1
theorem spot_step {m : MS} (hf : m.f.Ok) (h : m.Inv) (hc : (m.gs.length : Int) = cntS (spotOf m)) {side : Int} (hs : side = 0 ∨ side = 1) : nxtS m.f (spotOf m) side = some (spotOf (pointV m side)) ∧ Rch (pointV m side) := by
 have hst := point_step hf h hs
 have hn : nxtS m.f (spotOf m) side = some (stepS m.f (spotOf m) side) := by rw [nxtS, inv_top h]; rfl
 have hg := got_eq h hs
 rw [hn]
 unfold stepS
 generalize hm' : pointV m side = m' at hst
 have hsum := add_sum m.g side
 cases hst with
 | no hw hi =>
  rw [hg, decide_eq_false (by rw [hw]; omega)]
  exact ⟨rfl, .inl hi, hc⟩
 | game hw he hp hi =>
  rw [hg, decide_eq_true hw, ends_eq h hs hw, he]
  refine ⟨by rw [(next_spot _).1]; rfl, rch_next hi ?_⟩
  show ((m.gs ++ [gameG m side]).length : Int) = sumP m.st + ((addV m.g side).1 + (addV m.g side).2)
  rw [List.length_append, List.length_singleton, hsum]
  have : (m.gs.length : Int) = sumP m.st + (m.g.1 + m.g.2) := hc
  omega
 | set hw he hl ho hp hi =>
  rw [hg, decide_eq_true hw, ends_eq h hs hw, he]
  refine ⟨by rw [(next_spot _).1]; rfl, rch_next hi ?_⟩
  show ((m.gs ++ [gameG m side]).length : Int) = sumP (m.st ++ [addV m.g side]) + (0 + 0)
  rw [List.length_append, List.length_singleton, sumP_app, hsum]
  have : (m.gs.length : Int) = sumP m.st + (m.g.1 + m.g.2) := hc
  omega
 | over hw he hl ho =>
  rw [hg, decide_eq_true hw, ends_eq h hs hw, he]
  have hwn : wonV (m.st ++ [addV m.g side]) = addV m.won side := by rw [wonV_app, wside_eq hs hl, h.won]
  refine ⟨rfl, .inr ⟨⟨hs, rfl⟩, ?_, ?_⟩, ?_⟩
  ·
   show max (wonV (m.st ++ [addV m.g side])).1 (wonV (m.st ++ [addV m.g side])).2 = m.f.sets
   rw [hwn]; exact ho
  ·
   show side = winS m.f ⟨m.first, m.st ++ [addV m.g side], (0, 0), (0, 0)⟩
   have hws := h.ws
   unfold winS
   dsimp only
   rw [hwn]
   rcases hs with rfl | rfl
   ·
    rw [add_0] at ho ⊢
    dsimp only at ho ⊢
    rw [decide_eq_true (by omega)]; rfl
   ·
    rw [add_1] at ho ⊢
    dsimp only at ho ⊢
    rw [decide_eq_false (by omega), decide_eq_true (by omega)]; rfl
  ·
   show ((m.gs ++ [gameG m side]).length : Int) = sumP (m.st ++ [addV m.g side]) + (0 + 0)
   rw [List.length_append, List.length_singleton, sumP_app, hsum]
   have : (m.gs.length : Int) = sumP m.st + (m.g.1 + m.g.2) := hc
   omega
theorem playTo_rch {f : Fmt} {first : Int} {xs : List Int} (hf : f.Ok) : ∀ {k : Nat} {m : MS}, playTo f first xs k = some m → Rch m
 | 0, m, h => by
  simp only [playTo, Option.some.injEq] at h
  subst h
  exact rch_begin hf first
 | k + 1, m, h => by
  rw [playTo] at h
  cases h1 : playTo f first xs k with
  | none => rw [h1] at h; cases h
  | some m0 =>
   cases h2 : xs[k]? with
   | none => rw [h1, h2] at h; cases h
   | some s =>
    rw [h1, h2] at h
    dsimp only at h
    have hr := playTo_rch hf h1
    have hmf := (playTo_inv hf h1).1
    cases hb : sideBad s || decide (0 ≤ m0.winner)
    ·
     rw [hb] at h
     obtain rfl := Option.some.inj h
     simp only [Bool.or_eq_false_iff, decide_eq_false_iff_not] at hb
     have hs : s = 0 ∨ s = 1 := by
      have := hb.1
      unfold sideBad at this
      simp only [Bool.and_eq_false_iff, Bool.not_eq_false', decide_eq_true_eq] at this
      omega
     rcases hr.inv with hi | ⟨hd, _⟩
     ·
      exact (spot_step (hmf ▸ hf) hi hr.cnt hs).2
     ·
      have := hd.w; omega
    ·
     rw [hb] at h; cases h
theorem rch_win {m : MS} (h : Rch m) : m.winner = winS m.f (spotOf m) := by
 rcases h.inv with hi | ⟨_, _, hw⟩
 ·
  have := hi.ws
  rw [hi.won] at this
  rw [hi.w, winS, decide_eq_false (show ¬ (wonV (spotOf m).st).1 = m.f.sets by show ¬ (wonV m.st).1 = _; omega), decide_eq_false (show ¬ (wonV (spotOf m).st).2 = m.f.sets by show ¬ (wonV m.st).2 = _; omega)]; rfl
 ·
  exact hw
theorem rch_srv {m : MS} (hfs : 0 ≤ m.first ∧ m.first ≤ 1) (h : Rch m) : m.server = srvS m.f (spotOf m) := by
 rcases h.inv with hi | ⟨hd, ht, _⟩
 ·
  rw [srvS, inv_top hi, cond_false, hi.sv]
  have ht : tieS m.f (spotOf m) = m.tie := by rw [hi.ta, hi.won]; rfl
  have hc : (cntS (spotOf m)).toNat = m.gs.length := by rw [← h.cnt, Int.toNat_natCast]
  rw [ht, hc]
  refine (serv_eq hfs hi.tl rfl ?_).symm
  have := hi.p0
  show 0 ≤ m.p.1 + m.p.2
  omega
 ·
  rw [srvS, decide_eq_true (show topS (spotOf m) = m.f.sets from ht), cond_true]; exact hd.sv
end Go.Proofs.YthkliiifllhacaaGreat

namespace Go.Proofs.YthkliiifllhacaaGreat
open Go Go.RowKit

abbrev Mn := Int × Int × Int
abbrev En := Spot × Mn
def joinE (a b : Mn) : Mn := (min a.1 b.1, max a.2.1 b.2.1, min a.2.2 b.2.2)
def putC : List En → En → List En
 | [], e => [e]
 | x :: l, e => if x.1 = e.1 then (x.1, joinE x.2 e.2) :: l else x :: putC l e
def normC (l : List En) : List En := l.foldl putC []
def getC (l : List En) (s : Spot) : Option Mn := (l.find? fun e => decide (e.1 = s)).map (·.2)
def joinO (a b : Option Mn) : Option Mn := match a, b with
 | none, b => b
 | some x, none => some x
 | some x, some y => some (joinE x y)
def denC : List En → Spot → Option Mn
 | [], _ => none
 | e :: l, s => if e.1 = s then joinO (some e.2) (denC l s) else denC l s
theorem joinE_comm (a b : Mn) : joinE a b = joinE b a := Prod.ext (by simp only [joinE]; omega) (Prod.ext (by simp only [joinE]; omega) (by simp only [joinE]; omega))
theorem joinE_assoc (a b c : Mn) : joinE (joinE a b) c = joinE a (joinE b c) := Prod.ext (by simp only [joinE]; omega) (Prod.ext (by simp only [joinE]; omega) (by simp only [joinE]; omega))
theorem joinO_none (a : Option Mn) : joinO a none = a := by cases a <;> rfl
theorem joinO_comm (a b : Option Mn) : joinO a b = joinO b a := by
 cases a <;> cases b <;> simp only [joinO, joinE_comm]
theorem joinO_assoc (a b c : Option Mn) : joinO (joinO a b) c = joinO a (joinO b c) := by
 cases a <;> cases b <;> cases c <;> simp only [joinO, joinE_assoc]
theorem den_perm {l l' : List En} (h : l.Perm l') (s : Spot) : denC l s = denC l' s := by
 induction h with
 | nil => rfl
 | cons x _ ih => rw [denC, denC, ih]
 | swap x y l =>
  simp only [denC]
  by_cases h1 : x.1 = s <;> by_cases h2 : y.1 = s
  ·
   simp only [if_pos h1, if_pos h2]
   rw [← joinO_assoc, ← joinO_assoc, joinO_comm (some y.2)]
  ·
   simp only [if_pos h1, if_neg h2]
  ·
   simp only [if_neg h1, if_pos h2]
  ·
   simp only [if_neg h1, if_neg h2]
 | trans _ _ ih1 ih2 => rw [ih1, ih2]
theorem get_nil (s : Spot) : getC [] s = none := rfl
theorem get_cons (x : En) (l : List En) (s : Spot) : getC (x :: l) s = if x.1 = s then some x.2 else getC l s := by
 unfold getC
 rw [List.find?_cons]
 by_cases h : x.1 = s
 ·
  rw [decide_eq_true h, if_pos h]; rfl
 ·
  rw [decide_eq_false h, if_neg h]
theorem get_put (l : List En) (e : En) (s : Spot) : getC (putC l e) s = if e.1 = s then joinO (getC l s) (some e.2) else getC l s := by
 induction l with
 | nil => rw [putC, get_cons, get_nil]; rfl
 | cons x l ih =>
  rw [putC]
  by_cases hx : x.1 = e.1
  ·
   rw [if_pos hx, get_cons, get_cons]
   by_cases he : e.1 = s
   ·
    rw [if_pos (hx.trans he), if_pos he, if_pos (hx.trans he)]; rfl
   ·
    rw [if_neg (fun h => he (hx ▸ h)), if_neg he, if_neg (fun h => he (hx ▸ h))]
  ·
   rw [if_neg hx, get_cons, get_cons, ih]
   by_cases he : e.1 = s
   ·
    have hs : ¬ x.1 = s := fun h => hx (h.trans he.symm)
    simp only [if_pos he, if_neg hs]
   ·
    simp only [if_neg he]
theorem get_fold (l acc : List En) (s : Spot) : getC (l.foldl putC acc) s = joinO (getC acc s) (denC l s) := by
 induction l generalizing acc with
 | nil => rw [List.foldl_nil, denC, joinO_none]
 | cons e l ih =>
  rw [List.foldl_cons, ih, get_put, denC]
  by_cases h : e.1 = s
  ·
   rw [if_pos h, if_pos h, joinO_assoc]
  ·
   rw [if_neg h, if_neg h]
theorem get_norm (l : List En) (s : Spot) : getC (normC l) s = denC l s := by
 rw [normC, get_fold, get_nil]; rfl
def Keys (l : List En) : Prop := (l.map (·.1)).Nodup
theorem put_keys {l : List En} (e : En) (s : Spot) : s ∈ (putC l e).map (·.1) ↔ s ∈ l.map (·.1) ∨ s = e.1 := by
 induction l with
 | nil => simp [putC]
 | cons x l ih =>
  rw [putC]
  by_cases hx : x.1 = e.1
  ·
   rw [if_pos hx]
   simp only [List.map_cons, List.mem_cons]
   constructor
   ·
    exact fun h => .inl h
   ·
    rintro (h | h)
    ·
     exact h
    ·
     exact .inl (h.trans hx.symm)
  ·
   rw [if_neg hx]
   simp only [List.map_cons, List.mem_cons, ih]
   constructor
   ·
    rintro (h | h | h)
    ·
     exact .inl (.inl h)
    ·
     exact .inl (.inr h)
    ·
     exact .inr h
   ·
    rintro ((h | h) | h)
    ·
     exact .inl h
    ·
     exact .inr (.inl h)
    ·
     exact .inr (.inr h)
theorem put_nodup {l : List En} (e : En) (h : Keys l) : Keys (putC l e) := by
 induction l with
 | nil => unfold Keys putC; simp
 | cons x l ih =>
  unfold Keys at h ⊢
  rw [List.map_cons, List.nodup_cons] at h
  rw [putC]
  by_cases hx : x.1 = e.1
  ·
   rw [if_pos hx, List.map_cons, List.nodup_cons]; exact h
  ·
   rw [if_neg hx, List.map_cons, List.nodup_cons]
   refine ⟨fun hm => ?_, ih h.2⟩
   rcases (put_keys e x.1).1 hm with h1 | h1
   ·
    exact h.1 h1
   ·
    exact hx h1
theorem norm_nodup (l : List En) : Keys (normC l) := by
 have : ∀ (l acc : List En), Keys acc → Keys (l.foldl putC acc) := fun l => by
  induction l with
  | nil => exact fun acc h => h
  | cons e l ih => exact fun acc h => ih _ (put_nodup e h)
 exact this l [] List.nodup_nil
theorem mem_get {l : List En} (h : Keys l) (e : En) : e ∈ l ↔ getC l e.1 = some e.2 := by
 induction l with
 | nil => simp [getC]
 | cons x l ih =>
  unfold Keys at h
  rw [List.map_cons, List.nodup_cons] at h
  rw [get_cons, List.mem_cons, ih h.2]
  by_cases hx : x.1 = e.1
  ·
   rw [if_pos hx]
   constructor
   ·
    rintro (h1 | h1)
    ·
     rw [h1]
    ·
     exfalso
     have : e ∈ l := (ih h.2).2 h1
     exact h.1 (hx ▸ List.mem_map.2 ⟨e, this, rfl⟩)
   ·
    exact fun h1 => .inl (Prod.ext hx.symm (Option.some.inj h1).symm)
  ·
   rw [if_neg hx]
   constructor
   ·
    rintro (h1 | h1)
    ·
     exact absurd (congrArg Prod.fst h1).symm hx
    ·
     exact h1
   ·
    exact fun h1 => .inr h1
theorem keys_nodup {l : List En} (h : Keys l) : l.Nodup := by
 induction l with
 | nil => exact List.nodup_nil
 | cons x l ih =>
  unfold Keys at h
  rw [List.map_cons, List.nodup_cons] at h
  exact List.nodup_cons.2 ⟨fun hm => h.1 (List.mem_map.2 ⟨x, hm, rfl⟩), ih h.2⟩
theorem perm_of_get {l l' : List En} (h : Keys l) (h' : Keys l') (hg : ∀ s, getC l s = getC l' s) : l.Perm l' :=
 (List.perm_ext_iff_of_nodup (keys_nodup h) (keys_nodup h')).2 fun e => by rw [mem_get h, mem_get h', hg]
theorem norm_perm {l l' : List En} (h : l.Perm l') : (normC l).Perm (normC l') :=
 perm_of_get (norm_nodup l) (norm_nodup l') fun s => by rw [get_norm, get_norm, den_perm h]

def upE (e : En) (s : Spot) : En := (s, (e.2.1 + 1, e.2.2.1 + 1, e.2.2.2))
def goE (f : Fmt) (side : Int) (e : En) (p : Int) : List En := if side = -1 ∨ side = p then (match nxtS f e.1 p with | some s => [upE e s] | none => []) else []
def stepI (f : Fmt) (l : List En) (side : Int) : List En := l.flatMap fun e => goE f side e 0 ++ goE f side e 1
def stepC (f : Fmt) (l : List En) (side : Int) : List En := normC (stepI f l side)
def iterC (f : Fmt) (l : List En) : Nat → List En
 | 0 => l
 | k + 1 => stepC f (iterC f l k) (-1)
def missI (f : Fmt) (l : List En) (a : Int) : Nat → List En
 | 0 => []
 | k + 1 => missI f l a k ++ (if a ≤ (k : Int) then iterC f l k else [])
def missC (f : Fmt) (l : List En) (a : Int) (b : Nat) : List En := normC (missI f l a (b + 1))
theorem step_perm (f : Fmt) {l l' : List En} (side : Int) (h : l.Perm l') : (stepC f l side).Perm (stepC f l' side) := norm_perm (h.flatMap_right _)
theorem iter_perm (f : Fmt) {l l' : List En} (h : l.Perm l') : ∀ k, (iterC f l k).Perm (iterC f l' k)
 | 0 => h
 | k + 1 => step_perm f (-1) (iter_perm f h k)
theorem missI_perm (f : Fmt) {l l' : List En} (a : Int) (h : l.Perm l') : ∀ k, (missI f l a k).Perm (missI f l' a k)
 | 0 => .refl _
 | k + 1 => by
  rw [missI, missI]
  refine (missI_perm f a h k).append ?_
  by_cases ha : a ≤ (k : Int)
  ·
   rw [if_pos ha, if_pos ha]; exact iter_perm f h k
  ·
   rw [if_neg ha, if_neg ha]
theorem miss_perm (f : Fmt) {l l' : List En} (a : Int) (b : Nat) (h : l.Perm l') : (missC f l a b).Perm (missC f l' a b) := norm_perm (missI_perm f a h _)
structure Nt where
 (kind side : Int) (pair : Pr)
def holdS (f : Fmt) (x : Nt) (s : Spot) : Bool :=
 bif decide (x.kind = 3) then decide (s.p = x.pair) else bif decide (x.kind = 4) then decide (s.g = x.pair) && decide (s.p = (0, 0)) else
 bif decide (x.kind = 5) then decide (wonV s.st = x.pair) && (decide (s.g = (0, 0)) && decide (s.p = (0, 0))) else
 bif decide (x.kind = 6) then decide (0 ≤ srvS f s) && decide (srvS f s % 2 = x.side) else decide (winS f s = x.side)
def testC (f : Fmt) (x : Nt) (l : List En) : List En := l.filter fun e => holdS f x e.1
def afterC (f : Fmt) (l : List En) (x : Nt) : List En :=
 if x.kind = 1 then stepC f l x.side else if x.kind = 2 then missC f l x.pair.1 x.pair.2.toNat else testC f x l
theorem after_perm (f : Fmt) {l l' : List En} (x : Nt) (h : l.Perm l') : (afterC f l x).Perm (afterC f l' x) := by
 unfold afterC
 by_cases h1 : x.kind = 1
 ·
  rw [if_pos h1, if_pos h1]; exact step_perm f _ h
 ·
  rw [if_neg h1, if_neg h1]
  by_cases h2 : x.kind = 2
  ·
   rw [if_pos h2, if_pos h2]; exact miss_perm f _ _ h
  ·
   rw [if_neg h2, if_neg h2]; exact h.filter _
end Go.Proofs.YthkliiifllhacaaGreat
