/- The texts of the walk, part 4. -/
import Derived.Test.YtncoimjgjpcipaaJ3
namespace Go.Proofs.Ytncoimjgjpcipaa
open Go Go.RowKit

theorem can_play {f : Fmt} {first : Int} {ps : List Int} (hf : f.Ok) (h : CanP f first ps) : ∀ k, k ≤ ps.length → ∃ m, playTo f first ps k = some m ∧ spotOf m = spS f first ps k
  | 0, _ => ⟨_, rfl, begin_spot f first⟩
  | k + 1, hk => by
    obtain ⟨m, h1, h2⟩ := can_play hf h k (by omega)
    obtain ⟨p, hp⟩ : ∃ p, ps[k]? = some p := ⟨_, List.getElem?_eq_getElem (by omega)⟩
    obtain ⟨hs, ht⟩ := h k p hp
    have hr := playTo_rch hf h1
    have hmf := (playTo_inv hf h1).1
    have hin : m.Inv := by
      rcases hr.inv with hi | ⟨hd, hmx, _⟩
      · exact hi
      · exact absurd (by rw [← h2]; show max (wonV m.st).1 (wonV m.st).2 = f.sets; rw [hmx, hmf]) ht
    have hnb : (sideBad p || decide (0 ≤ m.winner)) = false := by
      have hw := hin.w
      have : sideBad p = false := by rcases hs with rfl | rfl <;> rfl
      rw [this, Bool.false_or]
      exact decide_eq_false (by omega)
    have hst := playTo_succ h1 hp
    rw [hnb] at hst
    refine ⟨_, hst, ?_⟩
    have := (spot_step (hmf ▸ hf) hin hr.cnt hs).1
    rw [h2, hmf, nxtS, decide_eq_false ht] at this
    rw [spS_succ hp]
    exact (Option.some.inj this).symm
structure PlayN (f : Fmt) (s : Spot) (r : List Int) (m : MS) : Prop where
  o : playO f s.first r = some m
  e : playE f s.first r = 0
  sp : spotOf m = s
  w : m.winner = winS f s
  sv : m.server = srvS f s
theorem can_playO {f : Fmt} {first : Int} {ps : List Int} (hf : f.Ok) (hc0 : chkF f = 0) (h1 : first = 0 ∨ first = 1) (h : CanP f first ps) (hn : ps.length ≤ 600) : ∃ m, playO f first ps = some m ∧ playE f first ps = 0 ∧ spotOf m = spS f first ps ps.length ∧ m.winner = winS f (spotOf m) ∧ m.server = srvS f (spotOf m) := by
  obtain ⟨m, h2, h3⟩ := can_play hf h ps.length (Nat.le_refl _)
  have hO := plays_O hf h1 hn h2 hc0
  have hr := playTo_rch hf h2
  obtain ⟨i1, i2, _⟩ := playTo_inv hf h2
  refine ⟨m, hO, playE_some hO, h3, ?_, ?_⟩
  · rw [rch_win hr, i1]
  · rw [rch_srv (by omega) hr, i1]
theorem NdOk.play {f : Fmt} {N : List Nd} {mn : Nat → Pr} {K : Int} {x : Nd} (hf : f.Ok) (hc0 : chkF f = 0) (hK : K ≤ 600) (h : NdOk f N mn K x) {r : List Int} (hn : (N.map (·.b)).Nodup) (hr : RowN N x r) : ∃ m, PlayN f x.s r m := by
  obtain ⟨r', h1, h2, h3, h4⟩ := h.row
  obtain rfl := h1.uniq hn hr
  obtain ⟨m, g1, g2, g3, g4, g5⟩ := can_playO hf hc0 h.fs h3 (by omega)
  rw [h4] at g3
  rw [g3] at g4 g5
  exact ⟨m, g1, g2, g3, g4, g5⟩
theorem row_next {f : Fmt} {N : List Nd} {x y : Nd} {K : Int} (hx : x ∈ N) (h : ∃ r, RowN N x r ∧ (r.length : Int) ≤ K ∧ CanP f x.s.first r ∧ spS f x.s.first r r.length = x.s) (hbf : y.bf = some x.b) (hsd : y.sd = 0 ∨ y.sd = 1) (hn : nxtS f x.s y.sd = some y.s) :
    y.s.first = x.s.first ∧ ∃ r, RowN N y r ∧ (r.length : Int) ≤ K + 1 ∧ CanP f y.s.first r ∧ spS f y.s.first r r.length = y.s := by
  obtain ⟨r, h1, h2, h3, h4⟩ := h
  have hfs : y.s.first = x.s.first := by
    have ht : topS x.s ≠ f.sets := fun e => by rw [nxtS, decide_eq_true e] at hn; cases hn
    rw [nxtS, decide_eq_false ht] at hn
    have := Option.some.inj hn
    rw [← this, step_first]
  rw [← h4] at hn
  obtain ⟨g1, g2⟩ := can_app h3 hsd hn
  refine ⟨hfs, r ++ [y.sd], .snoc hx hbf h1, by rw [List.length_append, List.length_singleton]; omega, by rw [hfs]; exact g1, by rw [hfs]; exact g2⟩
theorem PoolOk.next {f : Fmt} {N : List Nd} {mn : Nat → Pr} {K : Int} (h : PoolOk f N mn K) {x y : Nd} (hx : x ∈ N) (hne : ∀ z ∈ N, z.b ≠ y.b) (hbf : y.bf = some x.b) (hsd : y.sd = 0 ∨ y.sd = 1) (hn : nxtS f x.s y.sd = some y.s) : PoolOk f (y :: N) (upN mn y.b ((mn x.b).1 + 1, (mn x.b).2 + 1)) (K + 1) := by
  have hk := h.ok x hx
  obtain ⟨h1, h2⟩ := row_next hx hk.row hbf hsd hn
  have := hk.lo; have := hk.hi
  exact (h.up (by omega)).add hne (by rw [h1]; exact hk.fs) h2 (by dsimp only; omega) (by dsimp only; omega)
theorem PoolOk.copy {f : Fmt} {N : List Nd} {mn : Nat → Pr} {K : Int} (h : PoolOk f N mn K) {x y : Nd} (hx : x ∈ N) (hne : ∀ z ∈ N, z.b ≠ y.b) (hs : y.s = x.s) (hbf : y.bf = x.bf) (hsd : y.sd = x.sd) : PoolOk f (y :: N) (upN mn y.b (mn x.b)) K := by
  have hk := h.ok x hx
  obtain ⟨r, h1, h2⟩ := hk.row
  exact h.add hne (by rw [hs]; exact hk.fs) ⟨r, h1.copy hbf hsd, by rw [hs]; exact h2⟩ hk.lo hk.hi
theorem PoolOk.first {f : Fmt} {N : List Nd} {mn : Nat → Pr} {K : Int} (h : PoolOk f N mn K) (hK : 0 ≤ K) {y : Nd} (hne : ∀ z ∈ N, z.b ≠ y.b) (hf : y.s.first = 0 ∨ y.s.first = 1) (hs : y.s = ⟨y.s.first, [], (0, 0), (0, 0)⟩) (hbf : y.bf = none) : PoolOk f (y :: N) (upN mn y.b (0, 0)) K :=
  h.add hne hf ⟨[], .nil hbf, hK, fun n p hp => (by cases hp), by rw [hs]; rfl⟩ ⟨Int.le_refl _, hK⟩ ⟨Int.le_refl _, hK⟩

def QOk (f : Fmt) (x : Nt) (y : Spot) (q : List Int) : Prop :=
  if x.kind = 1 then ∃ p, q = [p] ∧ (x.side = -1 ∨ x.side = p) else if x.kind = 2 then x.pair.1 ≤ (q.length : Int) ∧ (q.length : Int) ≤ x.pair.2 else q = [] ∧ holdS f x y = true
theorem row_read {f : Fmt} {cf first : Int} {xs : List Nt} {j : Nat} {s u : Spot} {r q : List Int} {x : Nt} (h : Row_ f cf xs j s first r) (hx : xs[j]? = some x) (hc : CanP f first (r ++ q)) (hsp : spS f first (r ++ q) (r ++ q).length = u) (hq : QOk f x u q) : Row_ f cf xs (j + 1) u first (r ++ q) := by
  refine ⟨h.fs, h.cf, hc, ⟨x, r.length, hx, (fit_app h.fit).2, ?_⟩, hsp⟩
  unfold hitV
  unfold QOk at hq
  by_cases h1 : x.kind = 1
  · rw [if_pos h1] at hq ⊢
    obtain ⟨p, rfl, hp⟩ := hq
    refine ⟨by rw [List.length_append]; rfl, Nat.le_refl _, hp.imp id fun e => ?_⟩
    rw [List.getElem?_append_right (Nat.le_refl _), Nat.sub_self, e]; rfl
  · rw [if_neg h1] at hq ⊢
    by_cases h2 : x.kind = 2
    · rw [if_pos h2] at hq ⊢
      rw [List.length_append]
      exact ⟨by omega, by omega, Nat.le_refl _⟩
    · rw [if_neg h2] at hq ⊢
      obtain ⟨rfl, hq⟩ := hq
      rw [List.append_nil] at hsp ⊢
      exact ⟨rfl, by rw [hsp]; exact hq⟩
end Go.Proofs.Ytncoimjgjpcipaa

namespace Go.Proofs.Ytncoimjgjpcipaa
open Go Go.RowKit

section rules
variable {F : Fence} {P : Program} {ops : Array Oper} {Q : Exit → Act → World → Prop} {rest : List Oper} {n : Nat} {D : List Deferred} {l : Env} {w0 : World} {L M : List Ent}
variable {d : Nat} {ty : TypeId} {pos : String} {aft : Array Edge}
theorem pool_cell {w : World} {T : TypeId} {N : List Nd} {mn : Nat → Pr} {y : Nd} (hok : (poolE T N mn none).ok w) (hy : y ∈ N) (i : Nat) : w.cell? ⟨y.b, i, none⟩ = (nodeC y (mn y.b))[i]? := by
  rw [cell_of_row w y.b i _ T (0, 0) (hok y hy (by simp))]; simp
theorem ldQ {x : Operand} {t : TypeId} {size bytes : Nat} {z : Value} {zl : List Value} (hT : Ty P t false size bytes z zl := by infer_instance) {y : Nd} {o : Nat} {T : TypeId} {N : List Nd} {mn : Nat → Pr} {v : Value} (hy : y ∈ N)
    (hx : ev l x = some (.pointer (some ⟨y.b, o, none⟩)) := by exact rfl) (ha : At L (poolE T N mn none) M := by repeat (first | exact At.here | apply At.there)) (hc : (nodeC y (mn y.b))[o]? = some v := by exact rfl) : Yd P n D l w0 L (.load t x) (v) :=
  ⟨by simp, by simp, fun oo ho ac w hfr hst => by
    have hcell : w.cell? ⟨y.b, o, none⟩ = some v := by rw [pool_cell (hst _ ha.mem) hy, hc]
    simp [execOp, ho, hfr.eval hx, Instr.loadAt, Instr.sureAddr, run_loadVar1 hT hcell]⟩
theorem ldQA {x : Operand} {t : TypeId} {size bytes : Nat} {z : Value} {zl : List Value} (hT : Ty P t true size bytes z zl := by infer_instance) {y : Nd} {o : Nat} {T : TypeId} {N : List Nd} {mn : Nat → Pr} {vs : List Value} (hy : y ∈ N)
    (hx : ev l x = some (.pointer (some ⟨y.b, o, none⟩)) := by exact rfl) (ha : At L (poolE T N mn none) M := by repeat (first | exact At.here | apply At.there)) (hc : Tk (nodeC y (mn y.b)) o size vs := by repeat (first | exact Tk.nil | apply Tk.cons | apply Tk.skip)) : Yd P n D l w0 L (.load t x) (.agg vs.toArray) :=
  ⟨by simp, by simp, fun oo ho ac w hfr hst => by
    have hcell : ∀ j v, vs[j]? = some v → w.cell? ((⟨y.b, o, none⟩ : Addr).add j) = some v := fun j v hj => by
      rw [add_lit, pool_cell (hst _ ha.mem) hy]; exact hc.out.2 j v hj
    simp [execOp, ho, hfr.eval hx, Instr.loadAt, Instr.sureAddr, run_loadVarA hT hc.out.1 hcell]⟩
theorem stQ {x y : Operand} {t : TypeId} {bytes : Nat} {z : Value} {zl : List Value} (hT : Ty P t true 2 bytes z zl := by infer_instance) {o : Nd} {T : TypeId} {N : List Nd} {mn : Nat → Pr} {v : Pr} (ho : o ∈ N) (hn : (N.map (·.b)).Nodup)
    (hx : ev l x = some (.pointer (some ⟨o.b, 18, none⟩)) := by exact rfl) (hy : ev l y = some (.agg #[.int .i64 v.1, .int .i64 v.2]) := by exact rfl)
    (ha : At L (poolE T N mn none) M := by repeat (first | exact At.here | apply At.there))
    (h : WL F P ops Q rest n D l w0 (poolE T N (upN mn o.b v) none :: M)) : WL F P ops Q (⟨none, .store t x y, ty, pos, aft, none⟩ :: rest) n D l w0 L :=
  WL.skipop (by simp) (fun ac w hfr hst => by
    obtain ⟨w', hr, hs⟩ := run_storeCells (P := P) [.int .i64 v.1, .int .i64 v.2] (nodeC o (mn o.b)) 18 0 w ((hst.pull ha).pOpen ho) (fun _ => by show 18 + 0 + 2 ≤ 20; omega) (fun u hu => by
      rcases List.mem_cons.1 hu with rfl | hu
      · rfl
      · rw [List.mem_singleton] at hu; subst hu; rfl)
    refine ⟨w', ?_, St.pClose (v := v) hs ho hn⟩
    simp [execOp, hfr.eval hx, hfr.eval hy, Instr.storeAt, Instr.sureAddr, storeVar, run_sizeOf hT, Value.cells, hr]) h
theorem neqN {x y : Operand} {t u : TypeId} (hT : P.underlying t = some (.pointer (P.pointee t))) {o : Option Nat} (hx : ev l x = some (bpO o) := by exact rfl) (hy : ev l y = some (.pointer none) := by exact rfl) : Yd P n D l w0 L (.binOp .neq t x y u) (.bool o.isSome) :=
  ⟨by simp, by simp, fun oo ho ac w hfr _ => by
    have h1 : ∀ d : Nat, (Op.equalIn (d + 1) t (bpO o) (.pointer none)).run P w = .ok (!o.isSome) w := fun d => by
      cases o <;> simp only [Op.equalIn, Sem.run_bind, run_underlying hT, Result.andThen_ok, Option.map] <;> rfl
    have h2 : (Op.equal t (bpO o) (.pointer none)).run P w = .ok (!o.isSome) w := h1 9999
    simp only [execOp, ho, hfr.eval hx, hfr.eval hy, binOp, Sem.run_bind, eqGuard]
    simp [h2]⟩
theorem run_field {t k off ft size : Nat} (hT : FieldTy P t k off ft size) (cs : Array Value) (w : World) : (Instr.field t (.agg cs) k).run P w = (part ft cs off).run P w := by
  have hu := hT.und
  cases hq : P.underlying t with
  | none => simp [hq] at hu
  | some d =>
    cases d <;> simp [hq, fldD] at hu
    rename_i fs
    obtain ⟨f, hf, h1, h2⟩ := hu
    subst h1 h2
    simp [Instr.field, run_underlying hq, hf, asAgg]
theorem fdv1 {x : Operand} {t k off ft size sz bytes : Nat} {z : Value} {zl cs : List Value} {v : Value} (hT : FieldTy P t k off ft size := by infer_instance) (hE : Ty P ft false sz bytes z zl := by infer_instance) (hx : ev l x = some (.agg cs.toArray) := by exact rfl) (hv : cs[off]? = some v := by exact rfl) : Yd P n D l w0 L (.field t x k) v :=
  ⟨by simp, by simp, fun oo ho ac w hfr hst => by
    simp [execOp, ho, hfr.eval hx, run_field hT, part, run_isAgg hE, hv]⟩
theorem fdvA {x : Operand} {t k off ft size sz bytes : Nat} {z : Value} {zl cs vs : List Value} (hT : FieldTy P t k off ft size := by infer_instance) (hE : Ty P ft true sz bytes z zl := by infer_instance) (hx : ev l x = some (.agg cs.toArray) := by exact rfl) (hc : (cs.drop off).take sz = vs := by exact rfl) : Yd P n D l w0 L (.field t x k) (.agg vs.toArray) :=
  ⟨by simp, by simp, fun oo ho ac w hfr hst => by
    subst hc
    simp [execOp, ho, hfr.eval hx, run_field hT, part, run_isAgg hE, run_sizeOf hE, List.extract_toArray]⟩
theorem slAh {x hi : Operand} {t e : TypeId} {len size bytes b o : Nat} {agg : Bool} {z : Value} {zl : List Value} (hT : ArrayTy P t len e := by infer_instance) (hE : Ty P e agg size bytes z zl := by infer_instance) {k : IntKind} {i : Int}
    (hx : ev l x = some (.pointer (some ⟨b, o, none⟩)) := by exact rfl) (hi' : ev l hi = some (.int k i) := by exact rfl) (hb : 0 ≤ i ∧ i ≤ len) (hne : len ≠ 0) : Yd P n D l w0 L (.slice t x none (some hi) none) (.slice (some ⟨b, o, none⟩) i.toNat len) :=
  ⟨by simp, by simp, fun oo ho ac w hfr hst => by
    simp [execOp, ho, hfr.eval hx, hfr.eval hi', Instr.sliceAt, Instr.sureAddr, run_underlying hT.und, Instr.sliceBounds, run_sizeOf hE, Addr.add, sliceBound_ok (P := P) hb, hne]⟩
end rules
theorem rd_sets {w : World} {b : Nat} {T : TypeId} {s : Spot} (h5 : s.st.length ≤ 5) (h : (Ent.blk b T (spotC s)).ok w) : Rd w (some ⟨b, 2, none⟩) 2 s.st.length (encP s.st) := by
  refine rd_blkA h (by simp [encP]) (fun c hc => ?_) (fun c hc v hv => ?_) fun k c hk j v hj => ?_
  · obtain ⟨p, _, rfl⟩ := List.mem_map.1 hc; rfl
  · obtain ⟨p, _, rfl⟩ := List.mem_map.1 hc
    rcases List.mem_cons.1 hv with rfl | hv
    · rfl
    · rw [List.mem_singleton] at hv; subst hv; rfl
  · have hkl : k < s.st.length := by
      have := (List.getElem?_eq_some_iff.1 hk).1
      simpa [encP] using this
    have hc : c = [.int .i64 (ep s k).1, .int .i64 (ep s k).2] := by
      have := encP_at (List.getElem?_eq_getElem hkl)
      rw [hk] at this
      have := Option.some.inj this
      rw [this, ep, List.getD_eq_getElem?_getD, List.getElem?_eq_getElem hkl]; rfl
    subst hc
    have hj2 : j = 0 ∨ j = 1 := by
      have := (List.getElem?_eq_some_iff.1 hj).1
      simp at this; omega
    have hk5 : k = 0 ∨ k = 1 ∨ k = 2 ∨ k = 3 ∨ k = 4 := by omega
    rcases hj2 with rfl | rfl <;> rcases hk5 with rfl | rfl | rfl | rfl | rfl <;> exact hj
end Go.Proofs.Ytncoimjgjpcipaa

namespace Go.Proofs.Ytncoimjgjpcipaa
open Go Go.RowKit

theorem C_card_within (n lo hi : Int) (w : World) : C0 Try.prog 66 [.int .i64 n, .int .i64 lo, .int .i64 hi] w (.bool (wi n lo hi)) := by
  refine ⟨en Try.func66 Try.ntmps66 (St.init w) (h := fun F => ?_)⟩
  refine sq (h := ?_)
  refine rg (h := ?_)
  refine WL.y (hy := asg) (h := ?_)
  refine nl (h := ?_)
  refine q_seq (h := ?_)
  refine sq (h := ?_)
  refine rg (h := ?_)
  refine WL.y (hy := mv) (h := ?_)
  refine WL.y (hy := mv) (h := ?_)
  refine WL.y (hy := leq) (h := ?_)
  refine WL.y (hy := mv) (h := ?_)
  apply brAnd 4 10 14 (by exact rfl)
  · intro hb0
    refine un (h := ?_)
    refine WL.y (hy := mv) (h := ?_)
    refine un (h := ?_)
    refine WL.y (hy := mv) (h := ?_)
    refine un (h := ?_)
    refine WL.y (hy := leq) (h := ?_)
    refine WL.y (hy := (by first | exact pkT | exact pkF)) (h := ?_)
    exact mg (by repeat (first | exact trivial | refine ⟨rfl, ?_⟩ | refine ⟨by rw [hb0]; rfl, ?_⟩)) (by repeat (first | exact SubL.nil | (apply SubL.cons; (repeat (first | exact At.here | apply At.there))) | exact SubL.refl _ | apply SubL.skip))
  · intro hb0
    repeat (first | refine un (h := ?_) | refine sk (h := ?_) | refine WL.y (hy := pkF) (h := ?_) | refine WL.y (hy := pkT) (h := ?_))
    exact mg (by repeat (first | exact trivial | refine ⟨rfl, ?_⟩ | refine ⟨by rw [hb0]; rfl, ?_⟩)) (by repeat (first | exact SubL.nil | (apply SubL.cons; (repeat (first | exact At.here | apply At.there))) | exact SubL.refl _ | apply SubL.skip))
  refine WL.y (hy := asg) (h := ?_)
  refine nl (h := ?_)
  refine q_seq (h := ?_)
  refine rtn (h := ?_)
  refine q_ret (hR := ?_)
  exact fun w hS => ⟨rfl, hS.sub (by repeat (first | exact SubL.nil | (apply SubL.cons; (repeat (first | exact At.here | apply At.there))) | exact SubL.refl _ | apply SubL.skip))⟩
theorem C_card_more (p : Pr) (side : Int) (hp : Sm p) (w : World) : C0 Try.prog 114 [pv p, .int .i64 side] w (pv (addV p side)) := by
  obtain ⟨⟨h1, h2⟩, h3, h4⟩ := hp
  refine ⟨en Try.func114 Try.ntmps114 (St.init w) (h := fun F => ?_)⟩
  refine sq (h := ?_)
  refine rg (h := ?_)
  refine bxA (h := fun b0 => ?_)
  refine al (h := fun b1 => ?_)
  refine nl (h := ?_)
  refine q_seq (h := ?_)
  refine sq (h := ?_)
  refine sq (h := ?_)
  refine rg (h := ?_)
  refine WL.y (hy := mv) (h := ?_)
  refine WL.y (hy := eql) (h := ?_)
  refine nl (h := ?_)
  refine q_seq (h := ?_)
  refine cd (by exact rfl) (fun h0 => ?_) (fun h0 => ?_)
  · skip
    refine rg (h := ?_)
    refine WL.y (hy := (by first | exact fa | exact faE)) (h := ?_)
    refine WL.y (hy := (by first | exact ld | exact ldE)) (h := ?_)
    refine WL.y (hy := addI) (h := ?_)
    refine WL.y (hy := (by first | exact fa | exact faE)) (h := ?_)
    first | refine st (h := ?_) | refine stE (h := ?_)
    refine nl (h := ?_)
    refine q_seq (h := ?_)
    refine sq (h := ?_)
    refine rg (h := ?_)
    refine WL.y (hy := (by first | exact ldA | exact ldEA)) (h := ?_)
    first | refine stA (h := ?_) | refine stEA (h := ?_)
    refine nl (h := ?_)
    refine q_seq (h := ?_)
    refine rtn (h := ?_)
    refine q_ret (hR := ?_)
    exact fun w hS => ⟨cdT' (x := (p.1 + 1, p.2)) (fun p : Pr => Ending.returned (pv p)) h0, hS.sub (by repeat (first | exact SubL.nil | (apply SubL.cons; (repeat (first | exact At.here | apply At.there))) | exact SubL.refl _ | apply SubL.skip))⟩
  · skip
    refine rg (h := ?_)
    refine WL.y (hy := (by first | exact fa | exact faE)) (h := ?_)
    refine WL.y (hy := (by first | exact ld | exact ldE)) (h := ?_)
    refine WL.y (hy := addI) (h := ?_)
    refine WL.y (hy := (by first | exact fa | exact faE)) (h := ?_)
    first | refine st (h := ?_) | refine stE (h := ?_)
    refine nl (h := ?_)
    refine q_seq (h := ?_)
    refine sq (h := ?_)
    refine rg (h := ?_)
    refine WL.y (hy := (by first | exact ldA | exact ldEA)) (h := ?_)
    first | refine stA (h := ?_) | refine stEA (h := ?_)
    refine nl (h := ?_)
    refine q_seq (h := ?_)
    refine rtn (h := ?_)
    refine q_ret (hR := ?_)
    exact fun w hS => ⟨cdF' (y := (p.1, p.2 + 1)) (fun p : Pr => Ending.returned (pv p)) h0, hS.sub (by repeat (first | exact SubL.nil | (apply SubL.cons; (repeat (first | exact At.here | apply At.there))) | exact SubL.refl _ | apply SubL.skip))⟩
theorem C_card_leads (p : Pr) (side l b : Int) (hp : Sm p) (w : World) : C0 Try.prog 115 [pv p, .int .i64 side, .int .i64 l, .int .i64 b] w (.bool (ldS p side l b)) := by
  obtain ⟨⟨h1, h2⟩, h3, h4⟩ := hp
  refine ⟨en Try.func115 Try.ntmps115 (St.init w) (h := fun F => ?_)⟩
  refine sq (h := ?_)
  refine rg (h := ?_)
  refine bxA (h := fun b0 => ?_)
  refine WL.y (hy := asg) (h := ?_)
  refine nl (h := ?_)
  refine q_seq (h := ?_)
  refine sq (h := ?_)
  refine sq (h := ?_)
  refine rg (h := ?_)
  refine WL.y (hy := mv) (h := ?_)
  refine WL.y (hy := eql) (h := ?_)
  refine nl (h := ?_)
  refine q_seq (h := ?_)
  refine cd (by exact rfl) (fun h0 => ?_) (fun h0 => ?_)
  · skip
    refine rg (h := ?_)
    refine WL.y (hy := (by first | exact fa | exact faE)) (h := ?_)
    refine WL.y (hy := (by first | exact ld | exact ldE)) (h := ?_)
    refine WL.y (hy := (by first | exact fa | exact faE)) (h := ?_)
    refine WL.y (hy := (by first | exact ld | exact ldE)) (h := ?_)
    refine WL.y (hy := (by first | exact fa | exact faE)) (h := ?_)
    first | refine st (h := ?_) | refine stE (h := ?_)
    refine WL.y (hy := (by first | exact fa | exact faE)) (h := ?_)
    first | refine st (h := ?_) | refine stE (h := ?_)
    refine nl (h := ?_)
    refine q_seq (h := ?_)
    refine sq (h := ?_)
    refine rg (h := ?_)
    refine WL.y (hy := (by first | exact fa | exact faE)) (h := ?_)
    refine WL.y (hy := (by first | exact ld | exact ldE)) (h := ?_)
    refine WL.y (hy := mv) (h := ?_)
    refine WL.y (hy := geq) (h := ?_)
    refine WL.y (hy := mv) (h := ?_)
    apply brAnd 8 21 29 (by exact rfl)
    · intro hb1
      refine un (h := ?_)
      refine WL.y (hy := (by first | exact fa | exact faE)) (h := ?_)
      refine un (h := ?_)
      refine WL.y (hy := (by first | exact ld | exact ldE)) (h := ?_)
      refine un (h := ?_)
      refine WL.y (hy := (by first | exact fa | exact faE)) (h := ?_)
      refine un (h := ?_)
      refine WL.y (hy := (by first | exact ld | exact ldE)) (h := ?_)
      refine un (h := ?_)
      refine WL.y (hy := subI) (h := ?_)
      refine un (h := ?_)
      refine WL.y (hy := mv) (h := ?_)
      refine un (h := ?_)
      refine WL.y (hy := geq) (h := ?_)
      refine WL.y (hy := (by first | exact pkT | exact pkF)) (h := ?_)
      exact mg (by repeat (first | exact trivial | refine ⟨rfl, ?_⟩ | refine ⟨by rw [hb1]; rfl, ?_⟩)) (by repeat (first | exact SubL.nil | (apply SubL.cons; (repeat (first | exact At.here | apply At.there))) | exact SubL.refl _ | apply SubL.skip))
    · intro hb1
      repeat (first | refine un (h := ?_) | refine sk (h := ?_) | refine WL.y (hy := pkF) (h := ?_) | refine WL.y (hy := pkT) (h := ?_))
      exact mg (by repeat (first | exact trivial | refine ⟨rfl, ?_⟩ | refine ⟨by rw [hb1]; rfl, ?_⟩)) (by repeat (first | exact SubL.nil | (apply SubL.cons; (repeat (first | exact At.here | apply At.there))) | exact SubL.refl _ | apply SubL.skip))
    refine WL.y (hy := asg) (h := ?_)
    refine nl (h := ?_)
    refine q_seq (h := ?_)
    refine rtn (h := ?_)
    refine q_ret (hR := ?_)
    exact fun w hS => ⟨by rw [ldS, h0]; rfl, hS.sub (by repeat (first | exact SubL.nil | (apply SubL.cons; (repeat (first | exact At.here | apply At.there))) | exact SubL.refl _ | apply SubL.skip))⟩
  · skip
    refine skp (h := ?_)
    refine q_seq (h := ?_)
    refine sq (h := ?_)
    refine rg (h := ?_)
    refine WL.y (hy := (by first | exact fa | exact faE)) (h := ?_)
    refine WL.y (hy := (by first | exact ld | exact ldE)) (h := ?_)
    refine WL.y (hy := mv) (h := ?_)
    refine WL.y (hy := geq) (h := ?_)
    refine WL.y (hy := mv) (h := ?_)
    apply brAnd 8 21 29 (by exact rfl)
    · intro hb2
      refine un (h := ?_)
      refine WL.y (hy := (by first | exact fa | exact faE)) (h := ?_)
      refine un (h := ?_)
      refine WL.y (hy := (by first | exact ld | exact ldE)) (h := ?_)
      refine un (h := ?_)
      refine WL.y (hy := (by first | exact fa | exact faE)) (h := ?_)
      refine un (h := ?_)
      refine WL.y (hy := (by first | exact ld | exact ldE)) (h := ?_)
      refine un (h := ?_)
      refine WL.y (hy := subI) (h := ?_)
      refine un (h := ?_)
      refine WL.y (hy := mv) (h := ?_)
      refine un (h := ?_)
      refine WL.y (hy := geq) (h := ?_)
      refine WL.y (hy := (by first | exact pkT | exact pkF)) (h := ?_)
      exact mg (by repeat (first | exact trivial | refine ⟨rfl, ?_⟩ | refine ⟨by rw [hb2]; rfl, ?_⟩)) (by repeat (first | exact SubL.nil | (apply SubL.cons; (repeat (first | exact At.here | apply At.there))) | exact SubL.refl _ | apply SubL.skip))
    · intro hb2
      repeat (first | refine un (h := ?_) | refine sk (h := ?_) | refine WL.y (hy := pkF) (h := ?_) | refine WL.y (hy := pkT) (h := ?_))
      exact mg (by repeat (first | exact trivial | refine ⟨rfl, ?_⟩ | refine ⟨by rw [hb2]; rfl, ?_⟩)) (by repeat (first | exact SubL.nil | (apply SubL.cons; (repeat (first | exact At.here | apply At.there))) | exact SubL.refl _ | apply SubL.skip))
    refine WL.y (hy := asg) (h := ?_)
    refine nl (h := ?_)
    refine q_seq (h := ?_)
    refine rtn (h := ?_)
    refine q_ret (hR := ?_)
    exact fun w hS => ⟨by rw [ldS, h0]; rfl, hS.sub (by repeat (first | exact SubL.nil | (apply SubL.cons; (repeat (first | exact At.here | apply At.there))) | exact SubL.refl _ | apply SubL.skip))⟩
theorem C_spot_won (s : Spot) (h5 : s.st.length ≤ 5) (w : World) : C0 Try.prog 69 [.agg (spotC s).toArray] w (pv (wonV s.st)) := by
  refine ⟨en Try.func69 Try.ntmps69 (St.init w) (h := fun F => ?_)⟩
  refine sq (h := ?_)
  refine rg (h := ?_)
  refine bxA (h := fun b0 => ?_)
  refine al (h := fun b1 => ?_)
  refine nl (h := ?_)
  refine q_seq (h := ?_)
  refine sq (h := ?_)
  refine sq (h := ?_)
  refine rg (h := ?_)
  refine WL.y (hy := (by first | exact fa | exact faE)) (h := ?_)
  refine WL.y (hy := (by first | exact fa | exact faE)) (h := ?_)
  refine WL.y (hy := (by first | exact ld | exact ldE)) (h := ?_)
  refine WL.y (hy := slAh (hb := by omega) (hne := by decide)) (h := ?_)
  rw [Int.toNat_natCast]
  refine WL.y (hy := lenS) (h := ?_)
  refine WL.y (hy := mv) (h := ?_)
  refine nl (h := ?_)
  refine q_seq (h := ?_)
  refine bk (h := ?_)
  refine lp (X := WZ) (I := fun z => z.k ≤ s.st.length ∧ z.p = wonTo s.st z.k) (le := fun z => [(2, .pointer (some ⟨b1, 0, none⟩)), (8, .slice (some ⟨b0, 2, none⟩) s.st.length 5), (9, .int .i64 s.st.length), (10, .int .i64 z.k)]) (Le := fun z => [.blk b1 38 [.int .i64 z.p.1, .int .i64 z.p.2], .blk b0 89 (spotC s)]) (μ := fun z => s.st.length - z.k) ⟨0, (0, 0)⟩ ⟨Nat.zero_le _, rfl⟩ (by repeat (first | exact trivial | refine ⟨rfl, ?_⟩)) (by repeat (first | exact SubL.nil | (apply SubL.cons; (repeat (first | exact At.here | apply At.there))) | exact SubL.refl _ | apply SubL.skip)) (fun z hz => ?_)
  obtain ⟨hzk, hzp⟩ := hz
  refine sq (h := ?_)
  refine rg (h := ?_)
  refine WL.y (hy := lss) (h := ?_)
  refine nl (h := ?_)
  refine q_seq (h := ?_)
  refine sq (h := ?_)
  refine cd (by exact rfl) (fun h0 => ?_) (fun h0 => ?_)
  · skip
    have hkn : z.k < s.st.length := by simp only [decide_eq_true_eq] at h0; omega
    obtain ⟨q, hq⟩ : ∃ q, s.st[z.k]? = some q := ⟨_, List.getElem?_eq_getElem (by omega)⟩
    have hqe := encP_at hq
    have hst := wonTo_succ hq
    have hbd := wonTo_bd s.st z.k
    rw [← hzp] at hbd hst
    refine skp (h := ?_)
    refine q_seq (h := ?_)
    refine sq (h := ?_)
    refine bk (h := ?_)
    refine sq (h := ?_)
    refine rg (h := ?_)
    refine WL.y (hy := ix (es := encP s.st) (hr := Rds.there (Rds.any fun w hw => rd_sets h5 hw)) (hb := by omega)) (h := ?_)
    refine WL.y (hy := ldEA (hr := Rds.there (Rds.any fun w hw => rd_sets h5 hw)) (hk := hqe)) (h := ?_)
    refine al (h := fun b2 => ?_)
    first | refine stA (h := ?_) | refine stEA (h := ?_)
    refine nl (h := ?_)
    refine q_seq (h := ?_)
    refine sq (h := ?_)
    refine rg (h := ?_)
    refine WL.y (hy := (by first | exact fa | exact faE)) (h := ?_)
    refine WL.y (hy := (by first | exact ld | exact ldE)) (h := ?_)
    refine WL.y (hy := (by first | exact fa | exact faE)) (h := ?_)
    refine WL.y (hy := (by first | exact ld | exact ldE)) (h := ?_)
    refine WL.y (hy := gtr) (h := ?_)
    refine nl (h := ?_)
    refine q_seq (h := ?_)
    refine cd (by exact rfl) (fun h1 => ?_) (fun h1 => ?_)
    · skip
      have hw : addV z.p (wside q) = (z.p.1 + 1, z.p.2) := by
        have h' : decide (q.2 < q.1) = true := h1
        rw [wside, h']; rfl
      refine rg (h := ?_)
      refine WL.y (hy := (by first | exact fa | exact faE)) (h := ?_)
      refine WL.y (hy := (by first | exact ld | exact ldE)) (h := ?_)
      refine WL.y (hy := addI) (h := ?_)
      refine WL.y (hy := (by first | exact fa | exact faE)) (h := ?_)
      first | refine st (h := ?_) | refine stE (h := ?_)
      refine nl (h := ?_)
      refine q_blk_norm (h := ?_)
      refine q_seq (h := ?_)
      refine rg (h := ?_)
      refine WL.y (hy := addI) (h := ?_)
      refine WL.y (hy := mv) (h := ?_)
      refine nl (h := ?_)
      refine rn (x := z) ⟨z.k + 1, addV z.p (wside q)⟩ ⟨by dsimp only; omega, hst.symm⟩ (by dsimp only; omega) (by repeat (first | exact trivial | refine ⟨rfl, ?_⟩)) (by rw [hw]; exact (by repeat (first | exact SubL.nil | (apply SubL.cons; (repeat (first | exact At.here | apply At.there))) | exact SubL.refl _ | apply SubL.skip)))
    · skip
      have hw : addV z.p (wside q) = (z.p.1, z.p.2 + 1) := by
        have h' : decide (q.2 < q.1) = false := h1
        rw [wside, h']; rfl
      refine rg (h := ?_)
      refine WL.y (hy := (by first | exact fa | exact faE)) (h := ?_)
      refine WL.y (hy := (by first | exact ld | exact ldE)) (h := ?_)
      refine WL.y (hy := addI) (h := ?_)
      refine WL.y (hy := (by first | exact fa | exact faE)) (h := ?_)
      first | refine st (h := ?_) | refine stE (h := ?_)
      refine nl (h := ?_)
      refine q_blk_norm (h := ?_)
      refine q_seq (h := ?_)
      refine rg (h := ?_)
      refine WL.y (hy := addI) (h := ?_)
      refine WL.y (hy := mv) (h := ?_)
      refine nl (h := ?_)
      refine rn (x := z) ⟨z.k + 1, addV z.p (wside q)⟩ ⟨by dsimp only; omega, hst.symm⟩ (by dsimp only; omega) (by repeat (first | exact trivial | refine ⟨rfl, ?_⟩)) (by rw [hw]; exact (by repeat (first | exact SubL.nil | (apply SubL.cons; (repeat (first | exact At.here | apply At.there))) | exact SubL.refl _ | apply SubL.skip)))
  · skip
    have hkn : z.k = s.st.length := by simp only [decide_eq_false_iff_not] at h0; omega
    refine et (h := ?_)
    refine q_then_exit (h := ?_)
    refine q_then_exit (h := ?_)
    refine q_blk_hit (h := ?_)
    refine q_seq (h := ?_)
    refine sq (h := ?_)
    refine rg (h := ?_)
    refine WL.y (hy := (by first | exact ldA | exact ldEA)) (h := ?_)
    first | refine stA (h := ?_) | refine stEA (h := ?_)
    refine nl (h := ?_)
    refine q_seq (h := ?_)
    refine rtn (h := ?_)
    refine q_ret (hR := ?_)
    exact fun w hS => ⟨by rw [hkn] at hzp; rw [hzp]; rfl, hS.sub (by repeat (first | exact SubL.nil | (apply SubL.cons; (repeat (first | exact At.here | apply At.there))) | exact SubL.refl _ | apply SubL.skip))⟩
end Go.Proofs.Ytncoimjgjpcipaa

namespace Go.Proofs.Ytncoimjgjpcipaa
open Go Go.RowKit

theorem encI_set (xs : List Int) (i : Nat) (x : Int) : (encI xs).set i [.int .i64 x] = encI (xs.set i x) := by unfold encI; rw [List.map_set]
def RevI (xs : List Int) (k : Nat) (ys : List Int) : Prop := ys.length = xs.length ∧ ∀ i, i < xs.length → ys[i]? = if i < k ∨ xs.length ≤ i + k then xs[xs.length - 1 - i]? else xs[i]?
theorem rev_start (xs : List Int) : RevI xs 0 xs := ⟨rfl, fun i hi => by rw [if_neg (by omega)]⟩
theorem rev_end {xs ys : List Int} {k : Nat} (h : RevI xs k ys) (hk : xs.length ≤ 2 * k + 1) : ys = xs.reverse := by
  refine List.ext_getElem? fun i => ?_
  by_cases hi : i < xs.length
  · rw [h.2 i hi, List.getElem?_reverse hi]
    by_cases hc : i < k ∨ xs.length ≤ i + k
    · rw [if_pos hc]
    · rw [if_neg hc]; congr 1; omega
  · rw [List.getElem?_eq_none (by rw [h.1]; omega), List.getElem?_eq_none (by rw [List.length_reverse]; omega)]
theorem rev_step {xs ys : List Int} {k : Nat} (h : RevI xs k ys) (hk : 2 * k + 1 < xs.length) {a b : Int} (ha : ys[k]? = some a) (hb : ys[xs.length - 1 - k]? = some b) : RevI xs (k + 1) ((ys.set k b).set (xs.length - 1 - k) a) := by
  have ha' : xs[k]? = some a := by have := h.2 k (by omega); rw [if_neg (by omega)] at this; rw [← this]; exact ha
  have hb' : xs[xs.length - 1 - k]? = some b := by have := h.2 (xs.length - 1 - k) (by omega); rw [if_neg (by omega)] at this; rw [← this]; exact hb
  have hl := h.1
  refine ⟨by simp [hl], fun i hi => ?_⟩
  by_cases e1 : i = xs.length - 1 - k
  · subst e1
    rw [List.getElem?_set_self (by simp; omega), if_pos (by omega), show xs.length - 1 - (xs.length - 1 - k) = k by omega, ha']
  · rw [List.getElem?_set_ne (fun e => e1 e.symm)]
    by_cases e2 : i = k
    · subst e2
      rw [List.getElem?_set_self (by omega), if_pos (by omega), hb']
    · rw [List.getElem?_set_ne (fun e => e2 e.symm), h.2 i hi]
      by_cases hc : i < k ∨ xs.length ≤ i + k
      · rw [if_pos hc, if_pos (by omega)]
      · rw [if_neg hc, if_neg (by omega)]
structure RVZ where
  (k : Nat) (ys : List Int)
theorem T_Reverse (xs : List Int) (A : Option Addr) (n c : Nat) (hlen : xs.length = n) (hn : n ≤ 100000) : Tr Try.prog 71 [.slice A n c] [.own A c 3 1 n (encI xs)] (fun _ : Unit => True) (fun _ => .tuple #[]) (fun _ => [.own A c 3 1 n (encI xs.reverse)]) := by
  refine ⟨fun w0 w R hst => ?_⟩
  refine en Try.func71 Try.ntmps71 hst (h := fun F => ?_)
  refine sq (h := ?_)
  refine rg (h := ?_)
  refine WL.y (hy := mv) (h := ?_)
  refine WL.y (hy := lenS) (h := ?_)
  refine WL.y (hy := subI) (h := ?_)
  refine WL.y (hy := asg) (h := ?_)
  refine WL.y (hy := asg) (h := ?_)
  refine nl (h := ?_)
  refine q_seq (h := ?_)
  refine bk (h := ?_)
  refine lp (X := RVZ) (I := fun z => z.k ≤ n ∧ RevI xs z.k z.ys) (le := fun z => [(0, .slice A n c), (2, .int .i64 z.k), (3, .int .i64 ((n : Int) - 1 - (z.k : Int)))]) (Le := fun z => .own A c 3 1 n (encI z.ys) :: R) (μ := fun z => n - z.k) ⟨0, xs⟩ ⟨Nat.zero_le _, rev_start xs⟩ (by repeat (first | exact trivial | refine ⟨rfl, ?_⟩ | refine ⟨by show some (Value.int .i64 ((n : Int) - 1)) = some (Value.int .i64 ((n : Int) - 1 - ((0 : Nat) : Int))); congr 2; omega, ?_⟩)) (SubL.refl _) (fun z hz => ?_)
  obtain ⟨hzk, hzr⟩ := hz
  have hyl := hzr.1
  refine sq (h := ?_)
  refine sq (h := ?_)
  refine rg (h := ?_)
  refine WL.y (hy := mv) (h := ?_)
  refine WL.y (hy := mv) (h := ?_)
  refine WL.y (hy := lss) (h := ?_)
  refine nl (h := ?_)
  refine q_seq (h := ?_)
  refine cd (by exact rfl) (fun h0 => ?_) (fun h0 => ?_)
  · skip
    have hk1 : 2 * z.k + 1 < n := by simp only [decide_eq_true_eq] at h0; omega
    obtain ⟨a, ha⟩ : ∃ a, z.ys[z.k]? = some a := ⟨_, List.getElem?_eq_getElem (by omega)⟩
    obtain ⟨b, hb⟩ : ∃ b, z.ys[n - 1 - z.k]? = some b := ⟨_, List.getElem?_eq_getElem (by omega)⟩
    have hj : ((n : Int) - 1 - (z.k : Int)).toNat = n - 1 - z.k := by omega
    have hnx := rev_step hzr (by omega) ha (by rw [hlen]; exact hb)
    rw [hlen] at hnx
    have hka : (encI z.ys)[((z.k : Nat) : Int).toNat]? = some [.int .i64 a] := encI_at ha
    have hkb : (encI z.ys)[((n : Int) - 1 - (z.k : Int)).toNat]? = some [.int .i64 b] := by rw [hj]; exact encI_at hb
    have hk2 : ((encI z.ys).set ((z.k : Nat) : Int).toNat ([Value.int .i64 a].set 0 (.int .i64 b)))[((n : Int) - 1 - (z.k : Int)).toNat]? = some [.int .i64 b] := by
      rw [hj, List.getElem?_set_ne (by show z.k ≠ n - 1 - z.k; omega)]; exact encI_at hb
    have hsw : ((encI z.ys).set ((z.k : Nat) : Int).toNat ([Value.int .i64 a].set 0 (.int .i64 b))).set ((n : Int) - 1 - (z.k : Int)).toNat ([Value.int .i64 b].set 0 (.int .i64 a)) = encI ((z.ys.set z.k b).set (n - 1 - z.k) a) := by
      rw [hj]
      show ((encI _).set z.k [.int .i64 b]).set (n - 1 - z.k) [.int .i64 a] = _
      rw [encI_set, encI_set]
    refine skp (h := ?_)
    refine q_seq (h := ?_)
    refine sq (h := ?_)
    refine bk (h := ?_)
    refine WC.some_ (A := A) (by repeat (first | exact At.here | apply At.there)) (by omega) (fun hAs => ?_)
    refine rgD (by kernel_rfl) [(13, .own A c 3 1 n (encI z.ys))] (by repeat (first | exact HS.nil | (apply HS.keep; (repeat (first | exact At.here | apply At.there))) | (apply HS.ro; (repeat (first | exact Rds.ro | exact Rds.own | apply Rds.there))))) (h := ?_)
    refine tk 0 (hy := mv) (h := ?_)
    refine tk 1 (hy := mv) (h := ?_)
    refine tk 2 (hy := mv) (h := ?_)
    refine tk 3 (hy := mv) (h := ?_)
    refine tk 4 (hy := mv) (h := ?_)
    refine tk 5 (hy := mv) (h := ?_)
    refine tk 6 (hy := ix (A := A) (m := n)) (h := ?_)
    refine tk 7 (hy := ldE (A := A) (hk := hkb)) (h := ?_)
    refine tk 8 (hy := mv) (h := ?_)
    refine tk 9 (hy := mv) (h := ?_)
    refine tk 10 (hy := ixS (A := A) (m := n) (hs := hAs)) (h := ?_)
    refine tk 11 (hy := ldE (A := A) (hk := hka)) (h := ?_)
    refine tk 12 (hy := ixS (A := A) (m := n) (hs := hAs)) (h := ?_)
    refine one 13 (h := ?_)
    refine stE (A := A) (hk := hka) (h := ?_)
    refine nx (h := ?_)
    refine one 14 (h := ?_)
    refine WL.y (hy := ix (A := A) (m := n)) (h := ?_)
    refine nx (h := ?_)
    refine one 15 (h := ?_)
    refine stE (A := A) (hk := hk2) (h := ?_)
    refine nx (h := ?_)
    refine dn (h := ?_)
    refine q_blk_norm (h := ?_)
    refine q_seq (h := ?_)
    refine rg (h := ?_)
    refine WL.y (hy := mv) (h := ?_)
    refine WL.y (hy := addI) (h := ?_)
    refine WL.y (hy := mv) (h := ?_)
    refine WL.y (hy := subI) (h := ?_)
    refine WL.y (hy := asg) (h := ?_)
    refine WL.y (hy := asg) (h := ?_)
    refine nl (h := ?_)
    rw [hsw]
    refine rn (x := z) ⟨z.k + 1, (z.ys.set z.k b).set (n - 1 - z.k) a⟩ ⟨by dsimp only; omega, hnx⟩ (by dsimp only; omega) (by repeat (first | exact trivial | refine ⟨rfl, ?_⟩ | refine ⟨by show some (Value.int .i64 ((n : Int) - 1 - (z.k : Int) - 1)) = some (Value.int .i64 ((n : Int) - 1 - ((z.k + 1 : Nat) : Int))); congr 2; omega, ?_⟩)) (by repeat (first | exact SubL.nil | (apply SubL.cons; (repeat (first | exact At.here | apply At.there))) | exact SubL.refl _ | apply SubL.skip))
  · skip
    have hk1 : n ≤ 2 * z.k + 1 := by simp only [decide_eq_false_iff_not] at h0; omega
    have he := rev_end hzr (by omega)
    refine et (h := ?_)
    refine q_then_exit (h := ?_)
    refine q_then_exit (h := ?_)
    refine q_blk_hit (h := ?_)
    refine q_end (hR := ?_)
    exact fun w hS => ⟨(), trivial, rfl, by rw [he] at hS; exact hS.sub (by repeat (first | exact SubL.nil | (apply SubL.cons; (repeat (first | exact At.here | apply At.there))) | exact SubL.refl _ | apply SubL.skip))⟩

theorem row_none {N : List Nd} {x : Nd} {r : List Int} (h : RowN N x r) (hb : x.bf = none) : r = [] := by
  cases h with
  | nil _ => rfl
  | snoc _ h2 _ => rw [hb] at h2; cases h2
theorem row_some {N : List Nd} {x : Nd} {r : List Int} {b : Nat} (h : RowN N x r) (hb : x.bf = some b) : ∃ y r', y ∈ N ∧ y.b = b ∧ RowN N y r' ∧ r = r' ++ [x.sd] := by
  cases h with
  | nil h2 => rw [hb] at h2; cases h2
  | snoc hy h2 hr => rw [hb] at h2; exact ⟨_, _, hy, (Option.some.inj h2).symm, hr, rfl⟩
structure RWS where
  (x : Nd) (A : Option Addr) (c : Nat) (r q : List Int)
theorem T_node_row (N : List Nd) (mn : Nat → Pr) (x : Nd) (hx : x ∈ N) (r : List Int) (hr : RowN N x r) (hn : r.length ≤ 1000) : Tr Try.prog 47 [bp x.b] [poolE 103 N mn none] (fun _ : Option Addr × Nat => True) (fun p => .slice p.1 r.length p.2) (fun p => [.own p.1 p.2 3 1 r.length (encI r), poolE 103 N mn none]) := by
  refine ⟨fun w0 w R hst => ?_⟩
  refine en Try.func47 Try.ntmps47 hst (h := fun F => ?_)
  refine sq (h := ?_)
  refine rg (h := ?_)
  refine WL.y (hy := asg) (h := ?_)
  refine nl (h := ?_)
  refine q_seq (h := ?_)
  refine sq (h := ?_)
  refine rg (h := ?_)
  refine WL.y (hy := asg) (h := ?_)
  refine WL.nilOwn 3 1 (h := ?_)
  refine nl (h := ?_)
  refine q_seq (h := ?_)
  refine sq (h := ?_)
  refine bk (h := ?_)
  refine lp (X := RWS) (I := fun z => z.x ∈ N ∧ RowN N z.x z.r ∧ r = z.r ++ z.q.reverse) (le := fun z => [(0, bp z.x.b), (3, .slice z.A z.q.length z.c)]) (Le := fun z => .own z.A z.c 3 1 z.q.length (encI z.q) :: poolE 103 N mn none :: R) (μ := fun z => z.r.length) ⟨x, none, 0, r, []⟩ ⟨hx, hr, by rw [List.reverse_nil, List.append_nil]⟩ (by repeat (first | exact trivial | refine ⟨rfl, ?_⟩)) (by repeat (first | exact SubL.nil | (apply SubL.cons; (repeat (first | exact At.here | apply At.there))) | exact SubL.refl _ | apply SubL.skip)) (fun z hz => ?_)
  obtain ⟨hzx, hzr, hzq⟩ := hz
  have hzl : z.q.length ≤ 1000 := by
    have := congrArg List.length hzq
    rw [List.length_append, List.length_reverse] at this; omega
  refine sq (h := ?_)
  refine sq (h := ?_)
  refine rg (h := ?_)
  refine WL.y (hy := mv) (h := ?_)
  refine WL.y (hy := nck) (h := ?_)
  refine WL.y (hy := (by first | exact fa | exact faE)) (h := ?_)
  refine WL.y (hy := ldQ (hy := hzx)) (h := ?_)
  refine WL.y (hy := neqN (by kernel_rfl)) (h := ?_)
  refine nl (h := ?_)
  refine q_seq (h := ?_)
  refine cd (by exact rfl) (fun h0 => ?_) (fun h0 => ?_)
  · skip
    obtain ⟨b', hb'⟩ := Option.isSome_iff_exists.1 h0
    obtain ⟨y, r', hy, hyb, hyr, hre⟩ := row_some hzr hb'
    refine skp (h := ?_)
    refine q_seq (h := ?_)
    refine sq (h := ?_)
    refine bk (h := ?_)
    refine rg (h := ?_)
    refine WL.y (hy := mv) (h := ?_)
    refine WL.y (hy := mv) (h := ?_)
    refine WL.y (hy := nck) (h := ?_)
    refine WL.y (hy := (by first | exact fa | exact faE)) (h := ?_)
    refine WL.y (hy := ldQ (hy := hzx)) (h := ?_)
    refine bs (h := fun b0 => ?_)
    refine ap (es := encI z.q) (m := z.q.length) (A := z.A) (c := z.c) (h := fun A1 c1 => ?_)
    refine WL.y (hy := asg) (h := ?_)
    refine nl (h := ?_)
    refine q_blk_norm (h := ?_)
    refine q_seq (h := ?_)
    refine rg (h := ?_)
    refine WL.y (hy := mv) (h := ?_)
    refine WL.y (hy := nck) (h := ?_)
    refine WL.y (hy := (by first | exact fa | exact faE)) (h := ?_)
    refine WL.y (hy := ldQ (hy := hzx)) (h := ?_)
    refine WL.y (hy := asg) (h := ?_)
    refine nl (h := ?_)
    refine rn (x := z) ⟨y, A1, c1, r', z.q ++ [z.x.sd]⟩ ⟨hy, hyr, by rw [hzq, hre, List.reverse_append]; simp⟩ (by dsimp only; rw [hre, List.length_append, List.length_singleton]; omega) (by rw [List.length_append]; repeat (first | exact trivial | refine ⟨rfl, ?_⟩ | refine ⟨by rw [hyb]; show some (bpO z.x.bf) = _; rw [hb']; rfl, ?_⟩)) (by rw [List.length_append, show encI (z.q ++ [z.x.sd]) = encI z.q ++ [[.int .i64 z.x.sd]] from List.map_append]; exact (by repeat (first | exact SubL.nil | (apply SubL.cons; (repeat (first | exact At.here | apply At.there))) | exact SubL.refl _ | apply SubL.skip)))
  · skip
    have hbn : z.x.bf = none := by simpa using h0
    have hr0 := row_none hzr hbn
    have hq : z.q.reverse = r := by rw [hr0] at hzq; rw [hzq]; rfl
    have hql : z.q.length = r.length := by rw [← hq, List.length_reverse]
    refine et (h := ?_)
    refine q_then_exit (h := ?_)
    refine q_then_exit (h := ?_)
    refine q_blk_hit (h := ?_)
    refine q_seq (h := ?_)
    refine sq (h := ?_)
    refine rg (h := ?_)
    refine WL.y (hy := mv) (h := ?_)
    refine clT (hc := T_Reverse z.q z.A z.q.length z.c rfl (by omega)) (h := fun _ _ => ?_)
    refine nl (h := ?_)
    refine q_seq (h := ?_)
    refine sq (h := ?_)
    refine rg (h := ?_)
    refine WL.y (hy := mv) (h := ?_)
    refine WL.y (hy := asg) (h := ?_)
    refine nl (h := ?_)
    refine q_seq (h := ?_)
    refine rtn (h := ?_)
    refine q_ret (hR := ?_)
    rw [hql, hq]
    exact fun w hS => ⟨(z.A, z.c), trivial, rfl, hS.sub (by repeat (first | exact SubL.nil | (apply SubL.cons; (repeat (first | exact At.here | apply At.there))) | exact SubL.refl _ | apply SubL.skip))⟩
end Go.Proofs.Ytncoimjgjpcipaa

namespace Go.Proofs.Ytncoimjgjpcipaa
open Go Go.RowKit

abbrev MC := Array MapEntry × Nat
theorem flL_ints : ∀ xs : List Int, FlL (xs.map vI) (xs.map Fl.i)
  | [] => .nil
  | _ :: xs => .int (flL_ints xs)
theorem flL_spot (s : Spot) : FlL (spotC s) (spotF s) := flL_ints [s.first, (s.st.length : Int), (ep s 0).1, (ep s 0).2, (ep s 1).1, (ep s 1).2, (ep s 2).1, (ep s 2).2, (ep s 3).1, (ep s 3).2, (ep s 4).1, (ep s 4).2, s.g.1, s.g.2, s.p.1, s.p.2]
set_option maxRecDepth 100000 in
theorem T_put_old (N ns : List Nd) (mn : Nat → Pr) (x o : Nd) (bm : Nat) (es : Array MapEntry) (c : Nat) (hm : MapIs es (crE ns)) (hs : Stm es c) (hn : (N.map (·.b)).Nodup) (h5 : ∀ y ∈ N, y.s.st.length ≤ 5) (hN : ∀ y ∈ ns, y ∈ N) (hx : x ∈ N) (hg : getN ns x.s = some o) :
    Tr Try.prog 55 [.map (some bm), bp x.b] [poolE 103 N mn none, .obj bm (.map es c)] (fun p : MC => MapIs p.1 (crE (putNs ns x)) ∧ Stm p.1 p.2) (fun _ => .tuple #[]) (fun p => [poolE 103 N (putM ns mn x) none, .obj bm (.map p.1 p.2)]) := by
  refine ⟨fun w0 w R hst => ?_⟩
  have hoN := hN o (getN_some hg).1
  have hl : lkp (crE ns) (spotF x.s) = some (bp o.b) := by rw [lkp_cr (fun y hy => h5 y (hN y hy)) (h5 x hx), hg]; rfl
  have hM : putM ns mn x = upN mn o.b (min (mn o.b).1 (mn x.b).1, max (mn o.b).2 (mn x.b).2) := by unfold putM; rw [hg]
  have hS : putNs ns x = ns := by unfold putNs; rw [hg]
  refine en Try.func55 Try.ntmps55 hst (h := fun F => ?_)
  refine sq (h := ?_)
  refine sq (h := ?_)
  refine rg (h := ?_)
  refine WL.y (hy := mv) (h := ?_)
  refine WL.y (hy := mv) (h := ?_)
  refine WL.y (hy := nck) (h := ?_)
  refine WL.y (hy := (by first | exact fa | exact faE)) (h := ?_)
  refine WL.y (hy := ldQA (hy := hx)) (h := ?_)
  refine WL.y (hy := lkC (kv := crE ns) (hm := hm) (hs := crE_shape ns) (hl := flL_spot x.s)) (h := ?_)
  rw [hl]
  refine WL.y (hy := mv) (h := ?_)
  refine WL.y (hy := ex) (h := ?_)
  refine WL.y (hy := ex) (h := ?_)
  refine WL.y (hy := asg) (h := ?_)
  refine WL.y (hy := asg) (h := ?_)
  refine nl (h := ?_)
  refine q_seq (h := ?_)
  refine sq (h := ?_)
  refine rg (h := ?_)
  refine WL.y (hy := mv) (h := ?_)
  refine nl (h := ?_)
  refine q_seq (h := ?_)
  refine cdT (h := ?_)
  refine sq (h := ?_)
  refine rgD (by kernel_rfl) [(26, poolE 103 N mn none)] (by repeat (first | exact HS.nil | (apply HS.keep; (repeat (first | exact At.here | apply At.there))) | (apply HS.ro; (repeat (first | exact Rds.ro | exact Rds.own | apply Rds.there))))) (h := ?_)
  refine tk 0 (hy := mv) (h := ?_)
  refine tk 1 (hy := mv) (h := ?_)
  refine tk 2 (hy := nck) (h := ?_)
  refine tk 3 (hy := (by first | exact fa | exact faE)) (h := ?_)
  refine tk 4 (hy := (by first | exact fa | exact faE)) (h := ?_)
  refine tk 5 (hy := ldQ (hy := hoN)) (h := ?_)
  refine tk 6 (hy := mv) (h := ?_)
  refine tk 7 (hy := nck) (h := ?_)
  refine tk 8 (hy := (by first | exact fa | exact faE)) (h := ?_)
  refine tk 9 (hy := (by first | exact fa | exact faE)) (h := ?_)
  refine tk 10 (hy := ldQ (hy := hx)) (h := ?_)
  refine tk 11 (hy := minI) (h := ?_)
  refine tk 12 (hy := mv) (h := ?_)
  refine tk 13 (hy := nck) (h := ?_)
  refine tk 14 (hy := (by first | exact fa | exact faE)) (h := ?_)
  refine tk 15 (hy := (by first | exact fa | exact faE)) (h := ?_)
  refine tk 16 (hy := ldQ (hy := hoN)) (h := ?_)
  refine tk 17 (hy := mv) (h := ?_)
  refine tk 18 (hy := nck) (h := ?_)
  refine tk 19 (hy := (by first | exact fa | exact faE)) (h := ?_)
  refine tk 20 (hy := (by first | exact fa | exact faE)) (h := ?_)
  refine tk 21 (hy := ldQ (hy := hx)) (h := ?_)
  refine tk 22 (hy := maxI) (h := ?_)
  refine tk 23 (hy := bd) (h := ?_)
  refine tk 24 (hy := nck) (h := ?_)
  refine tk 25 (hy := (by first | exact fa | exact faE)) (h := ?_)
  refine one 26 (h := ?_)
  refine stQ (v := (min (mn o.b).1 (mn x.b).1, max (mn o.b).2 (mn x.b).2)) (ho := hoN) (hn := hn) (h := ?_)
  refine nx (h := ?_)
  refine dn (h := ?_)
  refine q_seq (h := ?_)
  refine rtn (h := ?_)
  refine q_then_ret (h := ?_)
  refine q_ret (hR := ?_)
  rw [hM, hS]
  exact fun w hS => ⟨(es, c), ⟨hm, hs⟩, rfl, hS.sub (by repeat (first | exact SubL.nil | (apply SubL.cons; (repeat (first | exact At.here | apply At.there))) | exact SubL.refl _ | apply SubL.skip))⟩
set_option maxRecDepth 100000 in
theorem T_put_new (N ns : List Nd) (mn : Nat → Pr) (x : Nd) (bm : Nat) (es : Array MapEntry) (c : Nat) (hm : MapIs es (crE ns)) (hs : Stm es c) (h5 : ∀ y ∈ N, y.s.st.length ≤ 5) (hN : ∀ y ∈ ns, y ∈ N) (hx : x ∈ N) (hg : getN ns x.s = none) :
    Tr Try.prog 55 [.map (some bm), bp x.b] [poolE 103 N mn none, .obj bm (.map es c)] (fun p : MC => MapIs p.1 (crE (putNs ns x)) ∧ Stm p.1 p.2) (fun _ => .tuple #[]) (fun p => [poolE 103 N (putM ns mn x) none, .obj bm (.map p.1 p.2)]) := by
  refine ⟨fun w0 w R hst => ?_⟩
  have hl : lkp (crE ns) (spotF x.s) = none := by rw [lkp_cr (fun y hy => h5 y (hN y hy)) (h5 x hx), hg]; rfl
  have hM : putM ns mn x = mn := by unfold putM; rw [hg]
  have hS : putNs ns x = ns ++ [x] := by unfold putNs; rw [hg]
  have hU := upd_cr (fun y hy => h5 y (hN y hy)) (h5 x hx) hg
  refine en Try.func55 Try.ntmps55 hst (h := fun F => ?_)
  refine sq (h := ?_)
  refine sq (h := ?_)
  refine rg (h := ?_)
  refine WL.y (hy := mv) (h := ?_)
  refine WL.y (hy := mv) (h := ?_)
  refine WL.y (hy := nck) (h := ?_)
  refine WL.y (hy := (by first | exact fa | exact faE)) (h := ?_)
  refine WL.y (hy := ldQA (hy := hx)) (h := ?_)
  refine WL.y (hy := lkC (kv := crE ns) (hm := hm) (hs := crE_shape ns) (hl := flL_spot x.s)) (h := ?_)
  rw [hl]
  refine WL.y (hy := mv) (h := ?_)
  refine WL.y (hy := ex) (h := ?_)
  refine WL.y (hy := ex) (h := ?_)
  refine WL.y (hy := asg) (h := ?_)
  refine WL.y (hy := asg) (h := ?_)
  refine nl (h := ?_)
  refine q_seq (h := ?_)
  refine sq (h := ?_)
  refine rg (h := ?_)
  refine WL.y (hy := mv) (h := ?_)
  refine nl (h := ?_)
  refine q_seq (h := ?_)
  refine cdF (h := ?_)
  refine skp (h := ?_)
  refine q_seq (h := ?_)
  refine rg (h := ?_)
  refine WL.y (hy := mv) (h := ?_)
  refine WL.y (hy := mv) (h := ?_)
  refine WL.y (hy := nck) (h := ?_)
  refine WL.y (hy := (by first | exact fa | exact faE)) (h := ?_)
  refine WL.y (hy := ldQA (hy := hx)) (h := ?_)
  refine WL.y (hy := mv) (h := ?_)
  refine mupS (kv := crE ns) (hm := hm) (hs := crE_shape ns) (hst0 := hs) (hl := flL_spot x.s) (h := fun es1 c1 hm1 hs1 => ?_)
  rw [show updM (crE ns) _ _ = _ from hU] at hm1
  refine nl (h := ?_)
  refine q_end (hR := ?_)
  rw [hM, hS]
  exact fun w hS => ⟨(es1, c1), ⟨hm1, hs1⟩, rfl, hS.sub (by repeat (first | exact SubL.nil | (apply SubL.cons; (repeat (first | exact At.here | apply At.there))) | exact SubL.refl _ | apply SubL.skip))⟩
theorem T_put (N ns : List Nd) (mn : Nat → Pr) (x : Nd) (bm : Nat) (es : Array MapEntry) (c : Nat) (hm : MapIs es (crE ns)) (hs : Stm es c) (hn : (N.map (·.b)).Nodup) (h5 : ∀ y ∈ N, y.s.st.length ≤ 5) (hN : ∀ y ∈ ns, y ∈ N) (hx : x ∈ N) :
    Tr Try.prog 55 [.map (some bm), bp x.b] [poolE 103 N mn none, .obj bm (.map es c)] (fun p : MC => MapIs p.1 (crE (putNs ns x)) ∧ Stm p.1 p.2) (fun _ => .tuple #[]) (fun p => [poolE 103 N (putM ns mn x) none, .obj bm (.map p.1 p.2)]) := by
  cases hg : getN ns x.s with
  | some o => exact T_put_old N ns mn x o bm es c hm hs hn h5 hN hx hg
  | none => exact T_put_new N ns mn x bm es c hm hs h5 hN hx hg
end Go.Proofs.Ytncoimjgjpcipaa

namespace Go.Proofs.Ytncoimjgjpcipaa
open Go Go.RowKit

abbrev cardC (f : Fmt) (first : Int) (A : Option Addr) (n c : Nat) : List Value := [.int .i64 f.sets, .int .i64 f.games, .bool f.noAd, .int .i64 f.tie, .int .i64 f.to, .int .i64 f.ltie, .int .i64 f.lto, .int .i64 f.first, .int .i64 f.thn, .bool f.dbl, .int .i64 first, .slice A n c]
theorem ret_next {w0 w : World} {R : List Ent} {T : TypeId} {N : List Nd} {mn : Nat → Pr} {b bx : Nat} {cells : List Value} {u : Spot} {side : Int} {v : Pr} (h : St w0 w (.blk b T cells :: poolE T N mn none :: R)) (hc : cells = nodeC ⟨b, u, some bx, side⟩ v) :
    ∃ k : Nat, (∀ y ∈ N, y.b ≠ k) ∧ Ending.returned (bp b) = Ending.returned (bp k) ∧ St w0 w ([poolE T (⟨k, u, some bx, side⟩ :: N) (upN mn k v) none] ++ R) := by
  subst hc
  have := St.pNew (x := ⟨b, u, some bx, side⟩) h
  exact ⟨b, this.1, rfl, this.2⟩
theorem pair_eq2 (a b c d : Int) : decide ([a, b] = [c, d]) = (decide (a = c) && decide (b = d)) := by
  rw [Bool.eq_iff_iff, Bool.and_eq_true, decide_eq_true_eq, decide_eq_true_eq, decide_eq_true_eq]
  simp
theorem set_cond (f : Fmt) (won : Pr) : (decide (won.1 = won.2) && decide (won.1 = f.sets - 1)) = (decide (won.1 = f.sets - 1) && decide (won.2 = f.sets - 1)) := by
  rw [Bool.eq_iff_iff, Bool.and_eq_true, Bool.and_eq_true, decide_eq_true_eq, decide_eq_true_eq, decide_eq_true_eq]
  omega
theorem put_sets {s : Spot} (h : s.st.length ≤ 4) (o : Value) (g p q : Pr) : putAll [.int .i64 s.first, o, .int .i64 (ep s 0).1, .int .i64 (ep s 0).2, .int .i64 (ep s 1).1, .int .i64 (ep s 1).2, .int .i64 (ep s 2).1, .int .i64 (ep s 2).2, .int .i64 (ep s 3).1, .int .i64 (ep s 3).2, .int .i64 (ep s 4).1, .int .i64 (ep s 4).2, .int .i64 g.1, .int .i64 g.2, .int .i64 p.1, .int .i64 p.2] (2 + ((s.st.length : Int)).toNat * 2) [.int .i64 q.1, .int .i64 q.2]
    = [.int .i64 s.first, o, .int .i64 ((s.st ++ [q]).getD 0 (0, 0)).1, .int .i64 ((s.st ++ [q]).getD 0 (0, 0)).2, .int .i64 ((s.st ++ [q]).getD 1 (0, 0)).1, .int .i64 ((s.st ++ [q]).getD 1 (0, 0)).2, .int .i64 ((s.st ++ [q]).getD 2 (0, 0)).1, .int .i64 ((s.st ++ [q]).getD 2 (0, 0)).2, .int .i64 ((s.st ++ [q]).getD 3 (0, 0)).1, .int .i64 ((s.st ++ [q]).getD 3 (0, 0)).2, .int .i64 ((s.st ++ [q]).getD 4 (0, 0)).1, .int .i64 ((s.st ++ [q]).getD 4 (0, 0)).2, .int .i64 g.1, .int .i64 g.2, .int .i64 p.1, .int .i64 p.2] := by
  obtain ⟨fs, st, g', p'⟩ := s
  match st, h with
  | [], _ => rfl
  | [_], _ => rfl
  | [_, _], _ => rfl
  | [_, _, _], _ => rfl
  | [_, _, _, _], _ => rfl
  | _ :: _ :: _ :: _ :: _ :: _, h => simp at h
set_option maxRecDepth 100000 in
theorem T_next_none (f : Fmt) (cf : Int) (A : Option Addr) (n c : Nat) (N : List Nd) (mn : Nat → Pr) (x : Nd) (side : Int) (h5 : x.s.st.length ≤ 5) (hx : x ∈ N) (hn : nxtS f x.s side = none) :
    Tr Try.prog 106 [.agg (cardC f cf A n c).toArray, bp x.b, .int .i64 side] [poolE 103 N mn none] (fun _ : Unit => True) (fun _ => .pointer none) (fun _ => [poolE 103 N mn none]) := by
  refine ⟨fun w0 w R hst => ?_⟩
  have htop : topS x.s = f.sets := by
    by_cases e : topS x.s = f.sets
    · exact e
    · rw [nxtS, decide_eq_false e] at hn; cases hn
  refine en Try.func106 Try.ntmps106 hst (h := fun F => ?_)
  refine sq (h := ?_)
  refine rg (h := ?_)
  refine bxA (h := fun b0 => ?_)
  refine WL.y (hy := asg) (h := ?_)
  refine nl (h := ?_)
  refine q_seq (h := ?_)
  refine sq (h := ?_)
  refine rg (h := ?_)
  refine WL.y (hy := mv) (h := ?_)
  refine WL.y (hy := nck) (h := ?_)
  refine WL.y (hy := (by first | exact fa | exact faE)) (h := ?_)
  refine WL.y (hy := ldQA (hy := hx)) (h := ?_)
  refine cl0 (hc := fun w hS => C_spot_won x.s h5 w) (h := ?_)
  refine al (h := fun b1 => ?_)
  first | refine stA (h := ?_) | refine stEA (h := ?_)
  refine nl (h := ?_)
  refine q_seq (h := ?_)
  refine sq (h := ?_)
  refine sq (h := ?_)
  refine rg (h := ?_)
  refine WL.y (hy := (by first | exact fa | exact faE)) (h := ?_)
  refine WL.y (hy := (by first | exact ld | exact ldE)) (h := ?_)
  refine WL.y (hy := (by first | exact fa | exact faE)) (h := ?_)
  refine WL.y (hy := (by first | exact ld | exact ldE)) (h := ?_)
  refine WL.y (hy := maxI) (h := ?_)
  refine WL.y (hy := (by first | exact fa | exact faE)) (h := ?_)
  refine WL.y (hy := (by first | exact fa | exact faE)) (h := ?_)
  refine WL.y (hy := (by first | exact fa | exact faE)) (h := ?_)
  refine WL.y (hy := (by first | exact ld | exact ldE)) (h := ?_)
  refine WL.y (hy := eql) (h := ?_)
  refine nl (h := ?_)
  refine q_seq (h := ?_)
  refine cd (by exact rfl) (fun h0 => ?_) (fun h0 => ?_)
  · skip
    refine sq (h := ?_)
    refine rg (h := ?_)
    refine WL.y (hy := asg) (h := ?_)
    refine nl (h := ?_)
    refine q_seq (h := ?_)
    refine rtn (h := ?_)
    refine q_then_ret (h := ?_)
    refine q_ret (hR := ?_)
    exact fun w hS => ⟨(), trivial, rfl, hS.sub (by repeat (first | exact SubL.nil | (apply SubL.cons; (repeat (first | exact At.here | apply At.there))) | exact SubL.refl _ | apply SubL.skip))⟩
  · skip
    exact absurd htop (of_decide_eq_false h0)
end Go.Proofs.Ytncoimjgjpcipaa

namespace Go.Proofs.Ytncoimjgjpcipaa
open Go Go.RowKit

set_option maxRecDepth 100000 in
set_option maxHeartbeats 1000000 in
theorem T_next_some (f : Fmt) (hf : f.Ok) (cf : Int) (A : Option Addr) (n c : Nat) (N : List Nd) (mn : Nat → Pr) (x : Nd) (side : Int) (hs : side = 0 ∨ side = 1) (K : Int) (hK : K ≤ 10000) (hP : PoolOk f N mn K) (hx : x ∈ N) (u : Spot) (hn : nxtS f x.s side = some u) :
    Tr Try.prog 106 [.agg (cardC f cf A n c).toArray, bp x.b, .int .i64 side] [poolE 103 N mn none] (fun k : Nat => ∀ y ∈ N, y.b ≠ k) (fun k => bp k) (fun k => [poolE 103 (⟨k, u, some x.b, side⟩ :: N) (upN mn k ((mn x.b).1 + 1, (mn x.b).2 + 1)) none]) := by
  refine ⟨fun w0 w R hst => ?_⟩
  have hxo := hP.ok x hx
  have hB := hxo.bd hf
  have h5 := hB.len hf
  have hlo := hxo.lo
  have hhi := hxo.hi
  have hg := hB.g
  have hp := hB.p
  have hw := hB.won
  have hsum := (won_sum x.s.st).1
  have hs0 := hf.s0
  have hs1 := hf.s1
  have htop : topS x.s ≠ f.sets := fun e => by rw [nxtS, decide_eq_true e] at hn; cases hn
  have hu : stepS f x.s side = u := by rw [nxtS, decide_eq_false htop] at hn; exact Option.some.inj hn
  have hgm : Sm x.s.g := ⟨by omega, by omega⟩
  have hpm : Sm x.s.p := ⟨by omega, by omega⟩
  have hga := addV_rng side hg
  have hpa := addV_rng side hp
  have hgam : Sm (addV x.s.g side) := ⟨by omega, by omega⟩
  have hpam : Sm (addV x.s.p side) := ⟨by omega, by omega⟩
  have hl4 : x.s.st.length ≤ 4 := by
    have : max (wonV x.s.st).1 (wonV x.s.st).2 ≠ f.sets := htop
    omega
  have hle : (((x.s.st ++ [addV x.s.g side]).length : Nat) : Int) = (x.s.st.length : Int) + 1 := by rw [List.length_append]; rfl
  refine en Try.func106 Try.ntmps106 hst (h := fun F => ?_)
  refine sq (h := ?_)
  refine rg (h := ?_)
  refine bxA (h := fun b0 => ?_)
  refine WL.y (hy := asg) (h := ?_)
  refine nl (h := ?_)
  refine q_seq (h := ?_)
  refine sq (h := ?_)
  refine rg (h := ?_)
  refine WL.y (hy := mv) (h := ?_)
  refine WL.y (hy := nck) (h := ?_)
  refine WL.y (hy := (by first | exact fa | exact faE)) (h := ?_)
  refine WL.y (hy := ldQA (hy := hx)) (h := ?_)
  refine cl0 (hc := fun w hS => C_spot_won x.s h5 w) (h := ?_)
  refine al (h := fun b1 => ?_)
  first | refine stA (h := ?_) | refine stEA (h := ?_)
  refine nl (h := ?_)
  refine q_seq (h := ?_)
  refine sq (h := ?_)
  refine sq (h := ?_)
  refine rg (h := ?_)
  refine WL.y (hy := (by first | exact fa | exact faE)) (h := ?_)
  refine WL.y (hy := (by first | exact ld | exact ldE)) (h := ?_)
  refine WL.y (hy := (by first | exact fa | exact faE)) (h := ?_)
  refine WL.y (hy := (by first | exact ld | exact ldE)) (h := ?_)
  refine WL.y (hy := maxI) (h := ?_)
  refine WL.y (hy := (by first | exact fa | exact faE)) (h := ?_)
  refine WL.y (hy := (by first | exact fa | exact faE)) (h := ?_)
  refine WL.y (hy := (by first | exact fa | exact faE)) (h := ?_)
  refine WL.y (hy := (by first | exact ld | exact ldE)) (h := ?_)
  refine WL.y (hy := eql) (h := ?_)
  refine nl (h := ?_)
  refine q_seq (h := ?_)
  refine cd (by exact rfl) (fun h0 => ?_) (fun h0 => ?_)
  · skip
    exact absurd (of_decide_eq_true h0) htop
  · skip
    refine skp (h := ?_)
    refine q_seq (h := ?_)
    refine ct (X := Nat × Nat) (fun _ => True) (fun q => [(1, bp x.b), (2, .int .i64 side), (3, .pointer (some ⟨b0, 0, none⟩)), (7, .pointer (some ⟨b1, 0, none⟩)), (8, .pointer (some ⟨q.1, 0, none⟩)), (9, .pointer (some ⟨q.2, 0, none⟩))]) (fun q => .blk q.2 38 [.int .i64 f.tie, .int .i64 f.to] :: .blk q.1 89 (spotC x.s) :: .blk b1 38 [.int .i64 (wonV x.s.st).1, .int .i64 (wonV x.s.st).2] :: .blk b0 100 (cardC f cf A n c) :: poolE 103 N mn none :: R) (h1 := ?_) (h2 := ?_)
    · skip
      refine rgD (by kernel_rfl) [(1000000, poolE 103 N mn none), (1000000, .blk b0 100 (cardC f cf A n c))] (by repeat (first | exact HS.nil | (apply HS.keep; (repeat (first | exact At.here | apply At.there))) | (apply HS.ro; (repeat (first | exact Rds.ro | exact Rds.own | apply Rds.there))))) (h := ?_)
      refine tk 0 (hy := mv) (h := ?_)
      refine tk 1 (hy := nck) (h := ?_)
      refine tk 2 (hy := (by first | exact fa | exact faE)) (h := ?_)
      refine tk 3 (hy := ldQA (hy := hx)) (h := ?_)
      refine tk 4 (hy := (by first | exact fa | exact faE)) (h := ?_)
      refine tk 5 (hy := (by first | exact fa | exact faE)) (h := ?_)
      refine tk 6 (hy := (by first | exact fa | exact faE)) (h := ?_)
      refine tk 7 (hy := (by first | exact ld | exact ldE)) (h := ?_)
      refine tk 8 (hy := (by first | exact fa | exact faE)) (h := ?_)
      refine tk 9 (hy := (by first | exact fa | exact faE)) (h := ?_)
      refine tk 10 (hy := (by first | exact fa | exact faE)) (h := ?_)
      refine tk 11 (hy := (by first | exact ld | exact ldE)) (h := ?_)
      refine tk 12 (hy := bd) (h := ?_)
      refine two 13 14 (h1 := ?_) (h2 := ?_)
      · skip
        refine al (h := fun b2 => ?_)
        refine nx (h := ?_)
        refine one 14 (h := ?_)
        refine al (h := fun b3 => ?_)
        refine nx (h := ?_)
        refine one 15 (h := ?_)
        first | refine stA (h := ?_) | refine stEA (h := ?_)
        refine nx (h := ?_)
        refine one 16 (h := ?_)
        first | refine stA (h := ?_) | refine stEA (h := ?_)
        refine nx (h := ?_)
        refine dn (h := ?_)
        exact ctn (_, _) trivial (by repeat (first | exact trivial | refine ⟨rfl, ?_⟩)) (by repeat (first | exact SubL.nil | (apply SubL.cons; (repeat (first | exact At.here | apply At.there))) | exact SubL.refl _ | apply SubL.skip))
      · skip
        refine al (h := fun b4 => ?_)
        refine nx (h := ?_)
        refine one 13 (h := ?_)
        refine al (h := fun b5 => ?_)
        refine nx (h := ?_)
        refine one 15 (h := ?_)
        first | refine stA (h := ?_) | refine stEA (h := ?_)
        refine nx (h := ?_)
        refine one 16 (h := ?_)
        first | refine stA (h := ?_) | refine stEA (h := ?_)
        refine nx (h := ?_)
        refine dn (h := ?_)
        exact ctn (_, _) trivial (by repeat (first | exact trivial | refine ⟨rfl, ?_⟩)) (by repeat (first | exact SubL.nil | (apply SubL.cons; (repeat (first | exact At.here | apply At.there))) | exact SubL.refl _ | apply SubL.skip))
    rintro ⟨b2, b3⟩ -
    refine ct (X := Unit) (fun _ => True) (fun _ => [(1, bp x.b), (2, .int .i64 side), (3, .pointer (some ⟨b0, 0, none⟩)), (8, .pointer (some ⟨b2, 0, none⟩)), (9, .pointer (some ⟨b3, 0, none⟩))]) (fun _ => .blk b3 38 [.int .i64 (setV f (wonV x.s.st)).1, .int .i64 (setV f (wonV x.s.st)).2] :: .blk b2 89 (spotC x.s) :: .blk b0 100 (cardC f cf A n c) :: poolE 103 N mn none :: R) (h1 := ?_) (h2 := ?_)
    · skip
      refine sq (h := ?_)
      refine rg (h := ?_)
      refine WL.y (hy := (by first | exact fa | exact faE)) (h := ?_)
      refine WL.y (hy := (by first | exact ld | exact ldE)) (h := ?_)
      refine WL.y (hy := (by first | exact fa | exact faE)) (h := ?_)
      refine WL.y (hy := (by first | exact ld | exact ldE)) (h := ?_)
      refine WL.y (hy := eql) (h := ?_)
      refine WL.y (hy := mv) (h := ?_)
      apply brAnd 9 46 55 (by exact rfl)
      · intro hb1
        refine un (h := ?_)
        refine WL.y (hy := (by first | exact fa | exact faE)) (h := ?_)
        refine un (h := ?_)
        refine WL.y (hy := (by first | exact ld | exact ldE)) (h := ?_)
        refine un (h := ?_)
        refine WL.y (hy := (by first | exact fa | exact faE)) (h := ?_)
        refine un (h := ?_)
        refine WL.y (hy := (by first | exact fa | exact faE)) (h := ?_)
        refine un (h := ?_)
        refine WL.y (hy := (by first | exact fa | exact faE)) (h := ?_)
        refine un (h := ?_)
        refine WL.y (hy := (by first | exact ld | exact ldE)) (h := ?_)
        refine un (h := ?_)
        refine WL.y (hy := subI (hb := by omega)) (h := ?_)
        refine un (h := ?_)
        refine WL.y (hy := eql) (h := ?_)
        refine WL.y (hy := (by first | exact pkT | exact pkF)) (h := ?_)
        exact mg (by repeat (first | exact trivial | refine ⟨rfl, ?_⟩ | refine ⟨by rw [hb1]; rfl, ?_⟩)) (by repeat (first | exact SubL.nil | (apply SubL.cons; (repeat (first | exact At.here | apply At.there))) | exact SubL.refl _ | apply SubL.skip))
      · intro hb1
        repeat (first | refine un (h := ?_) | refine sk (h := ?_) | refine WL.y (hy := pkF) (h := ?_) | refine WL.y (hy := pkT) (h := ?_))
        exact mg (by repeat (first | exact trivial | refine ⟨rfl, ?_⟩ | refine ⟨by rw [hb1]; rfl, ?_⟩)) (by repeat (first | exact SubL.nil | (apply SubL.cons; (repeat (first | exact At.here | apply At.there))) | exact SubL.refl _ | apply SubL.skip))
      refine nl (h := ?_)
      refine q_seq (h := ?_)
      refine cd (by exact rfl) (fun h2 => ?_) (fun h2 => ?_)
      · skip
        have hset : setV f (wonV x.s.st) = (f.ltie, f.lto) := by
          have h' : (decide ((wonV x.s.st).1 = (wonV x.s.st).2) && decide ((wonV x.s.st).1 = f.sets - 1)) = true := h2
          rw [set_cond] at h'
          rw [setV, h']; rfl
        refine rg (h := ?_)
        refine WL.y (hy := (by first | exact fa | exact faE)) (h := ?_)
        refine WL.y (hy := (by first | exact fa | exact faE)) (h := ?_)
        refine WL.y (hy := (by first | exact fa | exact faE)) (h := ?_)
        refine WL.y (hy := (by first | exact ld | exact ldE)) (h := ?_)
        refine WL.y (hy := (by first | exact fa | exact faE)) (h := ?_)
        refine WL.y (hy := (by first | exact fa | exact faE)) (h := ?_)
        refine WL.y (hy := (by first | exact fa | exact faE)) (h := ?_)
        refine WL.y (hy := (by first | exact ld | exact ldE)) (h := ?_)
        refine WL.y (hy := bd) (h := ?_)
        first | refine stA (h := ?_) | refine stEA (h := ?_)
        refine nl (h := ?_)
        rw [hset]
        exact ctn () trivial (by repeat (first | exact trivial | refine ⟨rfl, ?_⟩)) (by repeat (first | exact SubL.nil | (apply SubL.cons; (repeat (first | exact At.here | apply At.there))) | exact SubL.refl _ | apply SubL.skip))
      · skip
        have hset : setV f (wonV x.s.st) = (f.tie, f.to) := by
          have h' : (decide ((wonV x.s.st).1 = (wonV x.s.st).2) && decide ((wonV x.s.st).1 = f.sets - 1)) = false := h2
          rw [set_cond] at h'
          rw [setV, h']; rfl
        refine skp (h := ?_)
        rw [hset]
        exact ctn () trivial (by repeat (first | exact trivial | refine ⟨rfl, ?_⟩)) (by repeat (first | exact SubL.nil | (apply SubL.cons; (repeat (first | exact At.here | apply At.there))) | exact SubL.refl _ | apply SubL.skip))
    rintro ⟨⟩ -
    refine sq (h := ?_)
    refine rg (h := ?_)
    refine WL.y (hy := (by first | exact fa | exact faE)) (h := ?_)
    refine WL.y (hy := (by first | exact ldA | exact ldEA)) (h := ?_)
    refine WL.y (hy := (by first | exact fa | exact faE)) (h := ?_)
    refine WL.y (hy := (by first | exact ld | exact ldE)) (h := ?_)
    refine WL.y (hy := (by first | exact fa | exact faE)) (h := ?_)
    refine WL.y (hy := (by first | exact ld | exact ldE)) (h := ?_)
    refine WL.y (hy := bd) (h := ?_)
    refine WL.y (hy := eqlT) (h := ?_)
    rw [pair_eq2]
    refine WL.y (hy := asg) (h := ?_)
    refine nl (h := ?_)
    refine q_seq (h := ?_)
    refine sq (h := ?_)
    refine rg (h := ?_)
    refine WL.y (hy := (by first | exact fa | exact faE)) (h := ?_)
    refine WL.y (hy := (by first | exact ldA | exact ldEA)) (h := ?_)
    refine WL.y (hy := mv) (h := ?_)
    refine cl0 (hc := fun w hS => C_card_more x.s.p side hpm w) (h := ?_)
    refine WL.y (hy := (by first | exact fa | exact faE)) (h := ?_)
    first | refine stA (h := ?_) | refine stEA (h := ?_)
    refine nl (h := ?_)
    refine q_seq (h := ?_)
    refine sq (h := ?_)
    refine rg (h := ?_)
    refine WL.y (hy := asg) (h := ?_)
    refine WL.cut (by repeat (first | exact Cut.nil | apply Cut.hit | apply Cut.miss (by exact rfl))) ?_
    refine WL.y (hy := asg) (h := ?_)
    refine WL.cut (by repeat (first | exact Cut.nil | apply Cut.hit | apply Cut.miss (by exact rfl))) ?_
    refine nl (h := ?_)
    refine q_seq (h := ?_)
    refine sq (h := ?_)
    refine bk (h := ?_)
    refine sq (h := ?_)
    refine rg (h := ?_)
    refine WL.y (hy := mv) (h := ?_)
    refine WL.y (hy := asg) (h := ?_)
    refine nl (h := ?_)
    refine q_seq (h := ?_)
    refine cd (by exact rfl) (fun h3 => ?_) (fun h3 => ?_)
    · skip
      have hT : tieS f x.s = true := h3
      have hleast : leastS f x.s = (setV f (wonV x.s.st)).2 := by rw [leastS, hT]; rfl
      have hby : byS f x.s = 2 := by rw [byS, hT]; rfl
      refine rg (h := ?_)
      refine WL.y (hy := (by first | exact fa | exact faE)) (h := ?_)
      refine WL.y (hy := (by first | exact ld | exact ldE)) (h := ?_)
      refine WL.y (hy := asg) (h := ?_)
      refine WL.cut (by repeat (first | exact Cut.nil | apply Cut.hit | apply Cut.miss (by exact rfl))) ?_
      refine nl (h := ?_)
      refine q_blk_norm (h := ?_)
      refine q_seq (h := ?_)
      refine sq (h := ?_)
      refine sq (h := ?_)
      refine rg (h := ?_)
      refine WL.y (hy := (by first | exact fa | exact faE)) (h := ?_)
      refine WL.y (hy := (by first | exact ldA | exact ldEA)) (h := ?_)
      refine WL.y (hy := mv) (h := ?_)
      refine WL.y (hy := mv) (h := ?_)
      refine WL.y (hy := mv) (h := ?_)
      refine cl0 (hc := fun w hS => C_card_leads (addV x.s.p side) side _ _ hpam w) (h := ?_)
      refine nl (h := ?_)
      refine q_seq (h := ?_)
      refine cd (by exact rfl) (fun h4 => ?_) (fun h4 => ?_)
      · skip
        have hG : gotS f x.s side = true := by rw [gotS, hleast, hby]; exact h4
        refine sq (h := ?_)
        refine rg (h := ?_)
        refine WL.y (hy := bd) (h := ?_)
        refine WL.y (hy := (by first | exact fa | exact faE)) (h := ?_)
        refine WL.y (hy := (by first | exact ldA | exact ldEA)) (h := ?_)
        refine WL.y (hy := mv) (h := ?_)
        refine cl0 (hc := fun w hS => C_card_more x.s.g side hgm w) (h := ?_)
        refine WL.y (hy := (by first | exact fa | exact faE)) (h := ?_)
        first | refine stA (h := ?_) | refine stEA (h := ?_)
        refine WL.y (hy := (by first | exact fa | exact faE)) (h := ?_)
        first | refine stA (h := ?_) | refine stEA (h := ?_)
        refine nl (h := ?_)
        refine q_seq (h := ?_)
        refine sq (h := ?_)
        refine rg (h := ?_)
        refine WL.y (hy := mv) (h := ?_)
        refine WL.y (hy := mv) (h := ?_)
        apply brOr 9 101 110 (by exact rfl)
        · intro hb5
          refine un (h := ?_)
          refine WL.y (hy := (by first | exact fa | exact faE)) (h := ?_)
          refine un (h := ?_)
          refine WL.y (hy := (by first | exact ldA | exact ldEA)) (h := ?_)
          refine un (h := ?_)
          refine WL.y (hy := mv) (h := ?_)
          refine un (h := ?_)
          refine WL.y (hy := (by first | exact fa | exact faE)) (h := ?_)
          refine un (h := ?_)
          refine WL.y (hy := (by first | exact fa | exact faE)) (h := ?_)
          refine un (h := ?_)
          refine WL.y (hy := (by first | exact fa | exact faE)) (h := ?_)
          refine un (h := ?_)
          refine WL.y (hy := (by first | exact ld | exact ldE)) (h := ?_)
          refine un (h := ?_)
          refine cl0 (hc := fun w hS => C_card_leads (addV x.s.g side) side f.games 2 hgam w) (h := ?_)
          refine WL.y (hy := (by first | exact pkT | exact pkF)) (h := ?_)
          exact mg (by repeat (first | exact trivial | refine ⟨rfl, ?_⟩ | refine ⟨by rw [hb5]; rfl, ?_⟩)) (by repeat (first | exact SubL.nil | (apply SubL.cons; (repeat (first | exact At.here | apply At.there))) | exact SubL.refl _ | apply SubL.skip))
        · intro hb5
          repeat (first | refine un (h := ?_) | refine sk (h := ?_) | refine WL.y (hy := pkF) (h := ?_) | refine WL.y (hy := pkT) (h := ?_))
          exact mg (by repeat (first | exact trivial | refine ⟨rfl, ?_⟩ | refine ⟨by rw [hb5]; rfl, ?_⟩)) (by repeat (first | exact SubL.nil | (apply SubL.cons; (repeat (first | exact At.here | apply At.there))) | exact SubL.refl _ | apply SubL.skip))
        refine nl (h := ?_)
        refine q_seq (h := ?_)
        refine cd (by exact rfl) (fun h6 => ?_) (fun h6 => ?_)
        · skip
          have hE : endS' f x.s side = true := by unfold endS'; exact h6
          obtain rfl : u = ⟨x.s.first, x.s.st ++ [addV x.s.g side], (0, 0), (0, 0)⟩ := by rw [← hu, stepS, hG, hE]; rfl
          refine sq (h := ?_)
          refine rg (h := ?_)
          refine WL.y (hy := (by first | exact fa | exact faE)) (h := ?_)
          refine WL.y (hy := (by first | exact ld | exact ldE)) (h := ?_)
          refine WL.y (hy := (by first | exact fa | exact faE)) (h := ?_)
          refine WL.y (hy := (by first | exact ldA | exact ldEA)) (h := ?_)
          refine WL.y (hy := (by first | exact fa | exact faE)) (h := ?_)
          refine WL.y (hy := ixA (hb := by omega)) (h := ?_)
          refine stP (vs := [.int .i64 (addV x.s.g side).1, .int .i64 (addV x.s.g side).2]) (h1 := by simp [Value.oneCell']) (hsz := rfl) (ho := by show 0 + 2 + ((x.s.st.length : Int)).toNat * 2 + 2 ≤ 16; omega) (h := ?_)
          refine WL.blkTo _ .here (put_sets hl4 _ (addV x.s.g side) (0, 0) (addV x.s.g side)) ?_
          refine nl (h := ?_)
          refine q_seq (h := ?_)
          refine sq (h := ?_)
          refine rg (h := ?_)
          refine WL.y (hy := bd) (h := ?_)
          refine WL.y (hy := (by first | exact fa | exact faE)) (h := ?_)
          first | refine stA (h := ?_) | refine stEA (h := ?_)
          refine nl (h := ?_)
          refine q_seq (h := ?_)
          refine rg (h := ?_)
          refine WL.y (hy := (by first | exact fa | exact faE)) (h := ?_)
          refine WL.y (hy := (by first | exact ld | exact ldE)) (h := ?_)
          refine WL.y (hy := addI) (h := ?_)
          refine WL.y (hy := (by first | exact fa | exact faE)) (h := ?_)
          first | refine st (h := ?_) | refine stE (h := ?_)
          refine nl (h := ?_)
          refine q_seq (h := ?_)
          refine sq (h := ?_)
          refine rgD (by kernel_rfl) [(1000000, poolE 103 N mn none), (1000000, .blk b2 89 _)] (by repeat (first | exact HS.nil | (apply HS.keep; (repeat (first | exact At.here | apply At.there))) | (apply HS.ro; (repeat (first | exact Rds.ro | exact Rds.own | apply Rds.there))))) (h := ?_)
          refine tk 0 (hy := (by first | exact ldA | exact ldEA)) (h := ?_)
          refine tk 1 (hy := mv) (h := ?_)
          refine tk 2 (hy := mv) (h := ?_)
          refine tk 3 (hy := mv) (h := ?_)
          refine tk 4 (hy := nck) (h := ?_)
          refine tk 5 (hy := (by first | exact fa | exact faE)) (h := ?_)
          refine tk 6 (hy := (by first | exact fa | exact faE)) (h := ?_)
          refine tk 7 (hy := ldQ (hy := hx)) (h := ?_)
          refine tk 8 (hy := addI (hb := by omega)) (h := ?_)
          refine tk 9 (hy := mv) (h := ?_)
          refine tk 10 (hy := nck) (h := ?_)
          refine tk 11 (hy := (by first | exact fa | exact faE)) (h := ?_)
          refine tk 12 (hy := (by first | exact fa | exact faE)) (h := ?_)
          refine tk 13 (hy := ldQ (hy := hx)) (h := ?_)
          refine tk 14 (hy := addI (hb := by omega)) (h := ?_)
          refine tk 15 (hy := bd) (h := ?_)
          refine tk 16 (hy := bd) (h := ?_)
          refine one 17 (h := ?_)
          refine bxA (h := fun b6 => ?_)
          refine nx (h := ?_)
          refine tk 18 (hy := asg) (h := ?_)
          refine dn (h := ?_)
          refine q_seq (h := ?_)
          refine rtn (h := ?_)
          refine q_ret (hR := ?_)
          intro w hS
          have hS2 := hS.sub (L' := .blk _ 103 _ :: poolE 103 N mn none :: R) (by repeat (first | exact SubL.nil | (apply SubL.cons; (repeat (first | exact At.here | apply At.there))) | exact SubL.refl _ | apply SubL.skip))
          first
            | exact ret_next hS2 rfl
            | exact ret_next hS2 (by rw [← hle]; rfl)
        · skip
          have hE : endS' f x.s side = false := by unfold endS'; exact h6
          obtain rfl : u = ⟨x.s.first, x.s.st, addV x.s.g side, (0, 0)⟩ := by rw [← hu, stepS, hG, hE]; rfl
          refine skp (h := ?_)
          refine q_seq (h := ?_)
          refine sq (h := ?_)
          refine rgD (by kernel_rfl) [(1000000, poolE 103 N mn none), (1000000, .blk b2 89 _)] (by repeat (first | exact HS.nil | (apply HS.keep; (repeat (first | exact At.here | apply At.there))) | (apply HS.ro; (repeat (first | exact Rds.ro | exact Rds.own | apply Rds.there))))) (h := ?_)
          refine tk 0 (hy := (by first | exact ldA | exact ldEA)) (h := ?_)
          refine tk 1 (hy := mv) (h := ?_)
          refine tk 2 (hy := mv) (h := ?_)
          refine tk 3 (hy := mv) (h := ?_)
          refine tk 4 (hy := nck) (h := ?_)
          refine tk 5 (hy := (by first | exact fa | exact faE)) (h := ?_)
          refine tk 6 (hy := (by first | exact fa | exact faE)) (h := ?_)
          refine tk 7 (hy := ldQ (hy := hx)) (h := ?_)
          refine tk 8 (hy := addI (hb := by omega)) (h := ?_)
          refine tk 9 (hy := mv) (h := ?_)
          refine tk 10 (hy := nck) (h := ?_)
          refine tk 11 (hy := (by first | exact fa | exact faE)) (h := ?_)
          refine tk 12 (hy := (by first | exact fa | exact faE)) (h := ?_)
          refine tk 13 (hy := ldQ (hy := hx)) (h := ?_)
          refine tk 14 (hy := addI (hb := by omega)) (h := ?_)
          refine tk 15 (hy := bd) (h := ?_)
          refine tk 16 (hy := bd) (h := ?_)
          refine one 17 (h := ?_)
          refine bxA (h := fun b7 => ?_)
          refine nx (h := ?_)
          refine tk 18 (hy := asg) (h := ?_)
          refine dn (h := ?_)
          refine q_seq (h := ?_)
          refine rtn (h := ?_)
          refine q_ret (hR := ?_)
          intro w hS
          have hS2 := hS.sub (L' := .blk _ 103 _ :: poolE 103 N mn none :: R) (by repeat (first | exact SubL.nil | (apply SubL.cons; (repeat (first | exact At.here | apply At.there))) | exact SubL.refl _ | apply SubL.skip))
          first
            | exact ret_next hS2 rfl
            | exact ret_next hS2 (by rw [← hle]; rfl)
      · skip
        have hG : gotS f x.s side = false := by rw [gotS, hleast, hby]; exact h4
        obtain rfl : u = ⟨x.s.first, x.s.st, x.s.g, addV x.s.p side⟩ := by rw [← hu, stepS, hG]; rfl
        refine skp (h := ?_)
        refine q_seq (h := ?_)
        refine sq (h := ?_)
        refine rgD (by kernel_rfl) [(1000000, poolE 103 N mn none), (1000000, .blk b2 89 _)] (by repeat (first | exact HS.nil | (apply HS.keep; (repeat (first | exact At.here | apply At.there))) | (apply HS.ro; (repeat (first | exact Rds.ro | exact Rds.own | apply Rds.there))))) (h := ?_)
        refine tk 0 (hy := (by first | exact ldA | exact ldEA)) (h := ?_)
        refine tk 1 (hy := mv) (h := ?_)
        refine tk 2 (hy := mv) (h := ?_)
        refine tk 3 (hy := mv) (h := ?_)
        refine tk 4 (hy := nck) (h := ?_)
        refine tk 5 (hy := (by first | exact fa | exact faE)) (h := ?_)
        refine tk 6 (hy := (by first | exact fa | exact faE)) (h := ?_)
        refine tk 7 (hy := ldQ (hy := hx)) (h := ?_)
        refine tk 8 (hy := addI (hb := by omega)) (h := ?_)
        refine tk 9 (hy := mv) (h := ?_)
        refine tk 10 (hy := nck) (h := ?_)
        refine tk 11 (hy := (by first | exact fa | exact faE)) (h := ?_)
        refine tk 12 (hy := (by first | exact fa | exact faE)) (h := ?_)
        refine tk 13 (hy := ldQ (hy := hx)) (h := ?_)
        refine tk 14 (hy := addI (hb := by omega)) (h := ?_)
        refine tk 15 (hy := bd) (h := ?_)
        refine tk 16 (hy := bd) (h := ?_)
        refine one 17 (h := ?_)
        refine bxA (h := fun b8 => ?_)
        refine nx (h := ?_)
        refine tk 18 (hy := asg) (h := ?_)
        refine dn (h := ?_)
        refine q_seq (h := ?_)
        refine rtn (h := ?_)
        refine q_ret (hR := ?_)
        intro w hS
        have hS2 := hS.sub (L' := .blk _ 103 _ :: poolE 103 N mn none :: R) (by repeat (first | exact SubL.nil | (apply SubL.cons; (repeat (first | exact At.here | apply At.there))) | exact SubL.refl _ | apply SubL.skip))
        first
          | exact ret_next hS2 rfl
          | exact ret_next hS2 (by rw [← hle]; rfl)
    · skip
      have hT : tieS f x.s = false := h3
      have hleast : leastS f x.s = 4 := by rw [leastS, hT]; rfl
      refine sq (h := ?_)
      refine rg (h := ?_)
      refine WL.y (hy := (by first | exact fa | exact faE)) (h := ?_)
      refine WL.y (hy := (by first | exact fa | exact faE)) (h := ?_)
      refine WL.y (hy := (by first | exact fa | exact faE)) (h := ?_)
      refine WL.y (hy := (by first | exact ld | exact ldE)) (h := ?_)
      refine WL.y (hy := asg) (h := ?_)
      refine nl (h := ?_)
      refine q_seq (h := ?_)
      refine cd (by exact rfl) (fun h7 => ?_) (fun h7 => ?_)
      · skip
        have hby : byS f x.s = 1 := by rw [byS, hT, h7]; rfl
        refine rg (h := ?_)
        refine WL.y (hy := asg) (h := ?_)
        refine WL.cut (by repeat (first | exact Cut.nil | apply Cut.hit | apply Cut.miss (by exact rfl))) ?_
        refine nl (h := ?_)
        refine q_blk_norm (h := ?_)
        refine q_seq (h := ?_)
        refine sq (h := ?_)
        refine sq (h := ?_)
        refine rg (h := ?_)
        refine WL.y (hy := (by first | exact fa | exact faE)) (h := ?_)
        refine WL.y (hy := (by first | exact ldA | exact ldEA)) (h := ?_)
        refine WL.y (hy := mv) (h := ?_)
        refine WL.y (hy := mv) (h := ?_)
        refine WL.y (hy := mv) (h := ?_)
        refine cl0 (hc := fun w hS => C_card_leads (addV x.s.p side) side _ _ hpam w) (h := ?_)
        refine nl (h := ?_)
        refine q_seq (h := ?_)
        refine cd (by exact rfl) (fun h8 => ?_) (fun h8 => ?_)
        · skip
          have hG : gotS f x.s side = true := by rw [gotS, hleast, hby]; exact h8
          refine sq (h := ?_)
          refine rg (h := ?_)
          refine WL.y (hy := bd) (h := ?_)
          refine WL.y (hy := (by first | exact fa | exact faE)) (h := ?_)
          refine WL.y (hy := (by first | exact ldA | exact ldEA)) (h := ?_)
          refine WL.y (hy := mv) (h := ?_)
          refine cl0 (hc := fun w hS => C_card_more x.s.g side hgm w) (h := ?_)
          refine WL.y (hy := (by first | exact fa | exact faE)) (h := ?_)
          first | refine stA (h := ?_) | refine stEA (h := ?_)
          refine WL.y (hy := (by first | exact fa | exact faE)) (h := ?_)
          first | refine stA (h := ?_) | refine stEA (h := ?_)
          refine nl (h := ?_)
          refine q_seq (h := ?_)
          refine sq (h := ?_)
          refine rg (h := ?_)
          refine WL.y (hy := mv) (h := ?_)
          refine WL.y (hy := mv) (h := ?_)
          apply brOr 9 101 110 (by exact rfl)
          · intro hb9
            refine un (h := ?_)
            refine WL.y (hy := (by first | exact fa | exact faE)) (h := ?_)
            refine un (h := ?_)
            refine WL.y (hy := (by first | exact ldA | exact ldEA)) (h := ?_)
            refine un (h := ?_)
            refine WL.y (hy := mv) (h := ?_)
            refine un (h := ?_)
            refine WL.y (hy := (by first | exact fa | exact faE)) (h := ?_)
            refine un (h := ?_)
            refine WL.y (hy := (by first | exact fa | exact faE)) (h := ?_)
            refine un (h := ?_)
            refine WL.y (hy := (by first | exact fa | exact faE)) (h := ?_)
            refine un (h := ?_)
            refine WL.y (hy := (by first | exact ld | exact ldE)) (h := ?_)
            refine un (h := ?_)
            refine cl0 (hc := fun w hS => C_card_leads (addV x.s.g side) side f.games 2 hgam w) (h := ?_)
            refine WL.y (hy := (by first | exact pkT | exact pkF)) (h := ?_)
            exact mg (by repeat (first | exact trivial | refine ⟨rfl, ?_⟩ | refine ⟨by rw [hb9]; rfl, ?_⟩)) (by repeat (first | exact SubL.nil | (apply SubL.cons; (repeat (first | exact At.here | apply At.there))) | exact SubL.refl _ | apply SubL.skip))
          · intro hb9
            repeat (first | refine un (h := ?_) | refine sk (h := ?_) | refine WL.y (hy := pkF) (h := ?_) | refine WL.y (hy := pkT) (h := ?_))
            exact mg (by repeat (first | exact trivial | refine ⟨rfl, ?_⟩ | refine ⟨by rw [hb9]; rfl, ?_⟩)) (by repeat (first | exact SubL.nil | (apply SubL.cons; (repeat (first | exact At.here | apply At.there))) | exact SubL.refl _ | apply SubL.skip))
          refine nl (h := ?_)
          refine q_seq (h := ?_)
          refine cd (by exact rfl) (fun h10 => ?_) (fun h10 => ?_)
          · skip
            have hE : endS' f x.s side = true := by unfold endS'; exact h10
            obtain rfl : u = ⟨x.s.first, x.s.st ++ [addV x.s.g side], (0, 0), (0, 0)⟩ := by rw [← hu, stepS, hG, hE]; rfl
            refine sq (h := ?_)
            refine rg (h := ?_)
            refine WL.y (hy := (by first | exact fa | exact faE)) (h := ?_)
            refine WL.y (hy := (by first | exact ld | exact ldE)) (h := ?_)
            refine WL.y (hy := (by first | exact fa | exact faE)) (h := ?_)
            refine WL.y (hy := (by first | exact ldA | exact ldEA)) (h := ?_)
            refine WL.y (hy := (by first | exact fa | exact faE)) (h := ?_)
            refine WL.y (hy := ixA (hb := by omega)) (h := ?_)
            refine stP (vs := [.int .i64 (addV x.s.g side).1, .int .i64 (addV x.s.g side).2]) (h1 := by simp [Value.oneCell']) (hsz := rfl) (ho := by show 0 + 2 + ((x.s.st.length : Int)).toNat * 2 + 2 ≤ 16; omega) (h := ?_)
            refine WL.blkTo _ .here (put_sets hl4 _ (addV x.s.g side) (0, 0) (addV x.s.g side)) ?_
            refine nl (h := ?_)
            refine q_seq (h := ?_)
            refine sq (h := ?_)
            refine rg (h := ?_)
            refine WL.y (hy := bd) (h := ?_)
            refine WL.y (hy := (by first | exact fa | exact faE)) (h := ?_)
            first | refine stA (h := ?_) | refine stEA (h := ?_)
            refine nl (h := ?_)
            refine q_seq (h := ?_)
            refine rg (h := ?_)
            refine WL.y (hy := (by first | exact fa | exact faE)) (h := ?_)
            refine WL.y (hy := (by first | exact ld | exact ldE)) (h := ?_)
            refine WL.y (hy := addI) (h := ?_)
            refine WL.y (hy := (by first | exact fa | exact faE)) (h := ?_)
            first | refine st (h := ?_) | refine stE (h := ?_)
            refine nl (h := ?_)
            refine q_seq (h := ?_)
            refine sq (h := ?_)
            refine rgD (by kernel_rfl) [(1000000, poolE 103 N mn none), (1000000, .blk b2 89 _)] (by repeat (first | exact HS.nil | (apply HS.keep; (repeat (first | exact At.here | apply At.there))) | (apply HS.ro; (repeat (first | exact Rds.ro | exact Rds.own | apply Rds.there))))) (h := ?_)
            refine tk 0 (hy := (by first | exact ldA | exact ldEA)) (h := ?_)
            refine tk 1 (hy := mv) (h := ?_)
            refine tk 2 (hy := mv) (h := ?_)
            refine tk 3 (hy := mv) (h := ?_)
            refine tk 4 (hy := nck) (h := ?_)
            refine tk 5 (hy := (by first | exact fa | exact faE)) (h := ?_)
            refine tk 6 (hy := (by first | exact fa | exact faE)) (h := ?_)
            refine tk 7 (hy := ldQ (hy := hx)) (h := ?_)
            refine tk 8 (hy := addI (hb := by omega)) (h := ?_)
            refine tk 9 (hy := mv) (h := ?_)
            refine tk 10 (hy := nck) (h := ?_)
            refine tk 11 (hy := (by first | exact fa | exact faE)) (h := ?_)
            refine tk 12 (hy := (by first | exact fa | exact faE)) (h := ?_)
            refine tk 13 (hy := ldQ (hy := hx)) (h := ?_)
            refine tk 14 (hy := addI (hb := by omega)) (h := ?_)
            refine tk 15 (hy := bd) (h := ?_)
            refine tk 16 (hy := bd) (h := ?_)
            refine one 17 (h := ?_)
            refine bxA (h := fun b9 => ?_)
            refine nx (h := ?_)
            refine tk 18 (hy := asg) (h := ?_)
            refine dn (h := ?_)
            refine q_seq (h := ?_)
            refine rtn (h := ?_)
            refine q_ret (hR := ?_)
            intro w hS
            have hS2 := hS.sub (L' := .blk _ 103 _ :: poolE 103 N mn none :: R) (by repeat (first | exact SubL.nil | (apply SubL.cons; (repeat (first | exact At.here | apply At.there))) | exact SubL.refl _ | apply SubL.skip))
            first
              | exact ret_next hS2 rfl
              | exact ret_next hS2 (by rw [← hle]; rfl)
          · skip
            have hE : endS' f x.s side = false := by unfold endS'; exact h10
            obtain rfl : u = ⟨x.s.first, x.s.st, addV x.s.g side, (0, 0)⟩ := by rw [← hu, stepS, hG, hE]; rfl
            refine skp (h := ?_)
            refine q_seq (h := ?_)
            refine sq (h := ?_)
            refine rgD (by kernel_rfl) [(1000000, poolE 103 N mn none), (1000000, .blk b2 89 _)] (by repeat (first | exact HS.nil | (apply HS.keep; (repeat (first | exact At.here | apply At.there))) | (apply HS.ro; (repeat (first | exact Rds.ro | exact Rds.own | apply Rds.there))))) (h := ?_)
            refine tk 0 (hy := (by first | exact ldA | exact ldEA)) (h := ?_)
            refine tk 1 (hy := mv) (h := ?_)
            refine tk 2 (hy := mv) (h := ?_)
            refine tk 3 (hy := mv) (h := ?_)
            refine tk 4 (hy := nck) (h := ?_)
            refine tk 5 (hy := (by first | exact fa | exact faE)) (h := ?_)
            refine tk 6 (hy := (by first | exact fa | exact faE)) (h := ?_)
            refine tk 7 (hy := ldQ (hy := hx)) (h := ?_)
            refine tk 8 (hy := addI (hb := by omega)) (h := ?_)
            refine tk 9 (hy := mv) (h := ?_)
            refine tk 10 (hy := nck) (h := ?_)
            refine tk 11 (hy := (by first | exact fa | exact faE)) (h := ?_)
            refine tk 12 (hy := (by first | exact fa | exact faE)) (h := ?_)
            refine tk 13 (hy := ldQ (hy := hx)) (h := ?_)
            refine tk 14 (hy := addI (hb := by omega)) (h := ?_)
            refine tk 15 (hy := bd) (h := ?_)
            refine tk 16 (hy := bd) (h := ?_)
            refine one 17 (h := ?_)
            refine bxA (h := fun b10 => ?_)
            refine nx (h := ?_)
            refine tk 18 (hy := asg) (h := ?_)
            refine dn (h := ?_)
            refine q_seq (h := ?_)
            refine rtn (h := ?_)
            refine q_ret (hR := ?_)
            intro w hS
            have hS2 := hS.sub (L' := .blk _ 103 _ :: poolE 103 N mn none :: R) (by repeat (first | exact SubL.nil | (apply SubL.cons; (repeat (first | exact At.here | apply At.there))) | exact SubL.refl _ | apply SubL.skip))
            first
              | exact ret_next hS2 rfl
              | exact ret_next hS2 (by rw [← hle]; rfl)
        · skip
          have hG : gotS f x.s side = false := by rw [gotS, hleast, hby]; exact h8
          obtain rfl : u = ⟨x.s.first, x.s.st, x.s.g, addV x.s.p side⟩ := by rw [← hu, stepS, hG]; rfl
          refine skp (h := ?_)
          refine q_seq (h := ?_)
          refine sq (h := ?_)
          refine rgD (by kernel_rfl) [(1000000, poolE 103 N mn none), (1000000, .blk b2 89 _)] (by repeat (first | exact HS.nil | (apply HS.keep; (repeat (first | exact At.here | apply At.there))) | (apply HS.ro; (repeat (first | exact Rds.ro | exact Rds.own | apply Rds.there))))) (h := ?_)
          refine tk 0 (hy := (by first | exact ldA | exact ldEA)) (h := ?_)
          refine tk 1 (hy := mv) (h := ?_)
          refine tk 2 (hy := mv) (h := ?_)
          refine tk 3 (hy := mv) (h := ?_)
          refine tk 4 (hy := nck) (h := ?_)
          refine tk 5 (hy := (by first | exact fa | exact faE)) (h := ?_)
          refine tk 6 (hy := (by first | exact fa | exact faE)) (h := ?_)
          refine tk 7 (hy := ldQ (hy := hx)) (h := ?_)
          refine tk 8 (hy := addI (hb := by omega)) (h := ?_)
          refine tk 9 (hy := mv) (h := ?_)
          refine tk 10 (hy := nck) (h := ?_)
          refine tk 11 (hy := (by first | exact fa | exact faE)) (h := ?_)
          refine tk 12 (hy := (by first | exact fa | exact faE)) (h := ?_)
          refine tk 13 (hy := ldQ (hy := hx)) (h := ?_)
          refine tk 14 (hy := addI (hb := by omega)) (h := ?_)
          refine tk 15 (hy := bd) (h := ?_)
          refine tk 16 (hy := bd) (h := ?_)
          refine one 17 (h := ?_)
          refine bxA (h := fun b11 => ?_)
          refine nx (h := ?_)
          refine tk 18 (hy := asg) (h := ?_)
          refine dn (h := ?_)
          refine q_seq (h := ?_)
          refine rtn (h := ?_)
          refine q_ret (hR := ?_)
          intro w hS
          have hS2 := hS.sub (L' := .blk _ 103 _ :: poolE 103 N mn none :: R) (by repeat (first | exact SubL.nil | (apply SubL.cons; (repeat (first | exact At.here | apply At.there))) | exact SubL.refl _ | apply SubL.skip))
          first
            | exact ret_next hS2 rfl
            | exact ret_next hS2 (by rw [← hle]; rfl)
      · skip
        have hby : byS f x.s = 2 := by rw [byS, hT, h7]; rfl
        refine skp (h := ?_)
        refine q_blk_norm (h := ?_)
        refine q_seq (h := ?_)
        refine sq (h := ?_)
        refine sq (h := ?_)
        refine rg (h := ?_)
        refine WL.y (hy := (by first | exact fa | exact faE)) (h := ?_)
        refine WL.y (hy := (by first | exact ldA | exact ldEA)) (h := ?_)
        refine WL.y (hy := mv) (h := ?_)
        refine WL.y (hy := mv) (h := ?_)
        refine WL.y (hy := mv) (h := ?_)
        refine cl0 (hc := fun w hS => C_card_leads (addV x.s.p side) side _ _ hpam w) (h := ?_)
        refine nl (h := ?_)
        refine q_seq (h := ?_)
        refine cd (by exact rfl) (fun h11 => ?_) (fun h11 => ?_)
        · skip
          have hG : gotS f x.s side = true := by rw [gotS, hleast, hby]; exact h11
          refine sq (h := ?_)
          refine rg (h := ?_)
          refine WL.y (hy := bd) (h := ?_)
          refine WL.y (hy := (by first | exact fa | exact faE)) (h := ?_)
          refine WL.y (hy := (by first | exact ldA | exact ldEA)) (h := ?_)
          refine WL.y (hy := mv) (h := ?_)
          refine cl0 (hc := fun w hS => C_card_more x.s.g side hgm w) (h := ?_)
          refine WL.y (hy := (by first | exact fa | exact faE)) (h := ?_)
          first | refine stA (h := ?_) | refine stEA (h := ?_)
          refine WL.y (hy := (by first | exact fa | exact faE)) (h := ?_)
          first | refine stA (h := ?_) | refine stEA (h := ?_)
          refine nl (h := ?_)
          refine q_seq (h := ?_)
          refine sq (h := ?_)
          refine rg (h := ?_)
          refine WL.y (hy := mv) (h := ?_)
          refine WL.y (hy := mv) (h := ?_)
          apply brOr 9 101 110 (by exact rfl)
          · intro hb12
            refine un (h := ?_)
            refine WL.y (hy := (by first | exact fa | exact faE)) (h := ?_)
            refine un (h := ?_)
            refine WL.y (hy := (by first | exact ldA | exact ldEA)) (h := ?_)
            refine un (h := ?_)
            refine WL.y (hy := mv) (h := ?_)
            refine un (h := ?_)
            refine WL.y (hy := (by first | exact fa | exact faE)) (h := ?_)
            refine un (h := ?_)
            refine WL.y (hy := (by first | exact fa | exact faE)) (h := ?_)
            refine un (h := ?_)
            refine WL.y (hy := (by first | exact fa | exact faE)) (h := ?_)
            refine un (h := ?_)
            refine WL.y (hy := (by first | exact ld | exact ldE)) (h := ?_)
            refine un (h := ?_)
            refine cl0 (hc := fun w hS => C_card_leads (addV x.s.g side) side f.games 2 hgam w) (h := ?_)
            refine WL.y (hy := (by first | exact pkT | exact pkF)) (h := ?_)
            exact mg (by repeat (first | exact trivial | refine ⟨rfl, ?_⟩ | refine ⟨by rw [hb12]; rfl, ?_⟩)) (by repeat (first | exact SubL.nil | (apply SubL.cons; (repeat (first | exact At.here | apply At.there))) | exact SubL.refl _ | apply SubL.skip))
          · intro hb12
            repeat (first | refine un (h := ?_) | refine sk (h := ?_) | refine WL.y (hy := pkF) (h := ?_) | refine WL.y (hy := pkT) (h := ?_))
            exact mg (by repeat (first | exact trivial | refine ⟨rfl, ?_⟩ | refine ⟨by rw [hb12]; rfl, ?_⟩)) (by repeat (first | exact SubL.nil | (apply SubL.cons; (repeat (first | exact At.here | apply At.there))) | exact SubL.refl _ | apply SubL.skip))
          refine nl (h := ?_)
          refine q_seq (h := ?_)
          refine cd (by exact rfl) (fun h13 => ?_) (fun h13 => ?_)
          · skip
            have hE : endS' f x.s side = true := by unfold endS'; exact h13
            obtain rfl : u = ⟨x.s.first, x.s.st ++ [addV x.s.g side], (0, 0), (0, 0)⟩ := by rw [← hu, stepS, hG, hE]; rfl
            refine sq (h := ?_)
            refine rg (h := ?_)
            refine WL.y (hy := (by first | exact fa | exact faE)) (h := ?_)
            refine WL.y (hy := (by first | exact ld | exact ldE)) (h := ?_)
            refine WL.y (hy := (by first | exact fa | exact faE)) (h := ?_)
            refine WL.y (hy := (by first | exact ldA | exact ldEA)) (h := ?_)
            refine WL.y (hy := (by first | exact fa | exact faE)) (h := ?_)
            refine WL.y (hy := ixA (hb := by omega)) (h := ?_)
            refine stP (vs := [.int .i64 (addV x.s.g side).1, .int .i64 (addV x.s.g side).2]) (h1 := by simp [Value.oneCell']) (hsz := rfl) (ho := by show 0 + 2 + ((x.s.st.length : Int)).toNat * 2 + 2 ≤ 16; omega) (h := ?_)
            refine WL.blkTo _ .here (put_sets hl4 _ (addV x.s.g side) (0, 0) (addV x.s.g side)) ?_
            refine nl (h := ?_)
            refine q_seq (h := ?_)
            refine sq (h := ?_)
            refine rg (h := ?_)
            refine WL.y (hy := bd) (h := ?_)
            refine WL.y (hy := (by first | exact fa | exact faE)) (h := ?_)
            first | refine stA (h := ?_) | refine stEA (h := ?_)
            refine nl (h := ?_)
            refine q_seq (h := ?_)
            refine rg (h := ?_)
            refine WL.y (hy := (by first | exact fa | exact faE)) (h := ?_)
            refine WL.y (hy := (by first | exact ld | exact ldE)) (h := ?_)
            refine WL.y (hy := addI) (h := ?_)
            refine WL.y (hy := (by first | exact fa | exact faE)) (h := ?_)
            first | refine st (h := ?_) | refine stE (h := ?_)
            refine nl (h := ?_)
            refine q_seq (h := ?_)
            refine sq (h := ?_)
            refine rgD (by kernel_rfl) [(1000000, poolE 103 N mn none), (1000000, .blk b2 89 _)] (by repeat (first | exact HS.nil | (apply HS.keep; (repeat (first | exact At.here | apply At.there))) | (apply HS.ro; (repeat (first | exact Rds.ro | exact Rds.own | apply Rds.there))))) (h := ?_)
            refine tk 0 (hy := (by first | exact ldA | exact ldEA)) (h := ?_)
            refine tk 1 (hy := mv) (h := ?_)
            refine tk 2 (hy := mv) (h := ?_)
            refine tk 3 (hy := mv) (h := ?_)
            refine tk 4 (hy := nck) (h := ?_)
            refine tk 5 (hy := (by first | exact fa | exact faE)) (h := ?_)
            refine tk 6 (hy := (by first | exact fa | exact faE)) (h := ?_)
            refine tk 7 (hy := ldQ (hy := hx)) (h := ?_)
            refine tk 8 (hy := addI (hb := by omega)) (h := ?_)
            refine tk 9 (hy := mv) (h := ?_)
            refine tk 10 (hy := nck) (h := ?_)
            refine tk 11 (hy := (by first | exact fa | exact faE)) (h := ?_)
            refine tk 12 (hy := (by first | exact fa | exact faE)) (h := ?_)
            refine tk 13 (hy := ldQ (hy := hx)) (h := ?_)
            refine tk 14 (hy := addI (hb := by omega)) (h := ?_)
            refine tk 15 (hy := bd) (h := ?_)
            refine tk 16 (hy := bd) (h := ?_)
            refine one 17 (h := ?_)
            refine bxA (h := fun b12 => ?_)
            refine nx (h := ?_)
            refine tk 18 (hy := asg) (h := ?_)
            refine dn (h := ?_)
            refine q_seq (h := ?_)
            refine rtn (h := ?_)
            refine q_ret (hR := ?_)
            intro w hS
            have hS2 := hS.sub (L' := .blk _ 103 _ :: poolE 103 N mn none :: R) (by repeat (first | exact SubL.nil | (apply SubL.cons; (repeat (first | exact At.here | apply At.there))) | exact SubL.refl _ | apply SubL.skip))
            first
              | exact ret_next hS2 rfl
              | exact ret_next hS2 (by rw [← hle]; rfl)
          · skip
            have hE : endS' f x.s side = false := by unfold endS'; exact h13
            obtain rfl : u = ⟨x.s.first, x.s.st, addV x.s.g side, (0, 0)⟩ := by rw [← hu, stepS, hG, hE]; rfl
            refine skp (h := ?_)
            refine q_seq (h := ?_)
            refine sq (h := ?_)
            refine rgD (by kernel_rfl) [(1000000, poolE 103 N mn none), (1000000, .blk b2 89 _)] (by repeat (first | exact HS.nil | (apply HS.keep; (repeat (first | exact At.here | apply At.there))) | (apply HS.ro; (repeat (first | exact Rds.ro | exact Rds.own | apply Rds.there))))) (h := ?_)
            refine tk 0 (hy := (by first | exact ldA | exact ldEA)) (h := ?_)
            refine tk 1 (hy := mv) (h := ?_)
            refine tk 2 (hy := mv) (h := ?_)
            refine tk 3 (hy := mv) (h := ?_)
            refine tk 4 (hy := nck) (h := ?_)
            refine tk 5 (hy := (by first | exact fa | exact faE)) (h := ?_)
            refine tk 6 (hy := (by first | exact fa | exact faE)) (h := ?_)
            refine tk 7 (hy := ldQ (hy := hx)) (h := ?_)
            refine tk 8 (hy := addI (hb := by omega)) (h := ?_)
            refine tk 9 (hy := mv) (h := ?_)
            refine tk 10 (hy := nck) (h := ?_)
            refine tk 11 (hy := (by first | exact fa | exact faE)) (h := ?_)
            refine tk 12 (hy := (by first | exact fa | exact faE)) (h := ?_)
            refine tk 13 (hy := ldQ (hy := hx)) (h := ?_)
            refine tk 14 (hy := addI (hb := by omega)) (h := ?_)
            refine tk 15 (hy := bd) (h := ?_)
            refine tk 16 (hy := bd) (h := ?_)
            refine one 17 (h := ?_)
            refine bxA (h := fun b13 => ?_)
            refine nx (h := ?_)
            refine tk 18 (hy := asg) (h := ?_)
            refine dn (h := ?_)
            refine q_seq (h := ?_)
            refine rtn (h := ?_)
            refine q_ret (hR := ?_)
            intro w hS
            have hS2 := hS.sub (L' := .blk _ 103 _ :: poolE 103 N mn none :: R) (by repeat (first | exact SubL.nil | (apply SubL.cons; (repeat (first | exact At.here | apply At.there))) | exact SubL.refl _ | apply SubL.skip))
            first
              | exact ret_next hS2 rfl
              | exact ret_next hS2 (by rw [← hle]; rfl)
        · skip
          have hG : gotS f x.s side = false := by rw [gotS, hleast, hby]; exact h11
          obtain rfl : u = ⟨x.s.first, x.s.st, x.s.g, addV x.s.p side⟩ := by rw [← hu, stepS, hG]; rfl
          refine skp (h := ?_)
          refine q_seq (h := ?_)
          refine sq (h := ?_)
          refine rgD (by kernel_rfl) [(1000000, poolE 103 N mn none), (1000000, .blk b2 89 _)] (by repeat (first | exact HS.nil | (apply HS.keep; (repeat (first | exact At.here | apply At.there))) | (apply HS.ro; (repeat (first | exact Rds.ro | exact Rds.own | apply Rds.there))))) (h := ?_)
          refine tk 0 (hy := (by first | exact ldA | exact ldEA)) (h := ?_)
          refine tk 1 (hy := mv) (h := ?_)
          refine tk 2 (hy := mv) (h := ?_)
          refine tk 3 (hy := mv) (h := ?_)
          refine tk 4 (hy := nck) (h := ?_)
          refine tk 5 (hy := (by first | exact fa | exact faE)) (h := ?_)
          refine tk 6 (hy := (by first | exact fa | exact faE)) (h := ?_)
          refine tk 7 (hy := ldQ (hy := hx)) (h := ?_)
          refine tk 8 (hy := addI (hb := by omega)) (h := ?_)
          refine tk 9 (hy := mv) (h := ?_)
          refine tk 10 (hy := nck) (h := ?_)
          refine tk 11 (hy := (by first | exact fa | exact faE)) (h := ?_)
          refine tk 12 (hy := (by first | exact fa | exact faE)) (h := ?_)
          refine tk 13 (hy := ldQ (hy := hx)) (h := ?_)
          refine tk 14 (hy := addI (hb := by omega)) (h := ?_)
          refine tk 15 (hy := bd) (h := ?_)
          refine tk 16 (hy := bd) (h := ?_)
          refine one 17 (h := ?_)
          refine bxA (h := fun b14 => ?_)
          refine nx (h := ?_)
          refine tk 18 (hy := asg) (h := ?_)
          refine dn (h := ?_)
          refine q_seq (h := ?_)
          refine rtn (h := ?_)
          refine q_ret (hR := ?_)
          intro w hS
          have hS2 := hS.sub (L' := .blk _ 103 _ :: poolE 103 N mn none :: R) (by repeat (first | exact SubL.nil | (apply SubL.cons; (repeat (first | exact At.here | apply At.there))) | exact SubL.refl _ | apply SubL.skip))
          first
            | exact ret_next hS2 rfl
            | exact ret_next hS2 (by rw [← hle]; rfl)
end Go.Proofs.Ytncoimjgjpcipaa

namespace Go.Proofs.Ytncoimjgjpcipaa
open Go Go.RowKit

structure CrIs (N ns : List Nd) (es : Array MapEntry) (c : Nat) : Prop where
  m : MapIs es (crE ns)
  s : Stm es c
  sub : ∀ y ∈ ns, y ∈ N
  keys : (spotKs ns).Nodup
theorem CrIs.nil (N : List Nd) : CrIs N [] #[] 0 := ⟨mapIs0, stm0, fun y hy => (by cases hy), List.nodup_nil⟩
theorem CrIs.up {N N' ns : List Nd} {es : Array MapEntry} {c : Nat} (h : CrIs N ns es c) (hs : ∀ y ∈ N, y ∈ N') : CrIs N' ns es c := ⟨h.m, h.s, fun y hy => hs y (h.sub y hy), h.keys⟩
theorem CrIs.put {N ns : List Nd} {es es' : Array MapEntry} {c c' : Nat} {x : Nd} (h : CrIs N ns es c) (hx : x ∈ N) (hm : MapIs es' (crE (putNs ns x)) ∧ Stm es' c') : CrIs N (putNs ns x) es' c' :=
  ⟨hm.1, hm.2, fun y hy => by rcases putNs_mem hy with h2 | h2; exact h.sub y h2; exact h2 ▸ hx, putNs_keys h.keys⟩
abbrev ndKV (x : Nd) : KV := (.agg (spotC x.s).toArray, bp x.b)
theorem cr_kv {N ns : List Nd} {es : Array MapEntry} {c : Nat} (h : CrIs N ns es c) : es.toList.map kvOf = ns.map ndKV := by
  have := h.m
  unfold MapIs at this
  rw [show es.toList.map kvOf = es.toList.map (fun e => (e.key, e.val)) from rfl, this, crE, List.map_map]
  rfl
theorem todo_nd {todo : List KV} {ts : List Nd} {o : Option KV} {todo' : List KV} (ht : todo.Perm (ts.map ndKV)) (h : NxO todo o todo') : (o = none ∧ ts = [] ∧ todo'.Perm (([] : List Nd).map ndKV)) ∨ ∃ x ts', o = some (ndKV x) ∧ ts.Perm (x :: ts') ∧ todo'.Perm (ts'.map ndKV) := by
  cases o with
  | none =>
    obtain ⟨rfl, rfl⟩ := h
    have := ht.nil_eq
    left
    refine ⟨rfl, ?_, .refl _⟩
    cases ts with
    | nil => rfl
    | cons _ _ => cases this
  | some kv =>
    right
    have hp : (kv :: todo').Perm (ts.map ndKV) := (show todo.Perm (kv :: todo') from h).symm.trans ht
    have hm : kv ∈ ts.map ndKV := hp.subset List.mem_cons_self
    obtain ⟨x, hx, rfl⟩ := List.mem_map.1 hm
    obtain ⟨l1, l2, rfl⟩ := List.append_of_mem hx
    refine ⟨x, l1 ++ l2, rfl, List.perm_middle, ?_⟩
    have : (ndKV x :: todo').Perm (ndKV x :: (l1 ++ l2).map ndKV) := hp.trans (by
      rw [List.map_append, List.map_cons, List.map_append]
      exact List.perm_middle)
    exact (List.perm_cons _).1 this

theorem T_reader_score (f : Fmt) (cf : Int) (A : Option Addr) (n c : Nat) (N : List Nd) (mn : Nat → Pr) (x : Nd) (hx : x ∈ N) (r : List Int) (hr : RowN N x r) (hrl : r.length ≤ 600) :
    Tr Try.prog 70 [.agg (cardC f cf A n c).toArray, bp x.b] [poolE 103 N mn none] (fun _ : Option Addr × Nat => True) (fun p => (scO (playO f x.s.first r)).val p.1 p.2) (fun p => [.own p.1 p.2 38 2 (scO (playO f x.s.first r)).st.length (encP (scO (playO f x.s.first r)).st), poolE 103 N mn none]) := by
  refine ⟨fun w0 w R hst => ?_⟩
  refine en Try.func70 Try.ntmps70 hst (h := fun F => ?_)
  refine sq (h := ?_)
  refine rg (h := ?_)
  refine bxA (h := fun b0 => ?_)
  refine al (h := fun b1 => ?_)
  refine nl (h := ?_)
  refine q_seq (h := ?_)
  refine sq (h := ?_)
  refine rgD (by kernel_rfl) [(1000000, poolE 103 N mn none), (1000000, .blk b0 100 (cardC f cf A n c))] (by repeat (first | exact HS.nil | (apply HS.keep; (repeat (first | exact At.here | apply At.there))) | (apply HS.ro; (repeat (first | exact Rds.ro | exact Rds.own | apply Rds.there))))) (h := ?_)
  refine tk 0 (hy := (by first | exact fa | exact faE)) (h := ?_)
  refine tk 1 (hy := (by first | exact fa | exact faE)) (h := ?_)
  refine tk 2 (hy := (by first | exact ldA | exact ldEA)) (h := ?_)
  refine tk 3 (hy := mv) (h := ?_)
  refine tk 4 (hy := nck) (h := ?_)
  refine tk 5 (hy := (by first | exact fa | exact faE)) (h := ?_)
  refine tk 6 (hy := (by first | exact fa | exact faE)) (h := ?_)
  refine tk 7 (hy := ldQ (hy := hx)) (h := ?_)
  refine tk 8 (hy := mv) (h := ?_)
  refine two 9 14 (h1 := ?_) (h2 := ?_)
  · skip
    refine clT (hc := T_node_row N mn x hx r hr (by omega)) (h := fun p1 _ => ?_)
    refine nx (h := ?_)
    refine two 10 14 (h1 := ?_) (h2 := ?_)
    · skip
      refine cl (hc := fun w hS => C_score_Play f x.s.first r _ _ _ w (hS.get (by repeat (first | exact Rds.ro | exact Rds.own | apply Rds.there))) (by omega)) (h := fun p2 _ => ?_)
      refine nx (h := ?_)
      refine tk 11 (hy := mv) (h := ?_)
      refine tk 12 (hy := ex) (h := ?_)
      refine tk 13 (hy := ex) (h := ?_)
      refine one 14 (h := ?_)
      refine al (h := fun b2 => ?_)
      refine nx (h := ?_)
      refine one 15 (h := ?_)
      first | refine stA (h := ?_) | refine stEA (h := ?_)
      refine nx (h := ?_)
      refine tk 16 (hy := asg) (h := ?_)
      refine dn (h := ?_)
      refine q_seq (h := ?_)
      refine sq (h := ?_)
      refine rg (h := ?_)
      refine WL.y (hy := (by first | exact ldA | exact ldEA)) (h := ?_)
      first | refine stA (h := ?_) | refine stEA (h := ?_)
      refine nl (h := ?_)
      refine q_seq (h := ?_)
      refine rtn (h := ?_)
      refine q_ret (hR := ?_)
      exact fun w hS => ⟨p2, trivial, rfl, hS.sub (by repeat (first | exact SubL.nil | (apply SubL.cons; (repeat (first | exact At.here | apply At.there))) | exact SubL.refl _ | apply SubL.skip))⟩
    · skip
      refine al (h := fun b3 => ?_)
      refine nx (h := ?_)
      refine one 10 (h := ?_)
      refine cl (hc := fun w hS => C_score_Play f x.s.first r _ _ _ w (hS.get (by repeat (first | exact Rds.ro | exact Rds.own | apply Rds.there))) (by omega)) (h := fun p2 _ => ?_)
      refine nx (h := ?_)
      refine tk 11 (hy := mv) (h := ?_)
      refine tk 12 (hy := ex) (h := ?_)
      refine tk 13 (hy := ex) (h := ?_)
      refine one 15 (h := ?_)
      first | refine stA (h := ?_) | refine stEA (h := ?_)
      refine nx (h := ?_)
      refine tk 16 (hy := asg) (h := ?_)
      refine dn (h := ?_)
      refine q_seq (h := ?_)
      refine sq (h := ?_)
      refine rg (h := ?_)
      refine WL.y (hy := (by first | exact ldA | exact ldEA)) (h := ?_)
      first | refine stA (h := ?_) | refine stEA (h := ?_)
      refine nl (h := ?_)
      refine q_seq (h := ?_)
      refine rtn (h := ?_)
      refine q_ret (hR := ?_)
      exact fun w hS => ⟨p2, trivial, rfl, hS.sub (by repeat (first | exact SubL.nil | (apply SubL.cons; (repeat (first | exact At.here | apply At.there))) | exact SubL.refl _ | apply SubL.skip))⟩
  · skip
    refine al (h := fun b4 => ?_)
    refine nx (h := ?_)
    refine one 9 (h := ?_)
    refine clT (hc := T_node_row N mn x hx r hr (by omega)) (h := fun p1 _ => ?_)
    refine nx (h := ?_)
    refine one 10 (h := ?_)
    refine cl (hc := fun w hS => C_score_Play f x.s.first r _ _ _ w (hS.get (by repeat (first | exact Rds.ro | exact Rds.own | apply Rds.there))) (by omega)) (h := fun p2 _ => ?_)
    refine nx (h := ?_)
    refine tk 11 (hy := mv) (h := ?_)
    refine tk 12 (hy := ex) (h := ?_)
    refine tk 13 (hy := ex) (h := ?_)
    refine one 15 (h := ?_)
    first | refine stA (h := ?_) | refine stEA (h := ?_)
    refine nx (h := ?_)
    refine tk 16 (hy := asg) (h := ?_)
    refine dn (h := ?_)
    refine q_seq (h := ?_)
    refine sq (h := ?_)
    refine rg (h := ?_)
    refine WL.y (hy := (by first | exact ldA | exact ldEA)) (h := ?_)
    first | refine stA (h := ?_) | refine stEA (h := ?_)
    refine nl (h := ?_)
    refine q_seq (h := ?_)
    refine rtn (h := ?_)
    refine q_ret (hR := ?_)
    exact fun w hS => ⟨p2, trivial, rfl, hS.sub (by repeat (first | exact SubL.nil | (apply SubL.cons; (repeat (first | exact At.here | apply At.there))) | exact SubL.refl _ | apply SubL.skip))⟩
abbrev Nt.val (x : Nt) : Value := .agg #[.int .i64 x.kind, .int .i64 x.side, .int .i64 x.pair.1, .int .i64 x.pair.2]
abbrev Nt.cells (x : Nt) : List Value := [.int .i64 x.kind, .int .i64 x.side, .int .i64 x.pair.1, .int .i64 x.pair.2]
theorem dec_pr (a b : Pr) : (decide (a.1 = b.1) && decide (a.2 = b.2)) = decide (a = b) := by
  rw [Bool.eq_iff_iff, Bool.and_eq_true, decide_eq_true_eq, decide_eq_true_eq, decide_eq_true_eq]
  exact ⟨fun h => Prod.ext h.1 h.2, fun h => by rw [h]; exact ⟨rfl, rfl⟩⟩
set_option maxRecDepth 100000 in
theorem T_reader_holds (f : Fmt) (hf : f.Ok) (hc0 : chkF f = 0) (cf : Int) (A : Option Addr) (n c : Nat) (N : List Nd) (mn : Nat → Pr) (K : Int) (hK : K ≤ 600) (hP : PoolOk f N mn K) (x : Nd) (hx : x ∈ N) (t : Nt) :
    Tr Try.prog 46 [.agg (cardC f cf A n c).toArray, t.val, bp x.b] [poolE 103 N mn none] (fun _ : Unit => True) (fun _ => .bool (holdS f t x.s)) (fun _ => [poolE 103 N mn none]) := by
  refine ⟨fun w0 w R hst => ?_⟩
  have hxo := hP.ok x hx
  have h5 := hxo.len hf
  obtain ⟨r, hr, hrk, _⟩ := hxo.row
  obtain ⟨m, hm⟩ := hxo.play hf hc0 hK hP.nd hr
  have hrl : r.length ≤ 600 := by omega
  have hsc : (scO (playO f x.s.first r)).server = srvS f x.s ∧ (scO (playO f x.s.first r)).winner = winS f x.s := by rw [hm.o]; exact ⟨hm.sv, hm.w⟩
  have eP : decide ([x.s.p.1, x.s.p.2] = [t.pair.1, t.pair.2]) = decide (x.s.p = t.pair) := by rw [pair_eq2, dec_pr]
  have eG : decide ([x.s.g.1, x.s.g.2] = [t.pair.1, t.pair.2]) = decide (x.s.g = t.pair) := by rw [pair_eq2, dec_pr]
  have eW : decide ([(wonV x.s.st).1, (wonV x.s.st).2] = [t.pair.1, t.pair.2]) = decide (wonV x.s.st = t.pair) := by rw [pair_eq2, dec_pr]
  have zP : decide ([x.s.p.1, x.s.p.2] = [(0 : Int), 0]) = decide (x.s.p = (0, 0)) := by rw [pair_eq2]; exact dec_pr x.s.p (0, 0)
  have zG : decide ([x.s.g.1, x.s.g.2] = [(0 : Int), 0]) = decide (x.s.g = (0, 0)) := by rw [pair_eq2]; exact dec_pr x.s.g (0, 0)
  refine en Try.func46 Try.ntmps46 hst (h := fun F => ?_)
  refine sq (h := ?_)
  refine rg (h := ?_)
  refine bxA (h := fun b0 => ?_)
  refine bxA (h := fun b1 => ?_)
  refine WL.y (hy := asg) (h := ?_)
  refine nl (h := ?_)
  refine q_seq (h := ?_)
  refine sq (h := ?_)
  refine rg (h := ?_)
  refine WL.y (hy := bd) (h := ?_)
  refine al (h := fun b2 => ?_)
  first | refine stA (h := ?_) | refine stEA (h := ?_)
  refine nl (h := ?_)
  refine q_seq (h := ?_)
  refine sq (h := ?_)
  refine sq (h := ?_)
  refine rg (h := ?_)
  refine WL.y (hy := (by first | exact fa | exact faE)) (h := ?_)
  refine WL.y (hy := (by first | exact ld | exact ldE)) (h := ?_)
  refine nl (h := ?_)
  refine q_seq (h := ?_)
  refine bk (h := ?_)
  refine sq (h := ?_)
  refine rg (h := ?_)
  refine WL.y (hy := eql) (h := ?_)
  refine WL.y (hy := asg) (h := ?_)
  refine nl (h := ?_)
  refine q_seq (h := ?_)
  refine cd (by exact rfl) (fun h0 => ?_) (fun h0 => ?_)
  · skip
    have hH : holdS f t x.s = decide (x.s.p = t.pair) := by rw [holdS, h0]; rfl
    refine sq (h := ?_)
    refine rgD (by kernel_rfl) [(1000000, poolE 103 N mn none), (1000000, .blk b1 40 t.cells)] (by repeat (first | exact HS.nil | (apply HS.keep; (repeat (first | exact At.here | apply At.there))) | (apply HS.ro; (repeat (first | exact Rds.ro | exact Rds.own | apply Rds.there))))) (h := ?_)
    refine tk 0 (hy := mv) (h := ?_)
    refine tk 1 (hy := nck) (h := ?_)
    refine tk 2 (hy := (by first | exact fa | exact faE)) (h := ?_)
    refine tk 3 (hy := (by first | exact fa | exact faE)) (h := ?_)
    refine tk 4 (hy := ldQA (hy := hx)) (h := ?_)
    refine tk 5 (hy := (by first | exact fa | exact faE)) (h := ?_)
    refine tk 6 (hy := (by first | exact ldA | exact ldEA)) (h := ?_)
    refine tk 7 (hy := eqlT) (h := ?_)
    refine tk 8 (hy := asg) (h := ?_)
    refine dn (h := ?_)
    refine q_seq (h := ?_)
    refine rtn (h := ?_)
    refine q_blk_ret (h := ?_)
    refine q_then_ret (h := ?_)
    refine q_ret (hR := ?_)
    rw [hH]
    first
      | (rw [← eP]; exact fun w hS => ⟨(), trivial, rfl, hS.sub (by repeat (first | exact SubL.nil | (apply SubL.cons; (repeat (first | exact At.here | apply At.there))) | exact SubL.refl _ | apply SubL.skip))⟩)
      | (rw [← eG, ← zP, kA]; exact fun w hS => ⟨(), trivial, rfl, hS.sub (by repeat (first | exact SubL.nil | (apply SubL.cons; (repeat (first | exact At.here | apply At.there))) | exact SubL.refl _ | apply SubL.skip))⟩)
      | (rw [← eW, ← zG, ← zP, kA, kB]; exact fun w hS => ⟨(), trivial, rfl, hS.sub (by repeat (first | exact SubL.nil | (apply SubL.cons; (repeat (first | exact At.here | apply At.there))) | exact SubL.refl _ | apply SubL.skip))⟩)
      | (rw [← eW, ← zG, ← zP, kA]; exact fun w hS => ⟨(), trivial, rfl, hS.sub (by repeat (first | exact SubL.nil | (apply SubL.cons; (repeat (first | exact At.here | apply At.there))) | exact SubL.refl _ | apply SubL.skip))⟩)
      | (rw [← hsc.1]; exact fun w hS => ⟨(), trivial, rfl, hS.sub (by repeat (first | exact SubL.nil | (apply SubL.cons; (repeat (first | exact At.here | apply At.there))) | exact SubL.refl _ | apply SubL.skip))⟩)
      | (rw [← hsc.2]; exact fun w hS => ⟨(), trivial, rfl, hS.sub (by repeat (first | exact SubL.nil | (apply SubL.cons; (repeat (first | exact At.here | apply At.there))) | exact SubL.refl _ | apply SubL.skip))⟩)
  · skip
    have n3 := h0
    refine sq (h := ?_)
    refine rg (h := ?_)
    refine WL.y (hy := eql) (h := ?_)
    refine WL.y (hy := asg) (h := ?_)
    refine nl (h := ?_)
    refine q_seq (h := ?_)
    refine cd (by exact rfl) (fun h1 => ?_) (fun h1 => ?_)
    · skip
      have hH : holdS f t x.s = (decide (x.s.g = t.pair) && decide (x.s.p = (0, 0))) := by rw [holdS, n3, h1]; rfl
      refine sq (h := ?_)
      refine rgD (by kernel_rfl) [(1000000, poolE 103 N mn none), (1000000, .blk b1 40 t.cells), (1000000, .blk b2 38 [.int .i64 0, .int .i64 0])] (by repeat (first | exact HS.nil | (apply HS.keep; (repeat (first | exact At.here | apply At.there))) | (apply HS.ro; (repeat (first | exact Rds.ro | exact Rds.own | apply Rds.there))))) (h := ?_)
      refine tk 0 (hy := mv) (h := ?_)
      refine tk 1 (hy := nck) (h := ?_)
      refine tk 2 (hy := (by first | exact fa | exact faE)) (h := ?_)
      refine tk 3 (hy := (by first | exact fa | exact faE)) (h := ?_)
      refine tk 4 (hy := ldQA (hy := hx)) (h := ?_)
      refine tk 5 (hy := (by first | exact fa | exact faE)) (h := ?_)
      refine tk 6 (hy := (by first | exact ldA | exact ldEA)) (h := ?_)
      refine tk 7 (hy := eqlT) (h := ?_)
      refine tk 8 (hy := mv) (h := ?_)
      refine brH (g := 32) (by exact rfl) (fun hb2 => ?_) (fun hb2 => ?_)
      · skip
        have kA := hb2
        refine tk 9 (hy := mv) (h := ?_)
        refine tk 10 (hy := nck) (h := ?_)
        refine tk 11 (hy := (by first | exact fa | exact faE)) (h := ?_)
        refine tk 12 (hy := (by first | exact fa | exact faE)) (h := ?_)
        refine tk 13 (hy := ldQA (hy := hx)) (h := ?_)
        refine tk 14 (hy := (by first | exact ldA | exact ldEA)) (h := ?_)
        refine tk 15 (hy := eqlT) (h := ?_)
        refine tk 16 (hy := (by first | exact pkT | exact pkF)) (h := ?_)
        refine tk 17 (hy := asg) (h := ?_)
        refine dn (h := ?_)
        refine q_seq (h := ?_)
        refine rtn (h := ?_)
        refine q_blk_ret (h := ?_)
        refine q_then_ret (h := ?_)
        refine q_ret (hR := ?_)
        rw [hH]
        first
          | (rw [← eP]; exact fun w hS => ⟨(), trivial, rfl, hS.sub (by repeat (first | exact SubL.nil | (apply SubL.cons; (repeat (first | exact At.here | apply At.there))) | exact SubL.refl _ | apply SubL.skip))⟩)
          | (rw [← eG, ← zP, kA]; exact fun w hS => ⟨(), trivial, rfl, hS.sub (by repeat (first | exact SubL.nil | (apply SubL.cons; (repeat (first | exact At.here | apply At.there))) | exact SubL.refl _ | apply SubL.skip))⟩)
          | (rw [← eW, ← zG, ← zP, kA, kB]; exact fun w hS => ⟨(), trivial, rfl, hS.sub (by repeat (first | exact SubL.nil | (apply SubL.cons; (repeat (first | exact At.here | apply At.there))) | exact SubL.refl _ | apply SubL.skip))⟩)
          | (rw [← eW, ← zG, ← zP, kA]; exact fun w hS => ⟨(), trivial, rfl, hS.sub (by repeat (first | exact SubL.nil | (apply SubL.cons; (repeat (first | exact At.here | apply At.there))) | exact SubL.refl _ | apply SubL.skip))⟩)
          | (rw [← hsc.1]; exact fun w hS => ⟨(), trivial, rfl, hS.sub (by repeat (first | exact SubL.nil | (apply SubL.cons; (repeat (first | exact At.here | apply At.there))) | exact SubL.refl _ | apply SubL.skip))⟩)
          | (rw [← hsc.2]; exact fun w hS => ⟨(), trivial, rfl, hS.sub (by repeat (first | exact SubL.nil | (apply SubL.cons; (repeat (first | exact At.here | apply At.there))) | exact SubL.refl _ | apply SubL.skip))⟩)
      · skip
        have kA := hb2
        refine tkS 9 (h := ?_)
        refine tkS 10 (h := ?_)
        refine tkS 11 (h := ?_)
        refine tkS 12 (h := ?_)
        refine tkS 13 (h := ?_)
        refine tkS 14 (h := ?_)
        refine tkS 15 (h := ?_)
        refine tk 16 (hy := (by first | exact pkT | exact pkF)) (h := ?_)
        refine tk 17 (hy := asg) (h := ?_)
        refine dn (h := ?_)
        refine q_seq (h := ?_)
        refine rtn (h := ?_)
        refine q_blk_ret (h := ?_)
        refine q_then_ret (h := ?_)
        refine q_ret (hR := ?_)
        rw [hH]
        first
          | (rw [← eP]; exact fun w hS => ⟨(), trivial, rfl, hS.sub (by repeat (first | exact SubL.nil | (apply SubL.cons; (repeat (first | exact At.here | apply At.there))) | exact SubL.refl _ | apply SubL.skip))⟩)
          | (rw [← eG, ← zP, kA]; exact fun w hS => ⟨(), trivial, rfl, hS.sub (by repeat (first | exact SubL.nil | (apply SubL.cons; (repeat (first | exact At.here | apply At.there))) | exact SubL.refl _ | apply SubL.skip))⟩)
          | (rw [← eW, ← zG, ← zP, kA, kB]; exact fun w hS => ⟨(), trivial, rfl, hS.sub (by repeat (first | exact SubL.nil | (apply SubL.cons; (repeat (first | exact At.here | apply At.there))) | exact SubL.refl _ | apply SubL.skip))⟩)
          | (rw [← eW, ← zG, ← zP, kA]; exact fun w hS => ⟨(), trivial, rfl, hS.sub (by repeat (first | exact SubL.nil | (apply SubL.cons; (repeat (first | exact At.here | apply At.there))) | exact SubL.refl _ | apply SubL.skip))⟩)
          | (rw [← hsc.1]; exact fun w hS => ⟨(), trivial, rfl, hS.sub (by repeat (first | exact SubL.nil | (apply SubL.cons; (repeat (first | exact At.here | apply At.there))) | exact SubL.refl _ | apply SubL.skip))⟩)
          | (rw [← hsc.2]; exact fun w hS => ⟨(), trivial, rfl, hS.sub (by repeat (first | exact SubL.nil | (apply SubL.cons; (repeat (first | exact At.here | apply At.there))) | exact SubL.refl _ | apply SubL.skip))⟩)
    · skip
      have n4 := h1
      refine sq (h := ?_)
      refine rg (h := ?_)
      refine WL.y (hy := eql) (h := ?_)
      refine WL.y (hy := asg) (h := ?_)
      refine nl (h := ?_)
      refine q_seq (h := ?_)
      refine cd (by exact rfl) (fun h3 => ?_) (fun h3 => ?_)
      · skip
        have hH : holdS f t x.s = (decide (wonV x.s.st = t.pair) && (decide (x.s.g = (0, 0)) && decide (x.s.p = (0, 0)))) := by rw [holdS, n3, n4, h3]; rfl
        refine sq (h := ?_)
        refine rgD (by kernel_rfl) [(1000000, poolE 103 N mn none), (1000000, .blk b1 40 t.cells), (1000000, .blk b2 38 [.int .i64 0, .int .i64 0])] (by repeat (first | exact HS.nil | (apply HS.keep; (repeat (first | exact At.here | apply At.there))) | (apply HS.ro; (repeat (first | exact Rds.ro | exact Rds.own | apply Rds.there))))) (h := ?_)
        refine tk 0 (hy := mv) (h := ?_)
        refine tk 1 (hy := nck) (h := ?_)
        refine tk 2 (hy := (by first | exact fa | exact faE)) (h := ?_)
        refine tk 3 (hy := ldQA (hy := hx)) (h := ?_)
        refine tk 5 (hy := (by first | exact fa | exact faE)) (h := ?_)
        refine tk 6 (hy := (by first | exact ldA | exact ldEA)) (h := ?_)
        refine one 4 (h := ?_)
        refine cl0 (hc := fun w hS => C_spot_won x.s h5 w) (h := ?_)
        refine nx (h := ?_)
        refine tk 7 (hy := eqlT) (h := ?_)
        refine tk 8 (hy := mv) (h := ?_)
        refine brH (g := 51) (by exact rfl) (fun hb4 => ?_) (fun hb4 => ?_)
        · skip
          have kA := hb4
          refine tk 9 (hy := mv) (h := ?_)
          refine tk 10 (hy := nck) (h := ?_)
          refine tk 11 (hy := (by first | exact fa | exact faE)) (h := ?_)
          refine tk 12 (hy := (by first | exact fa | exact faE)) (h := ?_)
          refine tk 13 (hy := ldQA (hy := hx)) (h := ?_)
          refine tk 14 (hy := (by first | exact ldA | exact ldEA)) (h := ?_)
          refine tk 15 (hy := eqlT) (h := ?_)
          refine tk 16 (hy := (by first | exact pkT | exact pkF)) (h := ?_)
          refine tk 17 (hy := mv) (h := ?_)
          refine brH (g := 60) (by exact rfl) (fun hb5 => ?_) (fun hb5 => ?_)
          · skip
            have kB := hb5
            refine tk 18 (hy := mv) (h := ?_)
            refine tk 19 (hy := nck) (h := ?_)
            refine tk 20 (hy := (by first | exact fa | exact faE)) (h := ?_)
            refine tk 21 (hy := (by first | exact fa | exact faE)) (h := ?_)
            refine tk 22 (hy := ldQA (hy := hx)) (h := ?_)
            refine tk 23 (hy := (by first | exact ldA | exact ldEA)) (h := ?_)
            refine tk 24 (hy := eqlT) (h := ?_)
            refine tk 25 (hy := (by first | exact pkT | exact pkF)) (h := ?_)
            refine tk 26 (hy := asg) (h := ?_)
            refine dn (h := ?_)
            refine q_seq (h := ?_)
            refine rtn (h := ?_)
            refine q_blk_ret (h := ?_)
            refine q_then_ret (h := ?_)
            refine q_ret (hR := ?_)
            rw [hH]
            first
              | (rw [← eP]; exact fun w hS => ⟨(), trivial, rfl, hS.sub (by repeat (first | exact SubL.nil | (apply SubL.cons; (repeat (first | exact At.here | apply At.there))) | exact SubL.refl _ | apply SubL.skip))⟩)
              | (rw [← eG, ← zP, kA]; exact fun w hS => ⟨(), trivial, rfl, hS.sub (by repeat (first | exact SubL.nil | (apply SubL.cons; (repeat (first | exact At.here | apply At.there))) | exact SubL.refl _ | apply SubL.skip))⟩)
              | (rw [← eW, ← zG, ← zP, kA, kB]; exact fun w hS => ⟨(), trivial, rfl, hS.sub (by repeat (first | exact SubL.nil | (apply SubL.cons; (repeat (first | exact At.here | apply At.there))) | exact SubL.refl _ | apply SubL.skip))⟩)
              | (rw [← eW, ← zG, ← zP, kA]; exact fun w hS => ⟨(), trivial, rfl, hS.sub (by repeat (first | exact SubL.nil | (apply SubL.cons; (repeat (first | exact At.here | apply At.there))) | exact SubL.refl _ | apply SubL.skip))⟩)
              | (rw [← hsc.1]; exact fun w hS => ⟨(), trivial, rfl, hS.sub (by repeat (first | exact SubL.nil | (apply SubL.cons; (repeat (first | exact At.here | apply At.there))) | exact SubL.refl _ | apply SubL.skip))⟩)
              | (rw [← hsc.2]; exact fun w hS => ⟨(), trivial, rfl, hS.sub (by repeat (first | exact SubL.nil | (apply SubL.cons; (repeat (first | exact At.here | apply At.there))) | exact SubL.refl _ | apply SubL.skip))⟩)
          · skip
            have kB := hb5
            refine tkS 18 (h := ?_)
            refine tkS 19 (h := ?_)
            refine tkS 20 (h := ?_)
            refine tkS 21 (h := ?_)
            refine tkS 22 (h := ?_)
            refine tkS 23 (h := ?_)
            refine tkS 24 (h := ?_)
            refine tk 25 (hy := (by first | exact pkT | exact pkF)) (h := ?_)
            refine tk 26 (hy := asg) (h := ?_)
            refine dn (h := ?_)
            refine q_seq (h := ?_)
            refine rtn (h := ?_)
            refine q_blk_ret (h := ?_)
            refine q_then_ret (h := ?_)
            refine q_ret (hR := ?_)
            rw [hH]
            first
              | (rw [← eP]; exact fun w hS => ⟨(), trivial, rfl, hS.sub (by repeat (first | exact SubL.nil | (apply SubL.cons; (repeat (first | exact At.here | apply At.there))) | exact SubL.refl _ | apply SubL.skip))⟩)
              | (rw [← eG, ← zP, kA]; exact fun w hS => ⟨(), trivial, rfl, hS.sub (by repeat (first | exact SubL.nil | (apply SubL.cons; (repeat (first | exact At.here | apply At.there))) | exact SubL.refl _ | apply SubL.skip))⟩)
              | (rw [← eW, ← zG, ← zP, kA, kB]; exact fun w hS => ⟨(), trivial, rfl, hS.sub (by repeat (first | exact SubL.nil | (apply SubL.cons; (repeat (first | exact At.here | apply At.there))) | exact SubL.refl _ | apply SubL.skip))⟩)
              | (rw [← eW, ← zG, ← zP, kA]; exact fun w hS => ⟨(), trivial, rfl, hS.sub (by repeat (first | exact SubL.nil | (apply SubL.cons; (repeat (first | exact At.here | apply At.there))) | exact SubL.refl _ | apply SubL.skip))⟩)
              | (rw [← hsc.1]; exact fun w hS => ⟨(), trivial, rfl, hS.sub (by repeat (first | exact SubL.nil | (apply SubL.cons; (repeat (first | exact At.here | apply At.there))) | exact SubL.refl _ | apply SubL.skip))⟩)
              | (rw [← hsc.2]; exact fun w hS => ⟨(), trivial, rfl, hS.sub (by repeat (first | exact SubL.nil | (apply SubL.cons; (repeat (first | exact At.here | apply At.there))) | exact SubL.refl _ | apply SubL.skip))⟩)
        · skip
          have kA := hb4
          refine tkS 9 (h := ?_)
          refine tkS 10 (h := ?_)
          refine tkS 11 (h := ?_)
          refine tkS 12 (h := ?_)
          refine tkS 13 (h := ?_)
          refine tkS 14 (h := ?_)
          refine tkS 15 (h := ?_)
          refine tk 16 (hy := (by first | exact pkT | exact pkF)) (h := ?_)
          refine tk 17 (hy := mv) (h := ?_)
          refine tkS 18 (h := ?_)
          refine tkS 19 (h := ?_)
          refine tkS 20 (h := ?_)
          refine tkS 21 (h := ?_)
          refine tkS 22 (h := ?_)
          refine tkS 23 (h := ?_)
          refine tkS 24 (h := ?_)
          refine tk 25 (hy := (by first | exact pkT | exact pkF)) (h := ?_)
          refine tk 26 (hy := asg) (h := ?_)
          refine dn (h := ?_)
          refine q_seq (h := ?_)
          refine rtn (h := ?_)
          refine q_blk_ret (h := ?_)
          refine q_then_ret (h := ?_)
          refine q_ret (hR := ?_)
          rw [hH]
          first
            | (rw [← eP]; exact fun w hS => ⟨(), trivial, rfl, hS.sub (by repeat (first | exact SubL.nil | (apply SubL.cons; (repeat (first | exact At.here | apply At.there))) | exact SubL.refl _ | apply SubL.skip))⟩)
            | (rw [← eG, ← zP, kA]; exact fun w hS => ⟨(), trivial, rfl, hS.sub (by repeat (first | exact SubL.nil | (apply SubL.cons; (repeat (first | exact At.here | apply At.there))) | exact SubL.refl _ | apply SubL.skip))⟩)
            | (rw [← eW, ← zG, ← zP, kA, kB]; exact fun w hS => ⟨(), trivial, rfl, hS.sub (by repeat (first | exact SubL.nil | (apply SubL.cons; (repeat (first | exact At.here | apply At.there))) | exact SubL.refl _ | apply SubL.skip))⟩)
            | (rw [← eW, ← zG, ← zP, kA]; exact fun w hS => ⟨(), trivial, rfl, hS.sub (by repeat (first | exact SubL.nil | (apply SubL.cons; (repeat (first | exact At.here | apply At.there))) | exact SubL.refl _ | apply SubL.skip))⟩)
            | (rw [← hsc.1]; exact fun w hS => ⟨(), trivial, rfl, hS.sub (by repeat (first | exact SubL.nil | (apply SubL.cons; (repeat (first | exact At.here | apply At.there))) | exact SubL.refl _ | apply SubL.skip))⟩)
            | (rw [← hsc.2]; exact fun w hS => ⟨(), trivial, rfl, hS.sub (by repeat (first | exact SubL.nil | (apply SubL.cons; (repeat (first | exact At.here | apply At.there))) | exact SubL.refl _ | apply SubL.skip))⟩)
      · skip
        have n5 := h3
        refine sq (h := ?_)
        refine rg (h := ?_)
        refine WL.y (hy := eql) (h := ?_)
        refine WL.y (hy := asg) (h := ?_)
        refine nl (h := ?_)
        refine q_seq (h := ?_)
        refine cd (by exact rfl) (fun h6 => ?_) (fun h6 => ?_)
        · skip
          have hH : holdS f t x.s = (decide (0 ≤ srvS f x.s) && decide (srvS f x.s % 2 = t.side)) := by rw [holdS, n3, n4, n5, h6]; rfl
          refine sq (h := ?_)
          refine rg (h := ?_)
          refine WL.y (hy := (by first | exact ldA | exact ldEA)) (h := ?_)
          refine WL.y (hy := mv) (h := ?_)
          refine clT (hc := T_reader_score f cf A n c N mn x hx r hr hrl) (h := fun p1 _ => ?_)
          refine WL.y (hy := (by first | exact fdv1 | exact fdvA)) (h := ?_)
          refine WL.y (hy := asg) (h := ?_)
          refine nl (h := ?_)
          refine q_seq (h := ?_)
          refine sq (h := ?_)
          refine rg (h := ?_)
          refine WL.y (hy := mv) (h := ?_)
          refine WL.y (hy := geq) (h := ?_)
          refine WL.y (hy := mv) (h := ?_)
          apply brAnd 6 77 83 (by exact rfl)
          · intro hb7
            have hnn := of_decide_eq_true hb7
            refine un (h := ?_)
            refine WL.y (hy := mv) (h := ?_)
            refine un (h := ?_)
            refine WL.y (hy := remI) (h := ?_)
            refine un (h := ?_)
            refine WL.y (hy := (by first | exact fa | exact faE)) (h := ?_)
            refine un (h := ?_)
            refine WL.y (hy := (by first | exact ld | exact ldE)) (h := ?_)
            refine un (h := ?_)
            refine WL.y (hy := eql) (h := ?_)
            refine WL.y (hy := (by first | exact pkT | exact pkF)) (h := ?_)
            exact mg (by repeat (first | exact trivial | refine ⟨rfl, ?_⟩ | refine ⟨by rw [hb7]; rfl, ?_⟩)) (by repeat (first | exact SubL.nil | (apply SubL.cons; (repeat (first | exact At.here | apply At.there))) | exact SubL.refl _ | apply SubL.skip))
          · intro hb7
            repeat (first | refine un (h := ?_) | refine sk (h := ?_) | refine WL.y (hy := pkF) (h := ?_) | refine WL.y (hy := pkT) (h := ?_))
            exact mg (by repeat (first | exact trivial | refine ⟨rfl, ?_⟩ | refine ⟨by rw [hb7]; rfl, ?_⟩)) (by repeat (first | exact SubL.nil | (apply SubL.cons; (repeat (first | exact At.here | apply At.there))) | exact SubL.refl _ | apply SubL.skip))
          refine WL.y (hy := asg) (h := ?_)
          refine nl (h := ?_)
          refine q_seq (h := ?_)
          refine rtn (h := ?_)
          refine q_blk_ret (h := ?_)
          refine q_then_ret (h := ?_)
          refine q_ret (hR := ?_)
          rw [hH]
          first
            | (rw [← eP]; exact fun w hS => ⟨(), trivial, rfl, hS.sub (by repeat (first | exact SubL.nil | (apply SubL.cons; (repeat (first | exact At.here | apply At.there))) | exact SubL.refl _ | apply SubL.skip))⟩)
            | (rw [← eG, ← zP, kA]; exact fun w hS => ⟨(), trivial, rfl, hS.sub (by repeat (first | exact SubL.nil | (apply SubL.cons; (repeat (first | exact At.here | apply At.there))) | exact SubL.refl _ | apply SubL.skip))⟩)
            | (rw [← eW, ← zG, ← zP, kA, kB]; exact fun w hS => ⟨(), trivial, rfl, hS.sub (by repeat (first | exact SubL.nil | (apply SubL.cons; (repeat (first | exact At.here | apply At.there))) | exact SubL.refl _ | apply SubL.skip))⟩)
            | (rw [← eW, ← zG, ← zP, kA]; exact fun w hS => ⟨(), trivial, rfl, hS.sub (by repeat (first | exact SubL.nil | (apply SubL.cons; (repeat (first | exact At.here | apply At.there))) | exact SubL.refl _ | apply SubL.skip))⟩)
            | (rw [← hsc.1]; exact fun w hS => ⟨(), trivial, rfl, hS.sub (by repeat (first | exact SubL.nil | (apply SubL.cons; (repeat (first | exact At.here | apply At.there))) | exact SubL.refl _ | apply SubL.skip))⟩)
            | (rw [← hsc.2]; exact fun w hS => ⟨(), trivial, rfl, hS.sub (by repeat (first | exact SubL.nil | (apply SubL.cons; (repeat (first | exact At.here | apply At.there))) | exact SubL.refl _ | apply SubL.skip))⟩)
        · skip
          have hH : holdS f t x.s = decide (winS f x.s = t.side) := by rw [holdS, n3, n4, n5, h6]; rfl
          refine skp (h := ?_)
          refine q_blk_norm (h := ?_)
          refine q_seq (h := ?_)
          refine sq (h := ?_)
          refine rgD (by kernel_rfl) [(1000000, poolE 103 N mn none), (1000000, .blk b1 40 t.cells), (1000000, .blk b0 100 (cardC f cf A n c))] (by repeat (first | exact HS.nil | (apply HS.keep; (repeat (first | exact At.here | apply At.there))) | (apply HS.ro; (repeat (first | exact Rds.ro | exact Rds.own | apply Rds.there))))) (h := ?_)
          refine tk 0 (hy := (by first | exact ldA | exact ldEA)) (h := ?_)
          refine tk 1 (hy := mv) (h := ?_)
          refine tk 4 (hy := (by first | exact fa | exact faE)) (h := ?_)
          refine tk 5 (hy := (by first | exact ld | exact ldE)) (h := ?_)
          refine one 2 (h := ?_)
          refine clT (hc := T_reader_score f cf A n c N mn x hx r hr hrl) (h := fun p1 _ => ?_)
          refine nx (h := ?_)
          refine tk 3 (hy := (by first | exact fdv1 | exact fdvA)) (h := ?_)
          refine tk 6 (hy := eql) (h := ?_)
          refine tk 7 (hy := asg) (h := ?_)
          refine dn (h := ?_)
          refine q_seq (h := ?_)
          refine rtn (h := ?_)
          refine q_ret (hR := ?_)
          rw [hH]
          first
            | (rw [← eP]; exact fun w hS => ⟨(), trivial, rfl, hS.sub (by repeat (first | exact SubL.nil | (apply SubL.cons; (repeat (first | exact At.here | apply At.there))) | exact SubL.refl _ | apply SubL.skip))⟩)
            | (rw [← eG, ← zP, kA]; exact fun w hS => ⟨(), trivial, rfl, hS.sub (by repeat (first | exact SubL.nil | (apply SubL.cons; (repeat (first | exact At.here | apply At.there))) | exact SubL.refl _ | apply SubL.skip))⟩)
            | (rw [← eW, ← zG, ← zP, kA, kB]; exact fun w hS => ⟨(), trivial, rfl, hS.sub (by repeat (first | exact SubL.nil | (apply SubL.cons; (repeat (first | exact At.here | apply At.there))) | exact SubL.refl _ | apply SubL.skip))⟩)
            | (rw [← eW, ← zG, ← zP, kA]; exact fun w hS => ⟨(), trivial, rfl, hS.sub (by repeat (first | exact SubL.nil | (apply SubL.cons; (repeat (first | exact At.here | apply At.there))) | exact SubL.refl _ | apply SubL.skip))⟩)
            | (rw [← hsc.1]; exact fun w hS => ⟨(), trivial, rfl, hS.sub (by repeat (first | exact SubL.nil | (apply SubL.cons; (repeat (first | exact At.here | apply At.there))) | exact SubL.refl _ | apply SubL.skip))⟩)
            | (rw [← hsc.2]; exact fun w hS => ⟨(), trivial, rfl, hS.sub (by repeat (first | exact SubL.nil | (apply SubL.cons; (repeat (first | exact At.here | apply At.there))) | exact SubL.refl _ | apply SubL.skip))⟩)
end Go.Proofs.Ytncoimjgjpcipaa

namespace Go.Proofs.Ytncoimjgjpcipaa
open Go Go.RowKit

def addN (f : Fmt) (N : List Nd) (x : Nd) (side : Int) (o : Option Nat) : List Nd := match o, nxtS f x.s side with
  | some k, some u => ⟨k, u, some x.b, side⟩ :: N
  | _, _ => N
def addM (mn : Nat → Pr) (x : Nd) (o : Option Nat) : Nat → Pr := match o with
  | some k => upN mn k ((mn x.b).1 + 1, (mn x.b).2 + 1)
  | none => mn
def NxtOk (f : Fmt) (N : List Nd) (x : Nd) (side : Int) (o : Option Nat) : Prop := match o with
  | none => nxtS f x.s side = none
  | some k => (∃ u, nxtS f x.s side = some u) ∧ ∀ y ∈ N, y.b ≠ k
theorem T_nextO (f : Fmt) (hf : f.Ok) (cf : Int) (A : Option Addr) (n c : Nat) (N : List Nd) (mn : Nat → Pr) (x : Nd) (side : Int) (hs : side = 0 ∨ side = 1) (K : Int) (hK : K ≤ 10000) (hP : PoolOk f N mn K) (hx : x ∈ N) :
    Tr Try.prog 106 [.agg (cardC f cf A n c).toArray, bp x.b, .int .i64 side] [poolE 103 N mn none] (NxtOk f N x side) (fun o => bpO o) (fun o => [poolE 103 (addN f N x side o) (addM mn x o) none]) := by
  cases hn : nxtS f x.s side with
  | none =>
    have h := T_next_none f cf A n c N mn x side ((hP.ok x hx).len hf) hx hn
    exact ⟨fun w0 w R hst => (h.out w0 w R hst).mono fun e w' ⟨_, _, he, hs⟩ => ⟨none, hn, he, hs⟩⟩
  | some u =>
    have h := T_next_some f hf cf A n c N mn x side hs K hK hP hx u hn
    refine ⟨fun w0 w R hst => (h.out w0 w R hst).mono fun e w' ⟨k, hk, he, hs⟩ => ⟨some k, ⟨⟨u, hn⟩, hk⟩, he, ?_⟩⟩
    show St w0 w' ([poolE _ (addN f N x side (some k)) (addM mn x (some k)) none] ++ R)
    rw [show addN f N x side (some k) = ⟨k, u, some x.b, side⟩ :: N by simp only [addN, hn]]
    exact hs

theorem norm_snoc (l : List En) (e : En) : normC (l ++ [e]) = putC (normC l) e := by unfold normC; rw [List.foldl_append]; rfl
abbrev ndE (mn : Nat → Pr) (x : Nd) : En := (x.s, ((mn x.b).1, (mn x.b).2, 0))
def partE (f : Fmt) (side : Int) (e : En) : Nat → List En
  | 0 => []
  | k + 1 => partE f side e k ++ goE f side e k
theorem part_two (f : Fmt) (side : Int) (e : En) : partE f side e 2 = goE f side e 0 ++ goE f side e 1 := by
  show (([] : List En) ++ goE f side e ((0 : Nat) : Int)) ++ goE f side e ((1 : Nat) : Int) = _
  rfl
theorem stepI_snoc (f : Fmt) (mn : Nat → Pr) (dn : List Nd) (x : Nd) (side : Int) : stepI f (toC mn (dn ++ [x])) side = stepI f (toC mn dn) side ++ partE f side (ndE mn x) 2 := by
  rw [part_two]
  unfold stepI toC
  rw [List.map_append, List.flatMap_append]
  simp
structure PlI (f : Fmt) (N : List Nd) (mn : Nat → Pr) (ns : List Nd) (side K : Int) (l : List En) (N' : List Nd) (mn' : Nat → Pr) (ns' : List Nd) (es' : Array MapEntry) (c' : Nat) : Prop where
  ok : PoolOk f N' mn' (K + 1)
  sub : ∀ y ∈ N, y ∈ N'
  mn : ∀ y ∈ N, mn' y.b = mn y.b
  cr : CrIs N' ns' es' c'
  new : ∀ y ∈ ns', ∀ z ∈ N, z.b ≠ y.b
  fr : ∀ y ∈ ns', ∃ x ∈ ns, y.bf = some x.b ∧ (y.sd = 0 ∨ y.sd = 1) ∧ (side = -1 ∨ side = y.sd) ∧ nxtS f x.s y.sd = some y.s
  toC : toC mn' ns' = normC l
theorem PlI.start {f : Fmt} {N : List Nd} {mn : Nat → Pr} {ns : List Nd} {side K : Int} (h : PoolOk f N mn K) : PlI f N mn ns side K [] N mn [] #[] 0 :=
  ⟨h.up (by omega), fun y hy => hy, fun y hy => rfl, CrIs.nil N, fun y hy => (by cases hy), fun y hy => (by cases hy), rfl⟩
theorem PlI.skip {f : Fmt} {N : List Nd} {mn : Nat → Pr} {ns : List Nd} {side K : Int} {l l2 : List En} {N' : List Nd} {mn' : Nat → Pr} {ns' : List Nd} {es' : Array MapEntry} {c' : Nat} (h : PlI f N mn ns side K l N' mn' ns' es' c') (e : l2 = []) : PlI f N mn ns side K (l ++ l2) N' mn' ns' es' c' := by
  subst e; rw [List.append_nil]; exact h
theorem PlI.point {f : Fmt} {N : List Nd} {mn : Nat → Pr} {ns : List Nd} {side K : Int} {l : List En} {N' : List Nd} {mn' : Nat → Pr} {ns' : List Nd} {es' : Array MapEntry} {c' : Nat} (h : PlI f N mn ns side K l N' mn' ns' es' c') (hP : PoolOk f N mn K) (hns : ∀ y ∈ ns, y ∈ N) {x : Nd} (hx : x ∈ ns) {p : Int} (hp : p = 0 ∨ p = 1) (hs : side = -1 ∨ side = p) {u : Spot} (hn : nxtS f x.s p = some u) {k : Nat} (hk : ∀ y ∈ N', y.b ≠ k) {es2 : Array MapEntry} {c2 : Nat} (hm : MapIs es2 (crE (putNs ns' ⟨k, u, some x.b, p⟩)) ∧ Stm es2 c2) :
    PlI f N mn ns side K (l ++ goE f side (ndE mn x) p) (⟨k, u, some x.b, p⟩ :: N') (putM ns' (upN mn' k ((mn' x.b).1 + 1, (mn' x.b).2 + 1)) ⟨k, u, some x.b, p⟩) (putNs ns' ⟨k, u, some x.b, p⟩) es2 c2 := by
  have hxN := hns x hx
  have hxo := hP.ok x hxN
  have hmx := h.mn x hxN
  have hlo := hxo.lo; have hhi := hxo.hi
  obtain ⟨h1, r, h2, h3, h4⟩ := row_next (y := ⟨k, u, some x.b, p⟩) hxN hxo.row rfl hp hn
  have hok : PoolOk f (⟨k, u, some x.b, p⟩ :: N') (upN mn' k ((mn' x.b).1 + 1, (mn' x.b).2 + 1)) (K + 1) :=
    h.ok.add (x := ⟨k, u, some x.b, p⟩) hk (by rw [h1]; exact hxo.fs) ⟨r, h2.mono h.sub, h3, h4⟩ (by rw [hmx]; dsimp only; omega) (by rw [hmx]; dsimp only; omega)
  have hsub' : ∀ y ∈ ns', y ∈ (⟨k, u, some x.b, p⟩ :: N' : List Nd) := fun y hy => List.mem_cons_of_mem _ (h.cr.sub y hy)
  have hne : ∀ y ∈ N, y.b ≠ k := fun y hy => hk y (h.sub y hy)
  refine ⟨putM_ok hok hsub' List.mem_cons_self, fun y hy => List.mem_cons_of_mem _ (h.sub y hy), fun y hy => ?_, (h.cr.up fun y hy => List.mem_cons_of_mem _ hy).put List.mem_cons_self hm, fun y hy z hz => ?_, fun y hy => ?_, ?_⟩
  · rw [putM_other fun z hz e => h.new z hz y hy e.symm, upN_other (hne y hy), h.mn y hy]
  · rcases putNs_mem hy with h5 | rfl
    · exact h.new y h5 z hz
    · exact hne z hz
  · rcases putNs_mem hy with h5 | rfl
    · exact h.fr y h5
    · exact ⟨x, hx, rfl, hp, hs, hn⟩
  · have hg : goE f side (ndE mn x) p = [upE (ndE mn x) u] := by unfold goE; rw [if_pos hs]; simp only [hn]
    rw [hg, norm_snoc, ← h.toC, put_toC h.cr.keys (fun y hy z hz e => nd_one h.ok.nd (h.cr.sub y hy) (h.cr.sub z hz) e)]
    rw [toC_congr (mn := mn') fun y hy => upN_other (hk y (h.cr.sub y hy))]
    congr 1
    show (u, ((upN mn' k _ k).1, (upN mn' k _ k).2, (0 : Int))) = _
    rw [upN_same, hmx]
    rfl
theorem nxt_top {f : Fmt} {s u : Spot} {p : Int} (h : nxtS f s p = some u) : topS s ≠ f.sets := fun e => by rw [nxtS, decide_eq_true e] at h; cases h
theorem nxt_step {f : Fmt} {s u : Spot} {p : Int} (h : nxtS f s p = some u) : stepS f s p = u := by
  rw [nxtS, decide_eq_false (nxt_top h)] at h; exact Option.some.inj h
structure PZ2 where
  (N : List Nd) (mn : Nat → Pr) (ns : List Nd) (es : Array MapEntry) (c : Nat) (dn ts : List Nd) (tk : List KV) (o : Option KV)
structure PZ3 where
  (N : List Nd) (mn : Nat → Pr) (ns : List Nd) (es : Array MapEntry) (c k : Nat)
structure PR where
  (N : List Nd) (mn : Nat → Pr) (ns : List Nd) (b : Nat) (es : Array MapEntry) (c : Nat)
set_option maxRecDepth 100000 in
theorem T_reader_play (f : Fmt) (hf : f.Ok) (cf : Int) (A : Option Addr) (n c : Nat) (N ns : List Nd) (mn : Nat → Pr) (side K : Int) (hK : K ≤ 9000) (hP : PoolOk f N mn K) (b : Nat) (es : Array MapEntry) (cl : Nat) (hC : CrIs N ns es cl) :
    Tr Try.prog 80 [.agg (cardC f cf A n c).toArray, .map (some b), .int .i64 side] [poolE 103 N mn none, roM b es cl] (fun q : PR => ∃ dn, dn.Perm ns ∧ PlI f N mn ns side K (stepI f (toC mn dn) side) q.N q.mn q.ns q.es q.c) (fun q => .map (some q.b)) (fun q => [poolE 103 q.N q.mn none, .obj q.b (.map q.es q.c), roM b es cl]) := by
  refine ⟨fun w0 w R hst => ?_⟩
  refine en Try.func80 Try.ntmps80 hst (h := fun F => ?_)
  refine sq (h := ?_)
  refine rg (h := ?_)
  refine bxA (h := fun b0 => ?_)
  refine WL.y (hy := asg) (h := ?_)
  refine nl (h := ?_)
  refine q_seq (h := ?_)
  refine sq (h := ?_)
  refine rg (h := ?_)
  refine mkm (h := fun b1 => ?_)
  refine WL.y (hy := asg) (h := ?_)
  refine nl (h := ?_)
  refine q_seq (h := ?_)
  refine sq (h := ?_)
  refine sq (h := ?_)
  refine rg (h := ?_)
  refine WL.y (hy := mv) (h := ?_)
  refine rngM (h := fun r1 => ?_)
  rw [cr_kv hC]
  refine nl (h := ?_)
  refine q_seq (h := ?_)
  refine bk (h := ?_)
  refine lp (X := PZ2) (I := fun z => (z.dn ++ z.ts).Perm ns ∧ z.tk.Perm (z.ts.map ndKV) ∧ PlI f N mn ns side K (stepI f (toC mn z.dn) side) z.N z.mn z.ns z.es z.c) (le := fun z => [(2, .int .i64 side), (3, .pointer (some ⟨b0, 0, none⟩)), (7, .map (some b1)), (14, .pointer (some ⟨r1, 0, none⟩))]) (Le := fun z => itE r1 b es cl z.tk z.o :: .obj b1 (.map z.es z.c) :: .blk b0 100 (cardC f cf A n c) :: poolE 103 z.N z.mn none :: roM b es cl :: R) (μ := fun z => z.ts.length) ⟨N, mn, [], #[], 0, [], ns, ns.map ndKV, none⟩ ⟨.refl _, .refl _, PlI.start hP⟩ (by repeat (first | exact trivial | refine ⟨rfl, ?_⟩)) (by repeat (first | exact SubL.nil | (apply SubL.cons; (repeat (first | exact At.here | apply At.there))) | exact SubL.refl _ | apply SubL.skip)) (fun z hz => ?_)
  obtain ⟨hzd, hzt, hzp⟩ := hz
  refine sq (h := ?_)
  refine rg (h := ?_)
  refine nxtM (hs := hC.s) (h := fun o2 tk2 ho2 => ?_)
  refine WL.y (hy := exN) (h := ?_)
  refine nl (h := ?_)
  refine q_seq (h := ?_)
  refine sq (h := ?_)
  refine cd (by exact rfl) (fun h0 => ?_) (fun h0 => ?_)
  · skip
    obtain ⟨kv, rfl⟩ := Option.isSome_iff_exists.1 h0
    rcases todo_nd hzt ho2 with ⟨e, _⟩ | ⟨x, ts', e, hts, htk⟩
    · cases e
    obtain rfl := Option.some.inj e
    have hxn : x ∈ ns := hzd.subset (List.mem_append.2 (.inr (hts.symm.subset List.mem_cons_self)))
    refine skp (h := ?_)
    refine q_seq (h := ?_)
    refine bk (h := ?_)
    refine sq (h := ?_)
    refine rg (h := ?_)
    refine WL.y (hy := entM (hs := hC.s)) (h := ?_)
    refine WL.y (hy := ex) (h := ?_)
    refine WL.y (hy := asg) (h := ?_)
    refine nl (h := ?_)
    refine q_seq (h := ?_)
    refine sq (h := ?_)
    refine rg (h := ?_)
    refine WL.y (hy := mv) (h := ?_)
    refine nl (h := ?_)
    refine q_seq (h := ?_)
    refine bk (h := ?_)
    refine lp (X := PZ3) (I := fun v => v.k ≤ 2 ∧ PlI f N mn ns side K (stepI f (toC mn z.dn) side ++ partE f side (ndE mn x) v.k) v.N v.mn v.ns v.es v.c) (le := fun v => [(2, .int .i64 side), (3, .pointer (some ⟨b0, 0, none⟩)), (7, .map (some b1)), (14, .pointer (some ⟨r1, 0, none⟩)), (9, bp x.b), (19, .int .i64 v.k)]) (Le := fun v => itE r1 b es cl tk2 (some (ndKV x)) :: .obj b1 (.map v.es v.c) :: .blk b0 100 (cardC f cf A n c) :: poolE 103 v.N v.mn none :: roM b es cl :: R) (μ := fun v => 2 - v.k) ⟨z.N, z.mn, z.ns, z.es, z.c, 0⟩ ⟨Nat.zero_le _, hzp.skip rfl⟩ (by repeat (first | exact trivial | refine ⟨rfl, ?_⟩)) (by repeat (first | exact SubL.nil | (apply SubL.cons; (repeat (first | exact At.here | apply At.there))) | exact SubL.refl _ | apply SubL.skip)) (fun v hv0 => ?_)
    obtain ⟨hvk, hv⟩ := hv0
    refine sq (h := ?_)
    refine rg (h := ?_)
    refine WL.y (hy := lss) (h := ?_)
    refine nl (h := ?_)
    refine q_seq (h := ?_)
    refine sq (h := ?_)
    refine cd (by exact rfl) (fun h1 => ?_) (fun h1 => ?_)
    · skip
      have hk2 : v.k < 2 := by simp only [decide_eq_true_eq] at h1; omega
      have hp : ((v.k : Nat) : Int) = 0 ∨ ((v.k : Nat) : Int) = 1 := by omega
      refine skp (h := ?_)
      refine q_seq (h := ?_)
      refine sq (h := ?_)
      refine bk (h := ?_)
      refine sq (h := ?_)
      refine rg (h := ?_)
      refine WL.y (hy := mv) (h := ?_)
      refine WL.y (hy := asg) (h := ?_)
      refine nl (h := ?_)
      refine q_seq (h := ?_)
      refine sq (h := ?_)
      refine sq (h := ?_)
      refine rg (h := ?_)
      refine WL.y (hy := mv) (h := ?_)
      refine WL.y (hy := neq) (h := ?_)
      refine WL.y (hy := mv) (h := ?_)
      apply brAnd 4 24 28 (by exact rfl)
      · intro hb2
        refine un (h := ?_)
        refine WL.y (hy := mv) (h := ?_)
        refine un (h := ?_)
        refine WL.y (hy := mv) (h := ?_)
        refine un (h := ?_)
        refine WL.y (hy := neq) (h := ?_)
        refine WL.y (hy := (by first | exact pkT | exact pkF)) (h := ?_)
        exact mg (by repeat (first | exact trivial | refine ⟨rfl, ?_⟩ | refine ⟨by rw [hb2]; rfl, ?_⟩)) (by repeat (first | exact SubL.nil | (apply SubL.cons; (repeat (first | exact At.here | apply At.there))) | exact SubL.refl _ | apply SubL.skip))
      · intro hb2
        repeat (first | refine un (h := ?_) | refine sk (h := ?_) | refine WL.y (hy := pkF) (h := ?_) | refine WL.y (hy := pkT) (h := ?_))
        exact mg (by repeat (first | exact trivial | refine ⟨rfl, ?_⟩ | refine ⟨by rw [hb2]; rfl, ?_⟩)) (by repeat (first | exact SubL.nil | (apply SubL.cons; (repeat (first | exact At.here | apply At.there))) | exact SubL.refl _ | apply SubL.skip))
      refine nl (h := ?_)
      refine q_seq (h := ?_)
      refine cd (by exact rfl) (fun h3 => ?_) (fun h3 => ?_)
      · skip
        have hgo : goE f side (ndE mn x) ((v.k : Nat) : Int) = [] := by
          unfold goE
          rw [if_neg]
          have h' : (!decide (side = -1) && !decide (side = (v.k : Int))) = true := h3
          simp only [Bool.and_eq_true, Bool.not_eq_true', decide_eq_false_iff_not] at h'
          omega
        refine et (h := ?_)
        refine q_then_exit (h := ?_)
        refine q_blk_hit (h := ?_)
        refine q_seq (h := ?_)
        refine rg (h := ?_)
        refine WL.y (hy := addI) (h := ?_)
        refine WL.y (hy := mv) (h := ?_)
        refine nl (h := ?_)
        first
          | (refine rn (x := v) ⟨v.N, v.mn, v.ns, v.es, v.c, v.k + 1⟩ ⟨by dsimp only; omega, by
              show PlI f N mn ns side K (_ ++ (partE f side (ndE mn x) v.k ++ goE f side (ndE mn x) ((v.k : Nat) : Int))) _ _ _ _ _
              rw [hgo, List.append_nil]; exact hv⟩ (by dsimp only; omega) (by repeat (first | exact trivial | refine ⟨rfl, ?_⟩)) (by repeat (first | exact SubL.nil | (apply SubL.cons; (repeat (first | exact At.here | apply At.there))) | exact SubL.refl _ | apply SubL.skip)))
          | (refine rn (x := v) ⟨_, _, putNs v.ns ⟨k1, u, some x.b, ((v.k : Nat) : Int)⟩, q.1, q.2, v.k + 1⟩ ⟨by dsimp only; omega, by
              show PlI f N mn ns side K (_ ++ (partE f side (ndE mn x) v.k ++ goE f side (ndE mn x) ((v.k : Nat) : Int))) _ _ _ _ _
              rw [← List.append_assoc]; exact hv.point hP hC.sub hxn hp hsd hu hk1 hq⟩ (by dsimp only; omega) (by repeat (first | exact trivial | refine ⟨rfl, ?_⟩)) (by repeat (first | exact SubL.nil | (apply SubL.cons; (repeat (first | exact At.here | apply At.there))) | exact SubL.refl _ | apply SubL.skip)))
      · skip
        have hsd : side = -1 ∨ side = ((v.k : Nat) : Int) := by
          have h' : (!decide (side = -1) && !decide (side = (v.k : Int))) = false := h3
          simp only [Bool.and_eq_false_iff, Bool.not_eq_false', decide_eq_true_eq] at h'
          exact h'
        refine skp (h := ?_)
        refine q_seq (h := ?_)
        refine sq (h := ?_)
        refine rg (h := ?_)
        refine WL.y (hy := (by first | exact ldA | exact ldEA)) (h := ?_)
        refine WL.y (hy := mv) (h := ?_)
        refine WL.y (hy := mv) (h := ?_)
        refine clT (hc := T_nextO f hf cf A n c v.N v.mn x ((v.k : Nat) : Int) hp (K + 1) (by omega) hv.ok (hv.sub x (hC.sub x hxn))) (h := fun o4 ho4 => ?_)
        refine WL.y (hy := asg) (h := ?_)
        refine nl (h := ?_)
        refine q_seq (h := ?_)
        refine sq (h := ?_)
        refine rg (h := ?_)
        refine WL.y (hy := mv) (h := ?_)
        refine WL.y (hy := neqN (by kernel_rfl)) (h := ?_)
        refine nl (h := ?_)
        refine q_seq (h := ?_)
        refine cd (by exact rfl) (fun h4 => ?_) (fun h4 => ?_)
        · skip
          obtain ⟨k1, rfl⟩ := Option.isSome_iff_exists.1 h4
          obtain ⟨⟨u, hu⟩, hk1⟩ := ho4
          have hXN : v.N ⊆ addN f v.N x ((v.k : Nat) : Int) (some k1) := by simp only [addN, hu]; exact fun y hy => List.mem_cons_of_mem _ hy
          have eN : addN f v.N x ((v.k : Nat) : Int) (some k1) = ⟨k1, u, some x.b, ((v.k : Nat) : Int)⟩ :: v.N := by simp only [addN, hu]
          rw [eN]
          refine rg (h := ?_)
          refine WL.y (hy := mv) (h := ?_)
          refine WL.y (hy := mv) (h := ?_)
          refine clT (hc := T_put (⟨k1, u, some x.b, ((v.k : Nat) : Int)⟩ :: v.N) v.ns (addM v.mn x (some k1)) ⟨k1, u, some x.b, ((v.k : Nat) : Int)⟩ b1 v.es v.c hv.cr.m hv.cr.s (by rw [List.map_cons]; exact List.nodup_cons.2 ⟨fun hm => by obtain ⟨y, hy, e⟩ := List.mem_map.1 hm; exact hk1 y hy e, hv.ok.nd⟩) (fun y hy => by
            rcases List.mem_cons.1 hy with rfl | hy
            · exact (SpBd.step ((hP.ok x (hC.sub x hxn)).bd hf) (hP.ok x (hC.sub x hxn)).k0 (nxt_top hu) _ |> fun h => by rw [nxt_step hu] at h; exact h.len hf)
            · exact (hv.ok.ok y hy).len hf) (fun y hy => List.mem_cons_of_mem _ (hv.cr.sub y hy)) List.mem_cons_self) (h := fun q hq => ?_)
          refine nl (h := ?_)
          refine q_blk_norm (h := ?_)
          refine q_seq (h := ?_)
          refine rg (h := ?_)
          refine WL.y (hy := addI) (h := ?_)
          refine WL.y (hy := mv) (h := ?_)
          refine nl (h := ?_)
          first
            | (refine rn (x := v) ⟨v.N, v.mn, v.ns, v.es, v.c, v.k + 1⟩ ⟨by dsimp only; omega, by
                show PlI f N mn ns side K (_ ++ (partE f side (ndE mn x) v.k ++ goE f side (ndE mn x) ((v.k : Nat) : Int))) _ _ _ _ _
                rw [hgo, List.append_nil]; exact hv⟩ (by dsimp only; omega) (by repeat (first | exact trivial | refine ⟨rfl, ?_⟩)) (by repeat (first | exact SubL.nil | (apply SubL.cons; (repeat (first | exact At.here | apply At.there))) | exact SubL.refl _ | apply SubL.skip)))
            | (refine rn (x := v) ⟨_, _, putNs v.ns ⟨k1, u, some x.b, ((v.k : Nat) : Int)⟩, q.1, q.2, v.k + 1⟩ ⟨by dsimp only; omega, by
                show PlI f N mn ns side K (_ ++ (partE f side (ndE mn x) v.k ++ goE f side (ndE mn x) ((v.k : Nat) : Int))) _ _ _ _ _
                rw [← List.append_assoc]; exact hv.point hP hC.sub hxn hp hsd hu hk1 hq⟩ (by dsimp only; omega) (by repeat (first | exact trivial | refine ⟨rfl, ?_⟩)) (by repeat (first | exact SubL.nil | (apply SubL.cons; (repeat (first | exact At.here | apply At.there))) | exact SubL.refl _ | apply SubL.skip)))
        · skip
          have ho5 : o4 = none := by simpa using h4
          subst ho5
          have hgo : goE f side (ndE mn x) ((v.k : Nat) : Int) = [] := by
            unfold goE
            rw [if_pos hsd]; simp only [show nxtS f x.s ((v.k : Nat) : Int) = none from ho4]
          refine skp (h := ?_)
          refine q_blk_norm (h := ?_)
          refine q_seq (h := ?_)
          refine rg (h := ?_)
          refine WL.y (hy := addI) (h := ?_)
          refine WL.y (hy := mv) (h := ?_)
          refine nl (h := ?_)
          first
            | (refine rn (x := v) ⟨v.N, v.mn, v.ns, v.es, v.c, v.k + 1⟩ ⟨by dsimp only; omega, by
                show PlI f N mn ns side K (_ ++ (partE f side (ndE mn x) v.k ++ goE f side (ndE mn x) ((v.k : Nat) : Int))) _ _ _ _ _
                rw [hgo, List.append_nil]; exact hv⟩ (by dsimp only; omega) (by repeat (first | exact trivial | refine ⟨rfl, ?_⟩)) (by repeat (first | exact SubL.nil | (apply SubL.cons; (repeat (first | exact At.here | apply At.there))) | exact SubL.refl _ | apply SubL.skip)))
            | (refine rn (x := v) ⟨_, _, putNs v.ns ⟨k1, u, some x.b, ((v.k : Nat) : Int)⟩, q.1, q.2, v.k + 1⟩ ⟨by dsimp only; omega, by
                show PlI f N mn ns side K (_ ++ (partE f side (ndE mn x) v.k ++ goE f side (ndE mn x) ((v.k : Nat) : Int))) _ _ _ _ _
                rw [← List.append_assoc]; exact hv.point hP hC.sub hxn hp hsd hu hk1 hq⟩ (by dsimp only; omega) (by repeat (first | exact trivial | refine ⟨rfl, ?_⟩)) (by repeat (first | exact SubL.nil | (apply SubL.cons; (repeat (first | exact At.here | apply At.there))) | exact SubL.refl _ | apply SubL.skip)))
    · skip
      have hk2 : v.k = 2 := by simp only [decide_eq_false_iff_not] at h1; omega
      refine et (h := ?_)
      refine q_then_exit (h := ?_)
      refine q_then_exit (h := ?_)
      refine q_blk_hit (h := ?_)
      refine q_blk_norm (h := ?_)
      refine rn (x := z) ⟨v.N, v.mn, v.ns, v.es, v.c, z.dn ++ [x], ts', tk2, some (ndKV x)⟩ ⟨by rw [List.append_assoc]; exact ((List.Perm.append_left z.dn (hts.symm)).trans hzd), htk, by rw [stepI_snoc]; rw [hk2] at hv; exact hv⟩ (by have := hts.length_eq; rw [List.length_cons] at this; dsimp only; omega) (by repeat (first | exact trivial | refine ⟨rfl, ?_⟩)) (by repeat (first | exact SubL.nil | (apply SubL.cons; (repeat (first | exact At.here | apply At.there))) | exact SubL.refl _ | apply SubL.skip))
  · skip
    have ho3 : o2 = none := by simpa using h0
    have hts : z.ts = [] := by
      rcases todo_nd hzt ho2 with ⟨_, h9, _⟩ | ⟨x, ts', e, _⟩
      · exact h9
      · rw [ho3] at e; cases e
    refine et (h := ?_)
    refine q_then_exit (h := ?_)
    refine q_then_exit (h := ?_)
    refine q_blk_hit (h := ?_)
    refine q_seq (h := ?_)
    refine sq (h := ?_)
    refine rg (h := ?_)
    refine WL.y (hy := mv) (h := ?_)
    refine WL.y (hy := asg) (h := ?_)
    refine nl (h := ?_)
    refine q_seq (h := ?_)
    refine rtn (h := ?_)
    refine q_ret (hR := ?_)
    exact fun w hS => ⟨⟨z.N, z.mn, z.ns, b1, z.es, z.c⟩, ⟨z.dn, by rw [hts, List.append_nil] at hzd; exact hzd, hzp⟩, rfl, hS.sub (by repeat (first | exact SubL.nil | (apply SubL.cons; (repeat (first | exact At.here | apply At.there))) | exact SubL.refl _ | apply SubL.skip))⟩
end Go.Proofs.Ytncoimjgjpcipaa

namespace Go.Proofs.Ytncoimjgjpcipaa
open Go Go.RowKit

def RowF (N ns N' : List Nd) (y : Nd) (j : Nat) : Prop := ∃ x ∈ ns, ∃ r p, RowN N x r ∧ RowN N' y (r ++ p) ∧ y.s.first = x.s.first ∧ p.length = j
theorem RowF.mono {N ns N' N2 : List Nd} {y : Nd} {j : Nat} (h : RowF N ns N' y j) (hs : ∀ z ∈ N', z ∈ N2) : RowF N ns N2 y j := by
  obtain ⟨x, hx, r, p, h1, h2, h3⟩ := h
  exact ⟨x, hx, r, p, h1, h2.mono hs, h3⟩
structure MsI (f : Fmt) (N : List Nd) (mn : Nat → Pr) (ns : List Nd) (a K : Int) (k : Nat) (cs : List Nd) (esC : Array MapEntry) (cC : Nat) (l : List En) (N' : List Nd) (mn' : Nat → Pr) (ns' : List Nd) (es' : Array MapEntry) (c' : Nat) : Prop where
  ok : PoolOk f N' mn' (K + (k : Int))
  sub : ∀ y ∈ N, y ∈ N'
  mnE : ∀ y ∈ N, mn' y.b = mn y.b
  cr : CrIs N' ns' es' c'
  cur : CrIs N' cs esC cC
  new : ∀ y ∈ ns', (∀ z ∈ N, z.b ≠ y.b) ∧ ∀ z ∈ cs, z.b ≠ y.b
  csP : (toC mn' cs).Perm (iterC f (toC mn ns) k)
  csR : ∀ y ∈ cs, RowF N ns N' y k
  outR : ∀ y ∈ ns', ∃ j : Nat, a ≤ (j : Int) ∧ j ≤ k ∧ RowF N ns N' y j
  eqC : toC mn' ns' = normC l
section
variable {f : Fmt} {N : List Nd} {mn : Nat → Pr} {ns : List Nd} {a K : Int} {k : Nat} {cs : List Nd} {esC : Array MapEntry} {cC : Nat} {l : List En} {N' : List Nd} {mn' : Nat → Pr} {ns' : List Nd} {es' : Array MapEntry} {c' : Nat}
theorem MsI.start (hP : PoolOk f N mn K) (hC : CrIs N ns es' c') : MsI f N mn ns a K 0 ns es' c' [] N mn [] #[] 0 :=
  ⟨hP.up (by omega), fun y hy => hy, fun y hy => rfl, CrIs.nil N, hC, fun y hy => (by cases hy), .refl _, fun y hy => by
    obtain ⟨r, hr, _⟩ := (hP.ok y (hC.sub y hy)).row
    exact ⟨y, hy, r, [], hr, by rw [List.append_nil]; exact hr, rfl, rfl⟩, fun y hy => (by cases hy), rfl⟩
theorem MsI.copy (h : MsI f N mn ns a K k cs esC cC l N' mn' ns' es' c') (ha : a ≤ (k : Int)) {x : Nd} (hx : x ∈ cs) {k0 : Nat} (hk0 : ∀ z ∈ N', z.b ≠ k0) {es2 : Array MapEntry} {c2 : Nat} (hm : MapIs es2 (crE (putNs ns' ⟨k0, x.s, x.bf, x.sd⟩)) ∧ Stm es2 c2) :
    MsI f N mn ns a K k cs esC cC (l ++ [ndE mn' x]) (⟨k0, x.s, x.bf, x.sd⟩ :: N') (putM ns' (upN mn' k0 (mn' x.b)) ⟨k0, x.s, x.bf, x.sd⟩) (putNs ns' ⟨k0, x.s, x.bf, x.sd⟩) es2 c2 ∧ ∀ z ∈ cs, putM ns' (upN mn' k0 (mn' x.b)) ⟨k0, x.s, x.bf, x.sd⟩ z.b = mn' z.b := by
  have hxN := h.cur.sub x hx
  have hok := h.ok.copy (y := ⟨k0, x.s, x.bf, x.sd⟩) hxN hk0 rfl rfl rfl
  have hup : ∀ z ∈ N', z ∈ (⟨k0, x.s, x.bf, x.sd⟩ :: N' : List Nd) := fun z hz => List.mem_cons_of_mem _ hz
  have hcm : ∀ z ∈ cs, putM ns' (upN mn' k0 (mn' x.b)) ⟨k0, x.s, x.bf, x.sd⟩ z.b = mn' z.b := fun z hz => by
    rw [putM_other fun y hy e => (h.new y hy).2 z hz e.symm, upN_other (hk0 z (h.cur.sub z hz))]
  refine ⟨⟨putM_ok hok (fun y hy => hup y (h.cr.sub y hy)) List.mem_cons_self, fun y hy => hup y (h.sub y hy), fun y hy => ?_, (h.cr.up hup).put List.mem_cons_self hm, h.cur.up hup, fun y hy => ?_, ?_, fun y hy => (h.csR y hy).mono hup, fun y hy => ?_, ?_⟩, hcm⟩
  · rw [putM_other fun z hz e => (h.new z hz).1 y hy e.symm, upN_other (hk0 y (h.sub y hy)), h.mnE y hy]
  · rcases putNs_mem hy with h5 | rfl
    · exact h.new y h5
    · exact ⟨fun z hz => hk0 z (h.sub z hz), fun z hz => hk0 z (h.cur.sub z hz)⟩
  · rw [toC_congr hcm]; exact h.csP
  · rcases putNs_mem hy with h5 | rfl
    · obtain ⟨j, h6, h7, h8⟩ := h.outR y h5
      exact ⟨j, h6, h7, h8.mono hup⟩
    · obtain ⟨x0, hx0, r, p, h6, h7, h8, h9⟩ := h.csR x hx
      exact ⟨k, ha, Nat.le_refl _, x0, hx0, r, p, h6, (h7.copy (y := ⟨k0, x.s, x.bf, x.sd⟩) rfl rfl).mono hup, h8, h9⟩
  · rw [norm_snoc, ← h.eqC, put_toC h.cr.keys (fun y hy z hz e => nd_one h.ok.nd (h.cr.sub y hy) (h.cr.sub z hz) e)]
    rw [toC_congr (mn := mn') fun y hy => upN_other (hk0 y (h.cr.sub y hy))]
    congr 1
    show (x.s, ((upN mn' k0 _ k0).1, (upN mn' k0 _ k0).2, (0 : Int))) = _
    rw [upN_same]
theorem MsI.play (h : MsI f N mn ns a K k cs esC cC l N' mn' ns' es' c') {dn cs2 N2 : List Nd} {mn2 : Nat → Pr} {es2 : Array MapEntry} {c2 : Nat} (hd : dn.Perm cs) (hq : PlI f N' mn' cs (-1) (K + (k : Int)) (stepI f (toC mn' dn) (-1)) N2 mn2 cs2 es2 c2) : MsI f N mn ns a K (k + 1) cs2 es2 c2 l N2 mn2 ns' es' c' := by
  refine ⟨by rw [show K + ((k + 1 : Nat) : Int) = K + (k : Int) + 1 by omega]; exact hq.ok, fun y hy => hq.sub y (h.sub y hy), fun y hy => by rw [hq.mn y (h.sub y hy), h.mnE y hy], h.cr.up hq.sub, hq.cr, fun y hy => ⟨(h.new y hy).1, fun z hz e => hq.new z hz y (h.cr.sub y hy) e.symm⟩, ?_, fun y hy => ?_, fun y hy => ?_, ?_⟩
  · rw [hq.toC]
    show (normC _).Perm (normC (stepI f (iterC f (toC mn ns) k) (-1)))
    have hp : (toC mn' dn).Perm (iterC f (toC mn ns) k) := (hd.map _).trans h.csP
    exact norm_perm (hp.flatMap_right _)
  · obtain ⟨x, hx, h1, h2, h3, h4⟩ := hq.fr y hy
    obtain ⟨x0, hx0, r, p, h5, h6, h7, h8⟩ := h.csR x hx
    refine ⟨x0, hx0, r, p ++ [y.sd], h5, ?_, ?_, by rw [List.length_append, h8]; rfl⟩
    · rw [← List.append_assoc]
      exact .snoc (hq.sub x (h.cur.sub x hx)) h1 (h6.mono hq.sub)
    · rw [← h7, ← nxt_step h4, step_first]
  · obtain ⟨j, h1, h2, h3⟩ := h.outR y hy
    exact ⟨j, h1, by omega, h3.mono hq.sub⟩
  · rw [toC_congr fun y hy => hq.mn y (h.cr.sub y hy)]; exact h.eqC
structure RdOk (f : Fmt) (N : List Nd) (mn : Nat → Pr) (ns : List Nd) (t : Nt) (K : Int) (q : PR) : Prop where
  ok : PoolOk f q.N q.mn (K + mostN t + 1)
  sub : ∀ y ∈ N, y ∈ q.N
  mnE : ∀ y ∈ N, q.mn y.b = mn y.b
  cr : CrIs q.N q.ns q.es q.c
  eqC : (toC q.mn q.ns).Perm (afterC f (toC mn ns) t)
  fr : ∀ y ∈ q.ns, ∃ x ∈ ns, ∃ r p, RowN N x r ∧ RowN q.N y (r ++ p) ∧ y.s.first = x.s.first ∧ QOk f t y.s p
theorem rd_noted {t : Nt} (hP : PoolOk f N mn K) (hC : CrIs N ns es' c') (ht : t.kind = 1) {q : PR} {dn : List Nd} (hd : dn.Perm ns) (hq : PlI f N mn ns t.side K (stepI f (toC mn dn) t.side) q.N q.mn q.ns q.es q.c) : RdOk f N mn ns t K q := by
  refine ⟨hq.ok.up (by unfold mostN; rw [if_pos ht]; omega), hq.sub, hq.mn, hq.cr, ?_, fun y hy => ?_⟩
  · rw [hq.toC, afterC, if_pos ht]
    exact norm_perm ((hd.map (ndE mn)).flatMap_right _)
  · obtain ⟨x, hx, h1, h2, h3, h4⟩ := hq.fr y hy
    obtain ⟨r, hr, _⟩ := (hP.ok x (hC.sub x hx)).row
    refine ⟨x, hx, r, [y.sd], hr, .snoc (hq.sub x (hC.sub x hx)) h1 (hr.mono hq.sub), by rw [← nxt_step h4, step_first], ?_⟩
    unfold QOk
    rw [if_pos ht]
    exact ⟨y.sd, rfl, h3⟩
theorem rd_missed {t : Nt} {B : Nat} (h1 : t.kind = 2) (hB : t.pair.2 = (B : Int)) {b' : Nat} (hl : l.Perm (missI f (toC mn ns) t.pair.1 (B + 1))) (h : MsI f N mn ns t.pair.1 K (B + 1) cs esC cC l N' mn' ns' es' c') (hj : ∀ y ∈ ns', ∃ j : Nat, t.pair.1 ≤ (j : Int) ∧ j ≤ B ∧ RowF N ns N' y j) : RdOk f N mn ns t K ⟨N', mn', ns', b', es', c'⟩ := by
  have hne : t.kind ≠ 1 := by omega
  refine ⟨h.ok.up (by unfold mostN; rw [if_neg hne, if_pos h1]; omega), h.sub, h.mnE, h.cr, ?_, fun y hy => ?_⟩
  · show (Go.Proofs.Ytncoimjgjpcipaa.toC mn' ns').Perm _
    rw [h.eqC, afterC, if_neg hne, if_pos h1, missC, hB, Int.toNat_natCast]
    exact norm_perm hl
  · obtain ⟨j, h3, h4, x, hx, r, p, h5, h6, h7, h8⟩ := hj y hy
    refine ⟨x, hx, r, p, h5, h6, h7, ?_⟩
    unfold QOk
    rw [if_neg hne, if_pos h1]
    omega
def tstN (f : Fmt) (t : Nt) (dn : List Nd) : List Nd := dn.filter fun x => holdS f t x.s
theorem tst_toC (t : Nt) (dn : List Nd) : toC mn (tstN f t dn) = testC f t (toC mn dn) := by
  unfold tstN testC toC
  rw [List.filter_map]; rfl
theorem tst_snoc (t : Nt) (dn : List Nd) (x : Nd) : tstN f t (dn ++ [x]) = bif holdS f t x.s then tstN f t dn ++ [x] else tstN f t dn := by
  unfold tstN
  rw [List.filter_append]
  cases hh : holdS f t x.s
  · simp [hh]
  · simp [hh]
theorem get_fresh {dn ts : List Nd} {x : Nd} (hk : (spotKs ns).Nodup) (hp : (dn ++ x :: ts).Perm ns) (t : Nt) : getN (tstN f t dn) x.s = none := by
  refine List.find?_eq_none.2 fun y hy => ?_
  have hy' : y ∈ dn := (List.mem_filter.1 hy).1
  have hn : (spotKs (dn ++ x :: ts)).Nodup := (hp.map _).nodup_iff.2 hk
  unfold spotKs at hn
  rw [List.map_append, List.nodup_append] at hn
  rw [decide_eq_true_eq]
  exact hn.2.2 y.s (List.mem_map.2 ⟨y, hy', rfl⟩) x.s (List.mem_map.2 ⟨x, List.mem_cons_self, rfl⟩)
theorem putM_none {x : Nd} (h : getN ns x.s = none) : putM ns mn x = mn := by unfold putM; rw [h]
theorem putNs_none {x : Nd} (h : getN ns x.s = none) : putNs ns x = ns ++ [x] := by unfold putNs; rw [h]
theorem rd_test {t : Nt} (hP : PoolOk f N mn K) (hC : CrIs N ns esC cC) (h1 : t.kind ≠ 1) (h2 : t.kind ≠ 2) {b' : Nat} {dn : List Nd} (hd : dn.Perm ns) (hc : CrIs N (tstN f t dn) es' c') : RdOk f N mn ns t K ⟨N, mn, tstN f t dn, b', es', c'⟩ := by
  refine ⟨hP.up (by unfold mostN; rw [if_neg h1, if_neg h2]; omega), fun y hy => hy, fun y hy => rfl, hc, ?_, fun y hy => ?_⟩
  · show (Go.Proofs.Ytncoimjgjpcipaa.toC mn (tstN f t dn)).Perm _
    rw [tst_toC, afterC, if_neg h1, if_neg h2]
    exact (hd.map _).filter _
  · obtain ⟨h3, h4⟩ := List.mem_filter.1 hy
    have hyn := hd.subset h3
    obtain ⟨r, hr, _⟩ := (hP.ok y (hC.sub y hyn)).row
    refine ⟨y, hyn, r, [], hr, by rw [List.append_nil]; exact hr, rfl, ?_⟩
    unfold QOk
    rw [if_neg h1, if_neg h2]
    exact ⟨rfl, h4⟩
end
end Go.Proofs.Ytncoimjgjpcipaa

namespace Go.Proofs.Ytncoimjgjpcipaa
open Go Go.RowKit

structure MZ where
  (N : List Nd) (mn : Nat → Pr) (ns : List Nd) (es : Array MapEntry) (c : Nat) (cs : List Nd) (cb : Nat) (esC : Array MapEntry) (cC : Nat) (l : List En) (k : Nat)
structure MZ2 where
  (N : List Nd) (mn : Nat → Pr) (ns : List Nd) (es : Array MapEntry) (c : Nat) (dn ts : List Nd) (tk : List KV) (o : Option KV)
structure MZ3 where
  (es : Array MapEntry) (c : Nat) (dn ts : List Nd) (tk : List KV) (o : Option KV)
theorem T_read_noted (f : Fmt) (hf : f.Ok) (cf : Int) (A : Option Addr) (n c : Nat) (N ns : List Nd) (mn : Nat → Pr) (t : Nt) (K : Int) (hK : K ≤ 500) (hP : PoolOk f N mn K) (b : Nat) (es : Array MapEntry) (cl : Nat) (hC : CrIs N ns es cl) (ht : t.kind = 1) :
    Tr Try.prog 54 [.agg (cardC f cf A n c).toArray, .map (some b), t.val] [poolE 103 N mn none, roM b es cl] (RdOk f N mn ns t K) (fun q => .map (some q.b)) (fun q => [poolE 103 q.N q.mn none, .obj q.b (.map q.es q.c), roM b es cl]) := by
  refine ⟨fun w0 w R hst => ?_⟩
  refine en Try.func54 Try.ntmps54 hst (h := fun F => ?_)
  refine sq (h := ?_)
  refine rg (h := ?_)
  refine bxA (h := fun b0 => ?_)
  refine bxA (h := fun b1 => ?_)
  refine WL.y (hy := asg) (h := ?_)
  refine nl (h := ?_)
  refine q_seq (h := ?_)
  refine sq (h := ?_)
  refine rg (h := ?_)
  refine mkm (h := fun b2 => ?_)
  refine WL.y (hy := asg) (h := ?_)
  refine nl (h := ?_)
  refine q_seq (h := ?_)
  refine sq (h := ?_)
  refine sq (h := ?_)
  refine rg (h := ?_)
  refine WL.y (hy := (by first | exact fa | exact faE)) (h := ?_)
  refine WL.y (hy := (by first | exact ld | exact ldE)) (h := ?_)
  refine nl (h := ?_)
  refine q_seq (h := ?_)
  refine bk (h := ?_)
  refine sq (h := ?_)
  refine rg (h := ?_)
  refine WL.y (hy := eql) (h := ?_)
  refine WL.y (hy := asg) (h := ?_)
  refine nl (h := ?_)
  refine q_seq (h := ?_)
  refine cd (by exact rfl) (fun h0 => ?_) (fun h0 => ?_)
  · skip
    refine sq (h := ?_)
    refine rg (h := ?_)
    refine WL.y (hy := (by first | exact ldA | exact ldEA)) (h := ?_)
    refine WL.y (hy := mv) (h := ?_)
    refine WL.y (hy := (by first | exact fa | exact faE)) (h := ?_)
    refine WL.y (hy := (by first | exact ld | exact ldE)) (h := ?_)
    refine clT (hc := T_reader_play f hf cf A n c N ns mn t.side K (by omega) hP b es cl hC) (h := fun q hq => ?_)
    obtain ⟨dn, hd, hq⟩ := hq
    refine WL.y (hy := asg) (h := ?_)
    refine nl (h := ?_)
    refine q_seq (h := ?_)
    refine rtn (h := ?_)
    refine q_blk_ret (h := ?_)
    refine q_then_ret (h := ?_)
    refine q_ret (hR := ?_)
    exact fun w hS => ⟨q, rd_noted hP hC ht hd hq, rfl, hS.sub (by repeat (first | exact SubL.nil | (apply SubL.cons; (repeat (first | exact At.here | apply At.there))) | exact SubL.refl _ | apply SubL.skip))⟩
  · skip
    exact absurd ht (of_decide_eq_false h0)
set_option maxRecDepth 100000 in
theorem T_read_test (f : Fmt) (hf : f.Ok) (hc0 : chkF f = 0) (cf : Int) (A : Option Addr) (n c : Nat) (N ns : List Nd) (mn : Nat → Pr) (t : Nt) (K : Int) (hK : K ≤ 500) (hP : PoolOk f N mn K) (b : Nat) (es : Array MapEntry) (cl : Nat) (hC : CrIs N ns es cl) (hk1 : t.kind ≠ 1) (hk2 : t.kind ≠ 2) :
    Tr Try.prog 54 [.agg (cardC f cf A n c).toArray, .map (some b), t.val] [poolE 103 N mn none, roM b es cl] (RdOk f N mn ns t K) (fun q => .map (some q.b)) (fun q => [poolE 103 q.N q.mn none, .obj q.b (.map q.es q.c), roM b es cl]) := by
  refine ⟨fun w0 w R hst => ?_⟩
  refine en Try.func54 Try.ntmps54 hst (h := fun F => ?_)
  refine sq (h := ?_)
  refine rg (h := ?_)
  refine bxA (h := fun b0 => ?_)
  refine bxA (h := fun b1 => ?_)
  refine WL.y (hy := asg) (h := ?_)
  refine nl (h := ?_)
  refine q_seq (h := ?_)
  refine sq (h := ?_)
  refine rg (h := ?_)
  refine mkm (h := fun b2 => ?_)
  refine WL.y (hy := asg) (h := ?_)
  refine nl (h := ?_)
  refine q_seq (h := ?_)
  refine sq (h := ?_)
  refine sq (h := ?_)
  refine rg (h := ?_)
  refine WL.y (hy := (by first | exact fa | exact faE)) (h := ?_)
  refine WL.y (hy := (by first | exact ld | exact ldE)) (h := ?_)
  refine nl (h := ?_)
  refine q_seq (h := ?_)
  refine bk (h := ?_)
  refine sq (h := ?_)
  refine rg (h := ?_)
  refine WL.y (hy := eql) (h := ?_)
  refine WL.y (hy := asg) (h := ?_)
  refine nl (h := ?_)
  refine q_seq (h := ?_)
  refine cd (by exact rfl) (fun h0 => ?_) (fun h0 => ?_)
  · skip
    exact absurd (of_decide_eq_true h0) hk1
  · skip
    refine sq (h := ?_)
    refine rg (h := ?_)
    refine WL.y (hy := eql) (h := ?_)
    refine WL.y (hy := asg) (h := ?_)
    refine nl (h := ?_)
    refine q_seq (h := ?_)
    refine cd (by exact rfl) (fun h1 => ?_) (fun h1 => ?_)
    · skip
      exact absurd (of_decide_eq_true h1) hk2
    · skip
      refine sq (h := ?_)
      refine rg (h := ?_)
      refine WL.y (hy := mv) (h := ?_)
      refine rngM (h := fun r1 => ?_)
      rw [cr_kv hC]
      refine nl (h := ?_)
      refine q_seq (h := ?_)
      refine bk (h := ?_)
      refine lp (X := MZ3) (I := fun z => (z.dn ++ z.ts).Perm ns ∧ z.tk.Perm (z.ts.map ndKV) ∧ CrIs N (tstN f t z.dn) z.es z.c) (le := fun z => [(3, .pointer (some ⟨b0, 0, none⟩)), (5, .pointer (some ⟨b1, 0, none⟩)), (7, .map (some b2)), (18, .pointer (some ⟨r1, 0, none⟩))]) (Le := fun z => itE r1 b es cl z.tk z.o :: .obj b2 (.map z.es z.c) :: .blk b1 40 t.cells :: .blk b0 100 (cardC f cf A n c) :: poolE 103 N mn none :: roM b es cl :: R) (μ := fun z => z.ts.length) ⟨#[], 0, [], ns, ns.map ndKV, none⟩ ⟨.refl _, .refl _, CrIs.nil N⟩ (by repeat (first | exact trivial | refine ⟨rfl, ?_⟩)) (by repeat (first | exact SubL.nil | (apply SubL.cons; (repeat (first | exact At.here | apply At.there))) | exact SubL.refl _ | apply SubL.skip)) (fun z hz => ?_)
      obtain ⟨hzd, hzt, hzc⟩ := hz
      refine sq (h := ?_)
      refine rg (h := ?_)
      refine nxtM (hs := hC.s) (h := fun o2 tk2 ho2 => ?_)
      refine WL.y (hy := exN) (h := ?_)
      refine nl (h := ?_)
      refine q_seq (h := ?_)
      refine sq (h := ?_)
      refine cd (by exact rfl) (fun h2 => ?_) (fun h2 => ?_)
      · skip
        obtain ⟨kv, rfl⟩ := Option.isSome_iff_exists.1 h2
        rcases todo_nd hzt ho2 with ⟨e, _⟩ | ⟨x, ts', e, hts, htk⟩
        · cases e
        obtain rfl := Option.some.inj e
        have hxn : x ∈ ns := hzd.subset (List.mem_append.2 (.inr (hts.symm.subset List.mem_cons_self)))
        have hdx : (z.dn ++ x :: ts').Perm ns := ((List.Perm.append_left z.dn hts.symm)).trans hzd
        have hgf := get_fresh (f := f) hC.keys hdx t
        refine skp (h := ?_)
        refine q_seq (h := ?_)
        refine bk (h := ?_)
        refine sq (h := ?_)
        refine rg (h := ?_)
        refine WL.y (hy := entM (hs := hC.s)) (h := ?_)
        refine WL.y (hy := ex) (h := ?_)
        refine WL.y (hy := asg) (h := ?_)
        refine nl (h := ?_)
        refine q_seq (h := ?_)
        refine sq (h := ?_)
        refine rg (h := ?_)
        refine WL.y (hy := (by first | exact ldA | exact ldEA)) (h := ?_)
        refine WL.y (hy := (by first | exact ldA | exact ldEA)) (h := ?_)
        refine WL.y (hy := mv) (h := ?_)
        refine clT (hc := T_reader_holds f hf hc0 cf A n c N mn K (by omega) hP x (hC.sub x hxn) t) (h := fun _ _ => ?_)
        refine nl (h := ?_)
        refine q_seq (h := ?_)
        refine cd (by exact rfl) (fun h3 => ?_) (fun h3 => ?_)
        · skip
          have hH : holdS f t x.s = true := h3
          have hsn : tstN f t (z.dn ++ [x]) = tstN f t z.dn ++ [x] := by rw [tst_snoc, hH]; rfl
          refine rg (h := ?_)
          refine WL.y (hy := mv) (h := ?_)
          refine WL.y (hy := mv) (h := ?_)
          refine clT (hc := T_put N (tstN f t z.dn) mn x b2 z.es z.c hzc.m hzc.s hP.nd (fun y hy => (hP.ok y hy).len hf) hzc.sub (hC.sub x hxn)) (h := fun q hq => ?_)
          rw [putM_none hgf]
          rw [putNs_none hgf, ← hsn] at hq
          refine nl (h := ?_)
          refine q_blk_norm (h := ?_)
          first
            | (refine rn (x := z) ⟨q.1, q.2, z.dn ++ [x], ts', tk2, some (ndKV x)⟩ ⟨by rw [List.append_assoc]; exact hdx, htk, ⟨hq.1, hq.2, fun y hy => hC.sub y (hdx.subset (by rw [hsn] at hy; rcases List.mem_append.1 hy with h9 | h9; exact List.mem_append.2 (.inl (List.mem_filter.1 h9).1); exact List.mem_append.2 (.inr (by rw [List.mem_singleton.1 h9]; exact List.mem_cons_self)))), by rw [hsn, ← putNs_none hgf]; exact putNs_keys hzc.keys⟩⟩ (by have := hts.length_eq; rw [List.length_cons] at this; dsimp only; omega) (by repeat (first | exact trivial | refine ⟨rfl, ?_⟩)) (by repeat (first | exact SubL.nil | (apply SubL.cons; (repeat (first | exact At.here | apply At.there))) | exact SubL.refl _ | apply SubL.skip)))
            | (refine rn (x := z) ⟨z.es, z.c, z.dn ++ [x], ts', tk2, some (ndKV x)⟩ ⟨by rw [List.append_assoc]; exact hdx, htk, by rw [hsn]; exact hzc⟩ (by have := hts.length_eq; rw [List.length_cons] at this; dsimp only; omega) (by repeat (first | exact trivial | refine ⟨rfl, ?_⟩)) (by repeat (first | exact SubL.nil | (apply SubL.cons; (repeat (first | exact At.here | apply At.there))) | exact SubL.refl _ | apply SubL.skip)))
        · skip
          have hH : holdS f t x.s = false := h3
          have hsn : tstN f t (z.dn ++ [x]) = tstN f t z.dn := by rw [tst_snoc, hH]; rfl
          refine skp (h := ?_)
          refine q_blk_norm (h := ?_)
          first
            | (refine rn (x := z) ⟨q.1, q.2, z.dn ++ [x], ts', tk2, some (ndKV x)⟩ ⟨by rw [List.append_assoc]; exact hdx, htk, ⟨hq.1, hq.2, fun y hy => hC.sub y (hdx.subset (by rw [hsn] at hy; rcases List.mem_append.1 hy with h9 | h9; exact List.mem_append.2 (.inl (List.mem_filter.1 h9).1); exact List.mem_append.2 (.inr (by rw [List.mem_singleton.1 h9]; exact List.mem_cons_self)))), by rw [hsn, ← putNs_none hgf]; exact putNs_keys hzc.keys⟩⟩ (by have := hts.length_eq; rw [List.length_cons] at this; dsimp only; omega) (by repeat (first | exact trivial | refine ⟨rfl, ?_⟩)) (by repeat (first | exact SubL.nil | (apply SubL.cons; (repeat (first | exact At.here | apply At.there))) | exact SubL.refl _ | apply SubL.skip)))
            | (refine rn (x := z) ⟨z.es, z.c, z.dn ++ [x], ts', tk2, some (ndKV x)⟩ ⟨by rw [List.append_assoc]; exact hdx, htk, by rw [hsn]; exact hzc⟩ (by have := hts.length_eq; rw [List.length_cons] at this; dsimp only; omega) (by repeat (first | exact trivial | refine ⟨rfl, ?_⟩)) (by repeat (first | exact SubL.nil | (apply SubL.cons; (repeat (first | exact At.here | apply At.there))) | exact SubL.refl _ | apply SubL.skip)))
      · skip
        have ho3 : o2 = none := by simpa using h2
        have hts : z.ts = [] := by
          rcases todo_nd hzt ho2 with ⟨_, h9, _⟩ | ⟨x, ts', e, _⟩
          · exact h9
          · rw [ho3] at e; cases e
        refine et (h := ?_)
        refine q_then_exit (h := ?_)
        refine q_then_exit (h := ?_)
        refine q_blk_hit (h := ?_)
        refine q_blk_norm (h := ?_)
        refine q_seq (h := ?_)
        refine sq (h := ?_)
        refine rg (h := ?_)
        refine WL.y (hy := mv) (h := ?_)
        refine WL.y (hy := asg) (h := ?_)
        refine nl (h := ?_)
        refine q_seq (h := ?_)
        refine rtn (h := ?_)
        refine q_ret (hR := ?_)
        exact fun w hS => ⟨⟨N, mn, tstN f t z.dn, b2, z.es, z.c⟩, rd_test hP hC hk1 hk2 (by rw [hts, List.append_nil] at hzd; exact hzd) hzc, rfl, hS.sub (by repeat (first | exact SubL.nil | (apply SubL.cons; (repeat (first | exact At.here | apply At.there))) | exact SubL.refl _ | apply SubL.skip))⟩
theorem ndE_eq {mn mn' : Nat → Pr} {x : Nd} (h : mn' x.b = mn x.b) : ndE mn' x = ndE mn x := by unfold ndE; rw [h]
theorem toC_snoc (mn : Nat → Pr) (dn : List Nd) (x : Nd) : toC mn (dn ++ [x]) = toC mn dn ++ [ndE mn x] := by unfold toC; rw [List.map_append]; rfl
set_option maxRecDepth 100000 in
set_option maxHeartbeats 1000000 in
theorem T_read_missed (f : Fmt) (hf : f.Ok) (cf : Int) (A : Option Addr) (n c : Nat) (N ns : List Nd) (mn : Nat → Pr) (t : Nt) (K : Int) (hK : K ≤ 500) (hP : PoolOk f N mn K) (b : Nat) (es : Array MapEntry) (cl : Nat) (hC : CrIs N ns es cl) (ht : t.kind = 2) (B : Nat) (hB : t.pair.2 = (B : Int)) (hB3 : B ≤ 30) :
    Tr Try.prog 54 [.agg (cardC f cf A n c).toArray, .map (some b), t.val] [poolE 103 N mn none, roM b es cl] (RdOk f N mn ns t K) (fun q => .map (some q.b)) (fun q => [poolE 103 q.N q.mn none, .obj q.b (.map q.es q.c), roM b es cl]) := by
  refine ⟨fun w0 w R hst => ?_⟩
  refine en Try.func54 Try.ntmps54 hst (h := fun F => ?_)
  refine sq (h := ?_)
  refine rg (h := ?_)
  refine bxA (h := fun b0 => ?_)
  refine bxA (h := fun b1 => ?_)
  refine WL.y (hy := asg) (h := ?_)
  refine nl (h := ?_)
  refine q_seq (h := ?_)
  refine sq (h := ?_)
  refine rg (h := ?_)
  refine mkm (h := fun b2 => ?_)
  refine WL.y (hy := asg) (h := ?_)
  refine nl (h := ?_)
  refine q_seq (h := ?_)
  refine sq (h := ?_)
  refine sq (h := ?_)
  refine rg (h := ?_)
  refine WL.y (hy := (by first | exact fa | exact faE)) (h := ?_)
  refine WL.y (hy := (by first | exact ld | exact ldE)) (h := ?_)
  refine nl (h := ?_)
  refine q_seq (h := ?_)
  refine bk (h := ?_)
  refine sq (h := ?_)
  refine rg (h := ?_)
  refine WL.y (hy := eql) (h := ?_)
  refine WL.y (hy := asg) (h := ?_)
  refine nl (h := ?_)
  refine q_seq (h := ?_)
  refine cd (by exact rfl) (fun h0 => ?_) (fun h0 => ?_)
  · skip
    exact absurd (of_decide_eq_true h0) (by omega)
  · skip
    refine sq (h := ?_)
    refine rg (h := ?_)
    refine WL.y (hy := eql) (h := ?_)
    refine WL.y (hy := asg) (h := ?_)
    refine nl (h := ?_)
    refine q_seq (h := ?_)
    refine cd (by exact rfl) (fun h1 => ?_) (fun h1 => ?_)
    · skip
      refine sq (h := ?_)
      refine rg (h := ?_)
      refine WL.y (hy := (by first | exact fa | exact faE)) (h := ?_)
      refine WL.y (hy := (by first | exact fa | exact faE)) (h := ?_)
      refine WL.y (hy := (by first | exact ld | exact ldE)) (h := ?_)
      refine WL.y (hy := addI (hb := by omega)) (h := ?_)
      refine WL.y (hy := mv) (h := ?_)
      refine nl (h := ?_)
      refine q_seq (h := ?_)
      refine bk (h := ?_)
      refine WC.dupM (b := b) (es := es) (c := cl) (by repeat (first | exact At.here | apply At.there)) ?_
      refine lp (X := MZ) (I := fun z => z.k ≤ B + 1 ∧ MsI f N mn ns t.pair.1 K z.k z.cs z.esC z.cC z.l z.N z.mn z.ns z.es z.c ∧ z.l.Perm (missI f (toC mn ns) t.pair.1 z.k) ∧ ∀ y ∈ z.ns, ∃ j : Nat, t.pair.1 ≤ (j : Int) ∧ j + 1 ≤ z.k ∧ RowF N ns z.N y j) (le := fun z => [(1, .map (some z.cb)), (3, .pointer (some ⟨b0, 0, none⟩)), (5, .pointer (some ⟨b1, 0, none⟩)), (7, .map (some b2)), (42, .int .i64 (t.pair.2 + 1)), (43, .int .i64 z.k)]) (Le := fun z => .obj b2 (.map z.es z.c) :: .blk b1 40 t.cells :: .blk b0 100 (cardC f cf A n c) :: poolE 103 z.N z.mn none :: roM z.cb z.esC z.cC :: roM b es cl :: R) (μ := fun z => B + 1 - z.k) ⟨N, mn, [], #[], 0, ns, b, es, cl, [], 0⟩ ⟨Nat.zero_le _, MsI.start hP hC, .refl _, fun y hy => (by cases hy)⟩ (by repeat (first | exact trivial | refine ⟨rfl, ?_⟩)) (by repeat (first | exact SubL.nil | (apply SubL.cons; (repeat (first | exact At.here | apply At.there))) | exact SubL.refl _ | apply SubL.skip)) (fun z hz => ?_)
      obtain ⟨hzk, hzm, hzl, hzj⟩ := hz
      refine sq (h := ?_)
      refine rg (h := ?_)
      refine WL.y (hy := lss) (h := ?_)
      refine nl (h := ?_)
      refine q_seq (h := ?_)
      refine sq (h := ?_)
      refine cd (by exact rfl) (fun h2 => ?_) (fun h2 => ?_)
      · skip
        have hkB : z.k ≤ B := by simp only [decide_eq_true_eq] at h2; omega
        refine skp (h := ?_)
        refine q_seq (h := ?_)
        refine sq (h := ?_)
        refine bk (h := ?_)
        refine sq (h := ?_)
        refine rg (h := ?_)
        refine WL.y (hy := mv) (h := ?_)
        refine WL.y (hy := asg) (h := ?_)
        refine nl (h := ?_)
        refine q_seq (h := ?_)
        refine sq (h := ?_)
        refine sq (h := ?_)
        refine rg (h := ?_)
        refine WL.y (hy := mv) (h := ?_)
        refine WL.y (hy := (by first | exact fa | exact faE)) (h := ?_)
        refine WL.y (hy := (by first | exact fa | exact faE)) (h := ?_)
        refine WL.y (hy := (by first | exact ld | exact ldE)) (h := ?_)
        refine WL.y (hy := geq) (h := ?_)
        refine nl (h := ?_)
        refine q_seq (h := ?_)
        refine cd (by exact rfl) (fun h3 => ?_) (fun h3 => ?_)
        · skip
          have hak : t.pair.1 ≤ (z.k : Int) := of_decide_eq_true h3
          refine sq (h := ?_)
          refine rg (h := ?_)
          refine WL.y (hy := mv) (h := ?_)
          refine rngM (b := z.cb) (es := z.esC) (c := z.cC) (h := fun r1 => ?_)
          rw [cr_kv hzm.cur]
          refine nl (h := ?_)
          refine q_seq (h := ?_)
          refine bk (h := ?_)
          refine lp (X := MZ2) (I := fun v => MsI f N mn ns t.pair.1 K z.k z.cs z.esC z.cC (z.l ++ toC z.mn v.dn) v.N v.mn v.ns v.es v.c ∧ (∀ y ∈ z.cs, v.mn y.b = z.mn y.b) ∧ (v.dn ++ v.ts).Perm z.cs ∧ v.tk.Perm (v.ts.map ndKV)) (le := fun v => [(1, .map (some z.cb)), (3, .pointer (some ⟨b0, 0, none⟩)), (5, .pointer (some ⟨b1, 0, none⟩)), (7, .map (some b2)), (42, .int .i64 (t.pair.2 + 1)), (43, .int .i64 z.k), (52, .pointer (some ⟨r1, 0, none⟩))]) (Le := fun v => itE r1 z.cb z.esC z.cC v.tk v.o :: .obj b2 (.map v.es v.c) :: .blk b1 40 t.cells :: .blk b0 100 (cardC f cf A n c) :: poolE 103 v.N v.mn none :: roM z.cb z.esC z.cC :: roM b es cl :: R) (μ := fun v => v.ts.length) ⟨z.N, z.mn, z.ns, z.es, z.c, [], z.cs, z.cs.map ndKV, none⟩ ⟨by show MsI _ _ _ _ _ _ _ _ _ _ (z.l ++ []) _ _ _ _ _; rw [List.append_nil]; exact hzm, fun y hy => rfl, .refl _, .refl _⟩ (by repeat (first | exact trivial | refine ⟨rfl, ?_⟩)) (by repeat (first | exact SubL.nil | (apply SubL.cons; (repeat (first | exact At.here | apply At.there))) | exact SubL.refl _ | apply SubL.skip)) (fun v hv0 => ?_)
          obtain ⟨hvm, hvc, hvd, hvt⟩ := hv0
          refine sq (h := ?_)
          refine rg (h := ?_)
          refine nxtM (b := z.cb) (es := z.esC) (c := z.cC) (hs := hzm.cur.s) (h := fun o2 tk2 ho2 => ?_)
          refine WL.y (hy := exN) (h := ?_)
          refine nl (h := ?_)
          refine q_seq (h := ?_)
          refine sq (h := ?_)
          refine cd (by exact rfl) (fun h4 => ?_) (fun h4 => ?_)
          · skip
            obtain ⟨kv, rfl⟩ := Option.isSome_iff_exists.1 h4
            rcases todo_nd hvt ho2 with ⟨e, _⟩ | ⟨x, ts', e, hts, htk⟩
            · cases e
            obtain rfl := Option.some.inj e
            have hxn : x ∈ z.cs := hvd.subset (List.mem_append.2 (.inr (hts.symm.subset List.mem_cons_self)))
            refine skp (h := ?_)
            refine q_seq (h := ?_)
            refine bk (h := ?_)
            refine sq (h := ?_)
            refine rg (h := ?_)
            refine WL.y (hy := entM (b := z.cb) (es := z.esC) (c := z.cC) (hs := hzm.cur.s)) (h := ?_)
            refine WL.y (hy := ex) (h := ?_)
            refine WL.y (hy := asg) (h := ?_)
            refine nl (h := ?_)
            refine q_seq (h := ?_)
            refine sq (h := ?_)
            refine rg (h := ?_)
            refine WL.y (hy := mv) (h := ?_)
            refine WL.y (hy := nck) (h := ?_)
            refine WL.y (hy := ldQA (hy := hvm.cur.sub x hxn)) (h := ?_)
            refine al (h := fun b3 => ?_)
            first | refine stA (h := ?_) | refine stEA (h := ?_)
            refine nl (h := ?_)
            refine q_seq (h := ?_)
            refine WC.pNew ⟨b3, x.s, x.bf, x.sd⟩ (v.mn x.b) .here (by repeat (first | exact At.here | apply At.there)) (fun hne => ?_)
            have hcp := hvm.ok.copy (y := ⟨b3, x.s, x.bf, x.sd⟩) (hvm.cur.sub x hxn) hne rfl rfl rfl
            refine rg (h := ?_)
            refine WL.y (hy := mv) (h := ?_)
            refine clT (hc := T_put (⟨b3, x.s, x.bf, x.sd⟩ :: v.N) v.ns (upN v.mn b3 (v.mn x.b)) ⟨b3, x.s, x.bf, x.sd⟩ b2 v.es v.c hvm.cr.m hvm.cr.s hcp.nd (fun y hy => (hcp.ok y hy).len hf) (fun y hy => List.mem_cons_of_mem _ (hvm.cr.sub y hy)) List.mem_cons_self) (h := fun q hq => ?_)
            have hcy := hvm.copy hak hxn hne hq
            refine nl (h := ?_)
            refine q_blk_norm (h := ?_)
            refine rn (x := v) ⟨⟨b3, x.s, x.bf, x.sd⟩ :: v.N, putM v.ns (upN v.mn b3 (v.mn x.b)) ⟨b3, x.s, x.bf, x.sd⟩, putNs v.ns ⟨b3, x.s, x.bf, x.sd⟩, q.1, q.2, v.dn ++ [x], ts', tk2, some (ndKV x)⟩ ⟨by rw [toC_snoc, ← List.append_assoc, ← ndE_eq (hvc x hxn)]; exact hcy.1, fun y hy => (hcy.2 y hy).trans (hvc y hy), by rw [List.append_assoc]; exact ((List.Perm.append_left v.dn hts.symm)).trans hvd, htk⟩ (by have := hts.length_eq; rw [List.length_cons] at this; dsimp only; omega) (by repeat (first | exact trivial | refine ⟨rfl, ?_⟩)) (by repeat (first | exact SubL.nil | (apply SubL.cons; (repeat (first | exact At.here | apply At.there))) | exact SubL.refl _ | apply SubL.skip))
          · skip
            have ho3 : o2 = none := by simpa using h4
            have hts : v.ts = [] := by
              rcases todo_nd hvt ho2 with ⟨_, h9, _⟩ | ⟨x, ts', e, _⟩
              · exact h9
              · rw [ho3] at e; cases e
            have hdn : v.dn.Perm z.cs := by rw [hts, List.append_nil] at hvd; exact hvd
            have hyl : (z.l ++ toC z.mn v.dn).Perm (missI f (toC mn ns) t.pair.1 (z.k + 1)) := by
              rw [missI, if_pos hak]
              exact hzl.append ((hdn.map (ndE z.mn)).trans hzm.csP)
            refine et (h := ?_)
            refine q_then_exit (h := ?_)
            refine q_then_exit (h := ?_)
            refine q_blk_hit (h := ?_)
            refine q_seq (h := ?_)
            refine rg (h := ?_)
            refine WL.y (hy := (by first | exact ldA | exact ldEA)) (h := ?_)
            refine WL.y (hy := mv) (h := ?_)
            first
              | refine clT (hc := T_reader_play f hf cf A n c v.N z.cs v.mn (-1) (K + (z.k : Int)) (by omega) hvm.ok z.cb z.esC z.cC hvm.cur) (h := fun q hq => ?_)
              | refine clT (hc := T_reader_play f hf cf A n c z.N z.cs z.mn (-1) (K + (z.k : Int)) (by omega) hzm.ok z.cb z.esC z.cC hzm.cur) (h := fun q hq => ?_)
            obtain ⟨dn2, hd2, hq⟩ := hq
            refine WL.y (hy := asg) (h := ?_)
            refine WL.toRoM (b := q.b) (es := q.es) (c := q.c) (by repeat (first | exact At.here | apply At.there)) ?_
            refine nl (h := ?_)
            refine q_blk_norm (h := ?_)
            refine q_seq (h := ?_)
            refine rg (h := ?_)
            refine WL.y (hy := addI) (h := ?_)
            refine WL.y (hy := mv) (h := ?_)
            refine nl (h := ?_)
            first
              | (refine rn (x := z) ⟨q.N, q.mn, v.ns, v.es, v.c, q.ns, q.b, q.es, q.c, z.l ++ toC z.mn v.dn, z.k + 1⟩ ⟨by dsimp only; omega, hvm.play hd2 hq, hyl, fun y hy => by
                  obtain ⟨j, h7, h8, h9⟩ := hvm.outR y hy
                  exact ⟨j, h7, by dsimp only; omega, h9.mono hq.sub⟩⟩ (by dsimp only; omega) (by repeat (first | exact trivial | refine ⟨rfl, ?_⟩)) (by repeat (first | exact SubL.nil | (apply SubL.cons; (repeat (first | exact At.here | apply At.there))) | exact SubL.refl _ | apply SubL.skip)))
              | (refine rn (x := z) ⟨q.N, q.mn, z.ns, z.es, z.c, q.ns, q.b, q.es, q.c, z.l, z.k + 1⟩ ⟨by dsimp only; omega, hzm.play hd2 hq, hnl, fun y hy => by
                  obtain ⟨j, h7, h8, h9⟩ := hzj y hy
                  exact ⟨j, h7, by dsimp only; omega, h9.mono hq.sub⟩⟩ (by dsimp only; omega) (by repeat (first | exact trivial | refine ⟨rfl, ?_⟩)) (by repeat (first | exact SubL.nil | (apply SubL.cons; (repeat (first | exact At.here | apply At.there))) | exact SubL.refl _ | apply SubL.skip)))
        · skip
          have hak : ¬ t.pair.1 ≤ (z.k : Int) := of_decide_eq_false h3
          have hnl : (z.l).Perm (missI f (toC mn ns) t.pair.1 (z.k + 1)) := by
            rw [missI, if_neg hak, List.append_nil]; exact hzl
          refine skp (h := ?_)
          refine q_seq (h := ?_)
          refine rg (h := ?_)
          refine WL.y (hy := (by first | exact ldA | exact ldEA)) (h := ?_)
          refine WL.y (hy := mv) (h := ?_)
          first
            | refine clT (hc := T_reader_play f hf cf A n c v.N z.cs v.mn (-1) (K + (z.k : Int)) (by omega) hvm.ok z.cb z.esC z.cC hvm.cur) (h := fun q hq => ?_)
            | refine clT (hc := T_reader_play f hf cf A n c z.N z.cs z.mn (-1) (K + (z.k : Int)) (by omega) hzm.ok z.cb z.esC z.cC hzm.cur) (h := fun q hq => ?_)
          obtain ⟨dn2, hd2, hq⟩ := hq
          refine WL.y (hy := asg) (h := ?_)
          refine WL.toRoM (b := q.b) (es := q.es) (c := q.c) (by repeat (first | exact At.here | apply At.there)) ?_
          refine nl (h := ?_)
          refine q_blk_norm (h := ?_)
          refine q_seq (h := ?_)
          refine rg (h := ?_)
          refine WL.y (hy := addI) (h := ?_)
          refine WL.y (hy := mv) (h := ?_)
          refine nl (h := ?_)
          first
            | (refine rn (x := z) ⟨q.N, q.mn, v.ns, v.es, v.c, q.ns, q.b, q.es, q.c, z.l ++ toC z.mn v.dn, z.k + 1⟩ ⟨by dsimp only; omega, hvm.play hd2 hq, hyl, fun y hy => by
                obtain ⟨j, h7, h8, h9⟩ := hvm.outR y hy
                exact ⟨j, h7, by dsimp only; omega, h9.mono hq.sub⟩⟩ (by dsimp only; omega) (by repeat (first | exact trivial | refine ⟨rfl, ?_⟩)) (by repeat (first | exact SubL.nil | (apply SubL.cons; (repeat (first | exact At.here | apply At.there))) | exact SubL.refl _ | apply SubL.skip)))
            | (refine rn (x := z) ⟨q.N, q.mn, z.ns, z.es, z.c, q.ns, q.b, q.es, q.c, z.l, z.k + 1⟩ ⟨by dsimp only; omega, hzm.play hd2 hq, hnl, fun y hy => by
                obtain ⟨j, h7, h8, h9⟩ := hzj y hy
                exact ⟨j, h7, by dsimp only; omega, h9.mono hq.sub⟩⟩ (by dsimp only; omega) (by repeat (first | exact trivial | refine ⟨rfl, ?_⟩)) (by repeat (first | exact SubL.nil | (apply SubL.cons; (repeat (first | exact At.here | apply At.there))) | exact SubL.refl _ | apply SubL.skip)))
      · skip
        have hkB : z.k = B + 1 := by simp only [decide_eq_false_iff_not] at h2; omega
        refine et (h := ?_)
        refine q_then_exit (h := ?_)
        refine q_then_exit (h := ?_)
        refine q_blk_hit (h := ?_)
        refine q_blk_norm (h := ?_)
        refine q_seq (h := ?_)
        refine sq (h := ?_)
        refine rg (h := ?_)
        refine WL.y (hy := mv) (h := ?_)
        refine WL.y (hy := asg) (h := ?_)
        refine nl (h := ?_)
        refine q_seq (h := ?_)
        refine rtn (h := ?_)
        refine q_ret (hR := ?_)
        rw [hkB] at hzm hzl
        exact fun w hS => ⟨⟨z.N, z.mn, z.ns, b2, z.es, z.c⟩, rd_missed ht hB hzl hzm (fun y hy => by obtain ⟨j, h7, h8, h9⟩ := hzj y hy; exact ⟨j, h7, by omega, h9⟩), rfl, hS.sub (by repeat (first | exact SubL.nil | (apply SubL.cons; (repeat (first | exact At.here | apply At.there))) | exact SubL.refl _ | apply SubL.skip))⟩
    · skip
      exact absurd ht (of_decide_eq_false h1)
end Go.Proofs.Ytncoimjgjpcipaa

namespace Go.Proofs.Ytncoimjgjpcipaa
open Go Go.RowKit

def sdV (x : Nt) (least : Int) : Bool := wi x.side least 1 && decide (x.pair = (0, 0))
def prV (x : Nt) (most : Int) : Bool := decide (x.side = 0) && wi x.pair.1 0 most && wi x.pair.2 0 most
def mkV (x : Nt) : Bool := bif decide (x.kind = 1) then sdV x (-1) else bif decide (x.kind = 2) then prV x 30 && decide (x.pair.1 ≤ x.pair.2) else
  bif decide (x.kind = 3) || (decide (x.kind = 4) || decide (x.kind = 5)) then prV x 40 else bif decide (x.kind = 6) || decide (x.kind = 7) then sdV x 0 else false
theorem T_isMark1 (x : Nt) (least : Int) (b : Nat) : Tr Try.prog 67 [.int .i64 least, .pointer (some ⟨b, 0, none⟩)] [.blk b 40 x.cells] (fun _ : Unit => True) (fun _ => .bool (sdV x least)) (fun _ => [.blk b 40 x.cells]) := by
  refine ⟨fun w0 w R hst => ?_⟩
  have zP : decide ([x.pair.1, x.pair.2] = [(0 : Int), 0]) = decide (x.pair = (0, 0)) := by rw [pair_eq2]; exact dec_pr x.pair (0, 0)
  refine en Try.func67 Try.ntmps67 hst (h := fun F => ?_)
  refine sq (h := ?_)
  refine rg (h := ?_)
  refine WL.y (hy := asg) (h := ?_)
  refine nl (h := ?_)
  refine q_seq (h := ?_)
  refine sq (h := ?_)
  refine rg (h := ?_)
  refine WL.y (hy := (by first | exact fa | exact faE)) (h := ?_)
  refine WL.y (hy := (by first | exact ld | exact ldE)) (h := ?_)
  refine WL.y (hy := mv) (h := ?_)
  refine cl0 (hc := fun w hS => C_card_within ..) (h := ?_)
  refine WL.y (hy := mv) (h := ?_)
  apply brAnd 5 8 13 (by exact rfl)
  · intro hb0
    refine un (h := ?_)
    refine WL.y (hy := (by first | exact fa | exact faE)) (h := ?_)
    refine un (h := ?_)
    refine WL.y (hy := (by first | exact ldA | exact ldEA)) (h := ?_)
    refine un (h := ?_)
    refine WL.y (hy := bd) (h := ?_)
    refine un (h := ?_)
    refine WL.y (hy := eqlT) (h := ?_)
    refine WL.y (hy := (by first | exact pkT | exact pkF)) (h := ?_)
    exact mg (by repeat (first | exact trivial | refine ⟨rfl, ?_⟩ | refine ⟨by rw [hb0]; rfl, ?_⟩)) (by repeat (first | exact SubL.nil | (apply SubL.cons; (repeat (first | exact At.here | apply At.there))) | exact SubL.refl _ | apply SubL.skip))
  · intro hb0
    repeat (first | refine un (h := ?_) | refine sk (h := ?_) | refine WL.y (hy := pkF) (h := ?_) | refine WL.y (hy := pkT) (h := ?_))
    exact mg (by repeat (first | exact trivial | refine ⟨rfl, ?_⟩ | refine ⟨by rw [hb0]; rfl, ?_⟩)) (by repeat (first | exact SubL.nil | (apply SubL.cons; (repeat (first | exact At.here | apply At.there))) | exact SubL.refl _ | apply SubL.skip))
  refine WL.y (hy := asg) (h := ?_)
  refine nl (h := ?_)
  refine q_seq (h := ?_)
  refine rtn (h := ?_)
  refine q_ret (hR := ?_)
  exact fun w hS => ⟨(), trivial, by rw [sdV, ← zP]; rfl, hS⟩
theorem T_isMark2 (x : Nt) (most : Int) (b : Nat) : Tr Try.prog 68 [.int .i64 most, .pointer (some ⟨b, 0, none⟩)] [.blk b 40 x.cells] (fun _ : Unit => True) (fun _ => .bool (prV x most)) (fun _ => [.blk b 40 x.cells]) := by
  refine ⟨fun w0 w R hst => ?_⟩
  refine en Try.func68 Try.ntmps68 hst (h := fun F => ?_)
  refine sq (h := ?_)
  refine rg (h := ?_)
  refine WL.y (hy := asg) (h := ?_)
  refine nl (h := ?_)
  refine q_seq (h := ?_)
  refine sq (h := ?_)
  refine rg (h := ?_)
  refine WL.y (hy := (by first | exact fa | exact faE)) (h := ?_)
  refine WL.y (hy := (by first | exact ld | exact ldE)) (h := ?_)
  refine WL.y (hy := eql) (h := ?_)
  refine WL.y (hy := mv) (h := ?_)
  apply brAnd 6 7 13 (by exact rfl)
  · intro hb0
    refine un (h := ?_)
    refine WL.y (hy := (by first | exact fa | exact faE)) (h := ?_)
    refine un (h := ?_)
    refine WL.y (hy := (by first | exact fa | exact faE)) (h := ?_)
    refine un (h := ?_)
    refine WL.y (hy := (by first | exact ld | exact ldE)) (h := ?_)
    refine un (h := ?_)
    refine WL.y (hy := mv) (h := ?_)
    refine un (h := ?_)
    refine cl0 (hc := fun w hS => C_card_within ..) (h := ?_)
    refine WL.y (hy := (by first | exact pkT | exact pkF)) (h := ?_)
    exact mg (by repeat (first | exact trivial | refine ⟨rfl, ?_⟩ | refine ⟨by rw [hb0]; rfl, ?_⟩)) (by repeat (first | exact SubL.nil | (apply SubL.cons; (repeat (first | exact At.here | apply At.there))) | exact SubL.refl _ | apply SubL.skip))
  · intro hb0
    repeat (first | refine un (h := ?_) | refine sk (h := ?_) | refine WL.y (hy := pkF) (h := ?_) | refine WL.y (hy := pkT) (h := ?_))
    exact mg (by repeat (first | exact trivial | refine ⟨rfl, ?_⟩ | refine ⟨by rw [hb0]; rfl, ?_⟩)) (by repeat (first | exact SubL.nil | (apply SubL.cons; (repeat (first | exact At.here | apply At.there))) | exact SubL.refl _ | apply SubL.skip))
  refine WL.y (hy := mv) (h := ?_)
  apply brAnd 6 14 20 (by exact rfl)
  · intro hb1
    refine un (h := ?_)
    refine WL.y (hy := (by first | exact fa | exact faE)) (h := ?_)
    refine un (h := ?_)
    refine WL.y (hy := (by first | exact fa | exact faE)) (h := ?_)
    refine un (h := ?_)
    refine WL.y (hy := (by first | exact ld | exact ldE)) (h := ?_)
    refine un (h := ?_)
    refine WL.y (hy := mv) (h := ?_)
    refine un (h := ?_)
    refine cl0 (hc := fun w hS => C_card_within ..) (h := ?_)
    refine WL.y (hy := (by first | exact pkT | exact pkF)) (h := ?_)
    exact mg (by repeat (first | exact trivial | refine ⟨rfl, ?_⟩ | refine ⟨by rw [hb1]; rfl, ?_⟩)) (by repeat (first | exact SubL.nil | (apply SubL.cons; (repeat (first | exact At.here | apply At.there))) | exact SubL.refl _ | apply SubL.skip))
  · intro hb1
    repeat (first | refine un (h := ?_) | refine sk (h := ?_) | refine WL.y (hy := pkF) (h := ?_) | refine WL.y (hy := pkT) (h := ?_))
    exact mg (by repeat (first | exact trivial | refine ⟨rfl, ?_⟩ | refine ⟨by rw [hb1]; rfl, ?_⟩)) (by repeat (first | exact SubL.nil | (apply SubL.cons; (repeat (first | exact At.here | apply At.there))) | exact SubL.refl _ | apply SubL.skip))
  refine WL.y (hy := asg) (h := ?_)
  refine nl (h := ?_)
  refine q_seq (h := ?_)
  refine rtn (h := ?_)
  refine q_ret (hR := ?_)
  exact fun w hS => ⟨(), trivial, rfl, hS⟩
theorem C_card_isMark (x : Nt) (w : World) : C0 Try.prog 45 [x.val] w (.bool (mkV x)) := by
  refine ⟨en Try.func45 Try.ntmps45 (St.init w) (h := fun F => ?_)⟩
  refine sq (h := ?_)
  refine rg (h := ?_)
  refine bxA (h := fun b0 => ?_)
  refine WL.y (hy := asg) (h := ?_)
  refine nl (h := ?_)
  refine q_seq (h := ?_)
  refine sq (h := ?_)
  refine rg (h := ?_)
  refine WL.y (hy := mkf) (h := ?_)
  refine WL.y (hy := asg) (h := ?_)
  refine nl (h := ?_)
  refine q_seq (h := ?_)
  refine sq (h := ?_)
  refine rg (h := ?_)
  refine WL.y (hy := mkf) (h := ?_)
  refine WL.y (hy := asg) (h := ?_)
  refine nl (h := ?_)
  refine q_seq (h := ?_)
  refine sq (h := ?_)
  refine sq (h := ?_)
  refine rg (h := ?_)
  refine WL.y (hy := (by first | exact fa | exact faE)) (h := ?_)
  refine WL.y (hy := (by first | exact ld | exact ldE)) (h := ?_)
  refine nl (h := ?_)
  refine q_seq (h := ?_)
  refine bk (h := ?_)
  refine sq (h := ?_)
  refine rg (h := ?_)
  refine WL.y (hy := eql) (h := ?_)
  refine WL.y (hy := asg) (h := ?_)
  refine nl (h := ?_)
  refine q_seq (h := ?_)
  refine cd (by exact rfl) (fun h0 => ?_) (fun h0 => ?_)
  · skip
    refine sq (h := ?_)
    refine rg (h := ?_)
    refine WL.y (hy := mv) (h := ?_)
    refine clfT inferInstance (fi := []) (cap := [.pointer (some ⟨b0, 0, none⟩)]) (by exact rfl) (by repeat (first | exact Evs.nil | (apply Evs.cons; exact rfl))) (T_isMark1 x (-1) b0) rfl (by repeat (first | exact Spl.nil | (apply Spl.cons; (repeat (first | exact At.here | apply At.there))))) (h := fun _ _ => ?_)
    refine WL.y (hy := asg) (h := ?_)
    refine nl (h := ?_)
    refine q_seq (h := ?_)
    refine rtn (h := ?_)
    refine q_blk_ret (h := ?_)
    refine q_then_ret (h := ?_)
    refine q_ret (hR := ?_)
    refine fun w hS => ⟨?_, hS.sub (by repeat (first | exact SubL.nil | (apply SubL.cons; (repeat (first | exact At.here | apply At.there))) | exact SubL.refl _ | apply SubL.skip))⟩
    clear hS
    simp_all [mkV, resV]
  · skip
    refine sq (h := ?_)
    refine rg (h := ?_)
    refine WL.y (hy := eql) (h := ?_)
    refine WL.y (hy := asg) (h := ?_)
    refine nl (h := ?_)
    refine q_seq (h := ?_)
    refine cd (by exact rfl) (fun h1 => ?_) (fun h1 => ?_)
    · skip
      refine sq (h := ?_)
      refine rg (h := ?_)
      refine WL.y (hy := mv) (h := ?_)
      refine clfT inferInstance (fi := []) (cap := [.pointer (some ⟨b0, 0, none⟩)]) (by exact rfl) (by repeat (first | exact Evs.nil | (apply Evs.cons; exact rfl))) (T_isMark2 x 30 b0) rfl (by repeat (first | exact Spl.nil | (apply Spl.cons; (repeat (first | exact At.here | apply At.there))))) (h := fun _ _ => ?_)
      refine WL.y (hy := mv) (h := ?_)
      apply brAnd 8 17 25 (by exact rfl)
      · intro hb2
        refine un (h := ?_)
        refine WL.y (hy := (by first | exact fa | exact faE)) (h := ?_)
        refine un (h := ?_)
        refine WL.y (hy := (by first | exact fa | exact faE)) (h := ?_)
        refine un (h := ?_)
        refine WL.y (hy := (by first | exact ld | exact ldE)) (h := ?_)
        refine un (h := ?_)
        refine WL.y (hy := (by first | exact fa | exact faE)) (h := ?_)
        refine un (h := ?_)
        refine WL.y (hy := (by first | exact fa | exact faE)) (h := ?_)
        refine un (h := ?_)
        refine WL.y (hy := (by first | exact ld | exact ldE)) (h := ?_)
        refine un (h := ?_)
        refine WL.y (hy := leq) (h := ?_)
        refine WL.y (hy := (by first | exact pkT | exact pkF)) (h := ?_)
        exact mg (by repeat (first | exact trivial | refine ⟨rfl, ?_⟩ | refine ⟨by rw [hb2]; rfl, ?_⟩)) (by repeat (first | exact SubL.nil | (apply SubL.cons; (repeat (first | exact At.here | apply At.there))) | exact SubL.refl _ | apply SubL.skip))
      · intro hb2
        repeat (first | refine un (h := ?_) | refine sk (h := ?_) | refine WL.y (hy := pkF) (h := ?_) | refine WL.y (hy := pkT) (h := ?_))
        exact mg (by repeat (first | exact trivial | refine ⟨rfl, ?_⟩ | refine ⟨by rw [hb2]; rfl, ?_⟩)) (by repeat (first | exact SubL.nil | (apply SubL.cons; (repeat (first | exact At.here | apply At.there))) | exact SubL.refl _ | apply SubL.skip))
      refine WL.y (hy := asg) (h := ?_)
      refine nl (h := ?_)
      refine q_seq (h := ?_)
      refine rtn (h := ?_)
      refine q_blk_ret (h := ?_)
      refine q_then_ret (h := ?_)
      refine q_ret (hR := ?_)
      refine fun w hS => ⟨?_, hS.sub (by repeat (first | exact SubL.nil | (apply SubL.cons; (repeat (first | exact At.here | apply At.there))) | exact SubL.refl _ | apply SubL.skip))⟩
      clear hS
      simp_all [mkV, resV]
    · skip
      refine sq (h := ?_)
      refine sq (h := ?_)
      refine rg (h := ?_)
      refine WL.y (hy := eql) (h := ?_)
      refine WL.y (hy := asg) (h := ?_)
      refine nl (h := ?_)
      refine q_seq (h := ?_)
      refine cd (by exact rfl) (fun h3 => ?_) (fun h3 => ?_)
      · skip
        refine skp (h := ?_)
        refine q_seq (h := ?_)
        refine cd (by exact rfl) (fun h4 => ?_) (fun h4 => ?_)
        · skip
          refine sq (h := ?_)
          refine rg (h := ?_)
          refine WL.y (hy := mv) (h := ?_)
          refine clfT inferInstance (fi := []) (cap := [.pointer (some ⟨b0, 0, none⟩)]) (by exact rfl) (by repeat (first | exact Evs.nil | (apply Evs.cons; exact rfl))) (T_isMark2 x 40 b0) rfl (by repeat (first | exact Spl.nil | (apply Spl.cons; (repeat (first | exact At.here | apply At.there))))) (h := fun _ _ => ?_)
          refine WL.y (hy := asg) (h := ?_)
          refine nl (h := ?_)
          refine q_seq (h := ?_)
          refine rtn (h := ?_)
          refine q_blk_ret (h := ?_)
          refine q_then_ret (h := ?_)
          refine q_ret (hR := ?_)
          refine fun w hS => ⟨?_, hS.sub (by repeat (first | exact SubL.nil | (apply SubL.cons; (repeat (first | exact At.here | apply At.there))) | exact SubL.refl _ | apply SubL.skip))⟩
          clear hS
          simp_all [mkV, resV]
        · skip
          refine sq (h := ?_)
          refine sq (h := ?_)
          refine rg (h := ?_)
          refine WL.y (hy := eql) (h := ?_)
          refine WL.y (hy := asg) (h := ?_)
          refine nl (h := ?_)
          refine q_seq (h := ?_)
          refine cd (by exact rfl) (fun h5 => ?_) (fun h5 => ?_)
          · skip
            refine skp (h := ?_)
            refine q_seq (h := ?_)
            refine cd (by exact rfl) (fun h6 => ?_) (fun h6 => ?_)
            · skip
              refine sq (h := ?_)
              refine rg (h := ?_)
              refine WL.y (hy := mv) (h := ?_)
              refine clfT inferInstance (fi := []) (cap := [.pointer (some ⟨b0, 0, none⟩)]) (by exact rfl) (by repeat (first | exact Evs.nil | (apply Evs.cons; exact rfl))) (T_isMark1 x 0 b0) rfl (by repeat (first | exact Spl.nil | (apply Spl.cons; (repeat (first | exact At.here | apply At.there))))) (h := fun _ _ => ?_)
              refine WL.y (hy := asg) (h := ?_)
              refine nl (h := ?_)
              refine q_seq (h := ?_)
              refine rtn (h := ?_)
              refine q_blk_ret (h := ?_)
              refine q_then_ret (h := ?_)
              refine q_ret (hR := ?_)
              refine fun w hS => ⟨?_, hS.sub (by repeat (first | exact SubL.nil | (apply SubL.cons; (repeat (first | exact At.here | apply At.there))) | exact SubL.refl _ | apply SubL.skip))⟩
              clear hS
              simp_all [mkV, resV]
            · skip
              refine skp (h := ?_)
              refine q_blk_norm (h := ?_)
              refine q_seq (h := ?_)
              refine sq (h := ?_)
              refine rg (h := ?_)
              refine WL.y (hy := asg) (h := ?_)
              refine nl (h := ?_)
              refine q_seq (h := ?_)
              refine rtn (h := ?_)
              refine q_ret (hR := ?_)
              refine fun w hS => ⟨?_, hS.sub (by repeat (first | exact SubL.nil | (apply SubL.cons; (repeat (first | exact At.here | apply At.there))) | exact SubL.refl _ | apply SubL.skip))⟩
              clear hS
              simp_all [mkV, resV]
          · skip
            refine rg (h := ?_)
            refine WL.y (hy := eql) (h := ?_)
            refine WL.y (hy := asg) (h := ?_)
            refine nl (h := ?_)
            refine q_seq (h := ?_)
            refine cd (by exact rfl) (fun h7 => ?_) (fun h7 => ?_)
            · skip
              refine sq (h := ?_)
              refine rg (h := ?_)
              refine WL.y (hy := mv) (h := ?_)
              refine clfT inferInstance (fi := []) (cap := [.pointer (some ⟨b0, 0, none⟩)]) (by exact rfl) (by repeat (first | exact Evs.nil | (apply Evs.cons; exact rfl))) (T_isMark1 x 0 b0) rfl (by repeat (first | exact Spl.nil | (apply Spl.cons; (repeat (first | exact At.here | apply At.there))))) (h := fun _ _ => ?_)
              refine WL.y (hy := asg) (h := ?_)
              refine nl (h := ?_)
              refine q_seq (h := ?_)
              refine rtn (h := ?_)
              refine q_blk_ret (h := ?_)
              refine q_then_ret (h := ?_)
              refine q_ret (hR := ?_)
              refine fun w hS => ⟨?_, hS.sub (by repeat (first | exact SubL.nil | (apply SubL.cons; (repeat (first | exact At.here | apply At.there))) | exact SubL.refl _ | apply SubL.skip))⟩
              clear hS
              simp_all [mkV, resV]
            · skip
              refine skp (h := ?_)
              refine q_blk_norm (h := ?_)
              refine q_seq (h := ?_)
              refine sq (h := ?_)
              refine rg (h := ?_)
              refine WL.y (hy := asg) (h := ?_)
              refine nl (h := ?_)
              refine q_seq (h := ?_)
              refine rtn (h := ?_)
              refine q_ret (hR := ?_)
              refine fun w hS => ⟨?_, hS.sub (by repeat (first | exact SubL.nil | (apply SubL.cons; (repeat (first | exact At.here | apply At.there))) | exact SubL.refl _ | apply SubL.skip))⟩
              clear hS
              simp_all [mkV, resV]
      · skip
        refine sq (h := ?_)
        refine rg (h := ?_)
        refine WL.y (hy := eql) (h := ?_)
        refine WL.y (hy := asg) (h := ?_)
        refine nl (h := ?_)
        refine q_seq (h := ?_)
        refine cd (by exact rfl) (fun h8 => ?_) (fun h8 => ?_)
        · skip
          refine skp (h := ?_)
          refine q_seq (h := ?_)
          refine cd (by exact rfl) (fun h9 => ?_) (fun h9 => ?_)
          · skip
            refine sq (h := ?_)
            refine rg (h := ?_)
            refine WL.y (hy := mv) (h := ?_)
            refine clfT inferInstance (fi := []) (cap := [.pointer (some ⟨b0, 0, none⟩)]) (by exact rfl) (by repeat (first | exact Evs.nil | (apply Evs.cons; exact rfl))) (T_isMark2 x 40 b0) rfl (by repeat (first | exact Spl.nil | (apply Spl.cons; (repeat (first | exact At.here | apply At.there))))) (h := fun _ _ => ?_)
            refine WL.y (hy := asg) (h := ?_)
            refine nl (h := ?_)
            refine q_seq (h := ?_)
            refine rtn (h := ?_)
            refine q_blk_ret (h := ?_)
            refine q_then_ret (h := ?_)
            refine q_ret (hR := ?_)
            refine fun w hS => ⟨?_, hS.sub (by repeat (first | exact SubL.nil | (apply SubL.cons; (repeat (first | exact At.here | apply At.there))) | exact SubL.refl _ | apply SubL.skip))⟩
            clear hS
            simp_all [mkV, resV]
          · skip
            refine sq (h := ?_)
            refine sq (h := ?_)
            refine rg (h := ?_)
            refine WL.y (hy := eql) (h := ?_)
            refine WL.y (hy := asg) (h := ?_)
            refine nl (h := ?_)
            refine q_seq (h := ?_)
            refine cd (by exact rfl) (fun h10 => ?_) (fun h10 => ?_)
            · skip
              refine skp (h := ?_)
              refine q_seq (h := ?_)
              refine cd (by exact rfl) (fun h11 => ?_) (fun h11 => ?_)
              · skip
                refine sq (h := ?_)
                refine rg (h := ?_)
                refine WL.y (hy := mv) (h := ?_)
                refine clfT inferInstance (fi := []) (cap := [.pointer (some ⟨b0, 0, none⟩)]) (by exact rfl) (by repeat (first | exact Evs.nil | (apply Evs.cons; exact rfl))) (T_isMark1 x 0 b0) rfl (by repeat (first | exact Spl.nil | (apply Spl.cons; (repeat (first | exact At.here | apply At.there))))) (h := fun _ _ => ?_)
                refine WL.y (hy := asg) (h := ?_)
                refine nl (h := ?_)
                refine q_seq (h := ?_)
                refine rtn (h := ?_)
                refine q_blk_ret (h := ?_)
                refine q_then_ret (h := ?_)
                refine q_ret (hR := ?_)
                refine fun w hS => ⟨?_, hS.sub (by repeat (first | exact SubL.nil | (apply SubL.cons; (repeat (first | exact At.here | apply At.there))) | exact SubL.refl _ | apply SubL.skip))⟩
                clear hS
                simp_all [mkV, resV]
              · skip
                refine skp (h := ?_)
                refine q_blk_norm (h := ?_)
                refine q_seq (h := ?_)
                refine sq (h := ?_)
                refine rg (h := ?_)
                refine WL.y (hy := asg) (h := ?_)
                refine nl (h := ?_)
                refine q_seq (h := ?_)
                refine rtn (h := ?_)
                refine q_ret (hR := ?_)
                refine fun w hS => ⟨?_, hS.sub (by repeat (first | exact SubL.nil | (apply SubL.cons; (repeat (first | exact At.here | apply At.there))) | exact SubL.refl _ | apply SubL.skip))⟩
                clear hS
                simp_all [mkV, resV]
            · skip
              refine rg (h := ?_)
              refine WL.y (hy := eql) (h := ?_)
              refine WL.y (hy := asg) (h := ?_)
              refine nl (h := ?_)
              refine q_seq (h := ?_)
              refine cd (by exact rfl) (fun h12 => ?_) (fun h12 => ?_)
              · skip
                refine sq (h := ?_)
                refine rg (h := ?_)
                refine WL.y (hy := mv) (h := ?_)
                refine clfT inferInstance (fi := []) (cap := [.pointer (some ⟨b0, 0, none⟩)]) (by exact rfl) (by repeat (first | exact Evs.nil | (apply Evs.cons; exact rfl))) (T_isMark1 x 0 b0) rfl (by repeat (first | exact Spl.nil | (apply Spl.cons; (repeat (first | exact At.here | apply At.there))))) (h := fun _ _ => ?_)
                refine WL.y (hy := asg) (h := ?_)
                refine nl (h := ?_)
                refine q_seq (h := ?_)
                refine rtn (h := ?_)
                refine q_blk_ret (h := ?_)
                refine q_then_ret (h := ?_)
                refine q_ret (hR := ?_)
                refine fun w hS => ⟨?_, hS.sub (by repeat (first | exact SubL.nil | (apply SubL.cons; (repeat (first | exact At.here | apply At.there))) | exact SubL.refl _ | apply SubL.skip))⟩
                clear hS
                simp_all [mkV, resV]
              · skip
                refine skp (h := ?_)
                refine q_blk_norm (h := ?_)
                refine q_seq (h := ?_)
                refine sq (h := ?_)
                refine rg (h := ?_)
                refine WL.y (hy := asg) (h := ?_)
                refine nl (h := ?_)
                refine q_seq (h := ?_)
                refine rtn (h := ?_)
                refine q_ret (hR := ?_)
                refine fun w hS => ⟨?_, hS.sub (by repeat (first | exact SubL.nil | (apply SubL.cons; (repeat (first | exact At.here | apply At.there))) | exact SubL.refl _ | apply SubL.skip))⟩
                clear hS
                simp_all [mkV, resV]
        · skip
          refine rg (h := ?_)
          refine WL.y (hy := eql) (h := ?_)
          refine WL.y (hy := asg) (h := ?_)
          refine nl (h := ?_)
          refine q_seq (h := ?_)
          refine cd (by exact rfl) (fun h13 => ?_) (fun h13 => ?_)
          · skip
            refine sq (h := ?_)
            refine rg (h := ?_)
            refine WL.y (hy := mv) (h := ?_)
            refine clfT inferInstance (fi := []) (cap := [.pointer (some ⟨b0, 0, none⟩)]) (by exact rfl) (by repeat (first | exact Evs.nil | (apply Evs.cons; exact rfl))) (T_isMark2 x 40 b0) rfl (by repeat (first | exact Spl.nil | (apply Spl.cons; (repeat (first | exact At.here | apply At.there))))) (h := fun _ _ => ?_)
            refine WL.y (hy := asg) (h := ?_)
            refine nl (h := ?_)
            refine q_seq (h := ?_)
            refine rtn (h := ?_)
            refine q_blk_ret (h := ?_)
            refine q_then_ret (h := ?_)
            refine q_ret (hR := ?_)
            refine fun w hS => ⟨?_, hS.sub (by repeat (first | exact SubL.nil | (apply SubL.cons; (repeat (first | exact At.here | apply At.there))) | exact SubL.refl _ | apply SubL.skip))⟩
            clear hS
            simp_all [mkV, resV]
          · skip
            refine sq (h := ?_)
            refine sq (h := ?_)
            refine rg (h := ?_)
            refine WL.y (hy := eql) (h := ?_)
            refine WL.y (hy := asg) (h := ?_)
            refine nl (h := ?_)
            refine q_seq (h := ?_)
            refine cd (by exact rfl) (fun h14 => ?_) (fun h14 => ?_)
            · skip
              refine skp (h := ?_)
              refine q_seq (h := ?_)
              refine cd (by exact rfl) (fun h15 => ?_) (fun h15 => ?_)
              · skip
                refine sq (h := ?_)
                refine rg (h := ?_)
                refine WL.y (hy := mv) (h := ?_)
                refine clfT inferInstance (fi := []) (cap := [.pointer (some ⟨b0, 0, none⟩)]) (by exact rfl) (by repeat (first | exact Evs.nil | (apply Evs.cons; exact rfl))) (T_isMark1 x 0 b0) rfl (by repeat (first | exact Spl.nil | (apply Spl.cons; (repeat (first | exact At.here | apply At.there))))) (h := fun _ _ => ?_)
                refine WL.y (hy := asg) (h := ?_)
                refine nl (h := ?_)
                refine q_seq (h := ?_)
                refine rtn (h := ?_)
                refine q_blk_ret (h := ?_)
                refine q_then_ret (h := ?_)
                refine q_ret (hR := ?_)
                refine fun w hS => ⟨?_, hS.sub (by repeat (first | exact SubL.nil | (apply SubL.cons; (repeat (first | exact At.here | apply At.there))) | exact SubL.refl _ | apply SubL.skip))⟩
                clear hS
                simp_all [mkV, resV]
              · skip
                refine skp (h := ?_)
                refine q_blk_norm (h := ?_)
                refine q_seq (h := ?_)
                refine sq (h := ?_)
                refine rg (h := ?_)
                refine WL.y (hy := asg) (h := ?_)
                refine nl (h := ?_)
                refine q_seq (h := ?_)
                refine rtn (h := ?_)
                refine q_ret (hR := ?_)
                refine fun w hS => ⟨?_, hS.sub (by repeat (first | exact SubL.nil | (apply SubL.cons; (repeat (first | exact At.here | apply At.there))) | exact SubL.refl _ | apply SubL.skip))⟩
                clear hS
                simp_all [mkV, resV]
            · skip
              refine rg (h := ?_)
              refine WL.y (hy := eql) (h := ?_)
              refine WL.y (hy := asg) (h := ?_)
              refine nl (h := ?_)
              refine q_seq (h := ?_)
              refine cd (by exact rfl) (fun h16 => ?_) (fun h16 => ?_)
              · skip
                refine sq (h := ?_)
                refine rg (h := ?_)
                refine WL.y (hy := mv) (h := ?_)
                refine clfT inferInstance (fi := []) (cap := [.pointer (some ⟨b0, 0, none⟩)]) (by exact rfl) (by repeat (first | exact Evs.nil | (apply Evs.cons; exact rfl))) (T_isMark1 x 0 b0) rfl (by repeat (first | exact Spl.nil | (apply Spl.cons; (repeat (first | exact At.here | apply At.there))))) (h := fun _ _ => ?_)
                refine WL.y (hy := asg) (h := ?_)
                refine nl (h := ?_)
                refine q_seq (h := ?_)
                refine rtn (h := ?_)
                refine q_blk_ret (h := ?_)
                refine q_then_ret (h := ?_)
                refine q_ret (hR := ?_)
                refine fun w hS => ⟨?_, hS.sub (by repeat (first | exact SubL.nil | (apply SubL.cons; (repeat (first | exact At.here | apply At.there))) | exact SubL.refl _ | apply SubL.skip))⟩
                clear hS
                simp_all [mkV, resV]
              · skip
                refine skp (h := ?_)
                refine q_blk_norm (h := ?_)
                refine q_seq (h := ?_)
                refine sq (h := ?_)
                refine rg (h := ?_)
                refine WL.y (hy := asg) (h := ?_)
                refine nl (h := ?_)
                refine q_seq (h := ?_)
                refine rtn (h := ?_)
                refine q_ret (hR := ?_)
                refine fun w hS => ⟨?_, hS.sub (by repeat (first | exact SubL.nil | (apply SubL.cons; (repeat (first | exact At.here | apply At.there))) | exact SubL.refl _ | apply SubL.skip))⟩
                clear hS
                simp_all [mkV, resV]
def encN (xs : List Nt) : List (List Value) := xs.map Nt.cells
theorem encN_len (xs : List Nt) : (encN xs).length = xs.length := List.length_map _
theorem encN_at {xs : List Nt} {k : Nat} {x : Nt} (h : xs[k]? = some x) : (encN xs)[k]? = some x.cells := by unfold encN; rw [List.getElem?_map, h]; rfl
def headB (f : Fmt) (first : Int) (n : Nat) : Bool := !decide (chkF f = 0) || !wi first (-1) 1 || decide ((30 : Int) < n)
def chkC (f : Fmt) (first : Int) (xs : List Nt) : Int := bif headB f first xs.length then 30 else bif !xs.all mkV then 30 else bif decide (600 < mostS xs) then 30 else 0
theorem mostS_succ {xs : List Nt} {k : Nat} {x : Nt} (h : xs[k]? = some x) : mostS (xs.take (k + 1)) = mostS (xs.take k) + mostN x := by
  unfold mostS
  rw [List.take_add_one, h, List.map_append, List.sum_append]
  show _ + (mostN x + 0) = _
  omega
theorem mk_kind {x : Nt} (h : mkV x = true) : (1 ≤ x.kind ∧ x.kind ≤ 7) ∧ (x.kind = 1 → -1 ≤ x.side ∧ x.side ≤ 1 ∧ x.pair = (0, 0)) ∧ (x.kind = 2 → x.side = 0 ∧ 0 ≤ x.pair.1 ∧ x.pair.1 ≤ x.pair.2 ∧ x.pair.2 ≤ 30) ∧ (3 ≤ x.kind → x.kind ≤ 5 → x.side = 0 ∧ (0 ≤ x.pair.1 ∧ x.pair.1 ≤ 40) ∧ 0 ≤ x.pair.2 ∧ x.pair.2 ≤ 40) ∧ (6 ≤ x.kind → 0 ≤ x.side ∧ x.side ≤ 1 ∧ x.pair = (0, 0)) := by
  unfold mkV at h
  by_cases h1 : x.kind = 1
  · rw [decide_eq_true h1, cond_true, sdV, Bool.and_eq_true, wi_iff, decide_eq_true_eq] at h
    exact ⟨by omega, fun _ => ⟨h.1.1, h.1.2, h.2⟩, by omega, by omega, by omega⟩
  rw [decide_eq_false h1, cond_false] at h
  by_cases h2 : x.kind = 2
  · rw [decide_eq_true h2, cond_true, prV, Bool.and_eq_true, Bool.and_eq_true, Bool.and_eq_true, wi_iff, wi_iff, decide_eq_true_eq, decide_eq_true_eq] at h
    exact ⟨by omega, by omega, fun _ => by omega, by omega, by omega⟩
  rw [decide_eq_false h2, cond_false] at h
  by_cases h3 : (decide (x.kind = 3) || (decide (x.kind = 4) || decide (x.kind = 5))) = true
  · rw [h3, cond_true, prV, Bool.and_eq_true, Bool.and_eq_true, wi_iff, wi_iff, decide_eq_true_eq] at h
    simp only [Bool.or_eq_true, decide_eq_true_eq] at h3
    exact ⟨by omega, by omega, by omega, fun _ _ => by omega, by omega⟩
  rw [Bool.not_eq_true] at h3
  rw [h3, cond_false] at h
  by_cases h4 : (decide (x.kind = 6) || decide (x.kind = 7)) = true
  · rw [h4, cond_true, sdV, Bool.and_eq_true, wi_iff, decide_eq_true_eq] at h
    simp only [Bool.or_eq_true, decide_eq_true_eq] at h4
    exact ⟨by omega, by omega, by omega, by omega, fun _ => ⟨h.1.1, h.1.2, h.2⟩⟩
  · rw [Bool.not_eq_true] at h4
    rw [h4, cond_false] at h
    cases h
theorem most_bd {x : Nt} (h : mkV x = true) : 0 ≤ mostN x ∧ mostN x ≤ 30 := by
  have hk := mk_kind h
  unfold mostN
  by_cases h1 : x.kind = 1
  · rw [if_pos h1]; omega
  · rw [if_neg h1]
    by_cases h2 : x.kind = 2
    · rw [if_pos h2]; have := hk.2.2.1 h2; omega
    · rw [if_neg h2]; omega
structure CKZ where
  (k : Nat)
theorem all_take {xs : List Nt} {k : Nat} {x : Nt} (h : xs[k]? = some x) : (xs.take (k + 1)).all mkV = ((xs.take k).all mkV && mkV x) := by
  rw [List.take_add_one, h, List.all_append]
  simp
theorem all_bad {xs : List Nt} {k : Nat} (h : (xs.take k).all mkV = false) : xs.all mkV = false := by
  cases hh : xs.all mkV
  · rfl
  · rw [List.all_eq_true] at hh
    have : (xs.take k).all mkV = true := List.all_eq_true.2 fun x hx => hh x (List.mem_of_mem_take hx)
    rw [this] at h; cases h
theorem C_card_Check (f : Fmt) (first : Int) (xs : List Nt) (A : Option Addr) (n c : Nat) (w : World) (h : Rd w A 4 n (encN xs)) (hn : n ≤ 9223372036854775807) : C0 Try.prog 44 [.agg (cardC f first A n c).toArray] w (.int .i64 (chkC f first xs)) := by
  have hlen : xs.length = n := by have := h.len; rwa [encN_len] at this
  refine ⟨en Try.func44 Try.ntmps44 ((St.init w).share (e := .ro A 4 n (encN xs)) h rfl rfl rfl) (h := fun F => ?_)⟩
  refine sq (h := ?_)
  refine rg (h := ?_)
  refine bxA (h := fun b0 => ?_)
  refine WL.y (hy := asg) (h := ?_)
  refine nl (h := ?_)
  refine q_seq (h := ?_)
  refine sq (h := ?_)
  refine sq (h := ?_)
  refine rg (h := ?_)
  refine WL.y (hy := (by first | exact fa | exact faE)) (h := ?_)
  refine WL.y (hy := (by first | exact ldA | exact ldEA)) (h := ?_)
  refine cl0 (hc := fun w hS => C_score_Check _ w) (h := ?_)
  refine WL.y (hy := neq) (h := ?_)
  refine WL.y (hy := mv) (h := ?_)
  apply brOr 5 10 15 (by exact rfl)
  · intro hb0
    refine un (h := ?_)
    refine WL.y (hy := (by first | exact fa | exact faE)) (h := ?_)
    refine un (h := ?_)
    refine WL.y (hy := (by first | exact ld | exact ldE)) (h := ?_)
    refine un (h := ?_)
    refine cl0 (hc := fun w hS => C_card_within ..) (h := ?_)
    refine un (h := ?_)
    refine WL.y (hy := notB) (h := ?_)
    refine WL.y (hy := (by first | exact pkT | exact pkF)) (h := ?_)
    exact mg (by repeat (first | exact trivial | refine ⟨rfl, ?_⟩ | refine ⟨by rw [hb0]; rfl, ?_⟩)) (by repeat (first | exact SubL.nil | (apply SubL.cons; (repeat (first | exact At.here | apply At.there))) | exact SubL.refl _ | apply SubL.skip))
  · intro hb0
    repeat (first | refine un (h := ?_) | refine sk (h := ?_) | refine WL.y (hy := pkF) (h := ?_) | refine WL.y (hy := pkT) (h := ?_))
    exact mg (by repeat (first | exact trivial | refine ⟨rfl, ?_⟩ | refine ⟨by rw [hb0]; rfl, ?_⟩)) (by repeat (first | exact SubL.nil | (apply SubL.cons; (repeat (first | exact At.here | apply At.there))) | exact SubL.refl _ | apply SubL.skip))
  refine WL.y (hy := mv) (h := ?_)
  apply brOr 5 16 21 (by exact rfl)
  · intro hb1
    refine un (h := ?_)
    refine WL.y (hy := (by first | exact fa | exact faE)) (h := ?_)
    refine un (h := ?_)
    refine WL.y (hy := (by first | exact ld | exact ldE)) (h := ?_)
    refine un (h := ?_)
    refine WL.y (hy := lenS) (h := ?_)
    refine un (h := ?_)
    refine WL.y (hy := gtr) (h := ?_)
    refine WL.y (hy := (by first | exact pkT | exact pkF)) (h := ?_)
    exact mg (by repeat (first | exact trivial | refine ⟨rfl, ?_⟩ | refine ⟨by rw [hb1]; rfl, ?_⟩)) (by repeat (first | exact SubL.nil | (apply SubL.cons; (repeat (first | exact At.here | apply At.there))) | exact SubL.refl _ | apply SubL.skip))
  · intro hb1
    repeat (first | refine un (h := ?_) | refine sk (h := ?_) | refine WL.y (hy := pkF) (h := ?_) | refine WL.y (hy := pkT) (h := ?_))
    exact mg (by repeat (first | exact trivial | refine ⟨rfl, ?_⟩ | refine ⟨by rw [hb1]; rfl, ?_⟩)) (by repeat (first | exact SubL.nil | (apply SubL.cons; (repeat (first | exact At.here | apply At.there))) | exact SubL.refl _ | apply SubL.skip))
  refine nl (h := ?_)
  refine q_seq (h := ?_)
  refine cd (by exact rfl) (fun h2 => ?_) (fun h2 => ?_)
  · skip
    have hE : chkC f first xs = 30 := by
      have h' : headB f first xs.length = true := by rw [hlen]; exact h2
      rw [chkC, h']; rfl
    refine sq (h := ?_)
    refine rg (h := ?_)
    refine WL.y (hy := asg) (h := ?_)
    refine nl (h := ?_)
    refine q_seq (h := ?_)
    refine rtn (h := ?_)
    refine q_then_ret (h := ?_)
    refine q_ret (hR := ?_)
    rw [hE]
    exact fun w hS => ⟨rfl, hS.sub (by repeat (first | exact SubL.nil | (apply SubL.cons; (repeat (first | exact At.here | apply At.there))) | exact SubL.refl _ | apply SubL.skip))⟩
  · skip
    have hH : headB f first xs.length = false := by rw [hlen]; exact h2
    have hn30 : n ≤ 30 := by
      have h' := hH
      unfold headB at h'
      simp only [Bool.or_eq_false_iff, decide_eq_false_iff_not] at h'
      omega
    refine skp (h := ?_)
    refine q_seq (h := ?_)
    refine sq (h := ?_)
    refine rg (h := ?_)
    refine WL.y (hy := asg) (h := ?_)
    refine WL.cut (by repeat (first | exact Cut.nil | apply Cut.hit | apply Cut.miss (by exact rfl))) ?_
    refine nl (h := ?_)
    refine q_seq (h := ?_)
    refine sq (h := ?_)
    refine sq (h := ?_)
    refine rg (h := ?_)
    refine WL.y (hy := (by first | exact fa | exact faE)) (h := ?_)
    refine WL.y (hy := (by first | exact ld | exact ldE)) (h := ?_)
    refine WL.y (hy := lenS) (h := ?_)
    refine WL.y (hy := mv) (h := ?_)
    refine nl (h := ?_)
    refine q_seq (h := ?_)
    refine bk (h := ?_)
    refine lp (X := CKZ) (I := fun z => z.k ≤ n ∧ (xs.take z.k).all mkV = true ∧ 0 ≤ mostS (xs.take z.k) ∧ mostS (xs.take z.k) ≤ 30 * (z.k : Int)) (le := fun z => [(3, .int .i64 (mostS (xs.take z.k))), (23, .slice A n c), (24, .int .i64 n), (25, .int .i64 z.k)]) (Le := fun z => [.ro A 4 n (encN xs)]) (μ := fun z => n - z.k) ⟨0⟩ ⟨Nat.zero_le _, rfl, by exact Int.le_refl _, by exact Int.le_refl _⟩ (by repeat (first | exact trivial | refine ⟨rfl, ?_⟩)) (by repeat (first | exact SubL.nil | (apply SubL.cons; (repeat (first | exact At.here | apply At.there))) | exact SubL.refl _ | apply SubL.skip)) (fun z hz => ?_)
    obtain ⟨hzk, hza, hz0, hzm⟩ := hz
    refine sq (h := ?_)
    refine rg (h := ?_)
    refine WL.y (hy := lss) (h := ?_)
    refine nl (h := ?_)
    refine q_seq (h := ?_)
    refine sq (h := ?_)
    refine cd (by exact rfl) (fun h3 => ?_) (fun h3 => ?_)
    · skip
      have hkn : z.k < n := by simp only [decide_eq_true_eq] at h3; omega
      obtain ⟨x, hx⟩ : ∃ x, xs[z.k]? = some x := ⟨_, List.getElem?_eq_getElem (by omega)⟩
      have hxe := encN_at hx
      have hms := mostS_succ hx
      have hal := all_take hx
      refine skp (h := ?_)
      refine q_seq (h := ?_)
      refine sq (h := ?_)
      refine bk (h := ?_)
      refine sq (h := ?_)
      refine rg (h := ?_)
      refine WL.y (hy := ix (hb := by omega)) (h := ?_)
      refine WL.y (hy := ldEA (hk := hxe)) (h := ?_)
      refine al (h := fun b1 => ?_)
      first | refine stA (h := ?_) | refine stEA (h := ?_)
      refine nl (h := ?_)
      refine q_seq (h := ?_)
      refine sq (h := ?_)
      refine sq (h := ?_)
      refine rg (h := ?_)
      refine WL.y (hy := (by first | exact ldA | exact ldEA)) (h := ?_)
      refine cl0 (hc := fun w hS => C_card_isMark _ w) (h := ?_)
      refine WL.y (hy := notB) (h := ?_)
      refine nl (h := ?_)
      refine q_seq (h := ?_)
      refine cd (by exact rfl) (fun h4 => ?_) (fun h4 => ?_)
      · skip
        have hE : chkC f first xs = 30 := by
          have h1 : (!mkV x) = true := h4
          have h2 : xs.all mkV = false := all_bad (k := z.k + 1) (by rw [hal, show mkV x = false by simpa using h1, Bool.and_false])
          rw [chkC, hH, h2]; rfl
        refine sq (h := ?_)
        refine rg (h := ?_)
        refine WL.y (hy := asg) (h := ?_)
        refine nl (h := ?_)
        refine q_seq (h := ?_)
        refine rtn (h := ?_)
        refine q_then_ret (h := ?_)
        refine q_blk_ret (h := ?_)
        refine q_then_ret (h := ?_)
        refine q_then_ret (h := ?_)
        refine q_blk_ret (h := ?_)
        refine q_then_ret (h := ?_)
        refine q_ret (hR := ?_)
        rw [hE]
        exact fun w hS => ⟨rfl, hS.sub (by repeat (first | exact SubL.nil | (apply SubL.cons; (repeat (first | exact At.here | apply At.there))) | exact SubL.refl _ | apply SubL.skip))⟩
      · skip
        have hmk : mkV x = true := by simpa using h4
        have hmb := most_bd hmk
        have hal2 : (xs.take (z.k + 1)).all mkV = true := by rw [hal, hza, hmk]; rfl
        refine skp (h := ?_)
        refine q_seq (h := ?_)
        refine sq (h := ?_)
        refine rg (h := ?_)
        refine WL.y (hy := (by first | exact fa | exact faE)) (h := ?_)
        refine WL.y (hy := (by first | exact ld | exact ldE)) (h := ?_)
        refine nl (h := ?_)
        refine q_seq (h := ?_)
        refine bk (h := ?_)
        refine sq (h := ?_)
        refine rg (h := ?_)
        refine WL.y (hy := eql) (h := ?_)
        refine WL.y (hy := asg) (h := ?_)
        refine nl (h := ?_)
        refine q_seq (h := ?_)
        refine cd (by exact rfl) (fun h5 => ?_) (fun h5 => ?_)
        · skip
          have hmo : mostN x = 1 := by unfold mostN; rw [if_pos (of_decide_eq_true h5)]
          refine rg (h := ?_)
          refine WL.y (hy := mv) (h := ?_)
          refine WL.y (hy := addI (hb := by omega)) (h := ?_)
          refine WL.y (hy := asg) (h := ?_)
          refine WL.cut (by repeat (first | exact Cut.nil | apply Cut.hit | apply Cut.miss (by exact rfl))) ?_
          refine nl (h := ?_)
          refine q_blk_norm (h := ?_)
          refine q_blk_norm (h := ?_)
          refine q_seq (h := ?_)
          refine rg (h := ?_)
          refine WL.y (hy := addI) (h := ?_)
          refine WL.y (hy := mv) (h := ?_)
          refine nl (h := ?_)
          refine rn (x := z) ⟨z.k + 1⟩ ⟨by dsimp only; omega, hal2, by dsimp only; omega, by dsimp only; omega⟩ (by dsimp only; omega) (by dsimp only; rw [hms, hmo]; (try rw [Int.add_zero]); repeat (first | exact trivial | refine ⟨rfl, ?_⟩)) (by repeat (first | exact SubL.nil | (apply SubL.cons; (repeat (first | exact At.here | apply At.there))) | exact SubL.refl _ | apply SubL.skip))
        · skip
          have hk1 : ¬ x.kind = 1 := of_decide_eq_false h5
          refine sq (h := ?_)
          refine rg (h := ?_)
          refine WL.y (hy := eql) (h := ?_)
          refine WL.y (hy := asg) (h := ?_)
          refine nl (h := ?_)
          refine q_seq (h := ?_)
          refine cd (by exact rfl) (fun h6 => ?_) (fun h6 => ?_)
          · skip
            have hmo : mostN x = x.pair.2 := by unfold mostN; rw [if_neg hk1, if_pos (of_decide_eq_true h6)]
            have hpb : 0 ≤ x.pair.2 ∧ x.pair.2 ≤ 30 := by rw [← hmo]; exact hmb
            refine rg (h := ?_)
            refine WL.y (hy := mv) (h := ?_)
            refine WL.y (hy := (by first | exact fa | exact faE)) (h := ?_)
            refine WL.y (hy := (by first | exact fa | exact faE)) (h := ?_)
            refine WL.y (hy := (by first | exact ld | exact ldE)) (h := ?_)
            refine WL.y (hy := addI (hb := by omega)) (h := ?_)
            refine WL.y (hy := asg) (h := ?_)
            refine WL.cut (by repeat (first | exact Cut.nil | apply Cut.hit | apply Cut.miss (by exact rfl))) ?_
            refine nl (h := ?_)
            refine q_blk_norm (h := ?_)
            refine q_blk_norm (h := ?_)
            refine q_seq (h := ?_)
            refine rg (h := ?_)
            refine WL.y (hy := addI) (h := ?_)
            refine WL.y (hy := mv) (h := ?_)
            refine nl (h := ?_)
            refine rn (x := z) ⟨z.k + 1⟩ ⟨by dsimp only; omega, hal2, by dsimp only; omega, by dsimp only; omega⟩ (by dsimp only; omega) (by dsimp only; rw [hms, hmo]; (try rw [Int.add_zero]); repeat (first | exact trivial | refine ⟨rfl, ?_⟩)) (by repeat (first | exact SubL.nil | (apply SubL.cons; (repeat (first | exact At.here | apply At.there))) | exact SubL.refl _ | apply SubL.skip))
          · skip
            have hmo : mostN x = 0 := by unfold mostN; rw [if_neg hk1, if_neg (of_decide_eq_false h6)]
            refine skp (h := ?_)
            refine q_blk_norm (h := ?_)
            refine q_blk_norm (h := ?_)
            refine q_seq (h := ?_)
            refine rg (h := ?_)
            refine WL.y (hy := addI) (h := ?_)
            refine WL.y (hy := mv) (h := ?_)
            refine nl (h := ?_)
            refine rn (x := z) ⟨z.k + 1⟩ ⟨by dsimp only; omega, hal2, by dsimp only; omega, by dsimp only; omega⟩ (by dsimp only; omega) (by dsimp only; rw [hms, hmo]; (try rw [Int.add_zero]); repeat (first | exact trivial | refine ⟨rfl, ?_⟩)) (by repeat (first | exact SubL.nil | (apply SubL.cons; (repeat (first | exact At.here | apply At.there))) | exact SubL.refl _ | apply SubL.skip))
    · skip
      have hkn : z.k = n := by simp only [decide_eq_false_iff_not] at h3; omega
      have htk : xs.take z.k = xs := by rw [hkn, ← hlen, List.take_length]
      rw [htk] at hza hzm
      refine et (h := ?_)
      refine q_then_exit (h := ?_)
      refine q_then_exit (h := ?_)
      refine q_blk_hit (h := ?_)
      refine q_seq (h := ?_)
      refine sq (h := ?_)
      refine sq (h := ?_)
      refine rg (h := ?_)
      refine WL.y (hy := mv) (h := ?_)
      refine WL.y (hy := gtr) (h := ?_)
      refine nl (h := ?_)
      refine q_seq (h := ?_)
      refine cd (by exact rfl) (fun h7 => ?_) (fun h7 => ?_)
      · skip
        have h8 := h7
        rw [htk] at h8
        have hE : chkC f first xs = 30 := by rw [chkC, hH, hza, show decide (600 < mostS xs) = true from h8]; rfl
        refine sq (h := ?_)
        refine rg (h := ?_)
        refine WL.y (hy := asg) (h := ?_)
        refine nl (h := ?_)
        refine q_seq (h := ?_)
        refine rtn (h := ?_)
        refine q_then_ret (h := ?_)
        refine q_ret (hR := ?_)
        rw [hE]
        exact fun w hS => ⟨rfl, hS.sub (by repeat (first | exact SubL.nil | (apply SubL.cons; (repeat (first | exact At.here | apply At.there))) | exact SubL.refl _ | apply SubL.skip))⟩
      · skip
        have h8 := h7
        rw [htk] at h8
        have hE : chkC f first xs = 0 := by rw [chkC, hH, hza, show decide (600 < mostS xs) = false from h8]; rfl
        refine skp (h := ?_)
        refine q_seq (h := ?_)
        refine sq (h := ?_)
        refine rg (h := ?_)
        refine WL.y (hy := asg) (h := ?_)
        refine nl (h := ?_)
        refine q_seq (h := ?_)
        refine rtn (h := ?_)
        refine q_ret (hR := ?_)
        rw [hE]
        exact fun w hS => ⟨rfl, hS.sub (by repeat (first | exact SubL.nil | (apply SubL.cons; (repeat (first | exact At.here | apply At.there))) | exact SubL.refl _ | apply SubL.skip))⟩
end Go.Proofs.Ytncoimjgjpcipaa

namespace Go.Proofs.Ytncoimjgjpcipaa
open Go Go.RowKit

abbrev noteSp : List Sp := [.int .i64, .int .i64, .int .i64, .int .i64]
theorem note_cells {w : World} {cs : List Value} (h : Mts w noteSp cs) : ∃ x : Nt, cs = x.cells := by
  obtain ⟨a1, cs, rfl, _, h⟩ := Mts.int_inv h
  obtain ⟨a2, cs, rfl, _, h⟩ := h.int_inv
  obtain ⟨a3, cs, rfl, _, h⟩ := h.int_inv
  obtain ⟨a4, cs, rfl, _, h⟩ := h.int_inv
  rw [h.nil_inv]
  exact ⟨⟨a1, a2, (a3, a4)⟩, rfl⟩
theorem note_open {w : World} {cs : List Value} (h : Mts w noteSp cs) : ∃ x : Nt, Value.agg cs.toArray = x.val := by
  obtain ⟨x, rfl⟩ := note_cells h
  exact ⟨x, rfl⟩
abbrev umpireSp : List Sp := [.int .i64, .sl [.int .i64], .sl [.int .i64], .sl [.int .i64], .bool]
theorem int1_map {w : World} {xs : List (List Value)} (h : ∀ x ∈ xs, Mts w [.int .i64] x) : ∃ ys : List Int, xs = encI ys := by
  obtain ⟨ys, rfl⟩ := map_of (f := fun x : Int => [.int .i64 x]) (xs := xs) fun x hxm => by
    obtain ⟨a, cs, rfl, _, h2⟩ := (h x hxm).int_inv
    rw [h2.nil_inv]
    exact ⟨a, rfl⟩
  exact ⟨ys, rfl⟩
theorem umpire_open {w : World} {cs : List Value} (h : Mts w umpireSp cs) : ∃ (x : Int) (la lb lc : List Int) (A B C : Option Addr) (na ca nb cb nc cc : Nat) (k : Bool), Value.agg cs.toArray = .agg #[.int .i64 x, .slice A na ca, .slice B nb cb, .slice C nc cc, .bool k] ∧ Rd w A 1 na (encI la) ∧ Rd w B 1 nb (encI lb) ∧ Rd w C 1 nc (encI lc) ∧ na ≤ ca ∧ na ≤ 9223372036854775807 ∧ nb ≤ 9223372036854775807 ∧ nc ≤ 9223372036854775807 := by
  obtain ⟨x, cs, rfl, _, h⟩ := Mts.int_inv h
  obtain ⟨A, na, ca, xa, cs, rfl, hra, hna, hxa, h⟩ := h.sl_invc
  obtain ⟨B, nb, cb, xb, cs, rfl, hrb, hnb, hxb, h⟩ := h.sl_invc
  obtain ⟨C, nc, cc, xc, cs, rfl, hrc, hnc, hxc, h⟩ := h.sl_invc
  obtain ⟨k, cs, rfl, hk⟩ := h.bool_inv
  rw [hk.nil_inv]
  obtain ⟨la, rfl⟩ := int1_map hxa
  obtain ⟨lb, rfl⟩ := int1_map hxb
  obtain ⟨lc, rfl⟩ := int1_map hxc
  exact ⟨x, la, lb, lc, A, B, C, na, ca, nb, cb, nc, cc, k, rfl, hra, hrb, hrc, by omega, by omega, by omega, by omega⟩
end Go.Proofs.Ytncoimjgjpcipaa

namespace Go.Proofs.Ytncoimjgjpcipaa
open Go Go.RowKit

def begTo (cf : Int) : Nat → List En
  | 0 => []
  | k + 1 => begTo cf k ++ if cf = -1 ∨ cf = (k : Int) then [(⟨(k : Int), [], (0, 0), (0, 0)⟩, (0, 0, 0))] else []
theorem begTo_two (cf : Int) : begTo cf 2 = begC cf := by
  show (([] : List En) ++ _) ++ _ = _
  unfold begC
  rw [List.nil_append]
  rfl
structure BgI (f : Fmt) (cf : Int) (k : Nat) (N : List Nd) (mn : Nat → Pr) (ns : List Nd) (es : Array MapEntry) (c : Nat) : Prop where
  ok : PoolOk f N mn 0
  cr : CrIs N ns es c
  eqC : toC mn ns = begTo cf k
  row : ∀ y ∈ ns, RowN N y [] ∧ y.s = ⟨y.s.first, [], (0, 0), (0, 0)⟩ ∧ (cf = -1 ∨ cf = y.s.first) ∧ 0 ≤ y.s.first ∧ y.s.first < (k : Int)
theorem BgI.skip {f : Fmt} {cf : Int} {k : Nat} {N : List Nd} {mn : Nat → Pr} {ns : List Nd} {es : Array MapEntry} {c : Nat} (h : BgI f cf k N mn ns es c) (hc : ¬ (cf = -1 ∨ cf = (k : Int))) : BgI f cf (k + 1) N mn ns es c :=
  ⟨h.ok, h.cr, by rw [begTo, if_neg hc, List.append_nil]; exact h.eqC, fun y hy => by have := h.row y hy; exact ⟨this.1, this.2.1, this.2.2.1, this.2.2.2.1, by omega⟩⟩
theorem BgI.get {f : Fmt} {cf : Int} {k : Nat} {N : List Nd} {mn : Nat → Pr} {ns : List Nd} {es : Array MapEntry} {c : Nat} (h : BgI f cf k N mn ns es c) : getN ns ⟨(k : Int), [], (0, 0), (0, 0)⟩ = none :=
  List.find?_eq_none.2 fun y hy => by
    rw [decide_eq_true_eq]
    intro e
    have := (h.row y hy).2.2.2.2
    rw [e] at this
    exact absurd this (by show ¬ (k : Int) < (k : Int); omega)
theorem BgI.add {f : Fmt} {cf : Int} {k : Nat} {N : List Nd} {mn : Nat → Pr} {ns : List Nd} {es es2 : Array MapEntry} {c c2 : Nat} (h : BgI f cf k N mn ns es c) (hk : k < 2) (hc : cf = -1 ∨ cf = (k : Int)) {b : Nat} (hne : ∀ z ∈ N, z.b ≠ b) (hm : MapIs es2 (crE (putNs ns ⟨b, ⟨(k : Int), [], (0, 0), (0, 0)⟩, none, 0⟩)) ∧ Stm es2 c2) :
    BgI f cf (k + 1) (⟨b, ⟨(k : Int), [], (0, 0), (0, 0)⟩, none, 0⟩ :: N) (upN mn b (0, 0)) (putNs ns ⟨b, ⟨(k : Int), [], (0, 0), (0, 0)⟩, none, 0⟩) es2 c2 := by
  have hup : ∀ z ∈ N, z ∈ (⟨b, ⟨(k : Int), [], (0, 0), (0, 0)⟩, none, 0⟩ :: N : List Nd) := fun z hz => List.mem_cons_of_mem _ hz
  have hok := h.ok.first (y := ⟨b, ⟨(k : Int), [], (0, 0), (0, 0)⟩, none, 0⟩) (Int.le_refl _) hne (by dsimp only; omega) rfl rfl
  have hg := h.get
  refine ⟨hok, (h.cr.up hup).put List.mem_cons_self hm, ?_, fun y hy => ?_⟩
  · rw [putNs_none hg]
    show toC _ (ns ++ [_]) = _
    unfold toC
    rw [List.map_append, begTo, if_pos hc, ← h.eqC]
    congr 1
    · exact toC_congr fun y hy => upN_other (hne y (h.cr.sub y hy))
    · show [((⟨(k : Int), [], (0, 0), (0, 0)⟩ : Spot), ((upN mn b (0, 0) b).1, (upN mn b (0, 0) b).2, (0 : Int)))] = _
      rw [upN_same]
  · rcases putNs_mem hy with h5 | rfl
    · have := h.row y h5
      exact ⟨this.1.mono hup, this.2.1, this.2.2.1, this.2.2.2.1, by omega⟩
    · exact ⟨.nil rfl, rfl, hc, by dsimp only; omega, by dsimp only; omega⟩
structure BGZ where
  (N : List Nd) (mn : Nat → Pr) (ns : List Nd) (es : Array MapEntry) (c k : Nat)
set_option maxRecDepth 100000 in
theorem T_reader_begin (f : Fmt) (hf : f.Ok) (cf : Int) (A : Option Addr) (n c : Nat) (mn : Nat → Pr) :
    Tr Try.prog 53 [.agg (cardC f cf A n c).toArray] [poolE 103 [] mn none] (fun q : PR => BgI f cf 2 q.N q.mn q.ns q.es q.c) (fun q => .map (some q.b)) (fun q => [poolE 103 q.N q.mn none, .obj q.b (.map q.es q.c)]) := by
  refine ⟨fun w0 w R hst => ?_⟩
  refine en Try.func53 Try.ntmps53 hst (h := fun F => ?_)
  refine sq (h := ?_)
  refine rg (h := ?_)
  refine bxA (h := fun b0 => ?_)
  refine WL.y (hy := asg) (h := ?_)
  refine nl (h := ?_)
  refine q_seq (h := ?_)
  refine sq (h := ?_)
  refine rg (h := ?_)
  refine mkm (h := fun b1 => ?_)
  refine WL.y (hy := asg) (h := ?_)
  refine nl (h := ?_)
  refine q_seq (h := ?_)
  refine sq (h := ?_)
  refine sq (h := ?_)
  refine rg (h := ?_)
  refine WL.y (hy := mv) (h := ?_)
  refine nl (h := ?_)
  refine q_seq (h := ?_)
  refine bk (h := ?_)
  refine lp (X := BGZ) (I := fun z => z.k ≤ 2 ∧ BgI f cf z.k z.N z.mn z.ns z.es z.c) (le := fun z => [(1, .pointer (some ⟨b0, 0, none⟩)), (3, .map (some b1)), (6, .int .i64 z.k)]) (Le := fun z => .obj b1 (.map z.es z.c) :: .blk b0 100 (cardC f cf A n c) :: poolE 103 z.N z.mn none :: R) (μ := fun z => 2 - z.k) ⟨[], mn, [], #[], 0, 0⟩ ⟨Nat.zero_le _, ⟨PoolOk.nil f mn 0, CrIs.nil [], rfl, fun y hy => (by cases hy)⟩⟩ (by repeat (first | exact trivial | refine ⟨rfl, ?_⟩)) (by repeat (first | exact SubL.nil | (apply SubL.cons; (repeat (first | exact At.here | apply At.there))) | exact SubL.refl _ | apply SubL.skip)) (fun z hz => ?_)
  obtain ⟨hzk, hzb⟩ := hz
  refine sq (h := ?_)
  refine rg (h := ?_)
  refine WL.y (hy := lss) (h := ?_)
  refine nl (h := ?_)
  refine q_seq (h := ?_)
  refine sq (h := ?_)
  refine cd (by exact rfl) (fun h0 => ?_) (fun h0 => ?_)
  · skip
    have hk2 : z.k < 2 := by simp only [decide_eq_true_eq] at h0; omega
    refine skp (h := ?_)
    refine q_seq (h := ?_)
    refine sq (h := ?_)
    refine bk (h := ?_)
    refine sq (h := ?_)
    refine rg (h := ?_)
    refine WL.y (hy := mv) (h := ?_)
    refine WL.y (hy := asg) (h := ?_)
    refine nl (h := ?_)
    refine q_seq (h := ?_)
    refine sq (h := ?_)
    refine rg (h := ?_)
    refine WL.y (hy := (by first | exact fa | exact faE)) (h := ?_)
    refine WL.y (hy := (by first | exact fa | exact faE)) (h := ?_)
    refine WL.y (hy := (by first | exact ld | exact ldE)) (h := ?_)
    refine WL.y (hy := eql) (h := ?_)
    refine WL.y (hy := mv) (h := ?_)
    apply brOr 6 13 19 (by exact rfl)
    · intro hb1
      refine un (h := ?_)
      refine WL.y (hy := (by first | exact fa | exact faE)) (h := ?_)
      refine un (h := ?_)
      refine WL.y (hy := (by first | exact fa | exact faE)) (h := ?_)
      refine un (h := ?_)
      refine WL.y (hy := (by first | exact ld | exact ldE)) (h := ?_)
      refine un (h := ?_)
      refine WL.y (hy := mv) (h := ?_)
      refine un (h := ?_)
      refine WL.y (hy := eql) (h := ?_)
      refine WL.y (hy := (by first | exact pkT | exact pkF)) (h := ?_)
      exact mg (by repeat (first | exact trivial | refine ⟨rfl, ?_⟩ | refine ⟨by rw [hb1]; rfl, ?_⟩)) (by repeat (first | exact SubL.nil | (apply SubL.cons; (repeat (first | exact At.here | apply At.there))) | exact SubL.refl _ | apply SubL.skip))
    · intro hb1
      repeat (first | refine un (h := ?_) | refine sk (h := ?_) | refine WL.y (hy := pkF) (h := ?_) | refine WL.y (hy := pkT) (h := ?_))
      exact mg (by repeat (first | exact trivial | refine ⟨rfl, ?_⟩ | refine ⟨by rw [hb1]; rfl, ?_⟩)) (by repeat (first | exact SubL.nil | (apply SubL.cons; (repeat (first | exact At.here | apply At.there))) | exact SubL.refl _ | apply SubL.skip))
    refine nl (h := ?_)
    refine q_seq (h := ?_)
    refine cd (by exact rfl) (fun h2 => ?_) (fun h2 => ?_)
    · skip
      have hcf : cf = -1 ∨ cf = ((z.k : Nat) : Int) := by
        have h' : (decide (cf = -1) || decide (cf = (z.k : Int))) = true := h2
        simpa using h'
      refine rg (h := ?_)
      refine WL.y (hy := mv) (h := ?_)
      refine WL.y (hy := mv) (h := ?_)
      refine WL.y (hy := bd) (h := ?_)
      refine WL.y (hy := bd) (h := ?_)
      refine bxA (h := fun b2 => ?_)
      refine WL.pNew ⟨b2, ⟨((z.k : Nat) : Int), [], (0, 0), (0, 0)⟩, none, 0⟩ (0, 0) .here (by repeat (first | exact At.here | apply At.there)) (fun hne => ?_)
      have hcp := hzb.ok.first (y := ⟨b2, ⟨((z.k : Nat) : Int), [], (0, 0), (0, 0)⟩, none, 0⟩) (Int.le_refl _) hne (by dsimp only; omega) rfl rfl
      refine clT (hc := T_put (⟨b2, ⟨((z.k : Nat) : Int), [], (0, 0), (0, 0)⟩, none, 0⟩ :: z.N) z.ns (upN z.mn b2 (0, 0)) ⟨b2, ⟨((z.k : Nat) : Int), [], (0, 0), (0, 0)⟩, none, 0⟩ b1 z.es z.c hzb.cr.m hzb.cr.s hcp.nd (fun y hy => (hcp.ok y hy).len hf) (fun y hy => List.mem_cons_of_mem _ (hzb.cr.sub y hy)) List.mem_cons_self) (h := fun q hq => ?_)
      rw [putM_none hzb.get]
      refine nl (h := ?_)
      refine q_blk_norm (h := ?_)
      refine q_seq (h := ?_)
      refine rg (h := ?_)
      refine WL.y (hy := addI) (h := ?_)
      refine WL.y (hy := mv) (h := ?_)
      refine nl (h := ?_)
      first
        | (refine rn (x := z) ⟨⟨b2, ⟨((z.k : Nat) : Int), [], (0, 0), (0, 0)⟩, none, 0⟩ :: z.N, upN z.mn b2 (0, 0), putNs z.ns ⟨b2, ⟨((z.k : Nat) : Int), [], (0, 0), (0, 0)⟩, none, 0⟩, q.1, q.2, z.k + 1⟩ ⟨by dsimp only; omega, hzb.add hk2 hcf hne hq⟩ (by dsimp only; omega) (by repeat (first | exact trivial | refine ⟨rfl, ?_⟩)) (by repeat (first | exact SubL.nil | (apply SubL.cons; (repeat (first | exact At.here | apply At.there))) | exact SubL.refl _ | apply SubL.skip)))
        | (refine rn (x := z) ⟨z.N, z.mn, z.ns, z.es, z.c, z.k + 1⟩ ⟨by dsimp only; omega, hzb.skip hcf⟩ (by dsimp only; omega) (by repeat (first | exact trivial | refine ⟨rfl, ?_⟩)) (by repeat (first | exact SubL.nil | (apply SubL.cons; (repeat (first | exact At.here | apply At.there))) | exact SubL.refl _ | apply SubL.skip)))
    · skip
      have hcf : ¬ (cf = -1 ∨ cf = ((z.k : Nat) : Int)) := by
        have h' : (decide (cf = -1) || decide (cf = (z.k : Int))) = false := h2
        simpa using h'
      refine skp (h := ?_)
      refine q_blk_norm (h := ?_)
      refine q_seq (h := ?_)
      refine rg (h := ?_)
      refine WL.y (hy := addI) (h := ?_)
      refine WL.y (hy := mv) (h := ?_)
      refine nl (h := ?_)
      first
        | (refine rn (x := z) ⟨⟨b2, ⟨((z.k : Nat) : Int), [], (0, 0), (0, 0)⟩, none, 0⟩ :: z.N, upN z.mn b2 (0, 0), putNs z.ns ⟨b2, ⟨((z.k : Nat) : Int), [], (0, 0), (0, 0)⟩, none, 0⟩, q.1, q.2, z.k + 1⟩ ⟨by dsimp only; omega, hzb.add hk2 hcf hne hq⟩ (by dsimp only; omega) (by repeat (first | exact trivial | refine ⟨rfl, ?_⟩)) (by repeat (first | exact SubL.nil | (apply SubL.cons; (repeat (first | exact At.here | apply At.there))) | exact SubL.refl _ | apply SubL.skip)))
        | (refine rn (x := z) ⟨z.N, z.mn, z.ns, z.es, z.c, z.k + 1⟩ ⟨by dsimp only; omega, hzb.skip hcf⟩ (by dsimp only; omega) (by repeat (first | exact trivial | refine ⟨rfl, ?_⟩)) (by repeat (first | exact SubL.nil | (apply SubL.cons; (repeat (first | exact At.here | apply At.there))) | exact SubL.refl _ | apply SubL.skip)))
  · skip
    have hk2 : z.k = 2 := by simp only [decide_eq_false_iff_not] at h0; omega
    refine et (h := ?_)
    refine q_then_exit (h := ?_)
    refine q_then_exit (h := ?_)
    refine q_blk_hit (h := ?_)
    refine q_seq (h := ?_)
    refine sq (h := ?_)
    refine rg (h := ?_)
    refine WL.y (hy := mv) (h := ?_)
    refine WL.y (hy := asg) (h := ?_)
    refine nl (h := ?_)
    refine q_seq (h := ?_)
    refine rtn (h := ?_)
    refine q_ret (hR := ?_)
    rw [hk2] at hzb
    exact fun w hS => ⟨⟨z.N, z.mn, z.ns, b1, z.es, z.c⟩, hzb, rfl, hS.sub (by repeat (first | exact SubL.nil | (apply SubL.cons; (repeat (first | exact At.here | apply At.there))) | exact SubL.refl _ | apply SubL.skip))⟩
end Go.Proofs.Ytncoimjgjpcipaa
