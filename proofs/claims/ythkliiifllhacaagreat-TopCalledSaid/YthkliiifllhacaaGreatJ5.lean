/- The texts of the walk, part 5. -/
import Derived.Test.YthkliiifllhacaaGreatJ4
import Derived.Shelf.SlSortCmp.WholeK
import Derived.Test.YthkliiifllhacaaGreatProg
namespace Go.Proofs.YthkliiifllhacaaGreat
open Go Go.RowKit

theorem playTo_bd {f : Fmt} {first : Int} {xs : List Int} (hf : f.Ok) (h1 : first = 0 ∨ first = 1) : ∀ {k : Nat} {m : MS}, k ≤ 1000 → playTo f first xs k = some m → m.Bd k
 | 0, m, _, h => by
  simp only [playTo, Option.some.injEq] at h
  subst h
  exact beginV_bd hf h1
 | k + 1, m, hk, h => by
  rw [playTo] at h
  cases h1' : playTo f first xs k with
  | none => rw [h1'] at h; cases h
  | some m0 =>
   cases h2 : xs[k]? with
   | none => rw [h1', h2] at h; cases h
   | some s =>
    rw [h1', h2] at h
    simp only at h
    cases hb : sideBad s || decide (0 ≤ m0.winner)
    ·
     rw [hb] at h
     simp only [cond_false, Option.some.injEq] at h
     subst h
     have := pointV_bd (side := s) (playTo_bd hf h1 (by omega) h1') (by omega)
     simpa using this
    ·
     rw [hb] at h; cases h
theorem preE_ok {f : Fmt} {first : Int} {n : Nat} (h : preE f first n = 0) : f.Ok ∧ (first = 0 ∨ first = 1) ∧ n ≤ 600 := by
 unfold preE at h
 cases hc : !decide (chkF f = 0)
 ·
  rw [hc, cond_false] at h
  refine ⟨chkF_ok hc, ?_⟩
  cases hs : sideBad first
  ·
   rw [hs, cond_false] at h
   refine ⟨side_ok hs, ?_⟩
   cases hn : decide ((600 : Int) < n)
   ·
    rw [decide_eq_false_iff_not] at hn; omega
   ·
    rw [hn] at h; cases h
  ·
   rw [hs] at h; cases h
 ·
  rw [hc, cond_true] at h
  simp [h] at hc
structure Plays (f : Fmt) (first : Int) (xs : List Int) (m : MS) : Prop where
 ok : f.Ok
 fst : first = 0 ∨ first = 1
 n : xs.length ≤ 600
 to : playTo f first xs xs.length = some m
 bd : m.Bd xs.length
 mf : m.f = f
 m1 : m.first = first
 inv : m.Inv ∨ m.Done
theorem play_some {f : Fmt} {first : Int} {xs : List Int} {m : MS} (h : playO f first xs = some m) : Plays f first xs m := by
 unfold playO at h
 cases hp : decide (preE f first xs.length = 0)
 ·
  rw [hp] at h; cases h
 ·
  rw [hp] at h
  simp only [Bool.not_true, cond_false] at h
  obtain ⟨h1, h2, h3⟩ := preE_ok (of_decide_eq_true hp)
  obtain ⟨h4, h5, h6⟩ := playTo_inv h1 h
  exact ⟨h1, h2, h3, h, playTo_bd h1 h2 (by omega) h, h4, h5, h6⟩
theorem plays_O {f : Fmt} {first : Int} {xs : List Int} {m : MS} (h1 : f.Ok) (h2 : first = 0 ∨ first = 1) (h3 : xs.length ≤ 600) (h : playTo f first xs xs.length = some m) (hc : chkF f = 0) : playO f first xs = some m := by
 have hs : sideBad first = false := by rcases h2 with rfl | rfl <;> rfl
 have hn : decide ((600 : Int) < xs.length) = false := by rw [decide_eq_false_iff_not]; omega
 have : preE f first xs.length = 0 := by
  rw [preE, hc, hs, hn]; rfl
 rw [playO, this]; exact h
theorem sc_len (f : Fmt) (first : Int) (xs : List Int) : (scO (playO f first xs)).st.length ≤ 1000 ∧ (gsO (playO f first xs)).length ≤ 1000 := by
 cases h : playO f first xs with
 | none => exact ⟨Nat.zero_le _, Nat.zero_le _⟩
 | some m =>
  have hp := play_some h
  have h1 := hp.bd.s
  have h2 := hp.bd.gs
  have h3 := hp.n
  show m.st.length ≤ 1000 ∧ m.gs.length ≤ 1000
  omega
end Go.Proofs.YthkliiifllhacaaGreat

namespace Go.Proofs.YthkliiifllhacaaGreat
open Go Go.RowKit

theorem can_play {f : Fmt} {first : Int} {ps : List Int} (hf : f.Ok) (h : CanP f first ps) : ∀ k, k ≤ ps.length → ∃ m, playTo f first ps k = some m ∧ spotOf m = spS f first ps k
 | 0, _ => ⟨_, rfl, begin_spot f first⟩
 | k + 1, hk => by
  obtain ⟨m, h1, h2⟩ := can_play hf h k (by omega)
  obtain ⟨p, hp⟩ : ∃ p, ps[k]? = some p := ⟨_, List.getElem?_eq_getElem (by omega)⟩
  obtain ⟨hs, ht⟩ := h k p hp
  have hr := playTo_rch hf h1
  have hmf := (playTo_inv hf h1).1
  have hin : m.Inv := by
   rcases hr.inv with hi | ⟨hd, hmx, _⟩
   ·
    exact hi
   ·
    exact absurd (by rw [← h2]; show max (wonV m.st).1 (wonV m.st).2 = f.sets; rw [hmx, hmf]) ht
  have hnb : (sideBad p || decide (0 ≤ m.winner)) = false := by
   have hw := hin.w
   have : sideBad p = false := by rcases hs with rfl | rfl <;> rfl
   rw [this, Bool.false_or]
   exact decide_eq_false (by omega)
  have hst := playTo_succ h1 hp
  rw [hnb] at hst
  refine ⟨_, hst, ?_⟩
  have := (spot_step (hmf ▸ hf) hin hr.cnt hs).1
  rw [h2, hmf, nxtS, decide_eq_false ht] at this
  rw [spS_succ hp]
  exact (Option.some.inj this).symm
structure PlayN (f : Fmt) (s : Spot) (r : List Int) (m : MS) : Prop where
 o : playO f s.first r = some m
 e : playE f s.first r = 0
 sp : spotOf m = s
 w : m.winner = winS f s
 sv : m.server = srvS f s
theorem can_playO {f : Fmt} {first : Int} {ps : List Int} (hf : f.Ok) (hc0 : chkF f = 0) (h1 : first = 0 ∨ first = 1) (h : CanP f first ps) (hn : ps.length ≤ 600) : ∃ m, playO f first ps = some m ∧ playE f first ps = 0 ∧ spotOf m = spS f first ps ps.length ∧ m.winner = winS f (spotOf m) ∧ m.server = srvS f (spotOf m) := by
 obtain ⟨m, h2, h3⟩ := can_play hf h ps.length (Nat.le_refl _)
 have hO := plays_O hf h1 hn h2 hc0
 have hr := playTo_rch hf h2
 obtain ⟨i1, i2, _⟩ := playTo_inv hf h2
 refine ⟨m, hO, playE_some hO, h3, ?_, ?_⟩
 ·
  rw [rch_win hr, i1]
 ·
  rw [rch_srv (by omega) hr, i1]
theorem NdOk.play {f : Fmt} {N : List Nd} {mn : Nat → Pr} {K : Int} {x : Nd} (hf : f.Ok) (hc0 : chkF f = 0) (hK : K ≤ 600) (h : NdOk f N mn K x) {r : List Int} (hn : (N.map (·.b)).Nodup) (hr : RowN N x r) : ∃ m, PlayN f x.s r m := by
 obtain ⟨r', h1, h2, h3, h4⟩ := h.row
 obtain rfl := h1.uniq hn hr
 obtain ⟨m, g1, g2, g3, g4, g5⟩ := can_playO hf hc0 h.fs h3 (by omega)
 rw [h4] at g3
 rw [g3] at g4 g5
 exact ⟨m, g1, g2, g3, g4, g5⟩
theorem row_next {f : Fmt} {N : List Nd} {x y : Nd} {K : Int} (hx : x ∈ N) (h : ∃ r, RowN N x r ∧ (r.length : Int) ≤ K ∧ CanP f x.s.first r ∧ spS f x.s.first r r.length = x.s) (hbf : y.bf = some x.b) (hsd : y.sd = 0 ∨ y.sd = 1) (hn : nxtS f x.s y.sd = some y.s) :
  y.s.first = x.s.first ∧ ∃ r, RowN N y r ∧ (r.length : Int) ≤ K + 1 ∧ CanP f y.s.first r ∧ spS f y.s.first r r.length = y.s := by
 obtain ⟨r, h1, h2, h3, h4⟩ := h
 have hfs : y.s.first = x.s.first := by
  have ht : topS x.s ≠ f.sets := fun e => by rw [nxtS, decide_eq_true e] at hn; cases hn
  rw [nxtS, decide_eq_false ht] at hn
  have := Option.some.inj hn
  rw [← this, step_first]
 rw [← h4] at hn
 obtain ⟨g1, g2⟩ := can_app h3 hsd hn
 refine ⟨hfs, r ++ [y.sd], .snoc hx hbf h1, by rw [List.length_append, List.length_singleton]; omega, by rw [hfs]; exact g1, by rw [hfs]; exact g2⟩
theorem PoolOk.next {f : Fmt} {N : List Nd} {mn : Nat → Pr} {K : Int} (h : PoolOk f N mn K) {x y : Nd} (hx : x ∈ N) (hne : ∀ z ∈ N, z.b ≠ y.b) (hbf : y.bf = some x.b) (hsd : y.sd = 0 ∨ y.sd = 1) (hn : nxtS f x.s y.sd = some y.s) : PoolOk f (y :: N) (upN mn y.b ((mn x.b).1 + 1, (mn x.b).2 + 1)) (K + 1) := by
 have hk := h.ok x hx
 obtain ⟨h1, h2⟩ := row_next hx hk.row hbf hsd hn
 have := hk.lo; have := hk.hi
 exact (h.up (by omega)).add hne (by rw [h1]; exact hk.fs) h2 (by dsimp only; omega) (by dsimp only; omega)
theorem PoolOk.copy {f : Fmt} {N : List Nd} {mn : Nat → Pr} {K : Int} (h : PoolOk f N mn K) {x y : Nd} (hx : x ∈ N) (hne : ∀ z ∈ N, z.b ≠ y.b) (hs : y.s = x.s) (hbf : y.bf = x.bf) (hsd : y.sd = x.sd) : PoolOk f (y :: N) (upN mn y.b (mn x.b)) K := by
 have hk := h.ok x hx
 obtain ⟨r, h1, h2⟩ := hk.row
 exact h.add hne (by rw [hs]; exact hk.fs) ⟨r, h1.copy hbf hsd, by rw [hs]; exact h2⟩ hk.lo hk.hi
theorem PoolOk.first {f : Fmt} {N : List Nd} {mn : Nat → Pr} {K : Int} (h : PoolOk f N mn K) (hK : 0 ≤ K) {y : Nd} (hne : ∀ z ∈ N, z.b ≠ y.b) (hf : y.s.first = 0 ∨ y.s.first = 1) (hs : y.s = ⟨y.s.first, [], (0, 0), (0, 0)⟩) (hbf : y.bf = none) : PoolOk f (y :: N) (upN mn y.b (0, 0)) K :=
 h.add hne hf ⟨[], .nil hbf, hK, fun n p hp => (by cases hp), by rw [hs]; rfl⟩ ⟨Int.le_refl _, hK⟩ ⟨Int.le_refl _, hK⟩

def From (N ns N' : List Nd) (y : Nd) (G : Nd → List Int → Prop) : Prop := ∃ x ∈ ns, ∃ r q, RowN N x r ∧ RowN N' y (r ++ q) ∧ y.s.first = x.s.first ∧ G x q
def QOk (f : Fmt) (x : Nt) (y : Spot) (q : List Int) : Prop :=
 if x.kind = 1 then ∃ p, q = [p] ∧ (x.side = -1 ∨ x.side = p) else if x.kind = 2 then x.pair.1 ≤ (q.length : Int) ∧ (q.length : Int) ≤ x.pair.2 else q = [] ∧ holdS f x y = true
theorem row_read {f : Fmt} {cf first : Int} {xs : List Nt} {j : Nat} {s u : Spot} {r q : List Int} {x : Nt} (h : Row_ f cf xs j s first r) (hx : xs[j]? = some x) (hc : CanP f first (r ++ q)) (hsp : spS f first (r ++ q) (r ++ q).length = u) (hq : QOk f x u q) : Row_ f cf xs (j + 1) u first (r ++ q) := by
 refine ⟨h.fs, h.cf, hc, ⟨x, r.length, hx, (fit_app h.fit).2, ?_⟩, hsp⟩
 unfold hitV
 unfold QOk at hq
 by_cases h1 : x.kind = 1
 ·
  rw [if_pos h1] at hq ⊢
  obtain ⟨p, rfl, hp⟩ := hq
  refine ⟨by rw [List.length_append]; rfl, Nat.le_refl _, hp.imp id fun e => ?_⟩
  rw [List.getElem?_append_right (Nat.le_refl _), Nat.sub_self, e]; rfl
 ·
  rw [if_neg h1] at hq ⊢
  by_cases h2 : x.kind = 2
  ·
   rw [if_pos h2] at hq ⊢
   rw [List.length_append]
   exact ⟨by omega, by omega, Nat.le_refl _⟩
  ·
   rw [if_neg h2] at hq ⊢
   obtain ⟨rfl, hq⟩ := hq
   rw [List.append_nil] at hsp ⊢
   exact ⟨rfl, by rw [hsp]; exact hq⟩
end Go.Proofs.YthkliiifllhacaaGreat

namespace Go.Proofs.YthkliiifllhacaaGreat
open Go Go.RowKit

section rules
variable {F : Fence} {P : Program} {ops : Array Oper} {Q : Exit → Act → World → Prop} {rest : List Oper} {n : Nat} {D : List Deferred} {l : Env} {w0 : World} {L M : List Ent}
variable {d : Nat} {ty : TypeId} {pos : String} {aft : Array Edge}
theorem pool_cell {w : World} {T : TypeId} {N : List Nd} {mn : Nat → Pr} {y : Nd} (hok : (poolE T N mn none).ok w) (hy : y ∈ N) (i : Nat) : w.cell? ⟨y.b, i, none⟩ = (nodeC y (mn y.b))[i]? := by
 rw [cell_of_row w y.b i _ T (0, 0) (hok y hy (by simp))]; simp
theorem ldQ {x : Operand} {t : TypeId} {size bytes : Nat} {z : Value} {zl : List Value} (hT : Ty P t false size bytes z zl := by infer_instance) {y : Nd} {o : Nat} {T : TypeId} {N : List Nd} {mn : Nat → Pr} {v : Value} (hy : y ∈ N)
  (hx : ev l x = some (.pointer (some ⟨y.b, o, none⟩)) := by exact rfl) (ha : At L (poolE T N mn none) M := by repeat (first | exact At.here | apply At.there)) (hc : (nodeC y (mn y.b))[o]? = some v := by exact rfl) : Yd P n D l w0 L (.load t x) (v) :=
 ⟨by simp, by simp, fun oo ho ac w hfr hst => by
  have hcell : w.cell? ⟨y.b, o, none⟩ = some v := by rw [pool_cell (hst _ ha.mem) hy, hc]
  simp [execOp, ho, hfr.eval hx, Instr.loadAt, Instr.sureAddr, run_loadVar1 hT hcell]⟩
theorem ldQA {x : Operand} {t : TypeId} {size bytes : Nat} {z : Value} {zl : List Value} (hT : Ty P t true size bytes z zl := by infer_instance) {y : Nd} {o : Nat} {T : TypeId} {N : List Nd} {mn : Nat → Pr} {vs : List Value} (hy : y ∈ N)
  (hx : ev l x = some (.pointer (some ⟨y.b, o, none⟩)) := by exact rfl) (ha : At L (poolE T N mn none) M := by repeat (first | exact At.here | apply At.there)) (hc : Tk (nodeC y (mn y.b)) o size vs := by repeat (first | exact Tk.nil | apply Tk.cons | apply Tk.skip)) : Yd P n D l w0 L (.load t x) (.agg vs.toArray) :=
 ⟨by simp, by simp, fun oo ho ac w hfr hst => by
  have hcell : ∀ j v, vs[j]? = some v → w.cell? ((⟨y.b, o, none⟩ : Addr).add j) = some v := fun j v hj => by
   rw [add_lit, pool_cell (hst _ ha.mem) hy]; exact hc.out.2 j v hj
  simp [execOp, ho, hfr.eval hx, Instr.loadAt, Instr.sureAddr, run_loadVarA hT hc.out.1 hcell]⟩
theorem stQ {x y : Operand} {t : TypeId} {bytes : Nat} {z : Value} {zl : List Value} (hT : Ty P t true 2 bytes z zl := by infer_instance) {o : Nd} {T : TypeId} {N : List Nd} {mn : Nat → Pr} {v : Pr} (ho : o ∈ N) (hn : (N.map (·.b)).Nodup)
  (hx : ev l x = some (.pointer (some ⟨o.b, 18, none⟩)) := by exact rfl) (hy : ev l y = some (.agg #[.int .i64 v.1, .int .i64 v.2]) := by exact rfl)
  (ha : At L (poolE T N mn none) M := by repeat (first | exact At.here | apply At.there))
  (h : WL F P ops Q rest n D l w0 (poolE T N (upN mn o.b v) none :: M)) : WL F P ops Q (⟨none, .store t x y, ty, pos, aft, none⟩ :: rest) n D l w0 L :=
 WL.skipop (by simp) (fun ac w hfr hst => by
  obtain ⟨w', hr, hs⟩ := run_storeCells (P := P) [.int .i64 v.1, .int .i64 v.2] (nodeC o (mn o.b)) 18 0 w ((hst.pull ha).pOpen ho) (fun _ => by show 18 + 0 + 2 ≤ 20; omega) (fun u hu => by
   rcases List.mem_cons.1 hu with rfl | hu
   ·
    rfl
   ·
    rw [List.mem_singleton] at hu; subst hu; rfl)
  refine ⟨w', ?_, St.pClose (v := v) hs ho hn⟩
  simp [execOp, hfr.eval hx, hfr.eval hy, Instr.storeAt, Instr.sureAddr, storeVar, run_sizeOf hT, Value.cells, hr]) h
theorem neqN {x y : Operand} {t u : TypeId} (hT : P.underlying t = some (.pointer (P.pointee t))) {o : Option Nat} (hx : ev l x = some (bpO o) := by exact rfl) (hy : ev l y = some (.pointer none) := by exact rfl) : Yd P n D l w0 L (.binOp .neq t x y u) (.bool o.isSome) :=
 ⟨by simp, by simp, fun oo ho ac w hfr _ => by
  have h1 : ∀ d : Nat, (Op.equalIn (d + 1) t (bpO o) (.pointer none)).run P w = .ok (!o.isSome) w := fun d => by
   cases o <;> simp only [Op.equalIn, Sem.run_bind, run_underlying hT, Result.andThen_ok, Option.map] <;> rfl
  have h2 : (Op.equal t (bpO o) (.pointer none)).run P w = .ok (!o.isSome) w := h1 9999
  simp only [execOp, ho, hfr.eval hx, hfr.eval hy, binOp, Sem.run_bind, eqGuard]
  simp [h2]⟩
theorem run_field {t k off ft size : Nat} (hT : FieldTy P t k off ft size) (cs : Array Value) (w : World) : (Instr.field t (.agg cs) k).run P w = (part ft cs off).run P w := by
 have hu := hT.und
 cases hq : P.underlying t with
 | none => simp [hq] at hu
 | some d =>
  cases d <;> simp [hq, fldD] at hu
  rename_i fs
  obtain ⟨f, hf, h1, h2⟩ := hu
  subst h1 h2
  simp [Instr.field, run_underlying hq, hf, asAgg]
theorem fdv1 {x : Operand} {t k off ft size sz bytes : Nat} {z : Value} {zl cs : List Value} {v : Value} (hT : FieldTy P t k off ft size := by infer_instance) (hE : Ty P ft false sz bytes z zl := by infer_instance) (hx : ev l x = some (.agg cs.toArray) := by exact rfl) (hv : cs[off]? = some v := by exact rfl) : Yd P n D l w0 L (.field t x k) v :=
 ⟨by simp, by simp, fun oo ho ac w hfr hst => by
  simp [execOp, ho, hfr.eval hx, run_field hT, part, run_isAgg hE, hv]⟩
theorem fdvA {x : Operand} {t k off ft size sz bytes : Nat} {z : Value} {zl cs vs : List Value} (hT : FieldTy P t k off ft size := by infer_instance) (hE : Ty P ft true sz bytes z zl := by infer_instance) (hx : ev l x = some (.agg cs.toArray) := by exact rfl) (hc : (cs.drop off).take sz = vs := by exact rfl) : Yd P n D l w0 L (.field t x k) (.agg vs.toArray) :=
 ⟨by simp, by simp, fun oo ho ac w hfr hst => by
  subst hc
  simp [execOp, ho, hfr.eval hx, run_field hT, part, run_isAgg hE, run_sizeOf hE, List.extract_toArray]⟩
theorem slAh {x hi : Operand} {t e : TypeId} {len size bytes b o : Nat} {agg : Bool} {z : Value} {zl : List Value} (hT : ArrayTy P t len e := by infer_instance) (hE : Ty P e agg size bytes z zl := by infer_instance) {k : IntKind} {i : Int}
  (hx : ev l x = some (.pointer (some ⟨b, o, none⟩)) := by exact rfl) (hi' : ev l hi = some (.int k i) := by exact rfl) (hb : 0 ≤ i ∧ i ≤ len) (hne : len ≠ 0) : Yd P n D l w0 L (.slice t x none (some hi) none) (.slice (some ⟨b, o, none⟩) i.toNat len) :=
 ⟨by simp, by simp, fun oo ho ac w hfr hst => by
  simp [execOp, ho, hfr.eval hx, hfr.eval hi', Instr.sliceAt, Instr.sureAddr, run_underlying hT.und, Instr.sliceBounds, run_sizeOf hE, Addr.add, sliceBound_ok (P := P) hb, hne]⟩
end rules
theorem rd_sets {w : World} {b : Nat} {T : TypeId} {s : Spot} (h5 : s.st.length ≤ 5) (h : (Ent.blk b T (spotC s)).ok w) : Rd w (some ⟨b, 2, none⟩) 2 s.st.length (encP s.st) := by
 refine rd_blkA h (by simp [encP]) (fun c hc => ?_) (fun c hc v hv => ?_) fun k c hk j v hj => ?_
 ·
  obtain ⟨p, _, rfl⟩ := List.mem_map.1 hc; rfl
 ·
  obtain ⟨p, _, rfl⟩ := List.mem_map.1 hc
  rcases List.mem_cons.1 hv with rfl | hv
  ·
   rfl
  ·
   rw [List.mem_singleton] at hv; subst hv; rfl
 ·
  have hkl : k < s.st.length := by
   have := (List.getElem?_eq_some_iff.1 hk).1
   simpa [encP] using this
  have hc : c = [.int .i64 (ep s k).1, .int .i64 (ep s k).2] := by
   have := encP_at (List.getElem?_eq_getElem hkl)
   rw [hk] at this
   have := Option.some.inj this
   rw [this, ep, List.getD_eq_getElem?_getD, List.getElem?_eq_getElem hkl]; rfl
  subst hc
  have hj2 : j = 0 ∨ j = 1 := by
   have := (List.getElem?_eq_some_iff.1 hj).1
   simp at this; omega
  have hk5 : k = 0 ∨ k = 1 ∨ k = 2 ∨ k = 3 ∨ k = 4 := by omega
  rcases hj2 with rfl | rfl <;> rcases hk5 with rfl | rfl | rfl | rfl | rfl <;> exact hj
end Go.Proofs.YthkliiifllhacaaGreat

namespace Go.Proofs.YthkliiifllhacaaGreat
open Go Go.RowKit

theorem C_card_within (n lo hi : Int) (w : World) : C0 Tryz.prog 164 [.int .i64 n, .int .i64 lo, .int .i64 hi] w (.bool (wi n lo hi)) := by
 refine ⟨en Tryz.func164 Tryz.ntmps164 (St.init w) (h := fun F => ?_)⟩
 refine sr ?_
 refine ww ?_
 refine nr ?_
 iterate 4 refine ww ?_
 apply brAnd 4 10 14 (by exact rfl)
 ·
  intro hb0
  iterate 3 refine uw ?_
  refine ww ?_
  exact mg (by repeat (first | exact trivial | refine ⟨rfl, ?_⟩ | refine ⟨by rw [hb0]; rfl, ?_⟩)) slz_
 ·
  intro hb0
  repeat (first | refine uz ?_ | refine kz ?_ | refine wz ?_)
  exact mg (by repeat (first | exact trivial | refine ⟨rfl, ?_⟩ | refine ⟨by rw [hb0]; rfl, ?_⟩)) slz_
 refine ww ?_
 refine nq ?_
 refine rtn ?_
 refine q_ret (hR := ?_)
 exact fun w hS => ⟨rfl, hS.sub slz_⟩
theorem C_card_more (p : Pr) (side : Int) (hp : Sm p) (w : World) : C0 Tryz.prog 217 [pv p, .int .i64 side] w (pv (addV p side)) := by
 obtain ⟨⟨h1, h2⟩, h3, h4⟩ := hp
 refine ⟨en Tryz.func217 Tryz.ntmps217 (St.init w) (h := fun F => ?_)⟩
 refine sr ?_
 refine bxA (h := fun b0 => ?_)
 refine al (h := fun b1 => ?_)
 refine nq ?_
 refine sq ?_
 refine sr ?_
 iterate 2 refine ww ?_
 refine nq ?_
 refine czz (fun h0 => ?_) fun h0 => ?_
 ·
  refine rg ?_
  iterate 4 refine ww ?_
  first | refine st (h := ?_) | refine stE (h := ?_)
  refine nr ?_
  refine ww ?_
  first | refine stA (h := ?_) | refine stEA (h := ?_)
  refine nq ?_
  refine rtn ?_
  refine q_ret (hR := ?_)
  exact fun w hS => ⟨cdT' (x := (p.1 + 1, p.2)) (fun p : Pr => Ending.returned (pv p)) h0, hS.sub slz_⟩
 ·
  refine rg ?_
  iterate 4 refine ww ?_
  first | refine st (h := ?_) | refine stE (h := ?_)
  refine nr ?_
  refine ww ?_
  first | refine stA (h := ?_) | refine stEA (h := ?_)
  refine nq ?_
  refine rtn ?_
  refine q_ret (hR := ?_)
  exact fun w hS => ⟨cdF' (y := (p.1, p.2 + 1)) (fun p : Pr => Ending.returned (pv p)) h0, hS.sub slz_⟩
theorem C_card_leads (p : Pr) (side l b : Int) (hp : Sm p) (w : World) : C0 Tryz.prog 218 [pv p, .int .i64 side, .int .i64 l, .int .i64 b] w (.bool (ldS p side l b)) := by
 obtain ⟨⟨h1, h2⟩, h3, h4⟩ := hp
 refine ⟨en Tryz.func218 Tryz.ntmps218 (St.init w) (h := fun F => ?_)⟩
 refine sr ?_
 refine bxA (h := fun b0 => ?_)
 refine ww ?_
 refine nq ?_
 refine sq ?_
 refine sr ?_
 iterate 2 refine ww ?_
 refine nq ?_
 refine czz (fun h0 => ?_) fun h0 => ?_
 ·
  refine rg ?_
  iterate 5 refine ww ?_
  first | refine st (h := ?_) | refine stE (h := ?_)
  refine ww ?_
  first | refine st (h := ?_) | refine stE (h := ?_)
  refine nr ?_
  iterate 5 refine ww ?_
  apply brAnd 8 21 29 (by exact rfl)
  ·
   intro hb1
   iterate 7 refine uw ?_
   refine ww ?_
   exact mg (by repeat (first | exact trivial | refine ⟨rfl, ?_⟩ | refine ⟨by rw [hb1]; rfl, ?_⟩)) slz_
  ·
   intro hb1
   repeat (first | refine uz ?_ | refine kz ?_ | refine wz ?_)
   exact mg (by repeat (first | exact trivial | refine ⟨rfl, ?_⟩ | refine ⟨by rw [hb1]; rfl, ?_⟩)) slz_
  refine ww ?_
  refine nq ?_
  refine rtn ?_
  refine q_ret (hR := ?_)
  exact fun w hS => ⟨by rw [ldS, h0]; rfl, hS.sub slz_⟩
 ·
  refine skp ?_
  refine q_seq ?_
  refine sr ?_
  iterate 5 refine ww ?_
  apply brAnd 8 21 29 (by exact rfl)
  ·
   intro hb2
   iterate 7 refine uw ?_
   refine ww ?_
   exact mg (by repeat (first | exact trivial | refine ⟨rfl, ?_⟩ | refine ⟨by rw [hb2]; rfl, ?_⟩)) slz_
  ·
   intro hb2
   repeat (first | refine uz ?_ | refine kz ?_ | refine wz ?_)
   exact mg (by repeat (first | exact trivial | refine ⟨rfl, ?_⟩ | refine ⟨by rw [hb2]; rfl, ?_⟩)) slz_
  refine ww ?_
  refine nq ?_
  refine rtn ?_
  refine q_ret (hR := ?_)
  exact fun w hS => ⟨by rw [ldS, h0]; rfl, hS.sub slz_⟩
theorem C_spot_won (s : Spot) (h5 : s.st.length ≤ 5) (w : World) : C0 Tryz.prog 202 [.agg (spotC s).toArray] w (pv (wonV s.st)) := by
 refine ⟨en Tryz.func202 Tryz.ntmps202 (St.init w) (h := fun F => ?_)⟩
 refine sr ?_
 refine bxA (h := fun b0 => ?_)
 refine al (h := fun b1 => ?_)
 refine nq ?_
 refine sq ?_
 refine sr ?_
 iterate 3 refine ww ?_
 refine wy (slAh (hb := by omega) (hne := by decide)) ?_
 rw [Int.toNat_natCast]
 iterate 2 refine ww ?_
 refine nq ?_
 refine bk ?_
 refine lp (X := WZ) (I := fun z => z.k ≤ s.st.length ∧ z.p = wonTo s.st z.k) (le := fun z => [(2, .pointer (some ⟨b1, 0, none⟩)), (8, .slice (some ⟨b0, 2, none⟩) s.st.length 5), (9, .int .i64 s.st.length), (10, .int .i64 z.k)]) (Le := fun z => [.blk b1 73 [.int .i64 z.p.1, .int .i64 z.p.2], .blk b0 143 (spotC s)]) (μ := fun z => s.st.length - z.k) ⟨0, (0, 0)⟩ ⟨Nat.zero_le _, rfl⟩ sbz_ slz_ (fun z hz => ?_)
 obtain ⟨hzk, hzp⟩ := hz
 refine sr ?_
 refine ww ?_
 refine nq ?_
 refine sq ?_
 refine czz (fun h0 => ?_) fun h0 => ?_
 ·
  have hkn : z.k < s.st.length := by simp only [decide_eq_true_eq] at h0; omega
  obtain ⟨q, hq⟩ : ∃ q, s.st[z.k]? = some q := ⟨_, List.getElem?_eq_getElem (by omega)⟩
  have hqe := encP_at hq
  have hst := wonTo_succ hq
  have hbd := wonTo_bd s.st z.k
  rw [← hzp] at hbd hst
  refine skp ?_
  refine q_seq ?_
  refine sq ?_
  refine bk ?_
  refine sr ?_
  refine wy (ix (es := encP s.st) (hr := Rds.there (Rds.any fun w hw => rd_sets h5 hw)) (hb := by omega)) ?_
  refine wy (ldEA (hr := Rds.there (Rds.any fun w hw => rd_sets h5 hw)) (hk := hqe)) ?_
  refine al (h := fun b2 => ?_)
  first | refine stA (h := ?_) | refine stEA (h := ?_)
  refine nr ?_
  iterate 5 refine ww ?_
  refine nq ?_
  refine czz (fun h1 => ?_) fun h1 => ?_
  ·
   have hw : addV z.p (wside q) = (z.p.1 + 1, z.p.2) := by
    have h' : decide (q.2 < q.1) = true := h1
    rw [wside, h']; rfl
   refine rg ?_
   iterate 4 refine ww ?_
   first | refine st (h := ?_) | refine stE (h := ?_)
   refine nl ?_
   refine q_blk_norm ?_
   refine q_seq ?_
   refine rg ?_
   iterate 2 refine ww ?_
   refine nl ?_
   refine rn (x := z) ⟨z.k + 1, addV z.p (wside q)⟩ ⟨by dsimp only; omega, hst.symm⟩ (by dsimp only; omega) sbz_ (by rw [hw]; exact slz_)
  ·
   have hw : addV z.p (wside q) = (z.p.1, z.p.2 + 1) := by
    have h' : decide (q.2 < q.1) = false := h1
    rw [wside, h']; rfl
   refine rg ?_
   iterate 4 refine ww ?_
   first | refine st (h := ?_) | refine stE (h := ?_)
   refine nl ?_
   refine q_blk_norm ?_
   refine q_seq ?_
   refine rg ?_
   iterate 2 refine ww ?_
   refine nl ?_
   refine rn (x := z) ⟨z.k + 1, addV z.p (wside q)⟩ ⟨by dsimp only; omega, hst.symm⟩ (by dsimp only; omega) sbz_ (by rw [hw]; exact slz_)
 ·
  have hkn : z.k = s.st.length := by simp only [decide_eq_false_iff_not] at h0; omega
  refine et ?_
  iterate 2 refine q_then_exit ?_
  refine q_blk_hit ?_
  refine q_seq ?_
  refine sr ?_
  refine ww ?_
  first | refine stA (h := ?_) | refine stEA (h := ?_)
  refine nq ?_
  refine rtn ?_
  refine q_ret (hR := ?_)
  exact fun w hS => ⟨by rw [hkn] at hzp; rw [hzp]; rfl, hS.sub slz_⟩
end Go.Proofs.YthkliiifllhacaaGreat

namespace Go.Proofs.YthkliiifllhacaaGreat
open Go Go.RowKit

theorem encI_set (xs : List Int) (i : Nat) (x : Int) : (encI xs).set i [.int .i64 x] = encI (xs.set i x) := by unfold encI; rw [List.map_set]
def RevI (xs : List Int) (k : Nat) (ys : List Int) : Prop := ys.length = xs.length ∧ ∀ i, i < xs.length → ys[i]? = if i < k ∨ xs.length ≤ i + k then xs[xs.length - 1 - i]? else xs[i]?
theorem rev_start (xs : List Int) : RevI xs 0 xs := ⟨rfl, fun i hi => by rw [if_neg (by omega)]⟩
theorem rev_end {xs ys : List Int} {k : Nat} (h : RevI xs k ys) (hk : xs.length ≤ 2 * k + 1) : ys = xs.reverse := by
 refine List.ext_getElem? fun i => ?_
 by_cases hi : i < xs.length
 ·
  rw [h.2 i hi, List.getElem?_reverse hi]
  by_cases hc : i < k ∨ xs.length ≤ i + k
  ·
   rw [if_pos hc]
  ·
   rw [if_neg hc]; congr 1; omega
 ·
  rw [List.getElem?_eq_none (by rw [h.1]; omega), List.getElem?_eq_none (by rw [List.length_reverse]; omega)]
theorem rev_step {xs ys : List Int} {k : Nat} (h : RevI xs k ys) (hk : 2 * k + 1 < xs.length) {a b : Int} (ha : ys[k]? = some a) (hb : ys[xs.length - 1 - k]? = some b) : RevI xs (k + 1) ((ys.set k b).set (xs.length - 1 - k) a) := by
 have ha' : xs[k]? = some a := by have := h.2 k (by omega); rw [if_neg (by omega)] at this; rw [← this]; exact ha
 have hb' : xs[xs.length - 1 - k]? = some b := by have := h.2 (xs.length - 1 - k) (by omega); rw [if_neg (by omega)] at this; rw [← this]; exact hb
 have hl := h.1
 refine ⟨by simp [hl], fun i hi => ?_⟩
 by_cases e1 : i = xs.length - 1 - k
 ·
  subst e1
  rw [List.getElem?_set_self (by simp; omega), if_pos (by omega), show xs.length - 1 - (xs.length - 1 - k) = k by omega, ha']
 ·
  rw [List.getElem?_set_ne (fun e => e1 e.symm)]
  by_cases e2 : i = k
  ·
   subst e2
   rw [List.getElem?_set_self (by omega), if_pos (by omega), hb']
  ·
   rw [List.getElem?_set_ne (fun e => e2 e.symm), h.2 i hi]
   by_cases hc : i < k ∨ xs.length ≤ i + k
   ·
    rw [if_pos hc, if_pos (by omega)]
   ·
    rw [if_neg hc, if_neg (by omega)]
structure RVZ where
 (k : Nat) (ys : List Int)
theorem T_Reverse (xs : List Int) (A : Option Addr) (n c : Nat) (hlen : xs.length = n) (hn : n ≤ 100000) : Tr Tryz.prog 225 [.slice A n c] [.own A c 3 1 n (encI xs)] (fun _ : Unit => True) (fun _ => .tuple #[]) (fun _ => [.own A c 3 1 n (encI xs.reverse)]) := by
 refine ⟨fun w0 w R hst => ?_⟩
 refine en Tryz.func225 Tryz.ntmps225 hst (h := fun F => ?_)
 refine sr ?_
 iterate 5 refine ww ?_
 refine nq ?_
 refine bk ?_
 refine lp (X := RVZ) (I := fun z => z.k ≤ n ∧ RevI xs z.k z.ys) (le := fun z => [(0, .slice A n c), (2, .int .i64 z.k), (3, .int .i64 ((n : Int) - 1 - (z.k : Int)))]) (Le := fun z => .own A c 3 1 n (encI z.ys) :: R) (μ := fun z => n - z.k) ⟨0, xs⟩ ⟨Nat.zero_le _, rev_start xs⟩ (by repeat (first | exact trivial | refine ⟨rfl, ?_⟩ | refine ⟨by show some (Value.int .i64 ((n : Int) - 1)) = some (Value.int .i64 ((n : Int) - 1 - ((0 : Nat) : Int))); congr 2; omega, ?_⟩)) (SubL.refl _) (fun z hz => ?_)
 obtain ⟨hzk, hzr⟩ := hz
 have hyl := hzr.1
 refine sq ?_
 refine sr ?_
 iterate 3 refine ww ?_
 refine nq ?_
 refine czz (fun h0 => ?_) fun h0 => ?_
 ·
  have hk1 : 2 * z.k + 1 < n := by simp only [decide_eq_true_eq] at h0; omega
  obtain ⟨a, ha⟩ : ∃ a, z.ys[z.k]? = some a := ⟨_, List.getElem?_eq_getElem (by omega)⟩
  obtain ⟨b, hb⟩ : ∃ b, z.ys[n - 1 - z.k]? = some b := ⟨_, List.getElem?_eq_getElem (by omega)⟩
  have hj : ((n : Int) - 1 - (z.k : Int)).toNat = n - 1 - z.k := by omega
  have hnx := rev_step hzr (by omega) ha (by rw [hlen]; exact hb)
  rw [hlen] at hnx
  have hka : (encI z.ys)[((z.k : Nat) : Int).toNat]? = some [.int .i64 a] := encI_at ha
  have hkb : (encI z.ys)[((n : Int) - 1 - (z.k : Int)).toNat]? = some [.int .i64 b] := by rw [hj]; exact encI_at hb
  have hk2 : ((encI z.ys).set ((z.k : Nat) : Int).toNat ([Value.int .i64 a].set 0 (.int .i64 b)))[((n : Int) - 1 - (z.k : Int)).toNat]? = some [.int .i64 b] := by
   rw [hj, List.getElem?_set_ne (by show z.k ≠ n - 1 - z.k; omega)]; exact encI_at hb
  have hsw : ((encI z.ys).set ((z.k : Nat) : Int).toNat ([Value.int .i64 a].set 0 (.int .i64 b))).set ((n : Int) - 1 - (z.k : Int)).toNat ([Value.int .i64 b].set 0 (.int .i64 a)) = encI ((z.ys.set z.k b).set (n - 1 - z.k) a) := by
   rw [hj]
   show ((encI _).set z.k [.int .i64 b]).set (n - 1 - z.k) [.int .i64 a] = _
   rw [encI_set, encI_set]
  refine skp ?_
  refine q_seq ?_
  refine sq ?_
  refine bk ?_
  refine WC.some_ (A := A) atz_ (by omega) (fun hAs => ?_)
  refine rgD (by kernel_rfl) [(13, .own A c 3 1 n (encI z.ys))] (by repeat (first | exact HS.nil | (apply HS.keep; (repeat (first | exact At.here | apply At.there))) | (apply HS.ro; (repeat (first | exact Rds.ro | exact Rds.own | apply Rds.there))))) (h := ?_)
  refine tw 0 ?_
  refine tw 1 ?_
  refine tw 2 ?_
  refine tw 3 ?_
  refine tw 4 ?_
  refine tw 5 ?_
  refine tk 6 (hy := ix (A := A) (m := n)) (h := ?_)
  refine tk 7 (hy := ldE (A := A) (hk := hkb)) (h := ?_)
  refine tw 8 ?_
  refine tw 9 ?_
  refine tk 10 (hy := ixS (A := A) (m := n) (hs := hAs)) (h := ?_)
  refine tk 11 (hy := ldE (A := A) (hk := hka)) (h := ?_)
  refine tk 12 (hy := ixS (A := A) (m := n) (hs := hAs)) (h := ?_)
  refine one 13 (h := ?_)
  refine stE (A := A) (hk := hka) (h := ?_)
  refine nx (h := ?_)
  refine one 14 (h := ?_)
  refine wy (ix (A := A) (m := n)) ?_
  refine nx (h := ?_)
  refine one 15 (h := ?_)
  refine stE (A := A) (hk := hk2) (h := ?_)
  refine nx (h := ?_)
  refine dn (h := ?_)
  refine q_blk_norm ?_
  refine q_seq ?_
  refine rg ?_
  iterate 6 refine ww ?_
  refine nl ?_
  rw [hsw]
  refine rn (x := z) ⟨z.k + 1, (z.ys.set z.k b).set (n - 1 - z.k) a⟩ ⟨by dsimp only; omega, hnx⟩ (by dsimp only; omega) (by repeat (first | exact trivial | refine ⟨rfl, ?_⟩ | refine ⟨by show some (Value.int .i64 ((n : Int) - 1 - (z.k : Int) - 1)) = some (Value.int .i64 ((n : Int) - 1 - ((z.k + 1 : Nat) : Int))); congr 2; omega, ?_⟩)) slz_
 ·
  have hk1 : n ≤ 2 * z.k + 1 := by simp only [decide_eq_false_iff_not] at h0; omega
  have he := rev_end hzr (by omega)
  refine et ?_
  iterate 2 refine q_then_exit ?_
  refine q_blk_hit ?_
  refine q_end (hR := ?_)
  exact fun w hS => ⟨(), trivial, rfl, by rw [he] at hS; exact hS.sub slz_⟩

theorem row_none {N : List Nd} {x : Nd} {r : List Int} (h : RowN N x r) (hb : x.bf = none) : r = [] := by
 cases h with
 | nil _ => rfl
 | snoc _ h2 _ => rw [hb] at h2; cases h2
theorem row_some {N : List Nd} {x : Nd} {r : List Int} {b : Nat} (h : RowN N x r) (hb : x.bf = some b) : ∃ y r', y ∈ N ∧ y.b = b ∧ RowN N y r' ∧ r = r' ++ [x.sd] := by
 cases h with
 | nil h2 => rw [hb] at h2; cases h2
 | snoc hy h2 hr => rw [hb] at h2; exact ⟨_, _, hy, (Option.some.inj h2).symm, hr, rfl⟩
structure RWS where
 (x : Nd) (A : Option Addr) (c : Nat) (r q : List Int)
theorem T_node_row (N : List Nd) (mn : Nat → Pr) (x : Nd) (hx : x ∈ N) (r : List Int) (hr : RowN N x r) (hn : r.length ≤ 1000) : Tr Tryz.prog 219 [bp x.b] [poolE 255 N mn none] (fun _ : Option Addr × Nat => True) (fun p => .slice p.1 r.length p.2) (fun p => [.own p.1 p.2 3 1 r.length (encI r), poolE 255 N mn none]) := by
 refine ⟨fun w0 w R hst => ?_⟩
 refine en Tryz.func219 Tryz.ntmps219 hst (h := fun F => ?_)
 refine sr ?_
 refine ww ?_
 refine nr ?_
 refine ww ?_
 refine WL.nilOwn 3 1 (h := ?_)
 refine nq ?_
 refine sq ?_
 refine bk ?_
 refine lp (X := RWS) (I := fun z => z.x ∈ N ∧ RowN N z.x z.r ∧ r = z.r ++ z.q.reverse) (le := fun z => [(0, bp z.x.b), (3, .slice z.A z.q.length z.c)]) (Le := fun z => .own z.A z.c 3 1 z.q.length (encI z.q) :: poolE 255 N mn none :: R) (μ := fun z => z.r.length) ⟨x, none, 0, r, []⟩ ⟨hx, hr, by rw [List.reverse_nil, List.append_nil]⟩ sbz_ slz_ (fun z hz => ?_)
 obtain ⟨hzx, hzr, hzq⟩ := hz
 have hzl : z.q.length ≤ 1000 := by
  have := congrArg List.length hzq
  rw [List.length_append, List.length_reverse] at this; omega
 refine sq ?_
 refine sr ?_
 iterate 3 refine ww ?_
 refine wy (ldQ (hy := hzx)) ?_
 refine wy (neqN (by kernel_rfl)) ?_
 refine nq ?_
 refine czz (fun h0 => ?_) fun h0 => ?_
 ·
  obtain ⟨b', hb'⟩ := Option.isSome_iff_exists.1 h0
  obtain ⟨y, r', hy, hyb, hyr, hre⟩ := row_some hzr hb'
  refine skp ?_
  refine q_seq ?_
  refine sq ?_
  refine bk ?_
  refine rg ?_
  iterate 4 refine ww ?_
  refine wy (ldQ (hy := hzx)) ?_
  refine bs (h := fun b0 => ?_)
  refine ap (es := encI z.q) (m := z.q.length) (A := z.A) (c := z.c) (h := fun A1 c1 => ?_)
  refine ww ?_
  refine nl ?_
  refine q_blk_norm ?_
  refine q_seq ?_
  refine rg ?_
  iterate 3 refine ww ?_
  refine wy (ldQ (hy := hzx)) ?_
  refine ww ?_
  refine nl ?_
  refine rn (x := z) ⟨y, A1, c1, r', z.q ++ [z.x.sd]⟩ ⟨hy, hyr, by rw [hzq, hre, List.reverse_append]; simp⟩ (by dsimp only; rw [hre, List.length_append, List.length_singleton]; omega) (by rw [List.length_append]; repeat (first | exact trivial | refine ⟨rfl, ?_⟩ | refine ⟨by rw [hyb]; show some (bpO z.x.bf) = _; rw [hb']; rfl, ?_⟩)) (by rw [List.length_append, show encI (z.q ++ [z.x.sd]) = encI z.q ++ [[.int .i64 z.x.sd]] from List.map_append]; exact slz_)
 ·
  have hbn : z.x.bf = none := by simpa using h0
  have hr0 := row_none hzr hbn
  have hq : z.q.reverse = r := by rw [hr0] at hzq; rw [hzq]; rfl
  have hql : z.q.length = r.length := by rw [← hq, List.length_reverse]
  refine et ?_
  iterate 2 refine q_then_exit ?_
  refine q_blk_hit ?_
  refine q_seq ?_
  refine sr ?_
  refine ww ?_
  refine clT (hc := T_Reverse z.q z.A z.q.length z.c rfl (by omega)) (h := fun _ _ => ?_)
  refine nr ?_
  iterate 2 refine ww ?_
  refine nq ?_
  refine rtn ?_
  refine q_ret (hR := ?_)
  rw [hql, hq]
  exact fun w hS => ⟨(z.A, z.c), trivial, rfl, hS.sub slz_⟩
end Go.Proofs.YthkliiifllhacaaGreat

namespace Go.Proofs.YthkliiifllhacaaGreat
open Go Go.RowKit

abbrev MC := Array MapEntry × Nat
theorem flL_ints : ∀ xs : List Int, FlL (xs.map vI) (xs.map Fl.i)
 | [] => .nil
 | _ :: xs => .int (flL_ints xs)
theorem flL_spot (s : Spot) : FlL (spotC s) (spotF s) := flL_ints [s.first, (s.st.length : Int), (ep s 0).1, (ep s 0).2, (ep s 1).1, (ep s 1).2, (ep s 2).1, (ep s 2).2, (ep s 3).1, (ep s 3).2, (ep s 4).1, (ep s 4).2, s.g.1, s.g.2, s.p.1, s.p.2]
set_option maxRecDepth 100000 in
theorem T_put_old (N ns : List Nd) (mn : Nat → Pr) (x o : Nd) (bm : Nat) (es : Array MapEntry) (c : Nat) (hm : MapIs es (crE ns)) (hs : Stm es c) (hn : (N.map (·.b)).Nodup) (h5 : ∀ y ∈ N, y.s.st.length ≤ 5) (hN : ∀ y ∈ ns, y ∈ N) (hx : x ∈ N) (hg : getN ns x.s = some o) :
  Tr Tryz.prog 166 [.map (some bm), bp x.b] [poolE 255 N mn none, .obj bm (.map es c)] (fun p : MC => MapIs p.1 (crE (putNs ns x)) ∧ Stm p.1 p.2) (fun _ => .tuple #[]) (fun p => [poolE 255 N (putM ns mn x) none, .obj bm (.map p.1 p.2)]) := by
 refine ⟨fun w0 w R hst => ?_⟩
 have hoN := hN o (getN_some hg).1
 have hl : lkp (crE ns) (spotF x.s) = some (bp o.b) := by rw [lkp_cr (fun y hy => h5 y (hN y hy)) (h5 x hx), hg]; rfl
 have hM : putM ns mn x = upN mn o.b (min (mn o.b).1 (mn x.b).1, max (mn o.b).2 (mn x.b).2) := by unfold putM; rw [hg]
 have hS : putNs ns x = ns := by unfold putNs; rw [hg]
 refine en Tryz.func166 Tryz.ntmps166 hst (h := fun F => ?_)
 refine sq ?_
 refine sr ?_
 iterate 4 refine ww ?_
 refine wy (ldQA (hy := hx)) ?_
 refine wy (lkC (kv := crE ns) (hm := hm) (hs := crE_shape ns) (hl := flL_spot x.s)) ?_
 rw [hl]
 iterate 5 refine ww ?_
 refine nr ?_
 refine ww ?_
 refine nq ?_
 refine cdT (h := ?_)
 refine sq ?_
 refine rgD (by kernel_rfl) [(26, poolE 255 N mn none)] (by repeat (first | exact HS.nil | (apply HS.keep; (repeat (first | exact At.here | apply At.there))) | (apply HS.ro; (repeat (first | exact Rds.ro | exact Rds.own | apply Rds.there))))) (h := ?_)
 refine tw 0 ?_
 refine tw 1 ?_
 refine tw 2 ?_
 refine tw 3 ?_
 refine tw 4 ?_
 refine tk 5 (hy := ldQ (hy := hoN)) (h := ?_)
 refine tw 6 ?_
 refine tw 7 ?_
 refine tw 8 ?_
 refine tw 9 ?_
 refine tk 10 (hy := ldQ (hy := hx)) (h := ?_)
 refine tw 11 ?_
 refine tw 12 ?_
 refine tw 13 ?_
 refine tw 14 ?_
 refine tw 15 ?_
 refine tk 16 (hy := ldQ (hy := hoN)) (h := ?_)
 refine tw 17 ?_
 refine tw 18 ?_
 refine tw 19 ?_
 refine tw 20 ?_
 refine tk 21 (hy := ldQ (hy := hx)) (h := ?_)
 refine tw 22 ?_
 refine tw 23 ?_
 refine tw 24 ?_
 refine tw 25 ?_
 refine one 26 (h := ?_)
 refine stQ (v := (min (mn o.b).1 (mn x.b).1, max (mn o.b).2 (mn x.b).2)) (ho := hoN) (hn := hn) (h := ?_)
 refine nx (h := ?_)
 refine dn (h := ?_)
 refine q_seq ?_
 refine rtn ?_
 refine q_then_ret ?_
 refine q_ret (hR := ?_)
 rw [hM, hS]
 exact fun w hS => ⟨(es, c), ⟨hm, hs⟩, rfl, hS.sub slz_⟩
set_option maxRecDepth 100000 in
theorem T_put_new (N ns : List Nd) (mn : Nat → Pr) (x : Nd) (bm : Nat) (es : Array MapEntry) (c : Nat) (hm : MapIs es (crE ns)) (hs : Stm es c) (h5 : ∀ y ∈ N, y.s.st.length ≤ 5) (hN : ∀ y ∈ ns, y ∈ N) (hx : x ∈ N) (hg : getN ns x.s = none) :
  Tr Tryz.prog 166 [.map (some bm), bp x.b] [poolE 255 N mn none, .obj bm (.map es c)] (fun p : MC => MapIs p.1 (crE (putNs ns x)) ∧ Stm p.1 p.2) (fun _ => .tuple #[]) (fun p => [poolE 255 N (putM ns mn x) none, .obj bm (.map p.1 p.2)]) := by
 refine ⟨fun w0 w R hst => ?_⟩
 have hl : lkp (crE ns) (spotF x.s) = none := by rw [lkp_cr (fun y hy => h5 y (hN y hy)) (h5 x hx), hg]; rfl
 have hM : putM ns mn x = mn := by unfold putM; rw [hg]
 have hS : putNs ns x = ns ++ [x] := by unfold putNs; rw [hg]
 have hU := upd_cr (fun y hy => h5 y (hN y hy)) (h5 x hx) hg
 refine en Tryz.func166 Tryz.ntmps166 hst (h := fun F => ?_)
 refine sq ?_
 refine sr ?_
 iterate 4 refine ww ?_
 refine wy (ldQA (hy := hx)) ?_
 refine wy (lkC (kv := crE ns) (hm := hm) (hs := crE_shape ns) (hl := flL_spot x.s)) ?_
 rw [hl]
 iterate 5 refine ww ?_
 refine nr ?_
 refine ww ?_
 refine nq ?_
 refine cdF (h := ?_)
 refine skp ?_
 refine q_seq ?_
 refine rg ?_
 iterate 4 refine ww ?_
 refine wy (ldQA (hy := hx)) ?_
 refine ww ?_
 refine mupS (kv := crE ns) (hm := hm) (hs := crE_shape ns) (hst0 := hs) (hl := flL_spot x.s) (h := fun es1 c1 hm1 hs1 => ?_)
 rw [show updM (crE ns) _ _ = _ from hU] at hm1
 refine nl ?_
 refine q_end (hR := ?_)
 rw [hM, hS]
 exact fun w hS => ⟨(es1, c1), ⟨hm1, hs1⟩, rfl, hS.sub slz_⟩
theorem T_put (N ns : List Nd) (mn : Nat → Pr) (x : Nd) (bm : Nat) (es : Array MapEntry) (c : Nat) (hm : MapIs es (crE ns)) (hs : Stm es c) (hn : (N.map (·.b)).Nodup) (h5 : ∀ y ∈ N, y.s.st.length ≤ 5) (hN : ∀ y ∈ ns, y ∈ N) (hx : x ∈ N) :
  Tr Tryz.prog 166 [.map (some bm), bp x.b] [poolE 255 N mn none, .obj bm (.map es c)] (fun p : MC => MapIs p.1 (crE (putNs ns x)) ∧ Stm p.1 p.2) (fun _ => .tuple #[]) (fun p => [poolE 255 N (putM ns mn x) none, .obj bm (.map p.1 p.2)]) := by
 cases hg : getN ns x.s with
 | some o => exact T_put_old N ns mn x o bm es c hm hs hn h5 hN hx hg
 | none => exact T_put_new N ns mn x bm es c hm hs h5 hN hx hg
end Go.Proofs.YthkliiifllhacaaGreat

namespace Go.Proofs.YthkliiifllhacaaGreat
open Go Go.RowKit

abbrev cardC (f : Fmt) (first : Int) (A : Option Addr) (n c : Nat) : List Value := [.int .i64 f.sets, .int .i64 f.games, .bool f.noAd, .int .i64 f.tie, .int .i64 f.to, .int .i64 f.ltie, .int .i64 f.lto, .int .i64 f.first, .int .i64 f.thn, .bool f.dbl, .int .i64 first, .slice A n c]
theorem ret_next {w0 w : World} {R : List Ent} {T : TypeId} {N : List Nd} {mn : Nat → Pr} {b bx : Nat} {cells : List Value} {u : Spot} {side : Int} {v : Pr} (h : St w0 w (.blk b T cells :: poolE T N mn none :: R)) (hc : cells = nodeC ⟨b, u, some bx, side⟩ v) :
  ∃ k : Nat, (∀ y ∈ N, y.b ≠ k) ∧ Ending.returned (bp b) = Ending.returned (bp k) ∧ St w0 w ([poolE T (⟨k, u, some bx, side⟩ :: N) (upN mn k v) none] ++ R) := by
 subst hc
 have := St.pNew (x := ⟨b, u, some bx, side⟩) h
 exact ⟨b, this.1, rfl, this.2⟩
theorem pair_eq2 (a b c d : Int) : decide ([a, b] = [c, d]) = (decide (a = c) && decide (b = d)) := by
 rw [Bool.eq_iff_iff, Bool.and_eq_true, decide_eq_true_eq, decide_eq_true_eq, decide_eq_true_eq]
 simp
theorem set_cond (f : Fmt) (won : Pr) : (decide (won.1 = won.2) && decide (won.1 = f.sets - 1)) = (decide (won.1 = f.sets - 1) && decide (won.2 = f.sets - 1)) := by
 rw [Bool.eq_iff_iff, Bool.and_eq_true, Bool.and_eq_true, decide_eq_true_eq, decide_eq_true_eq, decide_eq_true_eq]
 omega
theorem put_sets {s : Spot} (h : s.st.length ≤ 4) (o : Value) (g p q : Pr) : putAll [.int .i64 s.first, o, .int .i64 (ep s 0).1, .int .i64 (ep s 0).2, .int .i64 (ep s 1).1, .int .i64 (ep s 1).2, .int .i64 (ep s 2).1, .int .i64 (ep s 2).2, .int .i64 (ep s 3).1, .int .i64 (ep s 3).2, .int .i64 (ep s 4).1, .int .i64 (ep s 4).2, .int .i64 g.1, .int .i64 g.2, .int .i64 p.1, .int .i64 p.2] (2 + ((s.st.length : Int)).toNat * 2) [.int .i64 q.1, .int .i64 q.2]
  = [.int .i64 s.first, o, .int .i64 ((s.st ++ [q]).getD 0 (0, 0)).1, .int .i64 ((s.st ++ [q]).getD 0 (0, 0)).2, .int .i64 ((s.st ++ [q]).getD 1 (0, 0)).1, .int .i64 ((s.st ++ [q]).getD 1 (0, 0)).2, .int .i64 ((s.st ++ [q]).getD 2 (0, 0)).1, .int .i64 ((s.st ++ [q]).getD 2 (0, 0)).2, .int .i64 ((s.st ++ [q]).getD 3 (0, 0)).1, .int .i64 ((s.st ++ [q]).getD 3 (0, 0)).2, .int .i64 ((s.st ++ [q]).getD 4 (0, 0)).1, .int .i64 ((s.st ++ [q]).getD 4 (0, 0)).2, .int .i64 g.1, .int .i64 g.2, .int .i64 p.1, .int .i64 p.2] := by
 obtain ⟨fs, st, g', p'⟩ := s
 match st, h with
 | [], _ => rfl
 | [_], _ => rfl
 | [_, _], _ => rfl
 | [_, _, _], _ => rfl
 | [_, _, _, _], _ => rfl
 | _ :: _ :: _ :: _ :: _ :: _, h => simp at h
set_option maxRecDepth 100000 in
theorem T_next_none (f : Fmt) (cf : Int) (A : Option Addr) (n c : Nat) (N : List Nd) (mn : Nat → Pr) (x : Nd) (side : Int) (h5 : x.s.st.length ≤ 5) (hx : x ∈ N) (hn : nxtS f x.s side = none) :
  Tr Tryz.prog 201 [.agg (cardC f cf A n c).toArray, bp x.b, .int .i64 side] [poolE 255 N mn none] (fun _ : Unit => True) (fun _ => .pointer none) (fun _ => [poolE 255 N mn none]) := by
 refine ⟨fun w0 w R hst => ?_⟩
 have htop : topS x.s = f.sets := by
  by_cases e : topS x.s = f.sets
  ·
   exact e
  ·
   rw [nxtS, decide_eq_false e] at hn; cases hn
 refine en Tryz.func201 Tryz.ntmps201 hst (h := fun F => ?_)
 refine sr ?_
 refine bxA (h := fun b0 => ?_)
 refine ww ?_
 refine nr ?_
 iterate 3 refine ww ?_
 refine wy (ldQA (hy := hx)) ?_
 refine cl0 (hc := fun w hS => C_spot_won x.s h5 w) (h := ?_)
 refine al (h := fun b1 => ?_)
 first | refine stA (h := ?_) | refine stEA (h := ?_)
 refine nq ?_
 refine sq ?_
 refine sr ?_
 iterate 10 refine ww ?_
 refine nq ?_
 refine czz (fun h0 => ?_) fun h0 => ?_
 ·
  refine sr ?_
  refine ww ?_
  refine nq ?_
  refine rtn ?_
  refine q_then_ret ?_
  refine q_ret (hR := ?_)
  exact fun w hS => ⟨(), trivial, rfl, hS.sub slz_⟩
 ·
  exact absurd htop (of_decide_eq_false h0)
end Go.Proofs.YthkliiifllhacaaGreat

namespace Go.Proofs.YthkliiifllhacaaGreat
open Go Go.RowKit

set_option maxRecDepth 100000 in
set_option maxHeartbeats 1000000 in
theorem T_next_some (f : Fmt) (hf : f.Ok) (cf : Int) (A : Option Addr) (n c : Nat) (N : List Nd) (mn : Nat → Pr) (x : Nd) (side : Int) (hs : side = 0 ∨ side = 1) (K : Int) (hK : K ≤ 10000) (hP : PoolOk f N mn K) (hx : x ∈ N) (u : Spot) (hn : nxtS f x.s side = some u) :
  Tr Tryz.prog 201 [.agg (cardC f cf A n c).toArray, bp x.b, .int .i64 side] [poolE 255 N mn none] (fun k : Nat => ∀ y ∈ N, y.b ≠ k) (fun k => bp k) (fun k => [poolE 255 (⟨k, u, some x.b, side⟩ :: N) (upN mn k ((mn x.b).1 + 1, (mn x.b).2 + 1)) none]) := by
 refine ⟨fun w0 w R hst => ?_⟩
 have hxo := hP.ok x hx
 have hB := hxo.bd hf
 have h5 := hB.len hf
 have hlo := hxo.lo
 have hhi := hxo.hi
 have hg := hB.g
 have hp := hB.p
 have hw := hB.won
 have hsum := (won_sum x.s.st).1
 have hs0 := hf.s0
 have hs1 := hf.s1
 have htop : topS x.s ≠ f.sets := fun e => by rw [nxtS, decide_eq_true e] at hn; cases hn
 have hu : stepS f x.s side = u := by rw [nxtS, decide_eq_false htop] at hn; exact Option.some.inj hn
 have hgm : Sm x.s.g := ⟨by omega, by omega⟩
 have hpm : Sm x.s.p := ⟨by omega, by omega⟩
 have hga := addV_rng side hg
 have hpa := addV_rng side hp
 have hgam : Sm (addV x.s.g side) := ⟨by omega, by omega⟩
 have hpam : Sm (addV x.s.p side) := ⟨by omega, by omega⟩
 have hl4 : x.s.st.length ≤ 4 := by
  have : max (wonV x.s.st).1 (wonV x.s.st).2 ≠ f.sets := htop
  omega
 have hle : (((x.s.st ++ [addV x.s.g side]).length : Nat) : Int) = (x.s.st.length : Int) + 1 := by rw [List.length_append]; rfl
 refine en Tryz.func201 Tryz.ntmps201 hst (h := fun F => ?_)
 refine sr ?_
 refine bxA (h := fun b0 => ?_)
 refine ww ?_
 refine nr ?_
 iterate 3 refine ww ?_
 refine wy (ldQA (hy := hx)) ?_
 refine cl0 (hc := fun w hS => C_spot_won x.s h5 w) (h := ?_)
 refine al (h := fun b1 => ?_)
 first | refine stA (h := ?_) | refine stEA (h := ?_)
 refine nq ?_
 refine sq ?_
 refine sr ?_
 iterate 10 refine ww ?_
 refine nq ?_
 refine czz (fun h0 => ?_) fun h0 => ?_
 ·
  exact absurd (of_decide_eq_true h0) htop
 ·
  refine skp ?_
  refine q_seq ?_
  refine ct (X := Nat × Nat) (fun _ => True) (fun q => [(1, bp x.b), (2, .int .i64 side), (3, .pointer (some ⟨b0, 0, none⟩)), (7, .pointer (some ⟨b1, 0, none⟩)), (8, .pointer (some ⟨q.1, 0, none⟩)), (9, .pointer (some ⟨q.2, 0, none⟩))]) (fun q => .blk q.2 73 [.int .i64 f.tie, .int .i64 f.to] :: .blk q.1 143 (spotC x.s) :: .blk b1 73 [.int .i64 (wonV x.s.st).1, .int .i64 (wonV x.s.st).2] :: .blk b0 197 (cardC f cf A n c) :: poolE 255 N mn none :: R) (h1 := ?_) (h2 := ?_)
  ·
   refine rgD (by kernel_rfl) [(1000000, poolE 255 N mn none), (1000000, .blk b0 197 (cardC f cf A n c))] (by repeat (first | exact HS.nil | (apply HS.keep; (repeat (first | exact At.here | apply At.there))) | (apply HS.ro; (repeat (first | exact Rds.ro | exact Rds.own | apply Rds.there))))) (h := ?_)
   refine tw 0 ?_
   refine tw 1 ?_
   refine tw 2 ?_
   refine tk 3 (hy := ldQA (hy := hx)) (h := ?_)
   refine tw 4 ?_
   refine tw 5 ?_
   refine tw 6 ?_
   refine tw 7 ?_
   refine tw 8 ?_
   refine tw 9 ?_
   refine tw 10 ?_
   refine tw 11 ?_
   refine tw 12 ?_
   refine two 13 14 (h1 := ?_) (h2 := ?_)
   ·
    refine al (h := fun b2 => ?_)
    refine nx (h := ?_)
    refine one 14 (h := ?_)
    refine al (h := fun b3 => ?_)
    refine nx (h := ?_)
    refine one 15 (h := ?_)
    first | refine stA (h := ?_) | refine stEA (h := ?_)
    refine nx (h := ?_)
    refine one 16 (h := ?_)
    first | refine stA (h := ?_) | refine stEA (h := ?_)
    refine nx (h := ?_)
    refine dn (h := ?_)
    exact ctn (_, _) trivial sbz_ slz_
   ·
    refine al (h := fun b4 => ?_)
    refine nx (h := ?_)
    refine one 13 (h := ?_)
    refine al (h := fun b5 => ?_)
    refine nx (h := ?_)
    refine one 15 (h := ?_)
    first | refine stA (h := ?_) | refine stEA (h := ?_)
    refine nx (h := ?_)
    refine one 16 (h := ?_)
    first | refine stA (h := ?_) | refine stEA (h := ?_)
    refine nx (h := ?_)
    refine dn (h := ?_)
    exact ctn (_, _) trivial sbz_ slz_
  rintro ⟨b2, b3⟩ -
  refine ct (X := Unit) (fun _ => True) (fun _ => [(1, bp x.b), (2, .int .i64 side), (3, .pointer (some ⟨b0, 0, none⟩)), (8, .pointer (some ⟨b2, 0, none⟩)), (9, .pointer (some ⟨b3, 0, none⟩))]) (fun _ => .blk b3 73 [.int .i64 (setV f (wonV x.s.st)).1, .int .i64 (setV f (wonV x.s.st)).2] :: .blk b2 143 (spotC x.s) :: .blk b0 197 (cardC f cf A n c) :: poolE 255 N mn none :: R) (h1 := ?_) (h2 := ?_)
  ·
   refine sr ?_
   iterate 6 refine ww ?_
   apply brAnd 9 46 55 (by exact rfl)
   ·
    intro hb1
    iterate 6 refine uw ?_
    refine uz ?_
    refine wy (subI (hb := by omega)) ?_
    refine uw ?_
    refine ww ?_
    exact mg (by repeat (first | exact trivial | refine ⟨rfl, ?_⟩ | refine ⟨by rw [hb1]; rfl, ?_⟩)) slz_
   ·
    intro hb1
    repeat (first | refine uz ?_ | refine kz ?_ | refine wz ?_)
    exact mg (by repeat (first | exact trivial | refine ⟨rfl, ?_⟩ | refine ⟨by rw [hb1]; rfl, ?_⟩)) slz_
   refine nq ?_
   refine czz (fun h2 => ?_) fun h2 => ?_
   ·
    have hset : setV f (wonV x.s.st) = (f.ltie, f.lto) := by
     have h' : (decide ((wonV x.s.st).1 = (wonV x.s.st).2) && decide ((wonV x.s.st).1 = f.sets - 1)) = true := h2
     rw [set_cond] at h'
     rw [setV, h']; rfl
    refine rg ?_
    iterate 9 refine ww ?_
    first | refine stA (h := ?_) | refine stEA (h := ?_)
    refine nl ?_
    rw [hset]
    exact ctn () trivial sbz_ slz_
   ·
    have hset : setV f (wonV x.s.st) = (f.tie, f.to) := by
     have h' : (decide ((wonV x.s.st).1 = (wonV x.s.st).2) && decide ((wonV x.s.st).1 = f.sets - 1)) = false := h2
     rw [set_cond] at h'
     rw [setV, h']; rfl
    refine skp ?_
    rw [hset]
    exact ctn () trivial sbz_ slz_
  rintro ⟨⟩ -
  refine sr ?_
  iterate 7 refine ww ?_
  refine wy eqlT ?_
  rw [pair_eq2]
  refine ww ?_
  refine nr ?_
  iterate 3 refine ww ?_
  refine cl0 (hc := fun w hS => C_card_more x.s.p side hpm w) (h := ?_)
  refine ww ?_
  first | refine stA (h := ?_) | refine stEA (h := ?_)
  refine nr ?_
  refine ww ?_
  refine WL.cut (by repeat (first | exact Cut.nil | apply Cut.hit | apply Cut.miss (by exact rfl))) ?_
  refine ww ?_
  refine WL.cut (by repeat (first | exact Cut.nil | apply Cut.hit | apply Cut.miss (by exact rfl))) ?_
  refine nq ?_
  refine sq ?_
  refine bk ?_
  refine sr ?_
  iterate 2 refine ww ?_
  refine nq ?_
  refine czz (fun h3 => ?_) fun h3 => ?_
  ·
   have hT : tieS f x.s = true := h3
   have hleast : leastS f x.s = (setV f (wonV x.s.st)).2 := by rw [leastS, hT]; rfl
   have hby : byS f x.s = 2 := by rw [byS, hT]; rfl
   refine rg ?_
   iterate 3 refine ww ?_
   refine WL.cut (by repeat (first | exact Cut.nil | apply Cut.hit | apply Cut.miss (by exact rfl))) ?_
   refine nl ?_
   refine q_blk_norm ?_
   refine q_seq ?_
   refine sq ?_
   refine sr ?_
   iterate 5 refine ww ?_
   refine cl0 (hc := fun w hS => C_card_leads (addV x.s.p side) side _ _ hpam w) (h := ?_)
   refine nq ?_
   refine czz (fun h4 => ?_) fun h4 => ?_
   ·
    have hG : gotS f x.s side = true := by rw [gotS, hleast, hby]; exact h4
    refine sr ?_
    iterate 4 refine ww ?_
    refine cl0 (hc := fun w hS => C_card_more x.s.g side hgm w) (h := ?_)
    refine ww ?_
    first | refine stA (h := ?_) | refine stEA (h := ?_)
    refine ww ?_
    first | refine stA (h := ?_) | refine stEA (h := ?_)
    refine nr ?_
    iterate 2 refine ww ?_
    apply brOr 9 101 110 (by exact rfl)
    ·
     intro hb5
     iterate 7 refine uw ?_
     refine uz ?_
     refine cl0 (hc := fun w hS => C_card_leads (addV x.s.g side) side f.games 2 hgam w) (h := ?_)
     refine ww ?_
     exact mg (by repeat (first | exact trivial | refine ⟨rfl, ?_⟩ | refine ⟨by rw [hb5]; rfl, ?_⟩)) slz_
    ·
     intro hb5
     repeat (first | refine uz ?_ | refine kz ?_ | refine wz ?_)
     exact mg (by repeat (first | exact trivial | refine ⟨rfl, ?_⟩ | refine ⟨by rw [hb5]; rfl, ?_⟩)) slz_
    refine nq ?_
    refine czz (fun h6 => ?_) fun h6 => ?_
    ·
     have hE : endS' f x.s side = true := by unfold endS'; exact h6
     obtain rfl : u = ⟨x.s.first, x.s.st ++ [addV x.s.g side], (0, 0), (0, 0)⟩ := by rw [← hu, stepS, hG, hE]; rfl
     refine sr ?_
     iterate 5 refine ww ?_
     refine wy (ixA (hb := by omega)) ?_
     refine stP (vs := [.int .i64 (addV x.s.g side).1, .int .i64 (addV x.s.g side).2]) (h1 := by simp [Value.oneCell']) (hsz := rfl) (ho := by show 0 + 2 + ((x.s.st.length : Int)).toNat * 2 + 2 ≤ 16; omega) (h := ?_)
     refine WL.blkTo _ .here (put_sets hl4 _ (addV x.s.g side) (0, 0) (addV x.s.g side)) ?_
     refine nr ?_
     iterate 2 refine ww ?_
     first | refine stA (h := ?_) | refine stEA (h := ?_)
     refine nq ?_
     refine rg ?_
     iterate 4 refine ww ?_
     first | refine st (h := ?_) | refine stE (h := ?_)
     refine nq ?_
     refine sq ?_
     refine rgD (by kernel_rfl) [(1000000, poolE 255 N mn none), (1000000, .blk b2 143 _)] (by repeat (first | exact HS.nil | (apply HS.keep; (repeat (first | exact At.here | apply At.there))) | (apply HS.ro; (repeat (first | exact Rds.ro | exact Rds.own | apply Rds.there))))) (h := ?_)
     refine tw 0 ?_
     refine tw 1 ?_
     refine tw 2 ?_
     refine tw 3 ?_
     refine tw 4 ?_
     refine tw 5 ?_
     refine tw 6 ?_
     refine tk 7 (hy := ldQ (hy := hx)) (h := ?_)
     refine tk 8 (hy := addI (hb := by omega)) (h := ?_)
     refine tw 9 ?_
     refine tw 10 ?_
     refine tw 11 ?_
     refine tw 12 ?_
     refine tk 13 (hy := ldQ (hy := hx)) (h := ?_)
     refine tk 14 (hy := addI (hb := by omega)) (h := ?_)
     refine tw 15 ?_
     refine tw 16 ?_
     refine one 17 (h := ?_)
     refine bxA (h := fun b6 => ?_)
     refine nx (h := ?_)
     refine tw 18 ?_
     refine dn (h := ?_)
     refine q_seq ?_
     refine rtn ?_
     refine q_ret (hR := ?_)
     intro w hS
     have hS2 := hS.sub (L' := .blk _ 255 _ :: poolE 255 N mn none :: R) slz_
     first
      | exact ret_next hS2 rfl
      | exact ret_next hS2 (by rw [← hle]; rfl)
    ·
     have hE : endS' f x.s side = false := by unfold endS'; exact h6
     obtain rfl : u = ⟨x.s.first, x.s.st, addV x.s.g side, (0, 0)⟩ := by rw [← hu, stepS, hG, hE]; rfl
     refine skp ?_
     refine q_seq ?_
     refine sq ?_
     refine rgD (by kernel_rfl) [(1000000, poolE 255 N mn none), (1000000, .blk b2 143 _)] (by repeat (first | exact HS.nil | (apply HS.keep; (repeat (first | exact At.here | apply At.there))) | (apply HS.ro; (repeat (first | exact Rds.ro | exact Rds.own | apply Rds.there))))) (h := ?_)
     refine tw 0 ?_
     refine tw 1 ?_
     refine tw 2 ?_
     refine tw 3 ?_
     refine tw 4 ?_
     refine tw 5 ?_
     refine tw 6 ?_
     refine tk 7 (hy := ldQ (hy := hx)) (h := ?_)
     refine tk 8 (hy := addI (hb := by omega)) (h := ?_)
     refine tw 9 ?_
     refine tw 10 ?_
     refine tw 11 ?_
     refine tw 12 ?_
     refine tk 13 (hy := ldQ (hy := hx)) (h := ?_)
     refine tk 14 (hy := addI (hb := by omega)) (h := ?_)
     refine tw 15 ?_
     refine tw 16 ?_
     refine one 17 (h := ?_)
     refine bxA (h := fun b7 => ?_)
     refine nx (h := ?_)
     refine tw 18 ?_
     refine dn (h := ?_)
     refine q_seq ?_
     refine rtn ?_
     refine q_ret (hR := ?_)
     intro w hS
     have hS2 := hS.sub (L' := .blk _ 255 _ :: poolE 255 N mn none :: R) slz_
     first
      | exact ret_next hS2 rfl
      | exact ret_next hS2 (by rw [← hle]; rfl)
   ·
    have hG : gotS f x.s side = false := by rw [gotS, hleast, hby]; exact h4
    obtain rfl : u = ⟨x.s.first, x.s.st, x.s.g, addV x.s.p side⟩ := by rw [← hu, stepS, hG]; rfl
    refine skp ?_
    refine q_seq ?_
    refine sq ?_
    refine rgD (by kernel_rfl) [(1000000, poolE 255 N mn none), (1000000, .blk b2 143 _)] (by repeat (first | exact HS.nil | (apply HS.keep; (repeat (first | exact At.here | apply At.there))) | (apply HS.ro; (repeat (first | exact Rds.ro | exact Rds.own | apply Rds.there))))) (h := ?_)
    refine tw 0 ?_
    refine tw 1 ?_
    refine tw 2 ?_
    refine tw 3 ?_
    refine tw 4 ?_
    refine tw 5 ?_
    refine tw 6 ?_
    refine tk 7 (hy := ldQ (hy := hx)) (h := ?_)
    refine tk 8 (hy := addI (hb := by omega)) (h := ?_)
    refine tw 9 ?_
    refine tw 10 ?_
    refine tw 11 ?_
    refine tw 12 ?_
    refine tk 13 (hy := ldQ (hy := hx)) (h := ?_)
    refine tk 14 (hy := addI (hb := by omega)) (h := ?_)
    refine tw 15 ?_
    refine tw 16 ?_
    refine one 17 (h := ?_)
    refine bxA (h := fun b8 => ?_)
    refine nx (h := ?_)
    refine tw 18 ?_
    refine dn (h := ?_)
    refine q_seq ?_
    refine rtn ?_
    refine q_ret (hR := ?_)
    intro w hS
    have hS2 := hS.sub (L' := .blk _ 255 _ :: poolE 255 N mn none :: R) slz_
    first
     | exact ret_next hS2 rfl
     | exact ret_next hS2 (by rw [← hle]; rfl)
  ·
   have hT : tieS f x.s = false := h3
   have hleast : leastS f x.s = 4 := by rw [leastS, hT]; rfl
   refine sr ?_
   iterate 5 refine ww ?_
   refine nq ?_
   refine czz (fun h7 => ?_) fun h7 => ?_
   ·
    have hby : byS f x.s = 1 := by rw [byS, hT, h7]; rfl
    refine rg ?_
    refine ww ?_
    refine WL.cut (by repeat (first | exact Cut.nil | apply Cut.hit | apply Cut.miss (by exact rfl))) ?_
    refine nl ?_
    refine q_blk_norm ?_
    refine q_seq ?_
    refine sq ?_
    refine sr ?_
    iterate 5 refine ww ?_
    refine cl0 (hc := fun w hS => C_card_leads (addV x.s.p side) side _ _ hpam w) (h := ?_)
    refine nq ?_
    refine czz (fun h8 => ?_) fun h8 => ?_
    ·
     have hG : gotS f x.s side = true := by rw [gotS, hleast, hby]; exact h8
     refine sr ?_
     iterate 4 refine ww ?_
     refine cl0 (hc := fun w hS => C_card_more x.s.g side hgm w) (h := ?_)
     refine ww ?_
     first | refine stA (h := ?_) | refine stEA (h := ?_)
     refine ww ?_
     first | refine stA (h := ?_) | refine stEA (h := ?_)
     refine nr ?_
     iterate 2 refine ww ?_
     apply brOr 9 101 110 (by exact rfl)
     ·
      intro hb9
      iterate 7 refine uw ?_
      refine uz ?_
      refine cl0 (hc := fun w hS => C_card_leads (addV x.s.g side) side f.games 2 hgam w) (h := ?_)
      refine ww ?_
      exact mg (by repeat (first | exact trivial | refine ⟨rfl, ?_⟩ | refine ⟨by rw [hb9]; rfl, ?_⟩)) slz_
     ·
      intro hb9
      repeat (first | refine uz ?_ | refine kz ?_ | refine wz ?_)
      exact mg (by repeat (first | exact trivial | refine ⟨rfl, ?_⟩ | refine ⟨by rw [hb9]; rfl, ?_⟩)) slz_
     refine nq ?_
     refine czz (fun h10 => ?_) fun h10 => ?_
     ·
      have hE : endS' f x.s side = true := by unfold endS'; exact h10
      obtain rfl : u = ⟨x.s.first, x.s.st ++ [addV x.s.g side], (0, 0), (0, 0)⟩ := by rw [← hu, stepS, hG, hE]; rfl
      refine sr ?_
      iterate 5 refine ww ?_
      refine wy (ixA (hb := by omega)) ?_
      refine stP (vs := [.int .i64 (addV x.s.g side).1, .int .i64 (addV x.s.g side).2]) (h1 := by simp [Value.oneCell']) (hsz := rfl) (ho := by show 0 + 2 + ((x.s.st.length : Int)).toNat * 2 + 2 ≤ 16; omega) (h := ?_)
      refine WL.blkTo _ .here (put_sets hl4 _ (addV x.s.g side) (0, 0) (addV x.s.g side)) ?_
      refine nr ?_
      iterate 2 refine ww ?_
      first | refine stA (h := ?_) | refine stEA (h := ?_)
      refine nq ?_
      refine rg ?_
      iterate 4 refine ww ?_
      first | refine st (h := ?_) | refine stE (h := ?_)
      refine nq ?_
      refine sq ?_
      refine rgD (by kernel_rfl) [(1000000, poolE 255 N mn none), (1000000, .blk b2 143 _)] (by repeat (first | exact HS.nil | (apply HS.keep; (repeat (first | exact At.here | apply At.there))) | (apply HS.ro; (repeat (first | exact Rds.ro | exact Rds.own | apply Rds.there))))) (h := ?_)
      refine tw 0 ?_
      refine tw 1 ?_
      refine tw 2 ?_
      refine tw 3 ?_
      refine tw 4 ?_
      refine tw 5 ?_
      refine tw 6 ?_
      refine tk 7 (hy := ldQ (hy := hx)) (h := ?_)
      refine tk 8 (hy := addI (hb := by omega)) (h := ?_)
      refine tw 9 ?_
      refine tw 10 ?_
      refine tw 11 ?_
      refine tw 12 ?_
      refine tk 13 (hy := ldQ (hy := hx)) (h := ?_)
      refine tk 14 (hy := addI (hb := by omega)) (h := ?_)
      refine tw 15 ?_
      refine tw 16 ?_
      refine one 17 (h := ?_)
      refine bxA (h := fun b9 => ?_)
      refine nx (h := ?_)
      refine tw 18 ?_
      refine dn (h := ?_)
      refine q_seq ?_
      refine rtn ?_
      refine q_ret (hR := ?_)
      intro w hS
      have hS2 := hS.sub (L' := .blk _ 255 _ :: poolE 255 N mn none :: R) slz_
      first
       | exact ret_next hS2 rfl
       | exact ret_next hS2 (by rw [← hle]; rfl)
     ·
      have hE : endS' f x.s side = false := by unfold endS'; exact h10
      obtain rfl : u = ⟨x.s.first, x.s.st, addV x.s.g side, (0, 0)⟩ := by rw [← hu, stepS, hG, hE]; rfl
      refine skp ?_
      refine q_seq ?_
      refine sq ?_
      refine rgD (by kernel_rfl) [(1000000, poolE 255 N mn none), (1000000, .blk b2 143 _)] (by repeat (first | exact HS.nil | (apply HS.keep; (repeat (first | exact At.here | apply At.there))) | (apply HS.ro; (repeat (first | exact Rds.ro | exact Rds.own | apply Rds.there))))) (h := ?_)
      refine tw 0 ?_
      refine tw 1 ?_
      refine tw 2 ?_
      refine tw 3 ?_
      refine tw 4 ?_
      refine tw 5 ?_
      refine tw 6 ?_
      refine tk 7 (hy := ldQ (hy := hx)) (h := ?_)
      refine tk 8 (hy := addI (hb := by omega)) (h := ?_)
      refine tw 9 ?_
      refine tw 10 ?_
      refine tw 11 ?_
      refine tw 12 ?_
      refine tk 13 (hy := ldQ (hy := hx)) (h := ?_)
      refine tk 14 (hy := addI (hb := by omega)) (h := ?_)
      refine tw 15 ?_
      refine tw 16 ?_
      refine one 17 (h := ?_)
      refine bxA (h := fun b10 => ?_)
      refine nx (h := ?_)
      refine tw 18 ?_
      refine dn (h := ?_)
      refine q_seq ?_
      refine rtn ?_
      refine q_ret (hR := ?_)
      intro w hS
      have hS2 := hS.sub (L' := .blk _ 255 _ :: poolE 255 N mn none :: R) slz_
      first
       | exact ret_next hS2 rfl
       | exact ret_next hS2 (by rw [← hle]; rfl)
    ·
     have hG : gotS f x.s side = false := by rw [gotS, hleast, hby]; exact h8
     obtain rfl : u = ⟨x.s.first, x.s.st, x.s.g, addV x.s.p side⟩ := by rw [← hu, stepS, hG]; rfl
     refine skp ?_
     refine q_seq ?_
     refine sq ?_
     refine rgD (by kernel_rfl) [(1000000, poolE 255 N mn none), (1000000, .blk b2 143 _)] (by repeat (first | exact HS.nil | (apply HS.keep; (repeat (first | exact At.here | apply At.there))) | (apply HS.ro; (repeat (first | exact Rds.ro | exact Rds.own | apply Rds.there))))) (h := ?_)
     refine tw 0 ?_
     refine tw 1 ?_
     refine tw 2 ?_
     refine tw 3 ?_
     refine tw 4 ?_
     refine tw 5 ?_
     refine tw 6 ?_
     refine tk 7 (hy := ldQ (hy := hx)) (h := ?_)
     refine tk 8 (hy := addI (hb := by omega)) (h := ?_)
     refine tw 9 ?_
     refine tw 10 ?_
     refine tw 11 ?_
     refine tw 12 ?_
     refine tk 13 (hy := ldQ (hy := hx)) (h := ?_)
     refine tk 14 (hy := addI (hb := by omega)) (h := ?_)
     refine tw 15 ?_
     refine tw 16 ?_
     refine one 17 (h := ?_)
     refine bxA (h := fun b11 => ?_)
     refine nx (h := ?_)
     refine tw 18 ?_
     refine dn (h := ?_)
     refine q_seq ?_
     refine rtn ?_
     refine q_ret (hR := ?_)
     intro w hS
     have hS2 := hS.sub (L' := .blk _ 255 _ :: poolE 255 N mn none :: R) slz_
     first
      | exact ret_next hS2 rfl
      | exact ret_next hS2 (by rw [← hle]; rfl)
   ·
    have hby : byS f x.s = 2 := by rw [byS, hT, h7]; rfl
    refine skp ?_
    refine q_blk_norm ?_
    refine q_seq ?_
    refine sq ?_
    refine sr ?_
    iterate 5 refine ww ?_
    refine cl0 (hc := fun w hS => C_card_leads (addV x.s.p side) side _ _ hpam w) (h := ?_)
    refine nq ?_
    refine czz (fun h11 => ?_) fun h11 => ?_
    ·
     have hG : gotS f x.s side = true := by rw [gotS, hleast, hby]; exact h11
     refine sr ?_
     iterate 4 refine ww ?_
     refine cl0 (hc := fun w hS => C_card_more x.s.g side hgm w) (h := ?_)
     refine ww ?_
     first | refine stA (h := ?_) | refine stEA (h := ?_)
     refine ww ?_
     first | refine stA (h := ?_) | refine stEA (h := ?_)
     refine nr ?_
     iterate 2 refine ww ?_
     apply brOr 9 101 110 (by exact rfl)
     ·
      intro hb12
      iterate 7 refine uw ?_
      refine uz ?_
      refine cl0 (hc := fun w hS => C_card_leads (addV x.s.g side) side f.games 2 hgam w) (h := ?_)
      refine ww ?_
      exact mg (by repeat (first | exact trivial | refine ⟨rfl, ?_⟩ | refine ⟨by rw [hb12]; rfl, ?_⟩)) slz_
     ·
      intro hb12
      repeat (first | refine uz ?_ | refine kz ?_ | refine wz ?_)
      exact mg (by repeat (first | exact trivial | refine ⟨rfl, ?_⟩ | refine ⟨by rw [hb12]; rfl, ?_⟩)) slz_
     refine nq ?_
     refine czz (fun h13 => ?_) fun h13 => ?_
     ·
      have hE : endS' f x.s side = true := by unfold endS'; exact h13
      obtain rfl : u = ⟨x.s.first, x.s.st ++ [addV x.s.g side], (0, 0), (0, 0)⟩ := by rw [← hu, stepS, hG, hE]; rfl
      refine sr ?_
      iterate 5 refine ww ?_
      refine wy (ixA (hb := by omega)) ?_
      refine stP (vs := [.int .i64 (addV x.s.g side).1, .int .i64 (addV x.s.g side).2]) (h1 := by simp [Value.oneCell']) (hsz := rfl) (ho := by show 0 + 2 + ((x.s.st.length : Int)).toNat * 2 + 2 ≤ 16; omega) (h := ?_)
      refine WL.blkTo _ .here (put_sets hl4 _ (addV x.s.g side) (0, 0) (addV x.s.g side)) ?_
      refine nr ?_
      iterate 2 refine ww ?_
      first | refine stA (h := ?_) | refine stEA (h := ?_)
      refine nq ?_
      refine rg ?_
      iterate 4 refine ww ?_
      first | refine st (h := ?_) | refine stE (h := ?_)
      refine nq ?_
      refine sq ?_
      refine rgD (by kernel_rfl) [(1000000, poolE 255 N mn none), (1000000, .blk b2 143 _)] (by repeat (first | exact HS.nil | (apply HS.keep; (repeat (first | exact At.here | apply At.there))) | (apply HS.ro; (repeat (first | exact Rds.ro | exact Rds.own | apply Rds.there))))) (h := ?_)
      refine tw 0 ?_
      refine tw 1 ?_
      refine tw 2 ?_
      refine tw 3 ?_
      refine tw 4 ?_
      refine tw 5 ?_
      refine tw 6 ?_
      refine tk 7 (hy := ldQ (hy := hx)) (h := ?_)
      refine tk 8 (hy := addI (hb := by omega)) (h := ?_)
      refine tw 9 ?_
      refine tw 10 ?_
      refine tw 11 ?_
      refine tw 12 ?_
      refine tk 13 (hy := ldQ (hy := hx)) (h := ?_)
      refine tk 14 (hy := addI (hb := by omega)) (h := ?_)
      refine tw 15 ?_
      refine tw 16 ?_
      refine one 17 (h := ?_)
      refine bxA (h := fun b12 => ?_)
      refine nx (h := ?_)
      refine tw 18 ?_
      refine dn (h := ?_)
      refine q_seq ?_
      refine rtn ?_
      refine q_ret (hR := ?_)
      intro w hS
      have hS2 := hS.sub (L' := .blk _ 255 _ :: poolE 255 N mn none :: R) slz_
      first
       | exact ret_next hS2 rfl
       | exact ret_next hS2 (by rw [← hle]; rfl)
     ·
      have hE : endS' f x.s side = false := by unfold endS'; exact h13
      obtain rfl : u = ⟨x.s.first, x.s.st, addV x.s.g side, (0, 0)⟩ := by rw [← hu, stepS, hG, hE]; rfl
      refine skp ?_
      refine q_seq ?_
      refine sq ?_
      refine rgD (by kernel_rfl) [(1000000, poolE 255 N mn none), (1000000, .blk b2 143 _)] (by repeat (first | exact HS.nil | (apply HS.keep; (repeat (first | exact At.here | apply At.there))) | (apply HS.ro; (repeat (first | exact Rds.ro | exact Rds.own | apply Rds.there))))) (h := ?_)
      refine tw 0 ?_
      refine tw 1 ?_
      refine tw 2 ?_
      refine tw 3 ?_
      refine tw 4 ?_
      refine tw 5 ?_
      refine tw 6 ?_
      refine tk 7 (hy := ldQ (hy := hx)) (h := ?_)
      refine tk 8 (hy := addI (hb := by omega)) (h := ?_)
      refine tw 9 ?_
      refine tw 10 ?_
      refine tw 11 ?_
      refine tw 12 ?_
      refine tk 13 (hy := ldQ (hy := hx)) (h := ?_)
      refine tk 14 (hy := addI (hb := by omega)) (h := ?_)
      refine tw 15 ?_
      refine tw 16 ?_
      refine one 17 (h := ?_)
      refine bxA (h := fun b13 => ?_)
      refine nx (h := ?_)
      refine tw 18 ?_
      refine dn (h := ?_)
      refine q_seq ?_
      refine rtn ?_
      refine q_ret (hR := ?_)
      intro w hS
      have hS2 := hS.sub (L' := .blk _ 255 _ :: poolE 255 N mn none :: R) slz_
      first
       | exact ret_next hS2 rfl
       | exact ret_next hS2 (by rw [← hle]; rfl)
    ·
     have hG : gotS f x.s side = false := by rw [gotS, hleast, hby]; exact h11
     obtain rfl : u = ⟨x.s.first, x.s.st, x.s.g, addV x.s.p side⟩ := by rw [← hu, stepS, hG]; rfl
     refine skp ?_
     refine q_seq ?_
     refine sq ?_
     refine rgD (by kernel_rfl) [(1000000, poolE 255 N mn none), (1000000, .blk b2 143 _)] (by repeat (first | exact HS.nil | (apply HS.keep; (repeat (first | exact At.here | apply At.there))) | (apply HS.ro; (repeat (first | exact Rds.ro | exact Rds.own | apply Rds.there))))) (h := ?_)
     refine tw 0 ?_
     refine tw 1 ?_
     refine tw 2 ?_
     refine tw 3 ?_
     refine tw 4 ?_
     refine tw 5 ?_
     refine tw 6 ?_
     refine tk 7 (hy := ldQ (hy := hx)) (h := ?_)
     refine tk 8 (hy := addI (hb := by omega)) (h := ?_)
     refine tw 9 ?_
     refine tw 10 ?_
     refine tw 11 ?_
     refine tw 12 ?_
     refine tk 13 (hy := ldQ (hy := hx)) (h := ?_)
     refine tk 14 (hy := addI (hb := by omega)) (h := ?_)
     refine tw 15 ?_
     refine tw 16 ?_
     refine one 17 (h := ?_)
     refine bxA (h := fun b14 => ?_)
     refine nx (h := ?_)
     refine tw 18 ?_
     refine dn (h := ?_)
     refine q_seq ?_
     refine rtn ?_
     refine q_ret (hR := ?_)
     intro w hS
     have hS2 := hS.sub (L' := .blk _ 255 _ :: poolE 255 N mn none :: R) slz_
     first
      | exact ret_next hS2 rfl
      | exact ret_next hS2 (by rw [← hle]; rfl)
end Go.Proofs.YthkliiifllhacaaGreat

namespace Go.Proofs.YthkliiifllhacaaGreat
open Go Go.RowKit

structure CrIs (N ns : List Nd) (es : Array MapEntry) (c : Nat) : Prop where
 m : MapIs es (crE ns)
 s : Stm es c
 sub : ∀ y ∈ ns, y ∈ N
 keys : (spotKs ns).Nodup
theorem CrIs.nil (N : List Nd) : CrIs N [] #[] 0 := ⟨mapIs0, stm0, fun y hy => (by cases hy), List.nodup_nil⟩
theorem CrIs.up {N N' ns : List Nd} {es : Array MapEntry} {c : Nat} (h : CrIs N ns es c) (hs : ∀ y ∈ N, y ∈ N') : CrIs N' ns es c := ⟨h.m, h.s, fun y hy => hs y (h.sub y hy), h.keys⟩
theorem CrIs.put {N ns : List Nd} {es es' : Array MapEntry} {c c' : Nat} {x : Nd} (h : CrIs N ns es c) (hx : x ∈ N) (hm : MapIs es' (crE (putNs ns x)) ∧ Stm es' c') : CrIs N (putNs ns x) es' c' :=
 ⟨hm.1, hm.2, fun y hy => by rcases putNs_mem hy with h2 | h2; exact h.sub y h2; exact h2 ▸ hx, putNs_keys h.keys⟩
abbrev ndKV (x : Nd) : KV := (.agg (spotC x.s).toArray, bp x.b)
theorem cr_kv {N ns : List Nd} {es : Array MapEntry} {c : Nat} (h : CrIs N ns es c) : es.toList.map kvOf = ns.map ndKV := by
 have := h.m
 unfold MapIs at this
 rw [show es.toList.map kvOf = es.toList.map (fun e => (e.key, e.val)) from rfl, this, crE, List.map_map]
 rfl
theorem todo_nd {todo : List KV} {ts : List Nd} {o : Option KV} {todo' : List KV} (ht : todo.Perm (ts.map ndKV)) (h : NxO todo o todo') : (o = none ∧ ts = [] ∧ todo'.Perm (([] : List Nd).map ndKV)) ∨ ∃ x ts', o = some (ndKV x) ∧ ts.Perm (x :: ts') ∧ todo'.Perm (ts'.map ndKV) := by
 cases o with
 | none =>
  obtain ⟨rfl, rfl⟩ := h
  have := ht.nil_eq
  left
  refine ⟨rfl, ?_, .refl _⟩
  cases ts with
  | nil => rfl
  | cons _ _ => cases this
 | some kv =>
  right
  have hp : (kv :: todo').Perm (ts.map ndKV) := (show todo.Perm (kv :: todo') from h).symm.trans ht
  have hm : kv ∈ ts.map ndKV := hp.subset List.mem_cons_self
  obtain ⟨x, hx, rfl⟩ := List.mem_map.1 hm
  obtain ⟨l1, l2, rfl⟩ := List.append_of_mem hx
  refine ⟨x, l1 ++ l2, rfl, List.perm_middle, ?_⟩
  have : (ndKV x :: todo').Perm (ndKV x :: (l1 ++ l2).map ndKV) := hp.trans (by
   rw [List.map_append, List.map_cons, List.map_append]
   exact List.perm_middle)
  exact (List.perm_cons _).1 this

theorem T_reader_score (f : Fmt) (cf : Int) (A : Option Addr) (n c : Nat) (N : List Nd) (mn : Nat → Pr) (x : Nd) (hx : x ∈ N) (r : List Int) (hr : RowN N x r) (hrl : r.length ≤ 600) :
  Tr Tryz.prog 203 [.agg (cardC f cf A n c).toArray, bp x.b] [poolE 255 N mn none] (fun _ : Option Addr × Nat => True) (fun p => (scO (playO f x.s.first r)).val p.1 p.2) (fun p => [.own p.1 p.2 73 2 (scO (playO f x.s.first r)).st.length (encP (scO (playO f x.s.first r)).st), poolE 255 N mn none]) := by
 refine ⟨fun w0 w R hst => ?_⟩
 refine en Tryz.func203 Tryz.ntmps203 hst (h := fun F => ?_)
 refine sr ?_
 refine bxA (h := fun b0 => ?_)
 refine al (h := fun b1 => ?_)
 refine nq ?_
 refine sq ?_
 refine rgD (by kernel_rfl) [(1000000, poolE 255 N mn none), (1000000, .blk b0 197 (cardC f cf A n c))] (by repeat (first | exact HS.nil | (apply HS.keep; (repeat (first | exact At.here | apply At.there))) | (apply HS.ro; (repeat (first | exact Rds.ro | exact Rds.own | apply Rds.there))))) (h := ?_)
 refine tw 0 ?_
 refine tw 1 ?_
 refine tw 2 ?_
 refine tw 3 ?_
 refine tw 4 ?_
 refine tw 5 ?_
 refine tw 6 ?_
 refine tk 7 (hy := ldQ (hy := hx)) (h := ?_)
 refine tw 8 ?_
 refine two 9 14 (h1 := ?_) (h2 := ?_)
 ·
  refine clT (hc := T_node_row N mn x hx r hr (by omega)) (h := fun p1 _ => ?_)
  refine nx (h := ?_)
  refine two 10 14 (h1 := ?_) (h2 := ?_)
  ·
   refine cl (hc := fun w hS => C_score_Play f x.s.first r _ _ _ w (hS.get rdz_) (by omega)) (h := fun p2 _ => ?_)
   refine nx (h := ?_)
   refine tw 11 ?_
   refine tw 12 ?_
   refine tw 13 ?_
   refine one 14 (h := ?_)
   refine al (h := fun b2 => ?_)
   refine nx (h := ?_)
   refine one 15 (h := ?_)
   first | refine stA (h := ?_) | refine stEA (h := ?_)
   refine nx (h := ?_)
   refine tw 16 ?_
   refine dn (h := ?_)
   refine q_seq ?_
   refine sr ?_
   refine ww ?_
   first | refine stA (h := ?_) | refine stEA (h := ?_)
   refine nq ?_
   refine rtn ?_
   refine q_ret (hR := ?_)
   exact fun w hS => ⟨p2, trivial, rfl, hS.sub slz_⟩
  ·
   refine al (h := fun b3 => ?_)
   refine nx (h := ?_)
   refine one 10 (h := ?_)
   refine cl (hc := fun w hS => C_score_Play f x.s.first r _ _ _ w (hS.get rdz_) (by omega)) (h := fun p2 _ => ?_)
   refine nx (h := ?_)
   refine tw 11 ?_
   refine tw 12 ?_
   refine tw 13 ?_
   refine one 15 (h := ?_)
   first | refine stA (h := ?_) | refine stEA (h := ?_)
   refine nx (h := ?_)
   refine tw 16 ?_
   refine dn (h := ?_)
   refine q_seq ?_
   refine sr ?_
   refine ww ?_
   first | refine stA (h := ?_) | refine stEA (h := ?_)
   refine nq ?_
   refine rtn ?_
   refine q_ret (hR := ?_)
   exact fun w hS => ⟨p2, trivial, rfl, hS.sub slz_⟩
 ·
  refine al (h := fun b4 => ?_)
  refine nx (h := ?_)
  refine one 9 (h := ?_)
  refine clT (hc := T_node_row N mn x hx r hr (by omega)) (h := fun p1 _ => ?_)
  refine nx (h := ?_)
  refine one 10 (h := ?_)
  refine cl (hc := fun w hS => C_score_Play f x.s.first r _ _ _ w (hS.get rdz_) (by omega)) (h := fun p2 _ => ?_)
  refine nx (h := ?_)
  refine tw 11 ?_
  refine tw 12 ?_
  refine tw 13 ?_
  refine one 15 (h := ?_)
  first | refine stA (h := ?_) | refine stEA (h := ?_)
  refine nx (h := ?_)
  refine tw 16 ?_
  refine dn (h := ?_)
  refine q_seq ?_
  refine sr ?_
  refine ww ?_
  first | refine stA (h := ?_) | refine stEA (h := ?_)
  refine nq ?_
  refine rtn ?_
  refine q_ret (hR := ?_)
  exact fun w hS => ⟨p2, trivial, rfl, hS.sub slz_⟩
abbrev Nt.val (x : Nt) : Value := .agg #[.int .i64 x.kind, .int .i64 x.side, .int .i64 x.pair.1, .int .i64 x.pair.2]
abbrev Nt.cells (x : Nt) : List Value := [.int .i64 x.kind, .int .i64 x.side, .int .i64 x.pair.1, .int .i64 x.pair.2]
theorem dec_pr (a b : Pr) : (decide (a.1 = b.1) && decide (a.2 = b.2)) = decide (a = b) := by
 rw [Bool.eq_iff_iff, Bool.and_eq_true, decide_eq_true_eq, decide_eq_true_eq, decide_eq_true_eq]
 exact ⟨fun h => Prod.ext h.1 h.2, fun h => by rw [h]; exact ⟨rfl, rfl⟩⟩
set_option maxRecDepth 100000 in
theorem T_reader_holds (f : Fmt) (hf : f.Ok) (hc0 : chkF f = 0) (cf : Int) (A : Option Addr) (n c : Nat) (N : List Nd) (mn : Nat → Pr) (K : Int) (hK : K ≤ 600) (hP : PoolOk f N mn K) (x : Nd) (hx : x ∈ N) (t : Nt) :
  Tr Tryz.prog 168 [.agg (cardC f cf A n c).toArray, t.val, bp x.b] [poolE 255 N mn none] (fun _ : Unit => True) (fun _ => .bool (holdS f t x.s)) (fun _ => [poolE 255 N mn none]) := by
 refine ⟨fun w0 w R hst => ?_⟩
 have hxo := hP.ok x hx
 have h5 := hxo.len hf
 obtain ⟨r, hr, hrk, _⟩ := hxo.row
 obtain ⟨m, hm⟩ := hxo.play hf hc0 hK hP.nd hr
 have hrl : r.length ≤ 600 := by omega
 have hsc : (scO (playO f x.s.first r)).server = srvS f x.s ∧ (scO (playO f x.s.first r)).winner = winS f x.s := by rw [hm.o]; exact ⟨hm.sv, hm.w⟩
 have eP : decide ([x.s.p.1, x.s.p.2] = [t.pair.1, t.pair.2]) = decide (x.s.p = t.pair) := by rw [pair_eq2, dec_pr]
 have eG : decide ([x.s.g.1, x.s.g.2] = [t.pair.1, t.pair.2]) = decide (x.s.g = t.pair) := by rw [pair_eq2, dec_pr]
 have eW : decide ([(wonV x.s.st).1, (wonV x.s.st).2] = [t.pair.1, t.pair.2]) = decide (wonV x.s.st = t.pair) := by rw [pair_eq2, dec_pr]
 have zP : decide ([x.s.p.1, x.s.p.2] = [(0 : Int), 0]) = decide (x.s.p = (0, 0)) := by rw [pair_eq2]; exact dec_pr x.s.p (0, 0)
 have zG : decide ([x.s.g.1, x.s.g.2] = [(0 : Int), 0]) = decide (x.s.g = (0, 0)) := by rw [pair_eq2]; exact dec_pr x.s.g (0, 0)
 refine en Tryz.func168 Tryz.ntmps168 hst (h := fun F => ?_)
 refine sr ?_
 refine bxA (h := fun b0 => ?_)
 refine bxA (h := fun b1 => ?_)
 refine ww ?_
 refine nr ?_
 refine ww ?_
 refine al (h := fun b2 => ?_)
 first | refine stA (h := ?_) | refine stEA (h := ?_)
 refine nq ?_
 refine sq ?_
 refine sr ?_
 iterate 2 refine ww ?_
 refine nq ?_
 refine bk ?_
 refine sr ?_
 iterate 2 refine ww ?_
 refine nq ?_
 refine czz (fun h0 => ?_) fun h0 => ?_
 ·
  have hH : holdS f t x.s = decide (x.s.p = t.pair) := by rw [holdS, h0]; rfl
  refine sq ?_
  refine rgD (by kernel_rfl) [(1000000, poolE 255 N mn none), (1000000, .blk b1 75 t.cells)] (by repeat (first | exact HS.nil | (apply HS.keep; (repeat (first | exact At.here | apply At.there))) | (apply HS.ro; (repeat (first | exact Rds.ro | exact Rds.own | apply Rds.there))))) (h := ?_)
  refine tw 0 ?_
  refine tw 1 ?_
  refine tw 2 ?_
  refine tw 3 ?_
  refine tk 4 (hy := ldQA (hy := hx)) (h := ?_)
  refine tw 5 ?_
  refine tw 6 ?_
  refine tk 7 (hy := eqlT) (h := ?_)
  refine tw 8 ?_
  refine dn (h := ?_)
  refine q_seq ?_
  refine rtn ?_
  refine q_blk_ret ?_
  refine q_then_ret ?_
  refine q_ret (hR := ?_)
  rw [hH]
  first
   | (rw [← eP]; exact fun w hS => ⟨(), trivial, rfl, hS.sub slz_⟩)
   | (rw [← eG, ← zP, kA]; exact fun w hS => ⟨(), trivial, rfl, hS.sub slz_⟩)
   | (rw [← eW, ← zG, ← zP, kA, kB]; exact fun w hS => ⟨(), trivial, rfl, hS.sub slz_⟩)
   | (rw [← eW, ← zG, ← zP, kA]; exact fun w hS => ⟨(), trivial, rfl, hS.sub slz_⟩)
   | (rw [← hsc.1]; exact fun w hS => ⟨(), trivial, rfl, hS.sub slz_⟩)
   | (rw [← hsc.2]; exact fun w hS => ⟨(), trivial, rfl, hS.sub slz_⟩)
 ·
  have n3 := h0
  refine sr ?_
  iterate 2 refine ww ?_
  refine nq ?_
  refine czz (fun h1 => ?_) fun h1 => ?_
  ·
   have hH : holdS f t x.s = (decide (x.s.g = t.pair) && decide (x.s.p = (0, 0))) := by rw [holdS, n3, h1]; rfl
   refine sq ?_
   refine rgD (by kernel_rfl) [(1000000, poolE 255 N mn none), (1000000, .blk b1 75 t.cells), (1000000, .blk b2 73 [.int .i64 0, .int .i64 0])] (by repeat (first | exact HS.nil | (apply HS.keep; (repeat (first | exact At.here | apply At.there))) | (apply HS.ro; (repeat (first | exact Rds.ro | exact Rds.own | apply Rds.there))))) (h := ?_)
   refine tw 0 ?_
   refine tw 1 ?_
   refine tw 2 ?_
   refine tw 3 ?_
   refine tk 4 (hy := ldQA (hy := hx)) (h := ?_)
   refine tw 5 ?_
   refine tw 6 ?_
   refine tk 7 (hy := eqlT) (h := ?_)
   refine tw 8 ?_
   refine brH (g := 32) (by exact rfl) (fun hb2 => ?_) (fun hb2 => ?_)
   ·
    have kA := hb2
    refine tw 9 ?_
    refine tw 10 ?_
    refine tw 11 ?_
    refine tw 12 ?_
    refine tk 13 (hy := ldQA (hy := hx)) (h := ?_)
    refine tw 14 ?_
    refine tk 15 (hy := eqlT) (h := ?_)
    refine tw 16 ?_
    refine tw 17 ?_
    refine dn (h := ?_)
    refine q_seq ?_
    refine rtn ?_
    refine q_blk_ret ?_
    refine q_then_ret ?_
    refine q_ret (hR := ?_)
    rw [hH]
    first
     | (rw [← eP]; exact fun w hS => ⟨(), trivial, rfl, hS.sub slz_⟩)
     | (rw [← eG, ← zP, kA]; exact fun w hS => ⟨(), trivial, rfl, hS.sub slz_⟩)
     | (rw [← eW, ← zG, ← zP, kA, kB]; exact fun w hS => ⟨(), trivial, rfl, hS.sub slz_⟩)
     | (rw [← eW, ← zG, ← zP, kA]; exact fun w hS => ⟨(), trivial, rfl, hS.sub slz_⟩)
     | (rw [← hsc.1]; exact fun w hS => ⟨(), trivial, rfl, hS.sub slz_⟩)
     | (rw [← hsc.2]; exact fun w hS => ⟨(), trivial, rfl, hS.sub slz_⟩)
   ·
    have kA := hb2
    refine tkS 9 (h := ?_)
    refine tkS 10 (h := ?_)
    refine tkS 11 (h := ?_)
    refine tkS 12 (h := ?_)
    refine tkS 13 (h := ?_)
    refine tkS 14 (h := ?_)
    refine tkS 15 (h := ?_)
    refine tw 16 ?_
    refine tw 17 ?_
    refine dn (h := ?_)
    refine q_seq ?_
    refine rtn ?_
    refine q_blk_ret ?_
    refine q_then_ret ?_
    refine q_ret (hR := ?_)
    rw [hH]
    first
     | (rw [← eP]; exact fun w hS => ⟨(), trivial, rfl, hS.sub slz_⟩)
     | (rw [← eG, ← zP, kA]; exact fun w hS => ⟨(), trivial, rfl, hS.sub slz_⟩)
     | (rw [← eW, ← zG, ← zP, kA, kB]; exact fun w hS => ⟨(), trivial, rfl, hS.sub slz_⟩)
     | (rw [← eW, ← zG, ← zP, kA]; exact fun w hS => ⟨(), trivial, rfl, hS.sub slz_⟩)
     | (rw [← hsc.1]; exact fun w hS => ⟨(), trivial, rfl, hS.sub slz_⟩)
     | (rw [← hsc.2]; exact fun w hS => ⟨(), trivial, rfl, hS.sub slz_⟩)
  ·
   have n4 := h1
   refine sr ?_
   iterate 2 refine ww ?_
   refine nq ?_
   refine czz (fun h3 => ?_) fun h3 => ?_
   ·
    have hH : holdS f t x.s = (decide (wonV x.s.st = t.pair) && (decide (x.s.g = (0, 0)) && decide (x.s.p = (0, 0)))) := by rw [holdS, n3, n4, h3]; rfl
    refine sq ?_
    refine rgD (by kernel_rfl) [(1000000, poolE 255 N mn none), (1000000, .blk b1 75 t.cells), (1000000, .blk b2 73 [.int .i64 0, .int .i64 0])] (by repeat (first | exact HS.nil | (apply HS.keep; (repeat (first | exact At.here | apply At.there))) | (apply HS.ro; (repeat (first | exact Rds.ro | exact Rds.own | apply Rds.there))))) (h := ?_)
    refine tw 0 ?_
    refine tw 1 ?_
    refine tw 2 ?_
    refine tk 3 (hy := ldQA (hy := hx)) (h := ?_)
    refine tw 5 ?_
    refine tw 6 ?_
    refine one 4 (h := ?_)
    refine cl0 (hc := fun w hS => C_spot_won x.s h5 w) (h := ?_)
    refine nx (h := ?_)
    refine tk 7 (hy := eqlT) (h := ?_)
    refine tw 8 ?_
    refine brH (g := 51) (by exact rfl) (fun hb4 => ?_) (fun hb4 => ?_)
    ·
     have kA := hb4
     refine tw 9 ?_
     refine tw 10 ?_
     refine tw 11 ?_
     refine tw 12 ?_
     refine tk 13 (hy := ldQA (hy := hx)) (h := ?_)
     refine tw 14 ?_
     refine tk 15 (hy := eqlT) (h := ?_)
     refine tw 16 ?_
     refine tw 17 ?_
     refine brH (g := 60) (by exact rfl) (fun hb5 => ?_) (fun hb5 => ?_)
     ·
      have kB := hb5
      refine tw 18 ?_
      refine tw 19 ?_
      refine tw 20 ?_
      refine tw 21 ?_
      refine tk 22 (hy := ldQA (hy := hx)) (h := ?_)
      refine tw 23 ?_
      refine tk 24 (hy := eqlT) (h := ?_)
      refine tw 25 ?_
      refine tw 26 ?_
      refine dn (h := ?_)
      refine q_seq ?_
      refine rtn ?_
      refine q_blk_ret ?_
      refine q_then_ret ?_
      refine q_ret (hR := ?_)
      rw [hH]
      first
       | (rw [← eP]; exact fun w hS => ⟨(), trivial, rfl, hS.sub slz_⟩)
       | (rw [← eG, ← zP, kA]; exact fun w hS => ⟨(), trivial, rfl, hS.sub slz_⟩)
       | (rw [← eW, ← zG, ← zP, kA, kB]; exact fun w hS => ⟨(), trivial, rfl, hS.sub slz_⟩)
       | (rw [← eW, ← zG, ← zP, kA]; exact fun w hS => ⟨(), trivial, rfl, hS.sub slz_⟩)
       | (rw [← hsc.1]; exact fun w hS => ⟨(), trivial, rfl, hS.sub slz_⟩)
       | (rw [← hsc.2]; exact fun w hS => ⟨(), trivial, rfl, hS.sub slz_⟩)
     ·
      have kB := hb5
      refine tkS 18 (h := ?_)
      refine tkS 19 (h := ?_)
      refine tkS 20 (h := ?_)
      refine tkS 21 (h := ?_)
      refine tkS 22 (h := ?_)
      refine tkS 23 (h := ?_)
      refine tkS 24 (h := ?_)
      refine tw 25 ?_
      refine tw 26 ?_
      refine dn (h := ?_)
      refine q_seq ?_
      refine rtn ?_
      refine q_blk_ret ?_
      refine q_then_ret ?_
      refine q_ret (hR := ?_)
      rw [hH]
      first
       | (rw [← eP]; exact fun w hS => ⟨(), trivial, rfl, hS.sub slz_⟩)
       | (rw [← eG, ← zP, kA]; exact fun w hS => ⟨(), trivial, rfl, hS.sub slz_⟩)
       | (rw [← eW, ← zG, ← zP, kA, kB]; exact fun w hS => ⟨(), trivial, rfl, hS.sub slz_⟩)
       | (rw [← eW, ← zG, ← zP, kA]; exact fun w hS => ⟨(), trivial, rfl, hS.sub slz_⟩)
       | (rw [← hsc.1]; exact fun w hS => ⟨(), trivial, rfl, hS.sub slz_⟩)
       | (rw [← hsc.2]; exact fun w hS => ⟨(), trivial, rfl, hS.sub slz_⟩)
    ·
     have kA := hb4
     refine tkS 9 (h := ?_)
     refine tkS 10 (h := ?_)
     refine tkS 11 (h := ?_)
     refine tkS 12 (h := ?_)
     refine tkS 13 (h := ?_)
     refine tkS 14 (h := ?_)
     refine tkS 15 (h := ?_)
     refine tw 16 ?_
     refine tw 17 ?_
     refine tkS 18 (h := ?_)
     refine tkS 19 (h := ?_)
     refine tkS 20 (h := ?_)
     refine tkS 21 (h := ?_)
     refine tkS 22 (h := ?_)
     refine tkS 23 (h := ?_)
     refine tkS 24 (h := ?_)
     refine tw 25 ?_
     refine tw 26 ?_
     refine dn (h := ?_)
     refine q_seq ?_
     refine rtn ?_
     refine q_blk_ret ?_
     refine q_then_ret ?_
     refine q_ret (hR := ?_)
     rw [hH]
     first
      | (rw [← eP]; exact fun w hS => ⟨(), trivial, rfl, hS.sub slz_⟩)
      | (rw [← eG, ← zP, kA]; exact fun w hS => ⟨(), trivial, rfl, hS.sub slz_⟩)
      | (rw [← eW, ← zG, ← zP, kA, kB]; exact fun w hS => ⟨(), trivial, rfl, hS.sub slz_⟩)
      | (rw [← eW, ← zG, ← zP, kA]; exact fun w hS => ⟨(), trivial, rfl, hS.sub slz_⟩)
      | (rw [← hsc.1]; exact fun w hS => ⟨(), trivial, rfl, hS.sub slz_⟩)
      | (rw [← hsc.2]; exact fun w hS => ⟨(), trivial, rfl, hS.sub slz_⟩)
   ·
    have n5 := h3
    refine sr ?_
    iterate 2 refine ww ?_
    refine nq ?_
    refine czz (fun h6 => ?_) fun h6 => ?_
    ·
     have hH : holdS f t x.s = (decide (0 ≤ srvS f x.s) && decide (srvS f x.s % 2 = t.side)) := by rw [holdS, n3, n4, n5, h6]; rfl
     refine sr ?_
     iterate 2 refine ww ?_
     refine clT (hc := T_reader_score f cf A n c N mn x hx r hr hrl) (h := fun p1 _ => ?_)
     refine wy (by first | exact fdv1 | exact fdvA) ?_
     refine ww ?_
     refine nr ?_
     iterate 3 refine ww ?_
     apply brAnd 6 77 83 (by exact rfl)
     ·
      intro hb7
      have hnn := of_decide_eq_true hb7
      iterate 5 refine uw ?_
      refine ww ?_
      exact mg (by repeat (first | exact trivial | refine ⟨rfl, ?_⟩ | refine ⟨by rw [hb7]; rfl, ?_⟩)) slz_
     ·
      intro hb7
      repeat (first | refine uz ?_ | refine kz ?_ | refine wz ?_)
      exact mg (by repeat (first | exact trivial | refine ⟨rfl, ?_⟩ | refine ⟨by rw [hb7]; rfl, ?_⟩)) slz_
     refine ww ?_
     refine nq ?_
     refine rtn ?_
     refine q_blk_ret ?_
     refine q_then_ret ?_
     refine q_ret (hR := ?_)
     rw [hH]
     first
      | (rw [← eP]; exact fun w hS => ⟨(), trivial, rfl, hS.sub slz_⟩)
      | (rw [← eG, ← zP, kA]; exact fun w hS => ⟨(), trivial, rfl, hS.sub slz_⟩)
      | (rw [← eW, ← zG, ← zP, kA, kB]; exact fun w hS => ⟨(), trivial, rfl, hS.sub slz_⟩)
      | (rw [← eW, ← zG, ← zP, kA]; exact fun w hS => ⟨(), trivial, rfl, hS.sub slz_⟩)
      | (rw [← hsc.1]; exact fun w hS => ⟨(), trivial, rfl, hS.sub slz_⟩)
      | (rw [← hsc.2]; exact fun w hS => ⟨(), trivial, rfl, hS.sub slz_⟩)
    ·
     have hH : holdS f t x.s = decide (winS f x.s = t.side) := by rw [holdS, n3, n4, n5, h6]; rfl
     refine skp ?_
     refine q_blk_norm ?_
     refine q_seq ?_
     refine sq ?_
     refine rgD (by kernel_rfl) [(1000000, poolE 255 N mn none), (1000000, .blk b1 75 t.cells), (1000000, .blk b0 197 (cardC f cf A n c))] (by repeat (first | exact HS.nil | (apply HS.keep; (repeat (first | exact At.here | apply At.there))) | (apply HS.ro; (repeat (first | exact Rds.ro | exact Rds.own | apply Rds.there))))) (h := ?_)
     refine tw 0 ?_
     refine tw 1 ?_
     refine tw 4 ?_
     refine tw 5 ?_
     refine one 2 (h := ?_)
     refine clT (hc := T_reader_score f cf A n c N mn x hx r hr hrl) (h := fun p1 _ => ?_)
     refine nx (h := ?_)
     refine tk 3 (hy := (by first | exact fdv1 | exact fdvA)) (h := ?_)
     refine tw 6 ?_
     refine tw 7 ?_
     refine dn (h := ?_)
     refine q_seq ?_
     refine rtn ?_
     refine q_ret (hR := ?_)
     rw [hH]
     first
      | (rw [← eP]; exact fun w hS => ⟨(), trivial, rfl, hS.sub slz_⟩)
      | (rw [← eG, ← zP, kA]; exact fun w hS => ⟨(), trivial, rfl, hS.sub slz_⟩)
      | (rw [← eW, ← zG, ← zP, kA, kB]; exact fun w hS => ⟨(), trivial, rfl, hS.sub slz_⟩)
      | (rw [← eW, ← zG, ← zP, kA]; exact fun w hS => ⟨(), trivial, rfl, hS.sub slz_⟩)
      | (rw [← hsc.1]; exact fun w hS => ⟨(), trivial, rfl, hS.sub slz_⟩)
      | (rw [← hsc.2]; exact fun w hS => ⟨(), trivial, rfl, hS.sub slz_⟩)
end Go.Proofs.YthkliiifllhacaaGreat

namespace Go.Proofs.YthkliiifllhacaaGreat
open Go Go.RowKit

def addN (f : Fmt) (N : List Nd) (x : Nd) (side : Int) (o : Option Nat) : List Nd := match o, nxtS f x.s side with
 | some k, some u => ⟨k, u, some x.b, side⟩ :: N
 | _, _ => N
def addM (mn : Nat → Pr) (x : Nd) (o : Option Nat) : Nat → Pr := match o with
 | some k => upN mn k ((mn x.b).1 + 1, (mn x.b).2 + 1)
 | none => mn
def NxtOk (f : Fmt) (N : List Nd) (x : Nd) (side : Int) (o : Option Nat) : Prop := match o with
 | none => nxtS f x.s side = none
 | some k => (∃ u, nxtS f x.s side = some u) ∧ ∀ y ∈ N, y.b ≠ k
theorem T_nextO (f : Fmt) (hf : f.Ok) (cf : Int) (A : Option Addr) (n c : Nat) (N : List Nd) (mn : Nat → Pr) (x : Nd) (side : Int) (hs : side = 0 ∨ side = 1) (K : Int) (hK : K ≤ 10000) (hP : PoolOk f N mn K) (hx : x ∈ N) :
  Tr Tryz.prog 201 [.agg (cardC f cf A n c).toArray, bp x.b, .int .i64 side] [poolE 255 N mn none] (NxtOk f N x side) (fun o => bpO o) (fun o => [poolE 255 (addN f N x side o) (addM mn x o) none]) := by
 cases hn : nxtS f x.s side with
 | none =>
  have h := T_next_none f cf A n c N mn x side ((hP.ok x hx).len hf) hx hn
  exact ⟨fun w0 w R hst => (h.out w0 w R hst).mono fun e w' ⟨_, _, he, hs⟩ => ⟨none, hn, he, hs⟩⟩
 | some u =>
  have h := T_next_some f hf cf A n c N mn x side hs K hK hP hx u hn
  refine ⟨fun w0 w R hst => (h.out w0 w R hst).mono fun e w' ⟨k, hk, he, hs⟩ => ⟨some k, ⟨⟨u, hn⟩, hk⟩, he, ?_⟩⟩
  show St w0 w' ([poolE _ (addN f N x side (some k)) (addM mn x (some k)) none] ++ R)
  rw [show addN f N x side (some k) = ⟨k, u, some x.b, side⟩ :: N by simp only [addN, hn]]
  exact hs

theorem norm_snoc (l : List En) (e : En) : normC (l ++ [e]) = putC (normC l) e := by unfold normC; rw [List.foldl_append]; rfl
abbrev ndE (mn : Nat → Pr) (x : Nd) : En := (x.s, ((mn x.b).1, (mn x.b).2, 0))
def partE (f : Fmt) (side : Int) (e : En) : Nat → List En
 | 0 => []
 | k + 1 => partE f side e k ++ goE f side e k
theorem part_two (f : Fmt) (side : Int) (e : En) : partE f side e 2 = goE f side e 0 ++ goE f side e 1 := by
 show (([] : List En) ++ goE f side e ((0 : Nat) : Int)) ++ goE f side e ((1 : Nat) : Int) = _
 rfl
theorem stepI_snoc (f : Fmt) (mn : Nat → Pr) (dn : List Nd) (x : Nd) (side : Int) : stepI f (toC mn (dn ++ [x])) side = stepI f (toC mn dn) side ++ partE f side (ndE mn x) 2 := by
 rw [part_two]
 unfold stepI toC
 rw [List.map_append, List.flatMap_append]
 simp
structure PlI (f : Fmt) (N : List Nd) (mn : Nat → Pr) (ns : List Nd) (side K : Int) (l : List En) (N' : List Nd) (mn' : Nat → Pr) (ns' : List Nd) (es' : Array MapEntry) (c' : Nat) : Prop where
 ok : PoolOk f N' mn' (K + 1)
 sub : ∀ y ∈ N, y ∈ N'
 mn : ∀ y ∈ N, mn' y.b = mn y.b
 cr : CrIs N' ns' es' c'
 new : ∀ y ∈ ns', ∀ z ∈ N, z.b ≠ y.b
 fr : ∀ y ∈ ns', ∃ x ∈ ns, y.bf = some x.b ∧ (y.sd = 0 ∨ y.sd = 1) ∧ (side = -1 ∨ side = y.sd) ∧ nxtS f x.s y.sd = some y.s
 toC : toC mn' ns' = normC l
theorem PlI.start {f : Fmt} {N : List Nd} {mn : Nat → Pr} {ns : List Nd} {side K : Int} (h : PoolOk f N mn K) : PlI f N mn ns side K [] N mn [] #[] 0 :=
 ⟨h.up (by omega), fun y hy => hy, fun y hy => rfl, CrIs.nil N, fun y hy => (by cases hy), fun y hy => (by cases hy), rfl⟩
theorem PlI.skip {f : Fmt} {N : List Nd} {mn : Nat → Pr} {ns : List Nd} {side K : Int} {l l2 : List En} {N' : List Nd} {mn' : Nat → Pr} {ns' : List Nd} {es' : Array MapEntry} {c' : Nat} (h : PlI f N mn ns side K l N' mn' ns' es' c') (e : l2 = []) : PlI f N mn ns side K (l ++ l2) N' mn' ns' es' c' := by
 subst e; rw [List.append_nil]; exact h
theorem PlI.point {f : Fmt} {N : List Nd} {mn : Nat → Pr} {ns : List Nd} {side K : Int} {l : List En} {N' : List Nd} {mn' : Nat → Pr} {ns' : List Nd} {es' : Array MapEntry} {c' : Nat} (h : PlI f N mn ns side K l N' mn' ns' es' c') (hP : PoolOk f N mn K) (hns : ∀ y ∈ ns, y ∈ N) {x : Nd} (hx : x ∈ ns) {p : Int} (hp : p = 0 ∨ p = 1) (hs : side = -1 ∨ side = p) {u : Spot} (hn : nxtS f x.s p = some u) {k : Nat} (hk : ∀ y ∈ N', y.b ≠ k) {es2 : Array MapEntry} {c2 : Nat} (hm : MapIs es2 (crE (putNs ns' ⟨k, u, some x.b, p⟩)) ∧ Stm es2 c2) :
  PlI f N mn ns side K (l ++ goE f side (ndE mn x) p) (⟨k, u, some x.b, p⟩ :: N') (putM ns' (upN mn' k ((mn' x.b).1 + 1, (mn' x.b).2 + 1)) ⟨k, u, some x.b, p⟩) (putNs ns' ⟨k, u, some x.b, p⟩) es2 c2 := by
 have hxN := hns x hx
 have hxo := hP.ok x hxN
 have hmx := h.mn x hxN
 have hlo := hxo.lo; have hhi := hxo.hi
 obtain ⟨h1, r, h2, h3, h4⟩ := row_next (y := ⟨k, u, some x.b, p⟩) hxN hxo.row rfl hp hn
 have hok : PoolOk f (⟨k, u, some x.b, p⟩ :: N') (upN mn' k ((mn' x.b).1 + 1, (mn' x.b).2 + 1)) (K + 1) :=
  h.ok.add (x := ⟨k, u, some x.b, p⟩) hk (by rw [h1]; exact hxo.fs) ⟨r, h2.mono h.sub, h3, h4⟩ (by rw [hmx]; dsimp only; omega) (by rw [hmx]; dsimp only; omega)
 have hsub' : ∀ y ∈ ns', y ∈ (⟨k, u, some x.b, p⟩ :: N' : List Nd) := fun y hy => List.mem_cons_of_mem _ (h.cr.sub y hy)
 have hne : ∀ y ∈ N, y.b ≠ k := fun y hy => hk y (h.sub y hy)
 refine ⟨putM_ok hok hsub' List.mem_cons_self, fun y hy => List.mem_cons_of_mem _ (h.sub y hy), fun y hy => ?_, (h.cr.up fun y hy => List.mem_cons_of_mem _ hy).put List.mem_cons_self hm, fun y hy z hz => ?_, fun y hy => ?_, ?_⟩
 ·
  rw [putM_other fun z hz e => h.new z hz y hy e.symm, upN_other (hne y hy), h.mn y hy]
 ·
  rcases putNs_mem hy with h5 | rfl
  ·
   exact h.new y h5 z hz
  ·
   exact hne z hz
 ·
  rcases putNs_mem hy with h5 | rfl
  ·
   exact h.fr y h5
  ·
   exact ⟨x, hx, rfl, hp, hs, hn⟩
 ·
  have hg : goE f side (ndE mn x) p = [upE (ndE mn x) u] := by unfold goE; rw [if_pos hs]; simp only [hn]
  rw [hg, norm_snoc, ← h.toC, put_toC h.cr.keys (fun y hy z hz e => nd_one h.ok.nd (h.cr.sub y hy) (h.cr.sub z hz) e)]
  rw [toC_congr (mn := mn') fun y hy => upN_other (hk y (h.cr.sub y hy))]
  congr 1
  show (u, ((upN mn' k _ k).1, (upN mn' k _ k).2, (0 : Int))) = _
  rw [upN_same, hmx]
  rfl
theorem nxt_top {f : Fmt} {s u : Spot} {p : Int} (h : nxtS f s p = some u) : topS s ≠ f.sets := fun e => by rw [nxtS, decide_eq_true e] at h; cases h
theorem nxt_step {f : Fmt} {s u : Spot} {p : Int} (h : nxtS f s p = some u) : stepS f s p = u := by
 rw [nxtS, decide_eq_false (nxt_top h)] at h; exact Option.some.inj h
structure PZ2 where
 (N : List Nd) (mn : Nat → Pr) (ns : List Nd) (es : Array MapEntry) (c : Nat) (dn ts : List Nd) (tk : List KV) (o : Option KV)
structure PZ3 where
 (N : List Nd) (mn : Nat → Pr) (ns : List Nd) (es : Array MapEntry) (c k : Nat)
structure PR where
 (N : List Nd) (mn : Nat → Pr) (ns : List Nd) (b : Nat) (es : Array MapEntry) (c : Nat)
set_option maxRecDepth 100000 in
theorem T_reader_play (f : Fmt) (hf : f.Ok) (cf : Int) (A : Option Addr) (n c : Nat) (N ns : List Nd) (mn : Nat → Pr) (side K : Int) (hK : K ≤ 9000) (hP : PoolOk f N mn K) (b : Nat) (es : Array MapEntry) (cl : Nat) (hC : CrIs N ns es cl) :
  Tr Tryz.prog 167 [.agg (cardC f cf A n c).toArray, .map (some b), .int .i64 side] [poolE 255 N mn none, roM b es cl] (fun q : PR => ∃ dn, dn.Perm ns ∧ PlI f N mn ns side K (stepI f (toC mn dn) side) q.N q.mn q.ns q.es q.c) (fun q => .map (some q.b)) (fun q => [poolE 255 q.N q.mn none, .obj q.b (.map q.es q.c), roM b es cl]) := by
 refine ⟨fun w0 w R hst => ?_⟩
 refine en Tryz.func167 Tryz.ntmps167 hst (h := fun F => ?_)
 refine sr ?_
 refine bxA (h := fun b0 => ?_)
 refine ww ?_
 refine nr ?_
 refine mkm (h := fun b1 => ?_)
 refine ww ?_
 refine nq ?_
 refine sq ?_
 refine sr ?_
 refine ww ?_
 refine rngM (h := fun r1 => ?_)
 rw [cr_kv hC]
 refine nq ?_
 refine bk ?_
 refine lp (X := PZ2) (I := fun z => (z.dn ++ z.ts).Perm ns ∧ z.tk.Perm (z.ts.map ndKV) ∧ PlI f N mn ns side K (stepI f (toC mn z.dn) side) z.N z.mn z.ns z.es z.c) (le := fun z => [(2, .int .i64 side), (3, .pointer (some ⟨b0, 0, none⟩)), (7, .map (some b1)), (14, .pointer (some ⟨r1, 0, none⟩))]) (Le := fun z => itE r1 b es cl z.tk z.o :: .obj b1 (.map z.es z.c) :: .blk b0 197 (cardC f cf A n c) :: poolE 255 z.N z.mn none :: roM b es cl :: R) (μ := fun z => z.ts.length) ⟨N, mn, [], #[], 0, [], ns, ns.map ndKV, none⟩ ⟨.refl _, .refl _, PlI.start hP⟩ sbz_ slz_ (fun z hz => ?_)
 obtain ⟨hzd, hzt, hzp⟩ := hz
 refine sr ?_
 refine nxtM (hs := hC.s) (h := fun o2 tk2 ho2 => ?_)
 refine wy exN ?_
 refine nq ?_
 refine sq ?_
 refine czz (fun h0 => ?_) fun h0 => ?_
 ·
  obtain ⟨kv, rfl⟩ := Option.isSome_iff_exists.1 h0
  rcases todo_nd hzt ho2 with ⟨e, _⟩ | ⟨x, ts', e, hts, htk⟩
  ·
   cases e
  obtain rfl := Option.some.inj e
  have hxn : x ∈ ns := hzd.subset (List.mem_append.2 (.inr (hts.symm.subset List.mem_cons_self)))
  refine skp ?_
  refine q_seq ?_
  refine bk ?_
  refine sr ?_
  refine wy (entM (hs := hC.s)) ?_
  iterate 2 refine ww ?_
  refine nr ?_
  refine ww ?_
  refine nq ?_
  refine bk ?_
  refine lp (X := PZ3) (I := fun v => v.k ≤ 2 ∧ PlI f N mn ns side K (stepI f (toC mn z.dn) side ++ partE f side (ndE mn x) v.k) v.N v.mn v.ns v.es v.c) (le := fun v => [(2, .int .i64 side), (3, .pointer (some ⟨b0, 0, none⟩)), (7, .map (some b1)), (14, .pointer (some ⟨r1, 0, none⟩)), (9, bp x.b), (19, .int .i64 v.k)]) (Le := fun v => itE r1 b es cl tk2 (some (ndKV x)) :: .obj b1 (.map v.es v.c) :: .blk b0 197 (cardC f cf A n c) :: poolE 255 v.N v.mn none :: roM b es cl :: R) (μ := fun v => 2 - v.k) ⟨z.N, z.mn, z.ns, z.es, z.c, 0⟩ ⟨Nat.zero_le _, hzp.skip rfl⟩ sbz_ slz_ (fun v hv0 => ?_)
  obtain ⟨hvk, hv⟩ := hv0
  refine sr ?_
  refine ww ?_
  refine nq ?_
  refine sq ?_
  refine czz (fun h1 => ?_) fun h1 => ?_
  ·
   have hk2 : v.k < 2 := by simp only [decide_eq_true_eq] at h1; omega
   have hp : ((v.k : Nat) : Int) = 0 ∨ ((v.k : Nat) : Int) = 1 := by omega
   refine skp ?_
   refine q_seq ?_
   refine sq ?_
   refine bk ?_
   refine sr ?_
   iterate 2 refine ww ?_
   refine nq ?_
   refine sq ?_
   refine sr ?_
   iterate 3 refine ww ?_
   apply brAnd 4 24 28 (by exact rfl)
   ·
    intro hb2
    iterate 3 refine uw ?_
    refine ww ?_
    exact mg (by repeat (first | exact trivial | refine ⟨rfl, ?_⟩ | refine ⟨by rw [hb2]; rfl, ?_⟩)) slz_
   ·
    intro hb2
    repeat (first | refine uz ?_ | refine kz ?_ | refine wz ?_)
    exact mg (by repeat (first | exact trivial | refine ⟨rfl, ?_⟩ | refine ⟨by rw [hb2]; rfl, ?_⟩)) slz_
   refine nq ?_
   refine czz (fun h3 => ?_) fun h3 => ?_
   ·
    have hgo : goE f side (ndE mn x) ((v.k : Nat) : Int) = [] := by
     unfold goE
     rw [if_neg]
     have h' : (!decide (side = -1) && !decide (side = (v.k : Int))) = true := h3
     simp only [Bool.and_eq_true, Bool.not_eq_true', decide_eq_false_iff_not] at h'
     omega
    refine et ?_
    refine q_then_exit ?_
    refine q_blk_hit ?_
    refine q_seq ?_
    refine rg ?_
    iterate 2 refine ww ?_
    refine nl ?_
    first
     | (refine rn (x := v) ⟨v.N, v.mn, v.ns, v.es, v.c, v.k + 1⟩ ⟨by dsimp only; omega, by
       show PlI f N mn ns side K (_ ++ (partE f side (ndE mn x) v.k ++ goE f side (ndE mn x) ((v.k : Nat) : Int))) _ _ _ _ _
       rw [hgo, List.append_nil]; exact hv⟩ (by dsimp only; omega) sbz_ slz_)
     | (refine rn (x := v) ⟨_, _, putNs v.ns ⟨k1, u, some x.b, ((v.k : Nat) : Int)⟩, q.1, q.2, v.k + 1⟩ ⟨by dsimp only; omega, by
       show PlI f N mn ns side K (_ ++ (partE f side (ndE mn x) v.k ++ goE f side (ndE mn x) ((v.k : Nat) : Int))) _ _ _ _ _
       rw [← List.append_assoc]; exact hv.point hP hC.sub hxn hp hsd hu hk1 hq⟩ (by dsimp only; omega) sbz_ slz_)
   ·
    have hsd : side = -1 ∨ side = ((v.k : Nat) : Int) := by
     have h' : (!decide (side = -1) && !decide (side = (v.k : Int))) = false := h3
     simp only [Bool.and_eq_false_iff, Bool.not_eq_false', decide_eq_true_eq] at h'
     exact h'
    refine skp ?_
    refine q_seq ?_
    refine sr ?_
    iterate 3 refine ww ?_
    refine clT (hc := T_nextO f hf cf A n c v.N v.mn x ((v.k : Nat) : Int) hp (K + 1) (by omega) hv.ok (hv.sub x (hC.sub x hxn))) (h := fun o4 ho4 => ?_)
    refine ww ?_
    refine nr ?_
    refine ww ?_
    refine wy (neqN (by kernel_rfl)) ?_
    refine nq ?_
    refine czz (fun h4 => ?_) fun h4 => ?_
    ·
     obtain ⟨k1, rfl⟩ := Option.isSome_iff_exists.1 h4
     obtain ⟨⟨u, hu⟩, hk1⟩ := ho4
     have hXN : v.N ⊆ addN f v.N x ((v.k : Nat) : Int) (some k1) := by simp only [addN, hu]; exact fun y hy => List.mem_cons_of_mem _ hy
     have eN : addN f v.N x ((v.k : Nat) : Int) (some k1) = ⟨k1, u, some x.b, ((v.k : Nat) : Int)⟩ :: v.N := by simp only [addN, hu]
     rw [eN]
     refine rg ?_
     iterate 2 refine ww ?_
     refine clT (hc := T_put (⟨k1, u, some x.b, ((v.k : Nat) : Int)⟩ :: v.N) v.ns (addM v.mn x (some k1)) ⟨k1, u, some x.b, ((v.k : Nat) : Int)⟩ b1 v.es v.c hv.cr.m hv.cr.s (by rw [List.map_cons]; exact List.nodup_cons.2 ⟨fun hm => by obtain ⟨y, hy, e⟩ := List.mem_map.1 hm; exact hk1 y hy e, hv.ok.nd⟩) (fun y hy => by
      rcases List.mem_cons.1 hy with rfl | hy
      ·
       exact (SpBd.step ((hP.ok x (hC.sub x hxn)).bd hf) (hP.ok x (hC.sub x hxn)).k0 (nxt_top hu) _ |> fun h => by rw [nxt_step hu] at h; exact h.len hf)
      ·
       exact (hv.ok.ok y hy).len hf) (fun y hy => List.mem_cons_of_mem _ (hv.cr.sub y hy)) List.mem_cons_self) (h := fun q hq => ?_)
     refine nl ?_
     refine q_blk_norm ?_
     refine q_seq ?_
     refine rg ?_
     iterate 2 refine ww ?_
     refine nl ?_
     first
      | (refine rn (x := v) ⟨v.N, v.mn, v.ns, v.es, v.c, v.k + 1⟩ ⟨by dsimp only; omega, by
        show PlI f N mn ns side K (_ ++ (partE f side (ndE mn x) v.k ++ goE f side (ndE mn x) ((v.k : Nat) : Int))) _ _ _ _ _
        rw [hgo, List.append_nil]; exact hv⟩ (by dsimp only; omega) sbz_ slz_)
      | (refine rn (x := v) ⟨_, _, putNs v.ns ⟨k1, u, some x.b, ((v.k : Nat) : Int)⟩, q.1, q.2, v.k + 1⟩ ⟨by dsimp only; omega, by
        show PlI f N mn ns side K (_ ++ (partE f side (ndE mn x) v.k ++ goE f side (ndE mn x) ((v.k : Nat) : Int))) _ _ _ _ _
        rw [← List.append_assoc]; exact hv.point hP hC.sub hxn hp hsd hu hk1 hq⟩ (by dsimp only; omega) sbz_ slz_)
    ·
     have ho5 : o4 = none := by simpa using h4
     subst ho5
     have hgo : goE f side (ndE mn x) ((v.k : Nat) : Int) = [] := by
      unfold goE
      rw [if_pos hsd]; simp only [show nxtS f x.s ((v.k : Nat) : Int) = none from ho4]
     refine skp ?_
     refine q_blk_norm ?_
     refine q_seq ?_
     refine rg ?_
     iterate 2 refine ww ?_
     refine nl ?_
     first
      | (refine rn (x := v) ⟨v.N, v.mn, v.ns, v.es, v.c, v.k + 1⟩ ⟨by dsimp only; omega, by
        show PlI f N mn ns side K (_ ++ (partE f side (ndE mn x) v.k ++ goE f side (ndE mn x) ((v.k : Nat) : Int))) _ _ _ _ _
        rw [hgo, List.append_nil]; exact hv⟩ (by dsimp only; omega) sbz_ slz_)
      | (refine rn (x := v) ⟨_, _, putNs v.ns ⟨k1, u, some x.b, ((v.k : Nat) : Int)⟩, q.1, q.2, v.k + 1⟩ ⟨by dsimp only; omega, by
        show PlI f N mn ns side K (_ ++ (partE f side (ndE mn x) v.k ++ goE f side (ndE mn x) ((v.k : Nat) : Int))) _ _ _ _ _
        rw [← List.append_assoc]; exact hv.point hP hC.sub hxn hp hsd hu hk1 hq⟩ (by dsimp only; omega) sbz_ slz_)
  ·
   have hk2 : v.k = 2 := by simp only [decide_eq_false_iff_not] at h1; omega
   refine et ?_
   iterate 2 refine q_then_exit ?_
   refine q_blk_hit ?_
   refine q_blk_norm ?_
   refine rn (x := z) ⟨v.N, v.mn, v.ns, v.es, v.c, z.dn ++ [x], ts', tk2, some (ndKV x)⟩ ⟨by rw [List.append_assoc]; exact ((List.Perm.append_left z.dn (hts.symm)).trans hzd), htk, by rw [stepI_snoc]; rw [hk2] at hv; exact hv⟩ (by have := hts.length_eq; rw [List.length_cons] at this; dsimp only; omega) sbz_ slz_
 ·
  have ho3 : o2 = none := by simpa using h0
  have hts : z.ts = [] := by
   rcases todo_nd hzt ho2 with ⟨_, h9, _⟩ | ⟨x, ts', e, _⟩
   ·
    exact h9
   ·
    rw [ho3] at e; cases e
  refine et ?_
  iterate 2 refine q_then_exit ?_
  refine q_blk_hit ?_
  refine q_seq ?_
  refine sr ?_
  iterate 2 refine ww ?_
  refine nq ?_
  refine rtn ?_
  refine q_ret (hR := ?_)
  exact fun w hS => ⟨⟨z.N, z.mn, z.ns, b1, z.es, z.c⟩, ⟨z.dn, by rw [hts, List.append_nil] at hzd; exact hzd, hzp⟩, rfl, hS.sub slz_⟩
end Go.Proofs.YthkliiifllhacaaGreat

namespace Go.Proofs.YthkliiifllhacaaGreat
open Go Go.RowKit

def RowF (N ns N' : List Nd) (y : Nd) (j : Nat) : Prop := ∃ x ∈ ns, ∃ r p, RowN N x r ∧ RowN N' y (r ++ p) ∧ y.s.first = x.s.first ∧ p.length = j
theorem RowF.mono {N ns N' N2 : List Nd} {y : Nd} {j : Nat} (h : RowF N ns N' y j) (hs : ∀ z ∈ N', z ∈ N2) : RowF N ns N2 y j := by
 obtain ⟨x, hx, r, p, h1, h2, h3⟩ := h
 exact ⟨x, hx, r, p, h1, h2.mono hs, h3⟩
structure MsI (f : Fmt) (N : List Nd) (mn : Nat → Pr) (ns : List Nd) (a K : Int) (k : Nat) (cs : List Nd) (esC : Array MapEntry) (cC : Nat) (l : List En) (N' : List Nd) (mn' : Nat → Pr) (ns' : List Nd) (es' : Array MapEntry) (c' : Nat) : Prop where
 ok : PoolOk f N' mn' (K + (k : Int))
 sub : ∀ y ∈ N, y ∈ N'
 mnE : ∀ y ∈ N, mn' y.b = mn y.b
 cr : CrIs N' ns' es' c'
 cur : CrIs N' cs esC cC
 new : ∀ y ∈ ns', (∀ z ∈ N, z.b ≠ y.b) ∧ ∀ z ∈ cs, z.b ≠ y.b
 csP : (toC mn' cs).Perm (iterC f (toC mn ns) k)
 csR : ∀ y ∈ cs, RowF N ns N' y k
 outR : ∀ y ∈ ns', ∃ j : Nat, a ≤ (j : Int) ∧ j ≤ k ∧ RowF N ns N' y j
 eqC : toC mn' ns' = normC l
section
variable {f : Fmt} {N : List Nd} {mn : Nat → Pr} {ns : List Nd} {a K : Int} {k : Nat} {cs : List Nd} {esC : Array MapEntry} {cC : Nat} {l : List En} {N' : List Nd} {mn' : Nat → Pr} {ns' : List Nd} {es' : Array MapEntry} {c' : Nat}
theorem MsI.start (hP : PoolOk f N mn K) (hC : CrIs N ns es' c') : MsI f N mn ns a K 0 ns es' c' [] N mn [] #[] 0 :=
 ⟨hP.up (by omega), fun y hy => hy, fun y hy => rfl, CrIs.nil N, hC, fun y hy => (by cases hy), .refl _, fun y hy => by
  obtain ⟨r, hr, _⟩ := (hP.ok y (hC.sub y hy)).row
  exact ⟨y, hy, r, [], hr, by rw [List.append_nil]; exact hr, rfl, rfl⟩, fun y hy => (by cases hy), rfl⟩
theorem MsI.copy (h : MsI f N mn ns a K k cs esC cC l N' mn' ns' es' c') (ha : a ≤ (k : Int)) {x : Nd} (hx : x ∈ cs) {k0 : Nat} (hk0 : ∀ z ∈ N', z.b ≠ k0) {es2 : Array MapEntry} {c2 : Nat} (hm : MapIs es2 (crE (putNs ns' ⟨k0, x.s, x.bf, x.sd⟩)) ∧ Stm es2 c2) :
  MsI f N mn ns a K k cs esC cC (l ++ [ndE mn' x]) (⟨k0, x.s, x.bf, x.sd⟩ :: N') (putM ns' (upN mn' k0 (mn' x.b)) ⟨k0, x.s, x.bf, x.sd⟩) (putNs ns' ⟨k0, x.s, x.bf, x.sd⟩) es2 c2 ∧ ∀ z ∈ cs, putM ns' (upN mn' k0 (mn' x.b)) ⟨k0, x.s, x.bf, x.sd⟩ z.b = mn' z.b := by
 have hxN := h.cur.sub x hx
 have hok := h.ok.copy (y := ⟨k0, x.s, x.bf, x.sd⟩) hxN hk0 rfl rfl rfl
 have hup : ∀ z ∈ N', z ∈ (⟨k0, x.s, x.bf, x.sd⟩ :: N' : List Nd) := fun z hz => List.mem_cons_of_mem _ hz
 have hcm : ∀ z ∈ cs, putM ns' (upN mn' k0 (mn' x.b)) ⟨k0, x.s, x.bf, x.sd⟩ z.b = mn' z.b := fun z hz => by
  rw [putM_other fun y hy e => (h.new y hy).2 z hz e.symm, upN_other (hk0 z (h.cur.sub z hz))]
 refine ⟨⟨putM_ok hok (fun y hy => hup y (h.cr.sub y hy)) List.mem_cons_self, fun y hy => hup y (h.sub y hy), fun y hy => ?_, (h.cr.up hup).put List.mem_cons_self hm, h.cur.up hup, fun y hy => ?_, ?_, fun y hy => (h.csR y hy).mono hup, fun y hy => ?_, ?_⟩, hcm⟩
 ·
  rw [putM_other fun z hz e => (h.new z hz).1 y hy e.symm, upN_other (hk0 y (h.sub y hy)), h.mnE y hy]
 ·
  rcases putNs_mem hy with h5 | rfl
  ·
   exact h.new y h5
  ·
   exact ⟨fun z hz => hk0 z (h.sub z hz), fun z hz => hk0 z (h.cur.sub z hz)⟩
 ·
  rw [toC_congr hcm]; exact h.csP
 ·
  rcases putNs_mem hy with h5 | rfl
  ·
   obtain ⟨j, h6, h7, h8⟩ := h.outR y h5
   exact ⟨j, h6, h7, h8.mono hup⟩
  ·
   obtain ⟨x0, hx0, r, p, h6, h7, h8, h9⟩ := h.csR x hx
   exact ⟨k, ha, Nat.le_refl _, x0, hx0, r, p, h6, (h7.copy (y := ⟨k0, x.s, x.bf, x.sd⟩) rfl rfl).mono hup, h8, h9⟩
 ·
  rw [norm_snoc, ← h.eqC, put_toC h.cr.keys (fun y hy z hz e => nd_one h.ok.nd (h.cr.sub y hy) (h.cr.sub z hz) e)]
  rw [toC_congr (mn := mn') fun y hy => upN_other (hk0 y (h.cr.sub y hy))]
  congr 1
  show (x.s, ((upN mn' k0 _ k0).1, (upN mn' k0 _ k0).2, (0 : Int))) = _
  rw [upN_same]
theorem MsI.play (h : MsI f N mn ns a K k cs esC cC l N' mn' ns' es' c') {dn cs2 N2 : List Nd} {mn2 : Nat → Pr} {es2 : Array MapEntry} {c2 : Nat} (hd : dn.Perm cs) (hq : PlI f N' mn' cs (-1) (K + (k : Int)) (stepI f (toC mn' dn) (-1)) N2 mn2 cs2 es2 c2) : MsI f N mn ns a K (k + 1) cs2 es2 c2 l N2 mn2 ns' es' c' := by
 refine ⟨by rw [show K + ((k + 1 : Nat) : Int) = K + (k : Int) + 1 by omega]; exact hq.ok, fun y hy => hq.sub y (h.sub y hy), fun y hy => by rw [hq.mn y (h.sub y hy), h.mnE y hy], h.cr.up hq.sub, hq.cr, fun y hy => ⟨(h.new y hy).1, fun z hz e => hq.new z hz y (h.cr.sub y hy) e.symm⟩, ?_, fun y hy => ?_, fun y hy => ?_, ?_⟩
 ·
  rw [hq.toC]
  show (normC _).Perm (normC (stepI f (iterC f (toC mn ns) k) (-1)))
  have hp : (toC mn' dn).Perm (iterC f (toC mn ns) k) := (hd.map _).trans h.csP
  exact norm_perm (hp.flatMap_right _)
 ·
  obtain ⟨x, hx, h1, h2, h3, h4⟩ := hq.fr y hy
  obtain ⟨x0, hx0, r, p, h5, h6, h7, h8⟩ := h.csR x hx
  refine ⟨x0, hx0, r, p ++ [y.sd], h5, ?_, ?_, by rw [List.length_append, h8]; rfl⟩
  ·
   rw [← List.append_assoc]
   exact .snoc (hq.sub x (h.cur.sub x hx)) h1 (h6.mono hq.sub)
  ·
   rw [← h7, ← nxt_step h4, step_first]
 ·
  obtain ⟨j, h1, h2, h3⟩ := h.outR y hy
  exact ⟨j, h1, by omega, h3.mono hq.sub⟩
 ·
  rw [toC_congr fun y hy => hq.mn y (h.cr.sub y hy)]; exact h.eqC
structure RdOk (f : Fmt) (N : List Nd) (mn : Nat → Pr) (ns : List Nd) (t : Nt) (K : Int) (q : PR) : Prop where
 ok : PoolOk f q.N q.mn (K + mostN t + 1)
 sub : ∀ y ∈ N, y ∈ q.N
 mnE : ∀ y ∈ N, q.mn y.b = mn y.b
 cr : CrIs q.N q.ns q.es q.c
 eqC : (toC q.mn q.ns).Perm (afterC f (toC mn ns) t)
 fr : ∀ y ∈ q.ns, ∃ x ∈ ns, ∃ r p, RowN N x r ∧ RowN q.N y (r ++ p) ∧ y.s.first = x.s.first ∧ QOk f t y.s p
theorem rd_noted {t : Nt} (hP : PoolOk f N mn K) (hC : CrIs N ns es' c') (ht : t.kind = 1) {q : PR} {dn : List Nd} (hd : dn.Perm ns) (hq : PlI f N mn ns t.side K (stepI f (toC mn dn) t.side) q.N q.mn q.ns q.es q.c) : RdOk f N mn ns t K q := by
 refine ⟨hq.ok.up (by unfold mostN; rw [if_pos ht]; omega), hq.sub, hq.mn, hq.cr, ?_, fun y hy => ?_⟩
 ·
  rw [hq.toC, afterC, if_pos ht]
  exact norm_perm ((hd.map (ndE mn)).flatMap_right _)
 ·
  obtain ⟨x, hx, h1, h2, h3, h4⟩ := hq.fr y hy
  obtain ⟨r, hr, _⟩ := (hP.ok x (hC.sub x hx)).row
  refine ⟨x, hx, r, [y.sd], hr, .snoc (hq.sub x (hC.sub x hx)) h1 (hr.mono hq.sub), by rw [← nxt_step h4, step_first], ?_⟩
  unfold QOk
  rw [if_pos ht]
  exact ⟨y.sd, rfl, h3⟩
theorem rd_missed {t : Nt} {B : Nat} (h1 : t.kind = 2) (hB : t.pair.2 = (B : Int)) {b' : Nat} (hl : l.Perm (missI f (toC mn ns) t.pair.1 (B + 1))) (h : MsI f N mn ns t.pair.1 K (B + 1) cs esC cC l N' mn' ns' es' c') (hj : ∀ y ∈ ns', ∃ j : Nat, t.pair.1 ≤ (j : Int) ∧ j ≤ B ∧ RowF N ns N' y j) : RdOk f N mn ns t K ⟨N', mn', ns', b', es', c'⟩ := by
 have hne : t.kind ≠ 1 := by omega
 refine ⟨h.ok.up (by unfold mostN; rw [if_neg hne, if_pos h1]; omega), h.sub, h.mnE, h.cr, ?_, fun y hy => ?_⟩
 ·
  show (Go.Proofs.YthkliiifllhacaaGreat.toC mn' ns').Perm _
  rw [h.eqC, afterC, if_neg hne, if_pos h1, missC, hB, Int.toNat_natCast]
  exact norm_perm hl
 ·
  obtain ⟨j, h3, h4, x, hx, r, p, h5, h6, h7, h8⟩ := hj y hy
  refine ⟨x, hx, r, p, h5, h6, h7, ?_⟩
  unfold QOk
  rw [if_neg hne, if_pos h1]
  omega
def tstN (f : Fmt) (t : Nt) (dn : List Nd) : List Nd := dn.filter fun x => holdS f t x.s
theorem tst_toC (t : Nt) (dn : List Nd) : toC mn (tstN f t dn) = testC f t (toC mn dn) := by
 unfold tstN testC toC
 rw [List.filter_map]; rfl
theorem tst_snoc (t : Nt) (dn : List Nd) (x : Nd) : tstN f t (dn ++ [x]) = bif holdS f t x.s then tstN f t dn ++ [x] else tstN f t dn := by
 unfold tstN
 rw [List.filter_append]
 cases hh : holdS f t x.s
 ·
  simp [hh]
 ·
  simp [hh]
theorem get_fresh {dn ts : List Nd} {x : Nd} (hk : (spotKs ns).Nodup) (hp : (dn ++ x :: ts).Perm ns) (t : Nt) : getN (tstN f t dn) x.s = none := by
 refine List.find?_eq_none.2 fun y hy => ?_
 have hy' : y ∈ dn := (List.mem_filter.1 hy).1
 have hn : (spotKs (dn ++ x :: ts)).Nodup := (hp.map _).nodup_iff.2 hk
 unfold spotKs at hn
 rw [List.map_append, List.nodup_append] at hn
 rw [decide_eq_true_eq]
 exact hn.2.2 y.s (List.mem_map.2 ⟨y, hy', rfl⟩) x.s (List.mem_map.2 ⟨x, List.mem_cons_self, rfl⟩)
theorem putM_none {x : Nd} (h : getN ns x.s = none) : putM ns mn x = mn := by unfold putM; rw [h]
theorem putNs_none {x : Nd} (h : getN ns x.s = none) : putNs ns x = ns ++ [x] := by unfold putNs; rw [h]
theorem rd_test {t : Nt} (hP : PoolOk f N mn K) (hC : CrIs N ns esC cC) (h1 : t.kind ≠ 1) (h2 : t.kind ≠ 2) {b' : Nat} {dn : List Nd} (hd : dn.Perm ns) (hc : CrIs N (tstN f t dn) es' c') : RdOk f N mn ns t K ⟨N, mn, tstN f t dn, b', es', c'⟩ := by
 refine ⟨hP.up (by unfold mostN; rw [if_neg h1, if_neg h2]; omega), fun y hy => hy, fun y hy => rfl, hc, ?_, fun y hy => ?_⟩
 ·
  show (Go.Proofs.YthkliiifllhacaaGreat.toC mn (tstN f t dn)).Perm _
  rw [tst_toC, afterC, if_neg h1, if_neg h2]
  exact (hd.map _).filter _
 ·
  obtain ⟨h3, h4⟩ := List.mem_filter.1 hy
  have hyn := hd.subset h3
  obtain ⟨r, hr, _⟩ := (hP.ok y (hC.sub y hyn)).row
  refine ⟨y, hyn, r, [], hr, by rw [List.append_nil]; exact hr, rfl, ?_⟩
  unfold QOk
  rw [if_neg h1, if_neg h2]
  exact ⟨rfl, h4⟩
end
end Go.Proofs.YthkliiifllhacaaGreat

namespace Go.Proofs.YthkliiifllhacaaGreat
open Go Go.RowKit

structure MZ where
 (N : List Nd) (mn : Nat → Pr) (ns : List Nd) (es : Array MapEntry) (c : Nat) (cs : List Nd) (cb : Nat) (esC : Array MapEntry) (cC : Nat) (l : List En) (k : Nat)
structure MZ2 where
 (N : List Nd) (mn : Nat → Pr) (ns : List Nd) (es : Array MapEntry) (c : Nat) (dn ts : List Nd) (tk : List KV) (o : Option KV)
structure MZ3 where
 (es : Array MapEntry) (c : Nat) (dn ts : List Nd) (tk : List KV) (o : Option KV)
theorem T_read_noted (f : Fmt) (hf : f.Ok) (cf : Int) (A : Option Addr) (n c : Nat) (N ns : List Nd) (mn : Nat → Pr) (t : Nt) (K : Int) (hK : K ≤ 500) (hP : PoolOk f N mn K) (b : Nat) (es : Array MapEntry) (cl : Nat) (hC : CrIs N ns es cl) (ht : t.kind = 1) :
  Tr Tryz.prog 106 [.agg (cardC f cf A n c).toArray, .map (some b), t.val] [poolE 255 N mn none, roM b es cl] (RdOk f N mn ns t K) (fun q => .map (some q.b)) (fun q => [poolE 255 q.N q.mn none, .obj q.b (.map q.es q.c), roM b es cl]) := by
 refine ⟨fun w0 w R hst => ?_⟩
 refine en Tryz.func106 Tryz.ntmps106 hst (h := fun F => ?_)
 refine sr ?_
 refine bxA (h := fun b0 => ?_)
 refine bxA (h := fun b1 => ?_)
 refine ww ?_
 refine nr ?_
 refine mkm (h := fun b2 => ?_)
 refine ww ?_
 refine nq ?_
 refine sq ?_
 refine sr ?_
 iterate 2 refine ww ?_
 refine nq ?_
 refine bk ?_
 refine sr ?_
 iterate 2 refine ww ?_
 refine nq ?_
 refine czz (fun h0 => ?_) fun h0 => ?_
 ·
  refine sr ?_
  iterate 4 refine ww ?_
  refine clT (hc := T_reader_play f hf cf A n c N ns mn t.side K (by omega) hP b es cl hC) (h := fun q hq => ?_)
  obtain ⟨dn, hd, hq⟩ := hq
  refine ww ?_
  refine nq ?_
  refine rtn ?_
  refine q_blk_ret ?_
  refine q_then_ret ?_
  refine q_ret (hR := ?_)
  exact fun w hS => ⟨q, rd_noted hP hC ht hd hq, rfl, hS.sub slz_⟩
 ·
  exact absurd ht (of_decide_eq_false h0)
set_option maxRecDepth 100000 in
theorem T_read_test (f : Fmt) (hf : f.Ok) (hc0 : chkF f = 0) (cf : Int) (A : Option Addr) (n c : Nat) (N ns : List Nd) (mn : Nat → Pr) (t : Nt) (K : Int) (hK : K ≤ 500) (hP : PoolOk f N mn K) (b : Nat) (es : Array MapEntry) (cl : Nat) (hC : CrIs N ns es cl) (hk1 : t.kind ≠ 1) (hk2 : t.kind ≠ 2) :
  Tr Tryz.prog 106 [.agg (cardC f cf A n c).toArray, .map (some b), t.val] [poolE 255 N mn none, roM b es cl] (RdOk f N mn ns t K) (fun q => .map (some q.b)) (fun q => [poolE 255 q.N q.mn none, .obj q.b (.map q.es q.c), roM b es cl]) := by
 refine ⟨fun w0 w R hst => ?_⟩
 refine en Tryz.func106 Tryz.ntmps106 hst (h := fun F => ?_)
 refine sr ?_
 refine bxA (h := fun b0 => ?_)
 refine bxA (h := fun b1 => ?_)
 refine ww ?_
 refine nr ?_
 refine mkm (h := fun b2 => ?_)
 refine ww ?_
 refine nq ?_
 refine sq ?_
 refine sr ?_
 iterate 2 refine ww ?_
 refine nq ?_
 refine bk ?_
 refine sr ?_
 iterate 2 refine ww ?_
 refine nq ?_
 refine czz (fun h0 => ?_) fun h0 => ?_
 ·
  exact absurd (of_decide_eq_true h0) hk1
 ·
  refine sr ?_
  iterate 2 refine ww ?_
  refine nq ?_
  refine czz (fun h1 => ?_) fun h1 => ?_
  ·
   exact absurd (of_decide_eq_true h1) hk2
  ·
   refine sr ?_
   refine ww ?_
   refine rngM (h := fun r1 => ?_)
   rw [cr_kv hC]
   refine nq ?_
   refine bk ?_
   refine lp (X := MZ3) (I := fun z => (z.dn ++ z.ts).Perm ns ∧ z.tk.Perm (z.ts.map ndKV) ∧ CrIs N (tstN f t z.dn) z.es z.c) (le := fun z => [(3, .pointer (some ⟨b0, 0, none⟩)), (5, .pointer (some ⟨b1, 0, none⟩)), (7, .map (some b2)), (18, .pointer (some ⟨r1, 0, none⟩))]) (Le := fun z => itE r1 b es cl z.tk z.o :: .obj b2 (.map z.es z.c) :: .blk b1 75 t.cells :: .blk b0 197 (cardC f cf A n c) :: poolE 255 N mn none :: roM b es cl :: R) (μ := fun z => z.ts.length) ⟨#[], 0, [], ns, ns.map ndKV, none⟩ ⟨.refl _, .refl _, CrIs.nil N⟩ sbz_ slz_ (fun z hz => ?_)
   obtain ⟨hzd, hzt, hzc⟩ := hz
   refine sr ?_
   refine nxtM (hs := hC.s) (h := fun o2 tk2 ho2 => ?_)
   refine wy exN ?_
   refine nq ?_
   refine sq ?_
   refine czz (fun h2 => ?_) fun h2 => ?_
   ·
    obtain ⟨kv, rfl⟩ := Option.isSome_iff_exists.1 h2
    rcases todo_nd hzt ho2 with ⟨e, _⟩ | ⟨x, ts', e, hts, htk⟩
    ·
     cases e
    obtain rfl := Option.some.inj e
    have hxn : x ∈ ns := hzd.subset (List.mem_append.2 (.inr (hts.symm.subset List.mem_cons_self)))
    have hdx : (z.dn ++ x :: ts').Perm ns := ((List.Perm.append_left z.dn hts.symm)).trans hzd
    have hgf := get_fresh (f := f) hC.keys hdx t
    refine skp ?_
    refine q_seq ?_
    refine bk ?_
    refine sr ?_
    refine wy (entM (hs := hC.s)) ?_
    iterate 2 refine ww ?_
    refine nr ?_
    iterate 3 refine ww ?_
    refine clT (hc := T_reader_holds f hf hc0 cf A n c N mn K (by omega) hP x (hC.sub x hxn) t) (h := fun _ _ => ?_)
    refine nq ?_
    refine czz (fun h3 => ?_) fun h3 => ?_
    ·
     have hH : holdS f t x.s = true := h3
     have hsn : tstN f t (z.dn ++ [x]) = tstN f t z.dn ++ [x] := by rw [tst_snoc, hH]; rfl
     refine rg ?_
     iterate 2 refine ww ?_
     refine clT (hc := T_put N (tstN f t z.dn) mn x b2 z.es z.c hzc.m hzc.s hP.nd (fun y hy => (hP.ok y hy).len hf) hzc.sub (hC.sub x hxn)) (h := fun q hq => ?_)
     rw [putM_none hgf]
     rw [putNs_none hgf, ← hsn] at hq
     refine nl ?_
     refine q_blk_norm ?_
     first
      | (refine rn (x := z) ⟨q.1, q.2, z.dn ++ [x], ts', tk2, some (ndKV x)⟩ ⟨by rw [List.append_assoc]; exact hdx, htk, ⟨hq.1, hq.2, fun y hy => hC.sub y (hdx.subset (by rw [hsn] at hy; rcases List.mem_append.1 hy with h9 | h9; exact List.mem_append.2 (.inl (List.mem_filter.1 h9).1); exact List.mem_append.2 (.inr (by rw [List.mem_singleton.1 h9]; exact List.mem_cons_self)))), by rw [hsn, ← putNs_none hgf]; exact putNs_keys hzc.keys⟩⟩ (by have := hts.length_eq; rw [List.length_cons] at this; dsimp only; omega) sbz_ slz_)
      | (refine rn (x := z) ⟨z.es, z.c, z.dn ++ [x], ts', tk2, some (ndKV x)⟩ ⟨by rw [List.append_assoc]; exact hdx, htk, by rw [hsn]; exact hzc⟩ (by have := hts.length_eq; rw [List.length_cons] at this; dsimp only; omega) sbz_ slz_)
    ·
     have hH : holdS f t x.s = false := h3
     have hsn : tstN f t (z.dn ++ [x]) = tstN f t z.dn := by rw [tst_snoc, hH]; rfl
     refine skp ?_
     refine q_blk_norm ?_
     first
      | (refine rn (x := z) ⟨q.1, q.2, z.dn ++ [x], ts', tk2, some (ndKV x)⟩ ⟨by rw [List.append_assoc]; exact hdx, htk, ⟨hq.1, hq.2, fun y hy => hC.sub y (hdx.subset (by rw [hsn] at hy; rcases List.mem_append.1 hy with h9 | h9; exact List.mem_append.2 (.inl (List.mem_filter.1 h9).1); exact List.mem_append.2 (.inr (by rw [List.mem_singleton.1 h9]; exact List.mem_cons_self)))), by rw [hsn, ← putNs_none hgf]; exact putNs_keys hzc.keys⟩⟩ (by have := hts.length_eq; rw [List.length_cons] at this; dsimp only; omega) sbz_ slz_)
      | (refine rn (x := z) ⟨z.es, z.c, z.dn ++ [x], ts', tk2, some (ndKV x)⟩ ⟨by rw [List.append_assoc]; exact hdx, htk, by rw [hsn]; exact hzc⟩ (by have := hts.length_eq; rw [List.length_cons] at this; dsimp only; omega) sbz_ slz_)
   ·
    have ho3 : o2 = none := by simpa using h2
    have hts : z.ts = [] := by
     rcases todo_nd hzt ho2 with ⟨_, h9, _⟩ | ⟨x, ts', e, _⟩
     ·
      exact h9
     ·
      rw [ho3] at e; cases e
    refine et ?_
    iterate 2 refine q_then_exit ?_
    refine q_blk_hit ?_
    refine q_blk_norm ?_
    refine q_seq ?_
    refine sr ?_
    iterate 2 refine ww ?_
    refine nq ?_
    refine rtn ?_
    refine q_ret (hR := ?_)
    exact fun w hS => ⟨⟨N, mn, tstN f t z.dn, b2, z.es, z.c⟩, rd_test hP hC hk1 hk2 (by rw [hts, List.append_nil] at hzd; exact hzd) hzc, rfl, hS.sub slz_⟩
theorem ndE_eq {mn mn' : Nat → Pr} {x : Nd} (h : mn' x.b = mn x.b) : ndE mn' x = ndE mn x := by unfold ndE; rw [h]
theorem toC_snoc (mn : Nat → Pr) (dn : List Nd) (x : Nd) : toC mn (dn ++ [x]) = toC mn dn ++ [ndE mn x] := by unfold toC; rw [List.map_append]; rfl
set_option maxRecDepth 100000 in
set_option maxHeartbeats 1000000 in
theorem T_read_missed (f : Fmt) (hf : f.Ok) (cf : Int) (A : Option Addr) (n c : Nat) (N ns : List Nd) (mn : Nat → Pr) (t : Nt) (K : Int) (hK : K ≤ 500) (hP : PoolOk f N mn K) (b : Nat) (es : Array MapEntry) (cl : Nat) (hC : CrIs N ns es cl) (ht : t.kind = 2) (B : Nat) (hB : t.pair.2 = (B : Int)) (hB3 : B ≤ 30) :
  Tr Tryz.prog 106 [.agg (cardC f cf A n c).toArray, .map (some b), t.val] [poolE 255 N mn none, roM b es cl] (RdOk f N mn ns t K) (fun q => .map (some q.b)) (fun q => [poolE 255 q.N q.mn none, .obj q.b (.map q.es q.c), roM b es cl]) := by
 refine ⟨fun w0 w R hst => ?_⟩
 refine en Tryz.func106 Tryz.ntmps106 hst (h := fun F => ?_)
 refine sr ?_
 refine bxA (h := fun b0 => ?_)
 refine bxA (h := fun b1 => ?_)
 refine ww ?_
 refine nr ?_
 refine mkm (h := fun b2 => ?_)
 refine ww ?_
 refine nq ?_
 refine sq ?_
 refine sr ?_
 iterate 2 refine ww ?_
 refine nq ?_
 refine bk ?_
 refine sr ?_
 iterate 2 refine ww ?_
 refine nq ?_
 refine czz (fun h0 => ?_) fun h0 => ?_
 ·
  exact absurd (of_decide_eq_true h0) (by omega)
 ·
  refine sr ?_
  iterate 2 refine ww ?_
  refine nq ?_
  refine czz (fun h1 => ?_) fun h1 => ?_
  ·
   refine sr ?_
   iterate 3 refine ww ?_
   refine wy (addI (hb := by omega)) ?_
   refine ww ?_
   refine nq ?_
   refine bk ?_
   refine WC.dupM (b := b) (es := es) (c := cl) atz_ ?_
   refine lp (X := MZ) (I := fun z => z.k ≤ B + 1 ∧ MsI f N mn ns t.pair.1 K z.k z.cs z.esC z.cC z.l z.N z.mn z.ns z.es z.c ∧ z.l.Perm (missI f (toC mn ns) t.pair.1 z.k) ∧ ∀ y ∈ z.ns, ∃ j : Nat, t.pair.1 ≤ (j : Int) ∧ j + 1 ≤ z.k ∧ RowF N ns z.N y j) (le := fun z => [(1, .map (some z.cb)), (3, .pointer (some ⟨b0, 0, none⟩)), (5, .pointer (some ⟨b1, 0, none⟩)), (7, .map (some b2)), (42, .int .i64 (t.pair.2 + 1)), (43, .int .i64 z.k)]) (Le := fun z => .obj b2 (.map z.es z.c) :: .blk b1 75 t.cells :: .blk b0 197 (cardC f cf A n c) :: poolE 255 z.N z.mn none :: roM z.cb z.esC z.cC :: roM b es cl :: R) (μ := fun z => B + 1 - z.k) ⟨N, mn, [], #[], 0, ns, b, es, cl, [], 0⟩ ⟨Nat.zero_le _, MsI.start hP hC, .refl _, fun y hy => (by cases hy)⟩ sbz_ slz_ (fun z hz => ?_)
   obtain ⟨hzk, hzm, hzl, hzj⟩ := hz
   refine sr ?_
   refine ww ?_
   refine nq ?_
   refine sq ?_
   refine czz (fun h2 => ?_) fun h2 => ?_
   ·
    have hkB : z.k ≤ B := by simp only [decide_eq_true_eq] at h2; omega
    refine skp ?_
    refine q_seq ?_
    refine sq ?_
    refine bk ?_
    refine sr ?_
    iterate 2 refine ww ?_
    refine nq ?_
    refine sq ?_
    refine sr ?_
    iterate 5 refine ww ?_
    refine nq ?_
    refine czz (fun h3 => ?_) fun h3 => ?_
    ·
     have hak : t.pair.1 ≤ (z.k : Int) := of_decide_eq_true h3
     refine sr ?_
     refine ww ?_
     refine rngM (b := z.cb) (es := z.esC) (c := z.cC) (h := fun r1 => ?_)
     rw [cr_kv hzm.cur]
     refine nq ?_
     refine bk ?_
     refine lp (X := MZ2) (I := fun v => MsI f N mn ns t.pair.1 K z.k z.cs z.esC z.cC (z.l ++ toC z.mn v.dn) v.N v.mn v.ns v.es v.c ∧ (∀ y ∈ z.cs, v.mn y.b = z.mn y.b) ∧ (v.dn ++ v.ts).Perm z.cs ∧ v.tk.Perm (v.ts.map ndKV)) (le := fun v => [(1, .map (some z.cb)), (3, .pointer (some ⟨b0, 0, none⟩)), (5, .pointer (some ⟨b1, 0, none⟩)), (7, .map (some b2)), (42, .int .i64 (t.pair.2 + 1)), (43, .int .i64 z.k), (52, .pointer (some ⟨r1, 0, none⟩))]) (Le := fun v => itE r1 z.cb z.esC z.cC v.tk v.o :: .obj b2 (.map v.es v.c) :: .blk b1 75 t.cells :: .blk b0 197 (cardC f cf A n c) :: poolE 255 v.N v.mn none :: roM z.cb z.esC z.cC :: roM b es cl :: R) (μ := fun v => v.ts.length) ⟨z.N, z.mn, z.ns, z.es, z.c, [], z.cs, z.cs.map ndKV, none⟩ ⟨by show MsI _ _ _ _ _ _ _ _ _ _ (z.l ++ []) _ _ _ _ _; rw [List.append_nil]; exact hzm, fun y hy => rfl, .refl _, .refl _⟩ sbz_ slz_ (fun v hv0 => ?_)
     obtain ⟨hvm, hvc, hvd, hvt⟩ := hv0
     refine sr ?_
     refine nxtM (b := z.cb) (es := z.esC) (c := z.cC) (hs := hzm.cur.s) (h := fun o2 tk2 ho2 => ?_)
     refine wy exN ?_
     refine nq ?_
     refine sq ?_
     refine czz (fun h4 => ?_) fun h4 => ?_
     ·
      obtain ⟨kv, rfl⟩ := Option.isSome_iff_exists.1 h4
      rcases todo_nd hvt ho2 with ⟨e, _⟩ | ⟨x, ts', e, hts, htk⟩
      ·
       cases e
      obtain rfl := Option.some.inj e
      have hxn : x ∈ z.cs := hvd.subset (List.mem_append.2 (.inr (hts.symm.subset List.mem_cons_self)))
      refine skp ?_
      refine q_seq ?_
      refine bk ?_
      refine sr ?_
      refine wy (entM (b := z.cb) (es := z.esC) (c := z.cC) (hs := hzm.cur.s)) ?_
      iterate 2 refine ww ?_
      refine nr ?_
      iterate 2 refine ww ?_
      refine wy (ldQA (hy := hvm.cur.sub x hxn)) ?_
      refine al (h := fun b3 => ?_)
      first | refine stA (h := ?_) | refine stEA (h := ?_)
      refine nq ?_
      refine WC.pNew ⟨b3, x.s, x.bf, x.sd⟩ (v.mn x.b) .here atz_ (fun hne => ?_)
      have hcp := hvm.ok.copy (y := ⟨b3, x.s, x.bf, x.sd⟩) (hvm.cur.sub x hxn) hne rfl rfl rfl
      refine rg ?_
      refine ww ?_
      refine clT (hc := T_put (⟨b3, x.s, x.bf, x.sd⟩ :: v.N) v.ns (upN v.mn b3 (v.mn x.b)) ⟨b3, x.s, x.bf, x.sd⟩ b2 v.es v.c hvm.cr.m hvm.cr.s hcp.nd (fun y hy => (hcp.ok y hy).len hf) (fun y hy => List.mem_cons_of_mem _ (hvm.cr.sub y hy)) List.mem_cons_self) (h := fun q hq => ?_)
      have hcy := hvm.copy hak hxn hne hq
      refine nl ?_
      refine q_blk_norm ?_
      refine rn (x := v) ⟨⟨b3, x.s, x.bf, x.sd⟩ :: v.N, putM v.ns (upN v.mn b3 (v.mn x.b)) ⟨b3, x.s, x.bf, x.sd⟩, putNs v.ns ⟨b3, x.s, x.bf, x.sd⟩, q.1, q.2, v.dn ++ [x], ts', tk2, some (ndKV x)⟩ ⟨by rw [toC_snoc, ← List.append_assoc, ← ndE_eq (hvc x hxn)]; exact hcy.1, fun y hy => (hcy.2 y hy).trans (hvc y hy), by rw [List.append_assoc]; exact ((List.Perm.append_left v.dn hts.symm)).trans hvd, htk⟩ (by have := hts.length_eq; rw [List.length_cons] at this; dsimp only; omega) sbz_ slz_
     ·
      have ho3 : o2 = none := by simpa using h4
      have hts : v.ts = [] := by
       rcases todo_nd hvt ho2 with ⟨_, h9, _⟩ | ⟨x, ts', e, _⟩
       ·
        exact h9
       ·
        rw [ho3] at e; cases e
      have hdn : v.dn.Perm z.cs := by rw [hts, List.append_nil] at hvd; exact hvd
      have hyl : (z.l ++ toC z.mn v.dn).Perm (missI f (toC mn ns) t.pair.1 (z.k + 1)) := by
       rw [missI, if_pos hak]
       exact hzl.append ((hdn.map (ndE z.mn)).trans hzm.csP)
      refine et ?_
      iterate 2 refine q_then_exit ?_
      refine q_blk_hit ?_
      refine q_seq ?_
      refine rg ?_
      iterate 2 refine ww ?_
      first
       | refine clT (hc := T_reader_play f hf cf A n c v.N z.cs v.mn (-1) (K + (z.k : Int)) (by omega) hvm.ok z.cb z.esC z.cC hvm.cur) (h := fun q hq => ?_)
       | refine clT (hc := T_reader_play f hf cf A n c z.N z.cs z.mn (-1) (K + (z.k : Int)) (by omega) hzm.ok z.cb z.esC z.cC hzm.cur) (h := fun q hq => ?_)
      obtain ⟨dn2, hd2, hq⟩ := hq
      refine ww ?_
      refine WL.toRoM (b := q.b) (es := q.es) (c := q.c) atz_ ?_
      refine nl ?_
      refine q_blk_norm ?_
      refine q_seq ?_
      refine rg ?_
      iterate 2 refine ww ?_
      refine nl ?_
      first
       | (refine rn (x := z) ⟨q.N, q.mn, v.ns, v.es, v.c, q.ns, q.b, q.es, q.c, z.l ++ toC z.mn v.dn, z.k + 1⟩ ⟨by dsimp only; omega, hvm.play hd2 hq, hyl, fun y hy => by
         obtain ⟨j, h7, h8, h9⟩ := hvm.outR y hy
         exact ⟨j, h7, by dsimp only; omega, h9.mono hq.sub⟩⟩ (by dsimp only; omega) sbz_ slz_)
       | (refine rn (x := z) ⟨q.N, q.mn, z.ns, z.es, z.c, q.ns, q.b, q.es, q.c, z.l, z.k + 1⟩ ⟨by dsimp only; omega, hzm.play hd2 hq, hnl, fun y hy => by
         obtain ⟨j, h7, h8, h9⟩ := hzj y hy
         exact ⟨j, h7, by dsimp only; omega, h9.mono hq.sub⟩⟩ (by dsimp only; omega) sbz_ slz_)
    ·
     have hak : ¬ t.pair.1 ≤ (z.k : Int) := of_decide_eq_false h3
     have hnl : (z.l).Perm (missI f (toC mn ns) t.pair.1 (z.k + 1)) := by
      rw [missI, if_neg hak, List.append_nil]; exact hzl
     refine skp ?_
     refine q_seq ?_
     refine rg ?_
     iterate 2 refine ww ?_
     first
      | refine clT (hc := T_reader_play f hf cf A n c v.N z.cs v.mn (-1) (K + (z.k : Int)) (by omega) hvm.ok z.cb z.esC z.cC hvm.cur) (h := fun q hq => ?_)
      | refine clT (hc := T_reader_play f hf cf A n c z.N z.cs z.mn (-1) (K + (z.k : Int)) (by omega) hzm.ok z.cb z.esC z.cC hzm.cur) (h := fun q hq => ?_)
     obtain ⟨dn2, hd2, hq⟩ := hq
     refine ww ?_
     refine WL.toRoM (b := q.b) (es := q.es) (c := q.c) atz_ ?_
     refine nl ?_
     refine q_blk_norm ?_
     refine q_seq ?_
     refine rg ?_
     iterate 2 refine ww ?_
     refine nl ?_
     first
      | (refine rn (x := z) ⟨q.N, q.mn, v.ns, v.es, v.c, q.ns, q.b, q.es, q.c, z.l ++ toC z.mn v.dn, z.k + 1⟩ ⟨by dsimp only; omega, hvm.play hd2 hq, hyl, fun y hy => by
        obtain ⟨j, h7, h8, h9⟩ := hvm.outR y hy
        exact ⟨j, h7, by dsimp only; omega, h9.mono hq.sub⟩⟩ (by dsimp only; omega) sbz_ slz_)
      | (refine rn (x := z) ⟨q.N, q.mn, z.ns, z.es, z.c, q.ns, q.b, q.es, q.c, z.l, z.k + 1⟩ ⟨by dsimp only; omega, hzm.play hd2 hq, hnl, fun y hy => by
        obtain ⟨j, h7, h8, h9⟩ := hzj y hy
        exact ⟨j, h7, by dsimp only; omega, h9.mono hq.sub⟩⟩ (by dsimp only; omega) sbz_ slz_)
   ·
    have hkB : z.k = B + 1 := by simp only [decide_eq_false_iff_not] at h2; omega
    refine et ?_
    iterate 2 refine q_then_exit ?_
    refine q_blk_hit ?_
    refine q_blk_norm ?_
    refine q_seq ?_
    refine sr ?_
    iterate 2 refine ww ?_
    refine nq ?_
    refine rtn ?_
    refine q_ret (hR := ?_)
    rw [hkB] at hzm hzl
    exact fun w hS => ⟨⟨z.N, z.mn, z.ns, b2, z.es, z.c⟩, rd_missed ht hB hzl hzm (fun y hy => by obtain ⟨j, h7, h8, h9⟩ := hzj y hy; exact ⟨j, h7, by omega, h9⟩), rfl, hS.sub slz_⟩
  ·
   exact absurd ht (of_decide_eq_false h1)
end Go.Proofs.YthkliiifllhacaaGreat

namespace Go.Proofs.YthkliiifllhacaaGreat
open Go Go.RowKit

def sdV (x : Nt) (least : Int) : Bool := wi x.side least 1 && decide (x.pair = (0, 0))
def prV (x : Nt) (most : Int) : Bool := decide (x.side = 0) && wi x.pair.1 0 most && wi x.pair.2 0 most
def mkV (x : Nt) : Bool := bif decide (x.kind = 1) then sdV x (-1) else bif decide (x.kind = 2) then prV x 30 && decide (x.pair.1 ≤ x.pair.2) else
 bif decide (x.kind = 3) || (decide (x.kind = 4) || decide (x.kind = 5)) then prV x 40 else bif decide (x.kind = 6) || decide (x.kind = 7) then sdV x 0 else false
theorem T_isMark1 (x : Nt) (least : Int) (b : Nat) : Tr Tryz.prog 199 [.int .i64 least, .pointer (some ⟨b, 0, none⟩)] [.blk b 75 x.cells] (fun _ : Unit => True) (fun _ => .bool (sdV x least)) (fun _ => [.blk b 75 x.cells]) := by
 refine ⟨fun w0 w R hst => ?_⟩
 have zP : decide ([x.pair.1, x.pair.2] = [(0 : Int), 0]) = decide (x.pair = (0, 0)) := by rw [pair_eq2]; exact dec_pr x.pair (0, 0)
 refine en Tryz.func199 Tryz.ntmps199 hst (h := fun F => ?_)
 refine sr ?_
 refine ww ?_
 refine nr ?_
 iterate 3 refine ww ?_
 refine cl0 (hc := fun w hS => C_card_within ..) (h := ?_)
 refine ww ?_
 apply brAnd 5 8 13 (by exact rfl)
 ·
  intro hb0
  iterate 3 refine uw ?_
  refine uz ?_
  refine wy eqlT ?_
  refine ww ?_
  exact mg (by repeat (first | exact trivial | refine ⟨rfl, ?_⟩ | refine ⟨by rw [hb0]; rfl, ?_⟩)) slz_
 ·
  intro hb0
  repeat (first | refine uz ?_ | refine kz ?_ | refine wz ?_)
  exact mg (by repeat (first | exact trivial | refine ⟨rfl, ?_⟩ | refine ⟨by rw [hb0]; rfl, ?_⟩)) slz_
 refine ww ?_
 refine nq ?_
 refine rtn ?_
 refine q_ret (hR := ?_)
 exact fun w hS => ⟨(), trivial, by rw [sdV, ← zP]; rfl, hS⟩
theorem T_isMark2 (x : Nt) (most : Int) (b : Nat) : Tr Tryz.prog 200 [.int .i64 most, .pointer (some ⟨b, 0, none⟩)] [.blk b 75 x.cells] (fun _ : Unit => True) (fun _ => .bool (prV x most)) (fun _ => [.blk b 75 x.cells]) := by
 refine ⟨fun w0 w R hst => ?_⟩
 refine en Tryz.func200 Tryz.ntmps200 hst (h := fun F => ?_)
 refine sr ?_
 refine ww ?_
 refine nr ?_
 iterate 4 refine ww ?_
 apply brAnd 6 7 13 (by exact rfl)
 ·
  intro hb0
  iterate 4 refine uw ?_
  refine uz ?_
  refine cl0 (hc := fun w hS => C_card_within ..) (h := ?_)
  refine ww ?_
  exact mg (by repeat (first | exact trivial | refine ⟨rfl, ?_⟩ | refine ⟨by rw [hb0]; rfl, ?_⟩)) slz_
 ·
  intro hb0
  repeat (first | refine uz ?_ | refine kz ?_ | refine wz ?_)
  exact mg (by repeat (first | exact trivial | refine ⟨rfl, ?_⟩ | refine ⟨by rw [hb0]; rfl, ?_⟩)) slz_
 refine ww ?_
 apply brAnd 6 14 20 (by exact rfl)
 ·
  intro hb1
  iterate 4 refine uw ?_
  refine uz ?_
  refine cl0 (hc := fun w hS => C_card_within ..) (h := ?_)
  refine ww ?_
  exact mg (by repeat (first | exact trivial | refine ⟨rfl, ?_⟩ | refine ⟨by rw [hb1]; rfl, ?_⟩)) slz_
 ·
  intro hb1
  repeat (first | refine uz ?_ | refine kz ?_ | refine wz ?_)
  exact mg (by repeat (first | exact trivial | refine ⟨rfl, ?_⟩ | refine ⟨by rw [hb1]; rfl, ?_⟩)) slz_
 refine ww ?_
 refine nq ?_
 refine rtn ?_
 refine q_ret (hR := ?_)
 exact fun w hS => ⟨(), trivial, rfl, hS⟩
theorem C_card_isMark (x : Nt) (w : World) : C0 Tryz.prog 165 [x.val] w (.bool (mkV x)) := by
 refine ⟨en Tryz.func165 Tryz.ntmps165 (St.init w) (h := fun F => ?_)⟩
 refine sr ?_
 refine bxA (h := fun b0 => ?_)
 refine ww ?_
 refine nr ?_
 iterate 2 refine ww ?_
 refine nr ?_
 iterate 2 refine ww ?_
 refine nq ?_
 refine sq ?_
 refine sr ?_
 iterate 2 refine ww ?_
 refine nq ?_
 refine bk ?_
 refine sr ?_
 iterate 2 refine ww ?_
 refine nq ?_
 refine czz (fun h0 => ?_) fun h0 => ?_
 ·
  refine sr ?_
  refine ww ?_
  refine clfT inferInstance (fi := []) (cap := [.pointer (some ⟨b0, 0, none⟩)]) (by exact rfl) (by repeat (first | exact Evs.nil | (apply Evs.cons; exact rfl))) (T_isMark1 x (-1) b0) rfl (by repeat (first | exact Spl.nil | (apply Spl.cons; (repeat (first | exact At.here | apply At.there))))) (h := fun _ _ => ?_)
  refine ww ?_
  refine nq ?_
  refine rtn ?_
  refine q_blk_ret ?_
  refine q_then_ret ?_
  refine q_ret (hR := ?_)
  refine fun w hS => ⟨?_, hS.sub slz_⟩
  clear hS
  simp_all [mkV, resV]
 ·
  refine sr ?_
  iterate 2 refine ww ?_
  refine nq ?_
  refine czz (fun h1 => ?_) fun h1 => ?_
  ·
   refine sr ?_
   refine ww ?_
   refine clfT inferInstance (fi := []) (cap := [.pointer (some ⟨b0, 0, none⟩)]) (by exact rfl) (by repeat (first | exact Evs.nil | (apply Evs.cons; exact rfl))) (T_isMark2 x 30 b0) rfl (by repeat (first | exact Spl.nil | (apply Spl.cons; (repeat (first | exact At.here | apply At.there))))) (h := fun _ _ => ?_)
   refine ww ?_
   apply brAnd 8 17 25 (by exact rfl)
   ·
    intro hb2
    iterate 7 refine uw ?_
    refine ww ?_
    exact mg (by repeat (first | exact trivial | refine ⟨rfl, ?_⟩ | refine ⟨by rw [hb2]; rfl, ?_⟩)) slz_
   ·
    intro hb2
    repeat (first | refine uz ?_ | refine kz ?_ | refine wz ?_)
    exact mg (by repeat (first | exact trivial | refine ⟨rfl, ?_⟩ | refine ⟨by rw [hb2]; rfl, ?_⟩)) slz_
   refine ww ?_
   refine nq ?_
   refine rtn ?_
   refine q_blk_ret ?_
   refine q_then_ret ?_
   refine q_ret (hR := ?_)
   refine fun w hS => ⟨?_, hS.sub slz_⟩
   clear hS
   simp_all [mkV, resV]
  ·
   refine sq ?_
   refine sr ?_
   iterate 2 refine ww ?_
   refine nq ?_
   refine czz (fun h3 => ?_) fun h3 => ?_
   ·
    refine skp ?_
    refine q_seq ?_
    refine czz (fun h4 => ?_) fun h4 => ?_
    ·
     refine sr ?_
     refine ww ?_
     refine clfT inferInstance (fi := []) (cap := [.pointer (some ⟨b0, 0, none⟩)]) (by exact rfl) (by repeat (first | exact Evs.nil | (apply Evs.cons; exact rfl))) (T_isMark2 x 40 b0) rfl (by repeat (first | exact Spl.nil | (apply Spl.cons; (repeat (first | exact At.here | apply At.there))))) (h := fun _ _ => ?_)
     refine ww ?_
     refine nq ?_
     refine rtn ?_
     refine q_blk_ret ?_
     refine q_then_ret ?_
     refine q_ret (hR := ?_)
     refine fun w hS => ⟨?_, hS.sub slz_⟩
     clear hS
     simp_all [mkV, resV]
    ·
     refine sq ?_
     refine sr ?_
     iterate 2 refine ww ?_
     refine nq ?_
     refine czz (fun h5 => ?_) fun h5 => ?_
     ·
      refine skp ?_
      refine q_seq ?_
      refine czz (fun h6 => ?_) fun h6 => ?_
      ·
       refine sr ?_
       refine ww ?_
       refine clfT inferInstance (fi := []) (cap := [.pointer (some ⟨b0, 0, none⟩)]) (by exact rfl) (by repeat (first | exact Evs.nil | (apply Evs.cons; exact rfl))) (T_isMark1 x 0 b0) rfl (by repeat (first | exact Spl.nil | (apply Spl.cons; (repeat (first | exact At.here | apply At.there))))) (h := fun _ _ => ?_)
       refine ww ?_
       refine nq ?_
       refine rtn ?_
       refine q_blk_ret ?_
       refine q_then_ret ?_
       refine q_ret (hR := ?_)
       refine fun w hS => ⟨?_, hS.sub slz_⟩
       clear hS
       simp_all [mkV, resV]
      ·
       refine skp ?_
       refine q_blk_norm ?_
       refine q_seq ?_
       refine sr ?_
       refine ww ?_
       refine nq ?_
       refine rtn ?_
       refine q_ret (hR := ?_)
       refine fun w hS => ⟨?_, hS.sub slz_⟩
       clear hS
       simp_all [mkV, resV]
     ·
      refine rg ?_
      iterate 2 refine ww ?_
      refine nq ?_
      refine czz (fun h7 => ?_) fun h7 => ?_
      ·
       refine sr ?_
       refine ww ?_
       refine clfT inferInstance (fi := []) (cap := [.pointer (some ⟨b0, 0, none⟩)]) (by exact rfl) (by repeat (first | exact Evs.nil | (apply Evs.cons; exact rfl))) (T_isMark1 x 0 b0) rfl (by repeat (first | exact Spl.nil | (apply Spl.cons; (repeat (first | exact At.here | apply At.there))))) (h := fun _ _ => ?_)
       refine ww ?_
       refine nq ?_
       refine rtn ?_
       refine q_blk_ret ?_
       refine q_then_ret ?_
       refine q_ret (hR := ?_)
       refine fun w hS => ⟨?_, hS.sub slz_⟩
       clear hS
       simp_all [mkV, resV]
      ·
       refine skp ?_
       refine q_blk_norm ?_
       refine q_seq ?_
       refine sr ?_
       refine ww ?_
       refine nq ?_
       refine rtn ?_
       refine q_ret (hR := ?_)
       refine fun w hS => ⟨?_, hS.sub slz_⟩
       clear hS
       simp_all [mkV, resV]
   ·
    refine sr ?_
    iterate 2 refine ww ?_
    refine nq ?_
    refine czz (fun h8 => ?_) fun h8 => ?_
    ·
     refine skp ?_
     refine q_seq ?_
     refine czz (fun h9 => ?_) fun h9 => ?_
     ·
      refine sr ?_
      refine ww ?_
      refine clfT inferInstance (fi := []) (cap := [.pointer (some ⟨b0, 0, none⟩)]) (by exact rfl) (by repeat (first | exact Evs.nil | (apply Evs.cons; exact rfl))) (T_isMark2 x 40 b0) rfl (by repeat (first | exact Spl.nil | (apply Spl.cons; (repeat (first | exact At.here | apply At.there))))) (h := fun _ _ => ?_)
      refine ww ?_
      refine nq ?_
      refine rtn ?_
      refine q_blk_ret ?_
      refine q_then_ret ?_
      refine q_ret (hR := ?_)
      refine fun w hS => ⟨?_, hS.sub slz_⟩
      clear hS
      simp_all [mkV, resV]
     ·
      refine sq ?_
      refine sr ?_
      iterate 2 refine ww ?_
      refine nq ?_
      refine czz (fun h10 => ?_) fun h10 => ?_
      ·
       refine skp ?_
       refine q_seq ?_
       refine czz (fun h11 => ?_) fun h11 => ?_
       ·
        refine sr ?_
        refine ww ?_
        refine clfT inferInstance (fi := []) (cap := [.pointer (some ⟨b0, 0, none⟩)]) (by exact rfl) (by repeat (first | exact Evs.nil | (apply Evs.cons; exact rfl))) (T_isMark1 x 0 b0) rfl (by repeat (first | exact Spl.nil | (apply Spl.cons; (repeat (first | exact At.here | apply At.there))))) (h := fun _ _ => ?_)
        refine ww ?_
        refine nq ?_
        refine rtn ?_
        refine q_blk_ret ?_
        refine q_then_ret ?_
        refine q_ret (hR := ?_)
        refine fun w hS => ⟨?_, hS.sub slz_⟩
        clear hS
        simp_all [mkV, resV]
       ·
        refine skp ?_
        refine q_blk_norm ?_
        refine q_seq ?_
        refine sr ?_
        refine ww ?_
        refine nq ?_
        refine rtn ?_
        refine q_ret (hR := ?_)
        refine fun w hS => ⟨?_, hS.sub slz_⟩
        clear hS
        simp_all [mkV, resV]
      ·
       refine rg ?_
       iterate 2 refine ww ?_
       refine nq ?_
       refine czz (fun h12 => ?_) fun h12 => ?_
       ·
        refine sr ?_
        refine ww ?_
        refine clfT inferInstance (fi := []) (cap := [.pointer (some ⟨b0, 0, none⟩)]) (by exact rfl) (by repeat (first | exact Evs.nil | (apply Evs.cons; exact rfl))) (T_isMark1 x 0 b0) rfl (by repeat (first | exact Spl.nil | (apply Spl.cons; (repeat (first | exact At.here | apply At.there))))) (h := fun _ _ => ?_)
        refine ww ?_
        refine nq ?_
        refine rtn ?_
        refine q_blk_ret ?_
        refine q_then_ret ?_
        refine q_ret (hR := ?_)
        refine fun w hS => ⟨?_, hS.sub slz_⟩
        clear hS
        simp_all [mkV, resV]
       ·
        refine skp ?_
        refine q_blk_norm ?_
        refine q_seq ?_
        refine sr ?_
        refine ww ?_
        refine nq ?_
        refine rtn ?_
        refine q_ret (hR := ?_)
        refine fun w hS => ⟨?_, hS.sub slz_⟩
        clear hS
        simp_all [mkV, resV]
    ·
     refine rg ?_
     iterate 2 refine ww ?_
     refine nq ?_
     refine czz (fun h13 => ?_) fun h13 => ?_
     ·
      refine sr ?_
      refine ww ?_
      refine clfT inferInstance (fi := []) (cap := [.pointer (some ⟨b0, 0, none⟩)]) (by exact rfl) (by repeat (first | exact Evs.nil | (apply Evs.cons; exact rfl))) (T_isMark2 x 40 b0) rfl (by repeat (first | exact Spl.nil | (apply Spl.cons; (repeat (first | exact At.here | apply At.there))))) (h := fun _ _ => ?_)
      refine ww ?_
      refine nq ?_
      refine rtn ?_
      refine q_blk_ret ?_
      refine q_then_ret ?_
      refine q_ret (hR := ?_)
      refine fun w hS => ⟨?_, hS.sub slz_⟩
      clear hS
      simp_all [mkV, resV]
     ·
      refine sq ?_
      refine sr ?_
      iterate 2 refine ww ?_
      refine nq ?_
      refine czz (fun h14 => ?_) fun h14 => ?_
      ·
       refine skp ?_
       refine q_seq ?_
       refine czz (fun h15 => ?_) fun h15 => ?_
       ·
        refine sr ?_
        refine ww ?_
        refine clfT inferInstance (fi := []) (cap := [.pointer (some ⟨b0, 0, none⟩)]) (by exact rfl) (by repeat (first | exact Evs.nil | (apply Evs.cons; exact rfl))) (T_isMark1 x 0 b0) rfl (by repeat (first | exact Spl.nil | (apply Spl.cons; (repeat (first | exact At.here | apply At.there))))) (h := fun _ _ => ?_)
        refine ww ?_
        refine nq ?_
        refine rtn ?_
        refine q_blk_ret ?_
        refine q_then_ret ?_
        refine q_ret (hR := ?_)
        refine fun w hS => ⟨?_, hS.sub slz_⟩
        clear hS
        simp_all [mkV, resV]
       ·
        refine skp ?_
        refine q_blk_norm ?_
        refine q_seq ?_
        refine sr ?_
        refine ww ?_
        refine nq ?_
        refine rtn ?_
        refine q_ret (hR := ?_)
        refine fun w hS => ⟨?_, hS.sub slz_⟩
        clear hS
        simp_all [mkV, resV]
      ·
       refine rg ?_
       iterate 2 refine ww ?_
       refine nq ?_
       refine czz (fun h16 => ?_) fun h16 => ?_
       ·
        refine sr ?_
        refine ww ?_
        refine clfT inferInstance (fi := []) (cap := [.pointer (some ⟨b0, 0, none⟩)]) (by exact rfl) (by repeat (first | exact Evs.nil | (apply Evs.cons; exact rfl))) (T_isMark1 x 0 b0) rfl (by repeat (first | exact Spl.nil | (apply Spl.cons; (repeat (first | exact At.here | apply At.there))))) (h := fun _ _ => ?_)
        refine ww ?_
        refine nq ?_
        refine rtn ?_
        refine q_blk_ret ?_
        refine q_then_ret ?_
        refine q_ret (hR := ?_)
        refine fun w hS => ⟨?_, hS.sub slz_⟩
        clear hS
        simp_all [mkV, resV]
       ·
        refine skp ?_
        refine q_blk_norm ?_
        refine q_seq ?_
        refine sr ?_
        refine ww ?_
        refine nq ?_
        refine rtn ?_
        refine q_ret (hR := ?_)
        refine fun w hS => ⟨?_, hS.sub slz_⟩
        clear hS
        simp_all [mkV, resV]
def encN (xs : List Nt) : List (List Value) := xs.map Nt.cells
theorem encN_len (xs : List Nt) : (encN xs).length = xs.length := List.length_map _
theorem encN_at {xs : List Nt} {k : Nat} {x : Nt} (h : xs[k]? = some x) : (encN xs)[k]? = some x.cells := by unfold encN; rw [List.getElem?_map, h]; rfl
def headB (f : Fmt) (first : Int) (n : Nat) : Bool := !decide (chkF f = 0) || !wi first (-1) 1 || decide ((30 : Int) < n)
def chkC (f : Fmt) (first : Int) (xs : List Nt) : Int := bif headB f first xs.length then 30 else bif !xs.all mkV then 30 else bif decide (600 < mostS xs) then 30 else 0
theorem mostS_succ {xs : List Nt} {k : Nat} {x : Nt} (h : xs[k]? = some x) : mostS (xs.take (k + 1)) = mostS (xs.take k) + mostN x := by
 unfold mostS
 rw [List.take_add_one, h, List.map_append, List.sum_append]
 show _ + (mostN x + 0) = _
 omega
theorem mk_kind {x : Nt} (h : mkV x = true) : (1 ≤ x.kind ∧ x.kind ≤ 7) ∧ (x.kind = 1 → -1 ≤ x.side ∧ x.side ≤ 1 ∧ x.pair = (0, 0)) ∧ (x.kind = 2 → x.side = 0 ∧ 0 ≤ x.pair.1 ∧ x.pair.1 ≤ x.pair.2 ∧ x.pair.2 ≤ 30) ∧ (3 ≤ x.kind → x.kind ≤ 5 → x.side = 0 ∧ (0 ≤ x.pair.1 ∧ x.pair.1 ≤ 40) ∧ 0 ≤ x.pair.2 ∧ x.pair.2 ≤ 40) ∧ (6 ≤ x.kind → 0 ≤ x.side ∧ x.side ≤ 1 ∧ x.pair = (0, 0)) := by
 unfold mkV at h
 by_cases h1 : x.kind = 1
 ·
  rw [decide_eq_true h1, cond_true, sdV, Bool.and_eq_true, wi_iff, decide_eq_true_eq] at h
  exact ⟨by omega, fun _ => ⟨h.1.1, h.1.2, h.2⟩, by omega, by omega, by omega⟩
 rw [decide_eq_false h1, cond_false] at h
 by_cases h2 : x.kind = 2
 ·
  rw [decide_eq_true h2, cond_true, prV, Bool.and_eq_true, Bool.and_eq_true, Bool.and_eq_true, wi_iff, wi_iff, decide_eq_true_eq, decide_eq_true_eq] at h
  exact ⟨by omega, by omega, fun _ => by omega, by omega, by omega⟩
 rw [decide_eq_false h2, cond_false] at h
 by_cases h3 : (decide (x.kind = 3) || (decide (x.kind = 4) || decide (x.kind = 5))) = true
 ·
  rw [h3, cond_true, prV, Bool.and_eq_true, Bool.and_eq_true, wi_iff, wi_iff, decide_eq_true_eq] at h
  simp only [Bool.or_eq_true, decide_eq_true_eq] at h3
  exact ⟨by omega, by omega, by omega, fun _ _ => by omega, by omega⟩
 rw [Bool.not_eq_true] at h3
 rw [h3, cond_false] at h
 by_cases h4 : (decide (x.kind = 6) || decide (x.kind = 7)) = true
 ·
  rw [h4, cond_true, sdV, Bool.and_eq_true, wi_iff, decide_eq_true_eq] at h
  simp only [Bool.or_eq_true, decide_eq_true_eq] at h4
  exact ⟨by omega, by omega, by omega, by omega, fun _ => ⟨h.1.1, h.1.2, h.2⟩⟩
 ·
  rw [Bool.not_eq_true] at h4
  rw [h4, cond_false] at h
  cases h
theorem most_bd {x : Nt} (h : mkV x = true) : 0 ≤ mostN x ∧ mostN x ≤ 30 := by
 have hk := mk_kind h
 unfold mostN
 by_cases h1 : x.kind = 1
 ·
  rw [if_pos h1]; omega
 ·
  rw [if_neg h1]
  by_cases h2 : x.kind = 2
  ·
   rw [if_pos h2]; have := hk.2.2.1 h2; omega
  ·
   rw [if_neg h2]; omega
structure CKZ where
 (k : Nat)
theorem all_take {xs : List Nt} {k : Nat} {x : Nt} (h : xs[k]? = some x) : (xs.take (k + 1)).all mkV = ((xs.take k).all mkV && mkV x) := by
 rw [List.take_add_one, h, List.all_append]
 simp
theorem all_bad {xs : List Nt} {k : Nat} (h : (xs.take k).all mkV = false) : xs.all mkV = false := by
 cases hh : xs.all mkV
 ·
  rfl
 ·
  rw [List.all_eq_true] at hh
  have : (xs.take k).all mkV = true := List.all_eq_true.2 fun x hx => hh x (List.mem_of_mem_take hx)
  rw [this] at h; cases h
theorem C_card_Check (f : Fmt) (first : Int) (xs : List Nt) (A : Option Addr) (n c : Nat) (w : World) (h : Rd w A 4 n (encN xs)) (hn : n ≤ 9223372036854775807) : C0 Tryz.prog 104 [.agg (cardC f first A n c).toArray] w (.int .i64 (chkC f first xs)) := by
 have hlen : xs.length = n := by have := h.len; rwa [encN_len] at this
 refine ⟨en Tryz.func104 Tryz.ntmps104 ((St.init w).share (e := .ro A 4 n (encN xs)) h rfl rfl rfl) (h := fun F => ?_)⟩
 refine sr ?_
 refine bxA (h := fun b0 => ?_)
 refine ww ?_
 refine nq ?_
 refine sq ?_
 refine sr ?_
 iterate 2 refine ww ?_
 refine cl0 (hc := fun w hS => C_score_Check _ w) (h := ?_)
 iterate 2 refine ww ?_
 apply brOr 5 10 15 (by exact rfl)
 ·
  intro hb0
  iterate 2 refine uw ?_
  refine uz ?_
  refine cl0 (hc := fun w hS => C_card_within ..) (h := ?_)
  refine uw ?_
  refine ww ?_
  exact mg (by repeat (first | exact trivial | refine ⟨rfl, ?_⟩ | refine ⟨by rw [hb0]; rfl, ?_⟩)) slz_
 ·
  intro hb0
  repeat (first | refine uz ?_ | refine kz ?_ | refine wz ?_)
  exact mg (by repeat (first | exact trivial | refine ⟨rfl, ?_⟩ | refine ⟨by rw [hb0]; rfl, ?_⟩)) slz_
 refine ww ?_
 apply brOr 5 16 21 (by exact rfl)
 ·
  intro hb1
  iterate 4 refine uw ?_
  refine ww ?_
  exact mg (by repeat (first | exact trivial | refine ⟨rfl, ?_⟩ | refine ⟨by rw [hb1]; rfl, ?_⟩)) slz_
 ·
  intro hb1
  repeat (first | refine uz ?_ | refine kz ?_ | refine wz ?_)
  exact mg (by repeat (first | exact trivial | refine ⟨rfl, ?_⟩ | refine ⟨by rw [hb1]; rfl, ?_⟩)) slz_
 refine nq ?_
 refine czz (fun h2 => ?_) fun h2 => ?_
 ·
  have hE : chkC f first xs = 30 := by
   have h' : headB f first xs.length = true := by rw [hlen]; exact h2
   rw [chkC, h']; rfl
  refine sr ?_
  refine ww ?_
  refine nq ?_
  refine rtn ?_
  refine q_then_ret ?_
  refine q_ret (hR := ?_)
  rw [hE]
  exact fun w hS => ⟨rfl, hS.sub slz_⟩
 ·
  have hH : headB f first xs.length = false := by rw [hlen]; exact h2
  have hn30 : n ≤ 30 := by
   have h' := hH
   unfold headB at h'
   simp only [Bool.or_eq_false_iff, decide_eq_false_iff_not] at h'
   omega
  refine skp ?_
  refine q_seq ?_
  refine sr ?_
  refine ww ?_
  refine WL.cut (by repeat (first | exact Cut.nil | apply Cut.hit | apply Cut.miss (by exact rfl))) ?_
  refine nq ?_
  refine sq ?_
  refine sr ?_
  iterate 4 refine ww ?_
  refine nq ?_
  refine bk ?_
  refine lp (X := CKZ) (I := fun z => z.k ≤ n ∧ (xs.take z.k).all mkV = true ∧ 0 ≤ mostS (xs.take z.k) ∧ mostS (xs.take z.k) ≤ 30 * (z.k : Int)) (le := fun z => [(3, .int .i64 (mostS (xs.take z.k))), (23, .slice A n c), (24, .int .i64 n), (25, .int .i64 z.k)]) (Le := fun z => [.ro A 4 n (encN xs)]) (μ := fun z => n - z.k) ⟨0⟩ ⟨Nat.zero_le _, rfl, by exact Int.le_refl _, by exact Int.le_refl _⟩ sbz_ slz_ (fun z hz => ?_)
  obtain ⟨hzk, hza, hz0, hzm⟩ := hz
  refine sr ?_
  refine ww ?_
  refine nq ?_
  refine sq ?_
  refine czz (fun h3 => ?_) fun h3 => ?_
  ·
   have hkn : z.k < n := by simp only [decide_eq_true_eq] at h3; omega
   obtain ⟨x, hx⟩ : ∃ x, xs[z.k]? = some x := ⟨_, List.getElem?_eq_getElem (by omega)⟩
   have hxe := encN_at hx
   have hms := mostS_succ hx
   have hal := all_take hx
   refine skp ?_
   refine q_seq ?_
   refine sq ?_
   refine bk ?_
   refine sr ?_
   refine wy (ix (hb := by omega)) ?_
   refine wy (ldEA (hk := hxe)) ?_
   refine al (h := fun b1 => ?_)
   first | refine stA (h := ?_) | refine stEA (h := ?_)
   refine nq ?_
   refine sq ?_
   refine sr ?_
   refine ww ?_
   refine cl0 (hc := fun w hS => C_card_isMark _ w) (h := ?_)
   refine ww ?_
   refine nq ?_
   refine czz (fun h4 => ?_) fun h4 => ?_
   ·
    have hE : chkC f first xs = 30 := by
     have h1 : (!mkV x) = true := h4
     have h2 : xs.all mkV = false := all_bad (k := z.k + 1) (by rw [hal, show mkV x = false by simpa using h1, Bool.and_false])
     rw [chkC, hH, h2]; rfl
    refine sr ?_
    refine ww ?_
    refine nq ?_
    refine rtn ?_
    refine q_then_ret ?_
    refine q_blk_ret ?_
    iterate 2 refine q_then_ret ?_
    refine q_blk_ret ?_
    refine q_then_ret ?_
    refine q_ret (hR := ?_)
    rw [hE]
    exact fun w hS => ⟨rfl, hS.sub slz_⟩
   ·
    have hmk : mkV x = true := by simpa using h4
    have hmb := most_bd hmk
    have hal2 : (xs.take (z.k + 1)).all mkV = true := by rw [hal, hza, hmk]; rfl
    refine skp ?_
    refine q_seq ?_
    refine sr ?_
    iterate 2 refine ww ?_
    refine nq ?_
    refine bk ?_
    refine sr ?_
    iterate 2 refine ww ?_
    refine nq ?_
    refine czz (fun h5 => ?_) fun h5 => ?_
    ·
     have hmo : mostN x = 1 := by unfold mostN; rw [if_pos (of_decide_eq_true h5)]
     refine rg ?_
     refine ww ?_
     refine wy (addI (hb := by omega)) ?_
     refine ww ?_
     refine WL.cut (by repeat (first | exact Cut.nil | apply Cut.hit | apply Cut.miss (by exact rfl))) ?_
     refine nl ?_
     iterate 2 refine q_blk_norm ?_
     refine q_seq ?_
     refine rg ?_
     iterate 2 refine ww ?_
     refine nl ?_
     refine rn (x := z) ⟨z.k + 1⟩ ⟨by dsimp only; omega, hal2, by dsimp only; omega, by dsimp only; omega⟩ (by dsimp only; omega) (by dsimp only; rw [hms, hmo]; (try rw [Int.add_zero]); repeat (first | exact trivial | refine ⟨rfl, ?_⟩)) slz_
    ·
     have hk1 : ¬ x.kind = 1 := of_decide_eq_false h5
     refine sr ?_
     iterate 2 refine ww ?_
     refine nq ?_
     refine czz (fun h6 => ?_) fun h6 => ?_
     ·
      have hmo : mostN x = x.pair.2 := by unfold mostN; rw [if_neg hk1, if_pos (of_decide_eq_true h6)]
      have hpb : 0 ≤ x.pair.2 ∧ x.pair.2 ≤ 30 := by rw [← hmo]; exact hmb
      refine rg ?_
      iterate 4 refine ww ?_
      refine wy (addI (hb := by omega)) ?_
      refine ww ?_
      refine WL.cut (by repeat (first | exact Cut.nil | apply Cut.hit | apply Cut.miss (by exact rfl))) ?_
      refine nl ?_
      iterate 2 refine q_blk_norm ?_
      refine q_seq ?_
      refine rg ?_
      iterate 2 refine ww ?_
      refine nl ?_
      refine rn (x := z) ⟨z.k + 1⟩ ⟨by dsimp only; omega, hal2, by dsimp only; omega, by dsimp only; omega⟩ (by dsimp only; omega) (by dsimp only; rw [hms, hmo]; (try rw [Int.add_zero]); repeat (first | exact trivial | refine ⟨rfl, ?_⟩)) slz_
     ·
      have hmo : mostN x = 0 := by unfold mostN; rw [if_neg hk1, if_neg (of_decide_eq_false h6)]
      refine skp ?_
      iterate 2 refine q_blk_norm ?_
      refine q_seq ?_
      refine rg ?_
      iterate 2 refine ww ?_
      refine nl ?_
      refine rn (x := z) ⟨z.k + 1⟩ ⟨by dsimp only; omega, hal2, by dsimp only; omega, by dsimp only; omega⟩ (by dsimp only; omega) (by dsimp only; rw [hms, hmo]; (try rw [Int.add_zero]); repeat (first | exact trivial | refine ⟨rfl, ?_⟩)) slz_
  ·
   have hkn : z.k = n := by simp only [decide_eq_false_iff_not] at h3; omega
   have htk : xs.take z.k = xs := by rw [hkn, ← hlen, List.take_length]
   rw [htk] at hza hzm
   refine et ?_
   iterate 2 refine q_then_exit ?_
   refine q_blk_hit ?_
   refine q_seq ?_
   refine sq ?_
   refine sr ?_
   iterate 2 refine ww ?_
   refine nq ?_
   refine czz (fun h7 => ?_) fun h7 => ?_
   ·
    have h8 := h7
    rw [htk] at h8
    have hE : chkC f first xs = 30 := by rw [chkC, hH, hza, show decide (600 < mostS xs) = true from h8]; rfl
    refine sr ?_
    refine ww ?_
    refine nq ?_
    refine rtn ?_
    refine q_then_ret ?_
    refine q_ret (hR := ?_)
    rw [hE]
    exact fun w hS => ⟨rfl, hS.sub slz_⟩
   ·
    have h8 := h7
    rw [htk] at h8
    have hE : chkC f first xs = 0 := by rw [chkC, hH, hza, show decide (600 < mostS xs) = false from h8]; rfl
    refine skp ?_
    refine q_seq ?_
    refine sr ?_
    refine ww ?_
    refine nq ?_
    refine rtn ?_
    refine q_ret (hR := ?_)
    rw [hE]
    exact fun w hS => ⟨rfl, hS.sub slz_⟩
end Go.Proofs.YthkliiifllhacaaGreat

namespace Go.Proofs.YthkliiifllhacaaGreat
open Go Go.RowKit

def begTo (cf : Int) : Nat → List En
 | 0 => []
 | k + 1 => begTo cf k ++ if cf = -1 ∨ cf = (k : Int) then [(⟨(k : Int), [], (0, 0), (0, 0)⟩, (0, 0, 0))] else []
theorem begTo_two (cf : Int) : begTo cf 2 = begC cf := by
 show (([] : List En) ++ _) ++ _ = _
 unfold begC
 rw [List.nil_append]
 rfl
structure BgI (f : Fmt) (cf : Int) (k : Nat) (N : List Nd) (mn : Nat → Pr) (ns : List Nd) (es : Array MapEntry) (c : Nat) : Prop where
 ok : PoolOk f N mn 0
 cr : CrIs N ns es c
 eqC : toC mn ns = begTo cf k
 row : ∀ y ∈ ns, RowN N y [] ∧ y.s = ⟨y.s.first, [], (0, 0), (0, 0)⟩ ∧ (cf = -1 ∨ cf = y.s.first) ∧ 0 ≤ y.s.first ∧ y.s.first < (k : Int)
theorem BgI.skip {f : Fmt} {cf : Int} {k : Nat} {N : List Nd} {mn : Nat → Pr} {ns : List Nd} {es : Array MapEntry} {c : Nat} (h : BgI f cf k N mn ns es c) (hc : ¬ (cf = -1 ∨ cf = (k : Int))) : BgI f cf (k + 1) N mn ns es c :=
 ⟨h.ok, h.cr, by rw [begTo, if_neg hc, List.append_nil]; exact h.eqC, fun y hy => by have := h.row y hy; exact ⟨this.1, this.2.1, this.2.2.1, this.2.2.2.1, by omega⟩⟩
theorem BgI.get {f : Fmt} {cf : Int} {k : Nat} {N : List Nd} {mn : Nat → Pr} {ns : List Nd} {es : Array MapEntry} {c : Nat} (h : BgI f cf k N mn ns es c) : getN ns ⟨(k : Int), [], (0, 0), (0, 0)⟩ = none :=
 List.find?_eq_none.2 fun y hy => by
  rw [decide_eq_true_eq]
  intro e
  have := (h.row y hy).2.2.2.2
  rw [e] at this
  exact absurd this (by show ¬ (k : Int) < (k : Int); omega)
theorem BgI.add {f : Fmt} {cf : Int} {k : Nat} {N : List Nd} {mn : Nat → Pr} {ns : List Nd} {es es2 : Array MapEntry} {c c2 : Nat} (h : BgI f cf k N mn ns es c) (hk : k < 2) (hc : cf = -1 ∨ cf = (k : Int)) {b : Nat} (hne : ∀ z ∈ N, z.b ≠ b) (hm : MapIs es2 (crE (putNs ns ⟨b, ⟨(k : Int), [], (0, 0), (0, 0)⟩, none, 0⟩)) ∧ Stm es2 c2) :
  BgI f cf (k + 1) (⟨b, ⟨(k : Int), [], (0, 0), (0, 0)⟩, none, 0⟩ :: N) (upN mn b (0, 0)) (putNs ns ⟨b, ⟨(k : Int), [], (0, 0), (0, 0)⟩, none, 0⟩) es2 c2 := by
 have hup : ∀ z ∈ N, z ∈ (⟨b, ⟨(k : Int), [], (0, 0), (0, 0)⟩, none, 0⟩ :: N : List Nd) := fun z hz => List.mem_cons_of_mem _ hz
 have hok := h.ok.first (y := ⟨b, ⟨(k : Int), [], (0, 0), (0, 0)⟩, none, 0⟩) (Int.le_refl _) hne (by dsimp only; omega) rfl rfl
 have hg := h.get
 refine ⟨hok, (h.cr.up hup).put List.mem_cons_self hm, ?_, fun y hy => ?_⟩
 ·
  rw [putNs_none hg]
  show toC _ (ns ++ [_]) = _
  unfold toC
  rw [List.map_append, begTo, if_pos hc, ← h.eqC]
  congr 1
  ·
   exact toC_congr fun y hy => upN_other (hne y (h.cr.sub y hy))
  ·
   show [((⟨(k : Int), [], (0, 0), (0, 0)⟩ : Spot), ((upN mn b (0, 0) b).1, (upN mn b (0, 0) b).2, (0 : Int)))] = _
   rw [upN_same]
 ·
  rcases putNs_mem hy with h5 | rfl
  ·
   have := h.row y h5
   exact ⟨this.1.mono hup, this.2.1, this.2.2.1, this.2.2.2.1, by omega⟩
  ·
   exact ⟨.nil rfl, rfl, hc, by dsimp only; omega, by dsimp only; omega⟩
structure BGZ where
 (N : List Nd) (mn : Nat → Pr) (ns : List Nd) (es : Array MapEntry) (c k : Nat)
set_option maxRecDepth 100000 in
theorem T_reader_begin (f : Fmt) (hf : f.Ok) (cf : Int) (A : Option Addr) (n c : Nat) (mn : Nat → Pr) :
  Tr Tryz.prog 105 [.agg (cardC f cf A n c).toArray] [poolE 255 [] mn none] (fun q : PR => BgI f cf 2 q.N q.mn q.ns q.es q.c) (fun q => .map (some q.b)) (fun q => [poolE 255 q.N q.mn none, .obj q.b (.map q.es q.c)]) := by
 refine ⟨fun w0 w R hst => ?_⟩
 refine en Tryz.func105 Tryz.ntmps105 hst (h := fun F => ?_)
 refine sr ?_
 refine bxA (h := fun b0 => ?_)
 refine ww ?_
 refine nr ?_
 refine mkm (h := fun b1 => ?_)
 refine ww ?_
 refine nq ?_
 refine sq ?_
 refine sr ?_
 refine ww ?_
 refine nq ?_
 refine bk ?_
 refine lp (X := BGZ) (I := fun z => z.k ≤ 2 ∧ BgI f cf z.k z.N z.mn z.ns z.es z.c) (le := fun z => [(1, .pointer (some ⟨b0, 0, none⟩)), (3, .map (some b1)), (6, .int .i64 z.k)]) (Le := fun z => .obj b1 (.map z.es z.c) :: .blk b0 197 (cardC f cf A n c) :: poolE 255 z.N z.mn none :: R) (μ := fun z => 2 - z.k) ⟨[], mn, [], #[], 0, 0⟩ ⟨Nat.zero_le _, ⟨PoolOk.nil f mn 0, CrIs.nil [], rfl, fun y hy => (by cases hy)⟩⟩ sbz_ slz_ (fun z hz => ?_)
 obtain ⟨hzk, hzb⟩ := hz
 refine sr ?_
 refine ww ?_
 refine nq ?_
 refine sq ?_
 refine czz (fun h0 => ?_) fun h0 => ?_
 ·
  have hk2 : z.k < 2 := by simp only [decide_eq_true_eq] at h0; omega
  refine skp ?_
  refine q_seq ?_
  refine sq ?_
  refine bk ?_
  refine sr ?_
  iterate 2 refine ww ?_
  refine nr ?_
  iterate 5 refine ww ?_
  apply brOr 6 13 19 (by exact rfl)
  ·
   intro hb1
   iterate 5 refine uw ?_
   refine ww ?_
   exact mg (by repeat (first | exact trivial | refine ⟨rfl, ?_⟩ | refine ⟨by rw [hb1]; rfl, ?_⟩)) slz_
  ·
   intro hb1
   repeat (first | refine uz ?_ | refine kz ?_ | refine wz ?_)
   exact mg (by repeat (first | exact trivial | refine ⟨rfl, ?_⟩ | refine ⟨by rw [hb1]; rfl, ?_⟩)) slz_
  refine nq ?_
  refine czz (fun h2 => ?_) fun h2 => ?_
  ·
   have hcf : cf = -1 ∨ cf = ((z.k : Nat) : Int) := by
    have h' : (decide (cf = -1) || decide (cf = (z.k : Int))) = true := h2
    simpa using h'
   refine rg ?_
   iterate 4 refine ww ?_
   refine bxA (h := fun b2 => ?_)
   refine WL.pNew ⟨b2, ⟨((z.k : Nat) : Int), [], (0, 0), (0, 0)⟩, none, 0⟩ (0, 0) .here atz_ (fun hne => ?_)
   have hcp := hzb.ok.first (y := ⟨b2, ⟨((z.k : Nat) : Int), [], (0, 0), (0, 0)⟩, none, 0⟩) (Int.le_refl _) hne (by dsimp only; omega) rfl rfl
   refine clT (hc := T_put (⟨b2, ⟨((z.k : Nat) : Int), [], (0, 0), (0, 0)⟩, none, 0⟩ :: z.N) z.ns (upN z.mn b2 (0, 0)) ⟨b2, ⟨((z.k : Nat) : Int), [], (0, 0), (0, 0)⟩, none, 0⟩ b1 z.es z.c hzb.cr.m hzb.cr.s hcp.nd (fun y hy => (hcp.ok y hy).len hf) (fun y hy => List.mem_cons_of_mem _ (hzb.cr.sub y hy)) List.mem_cons_self) (h := fun q hq => ?_)
   rw [putM_none hzb.get]
   refine nl ?_
   refine q_blk_norm ?_
   refine q_seq ?_
   refine rg ?_
   iterate 2 refine ww ?_
   refine nl ?_
   first
    | (refine rn (x := z) ⟨⟨b2, ⟨((z.k : Nat) : Int), [], (0, 0), (0, 0)⟩, none, 0⟩ :: z.N, upN z.mn b2 (0, 0), putNs z.ns ⟨b2, ⟨((z.k : Nat) : Int), [], (0, 0), (0, 0)⟩, none, 0⟩, q.1, q.2, z.k + 1⟩ ⟨by dsimp only; omega, hzb.add hk2 hcf hne hq⟩ (by dsimp only; omega) sbz_ slz_)
    | (refine rn (x := z) ⟨z.N, z.mn, z.ns, z.es, z.c, z.k + 1⟩ ⟨by dsimp only; omega, hzb.skip hcf⟩ (by dsimp only; omega) sbz_ slz_)
  ·
   have hcf : ¬ (cf = -1 ∨ cf = ((z.k : Nat) : Int)) := by
    have h' : (decide (cf = -1) || decide (cf = (z.k : Int))) = false := h2
    simpa using h'
   refine skp ?_
   refine q_blk_norm ?_
   refine q_seq ?_
   refine rg ?_
   iterate 2 refine ww ?_
   refine nl ?_
   first
    | (refine rn (x := z) ⟨⟨b2, ⟨((z.k : Nat) : Int), [], (0, 0), (0, 0)⟩, none, 0⟩ :: z.N, upN z.mn b2 (0, 0), putNs z.ns ⟨b2, ⟨((z.k : Nat) : Int), [], (0, 0), (0, 0)⟩, none, 0⟩, q.1, q.2, z.k + 1⟩ ⟨by dsimp only; omega, hzb.add hk2 hcf hne hq⟩ (by dsimp only; omega) sbz_ slz_)
    | (refine rn (x := z) ⟨z.N, z.mn, z.ns, z.es, z.c, z.k + 1⟩ ⟨by dsimp only; omega, hzb.skip hcf⟩ (by dsimp only; omega) sbz_ slz_)
 ·
  have hk2 : z.k = 2 := by simp only [decide_eq_false_iff_not] at h0; omega
  refine et ?_
  iterate 2 refine q_then_exit ?_
  refine q_blk_hit ?_
  refine q_seq ?_
  refine sr ?_
  iterate 2 refine ww ?_
  refine nq ?_
  refine rtn ?_
  refine q_ret (hR := ?_)
  rw [hk2] at hzb
  exact fun w hS => ⟨⟨z.N, z.mn, z.ns, b1, z.es, z.c⟩, hzb, rfl, hS.sub slz_⟩
end Go.Proofs.YthkliiifllhacaaGreat

namespace Go.Proofs.YthkliiifllhacaaGreat
open Go Go.RowKit

section rules
variable {F : Fence} {P : Program} {ops : Array Oper} {Q : Exit → Act → World → Prop} {rest : List Oper} {n : Nat} {D : List Deferred} {l : Env} {w0 : World} {L M : List Ent}
theorem lenR {x : Operand} {b : Nat} {es : Array MapEntry} {c : Nat} {t k e : TypeId} (hT : MapTy P t k e := by infer_instance) (hx : ev l x = some (.map (some b)) := by exact rfl) (ha : At L (roM b es c) M := by repeat (first | exact At.here | apply At.there)) : Yd P n D l w0 L (.call { callee := .builtin .len, args := #[x], argTypes := #[t] }) (.int .i64 es.size) :=
 ⟨by simp, by simp, fun oo ho ac w hfr hst => by
  have hb : w.heap[b]? = some (.map es c) := hst _ ha.mem
  simp [execOp, ho, resolve, invoke, builtin, hfr.eval hx, Builtin.len_, run_underlying hT.und, getMap hb, goInt]⟩
end rules
theorem CrIs.size {N ns : List Nd} {es : Array MapEntry} {c : Nat} (h : CrIs N ns es c) : es.size = ns.length := by
 have := congrArg List.length (cr_kv h)
 simpa using this
theorem T_read (f : Fmt) (hf : f.Ok) (hc0 : chkF f = 0) (cf : Int) (A : Option Addr) (n c : Nat) (N ns : List Nd) (mn : Nat → Pr) (t : Nt) (ht : mkV t = true) (K : Int) (hK : K ≤ 500) (hP : PoolOk f N mn K) (b : Nat) (es : Array MapEntry) (cl : Nat) (hC : CrIs N ns es cl) :
  Tr Tryz.prog 106 [.agg (cardC f cf A n c).toArray, .map (some b), t.val] [poolE 255 N mn none, roM b es cl] (RdOk f N mn ns t K) (fun q => .map (some q.b)) (fun q => [poolE 255 q.N q.mn none, .obj q.b (.map q.es q.c), roM b es cl]) := by
 have hk := mk_kind ht
 by_cases h1 : t.kind = 1
 ·
  exact T_read_noted f hf cf A n c N ns mn t K hK hP b es cl hC h1
 by_cases h2 : t.kind = 2
 ·
  have h3 := hk.2.2.1 h2
  exact T_read_missed f hf cf A n c N ns mn t K hK hP b es cl hC h2 t.pair.2.toNat (by omega) (by omega)
 ·
  exact T_read_test f hf hc0 cf A n c N ns mn t K hK hP b es cl hC h1 h2
structure StI (f : Fmt) (cf : Int) (xs : List Nt) (j : Nat) (q : PR) : Prop where
 ok : PoolOk f q.N q.mn (mostS (xs.take j) + (j : Int))
 cr : CrIs q.N q.ns q.es q.c
 eqC : (toC q.mn q.ns).Perm (crowdC f cf (xs.take j))
 row : ∀ y ∈ q.ns, ∃ r, RowN q.N y r ∧ Row_ f cf xs j y.s y.s.first r
theorem StI.start {f : Fmt} {cf : Int} {xs : List Nt} {q : PR} (h : BgI f cf 2 q.N q.mn q.ns q.es q.c) : StI f cf xs 0 q := by
 refine ⟨h.ok, h.cr, ?_, fun y hy => ?_⟩
 ·
  rw [h.eqC, begTo_two]; exact .refl _
 ·
  obtain ⟨h1, h2, h3, h4, h5⟩ := h.row y hy
  refine ⟨[], h1, ?_⟩
  rw [h2]
  exact row_begin (by omega) h3
theorem StI.read {f : Fmt} {cf : Int} {xs : List Nt} {j : Nat} {q q2 : PR} {x : Nt} (h : StI f cf xs j q) (hx : xs[j]? = some x) (hr : RdOk f q.N q.mn q.ns x (mostS (xs.take j) + (j : Int)) q2) : StI f cf xs (j + 1) q2 := by
 refine ⟨?_, hr.cr, ?_, fun y hy => ?_⟩
 ·
  have := hr.ok
  rw [mostS_succ hx, show mostS (xs.take j) + mostN x + ((j + 1 : Nat) : Int) = mostS (xs.take j) + (j : Int) + mostN x + 1 by omega]
  exact this
 ·
  rw [crowd_succ f cf hx]
  exact hr.eqC.trans (after_perm f x h.eqC)
 ·
  obtain ⟨x0, hx0, r, p, h1, h2, h3, h4⟩ := hr.fr y hy
  obtain ⟨r0, h5, h6⟩ := h.row x0 hx0
  obtain rfl := h5.uniq h.ok.nd h1
  obtain ⟨r', h7, _, h8, h9⟩ := (hr.ok.ok y (hr.cr.sub y hy)).row
  obtain rfl := h7.uniq hr.ok.nd h2
  rw [h3] at h8 h9 ⊢
  exact ⟨_, h2, row_read h6 hx h8 h9 h4⟩
theorem StI.none {f : Fmt} {cf : Int} {xs : List Nt} {j : Nat} {q : PR} (h : StI f cf xs j q) : q.es.size = 0 ↔ crowdC f cf (xs.take j) = [] := by
 rw [h.cr.size, ← List.length_eq_zero_iff (l := crowdC f cf (xs.take j)), ← h.eqC.length_eq]
 unfold toC
 rw [List.length_map]
theorem bad_at {f : Fmt} {cf : Int} {xs : List Nt} {i : Nat} (hi : i < xs.length) (h0 : crowdC f cf (xs.take (i + 1)) = []) (h1 : ∀ j, j ≤ i → crowdC f cf (xs.take j) ≠ []) : badC f cf xs = i := by
 unfold badC
 rcases fstC_spec (fun i => (crowdC f cf (xs.take (i + 1))).isEmpty) xs.length with ⟨_, h3⟩ | ⟨k, hk, h2, h3, h4⟩
 ·
  have := h3 i hi
  rw [h0] at this; cases this
 ·
  rw [h2]
  congr 1
  by_cases e1 : k < i
  ·
   exact absurd (List.isEmpty_iff.1 h3) (h1 (k + 1) (by omega))
  ·
   by_cases e2 : i < k
   ·
    have := h4 i e2
    rw [h0] at this; cases this
   ·
    omega
structure AZ where
 (q : PR) (k : Nat)
def AllOk (f : Fmt) (cf : Int) (xs : List Nt) (o : Option PR) : Prop := match o with
 | none => chkC f cf xs ≠ 0 ∨ 0 ≤ badC f cf xs
 | some q => chkC f cf xs = 0 ∧ badC f cf xs = -1 ∧ StI f cf xs xs.length q
def allB (f : Fmt) (cf : Int) (xs : List Nt) : Int := bif decide (chkC f cf xs = 0) then badC f cf xs else 0
def allV (o : Option PR) : Value := match o with
 | none => .map none
 | some q => .map (some q.b)
def allE (T : TypeId) (o : Option PR) : List Ent := match o with
 | none => []
 | some q => [poolE T q.N q.mn none, roM q.b q.es q.c]
theorem chk_facts {f : Fmt} {cf : Int} {xs : List Nt} (h : chkC f cf xs = 0) : chkF f = 0 ∧ f.Ok ∧ (-1 ≤ cf ∧ cf ≤ 1) ∧ xs.length ≤ 30 ∧ (∀ x ∈ xs, mkV x = true) ∧ mostS xs ≤ 600 := by
 unfold chkC at h
 cases hh : headB f cf xs.length
 ·
  rw [hh, cond_false] at h
  cases ha : xs.all mkV
  ·
   rw [ha] at h; cases h
  ·
   rw [ha] at h
   have h2 : decide (600 < mostS xs) = false := by
    cases hm : decide (600 < mostS xs)
    ·
     rfl
    ·
     rw [hm] at h; cases h
   unfold headB at hh
   simp only [Bool.or_eq_false_iff, decide_eq_false_iff_not] at hh
   have h3 := chkF_ok hh.1.1
   have h4 : chkF f = 0 := by simpa using hh.1.1
   exact ⟨h4, h3, wi_not.1 hh.1.2, by have := hh.2; omega, List.all_eq_true.1 ha, by have := of_decide_eq_false h2; omega⟩
 ·
  rw [hh] at h; cases h
theorem mostS_le {xs : List Nt} (h : ∀ x ∈ xs, mkV x = true) (j : Nat) : 0 ≤ mostS (xs.take j) ∧ mostS (xs.take j) ≤ mostS xs := by
 have nn : ∀ l : List Nt, (∀ x ∈ l, mkV x = true) → 0 ≤ mostS l := fun l => by
  induction l with
  | nil => exact fun _ => Int.le_refl _
  | cons x l ih =>
   intro h
   have h1 := ih fun y hy => h y (by simp [hy])
   have h2 := most_bd (h x (by simp))
   show 0 ≤ mostN x + mostS l
   omega
 have e : mostS xs = mostS (xs.take j) + mostS (xs.drop j) := by
  unfold mostS
  rw [← List.sum_append, ← List.map_append, List.take_append_drop]
 have h1 := nn (xs.take j) fun x hx => h x (List.mem_of_mem_take hx)
 have h2 := nn (xs.drop j) fun x hx => h x (List.mem_of_mem_drop hx)
 omega
theorem C_card_all (f : Fmt) (cf : Int) (xs : List Nt) (A : Option Addr) (n c : Nat) (w : World) (h : Rd w A 4 n (encN xs)) (hn : n ≤ 9223372036854775807) (hsm : chkC f cf xs = 0 → mostS xs ≤ 400) :
  CR Tryz.prog 62 [.agg (cardC f cf A n c).toArray] w (AllOk f cf xs) (fun o => .tuple #[allV o, .int .i64 (allB f cf xs), .int .i64 (chkC f cf xs)]) (allE 255) := by
 have hlen : xs.length = n := by have := h.len; rwa [encN_len] at this
 refine ⟨en Tryz.func62 Tryz.ntmps62 ((St.init w).share (e := .ro A 4 n (encN xs)) h rfl rfl rfl) (h := fun F => ?_)⟩
 refine sr ?_
 refine bxA (h := fun b0 => ?_)
 refine ww ?_
 refine WL.cut (by repeat (first | exact Cut.nil | apply Cut.hit | apply Cut.miss (by exact rfl))) ?_
 iterate 2 refine ww ?_
 refine nq ?_
 refine sq ?_
 refine sr ?_
 refine ww ?_
 refine cl0 (hc := fun w hS => C_card_Check f cf xs A n c w (hS.get rdz_) hn) (h := ?_)
 refine ww ?_
 refine nr ?_
 iterate 2 refine ww ?_
 refine nq ?_
 refine czz (fun h0 => ?_) fun h0 => ?_
 ·
  have hcn : chkC f cf xs ≠ 0 := by simpa using h0
  have hB : allB f cf xs = 0 := by rw [allB, decide_eq_false hcn]; rfl
  refine sr ?_
  iterate 2 refine ww ?_
  refine WL.cut (by repeat (first | exact Cut.nil | apply Cut.hit | apply Cut.miss (by exact rfl))) ?_
  iterate 2 refine ww ?_
  refine nq ?_
  refine rtn ?_
  refine q_then_ret ?_
  refine q_ret (hR := ?_)
  rw [hB]
  exact fun w hS => ⟨none, .inl hcn, rfl, hS.sub slz_⟩
 ·
  have hcn : chkC f cf xs = 0 := by simpa using h0
  obtain ⟨hc0, hf, hcf, hl30, hmk, -⟩ := chk_facts hcn
  have hms := hsm hcn
  have hB : allB f cf xs = badC f cf xs := by rw [allB, decide_eq_true hcn]; rfl
  rw [hcn]
  refine skp ?_
  refine q_seq ?_
  refine sr ?_
  iterate 2 refine ww ?_
  refine al (h := fun b1 => ?_)
  first | refine stA (h := ?_) | refine stEA (h := ?_)
  refine nq ?_
  refine sq ?_
  refine WC.pool0 255 (fun _ => (0, 0)) ?_
  refine rg ?_
  refine ww ?_
  refine clT (hc := T_reader_begin f hf cf A n c (fun _ => (0, 0))) (h := fun q1 hq1 => ?_)
  refine ww ?_
  refine WL.cut (by repeat (first | exact Cut.nil | apply Cut.hit | apply Cut.miss (by exact rfl))) ?_
  refine WL.toRoM (b := q1.b) (es := q1.es) (c := q1.c) atz_ ?_
  refine nq ?_
  refine sq ?_
  refine sr ?_
  iterate 4 refine ww ?_
  refine nq ?_
  refine bk ?_
  refine lp (X := AZ) (I := fun z => z.k ≤ n ∧ StI f cf xs z.k z.q ∧ ∀ j, j ≤ z.k → crowdC f cf (xs.take j) ≠ []) (le := fun z => [(2, .map (some z.q.b)), (6, .pointer (some ⟨b1, 0, none⟩)), (19, .slice A n c), (20, .int .i64 n), (21, .int .i64 z.k)]) (Le := fun z => [roM z.q.b z.q.es z.q.c, poolE 255 z.q.N z.q.mn none, .blk b1 197 (cardC f cf A n c), .ro A 4 n (encN xs)]) (μ := fun z => n - z.k) ⟨q1, 0⟩ ⟨Nat.zero_le _, StI.start hq1, fun j hj => by rw [show j = 0 from Nat.le_zero.1 hj]; exact beg_ne hcf⟩ sbz_ slz_ (fun z hz => ?_)
  obtain ⟨hzk, hzs, hzn⟩ := hz
  refine sr ?_
  refine ww ?_
  refine nq ?_
  refine sq ?_
  refine czz (fun h1 => ?_) fun h1 => ?_
  ·
   have hkn : z.k < n := by simp only [decide_eq_true_eq] at h1; omega
   obtain ⟨x, hx⟩ : ∃ x, xs[z.k]? = some x := ⟨_, List.getElem?_eq_getElem (by omega)⟩
   have hxe := encN_at hx
   have hmx := hmk x (List.mem_of_getElem? hx)
   have hml := mostS_le hmk z.k
   refine skp ?_
   refine q_seq ?_
   refine sq ?_
   refine bk ?_
   refine sr ?_
   refine ww ?_
   refine wy (ix (hb := by omega)) ?_
   refine wy (ldEA (hk := hxe)) ?_
   refine al (h := fun b2 => ?_)
   refine ww ?_
   first | refine stA (h := ?_) | refine stEA (h := ?_)
   refine nr ?_
   iterate 3 refine ww ?_
   refine clT (hc := T_read f hf hc0 cf A n c z.q.N z.q.ns z.q.mn x hmx _ (by omega) hzs.ok z.q.b z.q.es z.q.c hzs.cr) (h := fun q2 hq2 => ?_)
   have hs2 := hzs.read hx hq2
   refine ww ?_
   refine WL.cut (by repeat (first | exact Cut.nil | apply Cut.hit | apply Cut.miss (by exact rfl))) ?_
   refine WL.toRoM (b := q2.b) (es := q2.es) (c := q2.c) atz_ ?_
   refine nr ?_
   refine ww ?_
   refine wy (lenR (b := q2.b) (es := q2.es) (c := q2.c)) ?_
   refine ww ?_
   refine nq ?_
   refine czz (fun h2 => ?_) fun h2 => ?_
   ·
    have hem : q2.es.size = 0 := by have h9 := of_decide_eq_true h2; omega
    have hE : badC f cf xs = (z.k : Int) := bad_at (by omega) (hs2.none.1 hem) hzn
    refine sr ?_
    iterate 2 refine ww ?_
    refine WL.cut (by repeat (first | exact Cut.nil | apply Cut.hit | apply Cut.miss (by exact rfl))) ?_
    iterate 2 refine ww ?_
    refine nq ?_
    refine rtn ?_
    refine q_blk_ret ?_
    iterate 2 refine q_then_ret ?_
    refine q_blk_ret ?_
    refine q_then_ret ?_
    refine q_ret (hR := ?_)
    rw [hB, hE]
    first
     | exact fun w hS => ⟨none, .inr (by rw [hE]; omega), rfl, hS.sub slz_⟩
     | exact fun w hS => ⟨some z.q, ⟨hcn, hE, hzs⟩, rfl, hS.sub (L' := [poolE 255 z.q.N z.q.mn none, roM z.q.b z.q.es z.q.c]) slz_⟩
   ·
    have hem : q2.es.size ≠ 0 := by have h9 := of_decide_eq_false h2; omega
    have hne2 : crowdC f cf (xs.take (z.k + 1)) ≠ [] := fun e => hem (hs2.none.2 e)
    refine skp ?_
    refine q_blk_norm ?_
    refine q_seq ?_
    refine rg ?_
    iterate 2 refine ww ?_
    refine nl ?_
    refine rn (x := z) ⟨q2, z.k + 1⟩ ⟨by dsimp only; omega, hs2, fun j hj => by
      by_cases e : j ≤ z.k
      ·
       exact hzn j e
      ·
       rw [show j = z.k + 1 by dsimp only at hj; omega]; exact hne2⟩ (by dsimp only; omega) sbz_ slz_
  ·
   have hkn : z.k = xs.length := by simp only [decide_eq_false_iff_not] at h1; omega
   have hE : badC f cf xs = -1 := by
    have h9 := hzn z.k (Nat.le_refl _)
    rw [hkn, List.take_length] at h9
    exact (bad_none hcf).2 h9
   rw [hkn] at hzs
   refine et ?_
   iterate 2 refine q_then_exit ?_
   refine q_blk_hit ?_
   refine q_seq ?_
   refine sr ?_
   iterate 2 refine ww ?_
   refine WL.cut (by repeat (first | exact Cut.nil | apply Cut.hit | apply Cut.miss (by exact rfl))) ?_
   iterate 2 refine ww ?_
   refine nq ?_
   refine rtn ?_
   refine q_ret (hR := ?_)
   rw [hB, hE]
   first
    | exact fun w hS => ⟨none, .inr (by rw [hE]; omega), rfl, hS.sub slz_⟩
    | exact fun w hS => ⟨some z.q, ⟨hcn, hE, hzs⟩, rfl, hS.sub (L' := [poolE 255 z.q.N z.q.mn none, roM z.q.b z.q.es z.q.c]) slz_⟩
end Go.Proofs.YthkliiifllhacaaGreat

namespace Go.Proofs.YthkliiifllhacaaGreat
open Go Go.RowKit

theorem sub_app : ∀ (L R : List Ent), SubL L (L ++ R)
 | [], _ => .nil
 | _ :: L, R => .cons .here (sub_app L R)
def posE (f : Fmt) (cf : Int) (xs : List Nt) : Int := bif decide (chkC f cf xs = 0) then (bif decide (0 ≤ badC f cf xs) then 3 else 0) else chkC f cf xs
theorem posE_some {f : Fmt} {cf : Int} {xs : List Nt} {q : PR} (h : AllOk f cf xs (some q)) : posE f cf xs = 0 := by
 obtain ⟨h1, h2, _⟩ := h
 rw [posE, h1, h2]; rfl
theorem posE_none {f : Fmt} {cf : Int} {xs : List Nt} (h : AllOk f cf xs none) : posE f cf xs ≠ 0 := by
 unfold posE
 by_cases h1 : chkC f cf xs = 0
 ·
  rw [decide_eq_true h1, cond_true, decide_eq_true (h.resolve_left (fun e => e h1))]; decide
 ·
  rw [decide_eq_false h1, cond_false]; exact h1
theorem C_card_First (f : Fmt) (cf : Int) (xs : List Nt) (A : Option Addr) (n c : Nat) (w : World) (h : Rd w A 4 n (encN xs)) (hn : n ≤ 9223372036854775807) (hsm : chkC f cf xs = 0 → mostS xs ≤ 400) :
  C0 Tryz.prog 25 [.agg (cardC f cf A n c).toArray] w (.tuple #[.int .i64 (allB f cf xs), .int .i64 (chkC f cf xs)]) := by
 refine ⟨en Tryz.func25 Tryz.ntmps25 ((St.init w).share (e := .ro A 4 n (encN xs)) h rfl rfl rfl) (h := fun F => ?_)⟩
 refine sr ?_
 refine bxA (h := fun b0 => ?_)
 iterate 2 refine ww ?_
 refine nr ?_
 refine ww ?_
 refine cl (hfresh := fun o => by cases o <;> rfl) (hc := fun w hS => C_card_all f cf xs A n c w (hS.get rdz_) hn hsm) (h := fun o ho => ?_)
 iterate 7 refine ww ?_
 refine nr ?_
 iterate 4 refine ww ?_
 refine nq ?_
 refine rtn ?_
 refine q_ret (hR := ?_)
 exact fun w hS => ⟨rfl, hS.sub .nil⟩
theorem C_card_possible (f : Fmt) (cf : Int) (xs : List Nt) (A : Option Addr) (n c : Nat) (w : World) (h : Rd w A 4 n (encN xs)) (hn : n ≤ 9223372036854775807) (hsm : chkC f cf xs = 0 → mostS xs ≤ 400) :
  CR Tryz.prog 53 [.agg (cardC f cf A n c).toArray] w (AllOk f cf xs) (fun o => .tuple #[allV o, .int .i64 (posE f cf xs)]) (allE 255) := by
 refine ⟨en Tryz.func53 Tryz.ntmps53 ((St.init w).share (e := .ro A 4 n (encN xs)) h rfl rfl rfl) (h := fun F => ?_)⟩
 refine sr ?_
 refine bxA (h := fun b0 => ?_)
 iterate 2 refine ww ?_
 refine nr ?_
 refine ww ?_
 refine cl (hfresh := fun o => by cases o <;> rfl) (hc := fun w hS => C_card_all f cf xs A n c w (hS.get rdz_) hn hsm) (h := fun o ho => ?_)
 iterate 7 refine ww ?_
 refine nq ?_
 refine sq ?_
 refine sr ?_
 iterate 3 refine ww ?_
 apply brAnd 3 15 18 (by exact rfl)
 ·
  intro hb0
  iterate 2 refine uw ?_
  refine ww ?_
  exact mg (by repeat (first | exact trivial | refine ⟨rfl, ?_⟩ | refine ⟨by rw [hb0]; rfl, ?_⟩)) slz_
 ·
  intro hb0
  repeat (first | refine uz ?_ | refine kz ?_ | refine wz ?_)
  exact mg (by repeat (first | exact trivial | refine ⟨rfl, ?_⟩ | refine ⟨by rw [hb0]; rfl, ?_⟩)) slz_
 refine nq ?_
 refine czz (fun h1 => ?_) fun h1 => ?_
 ·
  have hp : posE f cf xs = 3 := by
   have h' : (decide (chkC f cf xs = 0) && decide (0 ≤ allB f cf xs)) = true := h1
   rw [Bool.and_eq_true] at h'
   have h2 := h'.2
   rw [allB, h'.1, cond_true] at h2
   rw [posE, h'.1, h2]; rfl
  refine rg ?_
  refine ww ?_
  refine nr ?_
  iterate 4 refine ww ?_
  refine nq ?_
  refine rtn ?_
  refine q_ret (hR := ?_)
  rw [hp]
  exact fun w hS => ⟨o, ho, rfl, hS.sub (sub_app _ _)⟩
 ·
  have hp : posE f cf xs = chkC f cf xs := by
   have h' : (decide (chkC f cf xs = 0) && decide (0 ≤ allB f cf xs)) = false := h1
   unfold posE
   cases hd : decide (chkC f cf xs = 0)
   ·
    rfl
   ·
    rw [hd, Bool.true_and, allB, hd, cond_true] at h'
    rw [h']; exact (of_decide_eq_true hd).symm
  refine skp ?_
  refine q_seq ?_
  refine sr ?_
  iterate 4 refine ww ?_
  refine nq ?_
  refine rtn ?_
  refine q_ret (hR := ?_)
  rw [hp]
  exact fun w hS => ⟨o, ho, rfl, hS.sub (sub_app _ _)⟩
end Go.Proofs.YthkliiifllhacaaGreat

namespace Go.Proofs.YthkliiifllhacaaGreat
open Go Go.RowKit

theorem all_none {f : Fmt} {cf : Int} {xs : List Nt} {o : Option PR} (h : AllOk f cf xs o) (he : posE f cf xs ≠ 0) : o = none := by
 cases o with
 | none => rfl
 | some q => exact absurd (posE_some h) he
theorem all_some {f : Fmt} {cf : Int} {xs : List Nt} {o : Option PR} (h : AllOk f cf xs o) (he : posE f cf xs = 0) : ∃ q, o = some q ∧ StI f cf xs xs.length q ∧ q.ns ≠ [] ∧ chkC f cf xs = 0 := by
 cases o with
 | none => exact absurd he (posE_none h)
 | some q =>
  refine ⟨q, rfl, h.2.2, fun e => ?_, h.1⟩
  have h1 := h.2.2.none
  rw [h.2.2.cr.size, e, List.take_length] at h1
  exact (bad_none (chk_facts h.1).2.2.1).1 h.2.1 (h1.1 rfl)
theorem StI.keys {f : Fmt} {cf : Int} {xs : List Nt} {q : PR} (h : StI f cf xs xs.length q) {y : Nd} (hy : y ∈ q.ns) : y.s ∈ keyC (crowdC f cf xs) := by
 have h1 := h.eqC
 rw [List.take_length] at h1
 have : y.s ∈ keyC (toC q.mn q.ns) := by rw [toC_keys]; exact List.mem_map.2 ⟨y, hy, rfl⟩
 exact (h1.map _).subset this
end Go.Proofs.YthkliiifllhacaaGreat

namespace Go.Proofs.YthkliiifllhacaaGreat
open Go Go.RowKit

end Go.Proofs.YthkliiifllhacaaGreat

namespace Go.Proofs.YthkliiifllhacaaGreat
open Go Go.RowKit

def orC : List Int → Int
 | [] => 0
 | x :: xs => bif !decide (x = 0) then x else orC xs
theorem C_cmpOrC (xs : List Int) (A : Option Addr) (n c : Nat) (w : World) (h : Rd w A 1 n (encI xs)) (hn : n ≤ 9223372036854775807) : C0 Tryz.prog 56 [.slice A n c] w (.int .i64 (orC xs)) := by
 have hlen : xs.length = n := by have := h.len; rwa [encI_len] at this
 refine ⟨en Tryz.func56 Tryz.ntmps56 ((St.init w).share (e := .ro A 1 n (encI xs)) h rfl rfl rfl) (h := fun F => ?_)⟩
 refine sr ?_
 refine ww ?_
 refine nr ?_
 refine ww ?_
 refine nq ?_
 refine sq ?_
 refine sr ?_
 iterate 3 refine ww ?_
 refine nq ?_
 refine bk ?_
 refine lp (X := Nat) (I := fun k => k ≤ n ∧ orC (xs.drop k) = orC xs) (le := fun k => [(3, .int .i64 0), (6, .slice A n c), (7, .int .i64 n), (8, .int .i64 k)]) (Le := fun _ => [.ro A 1 n (encI xs)]) (μ := fun k => n - k) 0 ⟨Nat.zero_le _, rfl⟩ sbz_ slz_ (fun k hk => ?_)
 obtain ⟨hk, hko⟩ := hk
 refine sr ?_
 refine ww ?_
 refine nq ?_
 refine sq ?_
 refine czz (fun h0 => ?_) fun h0 => ?_
 ·
  have hkn : k < n := by simp only [decide_eq_true_eq] at h0; omega
  obtain ⟨x, hx⟩ : ∃ x, xs[k]? = some x := ⟨_, List.getElem?_eq_getElem (by omega)⟩
  have hxe := encI_at hx
  have hdr : xs.drop k = x :: xs.drop (k + 1) := by
   rw [List.drop_eq_getElem_cons (by omega)]
   congr 1
   rw [List.getElem?_eq_getElem (by omega)] at hx
   injection hx
  refine skp ?_
  refine q_seq ?_
  refine sq ?_
  refine bk ?_
  refine sr ?_
  refine wy (ix (A := A) (m := n)) ?_
  refine wy (ldE (A := A) (hk := hxe)) ?_
  refine ww ?_
  refine nr ?_
  iterate 3 refine ww ?_
  refine nq ?_
  refine czz (fun h1 => ?_) fun h1 => ?_
  ·
   have hE : orC xs = x := by rw [← hko, hdr, orC, h1]; rfl
   refine sr ?_
   iterate 2 refine ww ?_
   refine nq ?_
   refine rtn ?_
   refine q_blk_ret ?_
   iterate 2 refine q_then_ret ?_
   refine q_blk_ret ?_
   refine q_then_ret ?_
   refine q_ret (hR := ?_)
   rw [hE]
   exact fun w hS => ⟨rfl, hS.sub slz_⟩
  ·
   have hE : orC (xs.drop (k + 1)) = orC xs := by
    rw [← hko, hdr, orC]
    have h' : (!decide (x = 0)) = false := h1
    rw [h']; rfl
   refine skp ?_
   refine q_blk_norm ?_
   refine q_seq ?_
   refine rg ?_
   iterate 2 refine ww ?_
   refine nl ?_
   refine rn (x := k) (k + 1) ⟨by omega, hE⟩ (by omega) sbz_ slz_
 ·
  have hkn : k = n := by simp only [decide_eq_false_iff_not] at h0; omega
  have hE : orC xs = 0 := by rw [← hko, List.drop_of_length_le (by omega)]; rfl
  refine et ?_
  iterate 2 refine q_then_exit ?_
  refine q_blk_hit ?_
  refine q_seq ?_
  refine sr ?_
  iterate 2 refine ww ?_
  refine nq ?_
  refine rtn ?_
  refine q_ret (hR := ?_)
  rw [hE]
  exact fun w hS => ⟨rfl, hS.sub slz_⟩
theorem orC2 (x y : Int) : orC [x, y] = orI x y := by
 unfold orI
 by_cases h : x = 0
 ·
  rw [if_neg (by simpa using h), orC, decide_eq_true h]
  show orC [y] = y
  by_cases h2 : y = 0
  ·
   subst h2; rfl
  ·
   rw [orC, decide_eq_false h2]; rfl
 ·
  rw [if_pos h, orC, decide_eq_false h]; rfl
theorem orC3 (x y z : Int) : orC [x, y, z] = orI (orI x y) z := by
 by_cases h : x = 0
 ·
  rw [orC, decide_eq_true h]
  show orC [y, z] = _
  rw [orC2]
  subst h
  unfold orI
  simp
 ·
  rw [orC, decide_eq_false h]
  show x = _
  unfold orI
  rw [if_pos h, if_pos h]
def SmP (p : Pr) : Prop := (0 ≤ p.1 ∧ p.1 ≤ 100000) ∧ 0 ≤ p.2 ∧ p.2 ≤ 100000
theorem C_card_order (a b : Pr) (ha : SmP a) (hb : SmP b) (w : World) : C0 Tryz.prog 58 [pv a, pv b] w (.int .i64 (cmpP a b)) := by
 obtain ⟨⟨a1, a2⟩, a3, a4⟩ := ha
 obtain ⟨⟨b1, b2⟩, b3, b4⟩ := hb
 refine ⟨en Tryz.func58 Tryz.ntmps58 (St.init w) (h := fun F => ?_)⟩
 refine sr ?_
 refine bxA (h := fun b0 => ?_)
 refine bxA (h := fun b1 => ?_)
 refine ww ?_
 refine nr ?_
 iterate 10 refine ww ?_
 refine bs (h := fun b2 => ?_)
 refine cl0 (hc := fun w hS => C_cmpOrC [a.1 - b.1, a.2 - b.2] _ _ _ w (hS.get rdz_) (by omega)) (h := ?_)
 rw [orC2]
 refine ww ?_
 refine nq ?_
 refine rtn ?_
 refine q_ret (hR := ?_)
 exact fun w hS => ⟨rfl, hS.sub slz_⟩
theorem drop_at {α : Type} {xs : List α} {k : Nat} {x : α} (h : xs[k]? = some x) : xs.drop k = x :: xs.drop (k + 1) := by
 have hk := (List.getElem?_eq_some_iff.1 h).1
 rw [List.drop_eq_getElem_cons hk]
 congr 1
 rw [List.getElem?_eq_getElem hk] at h
 exact Option.some.inj h
theorem C_CompareFunc (a b : List Pr) (A B : Option Addr) (n c m d : Nat) (w : World) (h : Rd w A 2 n (encP a)) (h' : Rd w B 2 m (encP b)) (hn : n ≤ 100000) (hm : m ≤ 100000) (ha : ∀ p ∈ a, SmP p) (hb : ∀ p ∈ b, SmP p) :
  C0 Tryz.prog 57 [.slice A n c, .slice B m d, .func (.func 58) #[] #[]] w (.int .i64 (cmpL a b)) := by
 have hla : a.length = n := by have := h.len; simpa [encP] using this
 have hlb : b.length = m := by have := h'.len; simpa [encP] using this
 refine ⟨en Tryz.func57 Tryz.ntmps57 (((St.init w).share (e := .ro A 2 n (encP a)) h rfl rfl rfl).share (e := .ro B 2 m (encP b)) h' rfl rfl rfl) (h := fun F => ?_)⟩
 refine sr ?_
 refine ww ?_
 refine nq ?_
 refine sq ?_
 refine sr ?_
 iterate 3 refine ww ?_
 refine nq ?_
 refine bk ?_
 refine lp (X := Nat) (I := fun k => k ≤ n ∧ cmpL (a.drop k) (b.drop k) = cmpL a b) (le := fun k => [(0, .slice A n c), (1, .slice B m d), (2, .func (.func 58) #[] #[]), (11, .slice A n c), (12, .int .i64 n), (13, .int .i64 k)]) (Le := fun _ => [.ro A 2 n (encP a), .ro B 2 m (encP b)]) (μ := fun k => n - k) 0 ⟨Nat.zero_le _, rfl⟩ sbz_ slz_ (fun k hk => ?_)
 obtain ⟨hk, hko⟩ := hk
 refine sr ?_
 refine ww ?_
 refine nq ?_
 refine sq ?_
 refine czz (fun h0 => ?_) fun h0 => ?_
 ·
  have hkn : k < n := by simp only [decide_eq_true_eq] at h0; omega
  obtain ⟨x, hx⟩ : ∃ x, a[k]? = some x := ⟨_, List.getElem?_eq_getElem (by omega)⟩
  have hxe := encP_at hx
  have hda := drop_at hx
  have hxs := ha x (List.mem_of_getElem? hx)
  refine skp ?_
  refine q_seq ?_
  refine sq ?_
  refine bk ?_
  refine sr ?_
  refine ww ?_
  refine wy (ix (A := A) (m := n)) ?_
  refine wy (ldEA (A := A) (hk := hxe)) ?_
  refine al (h := fun b0 => ?_)
  refine ww ?_
  first | refine stA (h := ?_) | refine stEA (h := ?_)
  refine nq ?_
  refine sq ?_
  refine sr ?_
  iterate 4 refine ww ?_
  refine nq ?_
  refine czz (fun h1 => ?_) fun h1 => ?_
  ·
   have hkm : m ≤ k := by simp only [decide_eq_true_eq] at h1; omega
   have hE : cmpL a b = 1 := by rw [← hko, hda, List.drop_of_length_le (l := b) (by omega)]; rfl
   refine sr ?_
   refine ww ?_
   refine nq ?_
   refine rtn ?_
   refine q_then_ret ?_
   refine q_blk_ret ?_
   iterate 2 refine q_then_ret ?_
   refine q_blk_ret ?_
   refine q_then_ret ?_
   refine q_ret (hR := ?_)
   rw [hE]
   exact fun w hS => ⟨rfl, hS.sub slz_⟩
  ·
   have hkm : k < m := by simp only [decide_eq_false_iff_not] at h1; omega
   obtain ⟨y, hy⟩ : ∃ y, b[k]? = some y := ⟨_, List.getElem?_eq_getElem (by omega)⟩
   have hye := encP_at hy
   have hdb := drop_at hy
   have hys := hb y (List.mem_of_getElem? hy)
   refine skp ?_
   refine q_seq ?_
   refine sr ?_
   iterate 2 refine ww ?_
   refine wy (ix (A := B) (m := m)) ?_
   refine wy (ldEA (A := B) (hk := hye)) ?_
   refine al (h := fun b1 => ?_)
   first | refine stA (h := ?_) | refine stEA (h := ?_)
   refine nr ?_
   iterate 3 refine ww ?_
   refine clf0 (f := 58) (fi := []) (cap := []) (hx := by exact rfl) (hc := fun w hS => C_card_order x y hxs hys w) (h := ?_)
   refine ww ?_
   refine nr ?_
   iterate 2 refine ww ?_
   refine nq ?_
   refine czz (fun h2 => ?_) fun h2 => ?_
   ·
    have hE : cmpL a b = cmpP x y := by
     have h9 : cmpP x y ≠ 0 := by simpa using h2
     rw [← hko, hda, hdb, cmpL, orI, if_pos h9]
    refine sr ?_
    iterate 2 refine ww ?_
    refine nq ?_
    refine rtn ?_
    refine q_blk_ret ?_
    iterate 2 refine q_then_ret ?_
    refine q_blk_ret ?_
    refine q_then_ret ?_
    refine q_ret (hR := ?_)
    rw [hE]
    exact fun w hS => ⟨rfl, hS.sub slz_⟩
   ·
    have hst : cmpL (a.drop (k + 1)) (b.drop (k + 1)) = cmpL a b := by
     have h9 : cmpP x y = 0 := by simpa using h2
     rw [← hko, hda, hdb, cmpL, orI, if_neg (by rw [h9]; decide)]
    refine skp ?_
    refine q_blk_norm ?_
    refine q_seq ?_
    refine rg ?_
    iterate 2 refine ww ?_
    refine nl ?_
    refine rn (x := k) (k + 1) ⟨by omega, hst⟩ (by omega) sbz_ slz_
 ·
  have hkn : k = n := by simp only [decide_eq_false_iff_not] at h0; omega
  have hda : a.drop k = [] := List.drop_of_length_le (by omega)
  refine et ?_
  iterate 2 refine q_then_exit ?_
  refine q_blk_hit ?_
  refine q_seq ?_
  refine sq ?_
  refine sr ?_
  iterate 5 refine ww ?_
  refine nq ?_
  refine czz (fun h3 => ?_) fun h3 => ?_
  ·
   have hE : cmpL a b = -1 := by
    have h9 : (n : Int) < m := of_decide_eq_true h3
    obtain ⟨y, hy⟩ : ∃ y, b[k]? = some y := ⟨_, List.getElem?_eq_getElem (by omega)⟩
    rw [← hko, hda, drop_at hy]; rfl
   refine sr ?_
   refine ww ?_
   refine nq ?_
   refine rtn ?_
   refine q_then_ret ?_
   refine q_ret (hR := ?_)
   rw [hE]
   exact fun w hS => ⟨rfl, hS.sub slz_⟩
  ·
   have hE : cmpL a b = 0 := by
    have h9 : ¬ (n : Int) < m := of_decide_eq_false h3
    rw [← hko, hda, List.drop_of_length_le (l := b) (by omega)]; rfl
   refine skp ?_
   refine q_seq ?_
   refine sr ?_
   refine ww ?_
   refine nq ?_
   refine rtn ?_
   refine q_ret (hR := ?_)
   rw [hE]
   exact fun w hS => ⟨rfl, hS.sub slz_⟩
structure BrdSm (b : Brd) : Prop where
 st : ∀ p ∈ b.st, SmP p
 g : SmP b.g
 p : SmP b.p
 n : b.st.length ≤ 100000
set_option maxRecDepth 100000 in
theorem C_Boards1 (a b : Brd) (A B : Option Addr) (c d : Nat) (ha : BrdSm a) (hb : BrdSm b) (w : World) (h : Rd w A 2 a.st.length (encP a.st)) (h' : Rd w B 2 b.st.length (encP b.st)) :
  C0 Tryz.prog 55 [a.val A a.st.length c, b.val B b.st.length d] w (.int .i64 (cmpB a b)) := by
 refine ⟨en Tryz.func55 Tryz.ntmps55 (((St.init w).share (e := .ro A 2 a.st.length (encP a.st)) h rfl rfl rfl).share (e := .ro B 2 b.st.length (encP b.st)) h' rfl rfl rfl) (h := fun F => ?_)⟩
 refine sr ?_
 refine bxA (h := fun b0 => ?_)
 refine bxA (h := fun b1 => ?_)
 refine ww ?_
 refine nq ?_
 refine sq ?_
 refine rgD0 (by kernel_rfl) (h := ?_)
 refine tw 0 ?_
 refine tw 1 ?_
 refine tw 2 ?_
 refine tw 3 ?_
 refine tw 5 ?_
 refine tw 6 ?_
 refine tw 7 ?_
 refine tw 8 ?_
 refine tw 10 ?_
 refine tw 11 ?_
 refine tw 12 ?_
 refine tw 13 ?_
 refine one 4 (h := ?_)
 refine cl0 (hc := fun w hS => C_CompareFunc a.st b.st A B _ c _ d w (hS.get rdz_) (hS.get rdz_) ha.n hb.n ha.st hb.st) (h := ?_)
 refine nx (h := ?_)
 refine one 9 (h := ?_)
 refine cl0 (hc := fun w hS => C_card_order a.g b.g ha.g hb.g w) (h := ?_)
 refine nx (h := ?_)
 refine one 14 (h := ?_)
 refine cl0 (hc := fun w hS => C_card_order a.p b.p ha.p hb.p w) (h := ?_)
 refine nx (h := ?_)
 refine one 15 (h := ?_)
 refine bs (h := fun b2 => ?_)
 refine nx (h := ?_)
 refine one 16 (h := ?_)
 refine cl0 (hc := fun w hS => C_cmpOrC [cmpL a.st b.st, cmpP a.g b.g, cmpP a.p b.p] _ _ _ w (hS.get rdz_) (by omega)) (h := ?_)
 rw [orC3]
 refine nx (h := ?_)
 refine tw 17 ?_
 refine dn (h := ?_)
 refine q_seq ?_
 refine rtn ?_
 refine q_ret (hR := ?_)
 exact fun w hS => ⟨rfl, hS.sub slz_⟩
set_option maxRecDepth 100000 in
theorem C_spot_board (s : Spot) (h5 : s.st.length ≤ 5) (w : World) : CR Tryz.prog 54 [.agg (spotC s).toArray] w (fun _ : Option Addr × Nat => True) (fun p => (brdOf s).val p.1 s.st.length p.2) (fun p => [.own p.1 p.2 73 2 s.st.length (encP s.st)]) := by
 refine ⟨en Tryz.func54 Tryz.ntmps54 (St.init w) (h := fun F => ?_)⟩
 refine sr ?_
 refine bxA (h := fun b0 => ?_)
 refine al (h := fun b1 => ?_)
 refine nq ?_
 refine sq ?_
 refine rgD (by kernel_rfl) [(10, .blk b1 78 [.slice none 0 0, .int .i64 0, .int .i64 0, .int .i64 0, .int .i64 0]), (1000000, .blk b0 143 (spotC s))] (by repeat (first | exact HS.nil | (apply HS.keep; (repeat (first | exact At.here | apply At.there))) | (apply HS.ro; (repeat (first | exact Rds.ro | exact Rds.own | apply Rds.there))))) (h := ?_)
 refine tw 0 ?_
 refine tw 1 ?_
 refine tw 2 ?_
 refine tk 3 (hy := slAh (hb := by omega) (hne := by decide)) (h := ?_)
 refine tw 5 ?_
 refine tw 6 ?_
 refine tw 7 ?_
 refine tw 8 ?_
 refine one 4 (h := ?_)
 rw [Int.toNat_natCast]
 refine cl (hc := fun w hS => C_ClonePairs _ _ _ (encP s.st) w (hS.get (Rds.there (Rds.any fun w hw => rd_sets h5 hw))) (by omega)) (h := fun p1 _ => ?_)
 refine nx (h := ?_)
 refine tw 9 ?_
 refine one 10 (h := ?_)
 first | refine stA (h := ?_) | refine stEA (h := ?_)
 refine nx (h := ?_)
 refine dn (h := ?_)
 refine q_seq ?_
 refine rtn ?_
 refine q_ret (hR := ?_)
 exact fun w hS => ⟨p1, trivial, rfl, hS.sub slz_⟩
end Go.Proofs.YthkliiifllhacaaGreat

namespace Go.Proofs.YthkliiifllhacaaGreat
open Go Go.RowKit

structure BA where
 (b : Brd) (A : Option Addr) (c : Nat)
abbrev BA.cells (x : BA) : List Value := x.b.cells x.A x.b.st.length x.c
abbrev BA.val (x : BA) : Value := x.b.val x.A x.b.st.length x.c
def encX (xs : List BA) : List (List Value) := xs.map BA.cells
theorem encX_at {xs : List BA} {k : Nat} {x : BA} (h : xs[k]? = some x) : (encX xs)[k]? = some x.cells := by unfold encX; rw [List.getElem?_map, h]; rfl
theorem encX_set (xs : List BA) (k : Nat) (x : BA) : (encX xs).set k x.cells = encX (xs.set k x) := by unfold encX; rw [List.map_set]
theorem encX_take (xs : List BA) (k : Nat) : (encX xs).take k = encX (xs.take k) := by unfold encX; rw [List.map_take]
def kpX : BA → List BA → List BA
 | _, [] => []
 | p, x :: l => if x.b = p.b then kpX x l else x :: kpX x l
def cptX : List BA → List BA
 | [] => []
 | x :: l => x :: kpX x l
theorem cpt_kp : ∀ (l : List BA) (p : BA), cptB ((p :: l).map (·.b)) = p.b :: (kpX p l).map (·.b)
 | [], p => rfl
 | x :: l, p => by
  have ih := cpt_kp l x
  show cptB (p.b :: x.b :: l.map (·.b)) = _
  rw [List.map_cons] at ih
  rw [cptB, kpX]
  by_cases h : p.b = x.b
  ·
   rw [if_pos h, if_pos h.symm, ih, h]
  ·
   rw [if_neg h, if_neg (fun e => h e.symm), ih, List.map_cons]
theorem cptX_b (l : List BA) : (cptX l).map (·.b) = cptB (l.map (·.b)) := by
 cases l with
 | nil => rfl
 | cons x l => exact (cpt_kp l x).symm
theorem kpX_mem : ∀ {l : List BA} {p y : BA}, y ∈ kpX p l → y ∈ l
 | x :: l, p, y, h => by
  rw [kpX] at h
  by_cases e : x.b = p.b
  ·
   rw [if_pos e] at h; exact List.mem_cons_of_mem _ (kpX_mem h)
  ·
   rw [if_neg e] at h
   rcases List.mem_cons.1 h with rfl | h
   ·
    exact List.mem_cons_self
   ·
    exact List.mem_cons_of_mem _ (kpX_mem h)
theorem cptX_mem {l : List BA} {y : BA} (h : y ∈ cptX l) : y ∈ l := by
 cases l with
 | nil => cases h
 | cons x l =>
  rcases List.mem_cons.1 h with rfl | h
  ·
   exact List.mem_cons_self
  ·
   exact List.mem_cons_of_mem _ (kpX_mem h)
def PfX (xs : List BA) (k : Nat) : Prop := ∃ p, xs[k - 1]? = some p ∧ cptX xs = xs.take k ++ kpX p (xs.drop k)
theorem pf_start {xs : List BA} (h : 0 < xs.length) : PfX xs 1 := by
 cases xs with
 | nil => cases h
 | cons x l => exact ⟨x, rfl, rfl⟩
theorem pf_step {xs : List BA} {k : Nat} {x p : BA} (hk : 1 ≤ k) (h : PfX xs k) (hx : xs[k]? = some x) (hp : xs[k - 1]? = some p) (hne : ¬ x.b = p.b) : PfX xs (k + 1) := by
 obtain ⟨p', h1, h2⟩ := h
 rw [hp] at h1
 cases h1
 refine ⟨x, by rw [Nat.add_sub_cancel]; exact hx, ?_⟩
 rw [h2, drop_at hx, kpX, if_neg hne, List.take_add_one, hx]
 simp
theorem pf_end {xs : List BA} (h : PfX xs xs.length) : cptX xs = xs := by
 obtain ⟨p, _, h2⟩ := h
 rw [h2, List.take_length, List.drop_length, kpX, List.append_nil]
structure CP2 where
 (k k2 : Nat) (zs : List BA)
structure CP2.Ok (xs : List BA) (k0 : Nat) (z : CP2) : Prop where
 lt : z.k + 1 ≤ k0 + z.k2
 k2 : 1 ≤ z.k2
 le : k0 + z.k2 ≤ xs.length
 len : z.zs.length = xs.length
 dr : ∀ i, k0 + z.k2 ≤ i + 1 → z.zs[i]? = xs[i]?
 tk : ∃ p, xs[k0 + z.k2 - 1]? = some p ∧ cptX xs = z.zs.take z.k ++ kpX p (xs.drop (k0 + z.k2))
theorem CP2.start {xs : List BA} {k0 : Nat} {x p : BA} (hk : 1 ≤ k0) (h : PfX xs k0) (hx : xs[k0]? = some x) (hp : xs[k0 - 1]? = some p) (he : x.b = p.b) : CP2.Ok xs k0 ⟨k0, 1, xs⟩ := by
 have hlt := (List.getElem?_eq_some_iff.1 hx).1
 obtain ⟨p', h1, h2⟩ := h
 rw [hp] at h1
 cases h1
 refine ⟨by dsimp only; omega, Nat.le_refl _, by dsimp only; omega, rfl, fun i _ => rfl, x, by dsimp only; rw [Nat.add_sub_cancel]; exact hx, ?_⟩
 rw [h2, drop_at hx, kpX, if_pos he]
theorem CP2.skip {xs : List BA} {k0 : Nat} {z : CP2} (h : z.Ok xs k0) {x p : BA} (hx : xs[k0 + z.k2]? = some x) (hp : xs[k0 + z.k2 - 1]? = some p) (he : x.b = p.b) : CP2.Ok xs k0 ⟨z.k, z.k2 + 1, z.zs⟩ := by
 have hlt := (List.getElem?_eq_some_iff.1 hx).1
 have h0 := h.lt; have h1 := h.k2; have h2 := h.le
 obtain ⟨p', h3, h4⟩ := h.tk
 rw [hp] at h3
 cases h3
 refine ⟨by dsimp only; omega, by dsimp only; omega, by dsimp only; omega, h.len, fun i hi => h.dr i (by dsimp only at hi; omega), x, by dsimp only; rw [show k0 + (z.k2 + 1) - 1 = k0 + z.k2 by omega]; exact hx, ?_⟩
 rw [h4, drop_at hx, kpX, if_pos he]; rfl
theorem CP2.keep {xs : List BA} {k0 : Nat} {z : CP2} (h : z.Ok xs k0) {x p : BA} (hx : xs[k0 + z.k2]? = some x) (hp : xs[k0 + z.k2 - 1]? = some p) (he : ¬ x.b = p.b) : CP2.Ok xs k0 ⟨z.k + 1, z.k2 + 1, z.zs.set z.k x⟩ := by
 have hlt := (List.getElem?_eq_some_iff.1 hx).1
 have h0 := h.lt; have h1 := h.k2; have h2 := h.le; have hl := h.len
 obtain ⟨p', h3, h4⟩ := h.tk
 rw [hp] at h3
 cases h3
 refine ⟨by dsimp only; omega, by dsimp only; omega, by dsimp only; omega, by simp [hl], fun i hi => ?_, x, by dsimp only; rw [show k0 + (z.k2 + 1) - 1 = k0 + z.k2 by omega]; exact hx, ?_⟩
 ·
  dsimp only at hi ⊢
  rw [List.getElem?_set_ne (by omega)]
  exact h.dr i (by omega)
 ·
  dsimp only
  rw [h4, drop_at hx, kpX, if_neg he, List.take_add_one, List.take_set, List.getElem?_set_self (by omega)]
  rw [List.set_eq_of_length_le (by rw [List.length_take]; omega)]
  simp [Nat.add_assoc]
theorem CP2.fin {xs : List BA} {k0 : Nat} {z : CP2} (h : z.Ok xs k0) (he : k0 + z.k2 = xs.length) : cptX xs = z.zs.take z.k := by
 obtain ⟨p, _, h2⟩ := h.tk
 rw [h2, he, List.drop_length, kpX, List.append_nil]
set_option maxRecDepth 100000 in
theorem T_Boards2 (E : Ent) (x y : BA) (b : Nat) (T : TypeId) (hx : ∀ w, E.ok w → Rd w x.A 2 x.b.st.length (encP x.b.st)) (hy : ∀ w, E.ok w → Rd w y.A 2 y.b.st.length (encP y.b.st)) (sx : BrdSm x.b) (sy : BrdSm y.b) :
  Tr Tryz.prog 61 [x.val, y.val, .pointer (some ⟨b, 0, none⟩)] [E, .blk b T [.func (.func 55) #[] #[]]] (fun _ : Unit => True) (fun _ => .bool (decide (x.b = y.b))) (fun _ => [E, .blk b T [.func (.func 55) #[] #[]]]) := by
 refine ⟨fun w0 w R hst => ?_⟩
 have hd : decide (cmpB x.b y.b = 0) = decide (x.b = y.b) := decide_eq_decide.2 cmpB_zero
 refine en Tryz.func61 Tryz.ntmps61 hst (h := fun F => ?_)
 refine sr ?_
 refine bxA (h := fun b0 => ?_)
 refine bxA (h := fun b1 => ?_)
 refine ww ?_
 refine nr ?_
 iterate 3 refine ww ?_
 refine clf0 (f := 55) (fi := []) (cap := []) (hx := by exact rfl) (hc := fun w hS => C_Boards1 x.b y.b x.A y.A x.c y.c sx sy w (hx w (hS.ok E (by simp))) (hy w (hS.ok E (by simp)))) (h := ?_)
 iterate 2 refine ww ?_
 refine nq ?_
 refine rtn ?_
 refine q_ret (hR := ?_)
 rw [hd]
 exact fun w hS => ⟨(), trivial, rfl, hS.sub slz_⟩
end Go.Proofs.YthkliiifllhacaaGreat

namespace Go.Proofs.YthkliiifllhacaaGreat
open Go Go.RowKit

theorem rd_from {w : World} {A : Option Addr} {c n k0 : Nat} {T : TypeId} {es : List (List Value)} (hc : n ≤ c) (hk : k0 ≤ n) (h : (Ent.own A c T 5 n es).ok w) : Rd w (if c = k0 then A else A.map (·.add (k0 * 5))) 5 (n - k0) ((es.drop k0).take (n - k0)) := h.2.part c k0 n hk (Nat.le_refl _) hc
theorem from_at {xs : List BA} {n k0 k2 : Nat} {x : BA} (hl : xs.length = n) (hx : xs[k0 + k2]? = some x) : (((encX xs).drop k0).take (n - k0))[k2]? = some x.cells := by
 have hlt := (List.getElem?_eq_some_iff.1 hx).1
 rw [List.getElem?_take, if_pos (by omega), List.getElem?_drop]
 exact encX_at hx
set_option maxRecDepth 100000 in
set_option maxHeartbeats 4194304 in
theorem T_Compact (E : Ent) (xs : List BA) (A : Option Addr) (n c b : Nat) (T : TypeId) (hl : xs.length = n) (hn : n ≤ 4194304) (hE : ∀ x ∈ xs, ∀ w, E.ok w → Rd w x.A 2 x.b.st.length (encP x.b.st)) (hS : ∀ x ∈ xs, BrdSm x.b) :
  Tr Tryz.prog 60 [.slice A n c, .func (.func 61) #[] #[.pointer (some ⟨b, 0, none⟩)]] [.own A c 78 5 n (encX xs), E, .blk b T [.func (.func 55) #[] #[]]] (fun _ : Unit => True) (fun _ => .slice A (cptX xs).length c) (fun _ => [.own A c 78 5 (cptX xs).length (encX (cptX xs)), E]) := by
 refine ⟨fun w0 w R hst => ?_⟩
 refine en Tryz.func60 Tryz.ntmps60 hst (h := fun F => ?_)
 refine WC.room .here (fun hroom => ?_)
 refine sr ?_
 refine ww ?_
 refine nq ?_
 refine sq ?_
 refine sr ?_
 iterate 3 refine ww ?_
 refine nq ?_
 refine czz (fun h0 => ?_) fun h0 => ?_
 ·
  have hE1 : cptX xs = xs := by
   have h9 : (n : Int) < 2 := of_decide_eq_true h0
   match xs, hl with
   | [], _ => rfl
   | [x], _ => rfl
   | _ :: _ :: _, hl => simp at hl; omega
  refine sr ?_
  iterate 2 refine ww ?_
  refine nq ?_
  refine rtn ?_
  refine q_then_ret ?_
  refine q_ret (hR := ?_)
  exact fun w hS => ⟨(), trivial, by rw [hE1, hl]; rfl, by rw [hE1, hl]; exact hS.sub slz_⟩
 ·
  have hn2 : 2 ≤ n := by have h9 : ¬ (n : Int) < 2 := of_decide_eq_false h0; omega
  refine skp ?_
  refine q_seq ?_
  refine sq ?_
  refine sr ?_
  refine ww ?_
  refine WL.cut (by repeat (first | exact Cut.nil | apply Cut.hit | apply Cut.miss (by exact rfl))) ?_
  refine nq ?_
  refine bk ?_
  refine lp (X := Nat) (I := fun k => 1 ≤ k ∧ k ≤ n ∧ PfX xs k) (le := fun k => [(0, .slice A n c), (1, .func (.func 61) #[] #[.pointer (some ⟨b, 0, none⟩)]), (5, .int .i64 k)]) (Le := fun _ => .own A c 78 5 n (encX xs) :: E :: .blk b T [.func (.func 55) #[] #[]] :: R) (μ := fun k => n - k) 1 ⟨Nat.le_refl _, by omega, pf_start (by omega)⟩ sbz_ slz_ (fun k hk => ?_)
  obtain ⟨hk1, hk2, hkp⟩ := hk
  refine sq ?_
  refine sr ?_
  iterate 4 refine ww ?_
  refine nq ?_
  refine czz (fun h1 => ?_) fun h1 => ?_
  ·
   have hkn : k < n := by simp only [decide_eq_true_eq] at h1; omega
   obtain ⟨x, hx⟩ : ∃ x, xs[k]? = some x := ⟨_, List.getElem?_eq_getElem (by omega)⟩
   obtain ⟨p, hp⟩ : ∃ p, xs[k - 1]? = some p := ⟨_, List.getElem?_eq_getElem (by omega)⟩
   have hxm := List.mem_of_getElem? hx
   have hpm := List.mem_of_getElem? hp
   have hxe := encX_at hx
   have hpe : (encX xs)[((k : Int) - 1).toNat]? = some p.cells := by rw [show ((k : Int) - 1).toNat = k - 1 by omega]; exact encX_at hp
   refine skp ?_
   refine q_seq ?_
   refine sq ?_
   refine bk ?_
   refine sq ?_
   refine rgD (by kernel_rfl) [(4194304, .own A c 78 5 n (encX xs))] (by repeat (first | exact HS.nil | (apply HS.keep; (repeat (first | exact At.here | apply At.there))) | (apply HS.ro; (repeat (first | exact Rds.ro | exact Rds.own | apply Rds.there))))) (h := ?_)
   refine tw 0 ?_
   refine tw 1 ?_
   refine tw 2 ?_
   refine tk 3 (hy := ix (A := A) (m := n)) (h := ?_)
   refine tk 4 (hy := ldEA (A := A) (hk := hxe)) (h := ?_)
   refine tw 5 ?_
   refine tw 6 ?_
   refine tw 7 ?_
   refine tk 8 (hy := ix (A := A) (m := n)) (h := ?_)
   refine tk 9 (hy := ldEA (A := A) (hk := hpe)) (h := ?_)
   refine one 10 (h := ?_)
   refine clfT inferInstance (fi := []) (cap := [.pointer (some ⟨b, 0, none⟩)]) (by exact rfl) (by repeat (first | exact Evs.nil | (apply Evs.cons; exact rfl))) (T_Boards2 E x p b T (hE x hxm) (hE p hpm) (hS x hxm) (hS p hpm)) rfl (by repeat (first | exact Spl.nil | (apply Spl.cons; (repeat (first | exact At.here | apply At.there))))) (h := fun _ _ => ?_)
   refine nx (h := ?_)
   refine dn (h := ?_)
   refine q_seq ?_
   refine czz (fun h2 => ?_) fun h2 => ?_
   ·
    have hxp : x.b = p.b := of_decide_eq_true h2
    have hs0 := CP2.start hk1 hkp hx hp hxp
    refine sr ?_
    iterate 2 refine ww ?_
    refine wy (slV (A := A) (m := n) (cap := c) (lo' := k) (hi' := n) (hh := .inl ⟨rfl, rfl⟩) (hl := .inr ⟨_, _, _, rfl, rfl, by omega, by omega, by omega⟩)) ?_
    refine ww ?_
    refine nq ?_
    refine sq ?_
    refine sr ?_
    refine ww ?_
    refine WL.cut (by repeat (first | exact Cut.nil | apply Cut.hit | apply Cut.miss (by exact rfl))) ?_
    refine nq ?_
    refine bk ?_
    refine lp (X := CP2) (I := fun z => z.Ok xs k) (le := fun z => [(0, .slice A n c), (1, .func (.func 61) #[] #[.pointer (some ⟨b, 0, none⟩)]), (5, .int .i64 z.k), (6, .slice (if c = k then A else A.map (·.add (k * 5))) (n - k) (c - k)), (7, .int .i64 z.k2)]) (Le := fun z => .own A c 78 5 n (encX z.zs) :: E :: .blk b T [.func (.func 55) #[] #[]] :: R) (μ := fun z => n - z.k2) ⟨k, 1, xs⟩ hs0 sbz_ slz_ (fun z hzo => ?_)
    have hzl : z.zs.length = n := hzo.len.trans hl
    have hzlt := hzo.lt
    have hzle := hzo.le
    have hzk2 := hzo.k2
    refine sq ?_
    refine sr ?_
    iterate 4 refine ww ?_
    refine nq ?_
    refine czz (fun h3 => ?_) fun h3 => ?_
    ·
     have hjn : k + z.k2 < n := by simp only [decide_eq_true_eq] at h3; omega
     obtain ⟨y, hy⟩ : ∃ y, xs[k + z.k2]? = some y := ⟨_, List.getElem?_eq_getElem (by omega)⟩
     obtain ⟨q, hq⟩ : ∃ q, xs[k + z.k2 - 1]? = some q := ⟨_, List.getElem?_eq_getElem (by omega)⟩
     have hym := List.mem_of_getElem? hy
     have hqm := List.mem_of_getElem? hq
     have hyz : z.zs[k + z.k2]? = some y := by rw [hzo.dr _ (by omega)]; exact hy
     have hqz : z.zs[k + z.k2 - 1]? = some q := by rw [hzo.dr _ (by omega)]; exact hq
     have hye := from_at (k0 := k) hzl hyz
     have hqe : (((encX z.zs).drop k).take (n - k))[((z.k2 : Int) - 1).toNat]? = some q.cells := by
      rw [show ((z.k2 : Int) - 1).toNat = z.k2 - 1 by omega]
      exact from_at (k0 := k) hzl (by rw [show k + (z.k2 - 1) = k + z.k2 - 1 by omega]; exact hqz)
     refine skp ?_
     refine q_seq ?_
     refine sq ?_
     refine bk ?_
     refine sq ?_
     refine rgD (by kernel_rfl) [(4194304, .own A c 78 5 n (encX z.zs))] (by repeat (first | exact HS.nil | (apply HS.keep; (repeat (first | exact At.here | apply At.there))) | (apply HS.ro; (repeat (first | exact Rds.ro | exact Rds.own | apply Rds.there))))) (h := ?_)
     refine tw 0 ?_
     refine tw 1 ?_
     refine tw 2 ?_
     refine tk 3 (hy := ix (A := if c = k then A else A.map (·.add (k * 5))) (m := n - k) (hr := Rds.any fun w hw => rd_from hroom.1 (by omega) hw)) (h := ?_)
     refine tk 4 (hy := ldEA (A := if c = k then A else A.map (·.add (k * 5))) (hr := Rds.any fun w hw => rd_from hroom.1 (by omega) hw) (hk := hye)) (h := ?_)
     refine tw 5 ?_
     refine tw 6 ?_
     refine tw 7 ?_
     refine tk 8 (hy := ix (A := if c = k then A else A.map (·.add (k * 5))) (m := n - k) (hr := Rds.any fun w hw => rd_from hroom.1 (by omega) hw)) (h := ?_)
     refine tk 9 (hy := ldEA (A := if c = k then A else A.map (·.add (k * 5))) (hr := Rds.any fun w hw => rd_from hroom.1 (by omega) hw) (hk := hqe)) (h := ?_)
     refine one 10 (h := ?_)
     refine clfT inferInstance (fi := []) (cap := [.pointer (some ⟨b, 0, none⟩)]) (by exact rfl) (by repeat (first | exact Evs.nil | (apply Evs.cons; exact rfl))) (T_Boards2 E y q b T (hE y hym) (hE q hqm) (hS y hym) (hS q hqm)) rfl (by repeat (first | exact Spl.nil | (apply Spl.cons; (repeat (first | exact At.here | apply At.there))))) (h := fun _ _ => ?_)
     refine WL.subL (SubL.cons (.there (.there .here)) (SubL.refl _)) ?_
     refine nx (h := ?_)
     refine tw 11 ?_
     refine dn (h := ?_)
     refine q_seq ?_
     refine czz (fun h4 => ?_) fun h4 => ?_
     ·
      have hyq : ¬ y.b = q.b := by
       have h9 : (!decide (y.b = q.b)) = true := h4
       simpa using h9
      have hnz := CP2.keep hzo hy hq hyq
      refine sr ?_
      iterate 4 refine ww ?_
      refine wy (ix (A := if c = k then A else A.map (·.add (k * 5))) (m := n - k) (hr := Rds.any fun w hw => rd_from hroom.1 (by omega) hw)) ?_
      refine wy (ldEA (A := if c = k then A else A.map (·.add (k * 5))) (hr := Rds.any fun w hw => rd_from hroom.1 (by omega) hw) (hk := hye)) ?_
      refine wy (ix (A := A) (m := n)) ?_
      refine stEW (k := z.k) (vs := y.cells) (h := ?_)
      rw [encX_set]
      refine nq ?_
      refine rg ?_
      iterate 3 refine ww ?_
      refine WL.cut (by repeat (first | exact Cut.nil | apply Cut.hit | apply Cut.miss (by exact rfl))) ?_
      refine nl ?_
      refine q_blk_norm ?_
      refine q_seq ?_
      refine rg ?_
      iterate 3 refine ww ?_
      refine WL.cut (by repeat (first | exact Cut.nil | apply Cut.hit | apply Cut.miss (by exact rfl))) ?_
      refine nl ?_
      first
       | refine rn (x := z) ⟨z.k + 1, z.k2 + 1, z.zs.set z.k y⟩ hnz (by dsimp only; omega) sbz_ slz_
       | refine rn (x := z) ⟨z.k, z.k2 + 1, z.zs⟩ hnz (by dsimp only; omega) sbz_ slz_
     ·
      have hyq : y.b = q.b := by
       have h9 : (!decide (y.b = q.b)) = false := h4
       simpa using h9
      have hnz := CP2.skip hzo hy hq hyq
      refine skp ?_
      refine q_blk_norm ?_
      refine q_seq ?_
      refine rg ?_
      iterate 3 refine ww ?_
      refine WL.cut (by repeat (first | exact Cut.nil | apply Cut.hit | apply Cut.miss (by exact rfl))) ?_
      refine nl ?_
      first
       | refine rn (x := z) ⟨z.k + 1, z.k2 + 1, z.zs.set z.k y⟩ hnz (by dsimp only; omega) sbz_ slz_
       | refine rn (x := z) ⟨z.k, z.k2 + 1, z.zs⟩ hnz (by dsimp only; omega) sbz_ slz_
    ·
     have hjn : k + z.k2 = xs.length := by simp only [decide_eq_false_iff_not] at h3; omega
     have hfin := CP2.fin hzo hjn
     refine et ?_
     iterate 2 refine q_then_exit ?_
     refine q_blk_hit ?_
     refine q_seq ?_
     refine sr ?_
     iterate 2 refine ww ?_
     refine wy (slV (A := A) (m := n) (cap := c) (lo' := z.k) (hi' := n) (hh := .inl ⟨rfl, rfl⟩) (hl := .inr ⟨_, _, _, rfl, rfl, by omega, by omega, by omega⟩)) ?_
     refine clrS (lo := z.k) (hlo := by omega) (h := fun es' hes' => ?_)
     refine nq ?_
     refine sq ?_
     refine WC.shrink .here (m := z.k) (by omega) ?_
     refine rg ?_
     iterate 2 refine ww ?_
     refine wy (slP (A := A) (m := n) (cap := c) (hi' := z.k) (hc := by omega)) ?_
     refine ww ?_
     refine nq ?_
     refine rtn ?_
     refine q_blk_ret ?_
     iterate 2 refine q_then_ret ?_
     refine q_blk_ret ?_
     refine q_then_ret ?_
     refine q_ret (hR := ?_)
     have hlk : (cptX xs).length = z.k := by rw [hfin, List.length_take]; omega
     rw [hes', encX_take, ← hfin]
     exact fun w hS => ⟨(), trivial, by rw [hlk]; rfl, by rw [hlk]; exact hS.sub slz_⟩
   ·
    have hxp : ¬ x.b = p.b := of_decide_eq_false h2
    have hnx := pf_step hk1 hkp hx hp hxp
    refine skp ?_
    refine q_blk_norm ?_
    refine q_seq ?_
    refine rg ?_
    iterate 3 refine ww ?_
    refine WL.cut (by repeat (first | exact Cut.nil | apply Cut.hit | apply Cut.miss (by exact rfl))) ?_
    refine nl ?_
    refine rn (x := k) (k + 1) ⟨by omega, by omega, hnx⟩ (by omega) sbz_ slz_
  ·
   have hkn : k = xs.length := by simp only [decide_eq_false_iff_not] at h1; omega
   have hE1 : cptX xs = xs := pf_end (hkn ▸ hkp)
   refine et ?_
   iterate 2 refine q_then_exit ?_
   refine q_blk_hit ?_
   refine q_seq ?_
   refine sr ?_
   iterate 2 refine ww ?_
   refine nq ?_
   refine rtn ?_
   refine q_ret (hR := ?_)
   exact fun w hS => ⟨(), trivial, by rw [hE1, hl]; rfl, by rw [hE1, hl]; exact hS.sub slz_⟩
end Go.Proofs.YthkliiifllhacaaGreat

namespace Go.Proofs.YthkliiifllhacaaGreat
open Go Go.RowKit

def rowX (x : BA) : Row := ⟨x.A, 2, x.b.st.length, encP x.b.st⟩
theorem St.manySub {w0 w : World} {M : List Ent} {rs rs' : List Row} (h : St w0 w (manyE true rs :: M)) (hs : ∀ r ∈ rs', r ∈ rs) : St w0 w (manyE true rs' :: M) := by
 have hp := List.pairwise_cons.1 h.sep
 have hok := h.ok (manyE true rs) (by simp)
 refine ⟨h.below, fun x hx => ?_, fun x hx hf k hk => ?_, List.pairwise_cons.2 ⟨fun x hx ho k hk hk' => ?_, hp.2⟩⟩
 ·
  rcases List.mem_cons.1 hx with rfl | hx
  ·
   exact fun r hr => hok r (hs r hr)
  ·
   exact h.ok x (by simp [hx])
 ·
  rcases List.mem_cons.1 hx with rfl | hx
  ·
   obtain ⟨r, hr, hf2⟩ := hk
   exact h.new (manyE true rs) (by simp) rfl k ⟨r, hs r hr, hf2⟩
  ·
   exact h.new x (by simp [hx]) hf k hk
 ·
  obtain ⟨r, hr, hf2⟩ := hk
  exact hp.1 x hx (ho.imp (fun h => h) id) k ⟨r, hs r hr, hf2⟩ hk'
theorem many_ok {zs : List BA} {x : BA} (hx : x ∈ zs) : ∀ w, (manyE true (zs.map rowX)).ok w → Rd w x.A 2 x.b.st.length (encP x.b.st) := fun w hw => hw (rowX x) (List.mem_map.2 ⟨x, hx, rfl⟩)
theorem brd_sm {f : Fmt} {s : Spot} {K : Int} (h : SpBd f s K) (hf : f.Ok) (hK : K ≤ 100000) : BrdSm (brdOf s) :=
 ⟨fun p hp => by have := h.st p hp; exact ⟨by omega, by omega⟩, ⟨by have := h.g; show 0 ≤ s.g.1 ∧ s.g.1 ≤ 100000; omega, by have := h.g; show 0 ≤ s.g.2 ∧ s.g.2 ≤ 100000; omega⟩, ⟨by have := h.p; show 0 ≤ s.p.1 ∧ s.p.1 ≤ 100000; omega, by have := h.p; show 0 ≤ s.p.2 ∧ s.p.2 ≤ 100000; omega⟩, by have := h.len hf; show s.st.length ≤ 100000; omega⟩
structure BDR where
 (zs : List BA) (A : Option Addr) (c : Nat)
def bdS (o : Option BDR) : Value := match o with
 | none => .slice none 0 0
 | some s => .slice s.A s.zs.length s.c
def bdV (e : Int) (o : Option BDR) : Value := .tuple #[bdS o, .int .i64 e]
def bdE (T : TypeId) (o : Option BDR) : List Ent := match o with
 | none => []
 | some s => [.own s.A s.c T 5 s.zs.length (encX s.zs), manyE true (s.zs.map rowX)]
def BdOk (f : Fmt) (cf : Int) (xs : List Nt) (o : Option BDR) : Prop := match o with
 | none => posE f cf xs ≠ 0
 | some s => posE f cf xs = 0 ∧ s.zs.map (·.b) = boardsC (keyC (crowdC f cf xs)) ∧ (∀ x ∈ s.zs, BrdSm x.b) ∧ s.zs.length ≤ 4194304
def SrtX (zs bs : List BA) : Prop := zs.Perm bs ∧ (zs.map (·.b)).Pairwise fun a b => cmpB a b ≤ 0
def SortOk (P : Program) (T : TypeId) (fs g : FuncId) : Prop := ∀ (E : Ent) (bs : List BA) (A : Option Addr) (n c : Nat), bs.length = n → 0 < n → n ≤ 4194304 → (∀ x ∈ bs, ∀ w, E.ok w → Rd w x.A 2 x.b.st.length (encP x.b.st)) → (∀ x ∈ bs, BrdSm x.b) →
 Tr P fs [.slice A n c, .func (.func g) #[] #[]] [.own A c T 5 n (encX bs), E] (fun zs : List BA => SrtX zs bs) (fun _ => .tuple #[]) (fun zs => [.own A c T 5 n (encX zs), E])
theorem kpX_len : ∀ (l : List BA) (p : BA), (kpX p l).length ≤ l.length
 | [], _ => Nat.le_refl _
 | x :: l, p => by
  rw [kpX]
  by_cases e : x.b = p.b
  ·
   rw [if_pos e]; exact Nat.le_trans (kpX_len l x) (Nat.le_succ _)
  ·
   rw [if_neg e]; exact Nat.succ_le_succ (kpX_len l x)
theorem cptX_len (l : List BA) : (cptX l).length ≤ l.length := by
 cases l with
 | nil => exact Nat.le_refl _
 | cons x l => exact Nat.succ_le_succ (kpX_len l x)
theorem fin_boards {w0 w : World} {bs zs : List BA} {e : Ent} (h : St w0 w [manyE true (bs.map rowX), e]) (hs : ∀ x ∈ zs, x ∈ bs) : St w0 w [e, manyE true (zs.map rowX)] := by
 have h2 := h.manySub (rs' := zs.map rowX) fun r hr => by
  obtain ⟨x, hx, rfl⟩ := List.mem_map.1 hr
  exact List.mem_map.2 ⟨x, hs x hx, rfl⟩
 exact h2.sub (.cons (.there .here) (.cons .here .nil))
section rules
variable {F : Fence} {P : Program} {ops : Array Oper} {Q : Exit → Act → World → Prop} {rest : List Oper} {n : Nat} {D : List Deferred} {l : Env} {w0 : World} {L M : List Ent}
theorem WL.manyX {bs : List BA} (p : Option Addr × Nat) (x : BA) (hA : x.A = p.1) (hc : x.c = p.2) {T : TypeId} (ha : At L (.own p.1 p.2 T 2 x.b.st.length (encP x.b.st)) M) {M' : List Ent} (hb : At M (manyE true (bs.map rowX)) M') (h : WL F P ops Q rest n D l w0 (manyE true ((bs ++ [x]).map rowX) :: M')) : WL F P ops Q rest n D l w0 L := fun hF a w hfr hst => h hF a w hfr (by
 have := (hst.sub (L' := .own p.1 p.2 T 2 x.b.st.length (encP x.b.st) :: manyE true (bs.map rowX) :: M') (.cons ha (.cons hb (SubL.refl _)))).manyAdd
 rw [List.map_append]
 show St w0 w (manyE true (bs.map rowX ++ [⟨x.A, 2, x.b.st.length, encP x.b.st⟩]) :: M')
 rw [hA]; exact this)
end rules
structure BZ8 where
 (dn ts : List Nd) (tk : List KV) (o : Option KV) (bs : List BA) (A : Option Addr) (c : Nat)
theorem C_card_Boards' (hsort : SortOk Tryz.prog 78 59 55) (f : Fmt) (cf : Int) (xs : List Nt) (A : Option Addr) (n c : Nat) (w : World) (h : Rd w A 4 n (encN xs)) (hn : n ≤ 9223372036854775807) (hsm : chkC f cf xs = 0 → mostS xs ≤ 400) (hbig : chkC f cf xs = 0 → (crowdC f cf xs).length ≤ 4194304) :
  CR Tryz.prog 24 [.agg (cardC f cf A n c).toArray] w (BdOk f cf xs) (bdV (posE f cf xs)) (bdE 78) := by
 refine ⟨en Tryz.func24 Tryz.ntmps24 ((St.init w).share (e := .ro A 4 n (encN xs)) h rfl rfl rfl) (h := fun F => ?_)⟩
 refine sr ?_
 refine bxA (h := fun b0 => ?_)
 refine ww ?_
 refine WL.cut (by repeat (first | exact Cut.nil | apply Cut.hit | apply Cut.miss (by exact rfl))) ?_
 refine ww ?_
 refine WL.cut (by repeat (first | exact Cut.nil | apply Cut.hit | apply Cut.miss (by exact rfl))) ?_
 refine nr ?_
 refine ww ?_
 refine cl (hfresh := fun o => by cases o <;> rfl) (hc := fun w hS => C_card_possible f cf xs A n c w (hS.get rdz_) hn hsm) (h := fun o ho => ?_)
 iterate 5 refine ww ?_
 refine nq ?_
 refine sq ?_
 refine sr ?_
 iterate 2 refine ww ?_
 refine nq ?_
 refine czz (fun h0 => ?_) fun h0 => ?_
 ·
  have he : posE f cf xs ≠ 0 := by simpa using h0
  obtain rfl := all_none ho he
  refine sr ?_
  iterate 2 refine ww ?_
  refine WL.cut (by repeat (first | exact Cut.nil | apply Cut.hit | apply Cut.miss (by exact rfl))) ?_
  refine ww ?_
  refine WL.cut (by repeat (first | exact Cut.nil | apply Cut.hit | apply Cut.miss (by exact rfl))) ?_
  refine nq ?_
  refine rtn ?_
  refine q_then_ret ?_
  refine q_ret (hR := ?_)
  exact fun w hS => ⟨none, he, rfl, hS.sub .nil⟩
 ·
  have he : posE f cf xs = 0 := by simpa using h0
  obtain ⟨q, rfl, hq, hqn, hck⟩ := all_some ho he
  obtain ⟨hc0, hf, _, hl30, _, _⟩ := chk_facts hck
  have hms := hsm hck
  have hbig := hbig hck
  have hqe := hq.eqC
  have hqok := hq.ok
  rw [List.take_length] at hqe hqok
  have hnl : q.ns.length ≤ 4194304 := by
   have h9 := hqe.length_eq
   unfold toC at h9
   rw [List.length_map] at h9
   omega
  refine WC.subL (L' := [poolE 255 q.N q.mn none, roM q.b q.es q.c]) slz_ ?_
  refine skp ?_
  refine q_seq ?_
  refine sr ?_
  refine ww ?_
  refine WL.cut (by repeat (first | exact Cut.nil | apply Cut.hit | apply Cut.miss (by exact rfl))) ?_
  refine nq ?_
  iterate 2 refine sq ?_
  refine WC.nilOwn 78 5 (h := ?_)
  refine WC.many0 (h := ?_)
  refine rg ?_
  refine ww ?_
  refine rngM (b := q.b) (es := q.es) (c := q.c) (h := fun r1 => ?_)
  rw [cr_kv hq.cr]
  refine nq ?_
  refine bk ?_
  refine lp (X := BZ8) (I := fun z => (z.dn ++ z.ts).Perm q.ns ∧ z.tk.Perm (z.ts.map ndKV) ∧ z.bs.map (·.b) = z.dn.map (fun y => brdOf y.s) ∧ ∀ x ∈ z.bs, BrdSm x.b) (le := fun z => [(6, .slice z.A z.bs.length z.c), (18, .pointer (some ⟨r1, 0, none⟩))]) (Le := fun z => [itE r1 q.b q.es q.c z.tk z.o, .own z.A z.c 78 5 z.bs.length (encX z.bs), manyE true (z.bs.map rowX), poolE 255 q.N q.mn none, roM q.b q.es q.c]) (μ := fun z => z.ts.length) ⟨[], q.ns, q.ns.map ndKV, none, [], none, 0⟩ ⟨.refl _, .refl _, rfl, fun x hx => (by cases hx)⟩ sbz_ slz_ (fun z hz => ?_)
  obtain ⟨hzd, hzt, hzb, hzs⟩ := hz
  refine sr ?_
  refine nxtM (b := q.b) (es := q.es) (c := q.c) (hs := hq.cr.s) (h := fun o2 tk2 ho2 => ?_)
  refine wy exN ?_
  refine nq ?_
  refine sq ?_
  refine czz (fun h1 => ?_) fun h1 => ?_
  ·
   obtain ⟨kv, rfl⟩ := Option.isSome_iff_exists.1 h1
   rcases todo_nd hzt ho2 with ⟨e, _⟩ | ⟨y, ts', e, hts, htk⟩
   ·
    cases e
   obtain rfl := Option.some.inj e
   have hyn : y ∈ q.ns := hzd.subset (List.mem_append.2 (.inr (hts.symm.subset List.mem_cons_self)))
   have hyo := hqok.ok y (hq.cr.sub y hyn)
   have hlen9 : z.bs.length ≤ 4194304 := by
    have h8 := congrArg List.length hzb
    have h9 := hzd.length_eq
    rw [List.length_map, List.length_map] at h8
    rw [List.length_append] at h9
    omega
   refine skp ?_
   refine q_seq ?_
   refine bk ?_
   refine sr ?_
   refine wy (entM (b := q.b) (es := q.es) (c := q.c) (hs := hq.cr.s)) ?_
   refine ww ?_
   refine al (h := fun b1 => ?_)
   first | refine stA (h := ?_) | refine stEA (h := ?_)
   refine nq ?_
   refine rg ?_
   iterate 2 refine ww ?_
   refine cl (hc := fun w hS => C_spot_board y.s (hyo.len hf) w) (h := fun p1 _ => ?_)
   refine bs (h := fun b2 => ?_)
   refine ap (es := encX z.bs) (m := z.bs.length) (A := z.A) (c := z.c) (h := fun A1 c1 => ?_)
   refine ww ?_
   refine WL.cut (by repeat (first | exact Cut.nil | apply Cut.hit | apply Cut.miss (by exact rfl))) ?_
   refine WL.manyX p1 ⟨brdOf y.s, p1.1, p1.2⟩ rfl rfl atz_ atz_ ?_
   refine nl ?_
   refine q_blk_norm ?_
   refine rn (x := z) ⟨z.dn ++ [y], ts', tk2, some (ndKV y), z.bs ++ [⟨brdOf y.s, p1.1, p1.2⟩], A1, c1⟩ ⟨by rw [List.append_assoc]; exact ((List.Perm.append_left z.dn hts.symm)).trans hzd, htk, by rw [List.map_append, List.map_append, hzb]; rfl, fun x hx => by
     rcases List.mem_append.1 hx with h9 | h9
     ·
      exact hzs x h9
     ·
      rw [List.mem_singleton.1 h9]; exact brd_sm (hyo.bd hf) hf (by omega)⟩ (by have := hts.length_eq; rw [List.length_cons] at this; dsimp only; omega) (by rw [List.length_append]; exact sbz_) (by rw [List.length_append, List.map_append, show encX (z.bs ++ [⟨brdOf y.s, p1.1, p1.2⟩]) = encX z.bs ++ [(⟨brdOf y.s, p1.1, p1.2⟩ : BA).cells] from List.map_append]; exact slz_)
  ·
   have ho3 : o2 = none := by simpa using h1
   have hts : z.ts = [] := by
    rcases todo_nd hzt ho2 with ⟨_, h9, _⟩ | ⟨y, ts', e, _⟩
    ·
     exact h9
    ·
     rw [ho3] at e; cases e
   rw [hts, List.append_nil] at hzd
   have hlen9 : z.bs.length = q.ns.length := by
    have h8 := congrArg List.length hzb
    have h9 := hzd.length_eq
    rw [List.length_map, List.length_map] at h8
    omega
   have hpos : 0 < q.ns.length := List.length_pos_iff.2 hqn
   refine et ?_
   iterate 2 refine q_then_exit ?_
   refine q_blk_hit ?_
   refine q_seq ?_
   refine sr ?_
   refine al (h := fun b3 => ?_)
   first | refine st (h := ?_) | refine stE (h := ?_)
   refine nr ?_
   iterate 2 refine ww ?_
   refine clT (hc := hsort (manyE true (z.bs.map rowX)) z.bs z.A z.bs.length z.c rfl (by omega) (by omega) (fun x hx => many_ok hx) hzs) (h := fun zs hzs2 => ?_)
   have hzl := hzs2.1.length_eq
   refine nr ?_
   iterate 2 refine ww ?_
   refine clT (hc := T_Compact (manyE true (z.bs.map rowX)) zs z.A z.bs.length z.c _ _ hzl (by omega) (fun x hx => many_ok (hzs2.1.subset hx)) (fun x hx => hzs x (hzs2.1.subset hx))) (h := fun _ _ => ?_)
   refine ww ?_
   refine WL.cut (by repeat (first | exact Cut.nil | apply Cut.hit | apply Cut.miss (by exact rfl))) ?_
   refine ww ?_
   refine WL.cut (by repeat (first | exact Cut.nil | apply Cut.hit | apply Cut.miss (by exact rfl))) ?_
   refine nq ?_
   refine rtn ?_
   refine q_ret (hR := ?_)
   rw [he]
   have hB : (cptX zs).map (·.b) = boardsC (keyC (crowdC f cf xs)) := by
    rw [cptX_b]
    refine cpt_boards hzs2.2 fun b => ?_
    rw [((hzs2.1.map _).mem_iff), hzb]
    constructor
    ·
     intro hb
     obtain ⟨y, hy, rfl⟩ := List.mem_map.1 hb
     exact ⟨y.s, hq.keys (hzd.subset hy), rfl⟩
    ·
     rintro ⟨s, hs, rfl⟩
     have h8 : s ∈ keyC (toC q.mn q.ns) := (hqe.map _).symm.subset hs
     rw [toC_keys] at h8
     obtain ⟨y, hy, rfl⟩ := List.mem_map.1 h8
     exact List.mem_map.2 ⟨y, hzd.symm.subset hy, rfl⟩
   have hL : (cptX zs).length ≤ 4194304 := by
    have h1 : (cptX zs).length ≤ zs.length := cptX_len zs
    omega
   exact fun w hS => ⟨some ⟨cptX zs, z.A, z.c⟩, ⟨he, hB, fun x hx => hzs x (hzs2.1.subset (cptX_mem hx)), hL⟩, rfl, fin_boards (hS.sub (L' := [manyE true (z.bs.map rowX), .own z.A z.c 78 5 (cptX zs).length (encX (cptX zs))]) slz_) (fun x hx => hzs2.1.subset (cptX_mem hx))⟩
end Go.Proofs.YthkliiifllhacaaGreat

namespace Go.Proofs.YthkliiifllhacaaGreat
open Go Go.RowKit Go.Sort

theorem blw_grow {w w' : World} (h : Blw w.heap.size w w') : ∃ q os, w' = grow (w.drewN q) os := by
 refine ⟨w'.drawn - w.drawn, w'.heap.extract w.heap.size w'.heap.size, ?_⟩
 have hd := h.dr
 have hh : w'.heap = w.heap ++ w'.heap.extract w.heap.size w'.heap.size := by
  refine Array.ext_getElem? fun i => ?_
  by_cases hi : i < w.heap.size
  ·
   rw [h.b.block i hi, Array.getElem?_append_left hi]
  ·
   rw [Array.getElem?_append_right (by omega), Array.getElem?_extract]
   have hs := h.b.size
   by_cases h2 : i < w'.heap.size
   ·
    rw [if_pos (by omega)]; congr 1; omega
   ·
    rw [if_neg (by omega), Array.getElem?_eq_none (by omega)]
 obtain ⟨h1, h2, h3, h4, h5⟩ := w'
 simp only [grow, World.drewN, World.mk.injEq]
 exact ⟨hh, h.b.tape, by dsimp only at hd ⊢; omega, h.b.os, h.b.output⟩
section
variable {k : Nat} {enc : Nat → List Value}
theorem flatK_toList (hk : ∀ i, (enc i).length = k) (d : Array Nat) : (flatK enc k d).toList = (d.toList.map enc).flatten := by
 have hs : ∀ c ∈ d.toList.map enc, c.length = k := fun c hc => by
  obtain ⟨i, _, rfl⟩ := List.mem_map.1 hc; exact hk i
 have hl : ((d.toList.map enc).flatten).length = d.size * k := by rw [flatten_len hs]; simp
 refine List.ext_getElem? fun t => ?_
 by_cases ht : t < d.size * k
 ·
  have hk0 : 0 < k := Nat.pos_of_mul_pos_left (Nat.lt_of_le_of_lt (Nat.zero_le _) ht)
  have hq : t / k < d.size := (Nat.div_lt_iff_lt_mul hk0).2 ht
  have hm : t % k < k := Nat.mod_lt _ hk0
  have h1 : (d.toList.map enc)[t / k]? = some (enc d[t / k]!) := by
   rw [List.getElem?_map, List.getElem?_eq_getElem (by simpa using hq)]
   simp [getElem!_pos d (t / k) hq]
  have h2 : (enc d[t / k]!)[t % k]? = some ((enc d[t / k]!)[t % k]!) := by
   have : t % k < (enc d[t / k]!).length := by rw [hk]; exact hm
   rw [List.getElem?_eq_getElem this, getElem!_pos (enc d[t / k]!) (t % k) this]
  have h3 := flatten_get hs h1 h2
  rw [show t / k * k + t % k = t by rw [Nat.mul_comm]; exact Nat.div_add_mod t k] at h3
  rw [h3, ← get_flatK enc k d t ht, Array.getElem?_toList, getElem!_pos _ t (by rw [size_flatK]; exact ht), Array.getElem?_eq_getElem (by rw [size_flatK]; exact ht)]
 ·
  rw [List.getElem?_eq_none (by rw [Array.length_toList, size_flatK]; omega), List.getElem?_eq_none (by rw [hl]; omega)]
theorem sortSt {w0 w : World} {M : List Ent} {g cap n : Nat} {T : TypeId} (hk : ∀ i, (enc i).length = k) (h1 : ∀ i, ∀ v ∈ enc i, v.oneCell' = true) (d : Array Nat) (hd : d.size = n) (hst : St w0 w (.own (some ⟨g, 0, none⟩) cap T k n (d.toList.map enc) :: M)) (hn : 0 < n) :
  HoldsK enc k w g 0 d ∧ g < w.heap.size ∧ ∀ (d' : Array Nat) (m : Nat) (os : Array Obj), d'.size = n → St w0 (sortWorldK enc k w g 0 m d' os) (.own (some ⟨g, 0, none⟩) cap T k n (d'.toList.map enc) :: M) := by
 obtain ⟨hown, hrd⟩ := hst.ok (.own (some ⟨g, 0, none⟩) cap T k n (d.toList.map enc)) (by simp)
 have hlt : g < w.heap.size := Ent.ok_lt (hst.ok (.own (some ⟨g, 0, none⟩) cap T k n (d.toList.map enc)) (by simp)) ⟨_, rfl, rfl⟩
 have hfl := flatK_toList hk d
 obtain ⟨hol, hor⟩ := hown
 rcases hor with ⟨hv, _⟩ | ⟨g', cap', cur, hv, hbase, hheap, h2, h3, h4, h5⟩
 ·
  cases hv
 ·
  injection hv with hv1 hv2 hv3
  injection hv1 with hv1
  injection hv1 with hv1
  subst hv1 hv3
  refine ⟨fun j hj => ?_, hlt, fun d' m os hd' => ?_⟩
  ·
   rw [size_flatK, hd] at hj
   have hjc : j < cur.size := by rw [h4]; exact Nat.lt_of_lt_of_le hj (Nat.mul_le_mul_right _ h2)
   have hget : (flatK enc k d)[j]! = cur[j] := by
    have h6 : cur.toList[j]? = (flatK enc k d).toList[j]? := by
     rw [hfl, ← h5, List.getElem?_take, if_pos hj]
    rw [Array.getElem?_toList, Array.getElem?_toList, Array.getElem?_eq_getElem hjc, Array.getElem?_eq_getElem (by rw [size_flatK, hd]; exact hj)] at h6
    rw [getElem!_pos _ j (by rw [size_flatK, hd]; exact hj)]
    exact (Option.some.inj h6).symm
   rw [hget, Nat.zero_add]
   constructor
   ·
    rw [cell_of_row w g j _ T (0, 0) hheap, Array.getElem?_eq_getElem hjc]; rfl
   ·
    exact frozen_of_row w g j _ T hheap
  ·
   have hfl' := flatK_toList hk d'
   have hheap' : (sortWorldK enc k w g 0 m d' os).heap[g]? = some (.cells (putCells id 0 (flatK enc k d') cur) T (0, 0)) := by
    unfold sortWorldK grow putRowK putRow
    dsimp only
    have hsz : g < (mapBlock (Sort.ahead w m) g (putCells id 0 (flatK enc k d'))).heap.size := by
     unfold mapBlock; simp [Sort.ahead]; exact hlt
    rw [Array.getElem?_append_left hsz]
    unfold mapBlock
    simp only [Array.getElem?_modify, if_pos]
    rw [show (Sort.ahead w m).heap = w.heap from rfl, hheap]
    rfl
   have hother : ∀ q, q < w.heap.size → q ≠ g → (sortWorldK enc k w g 0 m d' os).heap[q]? = w.heap[q]? := fun q hq hne => by
    unfold sortWorldK grow putRowK putRow
    dsimp only
    have hsz : q < (mapBlock (Sort.ahead w m) g (putCells id 0 (flatK enc k d'))).heap.size := by
     unfold mapBlock; simp [Sort.ahead]; exact hq
    rw [Array.getElem?_append_left hsz]
    unfold mapBlock
    simp only [Array.getElem?_modify]
    rw [if_neg (fun e => hne e.symm)]; rfl
   have hs : ∀ c ∈ d'.toList.map enc, c.length = k := fun c hc => by
    obtain ⟨i, _, rfl⟩ := List.mem_map.1 hc; exact hk i
   have ho : ∀ c ∈ d'.toList.map enc, ∀ v ∈ c, v.oneCell' = true := fun c hc v hv => by
    obtain ⟨i, _, rfl⟩ := List.mem_map.1 hc; exact h1 i v hv
   have hflen : (flatK enc k d').toList.length = n * k := by rw [Array.length_toList, size_flatK, hd']
   have hown' : (sortWorldK enc k w g 0 m d' os).ownsRow 0 T k (.slice (some ⟨g, 0, none⟩) n cap) n (d'.toList.map enc).flatten := by
    refine ⟨by rw [← hfl', hflen], .inr ⟨g, cap, _, rfl, hbase, hheap', h2, h3, by simp [putCells, h4], ?_⟩⟩
    rw [← hfl']
    refine List.ext_getElem? fun t => ?_
    rw [List.getElem?_take]
    by_cases ht : t < n * k
    ·
     rw [if_pos ht, Array.getElem?_toList, Array.getElem?_toList]
     have htc : t < cur.size := by rw [h4]; exact Nat.lt_of_lt_of_le ht (Nat.mul_le_mul_right _ h2)
     have hts : t < (flatK enc k d').size := by rw [size_flatK, hd']; exact ht
     unfold putCells
     rw [Array.getElem?_mapIdx, Array.getElem?_eq_getElem htc, Option.map_some, if_pos ⟨Nat.zero_le _, by omega⟩, Array.getElem?_eq_getElem hts, Nat.sub_zero, getElem!_pos _ t hts]
     rfl
    ·
     rw [if_neg ht, List.getElem?_eq_none (by rw [hflen]; omega)]
   refine hst.turn rfl (fun q hq hnf => hother q hq fun e => hnf ⟨_, rfl, e.symm⟩) rfl rfl rfl ?_ ⟨hown', rd_own hown' (by simp [hd']) hs ho⟩ (fun q hq => .inl hq) (by
    show w.drawn ≤ w.drawn + m
    omega)
   unfold sortWorldK grow putRowK putRow mapBlock
   simp [Sort.ahead]
end
end Go.Proofs.YthkliiifllhacaaGreat

namespace Go.Proofs.YthkliiifllhacaaGreat
open Go Go.Shelf
def sortB_ren : Go.Shelf.Ren := ⟨fun | 6 => 59 | 15 => 103 | 14 => 102 | 28 => 162 | 29 => 163 | 20 => 154 | 21 => 155 | 22 => 156 | 23 => 157 | 24 => 158 | 25 => 159 | 26 => 160 | 27 => 161 | 46 => 194 | 47 => 195 | 48 => 196 | 49 => 197 | 50 => 198 | 57 => 216 | n => n, fun | 22 => 83 | 24 => 78 | 25 => 148 | 3 => 3 | 39 => 194 | 0 => 0 | 53 => 248 | 55 => 250 | 4 => 4 | 46 => 241 | 45 => 240 | 50 => 245 | 5 => 5 | 9 => 9 | 66 => 276 | 70 => 280 | 76 => 293 | 77 => 272 | n => n, fun | n => n⟩
theorem sortB : Go.Proofs.SlLaysF0.n6 Tryz.prog sortB_ren := {
 mixed := by kernel_rfl
 f6 := ⟨Tryz.f59.name, by decide, Tryz.func59.trans (congrArg some (by kernel_rfl))⟩
 f14 := ⟨Tryz.f102.name, by decide, Tryz.func102.trans (congrArg some (by kernel_rfl))⟩
 f15 := Tryz.func103.trans (congrArg some (by kernel_rfl))
 f20 := ⟨Tryz.f154.name, by decide, Tryz.func154.trans (congrArg some (by kernel_rfl))⟩
 f21 := ⟨Tryz.f155.name, by decide, Tryz.func155.trans (congrArg some (by kernel_rfl))⟩
 f22 := ⟨Tryz.f156.name, by decide, Tryz.func156.trans (congrArg some (by kernel_rfl))⟩
 f23 := ⟨Tryz.f157.name, by decide, Tryz.func157.trans (congrArg some (by kernel_rfl))⟩
 f24 := ⟨Tryz.f158.name, by decide, Tryz.func158.trans (congrArg some (by kernel_rfl))⟩
 f25 := ⟨Tryz.f159.name, by decide, Tryz.func159.trans (congrArg some (by kernel_rfl))⟩
 f26 := ⟨Tryz.f160.name, by decide, Tryz.func160.trans (congrArg some (by kernel_rfl))⟩
 f27 := ⟨Tryz.f161.name, by decide, Tryz.func161.trans (congrArg some (by kernel_rfl))⟩
 f28 := Tryz.func162.trans (congrArg some (by kernel_rfl))
 f29 := Tryz.func163.trans (congrArg some (by kernel_rfl))
 f46 := ⟨Tryz.f194.name, by decide, Tryz.func194.trans (congrArg some (by kernel_rfl))⟩
 f47 := Tryz.func195.trans (congrArg some (by kernel_rfl))
 f48 := Tryz.func196.trans (congrArg some (by kernel_rfl))
 f49 := ⟨Tryz.f197.name, by decide, Tryz.func197.trans (congrArg some (by kernel_rfl))⟩
 f50 := ⟨Tryz.f198.name, by decide, Tryz.func198.trans (congrArg some (by kernel_rfl))⟩
 f57 := ⟨Tryz.f216.name, by decide, Tryz.func216.trans (congrArg some (by kernel_rfl))⟩
 t0 := Tryz.underlying0
 a0 := Tryz.isAgg0
 z0 := Tryz.sizeOf0
 v0 := Tryz.zeroValue0
 t3 := Tryz.underlying3
 a3 := Tryz.isAgg3
 z3 := Tryz.sizeOf3
 v3 := Tryz.zeroValue3
 t4 := Tryz.underlying4
 a4 := Tryz.isAgg4
 z4 := Tryz.sizeOf4
 v4 := Tryz.zeroValue4
 t5 := Tryz.underlying5
 a5 := Tryz.isAgg5
 z5 := Tryz.sizeOf5
 v5 := Tryz.zeroValue5
 t9 := Tryz.underlying9
 a9 := Tryz.isAgg9
 z9 := Tryz.sizeOf9
 v9 := Tryz.zeroValue9
 t22 := Tryz.underlying83
 a22 := Tryz.isAgg83
 z22 := Tryz.sizeOf83
 v22 := Tryz.zeroValue83
 t25 := Tryz.underlying148
 a25 := Tryz.isAgg148
 z25 := Tryz.sizeOf148
 v25 := Tryz.zeroValue148
 t39 := Tryz.underlying194
 a39 := Tryz.isAgg194
 z39 := Tryz.sizeOf194
 v39 := Tryz.zeroValue194
 t45 := Tryz.underlying240
 a45 := Tryz.isAgg240
 z45 := Tryz.sizeOf240
 v45 := Tryz.zeroValue240
 t46 := Tryz.underlying241
 a46 := Tryz.isAgg241
 z46 := Tryz.sizeOf241
 v46 := Tryz.zeroValue241
 t50 := Tryz.underlying245
 a50 := Tryz.isAgg245
 z50 := Tryz.sizeOf245
 v50 := Tryz.zeroValue245
 t53 := Tryz.underlying248
 a53 := Tryz.isAgg248
 z53 := Tryz.sizeOf248
 v53 := Tryz.zeroValue248
 t55 := Tryz.underlying250
 a55 := Tryz.isAgg250
 z55 := Tryz.sizeOf250
 v55 := Tryz.zeroValue250
 t66 := Tryz.underlying276
 a66 := Tryz.isAgg276
 z66 := Tryz.sizeOf276
 v66 := Tryz.zeroValue276
 t70 := Tryz.underlying280
 a70 := Tryz.isAgg280
 z70 := Tryz.sizeOf280
 v70 := Tryz.zeroValue280
 t76 := Tryz.underlying293
 a76 := Tryz.isAgg293
 z76 := Tryz.sizeOf293
 v76 := Tryz.zeroValue293
 t77 := Tryz.underlying272
 a77 := Tryz.isAgg272
 z77 := Tryz.sizeOf272
 v77 := Tryz.zeroValue272 }
end Go.Proofs.YthkliiifllhacaaGreat

namespace Go.Proofs.YthkliiifllhacaaGreat
open Go Go.RowKit Go.Sort

def atX (bs : List BA) (i : Nat) : BA := bs.getD i ⟨⟨[], (0, 0), (0, 0)⟩, none, 0⟩
theorem atX_all {bs : List BA} {p : BA → Prop} (h : ∀ x ∈ bs, p x) (h0 : p ⟨⟨[], (0, 0), (0, 0)⟩, none, 0⟩) (i : Nat) : p (atX bs i) := by
 unfold atX
 rw [List.getD_eq_getElem?_getD]
 cases hb : bs[i]? with
 | none => exact h0
 | some x => exact h x (List.mem_of_getElem? hb)
theorem atX_range (bs : List BA) : (List.range bs.length).map (atX bs) = bs := by
 refine List.ext_getElem? fun i => ?_
 rw [List.getElem?_map]
 by_cases h : i < bs.length
 ·
  rw [List.getElem?_range h, Option.map_some, atX, List.getD_eq_getElem?_getD, List.getElem?_eq_getElem h]; rfl
 ·
  rw [List.getElem?_eq_none (by simpa using h), List.getElem?_eq_none (by omega)]; rfl
abbrev cfX (bs : List BA) (i j : Nat) : Int := cmpB (atX bs i).b (atX bs j).b
theorem swoX (bs : List BA) : SWO (ltOf (cfX bs)) where
 irrefl i := by unfold ltOf; exact decide_eq_false (by rw [show cfX bs i i = 0 from cmpB_zero.2 rfl]; decide)
 trans i j k h1 h2 := by
  unfold ltOf at *
  exact decide_eq_true (cmpB_trans (of_decide_eq_true h1) (of_decide_eq_true h2))
 ntrans i j k h1 h2 := by
  unfold ltOf at *
  have n1 := of_decide_eq_false h1
  have n2 := of_decide_eq_false h2
  refine decide_eq_false fun h3 => ?_
  by_cases e1 : (atX bs i).b = (atX bs j).b
  ·
   rw [show cfX bs i k = cfX bs j k by unfold cfX; rw [e1]] at h3; exact n2 h3
  ·
   have h4 := cmpB_pos n1 e1
   exact n2 (cmpB_trans h4 h3)
theorem sort_ok : SortOk Tryz.prog 78 59 55 := by
 intro E bs A n c hl hn hn2 hE hS
 refine ⟨fun w0 w R hst => ?_⟩
 have hE0 : ∀ i w, E.ok w → Rd w (atX bs i).A 2 (atX bs i).b.st.length (encP (atX bs i).b.st) := fun i w hw => atX_all (bs := bs) (p := fun x => Rd w x.A 2 x.b.st.length (encP x.b.st)) (fun x hx => hE x hx w hw) (Rd.nil w none 2) i
 have hS0 : ∀ i, BrdSm (atX bs i).b := fun i => atX_all (bs := bs) (p := fun x => BrdSm x.b) hS ⟨fun p hp => (by cases hp), ⟨by decide, by decide⟩, ⟨by decide, by decide⟩, by decide⟩ i
 have henc : ((Array.range n).toList.map fun i => (atX bs i).cells) = encX bs := by
  rw [Array.toList_range, ← hl]
  show (List.range bs.length).map (BA.cells ∘ atX bs) = _
  rw [← List.map_map, atX_range]; rfl
 have hrd := (hst.ok (.own A c 78 5 n (encX bs)) (by simp)).2
 obtain ⟨ad, rfl⟩ := hrd.some_ hn
 obtain ⟨g, rfl⟩ : ∃ g, ad = ⟨g, 0, none⟩ := by
  have hown := (hst.ok (.own (some ad) c 78 5 n (encX bs)) (by simp)).1
  rcases hown.2 with ⟨hv, _⟩ | ⟨g, cap', cur, hv, _⟩
  ·
   cases hv
  ·
   injection hv with h1; injection h1 with h1; exact ⟨g, h1⟩
 have hst2 : St w0 w (.own (some ⟨g, 0, none⟩) c 78 5 n ((Array.range n).toList.map fun i => (atX bs i).cells) :: E :: R) := by rw [henc]; exact hst
 obtain ⟨hH, hlt, hfin⟩ := sortSt (enc := fun i => (atX bs i).cells) (fun i => rfl) (fun i v hv => by
  simp only [BA.cells, Brd.cells, List.mem_cons, List.mem_nil_iff, or_false] at hv
  rcases hv with rfl | rfl | rfl | rfl | rfl <;> rfl) (Array.range n) (by simp) hst2 hn
 have hcmp : CmpLays Tryz.prog 55 #[] (fun i => (atX bs i).cells) 5 (cfX bs) g 0 n w := fun m os dk hdk x y => by
  have hW := hfin dk m os hdk
  have hEW := hW.ok E (by simp)
  have hc := C_Boards1 (atX bs x).b (atX bs y).b (atX bs x).A (atX bs y).A (atX bs x).c (atX bs y).c (hS0 x) (hS0 y) _ (hE0 x _ hEW) (hE0 y _ hEW)
  exact Calls.mono hc.out fun e w' ⟨he, hs⟩ => ⟨he, blw_grow hs.below⟩
 have hcon := AnyQ.slices_SortFunc sortB 5 (fun w => run_isAgg (P := Tryz.prog) (t := 78) inferInstance w) (fun w => run_sizeOf (P := Tryz.prog) (t := 78) inferInstance w) (fun i => (atX bs i).cells) (fun i => rfl) (fun i v hv => by
  simp only [BA.cells, Brd.cells, List.mem_cons, List.mem_nil_iff, or_false] at hv
  rcases hv with rfl | rfl | rfl | rfl | rfl <;> rfl) (cfX bs) (swoX bs) 55 #[] g 0 c (Array.range n) w (run_callFunc inferInstance) (by simpa using hcmp) hH hlt (by simp; omega)
 simp only [Array.size_range] at hcon
 refine Calls.mono hcon fun e w' ⟨he, d', m, os, hp, hs, hw⟩ => ?_
 subst hw
 have hd' : d'.size = n := by have := hp.1; simpa using this
 have hperm : d'.toList.Perm (List.range n) := by
  have h1 := hp.2.2
  rw [show d'.extract 0 n = d' by rw [← hd']; simp, show (Array.range n).extract 0 n = Array.range n by simp, Array.toList_range] at h1
  exact h1
 refine ⟨d'.toList.map (atX bs), ⟨?_, ?_⟩, he, ?_⟩
 ·
  have h1 := hperm.map (atX bs)
  rwa [← hl, atX_range] at h1
 ·
  rw [List.map_map]
  refine List.pairwise_iff_getElem.2 fun i j hi hj hij => ?_
  simp only [List.length_map, Array.length_toList] at hi hj
  have h1 := hs i j (Nat.zero_le _) hij (by omega)
  unfold ltOf at h1
  have h2 := of_decide_eq_false h1
  rw [getElem!_pos d' i (by omega), getElem!_pos d' j (by omega)] at h2
  simp only [List.getElem_map, Function.comp, Array.getElem_toList]
  by_cases e : cmpB (atX bs d'[i]).b (atX bs d'[j]).b ≤ 0
  ·
   exact e
  ·
   exact absurd (cmpB_neg.2 (by omega)) h2
 ·
  have h1 := hfin d' m os hd'
  rw [show encX (d'.toList.map (atX bs)) = d'.toList.map fun i => (atX bs i).cells by unfold encX; rw [List.map_map]; rfl]
  exact h1
theorem C_card_Boards (f : Fmt) (cf : Int) (xs : List Nt) (A : Option Addr) (n c : Nat) (w : World) (h : Rd w A 4 n (encN xs)) (hn : n ≤ 9223372036854775807) (hsm : chkC f cf xs = 0 → mostS xs ≤ 400) (hbig : (crowdC f cf xs).length ≤ 4194304) :
  CR Tryz.prog 24 [.agg (cardC f cf A n c).toArray] w (BdOk f cf xs) (bdV (posE f cf xs)) (bdE 78) := C_card_Boards' sort_ok f cf xs A n c w h hn hsm (fun _ => hbig)
end Go.Proofs.YthkliiifllhacaaGreat

namespace Go.Proofs.YthkliiifllhacaaGreat
open Go Go.RowKit

end Go.Proofs.YthkliiifllhacaaGreat

namespace Go.Proofs.YthkliiifllhacaaGreat
open Go Go.RowKit

def misN (x : Nt) : Int := bif decide (x.kind = 2) then x.pair.2 else 0
def misS (xs : List Nt) : Int := (xs.map misN).sum
theorem put_len (l : List En) (e : En) : (putC l e).length ≤ l.length + 1 := by
 induction l with
 | nil => exact Nat.le_refl _
 | cons x l ih =>
  rw [putC]
  by_cases h : x.1 = e.1
  ·
   rw [if_pos h]; simp
  ·
   rw [if_neg h]; simp only [List.length_cons]; omega
theorem norm_len (l : List En) : (normC l).length ≤ l.length := by
 have : ∀ (l acc : List En), (l.foldl putC acc).length ≤ acc.length + l.length := fun l => by
  induction l with
  | nil => intro acc; exact Nat.le_refl _
  | cons e l ih =>
   intro acc
   have h1 := ih (putC acc e)
   have h2 := put_len acc e
   rw [List.foldl_cons, List.length_cons]; omega
 have := this l []
 rw [normC]; simpa using this
theorem go_len (f : Fmt) (side : Int) (e : En) (p : Int) : (goE f side e p).length ≤ 1 := by
 unfold goE
 by_cases h : side = -1 ∨ side = p
 ·
  rw [if_pos h]; cases nxtS f e.1 p <;> simp
 ·
  rw [if_neg h]; simp
theorem step_len (f : Fmt) (l : List En) (side : Int) : (stepC f l side).length ≤ 2 * l.length := by
 refine Nat.le_trans (norm_len _) ?_
 unfold stepI
 induction l with
 | nil => simp
 | cons e l ih =>
  have h0 := go_len f side e 0
  have h1 := go_len f side e 1
  rw [List.flatMap_cons, List.length_append, List.length_append, List.length_cons]; omega
theorem iter_len (f : Fmt) (l : List En) : ∀ k, (iterC f l k).length ≤ 2 ^ k * l.length
 | 0 => by simp [iterC]
 | k + 1 => by
  have h1 := step_len f (iterC f l k) (-1)
  have h2 := iter_len f l k
  show (stepC f (iterC f l k) (-1)).length ≤ _
  rw [Nat.pow_succ, Nat.mul_comm (2 ^ k) 2, Nat.mul_assoc]
  omega
theorem missI_len (f : Fmt) (l : List En) (a : Int) : ∀ k, (missI f l a k).length + l.length ≤ 2 ^ k * l.length
 | 0 => by simp [missI]
 | k + 1 => by
  have h1 := missI_len f l a k
  have h2 := iter_len f l k
  have h3 : (if a ≤ (k : Int) then iterC f l k else []).length ≤ (iterC f l k).length := by
   by_cases h : a ≤ (k : Int)
   ·
    rw [if_pos h]; exact Nat.le_refl _
   ·
    rw [if_neg h]; exact Nat.zero_le _
  rw [missI, List.length_append, Nat.pow_succ, Nat.mul_comm (2 ^ k) 2, Nat.mul_assoc]
  omega
def expN (x : Nt) : Nat := 1 + (misN x).toNat
theorem after_len (f : Fmt) (l : List En) (x : Nt) : (afterC f l x).length ≤ 2 ^ expN x * l.length := by
 unfold afterC
 by_cases h1 : x.kind = 1
 ·
  rw [if_pos h1]
  have := step_len f l x.side
  have e : expN x = 1 := by unfold expN misN; rw [decide_eq_false (by omega)]; rfl
  rw [e]; omega
 ·
  rw [if_neg h1]
  by_cases h2 : x.kind = 2
  ·
   rw [if_pos h2]
   have e : expN x = x.pair.2.toNat + 1 := by unfold expN misN; rw [decide_eq_true h2]; show 1 + x.pair.2.toNat = _; omega
   have h3 := missI_len f l x.pair.1 (x.pair.2.toNat + 1)
   have h4 := norm_len (missI f l x.pair.1 (x.pair.2.toNat + 1))
   rw [e]
   show (normC _).length ≤ _
   omega
  ·
   rw [if_neg h2]
   have h3 : (testC f x l).length ≤ l.length := List.length_filter_le ..
   have h4 : 1 ≤ 2 ^ expN x := Nat.one_le_two_pow
   exact Nat.le_trans h3 (Nat.le_mul_of_pos_left _ h4)
def expS (xs : List Nt) : Nat := (xs.map expN).sum
theorem crowd_len (f : Fmt) (cf : Int) (xs : List Nt) : (crowdC f cf xs).length ≤ 2 ^ expS xs * 2 := by
 have key : ∀ (xs : List Nt) (l : List En), (xs.foldl (afterC f) l).length ≤ 2 ^ expS xs * l.length := fun xs => by
  induction xs with
  | nil => intro l; simp [expS]
  | cons x xs ih =>
   intro l
   rw [List.foldl_cons]
   refine Nat.le_trans (ih _) ?_
   have h1 := after_len f l x
   have : expS (x :: xs) = expN x + expS xs := by unfold expS; rw [List.map_cons, List.sum_cons]
   rw [this, Nat.pow_add, Nat.mul_comm (2 ^ expN x), Nat.mul_assoc]
   exact Nat.mul_le_mul_left _ h1
 refine Nat.le_trans (key xs (begC cf)) (Nat.mul_le_mul_left _ ?_)
 unfold begC
 rw [List.length_append]
 have : ∀ (p : Prop) [Decidable p] (e : En), (if p then [e] else []).length ≤ 1 := fun p _ e => by
  by_cases h : p
  ·
   rw [if_pos h]; exact Nat.le_refl _
  ·
   rw [if_neg h]; exact Nat.zero_le _
 have h1 := this (cf = -1 ∨ cf = 0) (⟨0, [], (0, 0), (0, 0)⟩, (0, 0, 0))
 have h2 := this (cf = -1 ∨ cf = 1) (⟨1, [], (0, 0), (0, 0)⟩, (0, 0, 0))
 omega
theorem exp_mis {xs : List Nt} (h : ∀ x ∈ xs, mkV x = true) : (expS xs : Int) = xs.length + misS xs ∧ mostS xs ≤ xs.length + misS xs ∧ 0 ≤ misS xs := by
 induction xs with
 | nil => exact ⟨rfl, Int.le_refl _, Int.le_refl _⟩
 | cons x xs ih =>
  obtain ⟨h1, h2, h3⟩ := ih fun y hy => h y (by simp [hy])
  have hk := mk_kind (h x (by simp))
  have h4 : 0 ≤ misN x ∧ mostN x ≤ 1 + misN x := by
   unfold misN mostN
   by_cases e1 : x.kind = 1
   ·
    rw [decide_eq_false (by omega), if_pos e1]; exact ⟨Int.le_refl _, by show (1 : Int) ≤ 1 + 0; omega⟩
   ·
    rw [if_neg e1]
    by_cases e2 : x.kind = 2
    ·
     have := hk.2.2.1 e2
     rw [decide_eq_true e2, if_pos e2]
     show 0 ≤ x.pair.2 ∧ x.pair.2 ≤ 1 + x.pair.2
     omega
    ·
     rw [decide_eq_false e2, if_neg e2]; exact ⟨Int.le_refl _, by show (0 : Int) ≤ 1 + 0; omega⟩
  have e1 : expS (x :: xs) = expN x + expS xs := by unfold expS; rw [List.map_cons, List.sum_cons]
  have e2 : misS (x :: xs) = misN x + misS xs := by unfold misS; rw [List.map_cons, List.sum_cons]
  have e3 : mostS (x :: xs) = mostN x + mostS xs := by unfold mostS; rw [List.map_cons, List.sum_cons]
  rw [e1, e2, e3, List.length_cons]
  unfold expN
  omega
structure Rdy (f : Fmt) (cf : Int) (xs : List Nt) : Prop where
 c : chkC f cf xs = 0
 n : xs.length ≤ 12
 m : mostS xs ≤ 20
 b : (crowdC f cf xs).length ≤ 4194304
 mks : ∀ x ∈ xs, mkV x = true
 ok : f.Ok
 cf : -1 ≤ cf ∧ cf ≤ 1
 mis : misS xs ≤ 8
theorem rdy_of {f : Fmt} {cf : Int} {xs : List Nt} (h1 : chkC f cf xs = 0) (hn : xs.length ≤ 12) (hm : misS xs ≤ 8) : Rdy f cf xs := by
 obtain ⟨h2, h3, h4, h5, h6, h7⟩ := chk_facts h1
 obtain ⟨e1, e2, e3⟩ := exp_mis h6
 have hl := crowd_len f cf xs
 have he : expS xs ≤ 20 := by omega
 have hp : 2 ^ expS xs ≤ 2 ^ 20 := Nat.pow_le_pow_right (by omega) he
 exact ⟨h1, hn, by omega, by omega, h6, h3, h4, hm⟩
end Go.Proofs.YthkliiifllhacaaGreat

namespace Go.Proofs.YthkliiifllhacaaGreat
open Go Go.RowKit

theorem same_fin {a b : Brd} {n m k : Nat} (hla : a.st.length = n) (hlb : b.st.length = m) (hk : k ≤ n ∧ k ≤ m) (htk : a.st.take k = b.st.take k) (hk2 : ¬ ((k : Int) < n ∧ (k : Int) < m)) : decide (a = b) = (decide ((n : Int) = m) && decide ([a.g.1, a.g.2] = [b.g.1, b.g.2]) && decide ([a.p.1, a.p.2] = [b.p.1, b.p.2])) := by
 rw [Bool.eq_iff_iff, Bool.and_eq_true, Bool.and_eq_true, decide_eq_true_eq, decide_eq_true_eq, decide_eq_true_eq, decide_eq_true_eq, pr_list, pr_list]
 constructor
 ·
  intro e; subst e; exact ⟨⟨by omega, rfl⟩, rfl⟩
 ·
  rintro ⟨⟨h1, h2⟩, h3⟩
  have hkn : k = n := by omega
  have hst : a.st = b.st := by
   rw [List.take_of_length_le (by omega), List.take_of_length_le (by omega)] at htk; exact htk
  cases a; cases b
  simp only at hst h2 h3
  rw [hst, h2, h3]
set_option maxRecDepth 100000 in
theorem C_ref3_SameBoard (a b : Brd) (A B : Option Addr) (n c m d : Nat) (w : World) (h : Rd w A 2 n (encP a.st)) (h' : Rd w B 2 m (encP b.st)) (hn : n ≤ 9223372036854775807) (hm : m ≤ 9223372036854775807) :
  C0 Tryz.prog 26 [a.val A n c, b.val B m d] w (.bool (decide (a = b))) := by
 have hla : a.st.length = n := by have := h.len; simpa [encP] using this
 have hlb : b.st.length = m := by have := h'.len; simpa [encP] using this
 refine ⟨en Tryz.func26 Tryz.ntmps26 (((St.init w).share (e := .ro A 2 n (encP a.st)) h rfl rfl rfl).share (e := .ro B 2 m (encP b.st)) h' rfl rfl rfl) (h := fun F => ?_)⟩
 refine sr ?_
 refine bxA (h := fun b0 => ?_)
 refine bxA (h := fun b1 => ?_)
 refine ww ?_
 refine nq ?_
 refine sq ?_
 refine sr ?_
 refine ww ?_
 refine WL.cut (by repeat (first | exact Cut.nil | apply Cut.hit | apply Cut.miss (by exact rfl))) ?_
 refine nq ?_
 refine bk ?_
 refine lp (X := Nat) (I := fun k => (k ≤ n ∧ k ≤ m) ∧ a.st.take k = b.st.take k) (le := fun k => [(2, .pointer (some ⟨b0, 0, none⟩)), (3, .pointer (some ⟨b1, 0, none⟩)), (5, .int .i64 k)]) (Le := fun _ => [.blk b0 78 (a.cells A n c), .blk b1 78 (b.cells B m d), .ro A 2 n (encP a.st), .ro B 2 m (encP b.st)]) (μ := fun k => n - k) 0 ⟨⟨Nat.zero_le _, Nat.zero_le _⟩, rfl⟩ sbz_ slz_ (fun k hk0 => ?_)
 obtain ⟨hk, htk⟩ := hk0
 refine sq ?_
 refine sr ?_
 iterate 6 refine ww ?_
 apply brAnd 6 11 17 (by exact rfl)
 ·
  intro hb0
  iterate 5 refine uw ?_
  refine ww ?_
  exact mg (by repeat (first | exact trivial | refine ⟨rfl, ?_⟩ | refine ⟨by rw [hb0]; rfl, ?_⟩)) slz_
 ·
  intro hb0
  repeat (first | refine uz ?_ | refine kz ?_ | refine wz ?_)
  exact mg (by repeat (first | exact trivial | refine ⟨rfl, ?_⟩ | refine ⟨by rw [hb0]; rfl, ?_⟩)) slz_
 refine nq ?_
 refine czz (fun h1 => ?_) fun h1 => ?_
 ·
  have hk2 : (k : Int) < n ∧ (k : Int) < m := by simpa using h1
  have hkn : k < n := by omega
  have hkm : k < m := by omega
  obtain ⟨p, hp⟩ : ∃ p, a.st[k]? = some p := ⟨_, List.getElem?_eq_getElem (by omega)⟩
  obtain ⟨q, hq⟩ : ∃ q, b.st[k]? = some q := ⟨_, List.getElem?_eq_getElem (by omega)⟩
  have hpe := encP_at hp
  have hqe := encP_at hq
  refine skp ?_
  refine q_seq ?_
  refine sq ?_
  refine bk ?_
  refine sq ?_
  refine rgD0 (by kernel_rfl) (h := ?_)
  refine tw 0 ?_
  refine tw 1 ?_
  refine tw 2 ?_
  refine tk 3 (hy := ix (A := A) (m := n)) (h := ?_)
  refine tk 4 (hy := ldEA (A := A) (hk := hpe)) (h := ?_)
  refine tw 5 ?_
  refine tw 6 ?_
  refine tw 7 ?_
  refine tk 8 (hy := ix (A := B) (m := m)) (h := ?_)
  refine tk 9 (hy := ldEA (A := B) (hk := hqe)) (h := ?_)
  refine tk 10 (hy := neqT) (h := ?_)
  refine dn (h := ?_)
  refine q_seq ?_
  refine czz (fun h2 => ?_) fun h2 => ?_
  ·
   have hne : ¬ a = b := fun e => by
    subst e
    rw [hp] at hq
    injection hq with hq
    subst hq
    simp at h2
   refine sr ?_
   refine ww ?_
   refine nq ?_
   refine rtn ?_
   refine q_blk_ret ?_
   iterate 2 refine q_then_ret ?_
   refine q_blk_ret ?_
   refine q_then_ret ?_
   refine q_ret (hR := ?_)
   first
    | exact fun w hS => ⟨by rw [decide_eq_false hne]; rfl, hS.sub slz_⟩
    | (rw [hfin]; exact fun w hS => ⟨rfl, hS.sub slz_⟩)
  ·
   have hpq : p = q := by
    have : [p.1, p.2] = [q.1, q.2] := by simpa using h2
    exact pr_list.1 this
   refine skp ?_
   refine q_blk_norm ?_
   refine q_seq ?_
   refine rg ?_
   iterate 3 refine ww ?_
   refine WL.cut (by repeat (first | exact Cut.nil | apply Cut.hit | apply Cut.miss (by exact rfl))) ?_
   refine nl ?_
   refine rn (x := k) (k + 1) ⟨⟨by omega, by omega⟩, by rw [List.take_add_one, List.take_add_one, hp, hq, htk, hpq]⟩ (by omega) sbz_ slz_
 ·
  have hk2 : ¬ ((k : Int) < n ∧ (k : Int) < m) := by simpa using h1
  have hfin : decide (a = b) = (decide ((n : Int) = m) && decide ([a.g.1, a.g.2] = [b.g.1, b.g.2]) && decide ([a.p.1, a.p.2] = [b.p.1, b.p.2])) := same_fin hla hlb hk htk hk2
  refine et ?_
  iterate 2 refine q_then_exit ?_
  refine q_blk_hit ?_
  refine q_seq ?_
  refine sr ?_
  iterate 8 refine ww ?_
  apply brAnd 6 38 44 (by exact rfl)
  ·
   intro hb3
   iterate 4 refine uw ?_
   refine uz ?_
   refine wy eqlT ?_
   refine ww ?_
   exact mg (by repeat (first | exact trivial | refine ⟨rfl, ?_⟩ | refine ⟨by rw [hb3]; rfl, ?_⟩)) slz_
  ·
   intro hb3
   repeat (first | refine uz ?_ | refine kz ?_ | refine wz ?_)
   exact mg (by repeat (first | exact trivial | refine ⟨rfl, ?_⟩ | refine ⟨by rw [hb3]; rfl, ?_⟩)) slz_
  refine ww ?_
  apply brAnd 6 45 51 (by exact rfl)
  ·
   intro hb4
   iterate 4 refine uw ?_
   refine uz ?_
   refine wy eqlT ?_
   refine ww ?_
   exact mg (by repeat (first | exact trivial | refine ⟨rfl, ?_⟩ | refine ⟨by rw [hb4]; rfl, ?_⟩)) slz_
  ·
   intro hb4
   repeat (first | refine uz ?_ | refine kz ?_ | refine wz ?_)
   exact mg (by repeat (first | exact trivial | refine ⟨rfl, ?_⟩ | refine ⟨by rw [hb4]; rfl, ?_⟩)) slz_
  refine ww ?_
  refine nq ?_
  refine rtn ?_
  refine q_ret (hR := ?_)
  first
   | exact fun w hS => ⟨by rw [decide_eq_false hne]; rfl, hS.sub slz_⟩
   | (rw [hfin]; exact fun w hS => ⟨rfl, hS.sub slz_⟩)
def exX : List Nt := [⟨1, 0, (0, 0)⟩, ⟨2, 0, (2, 4)⟩, ⟨3, 0, (3, 1)⟩, ⟨2, 0, (1, 1)⟩, ⟨4, 0, (1, 0)⟩]
theorem C_law3_Example (w : World) : CR Tryz.prog 32 [] w (fun _ : Nat => True) (fun b => .agg (cardC exF 0 (some ⟨b, 0, none⟩) 5 5).toArray) (fun b => [.own (some ⟨b, 0, none⟩) 5 75 4 5 (encN exX)]) := by
 refine ⟨en Tryz.func32 Tryz.ntmps32 (St.init w) (h := fun F => ?_)⟩
 refine sr ?_
 refine al (h := fun b0 => ?_)
 refine nr ?_
 refine cl (hc := fun w hS => C_law1_Example w) (h := fun x0 _ => ?_)
 iterate 3 refine ww ?_
 refine al (h := fun b1 => ?_)
 first | refine stA (h := ?_) | refine stEA (h := ?_)
 refine ww ?_
 refine nr ?_
 iterate 10 refine ww ?_
 refine bs (h := fun b2 => ?_)
 refine ww ?_
 first | refine stA (h := ?_) | refine stEA (h := ?_)
 refine nq ?_
 refine rtn ?_
 refine q_ret (hR := ?_)
 exact fun w hS => ⟨_, trivial, rfl, hS.sub slz_⟩
theorem ex_chk : chkC exF 0 exX = 0 := by kernel_rfl
theorem ex_bad : badC exF 0 exX = -1 := by kernel_rfl
theorem ex_most : mostS exX = 6 := by kernel_rfl
end Go.Proofs.YthkliiifllhacaaGreat

namespace Go.Proofs.YthkliiifllhacaaGreat
open Go Go.RowKit

theorem ex_all : allB exF 0 exX = -1 := by rw [allB, ex_chk, ex_bad]; rfl
end Go.Proofs.YthkliiifllhacaaGreat

namespace Go.Proofs.YthkliiifllhacaaGreat
open Go Go.RowKit

theorem chk_of {f : Fmt} {cf : Int} {xs : List Nt} (h1 : chkF f = 0) (h2 : -1 ≤ cf ∧ cf ≤ 1) (h3 : xs.length ≤ 30) (h4 : ∀ x ∈ xs, mkV x = true) (h5 : mostS xs ≤ 600) : chkC f cf xs = 0 := by
 have e1 : headB f cf xs.length = false := by
  unfold headB
  rw [decide_eq_true h1, show wi cf (-1) 1 = true from wi_iff.2 h2, decide_eq_false (by omega)]; rfl
 rw [chkC, e1, List.all_eq_true.2 h4, decide_eq_false (by omega)]; rfl
theorem misN_nn {x : Nt} (h : mkV x = true) : 0 ≤ misN x ∧ 0 ≤ mostN x := by
 have h1 := (exp_mis (xs := [x]) (by simpa using h)).2.2
 have h2 := most_bd h
 exact ⟨by simpa [misS] using h1, by omega⟩
theorem sub_sums {ys xs : List Nt} (hs : ys.Sublist xs) (h : ∀ x ∈ xs, mkV x = true) : misS ys ≤ misS xs ∧ mostS ys ≤ mostS xs := by
 induction hs with
 | slnil => exact ⟨Int.le_refl _, Int.le_refl _⟩
 | @cons l1 l2 a hs ih =>
  obtain ⟨h1, h2⟩ := ih fun x hx => h x (by simp [hx])
  obtain ⟨h3, h4⟩ := misN_nn (h a (by simp))
  have e2 : misS (a :: l2) = misN a + misS l2 := by unfold misS; rw [List.map_cons, List.sum_cons]
  have e3 : mostS (a :: l2) = mostN a + mostS l2 := by unfold mostS; rw [List.map_cons, List.sum_cons]
  omega
 | @cons_cons l1 l2 a hs ih =>
  obtain ⟨h1, h2⟩ := ih fun x hx => h x (by simp [hx])
  have e : ∀ l : List Nt, misS (a :: l) = misN a + misS l ∧ mostS (a :: l) = mostN a + mostS l := fun l => by unfold misS mostS; rw [List.map_cons, List.sum_cons, List.map_cons, List.sum_cons]; exact ⟨rfl, rfl⟩
  have e1 := e l1
  have e2 := e l2
  omega
theorem Rdy.sub {f : Fmt} {cf : Int} {ys xs : List Nt} (h : Rdy f cf xs) (hs : ys.Sublist xs) : Rdy f cf ys := by
 obtain ⟨h1, h2⟩ := sub_sums hs h.mks
 obtain ⟨c1, c2, c3, c4, c5, c6⟩ := chk_facts h.c
 have hn := h.n
 have hm := h.m
 have hi := h.mis
 have hl := hs.length_le
 exact rdy_of (chk_of c1 c3 (by omega) (fun x hx => c5 x (hs.subset hx)) (by omega)) (by omega) (by omega)
theorem Rdy.take {f : Fmt} {cf : Int} {xs : List Nt} (h : Rdy f cf xs) (k : Nat) : Rdy f cf (xs.take k) := h.sub (List.take_sublist _ _)
theorem bad_rng (f : Fmt) (cf : Int) (xs : List Nt) : -1 ≤ badC f cf xs ∧ badC f cf xs < xs.length := by
 unfold badC
 rcases fstC_spec (fun i => (crowdC f cf (xs.take (i + 1))).isEmpty) xs.length with ⟨h1, _⟩ | ⟨k, hk, h1, _⟩ <;> rw [h1] <;> omega
theorem Rdy.pos {f : Fmt} {cf : Int} {xs : List Nt} (h : Rdy f cf xs) : posE f cf xs = if badC f cf xs = -1 then 0 else 3 := by
 have hb := bad_rng f cf xs
 rw [posE, decide_eq_true h.c, cond_true]
 by_cases e : badC f cf xs = -1
 ·
  rw [if_pos e, e]; rfl
 ·
  rw [if_neg e, decide_eq_true (show 0 ≤ badC f cf xs by omega)]; rfl
theorem Rdy.all {f : Fmt} {cf : Int} {xs : List Nt} (h : Rdy f cf xs) : allB f cf xs = badC f cf xs := by rw [allB, decide_eq_true h.c]; rfl

section rules
variable {F : Fence} {P : Program} {ops : Array Oper} {Q : Exit → Act → World → Prop} {rest : List Oper} {n : Nat} {D : List Deferred} {l : Env} {w0 : World} {L M : List Ent}
variable {d : Nat} {ty : TypeId} {pos : String} {aft : Array Edge}
end rules
structure Lsr (f : Fmt) (cf : Int) (xs : List Nt) (cf' : Int) (xs' : List Nt) : Prop where
 len : xs'.length = xs.length
 sub : ∀ s, s ∈ keyC (crowdC f cf xs) → s ∈ keyC (crowdC f cf' xs')
theorem Rdy.bad_key {f : Fmt} {cf : Int} {xs : List Nt} (h : Rdy f cf xs) : badC f cf xs = -1 ↔ ∃ s, s ∈ keyC (crowdC f cf xs) := by
 rw [bad_none h.cf]
 cases hc : crowdC f cf xs with
 | nil => exact ⟨fun e => absurd rfl e, fun ⟨s, hs⟩ => by cases hs⟩
 | cons e l => exact ⟨fun _ => ⟨e.1, by simp [keyC]⟩, fun _ => by simp⟩
theorem Lsr.pos {f : Fmt} {cf cf' : Int} {xs xs' : List Nt} (h : Lsr f cf xs cf' xs') (hR : Rdy f cf xs) (hR' : Rdy f cf' xs') (h0 : posE f cf xs = 0) : posE f cf' xs' = 0 := by
 rw [hR.pos] at h0
 by_cases e : badC f cf xs = -1
 ·
  obtain ⟨s, hs⟩ := hR.bad_key.1 e
  rw [hR'.pos, if_pos (hR'.bad_key.2 ⟨s, h.sub s hs⟩)]
 ·
  rw [if_neg e] at h0; cases h0
theorem BdOk.some_ {f : Fmt} {cf : Int} {xs : List Nt} {o : Option BDR} (h : BdOk f cf xs o) (h0 : posE f cf xs = 0) : ∃ q, o = some q := by
 cases o with
 | none => exact absurd h0 h
 | some q => exact ⟨q, rfl⟩
theorem BdOk.mem {f : Fmt} {cf : Int} {xs : List Nt} {q : BDR} (h : BdOk f cf xs (some q)) (b : Brd) : b ∈ q.zs.map (·.b) ↔ ∃ s ∈ keyC (crowdC f cf xs), brdOf s = b := by
 rw [h.2.1]; exact (boards_facts _).2 b
end Go.Proofs.YthkliiifllhacaaGreat

namespace Go.Proofs.YthkliiifllhacaaGreat
open Go Go.RowKit

structure CW where
 (b : Nat) (ns : List Nd) (es : Array MapEntry) (c : Nat)
section
variable {w0 w : World} {M : List Ent}
end
section rules
variable {F : Fence} {P : Program} {Q : Exit → Act → World → Prop} {n : Nat} {D : List Deferred} {l : Env} {w0 : World} {L M : List Ent}
end rules
section rules2
variable {F : Fence} {P : Program} {ops : Array Oper} {Q : Exit → Act → World → Prop} {rest : List Oper} {n : Nat} {D : List Deferred} {l : Env} {w0 : World} {L M : List Ent}
end rules2
abbrev CW.v (q : CW) : List Value := [.map (some q.b)]
end Go.Proofs.YthkliiifllhacaaGreat

namespace Go.Proofs.YthkliiifllhacaaGreat
open Go Go.RowKit

theorem putNs_key {ns : List Nd} {x : Nd} {s : Spot} : s ∈ spotKs (putNs ns x) ↔ s ∈ spotKs ns ∨ s = x.s := by
 unfold putNs
 cases hg : getN ns x.s with
 | some o =>
  obtain ⟨h1, h2⟩ := getN_some hg
  refine ⟨.inl, fun h => h.elim id fun e => ?_⟩
  subst e
  exact List.mem_map.2 ⟨o, h1, h2⟩
 | none =>
  unfold spotKs
  rw [List.map_append, List.mem_append]
  simp
structure FwI (f : Fmt) (cf : Int) (xs : List Nt) (j : Nat) (N : List Nd) (mn : Nat → Pr) (ms : List CW) : Prop where
 len : ms.length = j + 1
 ok : PoolOk f N mn (15 * (mostS (xs.take j) + (j : Int)))
 cr : ∀ k q, ms[k]? = some q → CrIs N q.ns q.es q.c ∧ ∀ s, s ∈ spotKs q.ns ↔ Lft f cf xs j k s
theorem FwI.start {f : Fmt} {cf : Int} {xs : List Nt} {q : PR} (h : BgI f cf 2 q.N q.mn q.ns q.es q.c) : FwI f cf xs 0 q.N q.mn [⟨q.b, q.ns, q.es, q.c⟩] := by
 refine ⟨rfl, h.ok.up (by exact Int.le_refl _), fun k p hk => ?_⟩
 cases k with
 | succ k => simp at hk
 | zero =>
  obtain rfl : (⟨q.b, q.ns, q.es, q.c⟩ : CW) = p := by simpa using hk
  refine ⟨h.cr, fun s => ?_⟩
  have e := h.eqC
  rw [begTo_two] at e
  rw [← toC_keys q.mn q.ns, e]
  exact ⟨fun hs => ⟨rfl, hs⟩, fun hs => hs.2⟩
structure FnI (f : Fmt) (cf : Int) (xs : List Nt) (j : Nat) (m : Int) (N0 : List Nd) (k : Nat) (N : List Nd) (mn : Nat → Pr) (nx : List CW) : Prop where
 len : nx.length = k
 ok : PoolOk f N mn (15 * (mostS (xs.take j) + (j : Int)) + (k : Int) * m)
 sub : ∀ y ∈ N0, y ∈ N
 cr : ∀ i q, nx[i]? = some q → CrIs N q.ns q.es q.c ∧ ∀ s, s ∈ spotKs q.ns ↔ Lft f cf xs (j + 1) i s
theorem FwI.first {f : Fmt} {cf : Int} {xs : List Nt} {j : Nat} {N : List Nd} {mn : Nat → Pr} {ms : List CW} (h : FwI f cf xs j N mn ms) (m : Int) : FnI f cf xs j m N 0 N mn [] :=
 ⟨rfl, h.ok.up (by rw [show ((0 : Nat) : Int) * m = 0 from Int.zero_mul m]; omega), fun _ h => h, fun i q hq => by simp at hq⟩
structure FmI (f : Fmt) (cf : Int) (xs : List Nt) (j : Nat) (x : Nt) (m : Int) (N0 : List Nd) (k : Nat) (nx : List CW) (N : List Nd) (mn : Nat → Pr) (q : CW) : Prop where
 ok : PoolOk f N mn (15 * (mostS (xs.take j) + (j : Int)) + ((k + 1 : Nat) : Int) * m)
 sub : ∀ y ∈ N0, y ∈ N
 old : ∀ i p, nx[i]? = some p → CrIs N p.ns p.es p.c ∧ ∀ s, s ∈ spotKs p.ns ↔ Lft f cf xs (j + 1) i s
 cr : CrIs N q.ns q.es q.c
 keys : ∀ s, s ∈ spotKs q.ns ↔ ∃ t, Lft f cf xs j k t ∧ Rel f x t s
theorem FnI.read {f : Fmt} {cf : Int} {xs : List Nt} {j : Nat} {x : Nt} {m : Int} {N0 : List Nd} {k : Nat} {N : List Nd} {mn : Nat → Pr} {nx ms : List CW} {p : CW} {mn0 : Nat → Pr} (h : FnI f cf xs j m N0 k N mn nx) (hm : m = mostN x + 1) (h0 : FwI f cf xs j N0 mn0 ms) (hp : ms[k]? = some p) {q : PR} (hr : RdOk f N mn p.ns x (15 * (mostS (xs.take j) + (j : Int)) + (k : Int) * m) q) : FmI f cf xs j x m N0 k nx q.N q.mn ⟨q.b, q.ns, q.es, q.c⟩ := by
 refine ⟨hr.ok.up ?_, fun y hy => hr.sub y (h.sub y hy), fun i p hp => ⟨(h.cr i p hp).1.up hr.sub, (h.cr i p hp).2⟩, hr.cr, fun s => ?_⟩
 ·
  rw [show ((k + 1 : Nat) : Int) * m = (k : Int) * m + m by rw [Int.natCast_succ, Int.add_mul, Int.one_mul]]; omega
 ·
  have h1 : s ∈ spotKs q.ns ↔ s ∈ keyC (afterC f (toC mn p.ns) x) := by
   rw [← toC_keys q.mn q.ns]; exact (hr.eqC.map _).mem_iff
  rw [h1, after_mem]
  refine ⟨fun ⟨t, ht, hx⟩ => ⟨t, ?_, hx⟩, fun ⟨t, ht, hx⟩ => ⟨t, ?_, hx⟩⟩
  ·
   rw [toC_keys] at ht; exact ((h0.cr k p hp).2 t).1 ht
  ·
   rw [toC_keys]; exact ((h0.cr k p hp).2 t).2 ht
theorem FnI.none {f : Fmt} {cf : Int} {xs : List Nt} {j : Nat} {x : Nt} {m : Int} {N0 : List Nd} {k : Nat} {N : List Nd} {mn : Nat → Pr} {nx : List CW} (h : FnI f cf xs j m N0 k N mn nx) (hm : 0 ≤ m) (hk : j < k) (b : Nat) : FmI f cf xs j x m N0 k nx N mn ⟨b, [], #[], 0⟩ := by
 refine ⟨h.ok.up ?_, h.sub, h.cr, CrIs.nil N, fun s => ⟨fun hs => (by cases hs), fun ⟨t, ht, _⟩ => ?_⟩⟩
 ·
  rw [show ((k + 1 : Nat) : Int) * m = (k : Int) * m + m by rw [Int.natCast_succ, Int.add_mul, Int.one_mul]]; omega
 ·
  have := lft_le ht; omega
structure FpI (f : Fmt) (K : Int) (N1 : List Nd) (q : CW) (N : List Nd) (mn : Nat → Pr) (ns : List Nd) (es : Array MapEntry) (c : Nat) (dn : List Nd) : Prop where
 ok : PoolOk f N mn K
 sub : ∀ y ∈ N1, y ∈ N
 cr : CrIs N ns es c
 keys : ∀ s, s ∈ spotKs ns ↔ s ∈ spotKs q.ns ∨ s ∈ spotKs dn
theorem FpI.put {f : Fmt} {K : Int} {N1 : List Nd} {q : CW} {N : List Nd} {mn : Nat → Pr} {ns : List Nd} {es : Array MapEntry} {c : Nat} {dn : List Nd} (h : FpI f K N1 q N mn ns es c dn) {x : Nd} {b : Nat} (hcp : PoolOk f (⟨b, x.s, x.bf, x.sd⟩ :: N) (upN mn b (mn x.b)) K) {es2 : Array MapEntry} {c2 : Nat} (hm : MapIs es2 (crE (putNs ns ⟨b, x.s, x.bf, x.sd⟩)) ∧ Stm es2 c2) : FpI f K N1 q (⟨b, x.s, x.bf, x.sd⟩ :: N) (putM ns (upN mn b (mn x.b)) ⟨b, x.s, x.bf, x.sd⟩) (putNs ns ⟨b, x.s, x.bf, x.sd⟩) es2 c2 (dn ++ [x]) := by
 have hup : CrIs (⟨b, x.s, x.bf, x.sd⟩ :: N) ns es c := h.cr.up fun y hy => List.mem_cons_of_mem _ hy
 refine ⟨putM_ok hcp hup.sub List.mem_cons_self, fun y hy => List.mem_cons_of_mem _ (h.sub y hy), hup.put List.mem_cons_self hm, fun s => ?_⟩
 rw [putNs_key, h.keys s]
 unfold spotKs
 rw [List.map_append, List.mem_append]
 simp only [List.map_cons, List.map_nil, List.mem_singleton, or_assoc]
theorem FnI.next {f : Fmt} {cf : Int} {xs : List Nt} {j : Nat} {x : Nt} {m : Int} {N0 : List Nd} {k : Nat} {nx : List CW} {N N1 : List Nd} {mn mn1 : Nat → Pr} {q q' : CW} (hl : nx.length = k) (hx : xs[j]? = some x) (h : FmI f cf xs j x m N0 k nx N1 mn1 q) (ok : PoolOk f N mn (15 * (mostS (xs.take j) + (j : Int)) + ((k + 1 : Nat) : Int) * m)) (sub : ∀ y ∈ N1, y ∈ N) (cr : CrIs N q'.ns q'.es q'.c) (keys : ∀ s, s ∈ spotKs q'.ns ↔ s ∈ spotKs q.ns ∨ ∃ k', k = k' + 1 ∧ Lft f cf xs j k' s) : FnI f cf xs j m N0 (k + 1) N mn (nx ++ [q']) := by
 refine ⟨by rw [List.length_append, hl]; rfl, ok, fun y hy => sub y (h.sub y hy), fun i p hp => ?_⟩
 by_cases e : i < k
 ·
  rw [List.getElem?_append_left (by omega)] at hp
  exact ⟨(h.old i p hp).1.up sub, (h.old i p hp).2⟩
 ·
  rw [List.getElem?_append_right (by omega)] at hp
  obtain ⟨rfl, hk⟩ : q' = p ∧ i = k := by
   cases hd : i - nx.length with
   | zero => rw [hd] at hp; exact ⟨by simpa using hp, by omega⟩
   | succ d => rw [hd] at hp; simp at hp
  subst hk
  refine ⟨cr, fun s => ?_⟩
  rw [keys s, h.keys s]
  constructor
  ·
   rintro (⟨t, ht, hr⟩ | ⟨k', e, hs⟩)
   ·
    exact .inl ⟨x, t, hx, ht, hr⟩
   ·
    exact .inr ⟨k', e, hs⟩
  ·
   rintro (⟨y, t, hy, ht, hr⟩ | ⟨k', e, hs⟩)
   ·
    rw [hx] at hy; cases hy
    exact .inl ⟨t, ht, hr⟩
   ·
    exact .inr ⟨k', e, hs⟩
theorem FnI.done {f : Fmt} {cf : Int} {xs : List Nt} {j : Nat} {x : Nt} {m : Int} {N0 N : List Nd} {mn : Nat → Pr} {nx : List CW} {k : Nat} (h : FnI f cf xs j m N0 k N mn nx) (hk : k = j + 2) (hx : xs[j]? = some x) (hm : m = mostN x + 1) (hm0 : 0 ≤ m) (hj : j ≤ 12) : FwI f cf xs (j + 1) N mn nx := by
 subst hk
 refine ⟨h.len, h.ok.up ?_, h.cr⟩
 rw [mostS_succ hx]
 have : ((j + 2 : Nat) : Int) * m ≤ 15 * m := Int.mul_le_mul_of_nonneg_right (by omega) hm0
 have e : 15 * (mostS (xs.take j) + mostN x + ((j + 1 : Nat) : Int)) = 15 * (mostS (xs.take j) + (j : Int)) + 15 * m := by rw [hm]; omega
 omega
end Go.Proofs.YthkliiifllhacaaGreat

namespace Go.Proofs.YthkliiifllhacaaGreat
open Go Go.RowKit

theorem Rdy.sm {f : Fmt} {cf : Int} {xs : List Nt} (h : Rdy f cf xs) : chkC f cf xs = 0 → xs.length ≤ 12 ∧ mostS xs ≤ 20 := fun _ => ⟨h.n, h.m⟩
section rules
variable {F : Fence} {P : Program} {n : Nat} {D : List Deferred} {l : Env} {w0 : World} {L : List Ent}
end rules
end Go.Proofs.YthkliiifllhacaaGreat
