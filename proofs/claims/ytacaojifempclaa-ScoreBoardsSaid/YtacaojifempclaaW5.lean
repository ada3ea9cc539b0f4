/- Rules for append, parts of slices, calls, and the forms of code, in a walk over symbolic slots and a symbolic heap; plain laws, no program is named here. -/
import Derived.Test.YtacaojifempclaaW4
namespace Go.Proofs.Ytacaojifempclaa
open Go Go.RowKit

theorem flatten_at {es : List (List Value)} {size : Nat} (hpos : 0 < size) (hs : ∀ c ∈ es, c.length = size) : ∀ {j : Nat} {v : Value}, es.flatten[j]? = some v → ∃ cs, es[j / size]? = some cs ∧ cs[j % size]? = some v := by
  induction es with
  | nil => intro j v h; simp at h
  | cons c es ih =>
    intro j v h
    have hc := hs c (by simp)
    simp only [List.flatten_cons] at h
    by_cases hj : j < size
    · rw [List.getElem?_append_left (by omega)] at h
      exact ⟨c, by rw [Nat.div_eq_of_lt hj]; rfl, by rw [Nat.mod_eq_of_lt hj]; exact h⟩
    · rw [List.getElem?_append_right (by omega), hc] at h
      obtain ⟨cs, h1, h2⟩ := ih (fun c' h' => hs c' (by simp [h'])) h
      refine ⟨cs, ?_, ?_⟩
      · rw [show j / size = (j - size) / size + 1 by rw [Nat.div_eq_sub_div hpos (by omega)]]
        simpa using h1
      · rw [Nat.mod_eq_sub_mod (by omega)]; exact h2

theorem Rd.flat {w : World} {ad : Addr} {size n : Nat} {es : List (List Value)} (h : Rd w (some ad) size n es) (hpos : 0 < size) {j : Nat} {v : Value} (hj : es.flatten[j]? = some v) : w.cell? (ad.add j) = some v := by
  obtain ⟨cs, h1, h2⟩ := flatten_at hpos h.each hj
  have := h.cell ad rfl _ cs h1 _ v h2
  rwa [Nat.mul_comm, Nat.div_add_mod] at this

section
variable {P : Program}

theorem run_append_none (w : World) (t ty e : TypeId) {agg : Bool} {size bytes : Nat} {z : Value} {zl : List Value} (ht : P.underlying t = some (.slice e)) (hE : Ty P e agg size bytes z zl)
    {A : Option Addr} {cap n : Nat} {xs : List Value} (hown : w.ownsRow 0 e size (.slice A n cap) n xs) (c : Nat) : (Builtin.append_ #[t, t] ty #[.slice A n cap, .slice none 0 c]).run P w = .ok (.slice A n cap) w := by
  rcases hown.2 with ⟨hv, h0⟩ | ⟨g, cap', cur, hv, _, _, hnc, _⟩
  · injection hv with h1 h2 h3; subst h1 h2 h3
    simp [Builtin.append_, run_underlying ht, run_sizeOf hE, Builtin.lenOf, Builtin.firstCells]
  · injection hv with h1 h2 h3; subst h1 h3
    simp [Builtin.append_, run_underlying ht, run_sizeOf hE, Builtin.lenOf, Builtin.firstCells, hnc, storeCells]

theorem run_append {w0 w : World} {M : List Ent} (t ty e : TypeId) {agg : Bool} {size bytes : Nat} {z : Value} {zl : List Value} (ht : P.underlying t = some (.slice e)) (hE : Ty P e agg size bytes z zl)
    {A A2 : Option Addr} {cap m k c : Nat} {es es2 : List (List Value)} (hst : St w0 w (.own A cap e size m es :: M)) (hr : Rd w A2 size k es2) (hpos : 0 < size) (hb : m + k ≤ 100000000) (hby : bytes ≤ 1000000) :
    ∃ A' c' w', (Builtin.append_ #[t, t] ty #[.slice A m cap, .slice A2 k c]).run P w = .ok (.slice A' (m + k) c') w' ∧ St w0 w' (.own A' c' e size (m + k) (es ++ es2) :: M) := by
  obtain ⟨hown, hrd⟩ := hst.ok (.own A cap e size m es) (by simp)
  cases A2 with
  | none =>
    have hk : k = 0 := by
      rcases Nat.eq_zero_or_pos k with h | h
      · exact h
      · obtain ⟨ad, h⟩ := hr.some_ h; cases h
    subst hk
    have he2 : es2 = [] := List.eq_nil_of_length_eq_zero hr.len
    subst he2
    exact ⟨A, cap, w, run_append_none w t ty e ht hE hown c, by simpa using hst⟩
  | some ad =>
    obtain ⟨i, hi, h1, h2, h3⟩ := ty_info hE
    have hzs : z.cells.size = size := by rw [hE.zc]; simpa using hE.zs
    have hbytes : (m + k) * bytes ≤ 140737488355328 := Nat.le_trans (Nat.mul_le_mul hb hby) (by decide)
    obtain ⟨v', w', hrun, hown', hgrow, _, hat⟩ := run_append_own_at (P := P) w 0 t ty e i z size bytes ht hi h3 h1 h2 hzs hpos (.slice A m cap) m es.flatten hown ad k c es2.flatten
      (by rw [flatten_len hr.each, hr.len]) (fun j u hj => hr.flat hpos hj) (fun u hu => by
        obtain ⟨c', hc', hu'⟩ := List.mem_flatten.1 hu
        exact hr.one c' hc' u hu') (by simp only [maxLen]; omega) hbytes (Nat.zero_le _)
    have hform : ∃ A' c', v' = .slice A' (m + k) c' := by
      rcases hown'.2 with ⟨hv, h0⟩ | ⟨g, cap', cur, hv, _⟩
      · exact ⟨none, 0, by rw [hv, h0]⟩
      · exact ⟨_, _, hv⟩
    obtain ⟨A', c', rfl⟩ := hform
    rw [← List.flatten_append] at hown'
    refine ⟨A', c', w', hrun, hst.turn rfl (fun q hq hnf => hgrow.block q hq fun he => hnf ?_) hgrow.os hgrow.tape hgrow.output hgrow.size ⟨hown', rd_own hown' (by simp [hrd.len, hr.len]) (fun c hc => ?_) (fun c hc => ?_)⟩ (fun q hq => ?_)⟩
    · cases A with
      | none => simp [Value.ownBlock] at he
      | some a => simp [Value.ownBlock] at he; exact ⟨a, rfl, he.symm⟩
    · rcases List.mem_append.1 hc with hc | hc
      · exact hrd.each c hc
      · exact hr.each c hc
    · rcases List.mem_append.1 hc with hc | hc
      · exact hrd.one c hc
      · exact hr.one c hc
    · obtain ⟨a', rfl, rfl⟩ := hq
      rcases hat with he | he
      · left
        cases A with
        | none => simp [Value.ownBlock] at he
        | some a => simp [Value.ownBlock] at he; exact ⟨a, rfl, he.symm⟩
      · right; simp [Value.ownBlock] at he; omega

class FnOk (P : Program) (f : FuncId) : Prop where
  ok : (P.funcs[f]?).map (fun fn => (fn.name == "runtime.NumGoroutine", fn.body.isNone)) = some (false, false)

theorem run_callFunc {f : FuncId} (h : FnOk P f) (args : Array Value) (w : World) : (callFunc f args).run P w = .ok (.enter f args) w := by
  have hk := h.ok
  cases hq : P.funcs[f]? with
  | none => simp [hq] at hk
  | some fn =>
    simp only [hq, Option.map_some, Option.some.injEq, Prod.mk.injEq] at hk
    unfold callFunc
    simp only [Sem.run_bind, run_program, Result.andThen_ok, hq, hk.1, hk.2, Bool.false_eq_true, if_false]
    rfl

theorem FreeF.calls {F : Fence} (hF : FreeF F) {f : FuncId} {args : Array Value} {w : World} {R : Ending → World → Prop} (h : Calls P f args w R) : CallsIn F 0 P f args w R := by
  refine ⟨hF.fn f, fun cs _ => ?_⟩
  obtain ⟨e, w', fr, r, s, x⟩ := h cs
  have hall : ∀ m : Machine, m.fenced P F := fun m g _ => ⟨fun h => (by rw [hF.alive] at h; cases h), Or.inl (hF.fn _), fun f _ => hF.fn f, fun d hd => (by rw [hF.depth] at hd; cases hd)⟩
  refine ⟨e, w', fr, r, ?_, x⟩
  cases e with
  | returned v => exact (StepsIn.of_steps s).mono fun m _ => hall m
  | panicked c => exact (StepsIn.of_steps s).mono fun m _ => hall m
  | outgrown => exact s
end

/-- A call returns val x for some x of which φ holds; all that stood is as it was, and post x has come. -/
structure CR (P : Program) (f : FuncId) (vs : List Value) (w : World) {X : Type} (φ : X → Prop) (val : X → Value) (post : X → List Ent) : Prop where
  out : Calls P f vs.toArray w fun e w' => ∃ x, φ x ∧ e = .returned (val x) ∧ St w w' (post x)

/-- A call returns v; all that stood is as it was. -/
structure C0 (P : Program) (f : FuncId) (vs : List Value) (w : World) (v : Value) : Prop where
  out : Calls P f vs.toArray w fun e w' => e = .returned v ∧ St w w' []

/-- A call that may turn its own entries: Lpre is what it asks, post what it leaves. -/
structure Tr (P : Program) (f : FuncId) (vs : List Value) (Lpre : List Ent) {X : Type} (φ : X → Prop) (val : X → Value) (post : X → List Ent) : Prop where
  out : ∀ (w0 w : World) (R : List Ent), St w0 w (Lpre ++ R) → Calls P f vs.toArray w fun e w' => ∃ x, φ x ∧ e = .returned (val x) ∧ St w0 w' (post x ++ R)

/-- Spl L Lpre R: L is Lpre and R, in some order. -/
inductive Spl : List Ent → List Ent → List Ent → Prop
  | nil {L : List Ent} : Spl L [] L
  | cons {L M Lp R : List Ent} {e : Ent} (h : At L e M) (hs : Spl M Lp R) : Spl L (e :: Lp) R

theorem Spl.sub {L Lp R : List Ent} (h : Spl L Lp R) : SubL (Lp ++ R) L := by
  induction h with
  | nil => exact SubL.refl _
  | cons h _ ih => exact .cons h ih

section rules
variable {F : Fence} {P : Program} {ops : Array Oper} {Q : Exit → Act → World → Prop} {rest : List Oper} {n : Nat} {D : List Deferred} {l : Env} {w0 : World} {L M : List Ent}
variable {d : Nat} {ty : TypeId} {pos : String} {aft : Array Edge}

theorem ap {s x : Operand} {t T : TypeId} (hT : SliceTy P t T := by infer_instance) {agg : Bool} {size bytes : Nat} {z : Value} {zl : List Value} (hE : Ty P T agg size bytes z zl := by infer_instance) {A A2 : Option Addr} {c c2 m k : Nat} {es es2 : List (List Value)}
    (hs : ev l s = some (.slice A m c) := by exact rfl) (hx : ev l x = some (.slice A2 k c2) := by exact rfl)
    (ha : At L (.own A c T size m es) M := by repeat (first | exact At.here | apply At.there)) (hr : Rds M A2 size k es2 := by repeat (first | exact Rds.ro | exact Rds.own | apply Rds.there))
    (hb : m + k ≤ 100000000 := by omega) (hpos : 0 < size := by omega) (hby : bytes ≤ 1000000 := by omega) (hd : Nat.blt d n = true := by rfl)
    (h : ∀ A' c', WL F P ops Q rest n D ((d, .slice A' (m + k) c') :: l) w0 (.own A' c' T size (m + k) (es ++ es2) :: M)) :
    WL F P ops Q (⟨some d, .call { callee := .builtin .append, args := #[s, x], argTypes := #[t, t] }, ty, pos, aft, none⟩ :: rest) n D l w0 L :=
  WL.value (X := Option Addr × Nat) (φ := fun _ => True) (val := fun p => .slice p.1 (m + k) p.2) (L' := fun p => .own p.1 p.2 T size (m + k) (es ++ es2) :: M) (by simp) hd (fun ac w hfr hst => by
    have hp := hst.pull ha
    obtain ⟨A', c', w', hrun, hst'⟩ := run_append (P := P) t ty T hT.und hE (c := c2) hp (hp.tail.get hr) hpos hb hby
    refine ⟨(A', c'), w', trivial, ?_, hst'⟩
    simp [execOp, resolve, invoke, builtin, hfr.eval hs, hfr.eval hx, hrun]) (fun p _ => h p.1 p.2)

/-- 'append(nil, x...)': a new row. -/
theorem ap0 {s x : Operand} {t T : TypeId} (hT : SliceTy P t T := by infer_instance) {agg : Bool} {size bytes : Nat} {z : Value} {zl : List Value} (hE : Ty P T agg size bytes z zl := by infer_instance) {A2 : Option Addr} {c2 k : Nat} {es2 : List (List Value)}
    (hs : ev l s = some (.slice none 0 0) := by exact rfl) (hx : ev l x = some (.slice A2 k c2) := by exact rfl) (hr : Rds L A2 size k es2 := by repeat (first | exact Rds.ro | exact Rds.own | apply Rds.there))
    (hb : k ≤ 100000000 := by omega) (hpos : 0 < size := by omega) (hby : bytes ≤ 1000000 := by omega) (hd : Nat.blt d n = true := by rfl)
    (h : ∀ A' c', WL F P ops Q rest n D ((d, .slice A' (0 + k) c') :: l) w0 (.own A' c' T size (0 + k) ([] ++ es2) :: L)) :
    WL F P ops Q (⟨some d, .call { callee := .builtin .append, args := #[s, x], argTypes := #[t, t] }, ty, pos, aft, none⟩ :: rest) n D l w0 L :=
  WL.value (X := Option Addr × Nat) (φ := fun _ => True) (val := fun p => .slice p.1 (0 + k) p.2) (L' := fun p => .own p.1 p.2 T size (0 + k) ([] ++ es2) :: L) (by simp) hd (fun ac w hfr hst => by
    have hp : St w0 w (.own none 0 T size 0 [] :: L) := by
      refine St.add (M := [_]) hst (Below.refl _ _) (fun e he => ?_) (fun e he b hb' => ?_) (List.pairwise_singleton _ _)
      · simp only [List.mem_singleton] at he; subst he; exact ⟨World.ownsRow_nil w 0 T size, Rd.nil w none size⟩
      · simp only [List.mem_singleton] at he; subst he; obtain ⟨ad, had, _⟩ := hb'; cases had
    obtain ⟨A', c', w', hrun, hst'⟩ := run_append (P := P) t ty T hT.und hE (c := c2) hp (hst.get hr) hpos (by omega) hby
    refine ⟨(A', c'), w', trivial, ?_, hst'⟩
    simp [execOp, resolve, invoke, builtin, hfr.eval hs, hfr.eval hx, hrun]) (fun p _ => h p.1 p.2)

/-- A nil slice is a row of one's own. -/
theorem WL.nilOwn (T : TypeId) (size : Nat) (h : WL F P ops Q rest n D l w0 (.own none 0 T size 0 [] :: L)) : WL F P ops Q rest n D l w0 L := fun hF a w hfr hst => h hF a w hfr (by
  refine St.add (M := [_]) hst (Below.refl _ _) (fun e he => ?_) (fun e he b hb' => ?_) (List.pairwise_singleton _ _)
  · simp only [List.mem_singleton] at he; subst he; exact ⟨World.ownsRow_nil w 0 T size, Rd.nil w none size⟩
  · simp only [List.mem_singleton] at he; subst he; obtain ⟨ad, had, _⟩ := hb'; cases had)

theorem St.toRo {w0 w : World} {M : List Ent} {A : Option Addr} {cap : Nat} {T : TypeId} {size m : Nat} {es : List (List Value)} (h : St w0 w (.own A cap T size m es :: M)) : St w0 w (.ro A size m es :: M) := by
  refine ⟨h.below, fun x hx => ?_, fun x hx hxf => ?_, List.pairwise_cons.2 ⟨fun x hx hor b hb hb' => ?_, (List.pairwise_cons.1 h.sep).2⟩⟩
  · rcases List.mem_cons.1 hx with rfl | hx
    · exact (h.ok (.own A cap T size m es) (by simp)).2
    · exact h.ok x (by simp [hx])
  · rcases List.mem_cons.1 hx with rfl | hx
    · cases hxf
    · exact h.new x (by simp [hx]) hxf
  · obtain ⟨ad, h1, h2, _⟩ := hb
    exact (List.pairwise_cons.1 h.sep).1 x hx (.inl rfl) b ⟨ad, h1, h2⟩ hb'

theorem WL.toRo {A : Option Addr} {cap : Nat} {T : TypeId} {size m : Nat} {es : List (List Value)} (ha : At L (.own A cap T size m es) M) (h : WL F P ops Q rest n D l w0 (.ro A size m es :: M)) : WL F P ops Q rest n D l w0 L :=
  fun hF a w hfr hst => h hF a w hfr (hst.pull ha).toRo

theorem St.dupRo {w0 w : World} {M : List Ent} {A : Option Addr} {size m : Nat} {es : List (List Value)} (h : St w0 w (.ro A size m es :: M)) {A' : Option Addr} {m' : Nat} {es' : List (List Value)} (hr : Rd w A' size m' es')
    (hA : ∀ ad', A' = some ad' → 0 < m' → ∃ ad, A = some ad ∧ ad.block = ad'.block ∧ 0 < m) : St w0 w (.ro A' size m' es' :: .ro A size m es :: M) := by
  have hsep := List.pairwise_cons.1 h.sep
  refine ⟨h.below, fun x hx => ?_, fun x hx hxf => ?_, List.pairwise_cons.2 ⟨fun x hx hor b hb hb' => ?_, h.sep⟩⟩
  · rcases List.mem_cons.1 hx with rfl | hx
    · exact hr
    · exact h.ok x hx
  · rcases List.mem_cons.1 hx with rfl | hx
    · cases hxf
    · exact h.new x hx hxf
  · obtain ⟨ad', h1, h2, h3, h4⟩ := hb
    obtain ⟨ad, h5, h6, h7⟩ := hA ad' h1 h3
    rcases List.mem_cons.1 hx with rfl | hx
    · simp [Ent.excl] at hor
    · exact hsep.1 x hx (by simpa [Ent.excl] using hor) b ⟨ad, h5, by omega, h7, h4⟩ hb'

/-- Part of a slice that is only read. -/
theorem Rd.part {w : World} {A : Option Addr} {size m : Nat} {es : List (List Value)} (h : Rd w A size m es) (cap lo hi : Nat) (hlo : lo ≤ hi) (hhi : hi ≤ m) (hcap : m ≤ cap) :
    Rd w (if cap = lo then A else A.map (·.add (lo * size))) size (hi - lo) ((es.drop lo).take (hi - lo)) := by
  have hl := h.len
  refine ⟨by simp; omega, fun c hc => h.each c (List.mem_of_mem_drop (List.mem_of_mem_take hc)), fun hn => ?_, fun ad hA k cs hk j v hj => ?_, fun c hc => h.one c (List.mem_of_mem_drop (List.mem_of_mem_take hc))⟩
  · obtain ⟨ad, rfl⟩ := h.some_ (by omega)
    rw [if_neg (by omega)]; exact ⟨_, rfl⟩
  · have hkl : k < hi - lo := by
      have := (List.getElem?_eq_some_iff.1 hk).1
      simp at this; omega
    rw [if_neg (by omega)] at hA
    cases A with
    | none => cases hA
    | some a =>
      simp at hA; subst hA
      rw [List.getElem?_take, if_pos hkl, List.getElem?_drop] at hk
      have := h.cell a rfl (lo + k) cs hk j v hj
      rw [add_add', ← Nat.add_assoc, ← Nat.add_mul]
      exact this

theorem sliceBound_ok {P : Program} {k : IntKind} {i : Int} {y : Nat} {code : BoundsCode} (h : 0 ≤ i ∧ i ≤ y) (w : World) : (Instr.sliceBound (.int k i) y code).run P w = .ok i.toNat w := by
  simp [Instr.sliceBound, asIntOf, h]

theorem run_slice {t T : TypeId} (hT : SliceTy P t T) {agg : Bool} {size bytes : Nat} {z : Value} {zl : List Value} (hE : Ty P T agg size bytes z zl) {A : Option Addr} {m cap : Nat} {lo hi : Option Value} {lo' hi' : Nat} {w : World}
    (hh : hi = none ∧ hi' = m ∨ ∃ k i, hi = some (.int k i) ∧ 0 ≤ i ∧ i ≤ cap ∧ hi' = i.toNat) (hl : lo = none ∧ lo' = 0 ∨ ∃ k i, lo = some (.int k i) ∧ 0 ≤ i ∧ i ≤ hi' ∧ lo' = i.toNat) :
    (Instr.sliceAt t (.slice A m cap) lo hi none).run P w = .ok (.slice (if cap = lo' then A else A.map (·.add (lo' * size))) (hi' - lo') (cap - lo')) w := by
  rcases hh with ⟨rfl, rfl⟩ | ⟨kh, ih, rfl, h1, h2, rfl⟩ <;> rcases hl with ⟨rfl, rfl⟩ | ⟨kl, il, rfl, h3, h4, rfl⟩
  · simp [Instr.sliceAt, run_underlying hT.und, Instr.slice, Instr.sliceBounds, run_sizeOf hE]
  · simp [Instr.sliceAt, run_underlying hT.und, Instr.slice, Instr.sliceBounds, run_sizeOf hE, sliceBound_ok (P := P) ⟨h3, h4⟩]
  · simp [Instr.sliceAt, run_underlying hT.und, Instr.slice, Instr.sliceBounds, run_sizeOf hE, sliceBound_ok (P := P) ⟨h1, h2⟩]
  · simp [Instr.sliceAt, run_underlying hT.und, Instr.slice, Instr.sliceBounds, run_sizeOf hE, sliceBound_ok (P := P) ⟨h1, h2⟩, sliceBound_ok (P := P) ⟨h3, h4⟩]

theorem WL.slice {x : Operand} {t T : TypeId} (hT : SliceTy P t T) {agg : Bool} {size bytes : Nat} {z : Value} {zl : List Value} (hE : Ty P T agg size bytes z zl) {A : Option Addr} {m cap : Nat} {es : List (List Value)} {lo hi : Option Operand} {lo' hi' : Nat}
    (hx : ev l x = some (.slice A m cap)) (ha : At L (.ro A size m es) M) (hcap : m ≤ cap) (hle : hi' ≤ m)
    (hh : hi = none ∧ hi' = m ∨ ∃ o k i, hi = some o ∧ ev l o = some (.int k i) ∧ 0 ≤ i ∧ i ≤ m ∧ hi' = i.toNat) (hl : lo = none ∧ lo' = 0 ∨ ∃ o k i, lo = some o ∧ ev l o = some (.int k i) ∧ 0 ≤ i ∧ i ≤ hi' ∧ lo' = i.toNat) (hd : Nat.blt d n = true)
    (h : ∀ A' c', hi' - lo' ≤ c' → WL F P ops Q rest n D ((d, .slice A' (hi' - lo') c') :: l) w0 (.ro A' size (hi' - lo') ((es.drop lo').take (hi' - lo')) :: .ro A size m es :: M)) :
    WL F P ops Q (⟨some d, .slice t x lo hi none, ty, pos, aft, none⟩ :: rest) n D l w0 L := by
  have hlo : lo' ≤ hi' := by
    rcases hl with ⟨_, rfl⟩ | ⟨o, k, i, _, _, h1, h2, rfl⟩ <;> omega
  refine WL.value (X := Unit) (φ := fun _ => True) (val := fun _ => .slice (if cap = lo' then A else A.map (·.add (lo' * size))) (hi' - lo') (cap - lo'))
    (L' := fun _ => .ro (if cap = lo' then A else A.map (·.add (lo' * size))) size (hi' - lo') ((es.drop lo').take (hi' - lo')) :: .ro A size m es :: M) (by simp) hd (fun ac w hfr hst => ?_) (fun _ _ => h _ _ (by omega))
  have hp := hst.pull ha
  have hr := hp.ok (.ro A size m es) (by simp)
  refine ⟨(), w, trivial, ?_, hp.dupRo (hr.part cap lo' hi' hlo hle hcap) fun ad' hA' hm' => ?_⟩
  · have hrun := run_slice (P := P) hT hE (A := A) (m := m) (cap := cap) (lo := lo.map ac.eval) (hi := hi.map ac.eval) (lo' := lo') (hi' := hi') (w := w)
      (by rcases hh with ⟨rfl, h1⟩ | ⟨o, k, i, rfl, h1, h2, h3, h4⟩
          · exact .inl ⟨rfl, h1⟩
          · exact .inr ⟨k, i, by simp [hfr.eval h1], h2, by omega, h4⟩)
      (by rcases hl with ⟨rfl, h1⟩ | ⟨o, k, i, rfl, h1, h2, h3, h4⟩
          · exact .inl ⟨rfl, h1⟩
          · exact .inr ⟨k, i, by simp [hfr.eval h1], h2, h3, h4⟩)
    simp [execOp, hfr.eval hx, hrun]
  · obtain ⟨ad, rfl⟩ := Rd.some_ hr (by omega)
    split at hA'
    · injection hA' with hA'; subst hA'; exact ⟨ad, rfl, rfl, by omega⟩
    · simp at hA'; subst hA'; exact ⟨ad, rfl, (block_add ad _).symm, by omega⟩

/-! #### calls -/
theorem WL.enter {op : Op} {f : FuncId} {args : List Value} (hnd : ∀ c, op ≠ .defer c) (hd : Nat.blt d n = true)
    (hrun : ∀ a w, Fr a n D l → St w0 w L → (execOp a.eval ⟨some d, op, ty, pos, aft, none⟩).run P w = .ok (.enter f args.toArray) w ∧ Calls P f args.toArray w fun e w' => ∃ v, e = .returned v ∧ ∃ L', St w0 w' L' ∧ WL F P ops Q rest n D ((d, v) :: l) w0 L') :
    WL F P ops Q (⟨some d, op, ty, pos, aft, none⟩ :: rest) n D l w0 L := by
  intro hF a w hfr hst
  obtain ⟨hr, hc⟩ := hrun a w hfr hst
  show (if _ then _ else _)
  rw [if_pos (by simp [Region.wanted])]
  refine ⟨fun f _ => hF.fn f, ?_⟩
  rw [semAt_plain hnd, hr]
  refine ⟨fun hds => (by rw [hF.depth] at hds; cases hds), ?_⟩
  refine (hF.calls hc).mono fun e w' he => ?_
  obtain ⟨v, rfl, L', hst', hk⟩ := he
  exact hk hF _ w' (hfr.put hd v) hst'


theorem run_call {f : FuncId} (hf : FnOk P f) {xs : List Operand} {vs : List Value} (hargs : Evs l xs vs) {ts : Array TypeId} {a : Act} (hfr : Fr a n D l) (w : World) :
    (execOp a.eval ⟨some d, .call { callee := .value (.func f), args := xs.toArray, argTypes := ts }, ty, pos, aft, none⟩).run P w = .ok (.enter f vs.toArray) w := by
  have he := hfr.evals hargs
  simp [execOp, resolve, Deferred.ofValue, Act.eval, invoke, he, run_callFunc hf]

/-- A call of a function by its name. -/
theorem cl0 {f : FuncId} (hf : FnOk P f := by infer_instance) {xs : List Operand} {vs : List Value} {ts : Array TypeId} {v : Value} (hargs : Evs l xs vs := by repeat (first | exact Evs.nil | (apply Evs.cons; exact rfl))) (hd : Nat.blt d n = true := by rfl)
    (hc : ∀ w, St w0 w L → C0 P f vs w v) (h : WL F P ops Q rest n D ((d, v) :: l) w0 L) : WL F P ops Q (⟨some d, .call { callee := .value (.func f), args := xs.toArray, argTypes := ts }, ty, pos, aft, none⟩ :: rest) n D l w0 L :=
  WL.enter (by simp) hd fun a w hfr hst => ⟨run_call hf hargs hfr w, Calls.mono (hc w hst).out fun e w' ⟨he, hs⟩ => ⟨v, he, L, by simpa using hst.join hs rfl, h⟩⟩

theorem cl {f : FuncId} (hf : FnOk P f := by infer_instance) {xs : List Operand} {vs : List Value} {ts : Array TypeId} {X : Type} {φ : X → Prop} {val : X → Value} {post : X → List Ent} (hargs : Evs l xs vs := by repeat (first | exact Evs.nil | (apply Evs.cons; exact rfl))) (hd : Nat.blt d n = true := by rfl)
    (hfresh : ∀ x, (post x).all Ent.fresh = true := by intro _; rfl) (hc : ∀ w, St w0 w L → CR P f vs w φ val post) (h : ∀ x, φ x → WL F P ops Q rest n D ((d, val x) :: l) w0 (post x ++ L)) :
    WL F P ops Q (⟨some d, .call { callee := .value (.func f), args := xs.toArray, argTypes := ts }, ty, pos, aft, none⟩ :: rest) n D l w0 L :=
  WL.enter (by simp) hd fun a w hfr hst => ⟨run_call hf hargs hfr w, Calls.mono (hc w hst).out fun e w' ⟨x, hx, he, hs⟩ => ⟨val x, he, _, hst.join hs (hfresh x), h x hx⟩⟩

theorem clT {f : FuncId} (hf : FnOk P f := by infer_instance) {xs : List Operand} {vs : List Value} {ts : Array TypeId} {X : Type} {φ : X → Prop} {val : X → Value} {Lp R : List Ent} {post : X → List Ent} (hc : Tr P f vs Lp φ val post) (hargs : Evs l xs vs := by repeat (first | exact Evs.nil | (apply Evs.cons; exact rfl))) (hd : Nat.blt d n = true := by rfl)
    (hs : Spl L Lp R := by repeat (first | exact Spl.nil | (apply Spl.cons; (repeat (first | exact At.here | apply At.there))))) (h : ∀ x, φ x → WL F P ops Q rest n D ((d, val x) :: l) w0 (post x ++ R)) :
    WL F P ops Q (⟨some d, .call { callee := .value (.func f), args := xs.toArray, argTypes := ts }, ty, pos, aft, none⟩ :: rest) n D l w0 L :=
  WL.enter (by simp) hd fun a w hfr hst => ⟨run_call hf hargs hfr w, Calls.mono (hc.out w0 w R (hst.sub hs.sub)) fun e w' ⟨x, hx, he, hs⟩ => ⟨val x, he, _, hs, h x hx⟩⟩

theorem run_callF {f : FuncId} (hf : FnOk P f) {x : Operand} {fi cap : List Value} (hx : ev l x = some (.func (.func f) fi.toArray cap.toArray)) {xs : List Operand} {vs : List Value} (hargs : Evs l xs vs) {ts : Array TypeId} {a : Act} (hfr : Fr a n D l) (w : World) :
    (execOp a.eval ⟨some d, .call { callee := .value x, args := xs.toArray, argTypes := ts }, ty, pos, aft, none⟩).run P w = .ok (.enter f (fi ++ vs ++ cap).toArray) w := by
  have he := hfr.evals hargs
  simp [execOp, resolve, Deferred.ofValue, hfr.eval hx, invoke, he, run_callFunc hf]

/-- A call of a closure's value. -/
theorem clfT {f : FuncId} (hf : FnOk P f) {x : Operand} {fi cap : List Value} {xs : List Operand} {vs : List Value} {ts : Array TypeId} {X : Type} {φ : X → Prop} {val : X → Value} {Lp R : List Ent} {post : X → List Ent}
    (hx : ev l x = some (.func (.func f) fi.toArray cap.toArray)) (hargs : Evs l xs vs) (hc : Tr P f (fi ++ vs ++ cap) Lp φ val post) (hd : Nat.blt d n = true)
    (hs : Spl L Lp R) (h : ∀ x, φ x → WL F P ops Q rest n D ((d, val x) :: l) w0 (post x ++ R)) :
    WL F P ops Q (⟨some d, .call { callee := .value x, args := xs.toArray, argTypes := ts }, ty, pos, aft, none⟩ :: rest) n D l w0 L :=
  WL.enter (by simp) hd fun a w hfr hst => ⟨run_callF hf hx hargs hfr w, Calls.mono (hc.out w0 w R (hst.sub hs.sub)) fun e w' ⟨x, hx, he, hs⟩ => ⟨val x, he, _, hs, h x hx⟩⟩

/-! #### guarded operations -/
def gsl (ops : Array Oper) (j : Nat) : Option Nat := (ops[j]?).bind (·.dst)

theorem yielded_eq {a : Act} (hfr : Fr a n D l) {j g : Nat} {v : Value} (hg : gsl ops j = some g) (hv : look l g = some v) : yielded ops a.tmps j = (match v with | .bool b => some b | _ => none) := by
  unfold yielded
  unfold gsl at hg
  rw [hg]
  simp only [Option.bind_some, hfr.slot g v hv]
  cases v <;> rfl

/-- The guard says yes. -/
theorem un {dst : Option Nat} {op : Op} {j g : Nat} {b : Bool} (hg : gsl ops j = some g := by exact rfl) (hv : look l g = some (.bool b) := by exact rfl)
    (h : WL F P ops Q (⟨dst, op, ty, pos, aft, none⟩ :: rest) n D l w0 L) : WL F P ops Q (⟨dst, op, ty, pos, aft, some (j, b)⟩ :: rest) n D l w0 L := by
  intro hF a w hfr hst
  have hk := h hF a w hfr hst
  have hy := yielded_eq (ops := ops) hfr hg hv
  change (if _ then _ else _) at hk
  rw [if_pos (by simp [Region.wanted])] at hk
  show (if _ then _ else _)
  rw [if_pos (by simp [Region.wanted, hy])]
  exact hk

def noB (b : Bool) : Value → Bool
  | .bool c => c != b
  | _ => true

/-- The guard says no. -/
theorem sk {op : Op} {j g : Nat} {b : Bool} {v : Value} (hg : gsl ops j = some g := by exact rfl) (hv : look l g = some v := by exact rfl) (hn : noB b v = true := by exact rfl) (hd : Nat.blt d n = true := by rfl)
    (h : WL F P ops Q rest n D ((d, undef) :: l) w0 L) : WL F P ops Q (⟨some d, op, ty, pos, aft, some (j, b)⟩ :: rest) n D l w0 L := by
  intro hF a w hfr hst
  have hy := yielded_eq (ops := ops) hfr hg hv
  show (if _ then _ else _)
  rw [if_neg]
  · exact ⟨fun f _ => hF.fn f, h hF _ w (hfr.put hd undef) hst⟩
  · simp only [Region.wanted, hy]
    cases v <;> simp [noB] at hn ⊢
    exact hn

/-- A meeting of two ways within a region. -/
def Mg (n : Nat) (D : List Deferred) (l : Env) (w0 : World) (L : List Ent) : Exit → Act → World → Prop
  | .normal, a, w => Fr a n D l ∧ St w0 w L
  | _, _, _ => False

theorem uponIn_mono {F : Fence} {o : Oper} {a : Act} {next next' : Act → World → Prop} {Q Q' : Exit → Act → World → Prop} {r : Result Next} (h : o.uponIn F 0 P a next Q r) (hn : ∀ a w, next a w → next' a w) (hQ : ∀ c a w, Q (.panic c) a w → Q' (.panic c) a w) (hL : LetsOut Q → LetsOut Q') :
    o.uponIn F 0 P a next' Q' r := by
  cases r with
  | ok nx w =>
    cases nx <;> first
      | exact hn _ _ h
      | exact h
      | (refine ⟨h.1, h.2.mono fun e w' he => ?_⟩; cases e <;> first | exact hn _ _ he | exact hQ _ _ _ he | exact hL he)
      | exact ⟨h.1, h.2.mono fun v w' he => hn _ _ he⟩
  | halt x w => cases x <;> first | exact hQ _ _ _ h | exact h

theorem wpListIn_app {F : Fence} (ys : List Oper) {Q' : Exit → Act → World → Prop} (hN : ∀ a w, Q' .normal a w → wpListIn F 0 P ops Q ys a w) (hP : ∀ c a w, ¬ Q' (.panic c) a w) (hO : ¬ LetsOut Q') : ∀ (xs : List Oper) (a : Act) (w : World), wpListIn F 0 P ops Q' xs a w → wpListIn F 0 P ops Q (xs ++ ys) a w
  | [], a, w, h => hN a w h
  | o :: xs, a, w, h => by
    change (if _ then _ else _) at h
    show (if _ then _ else _)
    split
    · rename_i hw
      rw [if_pos hw] at h
      exact ⟨h.1, uponIn_mono h.2 (fun a w hk => wpListIn_app ys hN hP hO xs a w hk) (fun c a w hk => absurd hk (hP c a w)) (fun hk => absurd hk hO)⟩
    · rename_i hw
      rw [if_neg hw] at h
      exact ⟨h.1, wpListIn_app ys hN hP hO xs _ w h.2⟩

/-- The next k operations come, on either side of the guard's answer b, to one state. -/
theorem br (k : Nat) (g : Nat) {b : Bool} {os : List Oper} (l' : Bool → Env) (L' : Bool → List Ent) (hv : look l g = some (.bool b))
    (ht : b = true → WL F P ops (Mg n D (l' true) w0 (L' true)) (os.take k) n D ((g, .bool true) :: l) w0 L) (hf : b = false → WL F P ops (Mg n D (l' false) w0 (L' false)) (os.take k) n D ((g, .bool false) :: l) w0 L)
    (h : WL F P ops Q (os.drop k) n D (l' b) w0 (L' b)) : WL F P ops Q os n D l w0 L := by
  intro hF a w hfr hst
  have hput : ∀ c, b = c → Fr a n D ((g, .bool c) :: l) := fun c hc => ⟨hfr.size, fun k v hk => by
    rw [look_cons] at hk
    by_cases e : g = k
    · subst e; simp at hk; subst hk; exact hfr.slot g _ (by rw [hv, hc])
    · rw [if_neg e] at hk; exact hfr.slot k v hk, hfr.defers⟩
  rw [← List.take_append_drop k os]
  refine wpListIn_app (Q' := Mg n D (l' b) w0 (L' b)) (os.drop k) (fun a w hm => h hF a w hm.1 hm.2) (fun c a w hm => hm) (fun ⟨a, w, hm⟩ => hm) (os.take k) a w ?_
  cases hb : b with
  | true => exact ht hb hF a w (hput true hb) hst
  | false => exact hf hb hF a w (hput false hb) hst

/-- The usual form: the heap as it was, one slot more. -/
theorem br1 (k g d : Nat) (v : Bool → Value) {b : Bool} {os : List Oper} (hv : look l g = some (.bool b) := by exact rfl)
    (ht : b = true → WL F P ops (Mg n D ((d, v true) :: l) w0 L) (os.take k) n D ((g, .bool true) :: l) w0 L) (hf : b = false → WL F P ops (Mg n D ((d, v false) :: l) w0 L) (os.take k) n D ((g, .bool false) :: l) w0 L)
    (h : WL F P ops Q (os.drop k) n D ((d, v b) :: l) w0 L) : WL F P ops Q os n D l w0 L :=
  br k g (fun b => (d, v b) :: l) (fun _ => L) hv ht hf h

theorem brAnd (k g d : Nat) {b q : Bool} {os : List Oper} (hv : look l g = some (.bool b))
    (ht : b = true → WL F P ops (Mg n D ((d, .bool q) :: l) w0 L) (os.take k) n D ((g, .bool true) :: l) w0 L) (hf : b = false → WL F P ops (Mg n D ((d, .bool false) :: l) w0 L) (os.take k) n D ((g, .bool false) :: l) w0 L)
    (h : WL F P ops Q (os.drop k) n D ((d, .bool (b && q)) :: l) w0 L) : WL F P ops Q os n D l w0 L :=
  br k g (fun b => (d, .bool (b && q)) :: l) (fun _ => L) hv ht hf h

theorem brOr (k g d : Nat) {b q : Bool} {os : List Oper} (hv : look l g = some (.bool b))
    (hf : b = false → WL F P ops (Mg n D ((d, .bool q) :: l) w0 L) (os.take k) n D ((g, .bool false) :: l) w0 L) (ht : b = true → WL F P ops (Mg n D ((d, .bool true) :: l) w0 L) (os.take k) n D ((g, .bool true) :: l) w0 L)
    (h : WL F P ops Q (os.drop k) n D ((d, .bool (b || q)) :: l) w0 L) : WL F P ops Q os n D l w0 L :=
  br k g (fun b => (d, .bool (b || q)) :: l) (fun _ => L) hv ht hf h

theorem mg {l' : Env} {L' : List Ent} (hs : Sub l' l) (hl : SubL L' L) : WL F P ops (Mg n D l' w0 L') [] n D l w0 L := fun _ _ _ hfr hst => ⟨hfr.sub hs, hst.sub hl⟩

end rules
end Go.Proofs.Ytacaojifempclaa
