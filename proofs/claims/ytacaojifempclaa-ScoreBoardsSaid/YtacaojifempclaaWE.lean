/- More rules: a place in a slice that is not nil, a store of a whole element. Plain laws, no program is named here. -/
import Derived.Test.YtacaojifempclaaWD
namespace Go.Proofs.Ytacaojifempclaa
open Go Go.RowKit

section rules
variable {F : Fence} {P : Program} {ops : Array Oper} {Q : Exit → Act → World → Prop} {rest : List Oper} {n : Nat} {D : List Deferred} {l : Env} {w0 : World} {L M : List Ent}
variable {d : Nat} {ty : TypeId} {pos : String} {aft : Array Edge}

/-- A row of one's own that is not empty is not nil. -/
theorem WC.some_ {c : Code} {A : Option Addr} {cap : Nat} {T : TypeId} {size k : Nat} {es : List (List Value)} (ha : At L (.own A cap T size k es) M) (hk : 0 < k) (h : A.isSome = true → WC F P c Q n D l w0 L) : WC F P c Q n D l w0 L :=
  WC.know (fun w hst => by
    obtain ⟨ad, rfl⟩ := (hst.ok _ ha.mem).2.some_ hk
    rfl) h

theorem ixS {x i : Operand} {t e : TypeId} (hT : SliceTy P t e := by infer_instance) {agg : Bool} {size bytes : Nat} {z : Value} {zl : List Value} (hE : Ty P e agg size bytes z zl := by infer_instance) {A : Option Addr} {m c : Nat} {k : IntKind} {j : Int}
    (hx : ev l x = some (.slice A m c) := by exact rfl) (hi : ev l i = some (.int k j) := by exact rfl)
    (hs : A.isSome = true := by assumption) (hb : 0 ≤ j ∧ j < m := by omega) : Yd P n D l w0 L (.indexAddr t x i) (pe A size j.toNat 0) :=
  ⟨by simp, by simp, fun oo ho ac w hfr hst => by
    obtain ⟨ad, rfl⟩ := Option.isSome_iff_exists.1 hs
    simp [execOp, ho, hfr.eval hx, hfr.eval hi, Instr.indexAt, asIntOf, run_underlying hT.und, hb, run_sizeOf hE, pe]⟩

theorem run_storeRow {A : Option Addr} {cap : Nat} {T : TypeId} {size m k : Nat} : ∀ (vs : List Value) (i : Nat) (w : World) (es : List (List Value)) (cs : List Value), St w0 w (.own A cap T size m es :: M) → es[k]? = some cs → i + vs.length ≤ size → (∀ v ∈ vs, v.oneCell' = true) →
    ∃ w', (∀ ad, A = some ad → (storeCells (ad.add (k * size)) vs i).run P w = .ok () w') ∧ St w0 w' (.own A cap T size m (es.set k (putAll cs i vs)) :: M)
  | [], i, w, es, cs, h, hk, _, _ => ⟨w, fun ad _ => by simp [storeCells], by
      rw [putAll]
      have : es.set k cs = es := by
        refine List.ext_getElem? fun j => ?_
        rw [List.getElem?_set]
        split
        · next e => subst e; rw [hk]; simp [(List.getElem?_eq_some_iff.1 hk).1]
        · rfl
      rw [this]; exact h⟩
  | v :: vs, i, w, es, cs, h, hk, hl, h1 => by
    have hl' : i + (vs.length + 1) ≤ size := by simpa using hl
    obtain ⟨ad, hA, ⟨u, hu⟩, hf, hs⟩ := own_set h hk (j := i) (v := v) (by omega) (h1 v (by simp))
    have hk' : (es.set k (cs.set i v))[k]? = some (cs.set i v) := List.getElem?_set_self (List.getElem?_eq_some_iff.1 hk).1
    obtain ⟨w', hr, hs'⟩ := run_storeRow vs (i + 1) _ _ _ hs hk' (by omega) (fun u hu => h1 u (by simp [hu]))
    rw [List.set_set] at hs'
    refine ⟨w', fun ad' hA' => ?_, hs'⟩
    rw [hA] at hA'; injection hA' with hA'; subst hA'
    unfold storeCells
    rw [Sem.run_bind, add_add', run_store P w _ v _ (h1 v (by simp)), hu]
    simp only [hf, Bool.false_eq_true, if_false, Result.andThen_ok]
    exact hr ad hA
theorem putAll_whole {α : Type} : ∀ (vs cs : List α), cs.length = vs.length → putAll cs 0 vs = vs
  | [], cs, h => by simpa [putAll] using List.eq_nil_of_length_eq_zero h
  | v :: vs, c :: cs, h => by
    simp only [putAll, List.set_cons_zero]
    rw [putAll_cons, putAll_whole vs cs (by simpa using h)]

/-- A store of a whole element. -/
theorem stEW {x y : Operand} {t T : TypeId} {bytes sz cap m k : Nat} {z : Value} {zl : List Value} {A : Option Addr} {es : List (List Value)} {vs : List Value} (hx : ev l x = some (pe A sz k 0) := by exact rfl) (hy : ev l y = some (.agg vs.toArray) := by exact rfl)
    (hT : Ty P t true sz bytes z zl := by infer_instance) (h1 : vs.all (·.oneCell') = true := by rfl) (hsz : vs.length = sz := by rfl)
    (ha : At L (.own A cap T sz m es) M := by repeat (first | exact At.here | apply At.there)) (hk : k < m := by omega)
    (h : WL F P ops Q rest n D l w0 (.own A cap T sz m (es.set k vs) :: M)) : WL F P ops Q (⟨none, .store t x y, ty, pos, aft, none⟩ :: rest) n D l w0 L :=
  WL.skipop (by simp) (fun ac w hfr hst => by
    have hst1 := hst.pull ha
    have hrd := (hst1.ok _ List.mem_cons_self).2
    have hlen : es.length = m := hrd.len
    have hke : es[k]? = some (es[k]'(by omega)) := List.getElem?_eq_getElem _
    have hcl := hrd.each _ (List.mem_of_getElem? hke)
    obtain ⟨ad, rfl⟩ := hrd.some_ (by omega)
    obtain ⟨w', hr, hs⟩ := run_storeRow (P := P) vs 0 w es _ hst1 hke (by omega) (by simpa using h1)
    rw [putAll_whole _ _ (by omega)] at hs
    refine ⟨w', ?_, hs⟩
    have he := hfr.eval hx
    have hr' := hr ad rfl
    simp [execOp, he, pe, hfr.eval hy, Instr.storeAt, Instr.sureAddr, storeVar, run_sizeOf hT, Value.cells, hsz, hr']) h

/-! #### array literals -/
class BuildArr (P : Program) (t : TypeId) (size : outParam Nat) (zl : outParam (List Value)) : Prop where
  eq : ∀ parts, P.built t parts = Instr.fill (fun i => some (i * size, size)) zl.toArray parts
inductive BldA (l : Env) (size : Nat) : List (Nat × Operand) → List Value → List Value → Prop
  | nil {cs : List Value} : BldA l size [] cs cs
  | one {i : Nat} {x : Operand} {v : Value} {parts : List (Nat × Operand)} {cs cs' r : List Value} (hs : size = 1) (hx : ev l x = some v) (h1 : v.oneCell' = true) (hput : PutR cs (i * size) [v] cs') (h : BldA l size parts cs' r) : BldA l size ((i, x) :: parts) cs r
  | agg {i : Nat} {x : Operand} {vs : List Value} {parts : List (Nat × Operand)} {cs cs' r : List Value} (h0 : 0 < size) (hx : ev l x = some (.agg vs.toArray)) (hl : vs.length = size) (hput : PutR cs (i * size) vs cs') (h : BldA l size parts cs' r) : BldA l size ((i, x) :: parts) cs r
theorem BldA.out {a : Act} {n : Nat} {D : List Deferred} {l : Env} (hfr : Fr a n D l) {size : Nat} {parts : List (Nat × Operand)} {cs r : List Value} (h : BldA l size parts cs r) :
    Instr.fill (fun i => some (i * size, size)) cs.toArray (parts.map fun p => (p.1, a.eval p.2)) = some r.toArray := by
  induction h with
  | nil => simp [Instr.fill]
  | one hs hx h1 hput _ ih =>
    subst hs
    simp only [List.map_cons]
    rw [fill_step _ _ [_] _ _ 1 _ _ rfl (by rw [hfr.eval hx]; exact cells_one h1) rfl (by simpa using hput.out.2 (by simp)), ← hput.out.1]
    exact ih
  | @agg i x vs parts cs cs' r h0 hx hl hput _ ih =>
    simp only [List.map_cons]
    have hv : vs ≠ [] := by rintro rfl; simp at hl; omega
    rw [fill_step _ _ vs _ _ size _ _ rfl (by rw [hfr.eval hx]; rfl) hl (by have := hput.out.2 hv; omega), ← hput.out.1]
    exact ih
theorem bdA {t : TypeId} {size : Nat} {zl : List Value} (hT : BuildArr P t size zl := by infer_instance) {parts : List (Nat × Operand)} {r : List Value}
    (hb : BldA l size parts zl r := by repeat (first | exact BldA.nil | (apply BldA.one; exact rfl; exact rfl; exact rfl; (repeat (first | exact PutR.nil | apply PutR.put | apply PutR.skip))) | (apply BldA.agg; exact Nat.succ_pos _; exact rfl; exact rfl; (repeat (first | exact PutR.nil | apply PutR.put | apply PutR.skip))))) : Yd P n D l w0 L (.build t parts.toArray) (.agg r.toArray) :=
  ⟨by simp, by simp, fun oo ho ac w hfr _ => by
    have hbuilt := hb.out hfr
    rw [← hT.eq] at hbuilt
    have hrun := run_build (P := P) w t (parts.toArray.map fun p => (p.1, ac.eval p.2)) r.toArray (by simpa using hbuilt)
    simp only [List.map_toArray] at hrun
    simp [execOp, ho, hrun]⟩

/-- A store at a place that is known only as a number. -/
theorem stI {x y : Operand} {t : TypeId} {size bytes : Nat} {z : Value} {zl : List Value} (hT : Ty P t false size bytes z zl := by infer_instance) {b o : Nat} {T : TypeId} {cs : List Value} {v : Value}
    (hx : ev l x = some (.pointer (some ⟨b, o, none⟩)) := by exact rfl) (hy : ev l y = some v := by exact rfl) (h1 : v.oneCell' = true := by rfl) (hsz : size = 1 := by rfl)
    (ha : At L (.blk b T cs) M := by repeat (first | exact At.here | apply At.there)) (ho : o < cs.length)
    (h : WL F P ops Q rest n D l w0 (.blk b T (cs.set o v) :: M)) : WL F P ops Q (⟨none, .store t x y, ty, pos, aft, none⟩ :: rest) n D l w0 L :=
  WL.skipop (by simp) (fun ac w hfr hst => by
    have hc : v.cells = #[v] := by cases v <;> simp [Value.oneCell'] at h1 <;> rfl
    obtain ⟨w', hr, hs⟩ := run_storeCells (P := P) [v] cs o 0 w (hst.pull ha) (fun _ => by simp; omega) (by simpa using h1)
    refine ⟨w', ?_, by simpa [putAll] using hs⟩
    simp [execOp, hfr.eval hx, hfr.eval hy, Instr.storeAt, Instr.sureAddr, storeVar, run_sizeOf hT, hc, hsz, hr]) h

/-- What was read before still is. -/
theorem St.old {w : World} (h : St w0 w L) {A : Option Addr} {size m : Nat} {es : List (List Value)} (hr : Rd w0 A size m es) : St w0 w (.ro A size m es :: L) := by
  have hlt : ∀ b, (Ent.ro A size m es).fp b → b < w0.heap.size := fun b hb => Ent.ok_lt (e := .ro A size m es) hr hb
  refine ⟨h.below, fun x hx => ?_, fun x hx hf b hb => ?_, List.pairwise_cons.2 ⟨fun x hx hor b hb hb' => ?_, h.sep⟩⟩
  · rcases List.mem_cons.1 hx with rfl | hx
    · exact Ent.ok_frame (e := .ro A size m es) hr fun b hb => h.below.block b (hlt b hb)
    · exact h.ok x hx
  · rcases List.mem_cons.1 hx with rfl | hx
    · cases hf
    · exact h.new x hx hf b hb
  · rcases hor with hor | hor
    · cases hor
    · have h1 := h.new x hx (Ent.fresh_of_excl hor) b hb'
      have h2 := hlt b hb
      omega
theorem WC.old {c : Code} {A : Option Addr} {size m : Nat} {es : List (List Value)} (hr : Rd w0 A size m es) (h : WC F P c Q n D l w0 (.ro A size m es :: L)) : WC F P c Q n D l w0 L := fun hF a w hfr hst => h hF a w hfr (hst.old hr)
theorem WL.old {A : Option Addr} {size m : Nat} {es : List (List Value)} (hr : Rd w0 A size m es) (h : WL F P ops Q rest n D l w0 (.ro A size m es :: L)) : WL F P ops Q rest n D l w0 L := fun hF a w hfr hst => h hF a w hfr (hst.old hr)

/-- Several operations may come. -/
def Fan (F : Fence) (P : Program) (ops : Array Oper) (Q : Exit → Act → World → Prop) (held : List (Nat × Ent)) (fuel : Nat) (listed : Array Bool) (n : Nat) (D : List Deferred) (l : Env) (w0 : World) (L : List Ent) : List Nat → Prop
  | [] => True
  | i :: is => (∃ o, ops[i]? = some o ∧ WL F P ops (NX F P ops Q held fuel (listed.setIfInBounds i true)) [o] n D l w0 L) ∧ Fan F P ops Q held fuel listed n D l w0 L is
theorem Fan.at {held : List (Nat × Ent)} {fuel : Nat} {listed : Array Bool} : ∀ {is : List Nat}, Fan F P ops Q held fuel listed n D l w0 L is → ∀ i ∈ is, ∃ o, ops[i]? = some o ∧ WL F P ops (NX F P ops Q held fuel (listed.setIfInBounds i true)) [o] n D l w0 L
  | i :: is, h, j, hj => by
    rcases List.mem_cons.1 hj with rfl | hj
    · exact h.1
    · exact Fan.at h.2 j hj
theorem fan {held : List (Nat × Ent)} {fuel : Nat} {listed : Array Bool} (is : List Nat) (hr : Region.ready .any ops listed = is := by kernel_rfl) (hne : is.isEmpty = false := by rfl) (h : Fan F P ops Q held fuel listed n D l w0 L is) : WH F P ops Q held (fuel + 1) listed n D l w0 L := by
  intro hF a w hfr hst _
  refine ⟨fun h0 => ?_, fun k hk => ?_⟩
  · rw [hr] at h0; subst h0; cases hne
  · rw [hr] at hk
    obtain ⟨o, ho, hw⟩ := h.at k hk
    exact wpOp_of_list ho (fun a w hk => hk) (fun c a w hk => hk) (fun ⟨a, w, hk⟩ => hk) (hw hF a w hfr hst)

/-! #### many rows that are read, one entry -/
structure Row where
  (A : Option Addr) (size n : Nat) (es : List (List Value))
def manyE (fresh : Bool) (rs : List Row) : Ent := .gen fresh false (fun b => ∃ r ∈ rs, (Ent.ro r.A r.size r.n r.es).fp b) (fun w => ∀ r ∈ rs, Rd w r.A r.size r.n r.es)
  (fun w w' hb hok r hr => Ent.ok_frame (e := .ro r.A r.size r.n r.es) (hok r hr) fun b hf => hb b ⟨r, hr, hf⟩) (fun w b hok ⟨r, hr, hf⟩ => Ent.ok_lt (e := .ro r.A r.size r.n r.es) (hok r hr) hf)
theorem St.many0 {w : World} (h : St w0 w L) : St w0 w (manyE true [] :: L) := by
  refine ⟨h.below, fun x hx => ?_, fun x hx hf b hb => ?_, List.pairwise_cons.2 ⟨fun x hx hor b hb hb' => ?_, h.sep⟩⟩
  · rcases List.mem_cons.1 hx with rfl | hx
    · intro r hr; cases hr
    · exact h.ok x hx
  · rcases List.mem_cons.1 hx with rfl | hx
    · obtain ⟨r, hr, _⟩ := hb; cases hr
    · exact h.new x hx hf b hb
  · obtain ⟨r, hr, _⟩ := hb; cases hr
/-- A row of one's own joins the many. -/
theorem St.manyAdd {w : World} {rs : List Row} {A : Option Addr} {cap : Nat} {T : TypeId} {size m : Nat} {es : List (List Value)} (h : St w0 w (.own A cap T size m es :: manyE true rs :: L)) : St w0 w (manyE true (rs ++ [⟨A, size, m, es⟩]) :: L) := by
  have hp := List.pairwise_cons.1 h.sep
  have hp2 := List.pairwise_cons.1 hp.2
  refine ⟨h.below, fun x hx => ?_, fun x hx hf b hb => ?_, List.pairwise_cons.2 ⟨fun x hx hor b hb hb' => ?_, hp2.2⟩⟩
  · rcases List.mem_cons.1 hx with rfl | hx
    · intro r hr
      rcases List.mem_append.1 hr with hr | hr
      · exact h.ok (manyE true rs) (by simp) r hr
      · simp only [List.mem_singleton] at hr; subst hr
        exact (h.ok (.own A cap T size m es) (by simp)).2
    · exact h.ok x (by simp [hx])
  · rcases List.mem_cons.1 hx with rfl | hx
    · obtain ⟨r, hr, hfp⟩ := hb
      rcases List.mem_append.1 hr with hr | hr
      · exact h.new (manyE true rs) (by simp) rfl b ⟨r, hr, hfp⟩
      · simp only [List.mem_singleton] at hr; subst hr
        obtain ⟨ad, ha, hbl, _, _⟩ := hfp
        exact h.new (.own A cap T size m es) (by simp) rfl b ⟨ad, ha, hbl⟩
    · exact h.new x (by simp [hx]) hf b hb
  · obtain ⟨r, hr, hfp⟩ := hb
    rcases List.mem_append.1 hr with hr | hr
    · refine hp2.1 x hx (hor.imp (fun h => by cases h) id) b ⟨r, hr, hfp⟩ hb'
    · simp only [List.mem_singleton] at hr; subst hr
      obtain ⟨ad, ha, hbl, _, _⟩ := hfp
      exact hp.1 x (by simp [hx]) (.inl rfl) b ⟨ad, ha, hbl⟩ hb'
theorem WC.many0 {c : Code} (h : WC F P c Q n D l w0 (manyE true [] :: L)) : WC F P c Q n D l w0 L := fun hF a w hfr hst => h hF a w hfr hst.many0
theorem WC.manyAdd {c : Code} {rs : List Row} {A : Option Addr} {cap : Nat} {T : TypeId} {size m : Nat} {es : List (List Value)} (ha : At L (.own A cap T size m es) M) {M' : List Ent} (hb : At M (manyE true rs) M')
    (h : WC F P c Q n D l w0 (manyE true (rs ++ [⟨A, size, m, es⟩]) :: M')) : WC F P c Q n D l w0 L := fun hF a w hfr hst => h hF a w hfr (by
  have h1 := hst.pull ha
  have h2 : St w0 w (.own A cap T size m es :: manyE true rs :: M') := h1.sub (.cons .here (.cons hb (SubL.refl _)))
  exact h2.manyAdd)
theorem St.many {w : World} {fr : Bool} {rs : List Row} (h : St w0 w L) (ha : At L (manyE fr rs) M) {r : Row} (hr : r ∈ rs) : Rd w r.A r.size r.n r.es := h.ok _ ha.mem r hr
end rules

/-! #### a list of which the first k are turned -/
def mix {α : Type} (f : α → α) (l : List α) (k : Nat) : List α := (l.take k).map f ++ l.drop k
theorem mix_zero {α : Type} (f : α → α) (l : List α) : mix f l 0 = l := by simp [mix]
theorem mix_end {α : Type} (f : α → α) (l : List α) {k : Nat} (h : l.length ≤ k) : mix f l k = l.map f := by
  rw [mix, List.take_of_length_le h, List.drop_eq_nil_of_le h, List.append_nil]
theorem mix_len {α : Type} (f : α → α) (l : List α) (k : Nat) : (mix f l k).length = l.length := by
  simp [mix]; omega
theorem mix_at {α : Type} {f : α → α} {l : List α} {k : Nat} {x : α} (h : l[k]? = some x) : (mix f l k)[k]? = some x := by
  have hk : k < l.length := (List.getElem?_eq_some_iff.1 h).1
  rw [mix, List.getElem?_append_right (by simp; omega)]
  simp [Nat.min_eq_left (Nat.le_of_lt hk), h]
theorem mix_set {α : Type} {f : α → α} {l : List α} {k : Nat} {x : α} (h : l[k]? = some x) : (mix f l k).set k (f x) = mix f l (k + 1) := by
  have hk : k < l.length := (List.getElem?_eq_some_iff.1 h).1
  rw [mix, mix, List.take_add_one, h]
  rw [List.set_append_right _ _ (by simp; omega)]
  simp [Nat.min_eq_left (Nat.le_of_lt hk)]
  rw [List.drop_eq_getElem_cons hk]; rfl
end Go.Proofs.Ytacaojifempclaa
