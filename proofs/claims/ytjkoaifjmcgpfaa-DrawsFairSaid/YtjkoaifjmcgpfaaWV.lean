/- Rules of draws: clear of wide elements; many rows. Plain laws, no program is named here. -/
import Derived.Test.YtjkoaifjmcgpfaaWD
import Derived.Test.YtjkoaifjmcgpfaaWE
import Derived.Test.YtjkoaifjmcgpfaaWH
namespace Go.Proofs.Ytjkoaifjmcgpfaa
open Go Go.RowKit

theorem St.clearN {w0 : World} {M : List Ent} {g cap : Nat} {T : TypeId} {n size : Nat} (h0 : 0 < size) : ∀ (vs : List Value) (i : Nat) (w : World) (es : List (List Value)), i + vs.length = n * size → (∀ v ∈ vs, v.oneCell' = true) → St w0 w (.own (some ⟨g, 0, none⟩) cap T size n es :: M) →
    ∃ es', St w0 (w.setCells g i vs) (.own (some ⟨g, 0, none⟩) cap T size n es' :: M) ∧ ∀ lo, lo * size ≤ i → es'.take lo = es.take lo
  | [], i, w, es, _, _, h => ⟨es, h, fun _ _ => rfl⟩
  | v :: vs, i, w, es, hi, h1, h => by
    have hlen : es.length = n := (h.ok (.own (some ⟨g, 0, none⟩) cap T size n es) (by simp)).2.len
    rw [List.length_cons] at hi
    have hk : i / size < n := by rw [Nat.div_lt_iff_lt_mul h0]; omega
    have he : es[i / size]? = some (es[i / size]'(by omega)) := List.getElem?_eq_getElem (by omega)
    obtain ⟨ad, had, _, _, hs⟩ := own_set h he (j := i % size) (v := v) (Nat.mod_lt _ h0) (h1 v (by simp))
    injection had with had; subst had
    have e : (⟨g, 0, none⟩ : Addr).add (i / size * size + i % size) = ⟨g, i, none⟩ := by
      rw [add_lit, Nat.mul_comm, Nat.div_add_mod]; simp
    rw [e] at hs
    obtain ⟨es', hs', ht⟩ := St.clearN h0 vs (i + 1) _ _ (by omega) (fun u hu => h1 u (by simp [hu])) hs
    refine ⟨es', hs', fun lo hlo => ?_⟩
    rw [ht lo (by omega), List.take_set_of_le]
    exact (Nat.le_div_iff_mul_le h0).2 hlo
theorem zeroCells_mem {zl : List Value} {n : Nat} (h0 : 0 < zl.length) {v : Value} (h : v ∈ (Builtin.zeroCells zl.toArray n).toList) : v ∈ zl := by
  simp only [Builtin.zeroCells, Array.toList_map, List.mem_map] at h
  obtain ⟨i, _, rfl⟩ := h
  have hm : i % zl.length < zl.length := Nat.mod_lt _ h0
  simp only [List.size_toArray]
  rw [getElem!_pos zl.toArray (i % zl.length) (by simpa using hm)]
  simp
theorem zeroCells_len (zl : List Value) (n : Nat) : (Builtin.zeroCells zl.toArray n).toList.length = n * zl.length := by
  simp [Builtin.zeroCells]
section rules
variable {F : Fence} {P : Program} {ops : Array Oper} {Q : Exit → Act → World → Prop} {rest : List Oper} {n : Nat} {D : List Deferred} {l : Env} {w0 : World} {L M : List Ent}
variable {d : Nat} {ty : TypeId} {pos : String} {aft : Array Edge}
/-- clear of the last elements of a row of one's own. -/
theorem clrS {x : Operand} {t T : TypeId} (hT : SliceTy P t T := by infer_instance) {agg : Bool} {size bytes : Nat} {z : Value} {zl : List Value} (hE : Ty P T agg size bytes z zl := by infer_instance) (h1 : zl.all (·.oneCell') = true := by rfl) (h0 : 0 < size := by decide) {A : Option Addr} {m cap : Nat} (lo : Nat) {es : List (List Value)}
    (hx : ev l x = some (.slice (if cap = lo then A else A.map (·.add (lo * size))) (m - lo) (cap - lo)) := by exact rfl) (ha : At L (.own A cap T size m es) M := by repeat (first | exact At.here | apply At.there)) (hlo : lo < m)
    (h : ∀ es', es'.take lo = es.take lo → WL F P ops Q rest n D l w0 (.own A cap T size m es' :: M)) : WL F P ops Q (⟨none, .call { callee := .builtin .clear, args := #[x], argTypes := #[t] }, ty, pos, aft, none⟩ :: rest) n D l w0 L := by
  intro hF a w hfr hst
  have hst1 := hst.pull ha
  obtain ⟨hown, hrd⟩ := hst1.ok (.own A cap T size m es) (by simp)
  rcases hown.2 with ⟨hv, h0'⟩ | ⟨g, cap', cur, hv, hb, hg, g1, g2, g3, g4⟩
  · injection hv with e1 e2 e3
    have := hrd.len; have := hrd.some_ (by omega)
    obtain ⟨_, h⟩ := this
    rw [e1] at h; cases h
  injection hv with e1 e2 e3; subst e1 e3
  have hne : ¬ (cap = lo) := by
    have := hst1.room; omega
  have hzl : zl.length = size := hE.zs
  have hsum : lo * size + (Builtin.zeroCells zl.toArray (m - lo)).toList.length = m * size := by
    rw [zeroCells_len, hzl, ← Nat.add_mul]; congr 1; omega
  have hone : ∀ v ∈ (Builtin.zeroCells zl.toArray (m - lo)).toList, v.oneCell' = true := fun v hv => List.all_eq_true.1 h1 v (zeroCells_mem (by omega) hv)
  obtain ⟨es', hs', ht⟩ := St.clearN h0 _ (lo * size) w es hsum hone hst1
  have he := hfr.eval hx
  rw [if_neg hne] at he
  have hadd : (⟨g, 0, none⟩ : Addr).add (lo * size) = ⟨g, lo * size, none⟩ := by rw [add_lit]; simp
  have hst := run_storeCells_cells (P := P) g (lo * size) _ 0 w (fun j hj => by
      rw [zeroCells_len, hzl] at hj
      have hlt : lo * size + j < m * size := by rw [zeroCells_len, hzl] at hsum; omega
      have hk' : (lo * size + j) / size < m := by rw [Nat.div_lt_iff_lt_mul h0]; exact hlt
      have hk : es[(lo * size + j) / size]? = some (es[(lo * size + j) / size]'(by rw [hrd.len]; exact hk')) := List.getElem?_eq_getElem _
      have hl := hrd.each _ (List.mem_of_getElem? hk)
      have := hrd.cell _ rfl _ _ hk ((lo * size + j) % size) _ (List.getElem?_eq_getElem (by rw [hl]; exact Nat.mod_lt _ h0))
      rw [add_lit, Nat.mul_comm _ size, Nat.div_add_mod] at this
      simp at this
      simp [this]) (fun j hj => hown.frozenAt _) hone
  rw [Nat.add_zero] at hst
  have hrun : (Builtin.clear_ #[t] ty #[.slice (some ⟨g, lo * size, none⟩) (m - lo) (cap - lo)]).run P w = .ok (.tuple #[]) (w.setCells g (lo * size) (Builtin.zeroCells zl.toArray (m - lo)).toList) := by
    have hzv : (zeroValue T).run P w = .ok z w := run_zeroValue hE w
    obtain ⟨q, hq⟩ : ∃ q, m - lo = q + 1 := ⟨m - lo - 1, by omega⟩
    rw [hq] at hst ⊢
    simp [Builtin.clear_, run_underlying hT.und, hzv, hE.zc, hst]
  show (if _ then _ else _)
  rw [if_pos (by simp [Region.wanted])]
  refine ⟨fun f _ => hF.fn f, ?_⟩
  have hr : (execOp a.eval ⟨none, .call { callee := .builtin .clear, args := #[x], argTypes := #[t] }, ty, pos, aft, none⟩).run P w = .ok (.value (.tuple #[])) (w.setCells g (lo * size) (Builtin.zeroCells zl.toArray (m - lo)).toList) := by
    simp only [Option.map_some, hadd] at he
    simp [execOp, resolve, invoke, builtin, he, hrun]
  rw [semAt_plain (by simp), hr]
  exact h es' (ht lo (Nat.le_refl _)) hF _ _ (hfr.put_none _) hs'
end rules

/-- Many rows, and one of one's own, and further ones, are many rows. -/
theorem St.manyWeak {w0 w : World} {L : List Ent} {rs1 rs2 rs : List Row} {A : Option Addr} {cap : Nat} {T : TypeId} {size m : Nat} {es : List (List Value)} (h : St w0 w (manyE true rs1 :: .own A cap T size m es :: manyE true rs2 :: L)) (hr : ∀ r ∈ rs, r ∈ rs1 ∨ r = ⟨A, size, m, es⟩ ∨ r ∈ rs2) : St w0 w (manyE true rs :: L) := by
  have hp1 := List.pairwise_cons.1 h.sep
  have hp2 := List.pairwise_cons.1 hp1.2
  have hp3 := List.pairwise_cons.1 hp2.2
  have hfp : ∀ r ∈ rs, ∀ b, (Ent.ro r.A r.size r.n r.es).fp b → (manyE true rs1).fp b ∨ (Ent.own A cap T size m es).fp b ∨ (manyE true rs2).fp b := fun r hrs b hb => by
    rcases hr r hrs with h1 | rfl | h1
    · exact .inl ⟨r, h1, hb⟩
    · obtain ⟨ad, ha, hbl, _, _⟩ := hb
      exact .inr (.inl ⟨ad, ha, hbl⟩)
    · exact .inr (.inr ⟨r, h1, hb⟩)
  refine ⟨h.below, fun x hx => ?_, fun x hx hf b hb => ?_, List.pairwise_cons.2 ⟨fun x hx hor b hb hb' => ?_, hp3.2⟩⟩
  · rcases List.mem_cons.1 hx with rfl | hx
    · intro r hrs
      rcases hr r hrs with h1 | rfl | h1
      · exact h.ok (manyE true rs1) (by simp) r h1
      · exact (h.ok (.own A cap T size m es) (by simp)).2
      · exact h.ok (manyE true rs2) (by simp) r h1
    · exact h.ok x (by simp [hx])
  · rcases List.mem_cons.1 hx with rfl | hx
    · obtain ⟨r, hrs, hb⟩ := hb
      rcases hfp r hrs b hb with h1 | h1 | h1
      · exact h.new (manyE true rs1) (by simp) rfl b h1
      · exact h.new (.own A cap T size m es) (by simp) rfl b h1
      · exact h.new (manyE true rs2) (by simp) rfl b h1
    · exact h.new x (by simp [hx]) hf b hb
  · obtain ⟨r, hrs, hb⟩ := hb
    have hx' : x.excl = true := hor.resolve_left (fun h => by cases h)
    rcases hfp r hrs b hb with h1 | h1 | h1
    · exact hp1.1 x (by simp [hx]) (.inr hx') b h1 hb'
    · exact hp2.1 x (by simp [hx]) (.inr hx') b h1 hb'
    · exact hp3.1 x hx (.inr hx') b h1 hb'
section
variable {F : Fence} {P : Program} {Q : Exit → Act → World → Prop} {n : Nat} {D : List Deferred} {l : Env} {w0 : World} {L M M' M'' : List Ent}
theorem WC.manyWeak {c : Code} {rs1 rs2 : List Row} {A : Option Addr} {cap : Nat} {T : TypeId} {size m : Nat} {es : List (List Value)} (rs : List Row) (h1 : At L (manyE true rs1) M) (h2 : At M (.own A cap T size m es) M') (h3 : At M' (manyE true rs2) M'') (hr : ∀ r ∈ rs, r ∈ rs1 ∨ r = ⟨A, size, m, es⟩ ∨ r ∈ rs2)
    (h : WC F P c Q n D l w0 (manyE true rs :: M'') ) : WC F P c Q n D l w0 L := fun hF a w hfr hst => h hF a w hfr ((hst.sub (.cons h1 (.cons h2 (.cons h3 (SubL.refl _))))).manyWeak hr)
end
end Go.Proofs.Ytjkoaifjmcgpfaa
