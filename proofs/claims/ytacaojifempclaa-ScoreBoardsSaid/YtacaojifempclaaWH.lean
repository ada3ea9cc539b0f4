/- A truth that is known is a literal; plain laws, no program is named here. -/
import Derived.Test.YtacaojifempclaaWG
namespace Go.Proofs.Ytacaojifempclaa
open Go Go.RowKit

section
variable {P : Program} {n : Nat} {D : List Deferred} {l : Env} {w0 : World} {L : List Ent} {op : Op}
theorem Yd.tr {b : Bool} (h : Yd P n D l w0 L op (.bool b)) (hb : b = true) : Yd P n D l w0 L op (.bool true) := hb ▸ h
theorem Yd.fl {b : Bool} (h : Yd P n D l w0 L op (.bool b)) (hb : b = false) : Yd P n D l w0 L op (.bool false) := hb ▸ h
theorem Yd.to {v v' : Value} (h : Yd P n D l w0 L op v) (hb : v = v') : Yd P n D l w0 L op v' := hb ▸ h
end

/-! #### an append that is bounded by its bytes -/
section
variable {P : Program}
theorem run_appendB {w0 w : World} {M : List Ent} (t ty e : TypeId) {agg : Bool} {size bytes : Nat} {z : Value} {zl : List Value} (ht : P.underlying t = some (.slice e)) (hE : Ty P e agg size bytes z zl)
    {A A2 : Option Addr} {cap m k c : Nat} {es es2 : List (List Value)} (hst : St w0 w (.own A cap e size m es :: M)) (hr : Rd w A2 size k es2) (hpos : 0 < size) (hbytes : (m + k) * bytes ≤ 140737488355328) (hlm : m + k ≤ 9223372036854775807) :
    ∃ A' c' w', (Builtin.append_ #[t, t] ty #[.slice A m cap, .slice A2 k c]).run P w = .ok (.slice A' (m + k) c') w' ∧ St w0 w' (.own A' c' e size (m + k) (es ++ es2) :: M) := by
  obtain ⟨hown, hrd⟩ := hst.ok (.own A cap e size m es) (by simp)
  cases A2 with
  | none =>
    have hk : k = 0 := by
      rcases Nat.eq_zero_or_pos k with h | h
      · exact h
      · obtain ⟨ad, h⟩ := hr.some_ h; cases h
    subst hk
    have he2 : es2 = [] := List.eq_nil_of_length_eq_zero hr.len
    subst he2
    exact ⟨A, cap, w, run_append_none w t ty e ht hE hown c, by simpa using hst⟩
  | some ad =>
    obtain ⟨i, hi, h1, h2, h3⟩ := ty_info hE
    have hzs : z.cells.size = size := by rw [hE.zc]; simpa using hE.zs
    obtain ⟨v', w', hrun, hown', hgrow, _, hat⟩ := run_append_own_at (P := P) w 0 t ty e i z size bytes ht hi h3 h1 h2 hzs hpos (.slice A m cap) m es.flatten hown ad k c es2.flatten
      (by rw [flatten_len hr.each, hr.len]) (fun j u hj => hr.flat hpos hj) (fun u hu => by
        obtain ⟨c', hc', hu'⟩ := List.mem_flatten.1 hu
        exact hr.one c' hc' u hu') (by simp only [maxLen]; omega) hbytes (Nat.zero_le _)
    have hform : ∃ A' c', v' = .slice A' (m + k) c' := by
      rcases hown'.2 with ⟨hv, h0⟩ | ⟨g, cap', cur, hv, _⟩
      · exact ⟨none, 0, by rw [hv, h0]⟩
      · exact ⟨_, _, hv⟩
    obtain ⟨A', c', rfl⟩ := hform
    rw [← List.flatten_append] at hown'
    refine ⟨A', c', w', hrun, hst.turn rfl (fun q hq hnf => hgrow.block q hq fun he => hnf ?_) hgrow.os hgrow.tape hgrow.output hgrow.size ⟨hown', rd_own hown' (by simp [hrd.len, hr.len]) (fun c hc => ?_) (fun c hc => ?_)⟩ (fun q hq => ?_)⟩
    · cases A with
      | none => simp [Value.ownBlock] at he
      | some a => simp [Value.ownBlock] at he; exact ⟨a, rfl, he.symm⟩
    · rcases List.mem_append.1 hc with hc | hc
      · exact hrd.each c hc
      · exact hr.each c hc
    · rcases List.mem_append.1 hc with hc | hc
      · exact hrd.one c hc
      · exact hr.one c hc
    · obtain ⟨a', rfl, rfl⟩ := hq
      rcases hat with he | he
      · left
        cases A with
        | none => simp [Value.ownBlock] at he
        | some a => simp [Value.ownBlock] at he; exact ⟨a, rfl, he.symm⟩
      · right; simp [Value.ownBlock] at he; omega
end
section rules
variable {F : Fence} {P : Program} {ops : Array Oper} {Q : Exit → Act → World → Prop} {rest : List Oper} {n : Nat} {D : List Deferred} {l : Env} {w0 : World} {L M : List Ent}
variable {d : Nat} {ty : TypeId} {pos : String} {aft : Array Edge}
theorem apB {s x : Operand} {t T : TypeId} (hT : SliceTy P t T := by infer_instance) {agg : Bool} {size bytes : Nat} {z : Value} {zl : List Value} (hE : Ty P T agg size bytes z zl := by infer_instance) {A A2 : Option Addr} {c c2 m k : Nat} {es es2 : List (List Value)}
    (hs : ev l s = some (.slice A m c) := by exact rfl) (hx : ev l x = some (.slice A2 k c2) := by exact rfl)
    (ha : At L (.own A c T size m es) M := by repeat (first | exact At.here | apply At.there)) (hr : Rds M A2 size k es2 := by repeat (first | exact Rds.ro | exact Rds.own | apply Rds.there))
    (hb : (m + k) * bytes ≤ 140737488355328 := by omega) (hlm : m + k ≤ 9223372036854775807 := by omega) (hpos : 0 < size := by omega) (hd : Nat.blt d n = true := by rfl)
    (h : ∀ A' c', WL F P ops Q rest n D ((d, .slice A' (m + k) c') :: l) w0 (.own A' c' T size (m + k) (es ++ es2) :: M)) :
    WL F P ops Q (⟨some d, .call { callee := .builtin .append, args := #[s, x], argTypes := #[t, t] }, ty, pos, aft, none⟩ :: rest) n D l w0 L :=
  WL.value (X := Option Addr × Nat) (φ := fun _ => True) (val := fun p => .slice p.1 (m + k) p.2) (L' := fun p => .own p.1 p.2 T size (m + k) (es ++ es2) :: M) (by simp) hd (fun ac w hfr hst => by
    have hp := hst.pull ha
    obtain ⟨A', c', w', hrun, hst'⟩ := run_appendB (P := P) t ty T hT.und hE (c := c2) hp (hp.tail.get hr) hpos hb hlm
    refine ⟨(A', c'), w', trivial, ?_, hst'⟩
    simp [execOp, resolve, invoke, builtin, hfr.eval hs, hfr.eval hx, hrun]) (fun p _ => h p.1 p.2)
end rules
end Go.Proofs.Ytacaojifempclaa
