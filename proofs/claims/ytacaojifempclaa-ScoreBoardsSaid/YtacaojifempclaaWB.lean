/- Rules for parts of a row of one's own: its first elements as a row of one's own. Plain laws, no program is named here. -/
import Derived.Test.YtacaojifempclaaW9
namespace Go.Proofs.Ytacaojifempclaa
open Go Go.RowKit

theorem flatten_take {es : List (List Value)} {size : Nat} (hs : ∀ c ∈ es, c.length = size) : ∀ m : Nat, m ≤ es.length → (es.take m).flatten = es.flatten.take (m * size) := by
  induction es with
  | nil => intro m hm; simp at hm; subst hm; simp
  | cons c es ih =>
    intro m hm
    cases m with
    | zero => simp
    | succ m =>
      have hc := hs c (by simp)
      rw [List.take_succ_cons, List.flatten_cons, List.flatten_cons, ih (fun c' h' => hs c' (by simp [h'])) m (by simpa using hm), List.take_append, hc, Nat.succ_mul]
      rw [show List.take (m * size + size) c = c from List.take_of_length_le (by omega), Nat.add_sub_cancel]

/-- What a row of one's own has room for. -/
theorem St.room {w0 w : World} {M : List Ent} {A : Option Addr} {cap : Nat} {T : TypeId} {size n : Nat} {es : List (List Value)} (h : St w0 w (.own A cap T size n es :: M)) : n ≤ cap ∧ cap ≤ 9223372036854775807 := by
  obtain ⟨hown, _⟩ := h.ok (.own A cap T size n es) (by simp)
  rcases hown.2 with ⟨hv, hn⟩ | ⟨g, cap', cur, hv, _, _, h1, h2, _⟩
  · injection hv with h1 h2 h3; subst h2 h3; omega
  · injection hv with h3 h4 h5; subst h5
    exact ⟨h1, by simpa [maxLen] using h2⟩

/-- The first elements alone. -/
theorem St.shrink {w0 w : World} {M : List Ent} {A : Option Addr} {cap : Nat} {T : TypeId} {size n : Nat} {es : List (List Value)} (h : St w0 w (.own A cap T size n es :: M)) {m : Nat} (hm : m ≤ n) : St w0 w (.own A cap T size m (es.take m) :: M) := by
  obtain ⟨hown, hrd⟩ := h.ok (.own A cap T size n es) (by simp)
  have hfl := flatten_take hrd.each m (by rw [hrd.len]; exact hm)
  have hmul : m * size ≤ n * size := Nat.mul_le_mul_right _ hm
  have hown' : w.ownsRow 0 T size (.slice A m cap) m (es.take m).flatten := by
    refine ⟨by rw [hfl, List.length_take, hown.1]; omega, ?_⟩
    rcases hown.2 with ⟨hv, hn⟩ | ⟨g, cap', cur, hv, hb, hg, h1, h2, h3, h4⟩
    · injection hv with e1 e2 e3; subst e1 e3
      exact .inl ⟨by rw [show m = 0 by omega], by omega⟩
    · injection hv with e1 e2 e3; subst e1 e3
      refine .inr ⟨g, _, cur, rfl, hb, hg, by omega, h2, h3, ?_⟩
      rw [hfl, ← h4, List.take_take, Nat.min_eq_left hmul]
  have hrd' : Rd w A size m (es.take m) := by
    refine ⟨by rw [List.length_take, hrd.len]; omega, fun c hc => hrd.each c (List.mem_of_mem_take hc), fun hp => hrd.some_ (by omega), fun ad ha k cs hk j v hj => ?_, fun c hc => hrd.one c (List.mem_of_mem_take hc)⟩
    have hk' : es[k]? = some cs := by
      rw [List.getElem?_take] at hk
      split at hk
      · exact hk
      · cases hk
    exact hrd.cell ad ha k cs hk' j v hj
  exact h.turn rfl (fun q hq hnf => rfl) rfl rfl rfl (Nat.le_refl _) ⟨hown', hrd'⟩ (fun q hq => .inl hq)

section rules
variable {F : Fence} {P : Program} {ops : Array Oper} {Q : Exit → Act → World → Prop} {rest : List Oper} {n : Nat} {D : List Deferred} {l : Env} {w0 : World} {L M : List Ent}
variable {d : Nat} {ty : TypeId} {pos : String} {aft : Array Edge}

/-- A part of a slice, as a value. -/
theorem slV {x : Operand} {t T : TypeId} (hT : SliceTy P t T := by infer_instance) {agg : Bool} {size bytes : Nat} {z : Value} {zl : List Value} (hE : Ty P T agg size bytes z zl := by infer_instance) {A : Option Addr} {m cap : Nat} {lo hi : Option Operand} (lo' hi' : Nat)
    (hx : ev l x = some (.slice A m cap) := by exact rfl) (hh : hi = none ∧ hi' = m ∨ ∃ o k i, hi = some o ∧ ev l o = some (.int k i) ∧ 0 ≤ i ∧ i ≤ cap ∧ hi' = i.toNat)
    (hl : lo = none ∧ lo' = 0 ∨ ∃ o k i, lo = some o ∧ ev l o = some (.int k i) ∧ 0 ≤ i ∧ i ≤ hi' ∧ lo' = i.toNat) :
    Yd P n D l w0 L (.slice t x lo hi none) (.slice (if cap = lo' then A else A.map (·.add (lo' * size))) (hi' - lo') (cap - lo')) :=
  ⟨by simp, by simp, fun oo ho ac w hfr _ => by
    have hrun := run_slice (P := P) hT hE (A := A) (m := m) (cap := cap) (lo := lo.map ac.eval) (hi := hi.map ac.eval) (lo' := lo') (hi' := hi') (w := w)
      (by rcases hh with ⟨rfl, h1⟩ | ⟨o, k, i, rfl, h1, h2, h3, h4⟩
          · exact .inl ⟨rfl, h1⟩
          · exact .inr ⟨k, i, by simp [hfr.eval h1], h2, h3, h4⟩)
      (by rcases hl with ⟨rfl, h1⟩ | ⟨o, k, i, rfl, h1, h2, h3, h4⟩
          · exact .inl ⟨rfl, h1⟩
          · exact .inr ⟨k, i, by simp [hfr.eval h1], h2, h3, h4⟩)
    simp [execOp, ho, hfr.eval hx, hrun]⟩

/-- The first part of a row that is read, and what is behind it, read too. -/
theorem St.part {A : Option Addr} {size m cap : Nat} {es : List (List Value)} {w : World} (h : St w0 w (.ro A size m es :: M)) (lo hi : Nat) (hlo : lo ≤ hi) (hhi : hi ≤ m) (hcap : m ≤ cap) :
    St w0 w (.ro (if cap = lo then A else A.map (·.add (lo * size))) size (hi - lo) ((es.drop lo).take (hi - lo)) :: .ro A size m es :: M) := by
  have hr := h.ok (.ro A size m es) (by simp)
  refine h.dupRo (hr.part cap lo hi hlo hhi hcap) fun ad' hA' hm' => ?_
  obtain ⟨ad, rfl⟩ := Rd.some_ hr (by omega)
  split at hA'
  · injection hA' with hA'; subst hA'; exact ⟨ad, rfl, rfl, by omega⟩
  · simp at hA'; subst hA'; exact ⟨ad, rfl, (block_add ad _).symm, by omega⟩
theorem WC.part {c : Code} {A : Option Addr} {size m cap : Nat} {es : List (List Value)} (ha : At L (.ro A size m es) M) (lo hi : Nat) (hlo : lo ≤ hi) (hhi : hi ≤ m) (hcap : m ≤ cap)
    (h : WC F P c Q n D l w0 (.ro (if cap = lo then A else A.map (·.add (lo * size))) size (hi - lo) ((es.drop lo).take (hi - lo)) :: .ro A size m es :: M)) : WC F P c Q n D l w0 L :=
  fun hF a w hfr hst => h hF a w hfr ((hst.pull ha).part lo hi hlo hhi hcap)
theorem WC.shrink {c : Code} {A : Option Addr} {cap : Nat} {T : TypeId} {size k : Nat} {es : List (List Value)} (ha : At L (.own A cap T size k es) M) {m : Nat} (hm : m ≤ k) (h : WC F P c Q n D l w0 (.own A cap T size m (es.take m) :: M)) : WC F P c Q n D l w0 L :=
  fun hF a w hfr hst => h hF a w hfr ((hst.pull ha).shrink hm)
theorem WC.room {c : Code} {A : Option Addr} {cap : Nat} {T : TypeId} {size k : Nat} {es : List (List Value)} (ha : At L (.own A cap T size k es) M) (h : k ≤ cap ∧ cap ≤ 9223372036854775807 → WC F P c Q n D l w0 L) : WC F P c Q n D l w0 L :=
  fun hF a w hfr hst => h (hst.pull ha).room hF a w hfr hst
end rules
end Go.Proofs.Ytacaojifempclaa
