/- Parts of slices of numbers; plain laws, no program is named here. -/
import Derived.Test.YtjkoaifjmcgpfaaWN
import Derived.Test.YtjkoaifjmcgpfaaWO
namespace Go.Proofs.Ytjkoaifjmcgpfaa
open Go Go.RowKit

theorem Spl.there {L Lp R : List Ent} {e : Ent} (h : Spl L Lp R) : Spl (e :: L) Lp (e :: R) := by
  induction h with
  | nil => exact .nil
  | cons h _ ih => exact .cons (.there h) ih
theorem rd_blk {g : Nat} {T : TypeId} {pre sp : List Value} {ws : List Int} {n : Nat} (hn : ws.length = n) (hm : n ≤ 9223372036854775807) (w : World) (h : (Ent.blk g T (pre ++ (ws.map vI ++ sp))).ok w) : Rd w (some ⟨g, pre.length, none⟩) 1 n (enI ws) :=
  rd_wt (T := T) (cap := n) w ⟨hn, .inr ⟨g, pre, sp, rfl, h, Nat.le_refl _, by omega, hm⟩⟩
theorem pe_lit (g o i : Nat) : pe (some ⟨g, o, none⟩) 1 i 0 = .pointer (some ⟨g, o + i, none⟩) := by simp [pe, add_lit]
theorem set_view (pre sp : List Value) (cur : List Int) {i : Nat} (x : Int) (hi : i < cur.length) : (pre ++ (cur.map vI ++ sp)).set (pre.length + i) (.int .i64 x) = pre ++ ((cur.set i x).map vI ++ sp) := by
  rw [List.set_append_right _ _ (by omega), Nat.add_sub_cancel_left, List.set_append_left _ _ (by simpa using hi), List.map_set]
  rfl
theorem clear_view (pre sp : List Value) (cur : List Int) {i n : Nat} (hn : cur.length = n) (hi : i ≤ n) : putAll (pre ++ (cur.map vI ++ sp)) (pre.length + i) (List.replicate (n - i) (.int .i64 0)) = pre ++ ((cur.take i).map vI ++ (List.replicate (n - i) (.int .i64 0) ++ sp)) := by
  have h : pre ++ (cur.map vI ++ sp) = (pre ++ (cur.take i).map vI) ++ ((cur.drop i).map vI ++ sp) := by
    rw [List.append_assoc, ← List.append_assoc ((cur.take i).map vI), ← List.map_append, List.take_append_drop]
  have hm := putAll_mid (List.replicate (n - i) (Value.int .i64 0)) (pre ++ (cur.take i).map vI) ((cur.drop i).map vI) sp (by simp [hn])
  rw [List.length_append, List.length_map, List.length_take, Nat.min_eq_left (by omega)] at hm
  rw [h, hm]
  simp

/-- One entry more that is left alone. -/
theorem Tr.frame1 {P : Program} {f : FuncId} {vs : List Value} {Lpre : List Ent} {X : Type} {φ : X → Prop} {val : X → Value} {post : X → List Ent} {E : Ent} (h : Tr P f vs Lpre φ val post) : Tr P f vs (E :: Lpre) φ val (fun x => E :: post x) :=
  ⟨fun w0 w R hst => Calls.mono (h.out w0 w (E :: R) (hst.sub (SubL.mid _ _))) fun e w' ⟨x, hx, he, hs⟩ => ⟨x, hx, he, hs.sub (SubL.cons (At.app _ _) (SubL.refl _))⟩⟩
section rules
variable {F : Fence} {P : Program} {ops : Array Oper} {Q : Exit → Act → World → Prop} {rest : List Oper} {n : Nat} {D : List Deferred} {l : Env} {w0 : World} {L M : List Ent}
variable {d : Nat} {ty : TypeId} {pos : String} {aft : Array Edge}
/-- An append of nothing. -/
theorem ap00 {s x : Operand} {t T : TypeId} (hT : SliceTy P t T := by infer_instance) {agg : Bool} {size bytes : Nat} {z : Value} {zl : List Value} (hE : Ty P T agg size bytes z zl := by infer_instance) {A A2 : Option Addr} {c c2 m : Nat} (hm : m ≤ c)
    (hs : ev l s = some (.slice A m c) := by exact rfl) (hA : A = none → m = 0 ∧ c = 0) (hx : ev l x = some (.slice A2 0 c2) := by exact rfl) (hd : Nat.blt d n = true := by rfl)
    (h : WL F P ops Q rest n D ((d, .slice A m c) :: l) w0 L) :
    WL F P ops Q (⟨some d, .call { callee := .builtin .append, args := #[s, x], argTypes := #[t, t] }, ty, pos, aft, none⟩ :: rest) n D l w0 L :=
  WL.value (X := Unit) (φ := fun _ => True) (val := fun _ => .slice A m c) (L' := fun _ => L) (by simp) hd (fun ac w hfr hst => by
    refine ⟨(), w, trivial, ?_, hst⟩
    have hfc : (Builtin.firstCells size 0 (.slice A2 0 c2)).run P w = .ok #[] w := by
      cases A2 with
      | none => simp [Builtin.firstCells]
      | some a => exact run_firstCells_some (P := P) w size 0 a 0 c2 [] (by simp) (fun j v hj => by simp at hj)
    cases A with
    | none =>
      obtain ⟨rfl, rfl⟩ := hA rfl
      simp [execOp, resolve, invoke, builtin, hfr.eval hs, hfr.eval hx, Builtin.append_, run_underlying hT.und, run_sizeOf hE, Builtin.lenOf, hfc]
    | some a => simp [execOp, resolve, invoke, builtin, hfr.eval hs, hfr.eval hx, Builtin.append_, run_underlying hT.und, run_sizeOf hE, Builtin.lenOf, hm, hfc, storeCells]) (fun _ _ => h)
/-- A slice behind its first elements, with literal places. -/
theorem slB {x : Operand} {t T : TypeId} (hT : SliceTy P t T := by infer_instance) {bytes : Nat} {z : Value} {zl : List Value} {agg : Bool} (hE : Ty P T agg 1 bytes z zl := by infer_instance) {g o m cap : Nat} {lo : Operand} {k : IntKind} (lo' : Nat) (hlo : lo' ≤ m) (hlc : lo' < cap)
    (hx : ev l x = some (.slice (some ⟨g, o, none⟩) m cap) := by exact rfl) (hh : ev l lo = some (.int k (lo' : Int)) := by exact rfl) (hmc : m ≤ cap := by omega) : Yd P n D l w0 L (.slice t x (some lo) none none) (.slice (some ⟨g, o + lo', none⟩) (m - lo') (cap - lo')) := by
  have h := slV (P := P) (n := n) (D := D) (w0 := w0) (L := L) hT hE (A := some ⟨g, o, none⟩) (m := m) (cap := cap) (lo := some lo) (hi := none) lo' m hx (.inl ⟨rfl, rfl⟩) (.inr ⟨lo, k, lo', rfl, hh, by omega, by omega, by omega⟩)
  rw [if_neg (by omega)] at h
  have e : (some (⟨g, o, none⟩ : Addr)).map (·.add (lo' * 1)) = some ⟨g, o + lo', none⟩ := by rw [Option.map_some, add_lit, Nat.mul_one]
  rw [e] at h
  exact h
theorem slA {x : Operand} {t T : TypeId} (hT : SliceTy P t T := by infer_instance) {size bytes : Nat} {z : Value} {zl : List Value} {agg : Bool} (hE : Ty P T agg size bytes z zl := by infer_instance) {A : Option Addr} {m cap : Nat} {lo : Operand} {k : IntKind} (lo' : Nat) (hlo : lo' ≤ m)
    (hx : ev l x = some (.slice A m cap) := by exact rfl) (hh : ev l lo = some (.int k (lo' : Int)) := by exact rfl) : Yd P n D l w0 L (.slice t x (some lo) none none) (.slice (if cap = lo' then A else A.map (·.add (lo' * size))) (m - lo') (cap - lo')) :=
  slV (P := P) (n := n) (D := D) (w0 := w0) (L := L) hT hE (A := A) (m := m) (cap := cap) (lo := some lo) (hi := none) lo' m hx (.inl ⟨rfl, rfl⟩) (.inr ⟨lo, k, lo', rfl, hh, by omega, by omega, by omega⟩)
/-- One entry is said anew. -/
theorem WQ.turn {Q' : Exit → Act → World → Prop} {e : Exit} {E E' : Ent} (hst : ∀ w, St w0 w (E :: M) → St w0 w (E' :: M)) (ha : At L E M) (h : WQ F P Q' e n D l w0 (E' :: M)) : WQ F P Q' e n D l w0 L :=
  fun hF a w hfr hs => h hF a w hfr (hst w (hs.pull ha))
theorem WC.turn {c : Code} {E E' : Ent} (hst : ∀ w, St w0 w (E :: M) → St w0 w (E' :: M)) (ha : At L E M) (h : WC F P c Q n D l w0 (E' :: M)) : WC F P c Q n D l w0 L :=
  fun hF a w hfr hs => h hF a w hfr (hst w (hs.pull ha))
end rules
end Go.Proofs.Ytjkoaifjmcgpfaa
