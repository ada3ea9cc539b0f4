/- Iterators whose rounds may stand on further entries; an append in room; a slice made with room. Plain laws, no program is named here. -/
import Derived.Test.YtjkoaifjmcgpfaaWP
import Derived.Test.YtjkoaifjmcgpfaaWJ
namespace Go.Proofs.Ytjkoaifjmcgpfaa
open Go Go.RowKit

/-- The contract of an iterator whose rounds stand on further entries R of its own. -/
structure It2 (P : Program) (f : FuncId) (mk : Value → List Value) (Lp : List Ent) (N : Nat) {X : Type} (φ : Nat → X → Prop) (ya : Nat → X → List Value) (yL : Nat → X → List Ent) : Prop where
  out : ∀ {Y : Type} (ψ : Nat → Y → Prop) (J : Nat → Y → List Ent) (ψx : Y → Prop) (Jx : Y → List Ent) (w0 w : World) (lb : Nat) (y0 : Y), ψ 0 y0 → St w0 w (Lp ++ J 0 y0) →
    (∀ R k x y w, k < N → φ k x → ψ k y → St w0 w (yL k x ++ (Lp ++ (J k y ++ R))) → RoundOf P lb (ya k x) w (RR ψ (fun k y => J k y ++ R) ψx (fun y => Jx y ++ R) Lp w0 k)) →
    Calls P f (mk (.func (.yield lb) #[] #[])).toArray w fun e w' => ∃ v, e = .returned v ∧ ((∃ y, ψ N y ∧ St w0 w' (Lp ++ J N y)) ∨ ∃ y, ψx y ∧ St w0 w' (Lp ++ Jx y))

section rules
variable {P : Program} {ops : Array Oper} {Q : Exit → Act → World → Prop} {rest : List Oper} {n : Nat} {D : List Deferred} {l : Env} {w0 : World} {L M : List Ent}
/-- The statement: the loop runs out, or has left by one of its jumps. -/
theorem rf2 {f : FuncId} (hf : FnOk P f) {g : Operand} {ps : List Nat} {assign body : Code} {fi cap : List Value} {Lp : List Ent} {N : Nat} {X Y : Type} {φ : Nat → X → Prop} {ya : Nat → X → List Value} {yL : Nat → X → List Ent}
    (ψ : Nat → Y → Prop) (J : Nat → Y → List Ent) (ψx : Y → Prop) (jx : Y → Code) (Jx : Y → List Ent) (y0 : Y)
    (hit : It2 P f (fun v => fi ++ [v] ++ cap) Lp N φ ya yL) (hx : ev l g = some (.func (.func f) fi.toArray cap.toArray)) (hlen : ∀ k x, (ya k x).length = ps.length) (hps : ps.all (fun p => Nat.blt p n) = true)
    (h0 : ψ 0 y0) (hL : SubL (Lp ++ J 0 y0) L)
    (hround : ∀ (R : List Ent) (fn : FuncId) (tmps : Array Value) (lb rb : Nat) (k : Nat) (x : X) (y : Y), k < N → φ k x → ψ k y →
      WC (Fence.wide.inRound lb) P assign (Exit.then (BR P lb body (roundPost P lb (RR ψ (fun k y => .obj lb (.loop (recd fn tmps ps.toArray assign body rb .ready none)) :: .obj rb (.deferred (some [])) :: (J k y ++ R)) ψx
          (fun y => .obj lb (.loop (recd fn tmps ps.toArray assign body rb .done (some (jx y)))) :: .obj rb (.deferred (some [])) :: (Jx y ++ R)) Lp w0 k))) NoQ) n [] (zipE ps (ya k x) l) w0
        (yL k x ++ (Lp ++ (.obj lb (.loop (recd fn tmps ps.toArray assign body rb .ready none)) :: .obj rb (.deferred (some [])) :: (J k y ++ R)))))
    (hdone : ∀ rb y, ψ N y → WQ Fence.wide P Q .normal n (mark rb :: D) l w0 (.obj rb (.deferred (some [])) :: (Lp ++ J N y)))
    (hjump : ∀ rb y, ψx y → WC Fence.wide P (jx y) Q n (mark rb :: D) l w0 (.obj rb (.deferred (some [])) :: (Lp ++ Jx y))) : WC Fence.wide P (.rangeFunc g ps.toArray assign body) Q n D l w0 L := by
  intro hF a w hfr hst
  have hst0 := hst.sub hL
  refine wpIn_rangeFunc fun fn _ => ?_
  obtain ⟨W, hW⟩ : ∃ W, (w.alloc (.deferred (some []))).alloc (.loop { state := .ready, pending := none, fn, tmps := a.tmps, params := ps.toArray, assign, body, defers := w.heap.size }) = W := ⟨_, rfl⟩
  refine ⟨w.heap.size + 1, [{ target := .collected w.heap.size, args := #[] }], W, { target := .fn (.func f) cap.toArray, args := fi.toArray ++ #[Value.func (.yield (w.heap.size + 1)) #[] #[]] }, W, f, (fi ++ [Value.func (.yield (w.heap.size + 1)) #[] #[]] ++ cap).toArray, W,
    by rw [← hW]; exact run_enterLoop_outer fn a.tmps ps.toArray assign body, ?_, fun _ _ => trivial, ?_, fun h => (by cases h), ?_⟩
  · simp [resolve, Deferred.ofValue, hfr.eval hx]
    rfl
  · have := run_callFunc hf (fi ++ [Value.func (.yield (w.heap.size + 1)) #[] #[]] ++ cap).toArray W
    simpa [invoke] using this
  · subst hW
    have hst1 := (hst0.allocObj (.deferred (some []))).allocObj (.loop (recd fn a.tmps ps.toArray assign body w.heap.size .ready none))
    rw [World.size_alloc] at hst1
    have hsub : SubL (Lp ++ (.obj (w.heap.size + 1) (.loop (recd fn a.tmps ps.toArray assign body w.heap.size .ready none)) :: .obj w.heap.size (.deferred (some [])) :: J 0 y0))
        (.obj (w.heap.size + 1) (.loop (recd fn a.tmps ps.toArray assign body w.heap.size .ready none)) :: .obj w.heap.size (.deferred (some [])) :: (Lp ++ J 0 y0)) := by
      have : ∀ (A B : List Ent) (e e' : Ent), SubL (A ++ (e :: e' :: B)) (e :: e' :: (A ++ B)) := by
        intro A B e e'
        induction A with
        | nil => exact SubL.refl _
        | cons x A ih => exact .cons (.there (.there .here)) ih
      exact this ..
    refine callsIn_wide.2 (Calls.mono (hit.out ψ (fun k y => .obj (w.heap.size + 1) (.loop (recd fn a.tmps ps.toArray assign body w.heap.size .ready none)) :: .obj w.heap.size (.deferred (some [])) :: J k y) ψx (fun y => .obj (w.heap.size + 1) (.loop (recd fn a.tmps ps.toArray assign body w.heap.size .done (some (jx y)))) :: .obj w.heap.size (.deferred (some [])) :: Jx y) w0 _ (w.heap.size + 1) y0 h0 (hst1.sub hsub) ?_) ?_)
    · intro R k x y w1 hk hφ hψ hs1
      have hrec : w1.heap[w.heap.size + 1]? = some (.loop (recd fn a.tmps ps.toArray assign body w.heap.size .ready none)) := hs1.ok (.obj (w.heap.size + 1) (.loop (recd fn a.tmps ps.toArray assign body w.heap.size .ready none))) (by simp)
      refine ⟨_, _, _, _, run_yield hrec (by simp [recd, hlen]), ?_⟩
      refine roundIn_of_wpIn trivial ?_
      have hfr1 : Fr ⟨a.tmps, []⟩ n [] l := ⟨hfr.size, hfr.slot, rfl⟩
      have hfr2 := Fr.params ps (ya k x) a.tmps l hfr1 hps
      have := hround R fn a.tmps (w.heap.size + 1) w.heap.size k x y hk hφ hψ (freeRound _) _ w1 hfr2 hs1
      unfold BR NoQ at this
      simpa [recd] using this
    · rintro e w' ⟨v, rfl, hend⟩
      rcases hend with ⟨y, hψ, hs⟩ | ⟨y, hψ, hs⟩
      · have hp := hs.pull (e := .obj (w.heap.size + 1) (.loop (recd fn a.tmps ps.toArray assign body w.heap.size .ready none))) (M := Lp ++ (.obj w.heap.size (.deferred (some [])) :: J N y)) (by
          have : ∀ (A B : List Ent) (e : Ent), At (A ++ (e :: B)) e (A ++ B) := by
            intro A B e
            induction A with
            | nil => exact .here
            | cons x A ih => exact .there ih
          exact this ..)
        refine ⟨_, _, run_endLoop hp.objAt (by simp [recd]), ?_⟩
        have hs2 := (hp.putObj (.loop (recd fn a.tmps ps.toArray assign body w.heap.size .exhausted none))).tail
        have hs3 := hs2.pull (e := .obj w.heap.size (.deferred (some []))) (M := Lp ++ J N y) (by
          have : ∀ (A B : List Ent) (e : Ent), At (A ++ (e :: B)) e (A ++ B) := by
            intro A B e
            induction A with
            | nil => exact .here
            | cons x A ih => exact .there ih
          exact this ..)
        exact hdone w.heap.size y hψ hF _ _ ⟨hfr.size, hfr.slot, by simp [mark, hfr.defers]⟩ hs3
      · have hp := hs.pull (e := .obj (w.heap.size + 1) (.loop (recd fn a.tmps ps.toArray assign body w.heap.size .done (some (jx y))))) (M := Lp ++ (.obj w.heap.size (.deferred (some [])) :: Jx y)) (by
          have : ∀ (A B : List Ent) (e : Ent), At (A ++ (e :: B)) e (A ++ B) := by
            intro A B e
            induction A with
            | nil => exact .here
            | cons x A ih => exact .there ih
          exact this ..)
        refine ⟨_, _, run_endLoop hp.objAt (by simp [recd]), ?_⟩
        have hs2 := (hp.putObj (.loop (recd fn a.tmps ps.toArray assign body w.heap.size .exhausted (some (jx y))))).tail
        have hs3 := hs2.pull (e := .obj w.heap.size (.deferred (some []))) (M := Lp ++ Jx y) (by
          have : ∀ (A B : List Ent) (e : Ent), At (A ++ (e :: B)) e (A ++ B) := by
            intro A B e
            induction A with
            | nil => exact .here
            | cons x A ih => exact .there ih
          exact this ..)
        exact hjump w.heap.size y hψ hF _ _ ⟨hfr.size, hfr.slot, by simp [mark, hfr.defers]⟩ hs3


end rules
section rules2
variable {F : Fence} {P : Program} {ops : Array Oper} {Q : Exit → Act → World → Prop} {rest : List Oper} {n : Nat} {D : List Deferred} {l : Env} {w0 : World} {L M : List Ent}
variable {d : Nat} {ty : TypeId} {pos : String} {aft : Array Edge}
/-- 'append(s, x)' where s has room. -/
theorem apIn {s x : Operand} {t T : TypeId} (hT : SliceTy P t T := by infer_instance) {agg : Bool} {size bytes : Nat} {z : Value} {zl : List Value} (hE : Ty P T agg size bytes z zl := by infer_instance) (hs1 : size = 1 := by rfl) {A2 : Option Addr} {g c c2 m : Nat} {cs : List Value} {v : Value}
    (ha : At L (.blk g T cs) M) (hr : Rds M A2 1 1 [[v]]) (h1 : v.oneCell' = true := by rfl) (hroom : m + 1 ≤ c) (hlen : c ≤ cs.length) (hs : ev l s = some (.slice (some ⟨g, 0, none⟩) m c) := by exact rfl) (hx : ev l x = some (.slice A2 1 c2) := by exact rfl)
    (hd : Nat.blt d n = true := by rfl)
    (h : WL F P ops Q rest n D ((d, .slice (some ⟨g, 0, none⟩) (m + 1) c) :: l) w0 (.blk g T (cs.set m v) :: M)) :
    WL F P ops Q (⟨some d, .call { callee := .builtin .append, args := #[s, x], argTypes := #[t, t] }, ty, pos, aft, none⟩ :: rest) n D l w0 L :=
  WL.value (X := Unit) (φ := fun _ => True) (val := fun _ => .slice (some ⟨g, 0, none⟩) (m + 1) c) (L' := fun _ => .blk g T (cs.set m v) :: M) (by simp) hd (fun ac w hfr hst => by
    have hp := hst.pull ha
    subst hs1
    have hrd := hp.tail.get hr
    obtain ⟨a, rfl⟩ := hrd.some_ (by omega)
    have hnews : ∀ j u, [v][j]? = some u → w.cell? (a.add j) = some u := fun j u hj => by
      cases j with
      | zero =>
        have := hrd.cell a rfl 0 [v] rfl 0 v rfl
        simp at hj; subst hj
        simpa using this
      | succ j => simp at hj
    have hfc := run_firstCells_some (P := P) w 1 1 a 1 c2 [v] rfl hnews
    obtain ⟨w', hrs, hs'⟩ := run_storeCells (P := P) [v] cs m 0 w hp (fun _ => by simp; omega) (fun u hu => by simp at hu; subst hu; exact h1)
    rw [Nat.add_zero] at hs'
    have hput : putAll cs m [v] = cs.set m v := by simp [putAll]
    rw [hput] at hs'
    refine ⟨(), w', trivial, ?_, hs'⟩
    have hadd : (⟨g, 0, none⟩ : Addr).add m = ⟨g, m, none⟩ := by rw [add_lit, Nat.zero_add]
    simp [execOp, resolve, invoke, builtin, hfr.eval hs, hfr.eval hx, Builtin.append_, run_underlying hT.und, run_sizeOf hE, Builtin.lenOf, hroom, hfc, hadd, hrs]) (fun _ _ => h)
/-- 'make(T, 0, m)'. -/
theorem mkc {x y : Operand} {t T : TypeId} (m : Nat) (hT : SliceTy P t T := by infer_instance) {agg : Bool} {size bytes : Nat} {z : Value} {zl : List Value} (hE : Ty P T agg size bytes z zl := by infer_instance) {kl kc : IntKind} (hx : ev l x = some (.int kl 0) := by exact rfl) (hy : ev l y = some (.int kc (m : Int)) := by exact rfl)
    (hb : bytes * m ≤ 281474976710656 := by omega) (hlm : m ≤ 9223372036854775807 := by omega) (hpos : 0 < size := by omega) (hd : Nat.blt d n = true := by rfl)
    (h : ∀ b, WL F P ops Q rest n D ((d, .slice (some ⟨b, 0, none⟩) 0 m) :: l) w0 (.blk b T (List.replicate m zl).flatten :: L)) : WL F P ops Q (⟨some d, .makeSlice t x y, ty, pos, aft, none⟩ :: rest) n D l w0 L :=
  WL.value (X := Nat) (φ := fun _ => True) (val := fun b => .slice (some ⟨b, 0, none⟩) 0 m) (L' := fun b => .blk b T (List.replicate m zl).flatten :: L) (by simp) hd (fun ac w hfr hst => by
    obtain ⟨i, hi, hi1, hi2, h3⟩ := ty_info hE
    have hzl : zl.length = size := hE.zs
    have hmade : madeCells z.cells (m * i.size) = (List.replicate m zl).flatten.toArray := by
      rw [hi1, hE.zc, ← hzl]
      exact Array.toList_inj.1 (by rw [made_flat zl (by omega) m])
    have hrun := run_make (P := P) (w := w) t T i z hT.und hi h3 kl kc 0 (m : Int) (Int.le_refl _) (by omega) (by rw [hi2, ← Int.natCast_mul]; omega) (by omega)
    rw [Int.toNat_natCast, hmade] at hrun
    refine ⟨w.heap.size, w.alloc (.cells (List.replicate m zl).flatten.toArray T), trivial, ?_, by simpa using hst.alloc T (List.replicate m zl).flatten.toArray⟩
    simp [execOp, hfr.eval hx, hfr.eval hy, hrun]) (fun b _ => h b)
/-- A call of a closure's value, of which the whole state is told. -/
theorem clX {f : FuncId} (hf : FnOk P f) {x : Operand} {fi cap : List Value} {xs : List Operand} {vs : List Value} {ts : Array TypeId} {Z : Type} {Φ : Z → Prop} {val : Z → Value} {post : Z → List Ent}
    (hx : ev l x = some (.func (.func f) fi.toArray cap.toArray)) (hargs : Evs l xs vs) (hc : ∀ w, St w0 w L → Calls P f (fi ++ vs ++ cap).toArray w fun e w' => ∃ z, Φ z ∧ e = .returned (val z) ∧ St w0 w' (post z)) (hd : Nat.blt d n = true)
    (h : ∀ z, Φ z → WL F P ops Q rest n D ((d, val z) :: l) w0 (post z)) :
    WL F P ops Q (⟨some d, .call { callee := .value x, args := xs.toArray, argTypes := ts }, ty, pos, aft, none⟩ :: rest) n D l w0 L :=
  WL.enter (by simp) hd fun a w hfr hst => ⟨run_callF hf hx hargs hfr w, Calls.mono (hc w hst) fun e w' ⟨z, hz, he, hs⟩ => ⟨val z, he, _, hs, h z hz⟩⟩
theorem ctnL {X : Type} {I : X → Prop} {le : X → Env} {Le : X → List Ent} (x : X) (hs : Sub (le x) l) (hL : SubL (Le x) L) (hI : I x) : WQ F P (Exit.then (MI I le Le n D w0) Q) .normal n D l w0 L := ctn x hI hs hL
end rules2
end Go.Proofs.Ytjkoaifjmcgpfaa
