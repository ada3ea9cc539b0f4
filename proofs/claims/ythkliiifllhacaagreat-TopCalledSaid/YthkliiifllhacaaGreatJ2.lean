/- The texts of the walk, part 2. -/
import Derived.Test.YthkliiifllhacaaGreatJ1
import Derived.Test.YthkliiifllhacaaGreatProg
import Derived.KernelRfl
namespace Go.Proofs.YthkliiifllhacaaGreat
open Go Go.RowKit

structure It2 (P : Program) (f : FuncId) (mk : Value → List Value) (Lp : List Ent) (N : Nat) {X : Type} (φ : Nat → X → Prop) (ya : Nat → X → List Value) (yL : Nat → X → List Ent) : Prop where
  out : ∀ {Y : Type} (ψ : Nat → Y → Prop) (J : Nat → Y → List Ent) (ψx : Y → Prop) (Jx : Y → List Ent) (w0 w : World) (lb : Nat) (y0 : Y), ψ 0 y0 → St w0 w (Lp ++ J 0 y0) →
    (∀ R k x y w, k < N → φ k x → ψ k y → St w0 w (yL k x ++ (Lp ++ (J k y ++ R))) → RoundOf P lb (ya k x) w (RR ψ (fun k y => J k y ++ R) ψx (fun y => Jx y ++ R) Lp w0 k)) →
    Calls P f (mk (.func (.yield lb) #[] #[])).toArray w fun e w' => ∃ v, e = .returned v ∧ ((∃ y, ψ N y ∧ St w0 w' (Lp ++ J N y)) ∨ ∃ y, ψx y ∧ St w0 w' (Lp ++ Jx y))

section rules
variable {P : Program} {ops : Array Oper} {Q : Exit → Act → World → Prop} {rest : List Oper} {n : Nat} {D : List Deferred} {l : Env} {w0 : World} {L M : List Ent}
theorem rf2 {f : FuncId} (hf : FnOk P f) {g : Operand} {ps : List Nat} {assign body : Code} {fi cap : List Value} {Lp : List Ent} {N : Nat} {X Y : Type} {φ : Nat → X → Prop} {ya : Nat → X → List Value} {yL : Nat → X → List Ent}
    (ψ : Nat → Y → Prop) (J : Nat → Y → List Ent) (ψx : Y → Prop) (jx : Y → Code) (Jx : Y → List Ent) (y0 : Y)
    (hit : It2 P f (fun v => fi ++ [v] ++ cap) Lp N φ ya yL) (hx : ev l g = some (.func (.func f) fi.toArray cap.toArray)) (hlen : ∀ k x, (ya k x).length = ps.length) (hps : ps.all (fun p => Nat.blt p n) = true)
    (h0 : ψ 0 y0) (hL : SubL (Lp ++ J 0 y0) L)
    (hround : ∀ (R : List Ent) (fn : FuncId) (tmps : Array Value) (lb rb : Nat) (k : Nat) (x : X) (y : Y), k < N → φ k x → ψ k y →
      WC (Fence.wide.inRound lb) P assign (Exit.then (BR P lb body (roundPost P lb (RR ψ (fun k y => .obj lb (.loop (recd fn tmps ps.toArray assign body rb .ready none)) :: .obj rb (.deferred (some [])) :: (J k y ++ R)) ψx
          (fun y => .obj lb (.loop (recd fn tmps ps.toArray assign body rb .done (some (jx y)))) :: .obj rb (.deferred (some [])) :: (Jx y ++ R)) Lp w0 k))) NoQ) n [] (zipE ps (ya k x) l) w0
        (yL k x ++ (Lp ++ (.obj lb (.loop (recd fn tmps ps.toArray assign body rb .ready none)) :: .obj rb (.deferred (some [])) :: (J k y ++ R)))))
    (hdone : ∀ rb y, ψ N y → WQ Fence.wide P Q .normal n (mark rb :: D) l w0 (.obj rb (.deferred (some [])) :: (Lp ++ J N y)))
    (hjump : ∀ rb y, ψx y → WC Fence.wide P (jx y) Q n (mark rb :: D) l w0 (.obj rb (.deferred (some [])) :: (Lp ++ Jx y))) : WC Fence.wide P (.rangeFunc g ps.toArray assign body) Q n D l w0 L := by
  intro hF a w hfr hst
  have hst0 := hst.sub hL
  refine wpIn_rangeFunc fun fn _ => ?_
  obtain ⟨W, hW⟩ : ∃ W, (w.alloc (.deferred (some []))).alloc (.loop { state := .ready, pending := none, fn, tmps := a.tmps, params := ps.toArray, assign, body, defers := w.heap.size }) = W := ⟨_, rfl⟩
  refine ⟨w.heap.size + 1, [{ target := .collected w.heap.size, args := #[] }], W, { target := .fn (.func f) cap.toArray, args := fi.toArray ++ #[Value.func (.yield (w.heap.size + 1)) #[] #[]] }, W, f, (fi ++ [Value.func (.yield (w.heap.size + 1)) #[] #[]] ++ cap).toArray, W,
    by rw [← hW]; exact run_enterLoop_outer fn a.tmps ps.toArray assign body, ?_, fun _ _ => trivial, ?_, fun h => (by cases h), ?_⟩
  · simp [resolve, Deferred.ofValue, hfr.eval hx]
    rfl
  · have := run_callFunc hf (fi ++ [Value.func (.yield (w.heap.size + 1)) #[] #[]] ++ cap).toArray W
    simpa [invoke] using this
  · subst hW
    have hst1 := (hst0.allocObj (.deferred (some []))).allocObj (.loop (recd fn a.tmps ps.toArray assign body w.heap.size .ready none))
    rw [World.size_alloc] at hst1
    have hsub : SubL (Lp ++ (.obj (w.heap.size + 1) (.loop (recd fn a.tmps ps.toArray assign body w.heap.size .ready none)) :: .obj w.heap.size (.deferred (some [])) :: J 0 y0))
        (.obj (w.heap.size + 1) (.loop (recd fn a.tmps ps.toArray assign body w.heap.size .ready none)) :: .obj w.heap.size (.deferred (some [])) :: (Lp ++ J 0 y0)) := by
      have : ∀ (A B : List Ent) (e e' : Ent), SubL (A ++ (e :: e' :: B)) (e :: e' :: (A ++ B)) := by
        intro A B e e'
        induction A with
        | nil => exact SubL.refl _
        | cons x A ih => exact .cons (.there (.there .here)) ih
      exact this ..
    refine callsIn_wide.2 (Calls.mono (hit.out ψ (fun k y => .obj (w.heap.size + 1) (.loop (recd fn a.tmps ps.toArray assign body w.heap.size .ready none)) :: .obj w.heap.size (.deferred (some [])) :: J k y) ψx (fun y => .obj (w.heap.size + 1) (.loop (recd fn a.tmps ps.toArray assign body w.heap.size .done (some (jx y)))) :: .obj w.heap.size (.deferred (some [])) :: Jx y) w0 _ (w.heap.size + 1) y0 h0 (hst1.sub hsub) ?_) ?_)
    · intro R k x y w1 hk hφ hψ hs1
      have hrec : w1.heap[w.heap.size + 1]? = some (.loop (recd fn a.tmps ps.toArray assign body w.heap.size .ready none)) := hs1.ok (.obj (w.heap.size + 1) (.loop (recd fn a.tmps ps.toArray assign body w.heap.size .ready none))) (by simp)
      refine ⟨_, _, _, _, run_yield hrec (by simp [recd, hlen]), ?_⟩
      refine roundIn_of_wpIn trivial ?_
      have hfr1 : Fr ⟨a.tmps, []⟩ n [] l := ⟨hfr.size, hfr.slot, rfl⟩
      have hfr2 := Fr.params ps (ya k x) a.tmps l hfr1 hps
      have := hround R fn a.tmps (w.heap.size + 1) w.heap.size k x y hk hφ hψ (freeRound _) _ w1 hfr2 hs1
      unfold BR NoQ at this
      simpa [recd] using this
    · rintro e w' ⟨v, rfl, hend⟩
      rcases hend with ⟨y, hψ, hs⟩ | ⟨y, hψ, hs⟩
      · have hp := hs.pull (e := .obj (w.heap.size + 1) (.loop (recd fn a.tmps ps.toArray assign body w.heap.size .ready none))) (M := Lp ++ (.obj w.heap.size (.deferred (some [])) :: J N y)) (by
          have : ∀ (A B : List Ent) (e : Ent), At (A ++ (e :: B)) e (A ++ B) := by
            intro A B e
            induction A with
            | nil => exact .here
            | cons x A ih => exact .there ih
          exact this ..)
        refine ⟨_, _, run_endLoop hp.objAt (by simp [recd]), ?_⟩
        have hs2 := (hp.putObj (.loop (recd fn a.tmps ps.toArray assign body w.heap.size .exhausted none))).tail
        have hs3 := hs2.pull (e := .obj w.heap.size (.deferred (some []))) (M := Lp ++ J N y) (by
          have : ∀ (A B : List Ent) (e : Ent), At (A ++ (e :: B)) e (A ++ B) := by
            intro A B e
            induction A with
            | nil => exact .here
            | cons x A ih => exact .there ih
          exact this ..)
        exact hdone w.heap.size y hψ hF _ _ ⟨hfr.size, hfr.slot, by simp [mark, hfr.defers]⟩ hs3
      · have hp := hs.pull (e := .obj (w.heap.size + 1) (.loop (recd fn a.tmps ps.toArray assign body w.heap.size .done (some (jx y))))) (M := Lp ++ (.obj w.heap.size (.deferred (some [])) :: Jx y)) (by
          have : ∀ (A B : List Ent) (e : Ent), At (A ++ (e :: B)) e (A ++ B) := by
            intro A B e
            induction A with
            | nil => exact .here
            | cons x A ih => exact .there ih
          exact this ..)
        refine ⟨_, _, run_endLoop hp.objAt (by simp [recd]), ?_⟩
        have hs2 := (hp.putObj (.loop (recd fn a.tmps ps.toArray assign body w.heap.size .exhausted (some (jx y))))).tail
        have hs3 := hs2.pull (e := .obj w.heap.size (.deferred (some []))) (M := Lp ++ Jx y) (by
          have : ∀ (A B : List Ent) (e : Ent), At (A ++ (e :: B)) e (A ++ B) := by
            intro A B e
            induction A with
            | nil => exact .here
            | cons x A ih => exact .there ih
          exact this ..)
        exact hjump w.heap.size y hψ hF _ _ ⟨hfr.size, hfr.slot, by simp [mark, hfr.defers]⟩ hs3


end rules
section rules2
variable {F : Fence} {P : Program} {ops : Array Oper} {Q : Exit → Act → World → Prop} {rest : List Oper} {n : Nat} {D : List Deferred} {l : Env} {w0 : World} {L M : List Ent}
variable {d : Nat} {ty : TypeId} {pos : String} {aft : Array Edge}
theorem apIn {s x : Operand} {t T : TypeId} (hT : SliceTy P t T := by infer_instance) {agg : Bool} {size bytes : Nat} {z : Value} {zl : List Value} (hE : Ty P T agg size bytes z zl := by infer_instance) (hs1 : size = 1 := by rfl) {A2 : Option Addr} {g c c2 m : Nat} {cs : List Value} {v : Value}
    (ha : At L (.blk g T cs) M) (hr : Rds M A2 1 1 [[v]]) (h1 : v.oneCell' = true := by rfl) (hroom : m + 1 ≤ c) (hlen : c ≤ cs.length) (hs : ev l s = some (.slice (some ⟨g, 0, none⟩) m c) := by exact rfl) (hx : ev l x = some (.slice A2 1 c2) := by exact rfl)
    (hd : Nat.blt d n = true := by rfl)
    (h : WL F P ops Q rest n D ((d, .slice (some ⟨g, 0, none⟩) (m + 1) c) :: l) w0 (.blk g T (cs.set m v) :: M)) :
    WL F P ops Q (⟨some d, .call { callee := .builtin .append, args := #[s, x], argTypes := #[t, t] }, ty, pos, aft, none⟩ :: rest) n D l w0 L :=
  WL.value (X := Unit) (φ := fun _ => True) (val := fun _ => .slice (some ⟨g, 0, none⟩) (m + 1) c) (L' := fun _ => .blk g T (cs.set m v) :: M) (by simp) hd (fun ac w hfr hst => by
    have hp := hst.pull ha
    subst hs1
    have hrd := hp.tail.get hr
    obtain ⟨a, rfl⟩ := hrd.some_ (by omega)
    have hnews : ∀ j u, [v][j]? = some u → w.cell? (a.add j) = some u := fun j u hj => by
      cases j with
      | zero =>
        have := hrd.cell a rfl 0 [v] rfl 0 v rfl
        simp at hj; subst hj
        simpa using this
      | succ j => simp at hj
    have hfc := run_firstCells_some (P := P) w 1 1 a 1 c2 [v] rfl hnews
    obtain ⟨w', hrs, hs'⟩ := run_storeCells (P := P) [v] cs m 0 w hp (fun _ => by simp; omega) (fun u hu => by simp at hu; subst hu; exact h1)
    rw [Nat.add_zero] at hs'
    have hput : putAll cs m [v] = cs.set m v := by simp [putAll]
    rw [hput] at hs'
    refine ⟨(), w', trivial, ?_, hs'⟩
    have hadd : (⟨g, 0, none⟩ : Addr).add m = ⟨g, m, none⟩ := by rw [add_lit, Nat.zero_add]
    simp [execOp, resolve, invoke, builtin, hfr.eval hs, hfr.eval hx, Builtin.append_, run_underlying hT.und, run_sizeOf hE, Builtin.lenOf, hroom, hfc, hadd, hrs]) (fun _ _ => h)
theorem mkc {x y : Operand} {t T : TypeId} (m : Nat) (hT : SliceTy P t T := by infer_instance) {agg : Bool} {size bytes : Nat} {z : Value} {zl : List Value} (hE : Ty P T agg size bytes z zl := by infer_instance) {kl kc : IntKind} (hx : ev l x = some (.int kl 0) := by exact rfl) (hy : ev l y = some (.int kc (m : Int)) := by exact rfl)
    (hb : bytes * m ≤ 281474976710656 := by omega) (hlm : m ≤ 9223372036854775807 := by omega) (hpos : 0 < size := by omega) (hd : Nat.blt d n = true := by rfl)
    (h : ∀ b, WL F P ops Q rest n D ((d, .slice (some ⟨b, 0, none⟩) 0 m) :: l) w0 (.blk b T (List.replicate m zl).flatten :: L)) : WL F P ops Q (⟨some d, .makeSlice t x y, ty, pos, aft, none⟩ :: rest) n D l w0 L :=
  WL.value (X := Nat) (φ := fun _ => True) (val := fun b => .slice (some ⟨b, 0, none⟩) 0 m) (L' := fun b => .blk b T (List.replicate m zl).flatten :: L) (by simp) hd (fun ac w hfr hst => by
    obtain ⟨i, hi, hi1, hi2, h3⟩ := ty_info hE
    have hzl : zl.length = size := hE.zs
    have hmade : madeCells z.cells (m * i.size) = (List.replicate m zl).flatten.toArray := by
      rw [hi1, hE.zc, ← hzl]
      exact Array.toList_inj.1 (by rw [made_flat zl (by omega) m])
    have hrun := run_make (P := P) (w := w) t T i z hT.und hi h3 kl kc 0 (m : Int) (Int.le_refl _) (by omega) (by rw [hi2, ← Int.natCast_mul]; omega) (by omega)
    rw [Int.toNat_natCast, hmade] at hrun
    refine ⟨w.heap.size, w.alloc (.cells (List.replicate m zl).flatten.toArray T), trivial, ?_, by simpa using hst.alloc T (List.replicate m zl).flatten.toArray⟩
    simp [execOp, hfr.eval hx, hfr.eval hy, hrun]) (fun b _ => h b)
theorem clX {f : FuncId} (hf : FnOk P f) {x : Operand} {fi cap : List Value} {xs : List Operand} {vs : List Value} {ts : Array TypeId} {Z : Type} {Φ : Z → Prop} {val : Z → Value} {post : Z → List Ent}
    (hx : ev l x = some (.func (.func f) fi.toArray cap.toArray)) (hargs : Evs l xs vs) (hc : ∀ w, St w0 w L → Calls P f (fi ++ vs ++ cap).toArray w fun e w' => ∃ z, Φ z ∧ e = .returned (val z) ∧ St w0 w' (post z)) (hd : Nat.blt d n = true)
    (h : ∀ z, Φ z → WL F P ops Q rest n D ((d, val z) :: l) w0 (post z)) :
    WL F P ops Q (⟨some d, .call { callee := .value x, args := xs.toArray, argTypes := ts }, ty, pos, aft, none⟩ :: rest) n D l w0 L :=
  WL.enter (by simp) hd fun a w hfr hst => ⟨run_callF hf hx hargs hfr w, Calls.mono (hc w hst) fun e w' ⟨z, hz, he, hs⟩ => ⟨val z, he, _, hs, h z hz⟩⟩
theorem ctnL {X : Type} {I : X → Prop} {le : X → Env} {Le : X → List Ent} (x : X) (hs : Sub (le x) l) (hL : SubL (Le x) L) (hI : I x) : WQ F P (Exit.then (MI I le Le n D w0) Q) .normal n D l w0 L := ctn x hI hs hL
end rules2
end Go.Proofs.YthkliiifllhacaaGreat

namespace Go.Proofs.YthkliiifllhacaaGreat
open Go Go.RowKit

section
variable {F : Fence} {P : Program} {ops : Array Oper} {Q : Exit → Act → World → Prop} {rest : List Oper} {n : Nat} {D : List Deferred} {l : Env} {w0 : World} {L M : List Ent}
variable {d : Nat} {ty : TypeId} {pos : String} {aft : Array Edge}

theorem stP {x y : Operand} {t : TypeId} {size bytes : Nat} {z : Value} {zl : List Value} (hT : Ty P t true size bytes z zl := by infer_instance) {b o : Nat} {T : TypeId} {cs vs : List Value}
    (hx : ev l x = some (.pointer (some ⟨b, o, none⟩)) := by exact rfl) (hy : ev l y = some (.agg vs.toArray) := by exact rfl) (h1 : ∀ v ∈ vs, v.oneCell' = true) (hsz : vs.length = size)
    (ha : At L (.blk b T cs) M := by repeat (first | exact At.here | apply At.there)) (ho : o + vs.length ≤ cs.length)
    (h : WL F P ops Q rest n D l w0 (.blk b T (putAll cs o vs) :: M)) : WL F P ops Q (⟨none, .store t x y, ty, pos, aft, none⟩ :: rest) n D l w0 L :=
  WL.skipop (by simp) (fun ac w hfr hst => by
    obtain ⟨w', hr, hs⟩ := run_storeCells (P := P) vs cs o 0 w (hst.pull ha) (fun _ => by omega) h1
    rw [Nat.add_zero] at hs
    refine ⟨w', ?_, hs⟩
    simp [execOp, hfr.eval hx, hfr.eval hy, Instr.storeAt, Instr.sureAddr, storeVar, run_sizeOf hT, Value.cells, hsz, hr]) h
theorem WL.blkTo {b : Nat} {T : TypeId} {cs : List Value} (cs' : List Value) (ha : At L (.blk b T cs) M) (he : cs = cs') (h : WL F P ops Q rest n D l w0 (.blk b T cs' :: M)) : WL F P ops Q rest n D l w0 L := fun hF a w hfr hst => h hF a w hfr (by
  subst he
  exact hst.sub (.cons ha (SubL.refl _)))
theorem Tk.all {α : Type} : ∀ cs : List α, Tk cs 0 cs.length cs
  | [] => .nil
  | _ :: cs => .cons (Tk.all cs)
theorem rd_blkA {w : World} {b o : Nat} {T : TypeId} {cs : List Value} (h : (Ent.blk b T cs).ok w) {size m : Nat} {es : List (List Value)} (hl : es.length = m) (he : ∀ c ∈ es, c.length = size) (ho : ∀ c ∈ es, ∀ v ∈ c, v.oneCell' = true)
    (hc : ∀ k c, es[k]? = some c → ∀ j v, c[j]? = some v → cs[o + (k * size + j)]? = some v) : Rd w (some ⟨b, o, none⟩) size m es := by
  refine ⟨hl, he, fun _ => ⟨_, rfl⟩, fun ad ha k c hk j v hj => ?_, ho⟩
  cases ha
  rw [add_lit, cell_of_row w b _ _ T (0, 0) h]
  simpa using hc k c hk j v hj
end
end Go.Proofs.YthkliiifllhacaaGreat

namespace Go.Proofs.YthkliiifllhacaaGreat
open Go Go.RowKit

section
variable {F : Fence} {P : Program} {ops : Array Oper} {Q : Exit → Act → World → Prop} {rest : List Oper} {n : Nat} {D : List Deferred} {l : Env} {w0 : World} {L M : List Ent}
theorem St.getRowF {w : World} {fr : Bool} {rs : List Row} {r : Row} (h : St w0 w (manyE fr rs :: M)) (hr : r ∈ rs) : St w0 w (.ro r.A r.size r.n r.es :: manyE fr rs :: M) := by
  have hp := List.pairwise_cons.1 h.sep
  refine ⟨h.below, fun x hx => ?_, fun x hx hf k hk => ?_, List.pairwise_cons.2 ⟨fun x hx ho k hk hk' => ?_, h.sep⟩⟩
  · rcases List.mem_cons.1 hx with rfl | hx
    · exact h.ok (manyE fr rs) (by simp) r hr
    · exact h.ok x hx
  · rcases List.mem_cons.1 hx with rfl | hx
    · cases hf
    · exact h.new x hx hf k hk
  · rcases List.mem_cons.1 hx with rfl | hx
    · rcases ho with h1 | h1 <;> cases h1
    · exact hp.1 x hx (ho.imp (fun h => (by cases h)) id) k ⟨r, hr, hk⟩ hk'
theorem WC.getRowF {c : Code} {fr : Bool} {rs : List Row} {r : Row} (hr : r ∈ rs) (ha : At L (manyE fr rs) M) (h : WC F P c Q n D l w0 (.ro r.A r.size r.n r.es :: manyE fr rs :: M)) : WC F P c Q n D l w0 L := fun hF a w hfr hst => h hF a w hfr ((hst.pull ha).getRowF hr)
theorem WL.getRowF {fr : Bool} {rs : List Row} {r : Row} (hr : r ∈ rs) (ha : At L (manyE fr rs) M) (h : WL F P ops Q rest n D l w0 (.ro r.A r.size r.n r.es :: manyE fr rs :: M)) : WL F P ops Q rest n D l w0 L := fun hF a w hfr hst => h hF a w hfr ((hst.pull ha).getRowF hr)
theorem St.manyOld {w : World} (h : St w0 w L) {rs : List Row} (hr : ∀ r ∈ rs, Rd w0 r.A r.size r.n r.es) : St w0 w (manyE false rs :: L) := by
  have hlt : ∀ b, (manyE false rs).fp b → b < w0.heap.size := fun b hb => Ent.ok_lt (e := manyE false rs) hr hb
  refine ⟨h.below, fun x hx => ?_, fun x hx hf b hb => ?_, List.pairwise_cons.2 ⟨fun x hx hor b hb hb' => ?_, h.sep⟩⟩
  · rcases List.mem_cons.1 hx with rfl | hx
    · exact Ent.ok_frame (e := manyE false rs) hr fun b hb => h.below.b.block b (hlt b hb)
    · exact h.ok x hx
  · rcases List.mem_cons.1 hx with rfl | hx
    · cases hf
    · exact h.new x hx hf b hb
  · rcases hor with hor | hor
    · cases hor
    · have h1 := h.new x hx (Ent.fresh_of_excl hor) b hb'
      have h2 := hlt b hb
      omega
theorem WC.manyOld {c : Code} {rs : List Row} (hr : ∀ r ∈ rs, Rd w0 r.A r.size r.n r.es) (h : WC F P c Q n D l w0 (manyE false rs :: L)) : WC F P c Q n D l w0 L := fun hF a w hfr hst => h hF a w hfr (hst.manyOld hr)
theorem WL.manyOld {rs : List Row} (hr : ∀ r ∈ rs, Rd w0 r.A r.size r.n r.es) (h : WL F P ops Q rest n D l w0 (manyE false rs :: L)) : WL F P ops Q rest n D l w0 L := fun hF a w hfr hst => h hF a w hfr (hst.manyOld hr)
end
/-! #### short names of steps -/
section
variable {F : Fence} {P : Program} {ops : Array Oper} {Q : Exit → Act → World → Prop} {rest : List Oper} {n : Nat} {D : List Deferred} {l : Env} {w0 : World} {L : List Ent} {d : Nat} {ty : TypeId} {pos : String} {aft : Array Edge} {op : Op} {v : Value}
theorem ww (h : WL F P ops Q rest n D ((d, v) :: l) w0 L) (hy : Yd P n D l w0 L op v := by first | exact fa | exact faE | exact mv | exact ld | exact ldE | exact asg | exact ldA | exact ldEA | exact pkT | exact pkF | exact addI | exact eql | exact bd | exact ex | exact nck | exact lenS | exact lss | exact notB | exact subI | exact geq | exact neq | exact gtr | exact leq | exact remI | exact mulI | exact maxI | exact quoI | exact mkf | exact minI) (hd : Nat.blt d n = true := by rfl) : WL F P ops Q (⟨some d, op, ty, pos, aft, none⟩ :: rest) n D l w0 L := WL.y hy hd h
theorem uz {dst : Option Nat} {j g : Nat} {b : Bool} (h : WL F P ops Q (⟨dst, op, ty, pos, aft, none⟩ :: rest) n D l w0 L) (hg : gsl ops j = some g := by exact rfl) (hv : look l g = some (.bool b) := by exact rfl) : WL F P ops Q (⟨dst, op, ty, pos, aft, some (j, b)⟩ :: rest) n D l w0 L := un hg hv h
theorem uw {j g : Nat} {b : Bool} (h : WL F P ops Q rest n D ((d, v) :: l) w0 L) (hg : gsl ops j = some g := by exact rfl) (hv : look l g = some (.bool b) := by exact rfl) (hy : Yd P n D l w0 L op v := by first | exact fa | exact faE | exact mv | exact ld | exact ldE | exact asg | exact ldA | exact ldEA | exact pkT | exact pkF | exact addI | exact eql | exact bd | exact ex | exact nck | exact lenS | exact lss | exact notB | exact subI | exact geq | exact neq | exact gtr | exact leq | exact remI | exact mulI | exact maxI | exact quoI | exact mkf | exact minI) (hd : Nat.blt d n = true := by rfl) : WL F P ops Q (⟨some d, op, ty, pos, aft, some (j, b)⟩ :: rest) n D l w0 L := un hg hv (WL.y hy hd h)
theorem kz {j g : Nat} {b : Bool} {v : Value} (h : WL F P ops Q rest n D ((d, undef) :: l) w0 L) (hg : gsl ops j = some g := by exact rfl) (hv : look l g = some v := by exact rfl) (hn : noB b v = true := by exact rfl) (hd : Nat.blt d n = true := by rfl) : WL F P ops Q (⟨some d, op, ty, pos, aft, some (j, b)⟩ :: rest) n D l w0 L := sk hg hv hn hd h
theorem wz (h : WL F P ops Q rest n D ((d, v) :: l) w0 L) (hy : Yd P n D l w0 L op v := by first | exact pkF | exact pkT) (hd : Nat.blt d n = true := by rfl) : WL F P ops Q (⟨some d, op, ty, pos, aft, none⟩ :: rest) n D l w0 L := WL.y hy hd h
theorem sr {id : Nat} {os : List Oper} {y : Code} (h : WL F P os.toArray (Exit.then (y.wpIn F 0 P Q) Q) os n D l w0 L) : WC F P (.seq (.region id os.toArray false) y) Q n D l w0 L := sq (rg h)
theorem nq {y : Code} (h : WC F P y Q n D l w0 L) : WL F P ops (Exit.then (y.wpIn F 0 P Q) Q) [] n D l w0 L := nl (q_seq h)
theorem nr {id : Nat} {os : List Oper} {y : Code} (h : WL F P os.toArray (Exit.then (y.wpIn F 0 P Q) Q) os n D l w0 L) : WL F P ops (Exit.then ((Code.seq (.region id os.toArray false) y).wpIn F 0 P Q) Q) [] n D l w0 L := nq (sr h)
theorem czz {c : Operand} {x y : Code} {b : Bool} (ht : b = true → WC F P x Q n D l w0 L) (hf : b = false → WC F P y Q n D l w0 L) (hc : ev l c = some (.bool b) := by exact rfl) : WC F P (.cond c x y) Q n D l w0 L := cd hc ht hf
theorem tw {held : List (Nat × Ent)} {fuel : Nat} {listed : Array Bool} (i : Nat) {gd : Option (Nat × Bool)} {E : List Ent} (h : WH F P ops Q held fuel (listed.setIfInBounds i true) n D ((d, v) :: l) w0 L)
    (hi : ops[i]? = some ⟨some d, op, ty, pos, aft, gd⟩ := by exact rfl) (hg : gd = none ∨ ∃ j b g, gd = some (j, b) ∧ gsl ops j = some g ∧ look l g = some (.bool b) := by first | exact .inl rfl | exact .inr ⟨_, _, _, rfl, rfl, rfl⟩)
    (hE : HE ops i held E := by repeat (first | exact HE.nil | (apply HE.keep; exact rfl) | apply HE.drop)) (hy : Yd P n D l w0 E op v := by first | exact fa | exact faE | exact mv | exact ld | exact ldE | exact asg | exact ldA | exact ldEA | exact pkT | exact pkF | exact addI | exact eql | exact bd | exact ex | exact nck | exact lenS | exact lss | exact notB | exact subI | exact geq | exact neq | exact gtr | exact leq | exact remI | exact mulI | exact maxI | exact quoI | exact mkf | exact minI)
    (hc : (plainOps ops && Region.free .any ops listed i && (Region.ready .any ops listed).contains i) = true := by kernel_rfl) (hne : (held.map (·.1)).all (fun k => !Nat.beq k i) = true := by exact rfl)
    (hl : ((held.map (·.1)).all fun k => !waits ops k i || !listed.getD k false) = true := by exact rfl) (hd : Nat.blt d n = true := by rfl) : WH F P ops Q held (fuel + 1) listed n D l w0 L := tk i hi hg hE hy hc hne hl hd h
end
end Go.Proofs.YthkliiifllhacaaGreat

namespace Go.Proofs.YthkliiifllhacaaGreat
open Go

-- 1 func()
instance : Ty Tryz.prog 1 false 1 8 (.nilFunc) [.nilFunc] := ⟨by kernel_rfl, by kernel_rfl, rfl, rfl⟩
-- 2 int64
instance : Ty Tryz.prog 2 false 1 8 (.int .i64 0) [.int .i64 0] := ⟨by kernel_rfl, by kernel_rfl, rfl, rfl⟩
-- 3 int
instance : Ty Tryz.prog 3 false 1 8 (.int .i64 0) [.int .i64 0] := ⟨by kernel_rfl, by kernel_rfl, rfl, rfl⟩
-- 4 bool
instance : Ty Tryz.prog 4 false 1 1 (.bool false) [.bool false] := ⟨by kernel_rfl, by kernel_rfl, rfl, rfl⟩
-- 5 uint8
instance : Ty Tryz.prog 5 false 1 1 (.int .u8 0) [.int .u8 0] := ⟨by kernel_rfl, by kernel_rfl, rfl, rfl⟩
-- 7 struct { x int64; y int; signed bool; code abi.BoundsErrorCode }
instance : Ty Tryz.prog 7 true 4 24 (.agg #[.int .i64 0, .int .i64 0, .bool false, .int .u8 0]) [.int .i64 0, .int .i64 0, .bool false, .int .u8 0] := ⟨by kernel_rfl, by kernel_rfl, rfl, rfl⟩
instance : FieldTy Tryz.prog 7 0 0 2 0 := ⟨by kernel_rfl, by kernel_rfl⟩
instance : FieldTy Tryz.prog 7 1 1 3 0 := ⟨by kernel_rfl, by kernel_rfl⟩
instance : FieldTy Tryz.prog 7 2 2 4 0 := ⟨by kernel_rfl, by kernel_rfl⟩
instance : FieldTy Tryz.prog 7 3 3 6 0 := ⟨by kernel_rfl, by kernel_rfl⟩
instance : BuildTy Tryz.prog 7 [(0, 1), (1, 1), (2, 1), (3, 1)] [.int .i64 0, .int .i64 0, .bool false, .int .u8 0] := ⟨fun parts => by kernel_rfl⟩
-- 9 string
instance : Ty Tryz.prog 9 false 1 16 (.string ByteArray.empty) [.string ByteArray.empty] := ⟨by kernel_rfl, by kernel_rfl, rfl, rfl⟩
-- 12 uintptr
instance : Ty Tryz.prog 12 false 1 8 (.int .u64 0) [.int .u64 0] := ⟨by kernel_rfl, by kernel_rfl, rfl, rfl⟩
-- 13 struct { msg string; addr uintptr }
instance : Ty Tryz.prog 13 true 2 24 (.agg #[.string ByteArray.empty, .int .u64 0]) [.string ByteArray.empty, .int .u64 0] := ⟨by kernel_rfl, by kernel_rfl, rfl, rfl⟩
instance : FieldTy Tryz.prog 13 0 0 9 0 := ⟨by kernel_rfl, by kernel_rfl⟩
instance : FieldTy Tryz.prog 13 1 1 12 0 := ⟨by kernel_rfl, by kernel_rfl⟩
instance : BuildTy Tryz.prog 13 [(0, 1), (1, 1)] [.string ByteArray.empty, .int .u64 0] := ⟨fun parts => by kernel_rfl⟩
-- 18 struct { typ *abi.Type }
instance : Ty Tryz.prog 18 true 1 8 (.agg #[.pointer none]) [.pointer none] := ⟨by kernel_rfl, by kernel_rfl, rfl, rfl⟩
instance : FieldTy Tryz.prog 18 0 0 17 0 := ⟨by kernel_rfl, by kernel_rfl⟩
instance : BuildTy Tryz.prog 18 [(0, 1)] [.pointer none] := ⟨fun parts => by kernel_rfl⟩
-- 20 
instance : Ty Tryz.prog 20 false 1 16 (.nilIface) [.nilIface] := ⟨by kernel_rfl, by kernel_rfl, rfl, rfl⟩
-- 21 int32
instance : Ty Tryz.prog 21 false 1 4 (.int .i32 0) [.int .i32 0] := ⟨by kernel_rfl, by kernel_rfl, rfl, rfl⟩
-- 22 []api.Report
instance : Ty Tryz.prog 22 false 1 24 (.slice none 0 0) [.slice none 0 0] := ⟨by kernel_rfl, by kernel_rfl, rfl, rfl⟩
instance : SliceTy Tryz.prog 22 90 := ⟨by kernel_rfl⟩
-- 23 []api.Absence
instance : Ty Tryz.prog 23 false 1 24 (.slice none 0 0) [.slice none 0 0] := ⟨by kernel_rfl, by kernel_rfl, rfl, rfl⟩
instance : SliceTy Tryz.prog 23 115 := ⟨by kernel_rfl⟩
-- 24 struct { Players int; Counts int; Reports []api.Report; Bans []api.Absence; Frozen []api.Absence }
instance : Ty Tryz.prog 24 true 5 88 (.agg #[.int .i64 0, .int .i64 0, .slice none 0 0, .slice none 0 0, .slice none 0 0]) [.int .i64 0, .int .i64 0, .slice none 0 0, .slice none 0 0, .slice none 0 0] := ⟨by kernel_rfl, by kernel_rfl, rfl, rfl⟩
instance : FieldTy Tryz.prog 24 0 0 3 0 := ⟨by kernel_rfl, by kernel_rfl⟩
instance : FieldTy Tryz.prog 24 1 1 3 0 := ⟨by kernel_rfl, by kernel_rfl⟩
instance : FieldTy Tryz.prog 24 2 2 22 0 := ⟨by kernel_rfl, by kernel_rfl⟩
instance : FieldTy Tryz.prog 24 3 3 23 0 := ⟨by kernel_rfl, by kernel_rfl⟩
instance : FieldTy Tryz.prog 24 4 4 23 0 := ⟨by kernel_rfl, by kernel_rfl⟩
instance : BuildTy Tryz.prog 24 [(0, 1), (1, 1), (2, 1), (3, 1), (4, 1)] [.int .i64 0, .int .i64 0, .slice none 0 0, .slice none 0 0, .slice none 0 0] := ⟨fun parts => by kernel_rfl⟩
-- 25 deuce/api.Ledger
instance : Ty Tryz.prog 25 true 5 88 (.agg #[.int .i64 0, .int .i64 0, .slice none 0 0, .slice none 0 0, .slice none 0 0]) [.int .i64 0, .int .i64 0, .slice none 0 0, .slice none 0 0, .slice none 0 0] := ⟨by kernel_rfl, by kernel_rfl, rfl, rfl⟩
instance : FieldTy Tryz.prog 25 0 0 3 0 := ⟨by kernel_rfl, by kernel_rfl⟩
instance : FieldTy Tryz.prog 25 1 1 3 0 := ⟨by kernel_rfl, by kernel_rfl⟩
instance : FieldTy Tryz.prog 25 2 2 22 0 := ⟨by kernel_rfl, by kernel_rfl⟩
instance : FieldTy Tryz.prog 25 3 3 23 0 := ⟨by kernel_rfl, by kernel_rfl⟩
instance : FieldTy Tryz.prog 25 4 4 23 0 := ⟨by kernel_rfl, by kernel_rfl⟩
instance : BuildTy Tryz.prog 25 [(0, 1), (1, 1), (2, 1), (3, 1), (4, 1)] [.int .i64 0, .int .i64 0, .slice none 0 0, .slice none 0 0, .slice none 0 0] := ⟨fun parts => by kernel_rfl⟩
-- 26 []int
instance : Ty Tryz.prog 26 false 1 24 (.slice none 0 0) [.slice none 0 0] := ⟨by kernel_rfl, by kernel_rfl, rfl, rfl⟩
instance : SliceTy Tryz.prog 26 3 := ⟨by kernel_rfl⟩
-- 27 struct { Week int; Nations []int; Lots []int }
instance : Ty Tryz.prog 27 true 3 56 (.agg #[.int .i64 0, .slice none 0 0, .slice none 0 0]) [.int .i64 0, .slice none 0 0, .slice none 0 0] := ⟨by kernel_rfl, by kernel_rfl, rfl, rfl⟩
instance : FieldTy Tryz.prog 27 0 0 3 0 := ⟨by kernel_rfl, by kernel_rfl⟩
instance : FieldTy Tryz.prog 27 1 1 26 0 := ⟨by kernel_rfl, by kernel_rfl⟩
instance : FieldTy Tryz.prog 27 2 2 26 0 := ⟨by kernel_rfl, by kernel_rfl⟩
instance : BuildTy Tryz.prog 27 [(0, 1), (1, 1), (2, 1)] [.int .i64 0, .slice none 0 0, .slice none 0 0] := ⟨fun parts => by kernel_rfl⟩
-- 28 deuce/deucetop.Ballot
instance : Ty Tryz.prog 28 true 3 56 (.agg #[.int .i64 0, .slice none 0 0, .slice none 0 0]) [.int .i64 0, .slice none 0 0, .slice none 0 0] := ⟨by kernel_rfl, by kernel_rfl, rfl, rfl⟩
instance : FieldTy Tryz.prog 28 0 0 3 0 := ⟨by kernel_rfl, by kernel_rfl⟩
instance : FieldTy Tryz.prog 28 1 1 26 0 := ⟨by kernel_rfl, by kernel_rfl⟩
instance : FieldTy Tryz.prog 28 2 2 26 0 := ⟨by kernel_rfl, by kernel_rfl⟩
instance : BuildTy Tryz.prog 28 [(0, 1), (1, 1), (2, 1)] [.int .i64 0, .slice none 0 0, .slice none 0 0] := ⟨fun parts => by kernel_rfl⟩
-- 29 func(api.Ledger) bool
instance : Ty Tryz.prog 29 false 1 8 (.nilFunc) [.nilFunc] := ⟨by kernel_rfl, by kernel_rfl, rfl, rfl⟩
-- 30 deuce/api.Errno
instance : Ty Tryz.prog 30 false 1 8 (.int .i64 0) [.int .i64 0] := ⟨by kernel_rfl, by kernel_rfl, rfl, rfl⟩
-- 31 func(api.Ledger) api.Errno
instance : Ty Tryz.prog 31 false 1 8 (.nilFunc) [.nilFunc] := ⟨by kernel_rfl, by kernel_rfl, rfl, rfl⟩
-- 32 func() bool
instance : Ty Tryz.prog 32 false 1 8 (.nilFunc) [.nilFunc] := ⟨by kernel_rfl, by kernel_rfl, rfl, rfl⟩
-- 34 func(api.Ledger, int) ([]int, api.Errno)
instance : Ty Tryz.prog 34 false 1 8 (.nilFunc) [.nilFunc] := ⟨by kernel_rfl, by kernel_rfl, rfl, rfl⟩
-- 35 []api.Person
instance : Ty Tryz.prog 35 false 1 24 (.slice none 0 0) [.slice none 0 0] := ⟨by kernel_rfl, by kernel_rfl, rfl, rfl⟩
instance : SliceTy Tryz.prog 35 103 := ⟨by kernel_rfl⟩
-- 36 struct { Size int; Seeds int; Persons []api.Person; Lots []int }
instance : Ty Tryz.prog 36 true 4 64 (.agg #[.int .i64 0, .int .i64 0, .slice none 0 0, .slice none 0 0]) [.int .i64 0, .int .i64 0, .slice none 0 0, .slice none 0 0] := ⟨by kernel_rfl, by kernel_rfl, rfl, rfl⟩
instance : FieldTy Tryz.prog 36 0 0 3 0 := ⟨by kernel_rfl, by kernel_rfl⟩
instance : FieldTy Tryz.prog 36 1 1 3 0 := ⟨by kernel_rfl, by kernel_rfl⟩
instance : FieldTy Tryz.prog 36 2 2 35 0 := ⟨by kernel_rfl, by kernel_rfl⟩
instance : FieldTy Tryz.prog 36 3 3 26 0 := ⟨by kernel_rfl, by kernel_rfl⟩
instance : BuildTy Tryz.prog 36 [(0, 1), (1, 1), (2, 1), (3, 1)] [.int .i64 0, .int .i64 0, .slice none 0 0, .slice none 0 0] := ⟨fun parts => by kernel_rfl⟩
-- 37 deuce/api.Plan
instance : Ty Tryz.prog 37 true 4 64 (.agg #[.int .i64 0, .int .i64 0, .slice none 0 0, .slice none 0 0]) [.int .i64 0, .int .i64 0, .slice none 0 0, .slice none 0 0] := ⟨by kernel_rfl, by kernel_rfl, rfl, rfl⟩
instance : FieldTy Tryz.prog 37 0 0 3 0 := ⟨by kernel_rfl, by kernel_rfl⟩
instance : FieldTy Tryz.prog 37 1 1 3 0 := ⟨by kernel_rfl, by kernel_rfl⟩
instance : FieldTy Tryz.prog 37 2 2 35 0 := ⟨by kernel_rfl, by kernel_rfl⟩
instance : FieldTy Tryz.prog 37 3 3 26 0 := ⟨by kernel_rfl, by kernel_rfl⟩
instance : BuildTy Tryz.prog 37 [(0, 1), (1, 1), (2, 1), (3, 1)] [.int .i64 0, .int .i64 0, .slice none 0 0, .slice none 0 0] := ⟨fun parts => by kernel_rfl⟩
-- 39 func([]int, deucetop.Ballot) (api.Plan, bool)
instance : Ty Tryz.prog 39 false 1 8 (.nilFunc) [.nilFunc] := ⟨by kernel_rfl, by kernel_rfl, rfl, rfl⟩
-- 40 func(api.Plan) ([]int, api.Errno)
instance : Ty Tryz.prog 40 false 1 8 (.nilFunc) [.nilFunc] := ⟨by kernel_rfl, by kernel_rfl, rfl, rfl⟩
-- 42 func(api.Ledger, int, int) (int, api.Errno)
instance : Ty Tryz.prog 42 false 1 8 (.nilFunc) [.nilFunc] := ⟨by kernel_rfl, by kernel_rfl, rfl, rfl⟩
-- 43 func(api.Ledger, deucetop.Ballot) bool
instance : Ty Tryz.prog 43 false 1 8 (.nilFunc) [.nilFunc] := ⟨by kernel_rfl, by kernel_rfl, rfl, rfl⟩
-- 44 func(api.Ledger) api.Ledger
instance : Ty Tryz.prog 44 false 1 8 (.nilFunc) [.nilFunc] := ⟨by kernel_rfl, by kernel_rfl, rfl, rfl⟩
-- 46 func(api.Ledger, []api.Report) (api.Ledger, api.Errno)
instance : Ty Tryz.prog 46 false 1 8 (.nilFunc) [.nilFunc] := ⟨by kernel_rfl, by kernel_rfl, rfl, rfl⟩
-- 47 func(api.Ledger, deucetop.Ballot, int) bool
instance : Ty Tryz.prog 47 false 1 8 (.nilFunc) [.nilFunc] := ⟨by kernel_rfl, by kernel_rfl, rfl, rfl⟩
-- 48 struct { Sets int; Games int; NoAd bool; Tie int; To int; LastTie int; LastTo int; First int; Then int; Doubles bool }
instance : Ty Tryz.prog 48 true 10 80 (.agg #[.int .i64 0, .int .i64 0, .bool false, .int .i64 0, .int .i64 0, .int .i64 0, .int .i64 0, .int .i64 0, .int .i64 0, .bool false]) [.int .i64 0, .int .i64 0, .bool false, .int .i64 0, .int .i64 0, .int .i64 0, .int .i64 0, .int .i64 0, .int .i64 0, .bool false] := ⟨by kernel_rfl, by kernel_rfl, rfl, rfl⟩
instance : FieldTy Tryz.prog 48 0 0 3 0 := ⟨by kernel_rfl, by kernel_rfl⟩
instance : FieldTy Tryz.prog 48 1 1 3 0 := ⟨by kernel_rfl, by kernel_rfl⟩
instance : FieldTy Tryz.prog 48 2 2 4 0 := ⟨by kernel_rfl, by kernel_rfl⟩
instance : FieldTy Tryz.prog 48 3 3 3 0 := ⟨by kernel_rfl, by kernel_rfl⟩
instance : FieldTy Tryz.prog 48 4 4 3 0 := ⟨by kernel_rfl, by kernel_rfl⟩
instance : FieldTy Tryz.prog 48 5 5 3 0 := ⟨by kernel_rfl, by kernel_rfl⟩
instance : FieldTy Tryz.prog 48 6 6 3 0 := ⟨by kernel_rfl, by kernel_rfl⟩
instance : FieldTy Tryz.prog 48 7 7 3 0 := ⟨by kernel_rfl, by kernel_rfl⟩
instance : FieldTy Tryz.prog 48 8 8 3 0 := ⟨by kernel_rfl, by kernel_rfl⟩
instance : FieldTy Tryz.prog 48 9 9 4 0 := ⟨by kernel_rfl, by kernel_rfl⟩
instance : BuildTy Tryz.prog 48 [(0, 1), (1, 1), (2, 1), (3, 1), (4, 1), (5, 1), (6, 1), (7, 1), (8, 1), (9, 1)] [.int .i64 0, .int .i64 0, .bool false, .int .i64 0, .int .i64 0, .int .i64 0, .int .i64 0, .int .i64 0, .int .i64 0, .bool false] := ⟨fun parts => by kernel_rfl⟩
-- 49 deuce/api.Format
instance : Ty Tryz.prog 49 true 10 80 (.agg #[.int .i64 0, .int .i64 0, .bool false, .int .i64 0, .int .i64 0, .int .i64 0, .int .i64 0, .int .i64 0, .int .i64 0, .bool false]) [.int .i64 0, .int .i64 0, .bool false, .int .i64 0, .int .i64 0, .int .i64 0, .int .i64 0, .int .i64 0, .int .i64 0, .bool false] := ⟨by kernel_rfl, by kernel_rfl, rfl, rfl⟩
instance : FieldTy Tryz.prog 49 0 0 3 0 := ⟨by kernel_rfl, by kernel_rfl⟩
instance : FieldTy Tryz.prog 49 1 1 3 0 := ⟨by kernel_rfl, by kernel_rfl⟩
instance : FieldTy Tryz.prog 49 2 2 4 0 := ⟨by kernel_rfl, by kernel_rfl⟩
instance : FieldTy Tryz.prog 49 3 3 3 0 := ⟨by kernel_rfl, by kernel_rfl⟩
instance : FieldTy Tryz.prog 49 4 4 3 0 := ⟨by kernel_rfl, by kernel_rfl⟩
instance : FieldTy Tryz.prog 49 5 5 3 0 := ⟨by kernel_rfl, by kernel_rfl⟩
instance : FieldTy Tryz.prog 49 6 6 3 0 := ⟨by kernel_rfl, by kernel_rfl⟩
instance : FieldTy Tryz.prog 49 7 7 3 0 := ⟨by kernel_rfl, by kernel_rfl⟩
instance : FieldTy Tryz.prog 49 8 8 3 0 := ⟨by kernel_rfl, by kernel_rfl⟩
instance : FieldTy Tryz.prog 49 9 9 4 0 := ⟨by kernel_rfl, by kernel_rfl⟩
instance : BuildTy Tryz.prog 49 [(0, 1), (1, 1), (2, 1), (3, 1), (4, 1), (5, 1), (6, 1), (7, 1), (8, 1), (9, 1)] [.int .i64 0, .int .i64 0, .bool false, .int .i64 0, .int .i64 0, .int .i64 0, .int .i64 0, .int .i64 0, .int .i64 0, .bool false] := ⟨fun parts => by kernel_rfl⟩
-- 50 []deucetop.Rally
instance : Ty Tryz.prog 50 false 1 24 (.slice none 0 0) [.slice none 0 0] := ⟨by kernel_rfl, by kernel_rfl, rfl, rfl⟩
instance : SliceTy Tryz.prog 50 65 := ⟨by kernel_rfl⟩
-- 51 func(api.Format) api.Errno
instance : Ty Tryz.prog 51 false 1 8 (.nilFunc) [.nilFunc] := ⟨by kernel_rfl, by kernel_rfl, rfl, rfl⟩
-- 52 []api.Note
instance : Ty Tryz.prog 52 false 1 24 (.slice none 0 0) [.slice none 0 0] := ⟨by kernel_rfl, by kernel_rfl, rfl, rfl⟩
instance : SliceTy Tryz.prog 52 75 := ⟨by kernel_rfl⟩
-- 53 struct { Format api.Format; First int; Marks []api.Note }
instance : Ty Tryz.prog 53 true 12 112 (.agg #[.int .i64 0, .int .i64 0, .bool false, .int .i64 0, .int .i64 0, .int .i64 0, .int .i64 0, .int .i64 0, .int .i64 0, .bool false, .int .i64 0, .slice none 0 0]) [.int .i64 0, .int .i64 0, .bool false, .int .i64 0, .int .i64 0, .int .i64 0, .int .i64 0, .int .i64 0, .int .i64 0, .bool false, .int .i64 0, .slice none 0 0] := ⟨by kernel_rfl, by kernel_rfl, rfl, rfl⟩
instance : FieldTy Tryz.prog 53 0 0 49 9 := ⟨by kernel_rfl, by kernel_rfl⟩
instance : FieldTy Tryz.prog 53 1 10 3 0 := ⟨by kernel_rfl, by kernel_rfl⟩
instance : FieldTy Tryz.prog 53 2 11 52 0 := ⟨by kernel_rfl, by kernel_rfl⟩
instance : BuildTy Tryz.prog 53 [(0, 10), (10, 1), (11, 1)] [.int .i64 0, .int .i64 0, .bool false, .int .i64 0, .int .i64 0, .int .i64 0, .int .i64 0, .int .i64 0, .int .i64 0, .bool false, .int .i64 0, .slice none 0 0] := ⟨fun parts => by kernel_rfl⟩
-- 54 deuce/api.Card
instance : Ty Tryz.prog 54 true 12 112 (.agg #[.int .i64 0, .int .i64 0, .bool false, .int .i64 0, .int .i64 0, .int .i64 0, .int .i64 0, .int .i64 0, .int .i64 0, .bool false, .int .i64 0, .slice none 0 0]) [.int .i64 0, .int .i64 0, .bool false, .int .i64 0, .int .i64 0, .int .i64 0, .int .i64 0, .int .i64 0, .int .i64 0, .bool false, .int .i64 0, .slice none 0 0] := ⟨by kernel_rfl, by kernel_rfl, rfl, rfl⟩
instance : FieldTy Tryz.prog 54 0 0 49 9 := ⟨by kernel_rfl, by kernel_rfl⟩
instance : FieldTy Tryz.prog 54 1 10 3 0 := ⟨by kernel_rfl, by kernel_rfl⟩
instance : FieldTy Tryz.prog 54 2 11 52 0 := ⟨by kernel_rfl, by kernel_rfl⟩
instance : BuildTy Tryz.prog 54 [(0, 10), (10, 1), (11, 1)] [.int .i64 0, .int .i64 0, .bool false, .int .i64 0, .int .i64 0, .int .i64 0, .int .i64 0, .int .i64 0, .int .i64 0, .bool false, .int .i64 0, .slice none 0 0] := ⟨fun parts => by kernel_rfl⟩
-- 55 []api.Strip
instance : Ty Tryz.prog 55 false 1 24 (.slice none 0 0) [.slice none 0 0] := ⟨by kernel_rfl, by kernel_rfl, rfl, rfl⟩
instance : SliceTy Tryz.prog 55 119 := ⟨by kernel_rfl⟩
-- 56 struct { Low int; High int }
instance : Ty Tryz.prog 56 true 2 16 (.agg #[.int .i64 0, .int .i64 0]) [.int .i64 0, .int .i64 0] := ⟨by kernel_rfl, by kernel_rfl, rfl, rfl⟩
instance : EqS Tryz.prog 56 2 := ⟨by kernel_rfl, by kernel_rfl, by kernel_rfl⟩
instance : FieldTy Tryz.prog 56 0 0 3 0 := ⟨by kernel_rfl, by kernel_rfl⟩
instance : FieldTy Tryz.prog 56 1 1 3 0 := ⟨by kernel_rfl, by kernel_rfl⟩
instance : BuildTy Tryz.prog 56 [(0, 1), (1, 1)] [.int .i64 0, .int .i64 0] := ⟨fun parts => by kernel_rfl⟩
-- 57 deuce/api.Span
instance : Ty Tryz.prog 57 true 2 16 (.agg #[.int .i64 0, .int .i64 0]) [.int .i64 0, .int .i64 0] := ⟨by kernel_rfl, by kernel_rfl, rfl, rfl⟩
instance : EqS Tryz.prog 57 2 := ⟨by kernel_rfl, by kernel_rfl, by kernel_rfl⟩
instance : FieldTy Tryz.prog 57 0 0 3 0 := ⟨by kernel_rfl, by kernel_rfl⟩
instance : FieldTy Tryz.prog 57 1 1 3 0 := ⟨by kernel_rfl, by kernel_rfl⟩
instance : BuildTy Tryz.prog 57 [(0, 1), (1, 1)] [.int .i64 0, .int .i64 0] := ⟨fun parts => by kernel_rfl⟩
-- 58 struct { Size int; Strips []api.Strip; Wrong int; HalfX api.Span; HalfY api.Span }
instance : Ty Tryz.prog 58 true 7 72 (.agg #[.int .i64 0, .slice none 0 0, .int .i64 0, .int .i64 0, .int .i64 0, .int .i64 0, .int .i64 0]) [.int .i64 0, .slice none 0 0, .int .i64 0, .int .i64 0, .int .i64 0, .int .i64 0, .int .i64 0] := ⟨by kernel_rfl, by kernel_rfl, rfl, rfl⟩
instance : FieldTy Tryz.prog 58 0 0 3 0 := ⟨by kernel_rfl, by kernel_rfl⟩
instance : FieldTy Tryz.prog 58 1 1 55 0 := ⟨by kernel_rfl, by kernel_rfl⟩
instance : FieldTy Tryz.prog 58 2 2 3 0 := ⟨by kernel_rfl, by kernel_rfl⟩
instance : FieldTy Tryz.prog 58 3 3 57 1 := ⟨by kernel_rfl, by kernel_rfl⟩
instance : FieldTy Tryz.prog 58 4 5 57 1 := ⟨by kernel_rfl, by kernel_rfl⟩
instance : BuildTy Tryz.prog 58 [(0, 1), (1, 1), (2, 1), (3, 2), (5, 2)] [.int .i64 0, .slice none 0 0, .int .i64 0, .int .i64 0, .int .i64 0, .int .i64 0, .int .i64 0] := ⟨fun parts => by kernel_rfl⟩
-- 59 deuce/api.View
instance : Ty Tryz.prog 59 true 7 72 (.agg #[.int .i64 0, .slice none 0 0, .int .i64 0, .int .i64 0, .int .i64 0, .int .i64 0, .int .i64 0]) [.int .i64 0, .slice none 0 0, .int .i64 0, .int .i64 0, .int .i64 0, .int .i64 0, .int .i64 0] := ⟨by kernel_rfl, by kernel_rfl, rfl, rfl⟩
instance : FieldTy Tryz.prog 59 0 0 3 0 := ⟨by kernel_rfl, by kernel_rfl⟩
instance : FieldTy Tryz.prog 59 1 1 55 0 := ⟨by kernel_rfl, by kernel_rfl⟩
instance : FieldTy Tryz.prog 59 2 2 3 0 := ⟨by kernel_rfl, by kernel_rfl⟩
instance : FieldTy Tryz.prog 59 3 3 57 1 := ⟨by kernel_rfl, by kernel_rfl⟩
instance : FieldTy Tryz.prog 59 4 5 57 1 := ⟨by kernel_rfl, by kernel_rfl⟩
instance : BuildTy Tryz.prog 59 [(0, 1), (1, 1), (2, 1), (3, 2), (5, 2)] [.int .i64 0, .slice none 0 0, .int .i64 0, .int .i64 0, .int .i64 0, .int .i64 0, .int .i64 0] := ⟨fun parts => by kernel_rfl⟩
-- 60 struct { Left int; Right int; Bottom int; Top int }
instance : Ty Tryz.prog 60 true 4 32 (.agg #[.int .i64 0, .int .i64 0, .int .i64 0, .int .i64 0]) [.int .i64 0, .int .i64 0, .int .i64 0, .int .i64 0] := ⟨by kernel_rfl, by kernel_rfl, rfl, rfl⟩
instance : EqS Tryz.prog 60 4 := ⟨by kernel_rfl, by kernel_rfl, by kernel_rfl⟩
instance : FieldTy Tryz.prog 60 0 0 3 0 := ⟨by kernel_rfl, by kernel_rfl⟩
instance : FieldTy Tryz.prog 60 1 1 3 0 := ⟨by kernel_rfl, by kernel_rfl⟩
instance : FieldTy Tryz.prog 60 2 2 3 0 := ⟨by kernel_rfl, by kernel_rfl⟩
instance : FieldTy Tryz.prog 60 3 3 3 0 := ⟨by kernel_rfl, by kernel_rfl⟩
instance : BuildTy Tryz.prog 60 [(0, 1), (1, 1), (2, 1), (3, 1)] [.int .i64 0, .int .i64 0, .int .i64 0, .int .i64 0] := ⟨fun parts => by kernel_rfl⟩
-- 61 deuce/api.Box
instance : Ty Tryz.prog 61 true 4 32 (.agg #[.int .i64 0, .int .i64 0, .int .i64 0, .int .i64 0]) [.int .i64 0, .int .i64 0, .int .i64 0, .int .i64 0] := ⟨by kernel_rfl, by kernel_rfl, rfl, rfl⟩
instance : EqS Tryz.prog 61 4 := ⟨by kernel_rfl, by kernel_rfl, by kernel_rfl⟩
instance : FieldTy Tryz.prog 61 0 0 3 0 := ⟨by kernel_rfl, by kernel_rfl⟩
instance : FieldTy Tryz.prog 61 1 1 3 0 := ⟨by kernel_rfl, by kernel_rfl⟩
instance : FieldTy Tryz.prog 61 2 2 3 0 := ⟨by kernel_rfl, by kernel_rfl⟩
instance : FieldTy Tryz.prog 61 3 3 3 0 := ⟨by kernel_rfl, by kernel_rfl⟩
instance : BuildTy Tryz.prog 61 [(0, 1), (1, 1), (2, 1), (3, 1)] [.int .i64 0, .int .i64 0, .int .i64 0, .int .i64 0] := ⟨fun parts => by kernel_rfl⟩
-- 62 struct { X int; Y int; HalfX int; HalfY int }
instance : Ty Tryz.prog 62 true 4 32 (.agg #[.int .i64 0, .int .i64 0, .int .i64 0, .int .i64 0]) [.int .i64 0, .int .i64 0, .int .i64 0, .int .i64 0] := ⟨by kernel_rfl, by kernel_rfl, rfl, rfl⟩
instance : EqS Tryz.prog 62 4 := ⟨by kernel_rfl, by kernel_rfl, by kernel_rfl⟩
instance : FieldTy Tryz.prog 62 0 0 3 0 := ⟨by kernel_rfl, by kernel_rfl⟩
instance : FieldTy Tryz.prog 62 1 1 3 0 := ⟨by kernel_rfl, by kernel_rfl⟩
instance : FieldTy Tryz.prog 62 2 2 3 0 := ⟨by kernel_rfl, by kernel_rfl⟩
instance : FieldTy Tryz.prog 62 3 3 3 0 := ⟨by kernel_rfl, by kernel_rfl⟩
instance : BuildTy Tryz.prog 62 [(0, 1), (1, 1), (2, 1), (3, 1)] [.int .i64 0, .int .i64 0, .int .i64 0, .int .i64 0] := ⟨fun parts => by kernel_rfl⟩
-- 63 deuce/api.Mark
instance : Ty Tryz.prog 63 true 4 32 (.agg #[.int .i64 0, .int .i64 0, .int .i64 0, .int .i64 0]) [.int .i64 0, .int .i64 0, .int .i64 0, .int .i64 0] := ⟨by kernel_rfl, by kernel_rfl, rfl, rfl⟩
instance : EqS Tryz.prog 63 4 := ⟨by kernel_rfl, by kernel_rfl, by kernel_rfl⟩
instance : FieldTy Tryz.prog 63 0 0 3 0 := ⟨by kernel_rfl, by kernel_rfl⟩
instance : FieldTy Tryz.prog 63 1 1 3 0 := ⟨by kernel_rfl, by kernel_rfl⟩
instance : FieldTy Tryz.prog 63 2 2 3 0 := ⟨by kernel_rfl, by kernel_rfl⟩
instance : FieldTy Tryz.prog 63 3 3 3 0 := ⟨by kernel_rfl, by kernel_rfl⟩
instance : BuildTy Tryz.prog 63 [(0, 1), (1, 1), (2, 1), (3, 1)] [.int .i64 0, .int .i64 0, .int .i64 0, .int .i64 0] := ⟨fun parts => by kernel_rfl⟩
-- 64 struct { Side int; View api.View; Box api.Box; Mark api.Mark }
instance : Ty Tryz.prog 64 true 16 144 (.agg #[.int .i64 0, .int .i64 0, .slice none 0 0, .int .i64 0, .int .i64 0, .int .i64 0, .int .i64 0, .int .i64 0, .int .i64 0, .int .i64 0, .int .i64 0, .int .i64 0, .int .i64 0, .int .i64 0, .int .i64 0, .int .i64 0]) [.int .i64 0, .int .i64 0, .slice none 0 0, .int .i64 0, .int .i64 0, .int .i64 0, .int .i64 0, .int .i64 0, .int .i64 0, .int .i64 0, .int .i64 0, .int .i64 0, .int .i64 0, .int .i64 0, .int .i64 0, .int .i64 0] := ⟨by kernel_rfl, by kernel_rfl, rfl, rfl⟩
instance : FieldTy Tryz.prog 64 0 0 3 0 := ⟨by kernel_rfl, by kernel_rfl⟩
instance : FieldTy Tryz.prog 64 1 1 59 6 := ⟨by kernel_rfl, by kernel_rfl⟩
instance : FieldTy Tryz.prog 64 2 8 61 3 := ⟨by kernel_rfl, by kernel_rfl⟩
instance : FieldTy Tryz.prog 64 3 12 63 3 := ⟨by kernel_rfl, by kernel_rfl⟩
instance : BuildTy Tryz.prog 64 [(0, 1), (1, 7), (8, 4), (12, 4)] [.int .i64 0, .int .i64 0, .slice none 0 0, .int .i64 0, .int .i64 0, .int .i64 0, .int .i64 0, .int .i64 0, .int .i64 0, .int .i64 0, .int .i64 0, .int .i64 0, .int .i64 0, .int .i64 0, .int .i64 0, .int .i64 0] := ⟨fun parts => by kernel_rfl⟩
-- 65 deuce/deucetop.Rally
instance : Ty Tryz.prog 65 true 16 144 (.agg #[.int .i64 0, .int .i64 0, .slice none 0 0, .int .i64 0, .int .i64 0, .int .i64 0, .int .i64 0, .int .i64 0, .int .i64 0, .int .i64 0, .int .i64 0, .int .i64 0, .int .i64 0, .int .i64 0, .int .i64 0, .int .i64 0]) [.int .i64 0, .int .i64 0, .slice none 0 0, .int .i64 0, .int .i64 0, .int .i64 0, .int .i64 0, .int .i64 0, .int .i64 0, .int .i64 0, .int .i64 0, .int .i64 0, .int .i64 0, .int .i64 0, .int .i64 0, .int .i64 0] := ⟨by kernel_rfl, by kernel_rfl, rfl, rfl⟩
instance : FieldTy Tryz.prog 65 0 0 3 0 := ⟨by kernel_rfl, by kernel_rfl⟩
instance : FieldTy Tryz.prog 65 1 1 59 6 := ⟨by kernel_rfl, by kernel_rfl⟩
instance : FieldTy Tryz.prog 65 2 8 61 3 := ⟨by kernel_rfl, by kernel_rfl⟩
instance : FieldTy Tryz.prog 65 3 12 63 3 := ⟨by kernel_rfl, by kernel_rfl⟩
instance : BuildTy Tryz.prog 65 [(0, 1), (1, 7), (8, 4), (12, 4)] [.int .i64 0, .int .i64 0, .slice none 0 0, .int .i64 0, .int .i64 0, .int .i64 0, .int .i64 0, .int .i64 0, .int .i64 0, .int .i64 0, .int .i64 0, .int .i64 0, .int .i64 0, .int .i64 0, .int .i64 0, .int .i64 0] := ⟨fun parts => by kernel_rfl⟩
-- 66 func(api.View) bool
instance : Ty Tryz.prog 66 false 1 8 (.nilFunc) [.nilFunc] := ⟨by kernel_rfl, by kernel_rfl, rfl, rfl⟩
-- 67 func(api.View) api.Errno
instance : Ty Tryz.prog 67 false 1 8 (.nilFunc) [.nilFunc] := ⟨by kernel_rfl, by kernel_rfl, rfl, rfl⟩
-- 68 func(api.Box) bool
instance : Ty Tryz.prog 68 false 1 8 (.nilFunc) [.nilFunc] := ⟨by kernel_rfl, by kernel_rfl, rfl, rfl⟩
-- 69 func(api.View, api.Mark) bool
instance : Ty Tryz.prog 69 false 1 8 (.nilFunc) [.nilFunc] := ⟨by kernel_rfl, by kernel_rfl, rfl, rfl⟩
-- 70 func(api.Mark, api.Box) bool
instance : Ty Tryz.prog 70 false 1 8 (.nilFunc) [.nilFunc] := ⟨by kernel_rfl, by kernel_rfl, rfl, rfl⟩
-- 71 func(api.View, api.Box) (int, api.Errno)
instance : Ty Tryz.prog 71 false 1 8 (.nilFunc) [.nilFunc] := ⟨by kernel_rfl, by kernel_rfl, rfl, rfl⟩
-- 72 struct { A int; B int }
instance : Ty Tryz.prog 72 true 2 16 (.agg #[.int .i64 0, .int .i64 0]) [.int .i64 0, .int .i64 0] := ⟨by kernel_rfl, by kernel_rfl, rfl, rfl⟩
instance : EqS Tryz.prog 72 2 := ⟨by kernel_rfl, by kernel_rfl, by kernel_rfl⟩
instance : FieldTy Tryz.prog 72 0 0 3 0 := ⟨by kernel_rfl, by kernel_rfl⟩
instance : FieldTy Tryz.prog 72 1 1 3 0 := ⟨by kernel_rfl, by kernel_rfl⟩
instance : BuildTy Tryz.prog 72 [(0, 1), (1, 1)] [.int .i64 0, .int .i64 0] := ⟨fun parts => by kernel_rfl⟩
-- 73 deuce/api.Pair
instance : Ty Tryz.prog 73 true 2 16 (.agg #[.int .i64 0, .int .i64 0]) [.int .i64 0, .int .i64 0] := ⟨by kernel_rfl, by kernel_rfl, rfl, rfl⟩
instance : EqS Tryz.prog 73 2 := ⟨by kernel_rfl, by kernel_rfl, by kernel_rfl⟩
instance : FieldTy Tryz.prog 73 0 0 3 0 := ⟨by kernel_rfl, by kernel_rfl⟩
instance : FieldTy Tryz.prog 73 1 1 3 0 := ⟨by kernel_rfl, by kernel_rfl⟩
instance : BuildTy Tryz.prog 73 [(0, 1), (1, 1)] [.int .i64 0, .int .i64 0] := ⟨fun parts => by kernel_rfl⟩
-- 74 struct { Kind int; Side int; Pair api.Pair }
instance : Ty Tryz.prog 74 true 4 32 (.agg #[.int .i64 0, .int .i64 0, .int .i64 0, .int .i64 0]) [.int .i64 0, .int .i64 0, .int .i64 0, .int .i64 0] := ⟨by kernel_rfl, by kernel_rfl, rfl, rfl⟩
instance : FieldTy Tryz.prog 74 0 0 3 0 := ⟨by kernel_rfl, by kernel_rfl⟩
instance : FieldTy Tryz.prog 74 1 1 3 0 := ⟨by kernel_rfl, by kernel_rfl⟩
instance : FieldTy Tryz.prog 74 2 2 73 1 := ⟨by kernel_rfl, by kernel_rfl⟩
instance : BuildTy Tryz.prog 74 [(0, 1), (1, 1), (2, 2)] [.int .i64 0, .int .i64 0, .int .i64 0, .int .i64 0] := ⟨fun parts => by kernel_rfl⟩
-- 75 deuce/api.Note
instance : Ty Tryz.prog 75 true 4 32 (.agg #[.int .i64 0, .int .i64 0, .int .i64 0, .int .i64 0]) [.int .i64 0, .int .i64 0, .int .i64 0, .int .i64 0] := ⟨by kernel_rfl, by kernel_rfl, rfl, rfl⟩
instance : FieldTy Tryz.prog 75 0 0 3 0 := ⟨by kernel_rfl, by kernel_rfl⟩
instance : FieldTy Tryz.prog 75 1 1 3 0 := ⟨by kernel_rfl, by kernel_rfl⟩
instance : FieldTy Tryz.prog 75 2 2 73 1 := ⟨by kernel_rfl, by kernel_rfl⟩
instance : BuildTy Tryz.prog 75 [(0, 1), (1, 1), (2, 2)] [.int .i64 0, .int .i64 0, .int .i64 0, .int .i64 0] := ⟨fun parts => by kernel_rfl⟩
-- 76 []api.Pair
instance : Ty Tryz.prog 76 false 1 24 (.slice none 0 0) [.slice none 0 0] := ⟨by kernel_rfl, by kernel_rfl, rfl, rfl⟩
instance : SliceTy Tryz.prog 76 73 := ⟨by kernel_rfl⟩
-- 77 struct { Sets []api.Pair; Games api.Pair; Points api.Pair }
instance : Ty Tryz.prog 77 true 5 56 (.agg #[.slice none 0 0, .int .i64 0, .int .i64 0, .int .i64 0, .int .i64 0]) [.slice none 0 0, .int .i64 0, .int .i64 0, .int .i64 0, .int .i64 0] := ⟨by kernel_rfl, by kernel_rfl, rfl, rfl⟩
instance : FieldTy Tryz.prog 77 0 0 76 0 := ⟨by kernel_rfl, by kernel_rfl⟩
instance : FieldTy Tryz.prog 77 1 1 73 1 := ⟨by kernel_rfl, by kernel_rfl⟩
instance : FieldTy Tryz.prog 77 2 3 73 1 := ⟨by kernel_rfl, by kernel_rfl⟩
instance : BuildTy Tryz.prog 77 [(0, 1), (1, 2), (3, 2)] [.slice none 0 0, .int .i64 0, .int .i64 0, .int .i64 0, .int .i64 0] := ⟨fun parts => by kernel_rfl⟩
-- 78 deuce/api.Board
instance : Ty Tryz.prog 78 true 5 56 (.agg #[.slice none 0 0, .int .i64 0, .int .i64 0, .int .i64 0, .int .i64 0]) [.slice none 0 0, .int .i64 0, .int .i64 0, .int .i64 0, .int .i64 0] := ⟨by kernel_rfl, by kernel_rfl, rfl, rfl⟩
instance : FieldTy Tryz.prog 78 0 0 76 0 := ⟨by kernel_rfl, by kernel_rfl⟩
instance : FieldTy Tryz.prog 78 1 1 73 1 := ⟨by kernel_rfl, by kernel_rfl⟩
instance : FieldTy Tryz.prog 78 2 3 73 1 := ⟨by kernel_rfl, by kernel_rfl⟩
instance : BuildTy Tryz.prog 78 [(0, 1), (1, 2), (3, 2)] [.slice none 0 0, .int .i64 0, .int .i64 0, .int .i64 0, .int .i64 0] := ⟨fun parts => by kernel_rfl⟩
-- 79 struct { Board api.Board; Server int; Ends int; Balls int; Winner int }
instance : Ty Tryz.prog 79 true 9 88 (.agg #[.slice none 0 0, .int .i64 0, .int .i64 0, .int .i64 0, .int .i64 0, .int .i64 0, .int .i64 0, .int .i64 0, .int .i64 0]) [.slice none 0 0, .int .i64 0, .int .i64 0, .int .i64 0, .int .i64 0, .int .i64 0, .int .i64 0, .int .i64 0, .int .i64 0] := ⟨by kernel_rfl, by kernel_rfl, rfl, rfl⟩
instance : FieldTy Tryz.prog 79 0 0 78 4 := ⟨by kernel_rfl, by kernel_rfl⟩
instance : FieldTy Tryz.prog 79 1 5 3 0 := ⟨by kernel_rfl, by kernel_rfl⟩
instance : FieldTy Tryz.prog 79 2 6 3 0 := ⟨by kernel_rfl, by kernel_rfl⟩
instance : FieldTy Tryz.prog 79 3 7 3 0 := ⟨by kernel_rfl, by kernel_rfl⟩
instance : FieldTy Tryz.prog 79 4 8 3 0 := ⟨by kernel_rfl, by kernel_rfl⟩
instance : BuildTy Tryz.prog 79 [(0, 5), (5, 1), (6, 1), (7, 1), (8, 1)] [.slice none 0 0, .int .i64 0, .int .i64 0, .int .i64 0, .int .i64 0, .int .i64 0, .int .i64 0, .int .i64 0, .int .i64 0] := ⟨fun parts => by kernel_rfl⟩
-- 80 deuce/api.Score
instance : Ty Tryz.prog 80 true 9 88 (.agg #[.slice none 0 0, .int .i64 0, .int .i64 0, .int .i64 0, .int .i64 0, .int .i64 0, .int .i64 0, .int .i64 0, .int .i64 0]) [.slice none 0 0, .int .i64 0, .int .i64 0, .int .i64 0, .int .i64 0, .int .i64 0, .int .i64 0, .int .i64 0, .int .i64 0] := ⟨by kernel_rfl, by kernel_rfl, rfl, rfl⟩
instance : FieldTy Tryz.prog 80 0 0 78 4 := ⟨by kernel_rfl, by kernel_rfl⟩
instance : FieldTy Tryz.prog 80 1 5 3 0 := ⟨by kernel_rfl, by kernel_rfl⟩
instance : FieldTy Tryz.prog 80 2 6 3 0 := ⟨by kernel_rfl, by kernel_rfl⟩
instance : FieldTy Tryz.prog 80 3 7 3 0 := ⟨by kernel_rfl, by kernel_rfl⟩
instance : FieldTy Tryz.prog 80 4 8 3 0 := ⟨by kernel_rfl, by kernel_rfl⟩
instance : BuildTy Tryz.prog 80 [(0, 5), (5, 1), (6, 1), (7, 1), (8, 1)] [.slice none 0 0, .int .i64 0, .int .i64 0, .int .i64 0, .int .i64 0, .int .i64 0, .int .i64 0, .int .i64 0, .int .i64 0] := ⟨fun parts => by kernel_rfl⟩
-- 82 func(api.Format, int, []int) (api.Score, api.Errno)
instance : Ty Tryz.prog 82 false 1 8 (.nilFunc) [.nilFunc] := ⟨by kernel_rfl, by kernel_rfl, rfl, rfl⟩
-- 83 []api.Board
instance : Ty Tryz.prog 83 false 1 24 (.slice none 0 0) [.slice none 0 0] := ⟨by kernel_rfl, by kernel_rfl, rfl, rfl⟩
instance : SliceTy Tryz.prog 83 78 := ⟨by kernel_rfl⟩
-- 85 func(api.Card) ([]api.Board, api.Errno)
instance : Ty Tryz.prog 85 false 1 8 (.nilFunc) [.nilFunc] := ⟨by kernel_rfl, by kernel_rfl, rfl, rfl⟩
-- 86 func(api.Card) (int, api.Errno)
instance : Ty Tryz.prog 86 false 1 8 (.nilFunc) [.nilFunc] := ⟨by kernel_rfl, by kernel_rfl, rfl, rfl⟩
-- 87 func(api.Board, api.Board) bool
instance : Ty Tryz.prog 87 false 1 8 (.nilFunc) [.nilFunc] := ⟨by kernel_rfl, by kernel_rfl, rfl, rfl⟩
-- 88 func(api.Format, int, []deucetop.Rally) bool
instance : Ty Tryz.prog 88 false 1 8 (.nilFunc) [.nilFunc] := ⟨by kernel_rfl, by kernel_rfl, rfl, rfl⟩
-- 89 struct { Id int; Player int; Week int; Points int; Must bool }
instance : Ty Tryz.prog 89 true 5 40 (.agg #[.int .i64 0, .int .i64 0, .int .i64 0, .int .i64 0, .bool false]) [.int .i64 0, .int .i64 0, .int .i64 0, .int .i64 0, .bool false] := ⟨by kernel_rfl, by kernel_rfl, rfl, rfl⟩
instance : FieldTy Tryz.prog 89 0 0 3 0 := ⟨by kernel_rfl, by kernel_rfl⟩
instance : FieldTy Tryz.prog 89 1 1 3 0 := ⟨by kernel_rfl, by kernel_rfl⟩
instance : FieldTy Tryz.prog 89 2 2 3 0 := ⟨by kernel_rfl, by kernel_rfl⟩
instance : FieldTy Tryz.prog 89 3 3 3 0 := ⟨by kernel_rfl, by kernel_rfl⟩
instance : FieldTy Tryz.prog 89 4 4 4 0 := ⟨by kernel_rfl, by kernel_rfl⟩
instance : BuildTy Tryz.prog 89 [(0, 1), (1, 1), (2, 1), (3, 1), (4, 1)] [.int .i64 0, .int .i64 0, .int .i64 0, .int .i64 0, .bool false] := ⟨fun parts => by kernel_rfl⟩
-- 90 deuce/api.Report
instance : Ty Tryz.prog 90 true 5 40 (.agg #[.int .i64 0, .int .i64 0, .int .i64 0, .int .i64 0, .bool false]) [.int .i64 0, .int .i64 0, .int .i64 0, .int .i64 0, .bool false] := ⟨by kernel_rfl, by kernel_rfl, rfl, rfl⟩
instance : FieldTy Tryz.prog 90 0 0 3 0 := ⟨by kernel_rfl, by kernel_rfl⟩
instance : FieldTy Tryz.prog 90 1 1 3 0 := ⟨by kernel_rfl, by kernel_rfl⟩
instance : FieldTy Tryz.prog 90 2 2 3 0 := ⟨by kernel_rfl, by kernel_rfl⟩
instance : FieldTy Tryz.prog 90 3 3 3 0 := ⟨by kernel_rfl, by kernel_rfl⟩
instance : FieldTy Tryz.prog 90 4 4 4 0 := ⟨by kernel_rfl, by kernel_rfl⟩
instance : BuildTy Tryz.prog 90 [(0, 1), (1, 1), (2, 1), (3, 1), (4, 1)] [.int .i64 0, .int .i64 0, .int .i64 0, .int .i64 0, .bool false] := ⟨fun parts => by kernel_rfl⟩
-- 91 func([]api.Report) bool
instance : Ty Tryz.prog 91 false 1 8 (.nilFunc) [.nilFunc] := ⟨by kernel_rfl, by kernel_rfl, rfl, rfl⟩
-- 92 func() api.Ledger
instance : Ty Tryz.prog 92 false 1 8 (.nilFunc) [.nilFunc] := ⟨by kernel_rfl, by kernel_rfl, rfl, rfl⟩
-- 94 func() (api.Plan, api.Plan)
instance : Ty Tryz.prog 94 false 1 8 (.nilFunc) [.nilFunc] := ⟨by kernel_rfl, by kernel_rfl, rfl, rfl⟩
-- 96 func() (api.View, api.Box)
instance : Ty Tryz.prog 96 false 1 8 (.nilFunc) [.nilFunc] := ⟨by kernel_rfl, by kernel_rfl, rfl, rfl⟩
-- 97 func() api.Card
instance : Ty Tryz.prog 97 false 1 8 (.nilFunc) [.nilFunc] := ⟨by kernel_rfl, by kernel_rfl, rfl, rfl⟩
-- 98 *rank.book
instance : Ty Tryz.prog 98 false 1 8 (.pointer none) [.pointer none] := ⟨by kernel_rfl, by kernel_rfl, rfl, rfl⟩
-- 100 func(api.Ledger, int, int) (*rank.book, api.Errno)
instance : Ty Tryz.prog 100 false 1 8 (.nilFunc) [.nilFunc] := ⟨by kernel_rfl, by kernel_rfl, rfl, rfl⟩
-- 101 func(int) []int
instance : Ty Tryz.prog 101 false 1 8 (.nilFunc) [.nilFunc] := ⟨by kernel_rfl, by kernel_rfl, rfl, rfl⟩
-- 102 struct { Player int; Nation int; Qualified bool }
instance : Ty Tryz.prog 102 true 3 24 (.agg #[.int .i64 0, .int .i64 0, .bool false]) [.int .i64 0, .int .i64 0, .bool false] := ⟨by kernel_rfl, by kernel_rfl, rfl, rfl⟩
instance : FieldTy Tryz.prog 102 0 0 3 0 := ⟨by kernel_rfl, by kernel_rfl⟩
instance : FieldTy Tryz.prog 102 1 1 3 0 := ⟨by kernel_rfl, by kernel_rfl⟩
instance : FieldTy Tryz.prog 102 2 2 4 0 := ⟨by kernel_rfl, by kernel_rfl⟩
instance : BuildTy Tryz.prog 102 [(0, 1), (1, 1), (2, 1)] [.int .i64 0, .int .i64 0, .bool false] := ⟨fun parts => by kernel_rfl⟩
-- 103 deuce/api.Person
instance : Ty Tryz.prog 103 true 3 24 (.agg #[.int .i64 0, .int .i64 0, .bool false]) [.int .i64 0, .int .i64 0, .bool false] := ⟨by kernel_rfl, by kernel_rfl, rfl, rfl⟩
instance : FieldTy Tryz.prog 103 0 0 3 0 := ⟨by kernel_rfl, by kernel_rfl⟩
instance : FieldTy Tryz.prog 103 1 1 3 0 := ⟨by kernel_rfl, by kernel_rfl⟩
instance : FieldTy Tryz.prog 103 2 2 4 0 := ⟨by kernel_rfl, by kernel_rfl⟩
instance : BuildTy Tryz.prog 103 [(0, 1), (1, 1), (2, 1)] [.int .i64 0, .int .i64 0, .bool false] := ⟨fun parts => by kernel_rfl⟩
-- 104 func(api.Plan) api.Errno
instance : Ty Tryz.prog 104 false 1 8 (.nilFunc) [.nilFunc] := ⟨by kernel_rfl, by kernel_rfl, rfl, rfl⟩
-- 105 func(api.Plan) (int, api.Errno)
instance : Ty Tryz.prog 105 false 1 8 (.nilFunc) [.nilFunc] := ⟨by kernel_rfl, by kernel_rfl, rfl, rfl⟩
-- 107 func(api.Plan, int) ([]int, bool)
instance : Ty Tryz.prog 107 false 1 8 (.nilFunc) [.nilFunc] := ⟨by kernel_rfl, by kernel_rfl, rfl, rfl⟩
-- 108 func(int, int) int
instance : Ty Tryz.prog 108 false 1 8 (.nilFunc) [.nilFunc] := ⟨by kernel_rfl, by kernel_rfl, rfl, rfl⟩
-- 109 map[api.Report]int
instance : Ty Tryz.prog 109 false 1 8 (.map none) [.map none] := ⟨by kernel_rfl, by kernel_rfl, rfl, rfl⟩
-- 110 func(...[]api.Report) []api.Report
instance : Ty Tryz.prog 110 false 1 8 (.nilFunc) [.nilFunc] := ⟨by kernel_rfl, by kernel_rfl, rfl, rfl⟩
-- 112 func([]api.Report) ([]api.Report, bool)
instance : Ty Tryz.prog 112 false 1 8 (.nilFunc) [.nilFunc] := ⟨by kernel_rfl, by kernel_rfl, rfl, rfl⟩
-- 113 func([]api.Absence) []api.Absence
instance : Ty Tryz.prog 113 false 1 8 (.nilFunc) [.nilFunc] := ⟨by kernel_rfl, by kernel_rfl, rfl, rfl⟩
-- 114 struct { Player int; From int; To int }
instance : Ty Tryz.prog 114 true 3 24 (.agg #[.int .i64 0, .int .i64 0, .int .i64 0]) [.int .i64 0, .int .i64 0, .int .i64 0] := ⟨by kernel_rfl, by kernel_rfl, rfl, rfl⟩
instance : EqS Tryz.prog 114 3 := ⟨by kernel_rfl, by kernel_rfl, by kernel_rfl⟩
instance : FieldTy Tryz.prog 114 0 0 3 0 := ⟨by kernel_rfl, by kernel_rfl⟩
instance : FieldTy Tryz.prog 114 1 1 3 0 := ⟨by kernel_rfl, by kernel_rfl⟩
instance : FieldTy Tryz.prog 114 2 2 3 0 := ⟨by kernel_rfl, by kernel_rfl⟩
instance : BuildTy Tryz.prog 114 [(0, 1), (1, 1), (2, 1)] [.int .i64 0, .int .i64 0, .int .i64 0] := ⟨fun parts => by kernel_rfl⟩
-- 115 deuce/api.Absence
instance : Ty Tryz.prog 115 true 3 24 (.agg #[.int .i64 0, .int .i64 0, .int .i64 0]) [.int .i64 0, .int .i64 0, .int .i64 0] := ⟨by kernel_rfl, by kernel_rfl, rfl, rfl⟩
instance : EqS Tryz.prog 115 3 := ⟨by kernel_rfl, by kernel_rfl, by kernel_rfl⟩
instance : FieldTy Tryz.prog 115 0 0 3 0 := ⟨by kernel_rfl, by kernel_rfl⟩
instance : FieldTy Tryz.prog 115 1 1 3 0 := ⟨by kernel_rfl, by kernel_rfl⟩
instance : FieldTy Tryz.prog 115 2 2 3 0 := ⟨by kernel_rfl, by kernel_rfl⟩
instance : BuildTy Tryz.prog 115 [(0, 1), (1, 1), (2, 1)] [.int .i64 0, .int .i64 0, .int .i64 0] := ⟨fun parts => by kernel_rfl⟩
-- 116 func(int, int, int) bool
instance : Ty Tryz.prog 116 false 1 8 (.nilFunc) [.nilFunc] := ⟨by kernel_rfl, by kernel_rfl, rfl, rfl⟩
-- 117 func(api.Format, int) bool
instance : Ty Tryz.prog 117 false 1 8 (.nilFunc) [.nilFunc] := ⟨by kernel_rfl, by kernel_rfl, rfl, rfl⟩
-- 118 struct { P int; Q int; Low int; High int }
instance : Ty Tryz.prog 118 true 4 32 (.agg #[.int .i64 0, .int .i64 0, .int .i64 0, .int .i64 0]) [.int .i64 0, .int .i64 0, .int .i64 0, .int .i64 0] := ⟨by kernel_rfl, by kernel_rfl, rfl, rfl⟩
instance : EqS Tryz.prog 118 4 := ⟨by kernel_rfl, by kernel_rfl, by kernel_rfl⟩
instance : FieldTy Tryz.prog 118 0 0 3 0 := ⟨by kernel_rfl, by kernel_rfl⟩
instance : FieldTy Tryz.prog 118 1 1 3 0 := ⟨by kernel_rfl, by kernel_rfl⟩
instance : FieldTy Tryz.prog 118 2 2 3 0 := ⟨by kernel_rfl, by kernel_rfl⟩
instance : FieldTy Tryz.prog 118 3 3 3 0 := ⟨by kernel_rfl, by kernel_rfl⟩
instance : BuildTy Tryz.prog 118 [(0, 1), (1, 1), (2, 1), (3, 1)] [.int .i64 0, .int .i64 0, .int .i64 0, .int .i64 0] := ⟨fun parts => by kernel_rfl⟩
-- 119 deuce/api.Strip
instance : Ty Tryz.prog 119 true 4 32 (.agg #[.int .i64 0, .int .i64 0, .int .i64 0, .int .i64 0]) [.int .i64 0, .int .i64 0, .int .i64 0, .int .i64 0] := ⟨by kernel_rfl, by kernel_rfl, rfl, rfl⟩
instance : EqS Tryz.prog 119 4 := ⟨by kernel_rfl, by kernel_rfl, by kernel_rfl⟩
instance : FieldTy Tryz.prog 119 0 0 3 0 := ⟨by kernel_rfl, by kernel_rfl⟩
instance : FieldTy Tryz.prog 119 1 1 3 0 := ⟨by kernel_rfl, by kernel_rfl⟩
instance : FieldTy Tryz.prog 119 2 2 3 0 := ⟨by kernel_rfl, by kernel_rfl⟩
instance : FieldTy Tryz.prog 119 3 3 3 0 := ⟨by kernel_rfl, by kernel_rfl⟩
instance : BuildTy Tryz.prog 119 [(0, 1), (1, 1), (2, 1), (3, 1)] [.int .i64 0, .int .i64 0, .int .i64 0, .int .i64 0] := ⟨fun parts => by kernel_rfl⟩
-- 120 func(api.View, int, int) []int
instance : Ty Tryz.prog 120 false 1 8 (.nilFunc) [.nilFunc] := ⟨by kernel_rfl, by kernel_rfl, rfl, rfl⟩
-- 121 func(int, int, int) int
instance : Ty Tryz.prog 121 false 1 8 (.nilFunc) [.nilFunc] := ⟨by kernel_rfl, by kernel_rfl, rfl, rfl⟩
-- 122 func(api.View, api.Box) api.Errno
instance : Ty Tryz.prog 122 false 1 8 (.nilFunc) [.nilFunc] := ⟨by kernel_rfl, by kernel_rfl, rfl, rfl⟩
-- 123 func(api.View, api.Box) int
instance : Ty Tryz.prog 123 false 1 8 (.nilFunc) [.nilFunc] := ⟨by kernel_rfl, by kernel_rfl, rfl, rfl⟩
-- 124 []api.Game
instance : Ty Tryz.prog 124 false 1 24 (.slice none 0 0) [.slice none 0 0] := ⟨by kernel_rfl, by kernel_rfl, rfl, rfl⟩
instance : SliceTy Tryz.prog 124 229 := ⟨by kernel_rfl⟩
-- 125 struct { Score api.Score; First int; Games []api.Game; Fresh bool }
instance : Ty Tryz.prog 125 true 12 128 (.agg #[.slice none 0 0, .int .i64 0, .int .i64 0, .int .i64 0, .int .i64 0, .int .i64 0, .int .i64 0, .int .i64 0, .int .i64 0, .int .i64 0, .slice none 0 0, .bool false]) [.slice none 0 0, .int .i64 0, .int .i64 0, .int .i64 0, .int .i64 0, .int .i64 0, .int .i64 0, .int .i64 0, .int .i64 0, .int .i64 0, .slice none 0 0, .bool false] := ⟨by kernel_rfl, by kernel_rfl, rfl, rfl⟩
instance : FieldTy Tryz.prog 125 0 0 80 8 := ⟨by kernel_rfl, by kernel_rfl⟩
instance : FieldTy Tryz.prog 125 1 9 3 0 := ⟨by kernel_rfl, by kernel_rfl⟩
instance : FieldTy Tryz.prog 125 2 10 124 0 := ⟨by kernel_rfl, by kernel_rfl⟩
instance : FieldTy Tryz.prog 125 3 11 4 0 := ⟨by kernel_rfl, by kernel_rfl⟩
instance : BuildTy Tryz.prog 125 [(0, 9), (9, 1), (10, 1), (11, 1)] [.slice none 0 0, .int .i64 0, .int .i64 0, .int .i64 0, .int .i64 0, .int .i64 0, .int .i64 0, .int .i64 0, .int .i64 0, .int .i64 0, .slice none 0 0, .bool false] := ⟨fun parts => by kernel_rfl⟩
-- 126 deuce/deuceref01.Match
instance : Ty Tryz.prog 126 true 12 128 (.agg #[.slice none 0 0, .int .i64 0, .int .i64 0, .int .i64 0, .int .i64 0, .int .i64 0, .int .i64 0, .int .i64 0, .int .i64 0, .int .i64 0, .slice none 0 0, .bool false]) [.slice none 0 0, .int .i64 0, .int .i64 0, .int .i64 0, .int .i64 0, .int .i64 0, .int .i64 0, .int .i64 0, .int .i64 0, .int .i64 0, .slice none 0 0, .bool false] := ⟨by kernel_rfl, by kernel_rfl, rfl, rfl⟩
instance : FieldTy Tryz.prog 126 0 0 80 8 := ⟨by kernel_rfl, by kernel_rfl⟩
instance : FieldTy Tryz.prog 126 1 9 3 0 := ⟨by kernel_rfl, by kernel_rfl⟩
instance : FieldTy Tryz.prog 126 2 10 124 0 := ⟨by kernel_rfl, by kernel_rfl⟩
instance : FieldTy Tryz.prog 126 3 11 4 0 := ⟨by kernel_rfl, by kernel_rfl⟩
instance : BuildTy Tryz.prog 126 [(0, 9), (9, 1), (10, 1), (11, 1)] [.slice none 0 0, .int .i64 0, .int .i64 0, .int .i64 0, .int .i64 0, .int .i64 0, .int .i64 0, .int .i64 0, .int .i64 0, .int .i64 0, .slice none 0 0, .bool false] := ⟨fun parts => by kernel_rfl⟩
-- 128 func(api.Format, int, []int) (deuceref01.Match, api.Errno)
instance : Ty Tryz.prog 128 false 1 8 (.nilFunc) [.nilFunc] := ⟨by kernel_rfl, by kernel_rfl, rfl, rfl⟩
-- 129 *score.match
instance : Ty Tryz.prog 129 false 1 8 (.pointer none) [.pointer none] := ⟨by kernel_rfl, by kernel_rfl, rfl, rfl⟩
-- 131 func(api.Format, int, []int) (*score.match, api.Errno)
instance : Ty Tryz.prog 131 false 1 8 (.nilFunc) [.nilFunc] := ⟨by kernel_rfl, by kernel_rfl, rfl, rfl⟩
-- 132 struct { api.Format }
instance : Ty Tryz.prog 132 true 10 80 (.agg #[.int .i64 0, .int .i64 0, .bool false, .int .i64 0, .int .i64 0, .int .i64 0, .int .i64 0, .int .i64 0, .int .i64 0, .bool false]) [.int .i64 0, .int .i64 0, .bool false, .int .i64 0, .int .i64 0, .int .i64 0, .int .i64 0, .int .i64 0, .int .i64 0, .bool false] := ⟨by kernel_rfl, by kernel_rfl, rfl, rfl⟩
instance : FieldTy Tryz.prog 132 0 0 49 9 := ⟨by kernel_rfl, by kernel_rfl⟩
instance : BuildTy Tryz.prog 132 [(0, 10)] [.int .i64 0, .int .i64 0, .bool false, .int .i64 0, .int .i64 0, .int .i64 0, .int .i64 0, .int .i64 0, .int .i64 0, .bool false] := ⟨fun parts => by kernel_rfl⟩
-- 133 deuce/score.rules
instance : Ty Tryz.prog 133 true 10 80 (.agg #[.int .i64 0, .int .i64 0, .bool false, .int .i64 0, .int .i64 0, .int .i64 0, .int .i64 0, .int .i64 0, .int .i64 0, .bool false]) [.int .i64 0, .int .i64 0, .bool false, .int .i64 0, .int .i64 0, .int .i64 0, .int .i64 0, .int .i64 0, .int .i64 0, .bool false] := ⟨by kernel_rfl, by kernel_rfl, rfl, rfl⟩
instance : FieldTy Tryz.prog 133 0 0 49 9 := ⟨by kernel_rfl, by kernel_rfl⟩
instance : BuildTy Tryz.prog 133 [(0, 10)] [.int .i64 0, .int .i64 0, .bool false, .int .i64 0, .int .i64 0, .int .i64 0, .int .i64 0, .int .i64 0, .int .i64 0, .bool false] := ⟨fun parts => by kernel_rfl⟩
-- 134 []bool
instance : Ty Tryz.prog 134 false 1 24 (.slice none 0 0) [.slice none 0 0] := ⟨by kernel_rfl, by kernel_rfl, rfl, rfl⟩
instance : SliceTy Tryz.prog 134 4 := ⟨by kernel_rfl⟩
-- 135 struct { score.rules; api.Score; first int; won api.Pair; ties []bool; games []api.Game }
instance : Ty Tryz.prog 135 true 24 240 (.agg #[.int .i64 0, .int .i64 0, .bool false, .int .i64 0, .int .i64 0, .int .i64 0, .int .i64 0, .int .i64 0, .int .i64 0, .bool false, .slice none 0 0, .int .i64 0, .int .i64 0, .int .i64 0, .int .i64 0, .int .i64 0, .int .i64 0, .int .i64 0, .int .i64 0, .int .i64 0, .int .i64 0, .int .i64 0, .slice none 0 0, .slice none 0 0]) [.int .i64 0, .int .i64 0, .bool false, .int .i64 0, .int .i64 0, .int .i64 0, .int .i64 0, .int .i64 0, .int .i64 0, .bool false, .slice none 0 0, .int .i64 0, .int .i64 0, .int .i64 0, .int .i64 0, .int .i64 0, .int .i64 0, .int .i64 0, .int .i64 0, .int .i64 0, .int .i64 0, .int .i64 0, .slice none 0 0, .slice none 0 0] := ⟨by kernel_rfl, by kernel_rfl, rfl, rfl⟩
instance : FieldTy Tryz.prog 135 0 0 133 9 := ⟨by kernel_rfl, by kernel_rfl⟩
instance : FieldTy Tryz.prog 135 1 10 80 8 := ⟨by kernel_rfl, by kernel_rfl⟩
instance : FieldTy Tryz.prog 135 2 19 3 0 := ⟨by kernel_rfl, by kernel_rfl⟩
instance : FieldTy Tryz.prog 135 3 20 73 1 := ⟨by kernel_rfl, by kernel_rfl⟩
instance : FieldTy Tryz.prog 135 4 22 134 0 := ⟨by kernel_rfl, by kernel_rfl⟩
instance : FieldTy Tryz.prog 135 5 23 124 0 := ⟨by kernel_rfl, by kernel_rfl⟩
instance : BuildTy Tryz.prog 135 [(0, 10), (10, 9), (19, 1), (20, 2), (22, 1), (23, 1)] [.int .i64 0, .int .i64 0, .bool false, .int .i64 0, .int .i64 0, .int .i64 0, .int .i64 0, .int .i64 0, .int .i64 0, .bool false, .slice none 0 0, .int .i64 0, .int .i64 0, .int .i64 0, .int .i64 0, .int .i64 0, .int .i64 0, .int .i64 0, .int .i64 0, .int .i64 0, .int .i64 0, .int .i64 0, .slice none 0 0, .slice none 0 0] := ⟨fun parts => by kernel_rfl⟩
-- 136 deuce/score.match
instance : Ty Tryz.prog 136 true 24 240 (.agg #[.int .i64 0, .int .i64 0, .bool false, .int .i64 0, .int .i64 0, .int .i64 0, .int .i64 0, .int .i64 0, .int .i64 0, .bool false, .slice none 0 0, .int .i64 0, .int .i64 0, .int .i64 0, .int .i64 0, .int .i64 0, .int .i64 0, .int .i64 0, .int .i64 0, .int .i64 0, .int .i64 0, .int .i64 0, .slice none 0 0, .slice none 0 0]) [.int .i64 0, .int .i64 0, .bool false, .int .i64 0, .int .i64 0, .int .i64 0, .int .i64 0, .int .i64 0, .int .i64 0, .bool false, .slice none 0 0, .int .i64 0, .int .i64 0, .int .i64 0, .int .i64 0, .int .i64 0, .int .i64 0, .int .i64 0, .int .i64 0, .int .i64 0, .int .i64 0, .int .i64 0, .slice none 0 0, .slice none 0 0] := ⟨by kernel_rfl, by kernel_rfl, rfl, rfl⟩
instance : FieldTy Tryz.prog 136 0 0 133 9 := ⟨by kernel_rfl, by kernel_rfl⟩
instance : FieldTy Tryz.prog 136 1 10 80 8 := ⟨by kernel_rfl, by kernel_rfl⟩
instance : FieldTy Tryz.prog 136 2 19 3 0 := ⟨by kernel_rfl, by kernel_rfl⟩
instance : FieldTy Tryz.prog 136 3 20 73 1 := ⟨by kernel_rfl, by kernel_rfl⟩
instance : FieldTy Tryz.prog 136 4 22 134 0 := ⟨by kernel_rfl, by kernel_rfl⟩
instance : FieldTy Tryz.prog 136 5 23 124 0 := ⟨by kernel_rfl, by kernel_rfl⟩
instance : BuildTy Tryz.prog 136 [(0, 10), (10, 9), (19, 1), (20, 2), (22, 1), (23, 1)] [.int .i64 0, .int .i64 0, .bool false, .int .i64 0, .int .i64 0, .int .i64 0, .int .i64 0, .int .i64 0, .int .i64 0, .bool false, .slice none 0 0, .int .i64 0, .int .i64 0, .int .i64 0, .int .i64 0, .int .i64 0, .int .i64 0, .int .i64 0, .int .i64 0, .int .i64 0, .int .i64 0, .int .i64 0, .slice none 0 0, .slice none 0 0] := ⟨fun parts => by kernel_rfl⟩
-- 137 map[card.spot]*card.node
instance : Ty Tryz.prog 137 false 1 8 (.map none) [.map none] := ⟨by kernel_rfl, by kernel_rfl, rfl, rfl⟩
-- 138 deuce/card.crowd
instance : Ty Tryz.prog 138 false 1 8 (.map none) [.map none] := ⟨by kernel_rfl, by kernel_rfl, rfl, rfl⟩
-- 140 func(api.Card) (card.crowd, api.Errno)
instance : Ty Tryz.prog 140 false 1 8 (.nilFunc) [.nilFunc] := ⟨by kernel_rfl, by kernel_rfl, rfl, rfl⟩
-- 141 [5]api.Pair
instance : Ty Tryz.prog 141 true 10 80 (.agg #[.int .i64 0, .int .i64 0, .int .i64 0, .int .i64 0, .int .i64 0, .int .i64 0, .int .i64 0, .int .i64 0, .int .i64 0, .int .i64 0]) [.int .i64 0, .int .i64 0, .int .i64 0, .int .i64 0, .int .i64 0, .int .i64 0, .int .i64 0, .int .i64 0, .int .i64 0, .int .i64 0] := ⟨by kernel_rfl, by kernel_rfl, rfl, rfl⟩
instance : ArrayTy Tryz.prog 141 5 73 := ⟨by kernel_rfl⟩
-- 142 struct { first int; over int; sets [5]api.Pair; games api.Pair; points api.Pair }
instance : Ty Tryz.prog 142 true 16 128 (.agg #[.int .i64 0, .int .i64 0, .int .i64 0, .int .i64 0, .int .i64 0, .int .i64 0, .int .i64 0, .int .i64 0, .int .i64 0, .int .i64 0, .int .i64 0, .int .i64 0, .int .i64 0, .int .i64 0, .int .i64 0, .int .i64 0]) [.int .i64 0, .int .i64 0, .int .i64 0, .int .i64 0, .int .i64 0, .int .i64 0, .int .i64 0, .int .i64 0, .int .i64 0, .int .i64 0, .int .i64 0, .int .i64 0, .int .i64 0, .int .i64 0, .int .i64 0, .int .i64 0] := ⟨by kernel_rfl, by kernel_rfl, rfl, rfl⟩
instance : FieldTy Tryz.prog 142 0 0 3 0 := ⟨by kernel_rfl, by kernel_rfl⟩
instance : FieldTy Tryz.prog 142 1 1 3 0 := ⟨by kernel_rfl, by kernel_rfl⟩
instance : FieldTy Tryz.prog 142 2 2 141 9 := ⟨by kernel_rfl, by kernel_rfl⟩
instance : FieldTy Tryz.prog 142 3 12 73 1 := ⟨by kernel_rfl, by kernel_rfl⟩
instance : FieldTy Tryz.prog 142 4 14 73 1 := ⟨by kernel_rfl, by kernel_rfl⟩
instance : BuildTy Tryz.prog 142 [(0, 1), (1, 1), (2, 10), (12, 2), (14, 2)] [.int .i64 0, .int .i64 0, .int .i64 0, .int .i64 0, .int .i64 0, .int .i64 0, .int .i64 0, .int .i64 0, .int .i64 0, .int .i64 0, .int .i64 0, .int .i64 0, .int .i64 0, .int .i64 0, .int .i64 0, .int .i64 0] := ⟨fun parts => by kernel_rfl⟩
-- 143 deuce/card.spot
instance : Ty Tryz.prog 143 true 16 128 (.agg #[.int .i64 0, .int .i64 0, .int .i64 0, .int .i64 0, .int .i64 0, .int .i64 0, .int .i64 0, .int .i64 0, .int .i64 0, .int .i64 0, .int .i64 0, .int .i64 0, .int .i64 0, .int .i64 0, .int .i64 0, .int .i64 0]) [.int .i64 0, .int .i64 0, .int .i64 0, .int .i64 0, .int .i64 0, .int .i64 0, .int .i64 0, .int .i64 0, .int .i64 0, .int .i64 0, .int .i64 0, .int .i64 0, .int .i64 0, .int .i64 0, .int .i64 0, .int .i64 0] := ⟨by kernel_rfl, by kernel_rfl, rfl, rfl⟩
instance : FieldTy Tryz.prog 143 0 0 3 0 := ⟨by kernel_rfl, by kernel_rfl⟩
instance : FieldTy Tryz.prog 143 1 1 3 0 := ⟨by kernel_rfl, by kernel_rfl⟩
instance : FieldTy Tryz.prog 143 2 2 141 9 := ⟨by kernel_rfl, by kernel_rfl⟩
instance : FieldTy Tryz.prog 143 3 12 73 1 := ⟨by kernel_rfl, by kernel_rfl⟩
instance : FieldTy Tryz.prog 143 4 14 73 1 := ⟨by kernel_rfl, by kernel_rfl⟩
instance : BuildTy Tryz.prog 143 [(0, 1), (1, 1), (2, 10), (12, 2), (14, 2)] [.int .i64 0, .int .i64 0, .int .i64 0, .int .i64 0, .int .i64 0, .int .i64 0, .int .i64 0, .int .i64 0, .int .i64 0, .int .i64 0, .int .i64 0, .int .i64 0, .int .i64 0, .int .i64 0, .int .i64 0, .int .i64 0] := ⟨fun parts => by kernel_rfl⟩
-- 144 func() api.Board
instance : Ty Tryz.prog 144 false 1 8 (.nilFunc) [.nilFunc] := ⟨by kernel_rfl, by kernel_rfl, rfl, rfl⟩
-- 145 func(...int) int
instance : Ty Tryz.prog 145 false 1 8 (.nilFunc) [.nilFunc] := ⟨by kernel_rfl, by kernel_rfl, rfl, rfl⟩
-- 146 func([]api.Pair, []api.Pair, func(api.Pair, api.Pair) int) int
instance : Ty Tryz.prog 146 false 1 8 (.nilFunc) [.nilFunc] := ⟨by kernel_rfl, by kernel_rfl, rfl, rfl⟩
-- 147 func(api.Pair, api.Pair) int
instance : Ty Tryz.prog 147 false 1 8 (.nilFunc) [.nilFunc] := ⟨by kernel_rfl, by kernel_rfl, rfl, rfl⟩
-- 148 func(api.Board, api.Board) int
instance : Ty Tryz.prog 148 false 1 8 (.nilFunc) [.nilFunc] := ⟨by kernel_rfl, by kernel_rfl, rfl, rfl⟩
-- 149 func([]api.Board, func(api.Board, api.Board) int)
instance : Ty Tryz.prog 149 false 1 8 (.nilFunc) [.nilFunc] := ⟨by kernel_rfl, by kernel_rfl, rfl, rfl⟩
-- 150 func([]api.Board, func(api.Board, api.Board) bool) []api.Board
instance : Ty Tryz.prog 150 false 1 8 (.nilFunc) [.nilFunc] := ⟨by kernel_rfl, by kernel_rfl, rfl, rfl⟩
-- 152 func(api.Card) (card.crowd, int, api.Errno)
instance : Ty Tryz.prog 152 false 1 8 (.nilFunc) [.nilFunc] := ⟨by kernel_rfl, by kernel_rfl, rfl, rfl⟩
-- 153 func(int, []api.Absence) bool
instance : Ty Tryz.prog 153 false 1 8 (.nilFunc) [.nilFunc] := ⟨by kernel_rfl, by kernel_rfl, rfl, rfl⟩
-- 154 func(int, api.Report) bool
instance : Ty Tryz.prog 154 false 1 8 (.nilFunc) [.nilFunc] := ⟨by kernel_rfl, by kernel_rfl, rfl, rfl⟩
-- 156 func() (api.Format, []int)
instance : Ty Tryz.prog 156 false 1 8 (.nilFunc) [.nilFunc] := ⟨by kernel_rfl, by kernel_rfl, rfl, rfl⟩
-- 157 func(api.Ledger) (*rank.book, api.Errno)
instance : Ty Tryz.prog 157 false 1 8 (.nilFunc) [.nilFunc] := ⟨by kernel_rfl, by kernel_rfl, rfl, rfl⟩
-- 158 []rank.line
instance : Ty Tryz.prog 158 false 1 24 (.slice none 0 0) [.slice none 0 0] := ⟨by kernel_rfl, by kernel_rfl, rfl, rfl⟩
instance : SliceTy Tryz.prog 158 166 := ⟨by kernel_rfl⟩
-- 159 struct { api.Ledger }
instance : Ty Tryz.prog 159 true 5 88 (.agg #[.int .i64 0, .int .i64 0, .slice none 0 0, .slice none 0 0, .slice none 0 0]) [.int .i64 0, .int .i64 0, .slice none 0 0, .slice none 0 0, .slice none 0 0] := ⟨by kernel_rfl, by kernel_rfl, rfl, rfl⟩
instance : FieldTy Tryz.prog 159 0 0 25 4 := ⟨by kernel_rfl, by kernel_rfl⟩
instance : BuildTy Tryz.prog 159 [(0, 5)] [.int .i64 0, .int .i64 0, .slice none 0 0, .slice none 0 0, .slice none 0 0] := ⟨fun parts => by kernel_rfl⟩
-- 160 deuce/rank.book
instance : Ty Tryz.prog 160 true 5 88 (.agg #[.int .i64 0, .int .i64 0, .slice none 0 0, .slice none 0 0, .slice none 0 0]) [.int .i64 0, .int .i64 0, .slice none 0 0, .slice none 0 0, .slice none 0 0] := ⟨by kernel_rfl, by kernel_rfl, rfl, rfl⟩
instance : FieldTy Tryz.prog 160 0 0 25 4 := ⟨by kernel_rfl, by kernel_rfl⟩
instance : BuildTy Tryz.prog 160 [(0, 5)] [.int .i64 0, .int .i64 0, .slice none 0 0, .slice none 0 0, .slice none 0 0] := ⟨fun parts => by kernel_rfl⟩
-- 161 func(int, int) []api.Report
instance : Ty Tryz.prog 161 false 1 8 (.nilFunc) [.nilFunc] := ⟨by kernel_rfl, by kernel_rfl, rfl, rfl⟩
-- 162 func([]api.Absence, int, int) bool
instance : Ty Tryz.prog 162 false 1 8 (.nilFunc) [.nilFunc] := ⟨by kernel_rfl, by kernel_rfl, rfl, rfl⟩
-- 163 func([]api.Report) int
instance : Ty Tryz.prog 163 false 1 8 (.nilFunc) [.nilFunc] := ⟨by kernel_rfl, by kernel_rfl, rfl, rfl⟩
-- 164 func([]api.Report) []api.Report
instance : Ty Tryz.prog 164 false 1 8 (.nilFunc) [.nilFunc] := ⟨by kernel_rfl, by kernel_rfl, rfl, rfl⟩
-- 165 struct { player int; points int; musts int; many int }
instance : Ty Tryz.prog 165 true 4 32 (.agg #[.int .i64 0, .int .i64 0, .int .i64 0, .int .i64 0]) [.int .i64 0, .int .i64 0, .int .i64 0, .int .i64 0] := ⟨by kernel_rfl, by kernel_rfl, rfl, rfl⟩
instance : EqS Tryz.prog 165 4 := ⟨by kernel_rfl, by kernel_rfl, by kernel_rfl⟩
instance : FieldTy Tryz.prog 165 0 0 3 0 := ⟨by kernel_rfl, by kernel_rfl⟩
instance : FieldTy Tryz.prog 165 1 1 3 0 := ⟨by kernel_rfl, by kernel_rfl⟩
instance : FieldTy Tryz.prog 165 2 2 3 0 := ⟨by kernel_rfl, by kernel_rfl⟩
instance : FieldTy Tryz.prog 165 3 3 3 0 := ⟨by kernel_rfl, by kernel_rfl⟩
instance : BuildTy Tryz.prog 165 [(0, 1), (1, 1), (2, 1), (3, 1)] [.int .i64 0, .int .i64 0, .int .i64 0, .int .i64 0] := ⟨fun parts => by kernel_rfl⟩
-- 166 deuce/rank.line
instance : Ty Tryz.prog 166 true 4 32 (.agg #[.int .i64 0, .int .i64 0, .int .i64 0, .int .i64 0]) [.int .i64 0, .int .i64 0, .int .i64 0, .int .i64 0] := ⟨by kernel_rfl, by kernel_rfl, rfl, rfl⟩
instance : EqS Tryz.prog 166 4 := ⟨by kernel_rfl, by kernel_rfl, by kernel_rfl⟩
instance : FieldTy Tryz.prog 166 0 0 3 0 := ⟨by kernel_rfl, by kernel_rfl⟩
instance : FieldTy Tryz.prog 166 1 1 3 0 := ⟨by kernel_rfl, by kernel_rfl⟩
instance : FieldTy Tryz.prog 166 2 2 3 0 := ⟨by kernel_rfl, by kernel_rfl⟩
instance : FieldTy Tryz.prog 166 3 3 3 0 := ⟨by kernel_rfl, by kernel_rfl⟩
instance : BuildTy Tryz.prog 166 [(0, 1), (1, 1), (2, 1), (3, 1)] [.int .i64 0, .int .i64 0, .int .i64 0, .int .i64 0] := ⟨fun parts => by kernel_rfl⟩
-- 167 func([]rank.line, func(rank.line, rank.line) int)
instance : Ty Tryz.prog 167 false 1 8 (.nilFunc) [.nilFunc] := ⟨by kernel_rfl, by kernel_rfl, rfl, rfl⟩
-- 168 func(rank.line, rank.line) int
instance : Ty Tryz.prog 168 false 1 8 (.nilFunc) [.nilFunc] := ⟨by kernel_rfl, by kernel_rfl, rfl, rfl⟩
-- 169 func(rank.line) int
instance : Ty Tryz.prog 169 false 1 8 (.nilFunc) [.nilFunc] := ⟨by kernel_rfl, by kernel_rfl, rfl, rfl⟩
-- 170 func(func([]int) bool)
instance : Ty Tryz.prog 170 false 1 8 (.nilFunc) [.nilFunc] := ⟨by kernel_rfl, by kernel_rfl, rfl, rfl⟩
-- 171 func(api.Plan) func(func([]int) bool)
instance : Ty Tryz.prog 171 false 1 8 (.nilFunc) [.nilFunc] := ⟨by kernel_rfl, by kernel_rfl, rfl, rfl⟩
-- 172 func(api.Plan, []int) []int
instance : Ty Tryz.prog 172 false 1 8 (.nilFunc) [.nilFunc] := ⟨by kernel_rfl, by kernel_rfl, rfl, rfl⟩
-- 173 func([]int, int) int
instance : Ty Tryz.prog 173 false 1 8 (.nilFunc) [.nilFunc] := ⟨by kernel_rfl, by kernel_rfl, rfl, rfl⟩
-- 174 [][]api.Report
instance : Ty Tryz.prog 174 false 1 24 (.slice none 0 0) [.slice none 0 0] := ⟨by kernel_rfl, by kernel_rfl, rfl, rfl⟩
instance : SliceTy Tryz.prog 174 22 := ⟨by kernel_rfl⟩
-- 175 func([]api.Report, int) []api.Report
instance : Ty Tryz.prog 175 false 1 8 (.nilFunc) [.nilFunc] := ⟨by kernel_rfl, by kernel_rfl, rfl, rfl⟩
-- 176 func([]api.Report, func(api.Report, api.Report) int)
instance : Ty Tryz.prog 176 false 1 8 (.nilFunc) [.nilFunc] := ⟨by kernel_rfl, by kernel_rfl, rfl, rfl⟩
-- 177 func(api.Report, api.Report) int
instance : Ty Tryz.prog 177 false 1 8 (.nilFunc) [.nilFunc] := ⟨by kernel_rfl, by kernel_rfl, rfl, rfl⟩
-- 178 func(api.Box) api.Errno
instance : Ty Tryz.prog 178 false 1 8 (.nilFunc) [.nilFunc] := ⟨by kernel_rfl, by kernel_rfl, rfl, rfl⟩
-- 179 []lines.point
instance : Ty Tryz.prog 179 false 1 24 (.slice none 0 0) [.slice none 0 0] := ⟨by kernel_rfl, by kernel_rfl, rfl, rfl⟩
instance : SliceTy Tryz.prog 179 183 := ⟨by kernel_rfl⟩
-- 180 func(api.View) []lines.point
instance : Ty Tryz.prog 180 false 1 8 (.nilFunc) [.nilFunc] := ⟨by kernel_rfl, by kernel_rfl, rfl, rfl⟩
-- 181 func([]lines.point, func(lines.point) bool) bool
instance : Ty Tryz.prog 181 false 1 8 (.nilFunc) [.nilFunc] := ⟨by kernel_rfl, by kernel_rfl, rfl, rfl⟩
-- 182 struct { x int; y int }
instance : Ty Tryz.prog 182 true 2 16 (.agg #[.int .i64 0, .int .i64 0]) [.int .i64 0, .int .i64 0] := ⟨by kernel_rfl, by kernel_rfl, rfl, rfl⟩
instance : EqS Tryz.prog 182 2 := ⟨by kernel_rfl, by kernel_rfl, by kernel_rfl⟩
instance : FieldTy Tryz.prog 182 0 0 3 0 := ⟨by kernel_rfl, by kernel_rfl⟩
instance : FieldTy Tryz.prog 182 1 1 3 0 := ⟨by kernel_rfl, by kernel_rfl⟩
instance : BuildTy Tryz.prog 182 [(0, 1), (1, 1)] [.int .i64 0, .int .i64 0] := ⟨fun parts => by kernel_rfl⟩
-- 183 deuce/lines.point
instance : Ty Tryz.prog 183 true 2 16 (.agg #[.int .i64 0, .int .i64 0]) [.int .i64 0, .int .i64 0] := ⟨by kernel_rfl, by kernel_rfl, rfl, rfl⟩
instance : EqS Tryz.prog 183 2 := ⟨by kernel_rfl, by kernel_rfl, by kernel_rfl⟩
instance : FieldTy Tryz.prog 183 0 0 3 0 := ⟨by kernel_rfl, by kernel_rfl⟩
instance : FieldTy Tryz.prog 183 1 1 3 0 := ⟨by kernel_rfl, by kernel_rfl⟩
instance : BuildTy Tryz.prog 183 [(0, 1), (1, 1)] [.int .i64 0, .int .i64 0] := ⟨fun parts => by kernel_rfl⟩
-- 184 func(api.View, lines.point) api.Mark
instance : Ty Tryz.prog 184 false 1 8 (.nilFunc) [.nilFunc] := ⟨by kernel_rfl, by kernel_rfl, rfl, rfl⟩
-- 185 func(lines.point) bool
instance : Ty Tryz.prog 185 false 1 8 (.nilFunc) [.nilFunc] := ⟨by kernel_rfl, by kernel_rfl, rfl, rfl⟩
-- 186 func(api.Format, int) deuceref01.Match
instance : Ty Tryz.prog 186 false 1 8 (.nilFunc) [.nilFunc] := ⟨by kernel_rfl, by kernel_rfl, rfl, rfl⟩
-- 187 func(api.Format, deuceref01.Match, int) deuceref01.Match
instance : Ty Tryz.prog 187 false 1 8 (.nilFunc) [.nilFunc] := ⟨by kernel_rfl, by kernel_rfl, rfl, rfl⟩
-- 188 func(api.Format, deuceref01.Match) int
instance : Ty Tryz.prog 188 false 1 8 (.nilFunc) [.nilFunc] := ⟨by kernel_rfl, by kernel_rfl, rfl, rfl⟩
-- 189 func(score.rules, int) *score.match
instance : Ty Tryz.prog 189 false 1 8 (.nilFunc) [.nilFunc] := ⟨by kernel_rfl, by kernel_rfl, rfl, rfl⟩
-- 190 func(int)
instance : Ty Tryz.prog 190 false 1 8 (.nilFunc) [.nilFunc] := ⟨by kernel_rfl, by kernel_rfl, rfl, rfl⟩
-- 191 func([]api.Pair) []api.Pair
instance : Ty Tryz.prog 191 false 1 8 (.nilFunc) [.nilFunc] := ⟨by kernel_rfl, by kernel_rfl, rfl, rfl⟩
-- 192 func([]api.Board, int, int, int, func(api.Board, api.Board) int)
instance : Ty Tryz.prog 192 false 1 8 (.nilFunc) [.nilFunc] := ⟨by kernel_rfl, by kernel_rfl, rfl, rfl⟩
-- 193 func(uint) int
instance : Ty Tryz.prog 193 false 1 8 (.nilFunc) [.nilFunc] := ⟨by kernel_rfl, by kernel_rfl, rfl, rfl⟩
-- 194 uint
instance : Ty Tryz.prog 194 false 1 8 (.int .u64 0) [.int .u64 0] := ⟨by kernel_rfl, by kernel_rfl, rfl, rfl⟩
-- 195 func(api.Card) api.Errno
instance : Ty Tryz.prog 195 false 1 8 (.nilFunc) [.nilFunc] := ⟨by kernel_rfl, by kernel_rfl, rfl, rfl⟩
-- 196 struct { api.Card }
instance : Ty Tryz.prog 196 true 12 112 (.agg #[.int .i64 0, .int .i64 0, .bool false, .int .i64 0, .int .i64 0, .int .i64 0, .int .i64 0, .int .i64 0, .int .i64 0, .bool false, .int .i64 0, .slice none 0 0]) [.int .i64 0, .int .i64 0, .bool false, .int .i64 0, .int .i64 0, .int .i64 0, .int .i64 0, .int .i64 0, .int .i64 0, .bool false, .int .i64 0, .slice none 0 0] := ⟨by kernel_rfl, by kernel_rfl, rfl, rfl⟩
instance : FieldTy Tryz.prog 196 0 0 54 11 := ⟨by kernel_rfl, by kernel_rfl⟩
instance : BuildTy Tryz.prog 196 [(0, 12)] [.int .i64 0, .int .i64 0, .bool false, .int .i64 0, .int .i64 0, .int .i64 0, .int .i64 0, .int .i64 0, .int .i64 0, .bool false, .int .i64 0, .slice none 0 0] := ⟨fun parts => by kernel_rfl⟩
-- 197 deuce/card.reader
instance : Ty Tryz.prog 197 true 12 112 (.agg #[.int .i64 0, .int .i64 0, .bool false, .int .i64 0, .int .i64 0, .int .i64 0, .int .i64 0, .int .i64 0, .int .i64 0, .bool false, .int .i64 0, .slice none 0 0]) [.int .i64 0, .int .i64 0, .bool false, .int .i64 0, .int .i64 0, .int .i64 0, .int .i64 0, .int .i64 0, .int .i64 0, .bool false, .int .i64 0, .slice none 0 0] := ⟨by kernel_rfl, by kernel_rfl, rfl, rfl⟩
instance : FieldTy Tryz.prog 197 0 0 54 11 := ⟨by kernel_rfl, by kernel_rfl⟩
instance : BuildTy Tryz.prog 197 [(0, 12)] [.int .i64 0, .int .i64 0, .bool false, .int .i64 0, .int .i64 0, .int .i64 0, .int .i64 0, .int .i64 0, .int .i64 0, .bool false, .int .i64 0, .slice none 0 0] := ⟨fun parts => by kernel_rfl⟩
-- 198 func() card.crowd
instance : Ty Tryz.prog 198 false 1 8 (.nilFunc) [.nilFunc] := ⟨by kernel_rfl, by kernel_rfl, rfl, rfl⟩
-- 199 func(card.crowd, api.Note) card.crowd
instance : Ty Tryz.prog 199 false 1 8 (.nilFunc) [.nilFunc] := ⟨by kernel_rfl, by kernel_rfl, rfl, rfl⟩
-- 200 func(api.Report, int) int
instance : Ty Tryz.prog 200 false 1 8 (.nilFunc) [.nilFunc] := ⟨by kernel_rfl, by kernel_rfl, rfl, rfl⟩
-- 201 func([]api.Absence, func(api.Absence) bool) bool
instance : Ty Tryz.prog 201 false 1 8 (.nilFunc) [.nilFunc] := ⟨by kernel_rfl, by kernel_rfl, rfl, rfl⟩
-- 202 func(api.Absence) bool
instance : Ty Tryz.prog 202 false 1 8 (.nilFunc) [.nilFunc] := ⟨by kernel_rfl, by kernel_rfl, rfl, rfl⟩
-- 203 func([]rank.line, int, int, int, func(rank.line, rank.line) int)
instance : Ty Tryz.prog 203 false 1 8 (.nilFunc) [.nilFunc] := ⟨by kernel_rfl, by kernel_rfl, rfl, rfl⟩
-- 204 func([]api.Person, func(api.Person) bool) bool
instance : Ty Tryz.prog 204 false 1 8 (.nilFunc) [.nilFunc] := ⟨by kernel_rfl, by kernel_rfl, rfl, rfl⟩
-- 205 func(api.Person) bool
instance : Ty Tryz.prog 205 false 1 8 (.nilFunc) [.nilFunc] := ⟨by kernel_rfl, by kernel_rfl, rfl, rfl⟩
-- 206 func([]int, func(int) bool) bool
instance : Ty Tryz.prog 206 false 1 8 (.nilFunc) [.nilFunc] := ⟨by kernel_rfl, by kernel_rfl, rfl, rfl⟩
-- 207 func(int) bool
instance : Ty Tryz.prog 207 false 1 8 (.nilFunc) [.nilFunc] := ⟨by kernel_rfl, by kernel_rfl, rfl, rfl⟩
-- 208 func([]int, func(int, int) int)
instance : Ty Tryz.prog 208 false 1 8 (.nilFunc) [.nilFunc] := ⟨by kernel_rfl, by kernel_rfl, rfl, rfl⟩
-- 209 func([]int) bool
instance : Ty Tryz.prog 209 false 1 8 (.nilFunc) [.nilFunc] := ⟨by kernel_rfl, by kernel_rfl, rfl, rfl⟩
-- 210 func([]int, int) bool
instance : Ty Tryz.prog 210 false 1 8 (.nilFunc) [.nilFunc] := ⟨by kernel_rfl, by kernel_rfl, rfl, rfl⟩
-- 211 func([]int) []int
instance : Ty Tryz.prog 211 false 1 8 (.nilFunc) [.nilFunc] := ⟨by kernel_rfl, by kernel_rfl, rfl, rfl⟩
-- 212 func(api.Plan, int, int) bool
instance : Ty Tryz.prog 212 false 1 8 (.nilFunc) [.nilFunc] := ⟨by kernel_rfl, by kernel_rfl, rfl, rfl⟩
-- 213 func(api.Ledger, []api.Absence) bool
instance : Ty Tryz.prog 213 false 1 8 (.nilFunc) [.nilFunc] := ⟨by kernel_rfl, by kernel_rfl, rfl, rfl⟩
-- 214 func([]api.Report, int, func(api.Report, api.Report) int)
instance : Ty Tryz.prog 214 false 1 8 (.nilFunc) [.nilFunc] := ⟨by kernel_rfl, by kernel_rfl, rfl, rfl⟩
-- 215 func([]api.Strip, func(api.Strip) bool) bool
instance : Ty Tryz.prog 215 false 1 8 (.nilFunc) [.nilFunc] := ⟨by kernel_rfl, by kernel_rfl, rfl, rfl⟩
-- 216 func(api.Strip) bool
instance : Ty Tryz.prog 216 false 1 8 (.nilFunc) [.nilFunc] := ⟨by kernel_rfl, by kernel_rfl, rfl, rfl⟩
-- 217 func(api.Span, int, int) bool
instance : Ty Tryz.prog 217 false 1 8 (.nilFunc) [.nilFunc] := ⟨by kernel_rfl, by kernel_rfl, rfl, rfl⟩
-- 218 func(func(lines.point, []int) bool)
instance : Ty Tryz.prog 218 false 1 8 (.nilFunc) [.nilFunc] := ⟨by kernel_rfl, by kernel_rfl, rfl, rfl⟩
-- 219 func(api.View) func(func(lines.point, []int) bool)
instance : Ty Tryz.prog 219 false 1 8 (.nilFunc) [.nilFunc] := ⟨by kernel_rfl, by kernel_rfl, rfl, rfl⟩
-- 220 func([]lines.point, func(lines.point) bool) int
instance : Ty Tryz.prog 220 false 1 8 (.nilFunc) [.nilFunc] := ⟨by kernel_rfl, by kernel_rfl, rfl, rfl⟩
-- 221 func(api.Format, deuceref01.Match) deuceref01.Match
instance : Ty Tryz.prog 221 false 1 8 (.nilFunc) [.nilFunc] := ⟨by kernel_rfl, by kernel_rfl, rfl, rfl⟩
-- 223 func(api.Format, api.Board) (bool, int)
instance : Ty Tryz.prog 223 false 1 8 (.nilFunc) [.nilFunc] := ⟨by kernel_rfl, by kernel_rfl, rfl, rfl⟩
-- 224 func(api.Pair, int) api.Pair
instance : Ty Tryz.prog 224 false 1 8 (.nilFunc) [.nilFunc] := ⟨by kernel_rfl, by kernel_rfl, rfl, rfl⟩
-- 225 func(api.Format, api.Pair) int
instance : Ty Tryz.prog 225 false 1 8 (.nilFunc) [.nilFunc] := ⟨by kernel_rfl, by kernel_rfl, rfl, rfl⟩
-- 226 func(api.Pair, int) int
instance : Ty Tryz.prog 226 false 1 8 (.nilFunc) [.nilFunc] := ⟨by kernel_rfl, by kernel_rfl, rfl, rfl⟩
-- 227 func(api.Format, int, int, bool, int) int
instance : Ty Tryz.prog 227 false 1 8 (.nilFunc) [.nilFunc] := ⟨by kernel_rfl, by kernel_rfl, rfl, rfl⟩
-- 228 struct { Set int; Tie bool; Server int; Winner int; Points api.Pair; Fresh bool }
instance : Ty Tryz.prog 228 true 7 56 (.agg #[.int .i64 0, .bool false, .int .i64 0, .int .i64 0, .int .i64 0, .int .i64 0, .bool false]) [.int .i64 0, .bool false, .int .i64 0, .int .i64 0, .int .i64 0, .int .i64 0, .bool false] := ⟨by kernel_rfl, by kernel_rfl, rfl, rfl⟩
instance : FieldTy Tryz.prog 228 0 0 3 0 := ⟨by kernel_rfl, by kernel_rfl⟩
instance : FieldTy Tryz.prog 228 1 1 4 0 := ⟨by kernel_rfl, by kernel_rfl⟩
instance : FieldTy Tryz.prog 228 2 2 3 0 := ⟨by kernel_rfl, by kernel_rfl⟩
instance : FieldTy Tryz.prog 228 3 3 3 0 := ⟨by kernel_rfl, by kernel_rfl⟩
instance : FieldTy Tryz.prog 228 4 4 73 1 := ⟨by kernel_rfl, by kernel_rfl⟩
instance : FieldTy Tryz.prog 228 5 6 4 0 := ⟨by kernel_rfl, by kernel_rfl⟩
instance : BuildTy Tryz.prog 228 [(0, 1), (1, 1), (2, 1), (3, 1), (4, 2), (6, 1)] [.int .i64 0, .bool false, .int .i64 0, .int .i64 0, .int .i64 0, .int .i64 0, .bool false] := ⟨fun parts => by kernel_rfl⟩
-- 229 deuce/api.Game
instance : Ty Tryz.prog 229 true 7 56 (.agg #[.int .i64 0, .bool false, .int .i64 0, .int .i64 0, .int .i64 0, .int .i64 0, .bool false]) [.int .i64 0, .bool false, .int .i64 0, .int .i64 0, .int .i64 0, .int .i64 0, .bool false] := ⟨by kernel_rfl, by kernel_rfl, rfl, rfl⟩
instance : FieldTy Tryz.prog 229 0 0 3 0 := ⟨by kernel_rfl, by kernel_rfl⟩
instance : FieldTy Tryz.prog 229 1 1 4 0 := ⟨by kernel_rfl, by kernel_rfl⟩
instance : FieldTy Tryz.prog 229 2 2 3 0 := ⟨by kernel_rfl, by kernel_rfl⟩
instance : FieldTy Tryz.prog 229 3 3 3 0 := ⟨by kernel_rfl, by kernel_rfl⟩
instance : FieldTy Tryz.prog 229 4 4 73 1 := ⟨by kernel_rfl, by kernel_rfl⟩
instance : FieldTy Tryz.prog 229 5 6 4 0 := ⟨by kernel_rfl, by kernel_rfl⟩
instance : BuildTy Tryz.prog 229 [(0, 1), (1, 1), (2, 1), (3, 1), (4, 2), (6, 1)] [.int .i64 0, .bool false, .int .i64 0, .int .i64 0, .int .i64 0, .int .i64 0, .bool false] := ⟨fun parts => by kernel_rfl⟩
-- 230 func([]api.Pair) api.Pair
instance : Ty Tryz.prog 230 false 1 8 (.nilFunc) [.nilFunc] := ⟨by kernel_rfl, by kernel_rfl, rfl, rfl⟩
-- 231 struct { tie int; to int }
instance : Ty Tryz.prog 231 true 2 16 (.agg #[.int .i64 0, .int .i64 0]) [.int .i64 0, .int .i64 0] := ⟨by kernel_rfl, by kernel_rfl, rfl, rfl⟩
instance : EqS Tryz.prog 231 2 := ⟨by kernel_rfl, by kernel_rfl, by kernel_rfl⟩
instance : FieldTy Tryz.prog 231 0 0 3 0 := ⟨by kernel_rfl, by kernel_rfl⟩
instance : FieldTy Tryz.prog 231 1 1 3 0 := ⟨by kernel_rfl, by kernel_rfl⟩
instance : BuildTy Tryz.prog 231 [(0, 1), (1, 1)] [.int .i64 0, .int .i64 0] := ⟨fun parts => by kernel_rfl⟩
-- 232 deuce/score.set
instance : Ty Tryz.prog 232 true 2 16 (.agg #[.int .i64 0, .int .i64 0]) [.int .i64 0, .int .i64 0] := ⟨by kernel_rfl, by kernel_rfl, rfl, rfl⟩
instance : EqS Tryz.prog 232 2 := ⟨by kernel_rfl, by kernel_rfl, by kernel_rfl⟩
instance : FieldTy Tryz.prog 232 0 0 3 0 := ⟨by kernel_rfl, by kernel_rfl⟩
instance : FieldTy Tryz.prog 232 1 1 3 0 := ⟨by kernel_rfl, by kernel_rfl⟩
instance : BuildTy Tryz.prog 232 [(0, 1), (1, 1)] [.int .i64 0, .int .i64 0] := ⟨fun parts => by kernel_rfl⟩
-- 233 func(api.Pair) score.set
instance : Ty Tryz.prog 233 false 1 8 (.nilFunc) [.nilFunc] := ⟨by kernel_rfl, by kernel_rfl, rfl, rfl⟩
-- 234 func() int
instance : Ty Tryz.prog 234 false 1 8 (.nilFunc) [.nilFunc] := ⟨by kernel_rfl, by kernel_rfl, rfl, rfl⟩
-- 235 func(api.Pair) int
instance : Ty Tryz.prog 235 false 1 8 (.nilFunc) [.nilFunc] := ⟨by kernel_rfl, by kernel_rfl, rfl, rfl⟩
-- 236 func(score.set, bool, api.Pair) int
instance : Ty Tryz.prog 236 false 1 8 (.nilFunc) [.nilFunc] := ⟨by kernel_rfl, by kernel_rfl, rfl, rfl⟩
-- 237 func(int) int
instance : Ty Tryz.prog 237 false 1 8 (.nilFunc) [.nilFunc] := ⟨by kernel_rfl, by kernel_rfl, rfl, rfl⟩
-- 238 func(api.Pair, int, int) int
instance : Ty Tryz.prog 238 false 1 8 (.nilFunc) [.nilFunc] := ⟨by kernel_rfl, by kernel_rfl, rfl, rfl⟩
-- 239 func([]api.Board, int, int, func(api.Board, api.Board) int)
instance : Ty Tryz.prog 239 false 1 8 (.nilFunc) [.nilFunc] := ⟨by kernel_rfl, by kernel_rfl, rfl, rfl⟩
-- 240 slices.sortedHint
instance : Ty Tryz.prog 240 false 1 8 (.int .i64 0) [.int .i64 0] := ⟨by kernel_rfl, by kernel_rfl, rfl, rfl⟩
-- 242 func([]api.Board, int, int, func(api.Board, api.Board) int) (int, slices.sortedHint)
instance : Ty Tryz.prog 242 false 1 8 (.nilFunc) [.nilFunc] := ⟨by kernel_rfl, by kernel_rfl, rfl, rfl⟩
-- 243 func([]api.Board, int, int, func(api.Board, api.Board) int) bool
instance : Ty Tryz.prog 243 false 1 8 (.nilFunc) [.nilFunc] := ⟨by kernel_rfl, by kernel_rfl, rfl, rfl⟩
-- 244 func([]api.Board, int, int, int, func(api.Board, api.Board) int) int
instance : Ty Tryz.prog 244 false 1 8 (.nilFunc) [.nilFunc] := ⟨by kernel_rfl, by kernel_rfl, rfl, rfl⟩
-- 246 func([]api.Board, int, int, int, func(api.Board, api.Board) int) (int, bool)
instance : Ty Tryz.prog 246 false 1 8 (.nilFunc) [.nilFunc] := ⟨by kernel_rfl, by kernel_rfl, rfl, rfl⟩
-- 247 func(uint32) int
instance : Ty Tryz.prog 247 false 1 8 (.nilFunc) [.nilFunc] := ⟨by kernel_rfl, by kernel_rfl, rfl, rfl⟩
-- 248 uint32
instance : Ty Tryz.prog 248 false 1 4 (.int .u32 0) [.int .u32 0] := ⟨by kernel_rfl, by kernel_rfl, rfl, rfl⟩
-- 249 func(uint64) int
instance : Ty Tryz.prog 249 false 1 8 (.nilFunc) [.nilFunc] := ⟨by kernel_rfl, by kernel_rfl, rfl, rfl⟩
-- 250 uint64
instance : Ty Tryz.prog 250 false 1 8 (.int .u64 0) [.int .u64 0] := ⟨by kernel_rfl, by kernel_rfl, rfl, rfl⟩
-- 251 func(api.Note) bool
instance : Ty Tryz.prog 251 false 1 8 (.nilFunc) [.nilFunc] := ⟨by kernel_rfl, by kernel_rfl, rfl, rfl⟩
-- 252 func(*card.node)
instance : Ty Tryz.prog 252 false 1 8 (.nilFunc) [.nilFunc] := ⟨by kernel_rfl, by kernel_rfl, rfl, rfl⟩
-- 253 *card.node
instance : Ty Tryz.prog 253 false 1 8 (.pointer none) [.pointer none] := ⟨by kernel_rfl, by kernel_rfl, rfl, rfl⟩
-- 254 struct { card.spot; before *card.node; side int; many api.Span }
instance : Ty Tryz.prog 254 true 20 160 (.agg #[.int .i64 0, .int .i64 0, .int .i64 0, .int .i64 0, .int .i64 0, .int .i64 0, .int .i64 0, .int .i64 0, .int .i64 0, .int .i64 0, .int .i64 0, .int .i64 0, .int .i64 0, .int .i64 0, .int .i64 0, .int .i64 0, .pointer none, .int .i64 0, .int .i64 0, .int .i64 0]) [.int .i64 0, .int .i64 0, .int .i64 0, .int .i64 0, .int .i64 0, .int .i64 0, .int .i64 0, .int .i64 0, .int .i64 0, .int .i64 0, .int .i64 0, .int .i64 0, .int .i64 0, .int .i64 0, .int .i64 0, .int .i64 0, .pointer none, .int .i64 0, .int .i64 0, .int .i64 0] := ⟨by kernel_rfl, by kernel_rfl, rfl, rfl⟩
instance : FieldTy Tryz.prog 254 0 0 143 15 := ⟨by kernel_rfl, by kernel_rfl⟩
instance : FieldTy Tryz.prog 254 1 16 253 0 := ⟨by kernel_rfl, by kernel_rfl⟩
instance : FieldTy Tryz.prog 254 2 17 3 0 := ⟨by kernel_rfl, by kernel_rfl⟩
instance : FieldTy Tryz.prog 254 3 18 57 1 := ⟨by kernel_rfl, by kernel_rfl⟩
instance : BuildTy Tryz.prog 254 [(0, 16), (16, 1), (17, 1), (18, 2)] [.int .i64 0, .int .i64 0, .int .i64 0, .int .i64 0, .int .i64 0, .int .i64 0, .int .i64 0, .int .i64 0, .int .i64 0, .int .i64 0, .int .i64 0, .int .i64 0, .int .i64 0, .int .i64 0, .int .i64 0, .int .i64 0, .pointer none, .int .i64 0, .int .i64 0, .int .i64 0] := ⟨fun parts => by kernel_rfl⟩
-- 255 deuce/card.node
instance : Ty Tryz.prog 255 true 20 160 (.agg #[.int .i64 0, .int .i64 0, .int .i64 0, .int .i64 0, .int .i64 0, .int .i64 0, .int .i64 0, .int .i64 0, .int .i64 0, .int .i64 0, .int .i64 0, .int .i64 0, .int .i64 0, .int .i64 0, .int .i64 0, .int .i64 0, .pointer none, .int .i64 0, .int .i64 0, .int .i64 0]) [.int .i64 0, .int .i64 0, .int .i64 0, .int .i64 0, .int .i64 0, .int .i64 0, .int .i64 0, .int .i64 0, .int .i64 0, .int .i64 0, .int .i64 0, .int .i64 0, .int .i64 0, .int .i64 0, .int .i64 0, .int .i64 0, .pointer none, .int .i64 0, .int .i64 0, .int .i64 0] := ⟨by kernel_rfl, by kernel_rfl, rfl, rfl⟩
instance : FieldTy Tryz.prog 255 0 0 143 15 := ⟨by kernel_rfl, by kernel_rfl⟩
instance : FieldTy Tryz.prog 255 1 16 253 0 := ⟨by kernel_rfl, by kernel_rfl⟩
instance : FieldTy Tryz.prog 255 2 17 3 0 := ⟨by kernel_rfl, by kernel_rfl⟩
instance : FieldTy Tryz.prog 255 3 18 57 1 := ⟨by kernel_rfl, by kernel_rfl⟩
instance : BuildTy Tryz.prog 255 [(0, 16), (16, 1), (17, 1), (18, 2)] [.int .i64 0, .int .i64 0, .int .i64 0, .int .i64 0, .int .i64 0, .int .i64 0, .int .i64 0, .int .i64 0, .int .i64 0, .int .i64 0, .int .i64 0, .int .i64 0, .int .i64 0, .int .i64 0, .int .i64 0, .int .i64 0, .pointer none, .int .i64 0, .int .i64 0, .int .i64 0] := ⟨fun parts => by kernel_rfl⟩
-- 256 func(card.crowd, int) card.crowd
instance : Ty Tryz.prog 256 false 1 8 (.nilFunc) [.nilFunc] := ⟨by kernel_rfl, by kernel_rfl, rfl, rfl⟩
-- 257 func(api.Note, *card.node) bool
instance : Ty Tryz.prog 257 false 1 8 (.nilFunc) [.nilFunc] := ⟨by kernel_rfl, by kernel_rfl, rfl, rfl⟩
-- 258 func([]api.Absence, func(api.Absence) bool) int
instance : Ty Tryz.prog 258 false 1 8 (.nilFunc) [.nilFunc] := ⟨by kernel_rfl, by kernel_rfl, rfl, rfl⟩
-- 259 func([]rank.line, int, int, func(rank.line, rank.line) int)
instance : Ty Tryz.prog 259 false 1 8 (.nilFunc) [.nilFunc] := ⟨by kernel_rfl, by kernel_rfl, rfl, rfl⟩
-- 260 func([]rank.line, int, int, func(rank.line, rank.line) int) (int, slices.sortedHint)
instance : Ty Tryz.prog 260 false 1 8 (.nilFunc) [.nilFunc] := ⟨by kernel_rfl, by kernel_rfl, rfl, rfl⟩
-- 261 func([]rank.line, int, int, func(rank.line, rank.line) int) bool
instance : Ty Tryz.prog 261 false 1 8 (.nilFunc) [.nilFunc] := ⟨by kernel_rfl, by kernel_rfl, rfl, rfl⟩
-- 262 func([]rank.line, int, int, int, func(rank.line, rank.line) int) int
instance : Ty Tryz.prog 262 false 1 8 (.nilFunc) [.nilFunc] := ⟨by kernel_rfl, by kernel_rfl, rfl, rfl⟩
-- 263 func([]rank.line, int, int, int, func(rank.line, rank.line) int) (int, bool)
instance : Ty Tryz.prog 263 false 1 8 (.nilFunc) [.nilFunc] := ⟨by kernel_rfl, by kernel_rfl, rfl, rfl⟩
-- 264 func([]api.Person, func(api.Person) bool) int
instance : Ty Tryz.prog 264 false 1 8 (.nilFunc) [.nilFunc] := ⟨by kernel_rfl, by kernel_rfl, rfl, rfl⟩
-- 265 func([]int, func(int) bool) int
instance : Ty Tryz.prog 265 false 1 8 (.nilFunc) [.nilFunc] := ⟨by kernel_rfl, by kernel_rfl, rfl, rfl⟩
-- 266 func([]int, int, int, int, func(int, int) int)
instance : Ty Tryz.prog 266 false 1 8 (.nilFunc) [.nilFunc] := ⟨by kernel_rfl, by kernel_rfl, rfl, rfl⟩
-- 267 func(int, int) bool
instance : Ty Tryz.prog 267 false 1 8 (.nilFunc) [.nilFunc] := ⟨by kernel_rfl, by kernel_rfl, rfl, rfl⟩
-- 268 func([]api.Report, int, int, func(api.Report, api.Report) int)
instance : Ty Tryz.prog 268 false 1 8 (.nilFunc) [.nilFunc] := ⟨by kernel_rfl, by kernel_rfl, rfl, rfl⟩
-- 269 func([]api.Report, int, int, int, func(api.Report, api.Report) int)
instance : Ty Tryz.prog 269 false 1 8 (.nilFunc) [.nilFunc] := ⟨by kernel_rfl, by kernel_rfl, rfl, rfl⟩
-- 270 func([]api.Strip, func(api.Strip) bool) int
instance : Ty Tryz.prog 270 false 1 8 (.nilFunc) [.nilFunc] := ⟨by kernel_rfl, by kernel_rfl, rfl, rfl⟩
-- 271 func(lines.point, []int) bool
instance : Ty Tryz.prog 271 false 1 8 (.nilFunc) [.nilFunc] := ⟨by kernel_rfl, by kernel_rfl, rfl, rfl⟩
-- 273 func(api.Format, bool) (int, int)
instance : Ty Tryz.prog 273 false 1 8 (.nilFunc) [.nilFunc] := ⟨by kernel_rfl, by kernel_rfl, rfl, rfl⟩
-- 274 func(api.Format, api.Pair) bool
instance : Ty Tryz.prog 274 false 1 8 (.nilFunc) [.nilFunc] := ⟨by kernel_rfl, by kernel_rfl, rfl, rfl⟩
-- 275 func(api.Pair) bool
instance : Ty Tryz.prog 275 false 1 8 (.nilFunc) [.nilFunc] := ⟨by kernel_rfl, by kernel_rfl, rfl, rfl⟩
-- 276 slices.xorshift
instance : Ty Tryz.prog 276 false 1 8 (.int .u64 0) [.int .u64 0] := ⟨by kernel_rfl, by kernel_rfl, rfl, rfl⟩
-- 277 func(int) uint
instance : Ty Tryz.prog 277 false 1 8 (.nilFunc) [.nilFunc] := ⟨by kernel_rfl, by kernel_rfl, rfl, rfl⟩
-- 278 func() uint64
instance : Ty Tryz.prog 278 false 1 8 (.nilFunc) [.nilFunc] := ⟨by kernel_rfl, by kernel_rfl, rfl, rfl⟩
-- 279 func([]api.Board, int, *int, func(api.Board, api.Board) int) int
instance : Ty Tryz.prog 279 false 1 8 (.nilFunc) [.nilFunc] := ⟨by kernel_rfl, by kernel_rfl, rfl, rfl⟩
-- 280 *int
instance : Ty Tryz.prog 280 false 1 8 (.pointer none) [.pointer none] := ⟨by kernel_rfl, by kernel_rfl, rfl, rfl⟩
-- 281 func([]api.Board, int, int, int, *int, func(api.Board, api.Board) int) int
instance : Ty Tryz.prog 281 false 1 8 (.nilFunc) [.nilFunc] := ⟨by kernel_rfl, by kernel_rfl, rfl, rfl⟩
-- 283 func(*card.node, int) *card.node
instance : Ty Tryz.prog 283 false 1 8 (.nilFunc) [.nilFunc] := ⟨by kernel_rfl, by kernel_rfl, rfl, rfl⟩
-- 284 func() api.Pair
instance : Ty Tryz.prog 284 false 1 8 (.nilFunc) [.nilFunc] := ⟨by kernel_rfl, by kernel_rfl, rfl, rfl⟩
-- 285 func(*card.node) api.Score
instance : Ty Tryz.prog 285 false 1 8 (.nilFunc) [.nilFunc] := ⟨by kernel_rfl, by kernel_rfl, rfl, rfl⟩
-- 286 func([]rank.line, int, *int, func(rank.line, rank.line) int) int
instance : Ty Tryz.prog 286 false 1 8 (.nilFunc) [.nilFunc] := ⟨by kernel_rfl, by kernel_rfl, rfl, rfl⟩
-- 287 func([]rank.line, int, int, int, *int, func(rank.line, rank.line) int) int
instance : Ty Tryz.prog 287 false 1 8 (.nilFunc) [.nilFunc] := ⟨by kernel_rfl, by kernel_rfl, rfl, rfl⟩
-- 288 func([]int, int, int, func(int, int) int)
instance : Ty Tryz.prog 288 false 1 8 (.nilFunc) [.nilFunc] := ⟨by kernel_rfl, by kernel_rfl, rfl, rfl⟩
-- 289 func([]int, int, int, func(int, int) int) (int, slices.sortedHint)
instance : Ty Tryz.prog 289 false 1 8 (.nilFunc) [.nilFunc] := ⟨by kernel_rfl, by kernel_rfl, rfl, rfl⟩
-- 290 func([]int, int, int, func(int, int) int) bool
instance : Ty Tryz.prog 290 false 1 8 (.nilFunc) [.nilFunc] := ⟨by kernel_rfl, by kernel_rfl, rfl, rfl⟩
-- 291 func([]int, int, int, int, func(int, int) int) int
instance : Ty Tryz.prog 291 false 1 8 (.nilFunc) [.nilFunc] := ⟨by kernel_rfl, by kernel_rfl, rfl, rfl⟩
-- 292 func([]int, int, int, int, func(int, int) int) (int, bool)
instance : Ty Tryz.prog 292 false 1 8 (.nilFunc) [.nilFunc] := ⟨by kernel_rfl, by kernel_rfl, rfl, rfl⟩
-- 293 *slices.xorshift
instance : Ty Tryz.prog 293 false 1 8 (.pointer none) [.pointer none] := ⟨by kernel_rfl, by kernel_rfl, rfl, rfl⟩
-- 294 func([]api.Board, int, int, *int, func(api.Board, api.Board) int) (int, int)
instance : Ty Tryz.prog 294 false 1 8 (.nilFunc) [.nilFunc] := ⟨by kernel_rfl, by kernel_rfl, rfl, rfl⟩
-- 295 func(api.Pair, int, int, int) bool
instance : Ty Tryz.prog 295 false 1 8 (.nilFunc) [.nilFunc] := ⟨by kernel_rfl, by kernel_rfl, rfl, rfl⟩
-- 296 func() []int
instance : Ty Tryz.prog 296 false 1 8 (.nilFunc) [.nilFunc] := ⟨by kernel_rfl, by kernel_rfl, rfl, rfl⟩
-- 297 func([]rank.line, int, int, *int, func(rank.line, rank.line) int) (int, int)
instance : Ty Tryz.prog 297 false 1 8 (.nilFunc) [.nilFunc] := ⟨by kernel_rfl, by kernel_rfl, rfl, rfl⟩
-- 298 func([]int, int, *int, func(int, int) int) int
instance : Ty Tryz.prog 298 false 1 8 (.nilFunc) [.nilFunc] := ⟨by kernel_rfl, by kernel_rfl, rfl, rfl⟩
-- 299 func([]int, int, int, int, *int, func(int, int) int) int
instance : Ty Tryz.prog 299 false 1 8 (.nilFunc) [.nilFunc] := ⟨by kernel_rfl, by kernel_rfl, rfl, rfl⟩
-- 300 func([]int)
instance : Ty Tryz.prog 300 false 1 8 (.nilFunc) [.nilFunc] := ⟨by kernel_rfl, by kernel_rfl, rfl, rfl⟩
-- 301 func([]int, int, int, *int, func(int, int) int) (int, int)
instance : Ty Tryz.prog 301 false 1 8 (.nilFunc) [.nilFunc] := ⟨by kernel_rfl, by kernel_rfl, rfl, rfl⟩
-- 302 func() string
instance : Ty Tryz.prog 302 false 1 8 (.nilFunc) [.nilFunc] := ⟨by kernel_rfl, by kernel_rfl, rfl, rfl⟩
-- 303 struct { _interface *abi.Type; concrete *abi.Type; asserted *abi.Type; missingMethod string }
instance : Ty Tryz.prog 303 true 4 40 (.agg #[.pointer none, .pointer none, .pointer none, .string ByteArray.empty]) [.pointer none, .pointer none, .pointer none, .string ByteArray.empty] := ⟨by kernel_rfl, by kernel_rfl, rfl, rfl⟩
instance : FieldTy Tryz.prog 303 0 0 17 0 := ⟨by kernel_rfl, by kernel_rfl⟩
instance : FieldTy Tryz.prog 303 1 1 17 0 := ⟨by kernel_rfl, by kernel_rfl⟩
instance : FieldTy Tryz.prog 303 2 2 17 0 := ⟨by kernel_rfl, by kernel_rfl⟩
instance : FieldTy Tryz.prog 303 3 3 9 0 := ⟨by kernel_rfl, by kernel_rfl⟩
instance : BuildTy Tryz.prog 303 [(0, 1), (1, 1), (2, 1), (3, 1)] [.pointer none, .pointer none, .pointer none, .string ByteArray.empty] := ⟨fun parts => by kernel_rfl⟩
-- 305 [0]*runtime.PanicNilError
instance : Ty Tryz.prog 305 true 0 0 (.agg #[]) [] := ⟨by kernel_rfl, by kernel_rfl, rfl, rfl⟩
instance : ArrayTy Tryz.prog 305 0 16 := ⟨by kernel_rfl⟩
-- 306 struct { _ [0]*runtime.PanicNilError }
instance : Ty Tryz.prog 306 true 0 0 (.agg #[]) [] := ⟨by kernel_rfl, by kernel_rfl, rfl, rfl⟩
-- 310 func(unsafe.Pointer, unsafe.Pointer) bool
instance : Ty Tryz.prog 310 false 1 8 (.nilFunc) [.nilFunc] := ⟨by kernel_rfl, by kernel_rfl, rfl, rfl⟩
-- 311 *uint8
instance : Ty Tryz.prog 311 false 1 8 (.pointer none) [.pointer none] := ⟨by kernel_rfl, by kernel_rfl, rfl, rfl⟩
-- 314 struct { Size_ uintptr; PtrBytes uintptr; Hash uint32; TFlag abi.TFlag; Align_ uint8; FieldAlign_ uint8; Kind_ abi.Kind; Equal func(unsafe.Pointer, unsafe.Pointer) bool; GCData *uint8; Str abi.NameOff; PtrToThis abi.TypeOff }
instance : Ty Tryz.prog 314 true 11 48 (.agg #[.int .u64 0, .int .u64 0, .int .u32 0, .int .u8 0, .int .u8 0, .int .u8 0, .int .u8 0, .nilFunc, .pointer none, .int .i32 0, .int .i32 0]) [.int .u64 0, .int .u64 0, .int .u32 0, .int .u8 0, .int .u8 0, .int .u8 0, .int .u8 0, .nilFunc, .pointer none, .int .i32 0, .int .i32 0] := ⟨by kernel_rfl, by kernel_rfl, rfl, rfl⟩
instance : FieldTy Tryz.prog 314 0 0 12 0 := ⟨by kernel_rfl, by kernel_rfl⟩
instance : FieldTy Tryz.prog 314 1 1 12 0 := ⟨by kernel_rfl, by kernel_rfl⟩
instance : FieldTy Tryz.prog 314 2 2 248 0 := ⟨by kernel_rfl, by kernel_rfl⟩
instance : FieldTy Tryz.prog 314 3 3 308 0 := ⟨by kernel_rfl, by kernel_rfl⟩
instance : FieldTy Tryz.prog 314 4 4 5 0 := ⟨by kernel_rfl, by kernel_rfl⟩
instance : FieldTy Tryz.prog 314 5 5 5 0 := ⟨by kernel_rfl, by kernel_rfl⟩
instance : FieldTy Tryz.prog 314 6 6 309 0 := ⟨by kernel_rfl, by kernel_rfl⟩
instance : FieldTy Tryz.prog 314 7 7 310 0 := ⟨by kernel_rfl, by kernel_rfl⟩
instance : FieldTy Tryz.prog 314 8 8 311 0 := ⟨by kernel_rfl, by kernel_rfl⟩
instance : FieldTy Tryz.prog 314 9 9 312 0 := ⟨by kernel_rfl, by kernel_rfl⟩
instance : FieldTy Tryz.prog 314 10 10 313 0 := ⟨by kernel_rfl, by kernel_rfl⟩
instance : BuildTy Tryz.prog 314 [(0, 1), (1, 1), (2, 1), (3, 1), (4, 1), (5, 1), (6, 1), (7, 1), (8, 1), (9, 1), (10, 1)] [.int .u64 0, .int .u64 0, .int .u32 0, .int .u8 0, .int .u8 0, .int .u8 0, .int .u8 0, .nilFunc, .pointer none, .int .i32 0, .int .i32 0] := ⟨fun parts => by kernel_rfl⟩
-- 316 unsafe.Pointer
instance : Ty Tryz.prog 316 false 1 8 (.pointer none) [.pointer none] := ⟨by kernel_rfl, by kernel_rfl, rfl, rfl⟩
-- deuce/deucetop.TopSeeded
instance : FnOk Tryz.prog 3 := ⟨by kernel_rfl⟩
-- deuce/deucetop.TopMonday
instance : FnOk Tryz.prog 4 := ⟨by kernel_rfl⟩
-- deuce/deucetop.TopCalled
instance : FnOk Tryz.prog 5 := ⟨by kernel_rfl⟩
-- deuce/deucelaw04.Far
instance : FnOk Tryz.prog 6 := ⟨by kernel_rfl⟩
-- deuce/deuceref04.Check
instance : FnOk Tryz.prog 7 := ⟨by kernel_rfl⟩
-- deuce/deucetop.seeded
instance : FnOk Tryz.prog 8 := ⟨by kernel_rfl⟩
-- deuce/rank.List
instance : FnOk Tryz.prog 9 := ⟨by kernel_rfl⟩
-- deuce/deucetop.ranked
instance : FnOk Tryz.prog 10 := ⟨by kernel_rfl⟩
-- deuce/draws.Draw
instance : FnOk Tryz.prog 11 := ⟨by kernel_rfl⟩
-- deuce/rank.Place
instance : FnOk Tryz.prog 12 := ⟨by kernel_rfl⟩
-- deuce/deuceref04.Copy
instance : FnOk Tryz.prog 13 := ⟨by kernel_rfl⟩
-- deuce/rank.Merge
instance : FnOk Tryz.prog 14 := ⟨by kernel_rfl⟩
-- deuce/deuceref01.Check
instance : FnOk Tryz.prog 15 := ⟨by kernel_rfl⟩
-- deuce/deucelaw02.Far
instance : FnOk Tryz.prog 16 := ⟨by kernel_rfl⟩
-- deuce/deuceref02.Check
instance : FnOk Tryz.prog 17 := ⟨by kernel_rfl⟩
-- deuce/deuceref02.IsBox
instance : FnOk Tryz.prog 18 := ⟨by kernel_rfl⟩
-- deuce/deuceref02.IsTruth
instance : FnOk Tryz.prog 19 := ⟨by kernel_rfl⟩
-- deuce/deuceref02.Touch
instance : FnOk Tryz.prog 20 := ⟨by kernel_rfl⟩
-- deuce/lines.Call
instance : FnOk Tryz.prog 21 := ⟨by kernel_rfl⟩
-- deuce/deuceref01.Play
instance : FnOk Tryz.prog 22 := ⟨by kernel_rfl⟩
-- deuce/score.Play
instance : FnOk Tryz.prog 23 := ⟨by kernel_rfl⟩
-- deuce/card.Boards
instance : FnOk Tryz.prog 24 := ⟨by kernel_rfl⟩
-- deuce/card.First
instance : FnOk Tryz.prog 25 := ⟨by kernel_rfl⟩
-- deuce/deuceref03.SameBoard
instance : FnOk Tryz.prog 26 := ⟨by kernel_rfl⟩
-- deuce/deuceref04.isLedger
instance : FnOk Tryz.prog 27 := ⟨by kernel_rfl⟩
-- deuce/deuceref04.clash
instance : FnOk Tryz.prog 28 := ⟨by kernel_rfl⟩
-- deuce/deucelaw04.Example
instance : FnOk Tryz.prog 29 := ⟨by kernel_rfl⟩
-- deuce/deucelaw06.Example
instance : FnOk Tryz.prog 30 := ⟨by kernel_rfl⟩
-- deuce/deucelaw02.Example
instance : FnOk Tryz.prog 31 := ⟨by kernel_rfl⟩
-- deuce/deucelaw03.Example
instance : FnOk Tryz.prog 32 := ⟨by kernel_rfl⟩
-- deuce/rank.ask
instance : FnOk Tryz.prog 33 := ⟨by kernel_rfl⟩
-- (*deuce/rank.book).list
instance : FnOk Tryz.prog 34 := ⟨by kernel_rfl⟩
-- deuce/deuceref06.Check
instance : FnOk Tryz.prog 35 := ⟨by kernel_rfl⟩
-- deuce/draws.Count
instance : FnOk Tryz.prog 36 := ⟨by kernel_rfl⟩
-- deuce/draws.pick
instance : FnOk Tryz.prog 37 := ⟨by kernel_rfl⟩
-- (*deuce/rank.book).place
instance : FnOk Tryz.prog 38 := ⟨by kernel_rfl⟩
-- deuce/rank.Check
instance : FnOk Tryz.prog 39 := ⟨by kernel_rfl⟩
-- slices.Concat[[]deuce/api.Report,deuce/api.Report]
instance : FnOk Tryz.prog 40 := ⟨by kernel_rfl⟩
-- deuce/rank.once
instance : FnOk Tryz.prog 41 := ⟨by kernel_rfl⟩
-- slices.Clone[[]deuce/api.Absence,deuce/api.Absence]
instance : FnOk Tryz.prog 42 := ⟨by kernel_rfl⟩
-- deuce/deuceref01.within
instance : FnOk Tryz.prog 43 := ⟨by kernel_rfl⟩
-- deuce/deuceref01.isTie
instance : FnOk Tryz.prog 44 := ⟨by kernel_rfl⟩
-- deuce/deuceref02.within
instance : FnOk Tryz.prog 45 := ⟨by kernel_rfl⟩
-- deuce/deuceref02.IsMark
instance : FnOk Tryz.prog 46 := ⟨by kernel_rfl⟩
-- deuce/deuceref02.wrong
instance : FnOk Tryz.prog 47 := ⟨by kernel_rfl⟩
-- deuce/deuceref02.far
instance : FnOk Tryz.prog 48 := ⟨by kernel_rfl⟩
-- deuce/lines.check
instance : FnOk Tryz.prog 49 := ⟨by kernel_rfl⟩
-- deuce/lines.call
instance : FnOk Tryz.prog 50 := ⟨by kernel_rfl⟩
-- deuce/deuceref01.Run
instance : FnOk Tryz.prog 51 := ⟨by kernel_rfl⟩
-- deuce/score.play
instance : FnOk Tryz.prog 52 := ⟨by kernel_rfl⟩
-- deuce/card.possible
instance : FnOk Tryz.prog 53 := ⟨by kernel_rfl⟩
-- (deuce/card.spot).board
instance : FnOk Tryz.prog 54 := ⟨by kernel_rfl⟩
-- deuce/card.Boards$1
instance : FnOk Tryz.prog 55 := ⟨by kernel_rfl⟩
-- cmp.Or[int]
instance : FnOk Tryz.prog 56 := ⟨by kernel_rfl⟩
-- slices.CompareFunc[[]deuce/api.Pair,[]deuce/api.Pair,deuce/api.Pair,deuce/api.Pair]
instance : FnOk Tryz.prog 57 := ⟨by kernel_rfl⟩
-- deuce/card.order
instance : FnOk Tryz.prog 58 := ⟨by kernel_rfl⟩
-- slices.SortFunc[[]deuce/api.Board,deuce/api.Board]
instance : FnOk Tryz.prog 59 := ⟨by kernel_rfl⟩
-- slices.CompactFunc[[]deuce/api.Board,deuce/api.Board]
instance : FnOk Tryz.prog 60 := ⟨by kernel_rfl⟩
-- deuce/card.Boards$2
instance : FnOk Tryz.prog 61 := ⟨by kernel_rfl⟩
-- deuce/card.all
instance : FnOk Tryz.prog 62 := ⟨by kernel_rfl⟩
-- deuce/deuceref04.within
instance : FnOk Tryz.prog 63 := ⟨by kernel_rfl⟩
-- deuce/deuceref04.areLeaves
instance : FnOk Tryz.prog 64 := ⟨by kernel_rfl⟩
-- deuce/deuceref04.isReport
instance : FnOk Tryz.prog 65 := ⟨by kernel_rfl⟩
-- deuce/deucelaw01.Example
instance : FnOk Tryz.prog 66 := ⟨by kernel_rfl⟩
-- deuce/rank.open
instance : FnOk Tryz.prog 67 := ⟨by kernel_rfl⟩
-- deuce/rank.within
instance : FnOk Tryz.prog 68 := ⟨by kernel_rfl⟩
-- (*deuce/rank.book).count
instance : FnOk Tryz.prog 69 := ⟨by kernel_rfl⟩
-- deuce/rank.away
instance : FnOk Tryz.prog 70 := ⟨by kernel_rfl⟩
-- deuce/rank.sum
instance : FnOk Tryz.prog 71 := ⟨by kernel_rfl⟩
-- (*deuce/rank.book).taken
instance : FnOk Tryz.prog 72 := ⟨by kernel_rfl⟩
-- slices.SortFunc[[]deuce/rank.line,deuce/rank.line]
instance : FnOk Tryz.prog 73 := ⟨by kernel_rfl⟩
-- (deuce/rank.line).compare
instance : FnOk Tryz.prog 74 := ⟨by kernel_rfl⟩
-- deuce/deuceref06.within
instance : FnOk Tryz.prog 75 := ⟨by kernel_rfl⟩
-- deuce/draws.Check
instance : FnOk Tryz.prog 76 := ⟨by kernel_rfl⟩
-- deuce/draws.draws
instance : FnOk Tryz.prog 77 := ⟨by kernel_rfl⟩
-- deuce/draws.sheet
instance : FnOk Tryz.prog 78 := ⟨by kernel_rfl⟩
-- slices.Index[[]int,int]
instance : FnOk Tryz.prog 79 := ⟨by kernel_rfl⟩
-- deuce/rank.isLedger
instance : FnOk Tryz.prog 80 := ⟨by kernel_rfl⟩
-- slices.Grow[[]deuce/api.Report,deuce/api.Report]
instance : FnOk Tryz.prog 81 := ⟨by kernel_rfl⟩
-- slices.Clone[[]deuce/api.Report,deuce/api.Report]
instance : FnOk Tryz.prog 82 := ⟨by kernel_rfl⟩
-- slices.SortStableFunc[[]deuce/api.Report,deuce/api.Report]
instance : FnOk Tryz.prog 83 := ⟨by kernel_rfl⟩
-- deuce/rank.once$1
instance : FnOk Tryz.prog 84 := ⟨by kernel_rfl⟩
-- slices.Compact[[]deuce/api.Report,deuce/api.Report]
instance : FnOk Tryz.prog 85 := ⟨by kernel_rfl⟩
-- deuce/lines.Check
instance : FnOk Tryz.prog 86 := ⟨by kernel_rfl⟩
-- deuce/lines.checkBox
instance : FnOk Tryz.prog 87 := ⟨by kernel_rfl⟩
-- deuce/lines.truths
instance : FnOk Tryz.prog 88 := ⟨by kernel_rfl⟩
-- slices.ContainsFunc[[]deuce/lines.point,deuce/lines.point]
instance : FnOk Tryz.prog 89 := ⟨by kernel_rfl⟩
-- deuce/lines.call$1
instance : FnOk Tryz.prog 90 := ⟨by kernel_rfl⟩
-- deuce/lines.touches
instance : FnOk Tryz.prog 91 := ⟨by kernel_rfl⟩
-- deuce/lines.small
instance : FnOk Tryz.prog 92 := ⟨by kernel_rfl⟩
-- deuce/lines.call$2
instance : FnOk Tryz.prog 93 := ⟨by kernel_rfl⟩
-- deuce/lines.large
instance : FnOk Tryz.prog 94 := ⟨by kernel_rfl⟩
-- deuce/deuceref01.Begin
instance : FnOk Tryz.prog 95 := ⟨by kernel_rfl⟩
-- deuce/deuceref01.Point
instance : FnOk Tryz.prog 96 := ⟨by kernel_rfl⟩
-- deuce/deuceref01.Next
instance : FnOk Tryz.prog 97 := ⟨by kernel_rfl⟩
-- deuce/score.Check
instance : FnOk Tryz.prog 98 := ⟨by kernel_rfl⟩
-- deuce/score.begin
instance : FnOk Tryz.prog 99 := ⟨by kernel_rfl⟩
-- (*deuce/score.match).point
instance : FnOk Tryz.prog 100 := ⟨by kernel_rfl⟩
-- slices.Clone[[]deuce/api.Pair,deuce/api.Pair]
instance : FnOk Tryz.prog 101 := ⟨by kernel_rfl⟩
-- slices.pdqsortCmpFunc[deuce/api.Board]
instance : FnOk Tryz.prog 102 := ⟨by kernel_rfl⟩
-- math/bits.Len
instance : FnOk Tryz.prog 103 := ⟨by kernel_rfl⟩
-- deuce/card.Check
instance : FnOk Tryz.prog 104 := ⟨by kernel_rfl⟩
-- (deuce/card.reader).begin
instance : FnOk Tryz.prog 105 := ⟨by kernel_rfl⟩
-- (deuce/card.reader).read
instance : FnOk Tryz.prog 106 := ⟨by kernel_rfl⟩
-- (*deuce/rank.book).age
instance : FnOk Tryz.prog 107 := ⟨by kernel_rfl⟩
-- slices.ContainsFunc[[]deuce/api.Absence,deuce/api.Absence]
instance : FnOk Tryz.prog 108 := ⟨by kernel_rfl⟩
-- deuce/rank.away$1
instance : FnOk Tryz.prog 109 := ⟨by kernel_rfl⟩
-- (*deuce/rank.book).taken$1
instance : FnOk Tryz.prog 110 := ⟨by kernel_rfl⟩
-- slices.pdqsortCmpFunc[deuce/rank.line]
instance : FnOk Tryz.prog 111 := ⟨by kernel_rfl⟩
-- deuce/draws.within
instance : FnOk Tryz.prog 112 := ⟨by kernel_rfl⟩
-- slices.ContainsFunc[[]deuce/api.Person,deuce/api.Person]
instance : FnOk Tryz.prog 113 := ⟨by kernel_rfl⟩
-- deuce/draws.Check$1
instance : FnOk Tryz.prog 114 := ⟨by kernel_rfl⟩
-- slices.ContainsFunc[[]int,int]
instance : FnOk Tryz.prog 115 := ⟨by kernel_rfl⟩
-- deuce/draws.Check$2
instance : FnOk Tryz.prog 116 := ⟨by kernel_rfl⟩
-- slices.SortFunc[[]int,int]
instance : FnOk Tryz.prog 117 := ⟨by kernel_rfl⟩
-- deuce/draws.draws$1
instance : FnOk Tryz.prog 118 := ⟨by kernel_rfl⟩
-- deuce/draws.draws$2
instance : FnOk Tryz.prog 119 := ⟨by kernel_rfl⟩
-- deuce/draws.draws$2$1
instance : FnOk Tryz.prog 120 := ⟨by kernel_rfl⟩
-- slices.Clone[[]int,int]
instance : FnOk Tryz.prog 121 := ⟨by kernel_rfl⟩
-- slices.Contains[[]int,int]
instance : FnOk Tryz.prog 122 := ⟨by kernel_rfl⟩
-- deuce/draws.seat
instance : FnOk Tryz.prog 123 := ⟨by kernel_rfl⟩
-- deuce/draws.match
instance : FnOk Tryz.prog 124 := ⟨by kernel_rfl⟩
-- deuce/rank.areLeaves
instance : FnOk Tryz.prog 125 := ⟨by kernel_rfl⟩
-- deuce/rank.isLedger$1
instance : FnOk Tryz.prog 126 := ⟨by kernel_rfl⟩
-- slices.stableCmpFunc[deuce/api.Report]
instance : FnOk Tryz.prog 127 := ⟨by kernel_rfl⟩
-- slices.ContainsFunc[[]deuce/api.Strip,deuce/api.Strip]
instance : FnOk Tryz.prog 128 := ⟨by kernel_rfl⟩
-- deuce/lines.Check$1
instance : FnOk Tryz.prog 129 := ⟨by kernel_rfl⟩
-- deuce/lines.isStrip
instance : FnOk Tryz.prog 130 := ⟨by kernel_rfl⟩
-- deuce/lines.within
instance : FnOk Tryz.prog 131 := ⟨by kernel_rfl⟩
-- deuce/lines.isSpan
instance : FnOk Tryz.prog 132 := ⟨by kernel_rfl⟩
-- deuce/lines.all
instance : FnOk Tryz.prog 133 := ⟨by kernel_rfl⟩
-- slices.IndexFunc[[]deuce/lines.point,deuce/lines.point]
instance : FnOk Tryz.prog 134 := ⟨by kernel_rfl⟩
-- deuce/lines.beyond
instance : FnOk Tryz.prog 135 := ⟨by kernel_rfl⟩
-- deuce/deuceref01.begin
instance : FnOk Tryz.prog 136 := ⟨by kernel_rfl⟩
-- deuce/deuceref01.tied
instance : FnOk Tryz.prog 137 := ⟨by kernel_rfl⟩
-- deuce/deuceref01.plus
instance : FnOk Tryz.prog 138 := ⟨by kernel_rfl⟩
-- deuce/deuceref01.gameWinner
instance : FnOk Tryz.prog 139 := ⟨by kernel_rfl⟩
-- deuce/deuceref01.leads
instance : FnOk Tryz.prog 140 := ⟨by kernel_rfl⟩
-- deuce/deuceref01.Server
instance : FnOk Tryz.prog 141 := ⟨by kernel_rfl⟩
-- deuce/deuceref01.Won
instance : FnOk Tryz.prog 142 := ⟨by kernel_rfl⟩
-- deuce/score.Check$1
instance : FnOk Tryz.prog 143 := ⟨by kernel_rfl⟩
-- deuce/score.within
instance : FnOk Tryz.prog 144 := ⟨by kernel_rfl⟩
-- (*deuce/score.match).next
instance : FnOk Tryz.prog 145 := ⟨by kernel_rfl⟩
-- (deuce/score.rules).set
instance : FnOk Tryz.prog 146 := ⟨by kernel_rfl⟩
-- (*deuce/score.match).number
instance : FnOk Tryz.prog 147 := ⟨by kernel_rfl⟩
-- deuce/score.add
instance : FnOk Tryz.prog 148 := ⟨by kernel_rfl⟩
-- deuce/score.sum
instance : FnOk Tryz.prog 149 := ⟨by kernel_rfl⟩
-- (deuce/score.rules).game
instance : FnOk Tryz.prog 150 := ⟨by kernel_rfl⟩
-- (*deuce/score.match).serves
instance : FnOk Tryz.prog 151 := ⟨by kernel_rfl⟩
-- (*deuce/score.match).fresh
instance : FnOk Tryz.prog 152 := ⟨by kernel_rfl⟩
-- deuce/score.leads
instance : FnOk Tryz.prog 153 := ⟨by kernel_rfl⟩
-- slices.insertionSortCmpFunc[deuce/api.Board]
instance : FnOk Tryz.prog 154 := ⟨by kernel_rfl⟩
-- slices.heapSortCmpFunc[deuce/api.Board]
instance : FnOk Tryz.prog 155 := ⟨by kernel_rfl⟩
-- slices.breakPatternsCmpFunc[deuce/api.Board]
instance : FnOk Tryz.prog 156 := ⟨by kernel_rfl⟩
-- slices.choosePivotCmpFunc[deuce/api.Board]
instance : FnOk Tryz.prog 157 := ⟨by kernel_rfl⟩
-- slices.reverseRangeCmpFunc[deuce/api.Board]
instance : FnOk Tryz.prog 158 := ⟨by kernel_rfl⟩
-- slices.partialInsertionSortCmpFunc[deuce/api.Board]
instance : FnOk Tryz.prog 159 := ⟨by kernel_rfl⟩
-- slices.partitionEqualCmpFunc[deuce/api.Board]
instance : FnOk Tryz.prog 160 := ⟨by kernel_rfl⟩
-- slices.partitionCmpFunc[deuce/api.Board]
instance : FnOk Tryz.prog 161 := ⟨by kernel_rfl⟩
-- math/bits.Len32
instance : FnOk Tryz.prog 162 := ⟨by kernel_rfl⟩
-- math/bits.Len64
instance : FnOk Tryz.prog 163 := ⟨by kernel_rfl⟩
-- deuce/card.within
instance : FnOk Tryz.prog 164 := ⟨by kernel_rfl⟩
-- deuce/card.isMark
instance : FnOk Tryz.prog 165 := ⟨by kernel_rfl⟩
-- (deuce/card.crowd).put
instance : FnOk Tryz.prog 166 := ⟨by kernel_rfl⟩
-- (deuce/card.reader).play
instance : FnOk Tryz.prog 167 := ⟨by kernel_rfl⟩
-- (deuce/card.reader).holds
instance : FnOk Tryz.prog 168 := ⟨by kernel_rfl⟩
-- slices.IndexFunc[[]deuce/api.Absence,deuce/api.Absence]
instance : FnOk Tryz.prog 169 := ⟨by kernel_rfl⟩
-- slices.insertionSortCmpFunc[deuce/rank.line]
instance : FnOk Tryz.prog 170 := ⟨by kernel_rfl⟩
-- slices.heapSortCmpFunc[deuce/rank.line]
instance : FnOk Tryz.prog 171 := ⟨by kernel_rfl⟩
-- slices.breakPatternsCmpFunc[deuce/rank.line]
instance : FnOk Tryz.prog 172 := ⟨by kernel_rfl⟩
-- slices.choosePivotCmpFunc[deuce/rank.line]
instance : FnOk Tryz.prog 173 := ⟨by kernel_rfl⟩
-- slices.reverseRangeCmpFunc[deuce/rank.line]
instance : FnOk Tryz.prog 174 := ⟨by kernel_rfl⟩
-- slices.partialInsertionSortCmpFunc[deuce/rank.line]
instance : FnOk Tryz.prog 175 := ⟨by kernel_rfl⟩
-- slices.partitionEqualCmpFunc[deuce/rank.line]
instance : FnOk Tryz.prog 176 := ⟨by kernel_rfl⟩
-- slices.partitionCmpFunc[deuce/rank.line]
instance : FnOk Tryz.prog 177 := ⟨by kernel_rfl⟩
-- slices.IndexFunc[[]deuce/api.Person,deuce/api.Person]
instance : FnOk Tryz.prog 178 := ⟨by kernel_rfl⟩
-- slices.IndexFunc[[]int,int]
instance : FnOk Tryz.prog 179 := ⟨by kernel_rfl⟩
-- slices.pdqsortCmpFunc[int]
instance : FnOk Tryz.prog 180 := ⟨by kernel_rfl⟩
-- deuce/draws.match$1
instance : FnOk Tryz.prog 181 := ⟨by kernel_rfl⟩
-- deuce/draws.apart
instance : FnOk Tryz.prog 182 := ⟨by kernel_rfl⟩
-- deuce/rank.areLeaves$1
instance : FnOk Tryz.prog 183 := ⟨by kernel_rfl⟩
-- slices.insertionSortCmpFunc[deuce/api.Report]
instance : FnOk Tryz.prog 184 := ⟨by kernel_rfl⟩
-- slices.symMergeCmpFunc[deuce/api.Report]
instance : FnOk Tryz.prog 185 := ⟨by kernel_rfl⟩
-- slices.IndexFunc[[]deuce/api.Strip,deuce/api.Strip]
instance : FnOk Tryz.prog 186 := ⟨by kernel_rfl⟩
-- deuce/lines.all$1
instance : FnOk Tryz.prog 187 := ⟨by kernel_rfl⟩
-- deuce/lines.wrong
instance : FnOk Tryz.prog 188 := ⟨by kernel_rfl⟩
-- deuce/deuceref01.due
instance : FnOk Tryz.prog 189 := ⟨by kernel_rfl⟩
-- deuce/deuceref01.Rule
instance : FnOk Tryz.prog 190 := ⟨by kernel_rfl⟩
-- deuce/deuceref01.IsLast
instance : FnOk Tryz.prog 191 := ⟨by kernel_rfl⟩
-- (deuce/score.set).breaks
instance : FnOk Tryz.prog 192 := ⟨by kernel_rfl⟩
-- (deuce/score.rules).due
instance : FnOk Tryz.prog 193 := ⟨by kernel_rfl⟩
-- slices.siftDownCmpFunc[deuce/api.Board]
instance : FnOk Tryz.prog 194 := ⟨by kernel_rfl⟩
-- slices.nextPowerOfTwo
instance : FnOk Tryz.prog 195 := ⟨by kernel_rfl⟩
-- (*slices.xorshift).Next
instance : FnOk Tryz.prog 196 := ⟨by kernel_rfl⟩
-- slices.medianAdjacentCmpFunc[deuce/api.Board]
instance : FnOk Tryz.prog 197 := ⟨by kernel_rfl⟩
-- slices.medianCmpFunc[deuce/api.Board]
instance : FnOk Tryz.prog 198 := ⟨by kernel_rfl⟩
-- deuce/card.isMark$1
instance : FnOk Tryz.prog 199 := ⟨by kernel_rfl⟩
-- deuce/card.isMark$2
instance : FnOk Tryz.prog 200 := ⟨by kernel_rfl⟩
-- (deuce/card.reader).next
instance : FnOk Tryz.prog 201 := ⟨by kernel_rfl⟩
-- (deuce/card.spot).won
instance : FnOk Tryz.prog 202 := ⟨by kernel_rfl⟩
-- (deuce/card.reader).score
instance : FnOk Tryz.prog 203 := ⟨by kernel_rfl⟩
-- slices.siftDownCmpFunc[deuce/rank.line]
instance : FnOk Tryz.prog 204 := ⟨by kernel_rfl⟩
-- slices.medianAdjacentCmpFunc[deuce/rank.line]
instance : FnOk Tryz.prog 205 := ⟨by kernel_rfl⟩
-- slices.medianCmpFunc[deuce/rank.line]
instance : FnOk Tryz.prog 206 := ⟨by kernel_rfl⟩
-- slices.insertionSortCmpFunc[int]
instance : FnOk Tryz.prog 207 := ⟨by kernel_rfl⟩
-- slices.heapSortCmpFunc[int]
instance : FnOk Tryz.prog 208 := ⟨by kernel_rfl⟩
-- slices.breakPatternsCmpFunc[int]
instance : FnOk Tryz.prog 209 := ⟨by kernel_rfl⟩
-- slices.choosePivotCmpFunc[int]
instance : FnOk Tryz.prog 210 := ⟨by kernel_rfl⟩
-- slices.reverseRangeCmpFunc[int]
instance : FnOk Tryz.prog 211 := ⟨by kernel_rfl⟩
-- slices.partialInsertionSortCmpFunc[int]
instance : FnOk Tryz.prog 212 := ⟨by kernel_rfl⟩
-- slices.partitionEqualCmpFunc[int]
instance : FnOk Tryz.prog 213 := ⟨by kernel_rfl⟩
-- slices.partitionCmpFunc[int]
instance : FnOk Tryz.prog 214 := ⟨by kernel_rfl⟩
-- slices.rotateCmpFunc[deuce/api.Report]
instance : FnOk Tryz.prog 215 := ⟨by kernel_rfl⟩
-- slices.order2CmpFunc[deuce/api.Board]
instance : FnOk Tryz.prog 216 := ⟨by kernel_rfl⟩
-- deuce/card.more
instance : FnOk Tryz.prog 217 := ⟨by kernel_rfl⟩
-- deuce/card.leads
instance : FnOk Tryz.prog 218 := ⟨by kernel_rfl⟩
-- (*deuce/card.node).row
instance : FnOk Tryz.prog 219 := ⟨by kernel_rfl⟩
-- slices.order2CmpFunc[deuce/rank.line]
instance : FnOk Tryz.prog 220 := ⟨by kernel_rfl⟩
-- slices.siftDownCmpFunc[int]
instance : FnOk Tryz.prog 221 := ⟨by kernel_rfl⟩
-- slices.medianAdjacentCmpFunc[int]
instance : FnOk Tryz.prog 222 := ⟨by kernel_rfl⟩
-- slices.medianCmpFunc[int]
instance : FnOk Tryz.prog 223 := ⟨by kernel_rfl⟩
-- slices.swapRangeCmpFunc[deuce/api.Report]
instance : FnOk Tryz.prog 224 := ⟨by kernel_rfl⟩
-- slices.Reverse[[]int,int]
instance : FnOk Tryz.prog 225 := ⟨by kernel_rfl⟩
-- slices.order2CmpFunc[int]
instance : FnOk Tryz.prog 226 := ⟨by kernel_rfl⟩
end Go.Proofs.YthkliiifllhacaaGreat

namespace Go.Proofs.YthkliiifllhacaaGreat
open Go
instance : BuildArr Tryz.prog 141 2 [.int .i64 0, .int .i64 0, .int .i64 0, .int .i64 0, .int .i64 0, .int .i64 0, .int .i64 0, .int .i64 0, .int .i64 0, .int .i64 0] := ⟨fun parts => by kernel_rfl⟩
instance : BuildArr Tryz.prog 305 1 [] := ⟨fun parts => by kernel_rfl⟩
instance : FlatTy Tryz.prog 48 [false, false, true, false, false, false, false, false, false, true] := ⟨by kernel_rfl, by kernel_rfl, by kernel_rfl⟩
instance : FlatTy Tryz.prog 49 [false, false, true, false, false, false, false, false, false, true] := ⟨by kernel_rfl, by kernel_rfl, by kernel_rfl⟩
instance : FlatTy Tryz.prog 56 [false, false] := ⟨by kernel_rfl, by kernel_rfl, by kernel_rfl⟩
instance : FlatTy Tryz.prog 57 [false, false] := ⟨by kernel_rfl, by kernel_rfl, by kernel_rfl⟩
instance : FlatTy Tryz.prog 60 [false, false, false, false] := ⟨by kernel_rfl, by kernel_rfl, by kernel_rfl⟩
instance : FlatTy Tryz.prog 61 [false, false, false, false] := ⟨by kernel_rfl, by kernel_rfl, by kernel_rfl⟩
instance : FlatTy Tryz.prog 62 [false, false, false, false] := ⟨by kernel_rfl, by kernel_rfl, by kernel_rfl⟩
instance : FlatTy Tryz.prog 63 [false, false, false, false] := ⟨by kernel_rfl, by kernel_rfl, by kernel_rfl⟩
instance : FlatTy Tryz.prog 72 [false, false] := ⟨by kernel_rfl, by kernel_rfl, by kernel_rfl⟩
instance : FlatTy Tryz.prog 73 [false, false] := ⟨by kernel_rfl, by kernel_rfl, by kernel_rfl⟩
instance : FlatTy Tryz.prog 74 [false, false, false, false] := ⟨by kernel_rfl, by kernel_rfl, by kernel_rfl⟩
instance : FlatTy Tryz.prog 75 [false, false, false, false] := ⟨by kernel_rfl, by kernel_rfl, by kernel_rfl⟩
instance : FlatTy Tryz.prog 89 [false, false, false, false, true] := ⟨by kernel_rfl, by kernel_rfl, by kernel_rfl⟩
instance : FlatTy Tryz.prog 90 [false, false, false, false, true] := ⟨by kernel_rfl, by kernel_rfl, by kernel_rfl⟩
instance : FlatTy Tryz.prog 102 [false, false, true] := ⟨by kernel_rfl, by kernel_rfl, by kernel_rfl⟩
instance : FlatTy Tryz.prog 103 [false, false, true] := ⟨by kernel_rfl, by kernel_rfl, by kernel_rfl⟩
instance : MapTy Tryz.prog 109 90 3 := ⟨by kernel_rfl⟩
instance : FlatTy Tryz.prog 114 [false, false, false] := ⟨by kernel_rfl, by kernel_rfl, by kernel_rfl⟩
instance : FlatTy Tryz.prog 115 [false, false, false] := ⟨by kernel_rfl, by kernel_rfl, by kernel_rfl⟩
instance : FlatTy Tryz.prog 118 [false, false, false, false] := ⟨by kernel_rfl, by kernel_rfl, by kernel_rfl⟩
instance : FlatTy Tryz.prog 119 [false, false, false, false] := ⟨by kernel_rfl, by kernel_rfl, by kernel_rfl⟩
instance : FlatTy Tryz.prog 132 [false, false, true, false, false, false, false, false, false, true] := ⟨by kernel_rfl, by kernel_rfl, by kernel_rfl⟩
instance : FlatTy Tryz.prog 133 [false, false, true, false, false, false, false, false, false, true] := ⟨by kernel_rfl, by kernel_rfl, by kernel_rfl⟩
instance : MapTy Tryz.prog 137 143 253 := ⟨by kernel_rfl⟩
instance : MapTy Tryz.prog 138 143 253 := ⟨by kernel_rfl⟩
instance : FlatTy Tryz.prog 142 [false, false, false, false, false, false, false, false, false, false, false, false, false, false, false, false] := ⟨by kernel_rfl, by kernel_rfl, by kernel_rfl⟩
instance : FlatTy Tryz.prog 143 [false, false, false, false, false, false, false, false, false, false, false, false, false, false, false, false] := ⟨by kernel_rfl, by kernel_rfl, by kernel_rfl⟩
instance : FlatTy Tryz.prog 165 [false, false, false, false] := ⟨by kernel_rfl, by kernel_rfl, by kernel_rfl⟩
instance : FlatTy Tryz.prog 166 [false, false, false, false] := ⟨by kernel_rfl, by kernel_rfl, by kernel_rfl⟩
instance : FlatTy Tryz.prog 182 [false, false] := ⟨by kernel_rfl, by kernel_rfl, by kernel_rfl⟩
instance : FlatTy Tryz.prog 183 [false, false] := ⟨by kernel_rfl, by kernel_rfl, by kernel_rfl⟩
instance : FlatTy Tryz.prog 228 [false, true, false, false, false, false, true] := ⟨by kernel_rfl, by kernel_rfl, by kernel_rfl⟩
instance : FlatTy Tryz.prog 229 [false, true, false, false, false, false, true] := ⟨by kernel_rfl, by kernel_rfl, by kernel_rfl⟩
instance : FlatTy Tryz.prog 231 [false, false] := ⟨by kernel_rfl, by kernel_rfl, by kernel_rfl⟩
instance : FlatTy Tryz.prog 232 [false, false] := ⟨by kernel_rfl, by kernel_rfl, by kernel_rfl⟩
end Go.Proofs.YthkliiifllhacaaGreat

namespace Go.Proofs.YthkliiifllhacaaGreat
open Go Go.RowKit

def wi (n lo hi : Int) : Bool := decide (lo ≤ n) && decide (n ≤ hi)
theorem wi_iff {n lo hi : Int} : wi n lo hi = true ↔ lo ≤ n ∧ n ≤ hi := by simp [wi]
theorem wi_not {n lo hi : Int} : (!wi n lo hi) = false ↔ lo ≤ n ∧ n ≤ hi := by simp [wi]

structure Fmt where
 (sets games : Int) (noAd : Bool) (tie to ltie lto first thn : Int) (dbl : Bool)
abbrev Fmt.cells (f : Fmt) : List Value := [.int .i64 f.sets, .int .i64 f.games, .bool f.noAd, .int .i64 f.tie, .int .i64 f.to, .int .i64 f.ltie, .int .i64 f.lto, .int .i64 f.first, .int .i64 f.thn, .bool f.dbl]
abbrev Fmt.val (f : Fmt) : Value := .agg #[.int .i64 f.sets, .int .i64 f.games, .bool f.noAd, .int .i64 f.tie, .int .i64 f.to, .int .i64 f.ltie, .int .i64 f.lto, .int .i64 f.first, .int .i64 f.thn, .bool f.dbl]
abbrev Pr := Int × Int
abbrev pv (p : Pr) : Value := .agg #[.int .i64 p.1, .int .i64 p.2]
def tieB (f : Fmt) (n : Int) : Bool := decide (n = -1) || decide (n = 0) || decide (n = f.games - 1) || decide (n = f.games)
def fmtOk (f : Fmt) : Bool := wi f.sets 1 3 && wi f.games 1 8 && tieB f f.tie && tieB f f.ltie && wi f.to 1 15 && wi f.lto 1 15 && wi f.first 0 20 && wi f.thn 0 20
def chkF (f : Fmt) : Int := bif fmtOk f then 0 else 10
structure Fmt.Ok (f : Fmt) : Prop where
 s0 : 1 ≤ f.sets
 s1 : f.sets ≤ 3
 g0 : 1 ≤ f.games
 g1 : f.games ≤ 8
 t : f.tie = -1 ∨ f.tie = 0 ∨ f.tie = f.games - 1 ∨ f.tie = f.games
 lt : f.ltie = -1 ∨ f.ltie = 0 ∨ f.ltie = f.games - 1 ∨ f.ltie = f.games
 o0 : 1 ≤ f.to
 o1 : f.to ≤ 15
 l0 : 1 ≤ f.lto
 l1 : f.lto ≤ 15
 f0 : 0 ≤ f.first
 f1 : f.first ≤ 20
 n0 : 0 ≤ f.thn
 n1 : f.thn ≤ 20
theorem fmt_ok {f : Fmt} (h : fmtOk f = true) : f.Ok := by
 simp only [fmtOk, tieB, Bool.and_eq_true, Bool.or_eq_true, wi_iff, decide_eq_true_eq] at h
 constructor <;> omega
def Sm (p : Pr) : Prop := (-1000000 ≤ p.1 ∧ p.1 ≤ 1000000) ∧ -1000000 ≤ p.2 ∧ p.2 ≤ 1000000
def leadsV (p : Pr) (l b : Int) : Int := bif decide (l ≤ p.1) && decide (b ≤ p.1 - p.2) then 0 else bif decide (l ≤ p.2) && decide (b ≤ p.2 - p.1) then 1 else -1
def setV (f : Fmt) (won : Pr) : Pr := bif decide (won.1 = f.sets - 1) && decide (won.2 = f.sets - 1) then (f.ltie, f.lto) else (f.tie, f.to)
def brksV (s g : Pr) : Bool := decide (g.1 = s.1) && decide (g.2 = s.1)
def addV (p : Pr) (side : Int) : Pr := bif decide (side = 0) then (p.1 + 1, p.2) else (p.1, p.2 + 1)
def gameV (f : Fmt) (s : Pr) (tie : Bool) (p : Pr) : Int := bif tie then leadsV p s.2 2 else bif f.noAd then leadsV p 4 1 else leadsV p 4 2
def dueV (f : Fmt) (n : Int) : Bool := decide (0 < f.first) && (decide (n - f.first = 0) || decide (0 < n - f.first) && decide (0 < f.thn) && decide ((n - f.first) % f.thn = 0))
end Go.Proofs.YthkliiifllhacaaGreat

namespace Go.Proofs.YthkliiifllhacaaGreat
open Go Go.RowKit

theorem C_score_within (n lo hi : Int) (w : World) : C0 Tryz.prog 144 [.int .i64 n, .int .i64 lo, .int .i64 hi] w (.bool (wi n lo hi)) := by
 refine ⟨en Tryz.func144 Tryz.ntmps144 (St.init w) (h := fun F => ?_)⟩
 refine sr ?_
 refine ww ?_
 refine nr ?_
 iterate 4 refine ww ?_
 apply brAnd 4 10 14 (by exact rfl)
 ·
  intro hb0
  iterate 3 refine uw ?_
  refine ww ?_
  exact mg (by repeat (first | exact trivial | refine ⟨rfl, ?_⟩ | refine ⟨by rw [hb0]; rfl, ?_⟩)) slz_
 ·
  intro hb0
  repeat (first | refine uz ?_ | refine kz ?_ | refine wz ?_)
  exact mg (by repeat (first | exact trivial | refine ⟨rfl, ?_⟩ | refine ⟨by rw [hb0]; rfl, ?_⟩)) slz_
 refine ww ?_
 refine nq ?_
 refine rtn ?_
 refine q_ret (hR := ?_)
 exact fun w hS => ⟨rfl, hS.sub slz_⟩
theorem T_score_Check1 (f : Fmt) (n : Int) (hg : 1 ≤ f.games ∧ f.games ≤ 8) (a0 : Nat) : Tr Tryz.prog 143 [.int .i64 n, .pointer (some ⟨a0, 0, none⟩)] [.blk a0 49 f.cells] (fun _ : Unit => True) (fun _ => .bool (tieB f n)) (fun _ => [.blk a0 49 f.cells]) := by
 refine ⟨fun w0 w R hst => ?_⟩
 refine en Tryz.func143 Tryz.ntmps143 hst (h := fun F => ?_)
 refine sr ?_
 refine ww ?_
 refine nr ?_
 iterate 3 refine ww ?_
 apply brOr 3 6 9 (by exact rfl)
 ·
  intro hb0
  iterate 2 refine uw ?_
  refine ww ?_
  exact mg (by repeat (first | exact trivial | refine ⟨rfl, ?_⟩ | refine ⟨by rw [hb0]; rfl, ?_⟩)) slz_
 ·
  intro hb0
  repeat (first | refine uz ?_ | refine kz ?_ | refine wz ?_)
  exact mg (by repeat (first | exact trivial | refine ⟨rfl, ?_⟩ | refine ⟨by rw [hb0]; rfl, ?_⟩)) slz_
 refine ww ?_
 apply brOr 6 10 16 (by exact rfl)
 ·
  intro hb1
  iterate 5 refine uw ?_
  refine ww ?_
  exact mg (by repeat (first | exact trivial | refine ⟨rfl, ?_⟩ | refine ⟨by rw [hb1]; rfl, ?_⟩)) slz_
 ·
  intro hb1
  repeat (first | refine uz ?_ | refine kz ?_ | refine wz ?_)
  exact mg (by repeat (first | exact trivial | refine ⟨rfl, ?_⟩ | refine ⟨by rw [hb1]; rfl, ?_⟩)) slz_
 refine ww ?_
 apply brOr 5 17 22 (by exact rfl)
 ·
  intro hb2
  iterate 4 refine uw ?_
  refine ww ?_
  exact mg (by repeat (first | exact trivial | refine ⟨rfl, ?_⟩ | refine ⟨by rw [hb2]; rfl, ?_⟩)) slz_
 ·
  intro hb2
  repeat (first | refine uz ?_ | refine kz ?_ | refine wz ?_)
  exact mg (by repeat (first | exact trivial | refine ⟨rfl, ?_⟩ | refine ⟨by rw [hb2]; rfl, ?_⟩)) slz_
 refine ww ?_
 refine nq ?_
 refine rtn ?_
 refine q_ret (hR := ?_)
 exact fun w hS => ⟨(), trivial, rfl, hS⟩

theorem C_score_Check (f : Fmt) (w : World) : C0 Tryz.prog 98 [f.val] w (.int .i64 (chkF f)) := by
 refine ⟨en Tryz.func98 Tryz.ntmps98 (St.init w) (h := fun F => ?_)⟩
 refine sr ?_
 refine bxA (h := fun b0 => ?_)
 refine ww ?_
 refine nr ?_
 iterate 2 refine ww ?_
 refine nq ?_
 refine sq ?_
 refine sr ?_
 iterate 2 refine ww ?_
 refine cl0 (hc := fun w hS => C_score_within ..) (h := ?_)
 refine ww ?_
 apply brAnd 4 8 12 (by exact rfl)
 ·
  intro hb0
  iterate 2 refine uw ?_
  refine uz ?_
  refine cl0 (hc := fun w hS => C_score_within ..) (h := ?_)
  refine ww ?_
  exact mg (by repeat (first | exact trivial | refine ⟨rfl, ?_⟩ | refine ⟨by rw [hb0]; rfl, ?_⟩)) slz_
 ·
  intro hb0
  repeat (first | refine uz ?_ | refine kz ?_ | refine wz ?_)
  exact mg (by repeat (first | exact trivial | refine ⟨rfl, ?_⟩ | refine ⟨by rw [hb0]; rfl, ?_⟩)) slz_
 refine ww ?_
 apply brAnd 5 13 18 (by exact rfl)
 ·
  intro hb1
  have hg : 1 ≤ f.games ∧ f.games ≤ 8 := by simp only [Bool.and_eq_true, wi_iff] at hb1; omega
  iterate 3 refine uw ?_
  refine uz ?_
  refine clfT inferInstance (fi := []) (cap := [.pointer (some ⟨b0, 0, none⟩)]) (by exact rfl) (by repeat (first | exact Evs.nil | (apply Evs.cons; exact rfl))) (T_score_Check1 f f.tie hg b0) rfl (by repeat (first | exact Spl.nil | (apply Spl.cons; (repeat (first | exact At.here | apply At.there))))) (h := fun _ _ => ?_)
  refine ww ?_
  exact mg (by repeat (first | exact trivial | refine ⟨rfl, ?_⟩ | refine ⟨by rw [hb1]; rfl, ?_⟩)) slz_
 ·
  intro hb1
  repeat (first | refine uz ?_ | refine kz ?_ | refine wz ?_)
  exact mg (by repeat (first | exact trivial | refine ⟨rfl, ?_⟩ | refine ⟨by rw [hb1]; rfl, ?_⟩)) slz_
 refine ww ?_
 apply brAnd 5 19 24 (by exact rfl)
 ·
  intro hb2
  have hg : 1 ≤ f.games ∧ f.games ≤ 8 := by simp only [Bool.and_eq_true, wi_iff] at hb2; omega
  iterate 3 refine uw ?_
  refine uz ?_
  refine clfT inferInstance (fi := []) (cap := [.pointer (some ⟨b0, 0, none⟩)]) (by exact rfl) (by repeat (first | exact Evs.nil | (apply Evs.cons; exact rfl))) (T_score_Check1 f f.ltie hg b0) rfl (by repeat (first | exact Spl.nil | (apply Spl.cons; (repeat (first | exact At.here | apply At.there))))) (h := fun _ _ => ?_)
  refine ww ?_
  exact mg (by repeat (first | exact trivial | refine ⟨rfl, ?_⟩ | refine ⟨by rw [hb2]; rfl, ?_⟩)) slz_
 ·
  intro hb2
  repeat (first | refine uz ?_ | refine kz ?_ | refine wz ?_)
  exact mg (by repeat (first | exact trivial | refine ⟨rfl, ?_⟩ | refine ⟨by rw [hb2]; rfl, ?_⟩)) slz_
 refine ww ?_
 apply brAnd 4 25 29 (by exact rfl)
 ·
  intro hb3
  iterate 2 refine uw ?_
  refine uz ?_
  refine cl0 (hc := fun w hS => C_score_within ..) (h := ?_)
  refine ww ?_
  exact mg (by repeat (first | exact trivial | refine ⟨rfl, ?_⟩ | refine ⟨by rw [hb3]; rfl, ?_⟩)) slz_
 ·
  intro hb3
  repeat (first | refine uz ?_ | refine kz ?_ | refine wz ?_)
  exact mg (by repeat (first | exact trivial | refine ⟨rfl, ?_⟩ | refine ⟨by rw [hb3]; rfl, ?_⟩)) slz_
 refine ww ?_
 apply brAnd 4 30 34 (by exact rfl)
 ·
  intro hb4
  iterate 2 refine uw ?_
  refine uz ?_
  refine cl0 (hc := fun w hS => C_score_within ..) (h := ?_)
  refine ww ?_
  exact mg (by repeat (first | exact trivial | refine ⟨rfl, ?_⟩ | refine ⟨by rw [hb4]; rfl, ?_⟩)) slz_
 ·
  intro hb4
  repeat (first | refine uz ?_ | refine kz ?_ | refine wz ?_)
  exact mg (by repeat (first | exact trivial | refine ⟨rfl, ?_⟩ | refine ⟨by rw [hb4]; rfl, ?_⟩)) slz_
 refine ww ?_
 apply brAnd 4 35 39 (by exact rfl)
 ·
  intro hb5
  iterate 2 refine uw ?_
  refine uz ?_
  refine cl0 (hc := fun w hS => C_score_within ..) (h := ?_)
  refine ww ?_
  exact mg (by repeat (first | exact trivial | refine ⟨rfl, ?_⟩ | refine ⟨by rw [hb5]; rfl, ?_⟩)) slz_
 ·
  intro hb5
  repeat (first | refine uz ?_ | refine kz ?_ | refine wz ?_)
  exact mg (by repeat (first | exact trivial | refine ⟨rfl, ?_⟩ | refine ⟨by rw [hb5]; rfl, ?_⟩)) slz_
 refine ww ?_
 apply brAnd 4 40 44 (by exact rfl)
 ·
  intro hb6
  iterate 2 refine uw ?_
  refine uz ?_
  refine cl0 (hc := fun w hS => C_score_within ..) (h := ?_)
  refine ww ?_
  exact mg (by repeat (first | exact trivial | refine ⟨rfl, ?_⟩ | refine ⟨by rw [hb6]; rfl, ?_⟩)) slz_
 ·
  intro hb6
  repeat (first | refine uz ?_ | refine kz ?_ | refine wz ?_)
  exact mg (by repeat (first | exact trivial | refine ⟨rfl, ?_⟩ | refine ⟨by rw [hb6]; rfl, ?_⟩)) slz_
 refine nq ?_
 refine czz (fun h7 => ?_) fun h7 => ?_
 ·
  refine sr ?_
  refine ww ?_
  refine nq ?_
  refine rtn ?_
  refine q_then_ret ?_
  refine q_ret (hR := ?_)
  exact fun w hS => ⟨cdT' (fun x : Int => Ending.returned (Value.int .i64 x)) h7, hS.sub slz_⟩
 ·
  refine skp ?_
  refine q_seq ?_
  refine sr ?_
  refine ww ?_
  refine nq ?_
  refine rtn ?_
  refine q_ret (hR := ?_)
  exact fun w hS => ⟨cdF' (fun x : Int => Ending.returned (Value.int .i64 x)) h7, hS.sub slz_⟩

theorem C_score_leads (p : Pr) (l b : Int) (hp : Sm p) (w : World) : C0 Tryz.prog 153 [pv p, .int .i64 l, .int .i64 b] w (.int .i64 (leadsV p l b)) := by
 obtain ⟨⟨h1, h2⟩, h3, h4⟩ := hp
 refine ⟨en Tryz.func153 Tryz.ntmps153 (St.init w) (h := fun F => ?_)⟩
 refine sr ?_
 refine bxA (h := fun b0 => ?_)
 refine ww ?_
 refine nq ?_
 refine sq ?_
 refine bk ?_
 refine sr ?_
 iterate 5 refine ww ?_
 apply brAnd 8 12 20 (by exact rfl)
 ·
  intro hb0
  iterate 7 refine uw ?_
  refine ww ?_
  exact mg (by repeat (first | exact trivial | refine ⟨rfl, ?_⟩ | refine ⟨by rw [hb0]; rfl, ?_⟩)) slz_
 ·
  intro hb0
  repeat (first | refine uz ?_ | refine kz ?_ | refine wz ?_)
  exact mg (by repeat (first | exact trivial | refine ⟨rfl, ?_⟩ | refine ⟨by rw [hb0]; rfl, ?_⟩)) slz_
 refine ww ?_
 refine nq ?_
 refine czz (fun h1 => ?_) fun h1 => ?_
 ·
  refine sr ?_
  refine ww ?_
  refine nq ?_
  refine rtn ?_
  refine q_blk_ret ?_
  refine q_then_ret ?_
  refine q_ret (hR := ?_)
  exact fun w hS => ⟨cdT' (fun x : Int => Ending.returned (Value.int .i64 x)) h1, hS.sub slz_⟩
 ·
  refine sr ?_
  iterate 5 refine ww ?_
  apply brAnd 8 26 34 (by exact rfl)
  ·
   intro hb2
   iterate 7 refine uw ?_
   refine ww ?_
   exact mg (by repeat (first | exact trivial | refine ⟨rfl, ?_⟩ | refine ⟨by rw [hb2]; rfl, ?_⟩)) slz_
  ·
   intro hb2
   repeat (first | refine uz ?_ | refine kz ?_ | refine wz ?_)
   exact mg (by repeat (first | exact trivial | refine ⟨rfl, ?_⟩ | refine ⟨by rw [hb2]; rfl, ?_⟩)) slz_
  refine ww ?_
  refine nq ?_
  refine czz (fun h3 => ?_) fun h3 => ?_
  ·
   refine sr ?_
   refine ww ?_
   refine nq ?_
   refine rtn ?_
   refine q_blk_ret ?_
   refine q_then_ret ?_
   refine q_ret (hR := ?_)
   exact fun w hS => ⟨(cdT' (fun x : Int => Ending.returned (Value.int .i64 x)) h3).trans (cdF' (fun x : Int => Ending.returned (Value.int .i64 x)) h1), hS.sub slz_⟩
  ·
   refine skp ?_
   refine q_blk_norm ?_
   refine q_seq ?_
   refine sr ?_
   refine ww ?_
   refine nq ?_
   refine rtn ?_
   refine q_ret (hR := ?_)
   exact fun w hS => ⟨(cdF' (fun x : Int => Ending.returned (Value.int .i64 x)) h3).trans (cdF' (fun x : Int => Ending.returned (Value.int .i64 x)) h1), hS.sub slz_⟩

theorem C_rules_set (f : Fmt) (won : Pr) (hf : f.Ok) (w : World) : C0 Tryz.prog 146 [f.val, pv won] w (pv (setV f won)) := by
 have h1 := hf.s0
 have h2 := hf.s1
 refine ⟨en Tryz.func146 Tryz.ntmps146 (St.init w) (h := fun F => ?_)⟩
 refine sr ?_
 refine bxA (h := fun b0 => ?_)
 refine bxA (h := fun b1 => ?_)
 refine al (h := fun b2 => ?_)
 refine nq ?_
 refine sq ?_
 refine sr ?_
 iterate 8 refine ww ?_
 apply brAnd 8 12 20 (by exact rfl)
 ·
  intro hb0
  iterate 7 refine uw ?_
  refine ww ?_
  exact mg (by repeat (first | exact trivial | refine ⟨rfl, ?_⟩ | refine ⟨by rw [hb0]; rfl, ?_⟩)) slz_
 ·
  intro hb0
  repeat (first | refine uz ?_ | refine kz ?_ | refine wz ?_)
  exact mg (by repeat (first | exact trivial | refine ⟨rfl, ?_⟩ | refine ⟨by rw [hb0]; rfl, ?_⟩)) slz_
 refine nq ?_
 refine czz (fun h1 => ?_) fun h1 => ?_
 ·
  refine sr ?_
  iterate 7 refine ww ?_
  first | refine stA (h := ?_) | refine stEA (h := ?_)
  refine nq ?_
  refine rtn ?_
  refine q_then_ret ?_
  refine q_ret (hR := ?_)
  exact fun w hS => ⟨cdT' (x := (f.ltie, f.lto)) (fun p : Pr => Ending.returned (pv p)) h1, hS.sub slz_⟩
 ·
  refine skp ?_
  refine q_seq ?_
  refine sr ?_
  iterate 7 refine ww ?_
  first | refine stA (h := ?_) | refine stEA (h := ?_)
  refine nq ?_
  refine rtn ?_
  refine q_ret (hR := ?_)
  exact fun w hS => ⟨cdF' (y := (f.tie, f.to)) (fun p : Pr => Ending.returned (pv p)) h1, hS.sub slz_⟩

theorem C_set_breaks (s g : Pr) (w : World) : C0 Tryz.prog 192 [pv s, pv g] w (.bool (brksV s g)) := by
 refine ⟨en Tryz.func192 Tryz.ntmps192 (St.init w) (h := fun F => ?_)⟩
 refine sr ?_
 refine bxA (h := fun b0 => ?_)
 refine bxA (h := fun b1 => ?_)
 refine ww ?_
 refine nr ?_
 iterate 6 refine ww ?_
 apply brAnd 6 10 16 (by exact rfl)
 ·
  intro hb0
  iterate 5 refine uw ?_
  refine ww ?_
  exact mg (by repeat (first | exact trivial | refine ⟨rfl, ?_⟩ | refine ⟨by rw [hb0]; rfl, ?_⟩)) slz_
 ·
  intro hb0
  repeat (first | refine uz ?_ | refine kz ?_ | refine wz ?_)
  exact mg (by repeat (first | exact trivial | refine ⟨rfl, ?_⟩ | refine ⟨by rw [hb0]; rfl, ?_⟩)) slz_
 refine ww ?_
 refine nq ?_
 refine rtn ?_
 refine q_ret (hR := ?_)
 exact fun w hS => ⟨rfl, hS.sub slz_⟩

theorem C_score_add (p : Pr) (side : Int) (hp : Sm p) (w : World) : C0 Tryz.prog 148 [pv p, .int .i64 side] w (pv (addV p side)) := by
 obtain ⟨⟨h1, h2⟩, h3, h4⟩ := hp
 refine ⟨en Tryz.func148 Tryz.ntmps148 (St.init w) (h := fun F => ?_)⟩
 refine sr ?_
 refine bxA (h := fun b0 => ?_)
 refine al (h := fun b1 => ?_)
 refine nq ?_
 refine sq ?_
 refine sr ?_
 iterate 2 refine ww ?_
 refine nq ?_
 refine czz (fun h0 => ?_) fun h0 => ?_
 ·
  refine rg ?_
  iterate 4 refine ww ?_
  first | refine st (h := ?_) | refine stE (h := ?_)
  refine nr ?_
  refine ww ?_
  first | refine stA (h := ?_) | refine stEA (h := ?_)
  refine nq ?_
  refine rtn ?_
  refine q_ret (hR := ?_)
  exact fun w hS => ⟨cdT' (x := (p.1 + 1, p.2)) (fun p : Pr => Ending.returned (pv p)) h0, hS.sub slz_⟩
 ·
  refine rg ?_
  iterate 4 refine ww ?_
  first | refine st (h := ?_) | refine stE (h := ?_)
  refine nr ?_
  refine ww ?_
  first | refine stA (h := ?_) | refine stEA (h := ?_)
  refine nq ?_
  refine rtn ?_
  refine q_ret (hR := ?_)
  exact fun w hS => ⟨cdF' (y := (p.1, p.2 + 1)) (fun p : Pr => Ending.returned (pv p)) h0, hS.sub slz_⟩

theorem C_score_sum (p : Pr) (hp : Sm p) (w : World) : C0 Tryz.prog 149 [pv p] w (.int .i64 (p.1 + p.2)) := by
 obtain ⟨⟨h1, h2⟩, h3, h4⟩ := hp
 refine ⟨en Tryz.func149 Tryz.ntmps149 (St.init w) (h := fun F => ?_)⟩
 refine sr ?_
 refine bxA (h := fun b0 => ?_)
 refine ww ?_
 refine nr ?_
 iterate 6 refine ww ?_
 refine nq ?_
 refine rtn ?_
 refine q_ret (hR := ?_)
 exact fun w hS => ⟨rfl, hS.sub slz_⟩

theorem C_rules_game (f : Fmt) (s : Pr) (tie : Bool) (p : Pr) (hp : Sm p) (w : World) : C0 Tryz.prog 150 [f.val, pv s, .bool tie, pv p] w (.int .i64 (gameV f s tie p)) := by
 refine ⟨en Tryz.func150 Tryz.ntmps150 (St.init w) (h := fun F => ?_)⟩
 refine sr ?_
 refine bxA (h := fun b0 => ?_)
 refine bxA (h := fun b1 => ?_)
 refine bxA (h := fun b2 => ?_)
 refine ww ?_
 refine nq ?_
 refine sq ?_
 refine bk ?_
 refine sr ?_
 iterate 2 refine ww ?_
 refine nq ?_
 refine czz (fun h0 => ?_) fun h0 => ?_
 ·
  refine sr ?_
  iterate 3 refine ww ?_
  refine cl0 (hc := fun w hS => C_score_leads _ _ _ (by assumption) w) (h := ?_)
  refine ww ?_
  refine nq ?_
  refine rtn ?_
  refine q_blk_ret ?_
  refine q_then_ret ?_
  refine q_ret (hR := ?_)
  exact fun w hS => ⟨cdT' (fun x : Int => Ending.returned (Value.int .i64 x)) h0, hS.sub slz_⟩
 ·
  refine sr ?_
  iterate 4 refine ww ?_
  refine nq ?_
  refine czz (fun h1 => ?_) fun h1 => ?_
  ·
   refine sr ?_
   refine ww ?_
   refine cl0 (hc := fun w hS => C_score_leads _ _ _ (by assumption) w) (h := ?_)
   refine ww ?_
   refine nq ?_
   refine rtn ?_
   refine q_blk_ret ?_
   refine q_then_ret ?_
   refine q_ret (hR := ?_)
   exact fun w hS => ⟨(cdT' (fun x : Int => Ending.returned (Value.int .i64 x)) h1).trans (cdF' (fun x : Int => Ending.returned (Value.int .i64 x)) h0), hS.sub slz_⟩
  ·
   refine skp ?_
   refine q_blk_norm ?_
   refine q_seq ?_
   refine sr ?_
   refine ww ?_
   refine cl0 (hc := fun w hS => C_score_leads _ _ _ (by assumption) w) (h := ?_)
   refine ww ?_
   refine nq ?_
   refine rtn ?_
   refine q_ret (hR := ?_)
   exact fun w hS => ⟨(cdF' (fun x : Int => Ending.returned (Value.int .i64 x)) h1).trans (cdF' (fun x : Int => Ending.returned (Value.int .i64 x)) h0), hS.sub slz_⟩

theorem C_rules_due (f : Fmt) (n : Int) (hf : f.Ok) (hn : -1000000 ≤ n ∧ n ≤ 1000000) (w : World) : C0 Tryz.prog 193 [f.val, .int .i64 n] w (.bool (dueV f n)) := by
 have h1 := hf.f0
 have h2 := hf.f1
 have h3 := hf.n0
 refine ⟨en Tryz.func193 Tryz.ntmps193 (St.init w) (h := fun F => ?_)⟩
 refine sr ?_
 refine bxA (h := fun b0 => ?_)
 refine ww ?_
 refine nr ?_
 iterate 6 refine ww ?_
 refine nr ?_
 iterate 5 refine ww ?_
 apply brAnd 21 15 36 (by exact rfl)
 ·
  intro hb0
  iterate 3 refine uw ?_
  apply brOr 17 18 35 (by exact rfl)
  ·
   intro hb1
   iterate 3 refine uw ?_
   apply brAnd 5 21 26 (by exact rfl)
   ·
    intro hb2
    iterate 5 refine uw ?_
    exact mg (by repeat (first | exact trivial | refine ⟨rfl, ?_⟩ | refine ⟨by rw [hb2]; rfl, ?_⟩ | refine ⟨by rw [hb0]; rfl, ?_⟩ | refine ⟨by rw [hb1]; rfl, ?_⟩)) slz_
   ·
    intro hb2
    repeat (first | refine uz ?_ | refine kz ?_ | refine wz ?_)
    exact mg (by repeat (first | exact trivial | refine ⟨rfl, ?_⟩ | refine ⟨by rw [hb2]; rfl, ?_⟩ | refine ⟨by rw [hb0]; rfl, ?_⟩ | refine ⟨by rw [hb1]; rfl, ?_⟩)) slz_
   refine uw ?_
   apply brAnd 7 27 34 (by exact rfl)
   ·
    intro hb3
    obtain ⟨hng, hthn⟩ : 0 < n - f.first ∧ 0 < f.thn := by simp only [Bool.and_eq_true, decide_eq_true_eq] at hb3; omega
    iterate 7 refine uw ?_
    exact mg (by repeat (first | exact trivial | refine ⟨rfl, ?_⟩ | refine ⟨by rw [hb3]; rfl, ?_⟩ | refine ⟨by rw [hb0]; rfl, ?_⟩ | refine ⟨by rw [hb1]; rfl, ?_⟩)) slz_
   ·
    intro hb3
    repeat (first | refine uz ?_ | refine kz ?_ | refine wz ?_)
    exact mg (by repeat (first | exact trivial | refine ⟨rfl, ?_⟩ | refine ⟨by rw [hb3]; rfl, ?_⟩ | refine ⟨by rw [hb0]; rfl, ?_⟩ | refine ⟨by rw [hb1]; rfl, ?_⟩)) slz_
   refine uw ?_
   exact mg (by repeat (first | exact trivial | refine ⟨rfl, ?_⟩ | refine ⟨by rw [hb1]; rfl, ?_⟩ | refine ⟨by rw [hb0]; rfl, ?_⟩)) slz_
  ·
   intro hb1
   repeat (first | refine uz ?_ | refine kz ?_ | refine wz ?_)
   exact mg (by repeat (first | exact trivial | refine ⟨rfl, ?_⟩ | refine ⟨by rw [hb1]; rfl, ?_⟩ | refine ⟨by rw [hb0]; rfl, ?_⟩)) slz_
  refine ww ?_
  exact mg (by repeat (first | exact trivial | refine ⟨rfl, ?_⟩ | refine ⟨by rw [hb0]; rfl, ?_⟩)) slz_
 ·
  intro hb0
  repeat (first | refine uz ?_ | refine kz ?_ | refine wz ?_)
  exact mg (by repeat (first | exact trivial | refine ⟨rfl, ?_⟩ | refine ⟨by rw [hb0]; rfl, ?_⟩)) slz_
 refine ww ?_
 refine nq ?_
 refine rtn ?_
 refine q_ret (hR := ?_)
 exact fun w hS => ⟨rfl, hS.sub slz_⟩
end Go.Proofs.YthkliiifllhacaaGreat

namespace Go.Proofs.YthkliiifllhacaaGreat
open Go Go.RowKit

structure Gm where
 (set : Int) (tie : Bool) (server winner : Int) (pts : Pr) (fresh : Bool)
abbrev Gm.enc (g : Gm) : List Value := [.int .i64 g.set, .bool g.tie, .int .i64 g.server, .int .i64 g.winner, .int .i64 g.pts.1, .int .i64 g.pts.2, .bool g.fresh]
def encP (ps : List Pr) : List (List Value) := ps.map fun p => [.int .i64 p.1, .int .i64 p.2]
def encB (bs : List Bool) : List (List Value) := bs.map fun b => [.bool b]
def encG (gs : List Gm) : List (List Value) := gs.map Gm.enc
def encI (xs : List Int) : List (List Value) := xs.map fun x => [.int .i64 x]
theorem encP_app (ps : List Pr) (p : Pr) : encP ps ++ [[.int .i64 p.1, .int .i64 p.2]] = encP (ps ++ [p]) := by simp [encP]
theorem encB_app (bs : List Bool) (b : Bool) : encB bs ++ [[.bool b]] = encB (bs ++ [b]) := by simp [encB]
theorem encG_app (gs : List Gm) (g : Gm) : encG gs ++ [g.enc] = encG (gs ++ [g]) := by simp [encG]
theorem encI_len (xs : List Int) : (encI xs).length = xs.length := by simp [encI]
theorem encI_at {xs : List Int} {k : Nat} {x : Int} (h : xs[k]? = some x) : (encI xs)[k]? = some [.int .i64 x] := by simp [encI, h]
theorem encP_at {xs : List Pr} {k : Nat} {x : Pr} (h : xs[k]? = some x) : (encP xs)[k]? = some [.int .i64 x.1, .int .i64 x.2] := by simp [encP, h]
def tieI (l : List Bool) (i : Int) : Bool := l.getD i.toNat false
theorem encB_at {l : List Bool} {i : Int} (h : 0 ≤ i ∧ i < l.length) : (encB l)[i.toNat]? = some [.bool (tieI l i)] := by
 have hi : i.toNat < l.length := by omega
 simp [encB, tieI, List.getElem?_eq_getElem hi, List.getD_eq_getElem?_getD]
structure MS where
 (f : Fmt) (first : Int) (st : List Pr) (g p won : Pr) (server ends balls winner : Int) (ties : List Bool) (gs : List Gm)
structure MA where
 (sA tA gA : Option Addr) (sc tc gc : Nat)
abbrev MS.cells (m : MS) (a : MA) : List Value := [.int .i64 m.f.sets, .int .i64 m.f.games, .bool m.f.noAd, .int .i64 m.f.tie, .int .i64 m.f.to, .int .i64 m.f.ltie, .int .i64 m.f.lto, .int .i64 m.f.first, .int .i64 m.f.thn, .bool m.f.dbl,
 .slice a.sA m.st.length a.sc, .int .i64 m.g.1, .int .i64 m.g.2, .int .i64 m.p.1, .int .i64 m.p.2, .int .i64 m.server, .int .i64 m.ends, .int .i64 m.balls, .int .i64 m.winner, .int .i64 m.first, .int .i64 m.won.1, .int .i64 m.won.2, .slice a.tA m.ties.length a.tc, .slice a.gA m.gs.length a.gc]
abbrev MS.blk (m : MS) (a : MA) (b : Nat) : Ent := .blk b 136 (m.cells a)
abbrev MS.tiesE (m : MS) (a : MA) : Ent := .own a.tA a.tc 4 1 m.ties.length (encB m.ties)
abbrev MS.ents (m : MS) (a : MA) (b : Nat) : List Ent := [m.blk a b, .own a.sA a.sc 73 2 m.st.length (encP m.st), m.tiesE a, .own a.gA a.gc 229 7 m.gs.length (encG m.gs)]
def freshV (f : Fmt) (ties : List Bool) : Bool := !tieI ties ((ties.length : Int) - 1) && dueV f ((ties.length : Int) - 1) || decide (2 ≤ (ties.length : Int) - 1) && tieI ties ((ties.length : Int) - 1 - 2) && dueV f ((ties.length : Int) - 1 - 2)
def turnV (ties : List Bool) (pt : Int) : Int := bif tieI ties ((ties.length : Int) - 1) then (pt + 1) / 2 else 0
def servesV (f : Fmt) (first : Int) (ties : List Bool) (pt : Int) : Int :=
 bif !f.dbl then (first + ((ties.length : Int) - 1) + turnV ties pt) % 2 else
  (first + ((ties.length : Int) - 1) + turnV ties pt) % 2 + 2 * ((((ties.length : Int) - 1 + turnV ties pt % 2) / 2 + turnV ties pt / 2) % 2)
def tiesV (m : MS) : List Bool := m.ties ++ [brksV (setV m.f m.won) m.g]
def nextV (m : MS) : MS := bif decide (0 ≤ m.winner) then { m with server := -1 } else
 { m with ties := tiesV m, balls := bif freshV m.f (tiesV m) then m.balls + 1 else m.balls, server := servesV m.f m.first (tiesV m) 0 }
def begin0 (f : Fmt) (first : Int) : MS := ⟨f, first, [], (0, 0), (0, 0), (0, 0), 0, 0, 0, -1, [], []⟩
def beginV (f : Fmt) (first : Int) : MS := nextV (begin0 f first)
def MS.tie (m : MS) : Bool := tieI m.ties ((m.ties.length : Int) - 1)
def MS.w (m : MS) (side : Int) : Int := gameV m.f (setV m.f m.won) m.tie (addV m.p side)
def pointN (m : MS) (side : Int) : MS :=
 { m with p := addV m.p side, ends := bif m.tie && decide (((addV m.p side).1 + (addV m.p side).2) % 6 = 0) then m.ends + 1 else m.ends, server := servesV m.f m.first m.ties ((addV m.p side).1 + (addV m.p side).2) }
def gameG (m : MS) (side : Int) : Gm := ⟨m.st.length, m.tie, servesV m.f m.first m.ties 0, m.w side, addV m.p side, freshV m.f m.ties⟩
def setEnds (m : MS) (w : Int) : Bool := m.tie || decide (0 ≤ leadsV (addV m.g w) m.f.games 2)
def pointG (m : MS) (side : Int) : MS :=
 bif setEnds m (m.w side) then
  { m with gs := m.gs ++ [gameG m side], p := (0, 0), st := m.st ++ [addV m.g (m.w side)], g := (0, 0), won := addV m.won (m.w side), winner := bif decide (max (addV m.won (m.w side)).1 (addV m.won (m.w side)).2 = m.f.sets) then m.w side else m.winner }
 else { m with gs := m.gs ++ [gameG m side], p := (0, 0), g := addV m.g (m.w side) }
def pointE (m : MS) (side : Int) : MS :=
 { pointG m side with ends := bif decide (((addV m.g (m.w side)).1 + (addV m.g (m.w side)).2) % 2 = 1) && decide ((pointG m side).winner < 0) then m.ends + 1 else m.ends }
def pointV (m : MS) (side : Int) : MS := bif decide (m.w side < 0) then pointN m side else nextV (pointE m side)
structure MS.Bd (m : MS) (K : Int) : Prop where
 f : m.f.Ok
 fst : m.first = 0 ∨ m.first = 1
 k : 0 ≤ K ∧ K ≤ 1000
 t1 : 1 ≤ (m.ties.length : Int)
 t2 : (m.ties.length : Int) ≤ K + 1
 g : (0 ≤ m.g.1 ∧ m.g.1 ≤ K) ∧ 0 ≤ m.g.2 ∧ m.g.2 ≤ K
 p : (0 ≤ m.p.1 ∧ m.p.1 ≤ K) ∧ 0 ≤ m.p.2 ∧ m.p.2 ≤ K
 won : (0 ≤ m.won.1 ∧ m.won.1 ≤ K) ∧ 0 ≤ m.won.2 ∧ m.won.2 ≤ K
 e : 0 ≤ m.ends ∧ m.ends ≤ K
 b : 0 ≤ m.balls ∧ m.balls ≤ K + 1
 s : (m.st.length : Int) ≤ K
 gs : (m.gs.length : Int) ≤ K
end Go.Proofs.YthkliiifllhacaaGreat

namespace Go.Proofs.YthkliiifllhacaaGreat
open Go Go.RowKit

theorem T_number (m : MS) (a : MA) (b : Nat) (hb : 1 ≤ (m.ties.length : Int) ∧ (m.ties.length : Int) ≤ 100000) :
  Tr Tryz.prog 147 [.pointer (some ⟨b, 0, none⟩)] [m.blk a b] (fun _ : Unit => True) (fun _ => .int .i64 ((m.ties.length : Int) - 1)) (fun _ => [m.blk a b]) := by
 refine ⟨fun w0 w R hst => ?_⟩
 refine en Tryz.func147 Tryz.ntmps147 hst (h := fun F => ?_)
 refine sr ?_
 refine ww ?_
 refine nr ?_
 iterate 7 refine ww ?_
 refine nq ?_
 refine rtn ?_
 refine q_ret (hR := ?_)
 exact fun w hS => ⟨(), trivial, rfl, hS⟩

theorem T_fresh (m : MS) (a : MA) (b : Nat) (hf : m.f.Ok) (hb : 1 ≤ (m.ties.length : Int) ∧ (m.ties.length : Int) ≤ 100000) :
  Tr Tryz.prog 152 [.pointer (some ⟨b, 0, none⟩)] [m.blk a b, m.tiesE a] (fun _ : Unit => True) (fun _ => .bool (freshV m.f m.ties)) (fun _ => [m.blk a b, m.tiesE a]) := by
 refine ⟨fun w0 w R hst => ?_⟩
 have hk1 := encB_at (l := m.ties) (i := (m.ties.length : Int) - 1) (by omega)
 refine en Tryz.func152 Tryz.ntmps152 hst (h := fun F => ?_)
 refine sr ?_
 refine ww ?_
 refine nr ?_
 refine ww ?_
 refine clT (hc := T_number m a b hb) (h := fun _ _ => ?_)
 refine ww ?_
 refine nr ?_
 iterate 5 refine ww ?_
 refine wy ix ?_
 refine wy (ldE (hk := hk1)) ?_
 iterate 2 refine ww ?_
 apply brAnd 7 14 21 (by exact rfl)
 ·
  intro hb0
  iterate 5 refine uw ?_
  refine uz ?_
  refine cl0 (hc := fun w hS => C_rules_due _ _ (by assumption) (by omega) w) (h := ?_)
  refine ww ?_
  exact mg (by repeat (first | exact trivial | refine ⟨rfl, ?_⟩ | refine ⟨by rw [hb0]; rfl, ?_⟩)) slz_
 ·
  intro hb0
  repeat (first | refine uz ?_ | refine kz ?_ | refine wz ?_)
  exact mg (by repeat (first | exact trivial | refine ⟨rfl, ?_⟩ | refine ⟨by rw [hb0]; rfl, ?_⟩)) slz_
 refine ww ?_
 apply brOr 22 22 44 (by exact rfl)
 ·
  intro hb1
  iterate 3 refine uw ?_
  apply brAnd 9 25 34 (by exact rfl)
  ·
   intro hb2
   have hn2 : 2 ≤ (m.ties.length : Int) - 1 := by simpa using hb2
   have hk2 := encB_at (l := m.ties) (i := (m.ties.length : Int) - 1 - 2) (by omega)
   iterate 6 refine uw ?_
   refine uz ?_
   refine wy ix ?_
   refine uz ?_
   refine wy (ldE (hk := hk2)) ?_
   refine uw ?_
   exact mg (by repeat (first | exact trivial | refine ⟨rfl, ?_⟩ | refine ⟨by rw [hb2]; rfl, ?_⟩ | refine ⟨by rw [hb1]; rfl, ?_⟩)) slz_
  ·
   intro hb2
   repeat (first | refine uz ?_ | refine kz ?_ | refine wz ?_)
   exact mg (by repeat (first | exact trivial | refine ⟨rfl, ?_⟩ | refine ⟨by rw [hb2]; rfl, ?_⟩ | refine ⟨by rw [hb1]; rfl, ?_⟩)) slz_
  refine uw ?_
  apply brAnd 8 35 43 (by exact rfl)
  ·
   intro hb3
   have hn2 : 2 ≤ (m.ties.length : Int) - 1 := by simp only [Bool.and_eq_true, decide_eq_true_eq] at hb3; omega
   iterate 6 refine uw ?_
   refine uz ?_
   refine cl0 (hc := fun w hS => C_rules_due _ _ (by assumption) (by omega) w) (h := ?_)
   refine uw ?_
   exact mg (by repeat (first | exact trivial | refine ⟨rfl, ?_⟩ | refine ⟨by rw [hb3]; rfl, ?_⟩ | refine ⟨by rw [hb1]; rfl, ?_⟩)) slz_
  ·
   intro hb3
   repeat (first | refine uz ?_ | refine kz ?_ | refine wz ?_)
   exact mg (by repeat (first | exact trivial | refine ⟨rfl, ?_⟩ | refine ⟨by rw [hb3]; rfl, ?_⟩ | refine ⟨by rw [hb1]; rfl, ?_⟩)) slz_
  refine ww ?_
  exact mg (by repeat (first | exact trivial | refine ⟨rfl, ?_⟩ | refine ⟨by rw [hb1]; rfl, ?_⟩)) slz_
 ·
  intro hb1
  repeat (first | refine uz ?_ | refine kz ?_ | refine wz ?_)
  exact mg (by repeat (first | exact trivial | refine ⟨rfl, ?_⟩ | refine ⟨by rw [hb1]; rfl, ?_⟩)) slz_
 refine ww ?_
 refine nq ?_
 refine rtn ?_
 refine q_ret (hR := ?_)
 exact fun w hS => ⟨(), trivial, rfl, hS.sub slz_⟩

theorem T_serves (m : MS) (a : MA) (b : Nat) (pt : Int) (hf : 0 ≤ m.first ∧ m.first ≤ 1) (hp : 0 ≤ pt ∧ pt ≤ 100000) (hb : 1 ≤ (m.ties.length : Int) ∧ (m.ties.length : Int) ≤ 100000) :
  Tr Tryz.prog 151 [.pointer (some ⟨b, 0, none⟩), .int .i64 pt] [m.blk a b, m.tiesE a] (fun _ : Unit => True) (fun _ => .int .i64 (servesV m.f m.first m.ties pt)) (fun _ => [m.blk a b, m.tiesE a]) := by
 refine ⟨fun w0 w R hst => ?_⟩
 have hk1 := encB_at (l := m.ties) (i := (m.ties.length : Int) - 1) (by omega)
 refine en Tryz.func151 Tryz.ntmps151 hst (h := fun F => ?_)
 refine sr ?_
 refine ww ?_
 refine nr ?_
 refine ww ?_
 refine clT (hc := T_number m a b hb) (h := fun _ _ => ?_)
 iterate 2 refine ww ?_
 refine nq ?_
 refine sq ?_
 refine sr ?_
 iterate 5 refine ww ?_
 refine wy ix ?_
 refine wy (ldE (hk := hk1)) ?_
 refine nq ?_
 refine czz (fun h0 => ?_) fun h0 => ?_
 ·
  have ht : turnV m.ties pt = (pt + 1) / 2 := by rw [turnV, h0]; rfl
  refine rg ?_
  iterate 4 refine ww ?_
  refine nr ?_
  iterate 10 refine ww ?_
  refine nq ?_
  refine sq ?_
  refine sr ?_
  iterate 7 refine ww ?_
  refine nq ?_
  refine czz (fun h1 => ?_) fun h1 => ?_
  ·
   have hsv : servesV m.f m.first m.ties pt = (m.first + ((m.ties.length : Int) - 1) + turnV m.ties pt) % 2 := by rw [servesV, h1]; rfl
   refine sr ?_
   iterate 2 refine ww ?_
   refine nq ?_
   refine rtn ?_
   refine q_then_ret ?_
   refine q_ret (hR := ?_)
   rw [hsv, ht]
   exact fun w hS => ⟨(), trivial, rfl, hS.sub slz_⟩
  ·
   have hsv : servesV m.f m.first m.ties pt = (m.first + ((m.ties.length : Int) - 1) + turnV m.ties pt) % 2 + 2 * ((((m.ties.length : Int) - 1 + turnV m.ties pt % 2) / 2 + turnV m.ties pt / 2) % 2) := by rw [servesV, h1]; rfl
   refine skp ?_
   refine q_seq ?_
   refine sr ?_
   iterate 9 refine ww ?_
   refine nr ?_
   iterate 6 refine ww ?_
   refine nq ?_
   refine rtn ?_
   refine q_ret (hR := ?_)
   rw [hsv, ht]
   exact fun w hS => ⟨(), trivial, rfl, hS.sub slz_⟩
 ·
  have ht : turnV m.ties pt = 0 := by rw [turnV, h0]; rfl
  refine skp ?_
  refine q_seq ?_
  refine sr ?_
  iterate 10 refine ww ?_
  refine nq ?_
  refine sq ?_
  refine sr ?_
  iterate 7 refine ww ?_
  refine nq ?_
  refine czz (fun h2 => ?_) fun h2 => ?_
  ·
   have hsv : servesV m.f m.first m.ties pt = (m.first + ((m.ties.length : Int) - 1) + turnV m.ties pt) % 2 := by rw [servesV, h2]; rfl
   refine sr ?_
   iterate 2 refine ww ?_
   refine nq ?_
   refine rtn ?_
   refine q_then_ret ?_
   refine q_ret (hR := ?_)
   rw [hsv, ht]
   exact fun w hS => ⟨(), trivial, rfl, hS.sub slz_⟩
  ·
   have hsv : servesV m.f m.first m.ties pt = (m.first + ((m.ties.length : Int) - 1) + turnV m.ties pt) % 2 + 2 * ((((m.ties.length : Int) - 1 + turnV m.ties pt % 2) / 2 + turnV m.ties pt / 2) % 2) := by rw [servesV, h2]; rfl
   refine skp ?_
   refine q_seq ?_
   refine sr ?_
   iterate 9 refine ww ?_
   refine nr ?_
   iterate 6 refine ww ?_
   refine nq ?_
   refine rtn ?_
   refine q_ret (hR := ?_)
   rw [hsv, ht]
   exact fun w hS => ⟨(), trivial, rfl, hS.sub slz_⟩
end Go.Proofs.YthkliiifllhacaaGreat

namespace Go.Proofs.YthkliiifllhacaaGreat
open Go Go.RowKit

set_option maxRecDepth 100000 in
theorem T_next (m : MS) (a : MA) (b : Nat) (hf : m.f.Ok) (hfs : 0 ≤ m.first ∧ m.first ≤ 1) (ht : (m.ties.length : Int) ≤ 90000) (hbal : 0 ≤ m.balls ∧ m.balls ≤ 100000) :
  Tr Tryz.prog 145 [.pointer (some ⟨b, 0, none⟩)] (m.ents a b) (fun _ : MA => True) (fun _ => .tuple #[]) (fun a' => (nextV m).ents a' b) := by
 refine ⟨fun w0 w R hst => ?_⟩
 have hb1 : 1 ≤ ((tiesV m).length : Int) ∧ ((tiesV m).length : Int) ≤ 100000 := by
  have : (tiesV m).length = m.ties.length + 1 := by simp [tiesV]
  omega
 have hl : (tiesV m).length = m.ties.length + 1 := by simp [tiesV]
 have he : encB (tiesV m) = encB m.ties ++ [[.bool (brksV (setV m.f m.won) m.g)]] := (encB_app ..).symm
 refine en Tryz.func145 Tryz.ntmps145 hst (h := fun F => ?_)
 refine sq ?_
 refine sr ?_
 iterate 6 refine ww ?_
 refine nq ?_
 refine czz (fun h0 => ?_) fun h0 => ?_
 ·
  have hnx : nextV m = { m with server := -1 } := by rw [nextV, h0]; rfl
  refine sr ?_
  iterate 4 refine ww ?_
  first | refine st (h := ?_) | refine stE (h := ?_)
  refine nq ?_
  refine rtn ?_
  refine q_then_ret ?_
  refine q_ret (hR := ?_)
  rw [hnx]
  exact fun w hS => ⟨a, trivial, rfl, hS.sub slz_⟩
 ·
  have hw0 : decide (0 ≤ m.winner) = false := h0
  refine skp ?_
  refine q_seq ?_
  refine ct (X := Option Addr × Nat) (fun _ => True) (fun _ => [(0, .pointer (some ⟨b, 0, none⟩))]) (fun x => ({ m with ties := tiesV m } : MS).ents ⟨a.sA, x.1, a.gA, a.sc, x.2, a.gc⟩ b ++ R) (h1 := ?_) (h2 := ?_)
  ·
   refine rgD (by kernel_rfl) [(25, m.blk a b)] (by repeat (first | exact HS.nil | (apply HS.keep; (repeat (first | exact At.here | apply At.there))) | (apply HS.ro; (repeat (first | exact Rds.ro | exact Rds.own | apply Rds.there))))) (h := ?_)
   refine tw 0 ?_
   refine tw 1 ?_
   refine tw 2 ?_
   refine tw 3 ?_
   refine tw 4 ?_
   refine tw 5 ?_
   refine tw 6 ?_
   refine tw 7 ?_
   refine tw 8 ?_
   refine tw 9 ?_
   refine tw 10 ?_
   refine tw 11 ?_
   refine tw 12 ?_
   refine tw 14 ?_
   refine tw 15 ?_
   refine tw 16 ?_
   refine tw 17 ?_
   refine tw 18 ?_
   refine tw 19 ?_
   refine one 13 (h := ?_)
   refine cl0 (hc := fun w hS => C_rules_set _ _ (by assumption) w) (h := ?_)
   refine nx (h := ?_)
   refine one 20 (h := ?_)
   refine cl0 (hc := fun w hS => C_set_breaks _ _ w) (h := ?_)
   refine nx (h := ?_)
   refine one 21 (h := ?_)
   refine bs (h := fun b0 => ?_)
   refine nx (h := ?_)
   refine one 22 (h := ?_)
   first | refine ap (h := fun A1 c1 => ?_) | refine ap0 (h := fun A1 c1 => ?_)
   refine nx (h := ?_)
   refine tw 23 ?_
   refine tw 24 ?_
   refine one 25 (h := ?_)
   first | refine st (h := ?_) | refine stE (h := ?_)
   refine nx (h := ?_)
   refine dn (h := ?_)
   exact ctn ⟨_, _⟩ trivial sbz_ (by dsimp only [MS.ents, MS.blk, MS.cells, MS.tiesE]; rw [hl, he]; repeat (first | exact SubL.nil | (apply SubL.cons; (repeat (first | exact At.here | apply At.there))) | exact SubL.refl _ | apply SubL.skip))
  rintro ⟨A1, c1⟩ -
  dsimp only [MS.ents, MS.blk, MS.cells, MS.tiesE]
  refine sq ?_
  refine sr ?_
  refine ww ?_
  refine clT (hc := T_fresh { m with ties := tiesV m } ⟨a.sA, A1, a.gA, a.sc, c1, a.gc⟩ b hf hb1) (h := fun _ _ => ?_)
  dsimp only [MS.blk, MS.cells, MS.tiesE]
  refine nq ?_
  refine czz (fun h1 => ?_) fun h1 => ?_
  ·
   have hnx : nextV m = { m with ties := tiesV m, balls := m.balls + 1, server := servesV m.f m.first (tiesV m) 0 } := by rw [nextV, hw0, h1]; rfl
   refine rg ?_
   iterate 9 refine ww ?_
   first | refine st (h := ?_) | refine stE (h := ?_)
   refine nq ?_
   refine rg ?_
   iterate 2 refine ww ?_
   first
    | refine clT (hc := T_serves { m with ties := tiesV m, balls := m.balls + 1 } ⟨a.sA, A1, a.gA, a.sc, c1, a.gc⟩ b 0 hfs (by omega) hb1) (h := fun _ _ => ?_)
    | refine clT (hc := T_serves { m with ties := tiesV m } ⟨a.sA, A1, a.gA, a.sc, c1, a.gc⟩ b 0 hfs (by omega) hb1) (h := fun _ _ => ?_)
   iterate 3 refine ww ?_
   first | refine st (h := ?_) | refine stE (h := ?_)
   refine nl ?_
   refine q_end (hR := ?_)
   rw [hnx]
   exact fun w hS => ⟨⟨a.sA, A1, a.gA, a.sc, c1, a.gc⟩, trivial, rfl, hS.sub slz_⟩
  ·
   have hnx : nextV m = { m with ties := tiesV m, server := servesV m.f m.first (tiesV m) 0 } := by rw [nextV, hw0, h1]; rfl
   refine skp ?_
   refine q_seq ?_
   refine rg ?_
   iterate 2 refine ww ?_
   first
    | refine clT (hc := T_serves { m with ties := tiesV m, balls := m.balls + 1 } ⟨a.sA, A1, a.gA, a.sc, c1, a.gc⟩ b 0 hfs (by omega) hb1) (h := fun _ _ => ?_)
    | refine clT (hc := T_serves { m with ties := tiesV m } ⟨a.sA, A1, a.gA, a.sc, c1, a.gc⟩ b 0 hfs (by omega) hb1) (h := fun _ _ => ?_)
   iterate 3 refine ww ?_
   first | refine st (h := ?_) | refine stE (h := ?_)
   refine nl ?_
   refine q_end (hR := ?_)
   rw [hnx]
   exact fun w hS => ⟨⟨a.sA, A1, a.gA, a.sc, c1, a.gc⟩, trivial, rfl, hS.sub slz_⟩

set_option maxRecDepth 100000 in
theorem C_score_begin (f : Fmt) (first : Int) (hf : f.Ok) (hfs : 0 ≤ first ∧ first ≤ 1) (w : World) :
  CR Tryz.prog 99 [f.val, .int .i64 first] w (fun _ : Nat × MA => True) (fun x => .pointer (some ⟨x.1, 0, none⟩)) (fun x => (beginV f first).ents x.2 x.1) := by
 refine ⟨en Tryz.func99 Tryz.ntmps99 (St.init w) (h := fun F => ?_)⟩
 refine sr ?_
 refine bxA (h := fun b0 => ?_)
 refine ww ?_
 refine nr ?_
 iterate 3 refine ww ?_
 refine bxA (h := fun b1 => ?_)
 refine ww ?_
 refine nr ?_
 iterate 4 refine ww ?_
 first | refine st (h := ?_) | refine stE (h := ?_)
 refine nr ?_
 refine ww ?_
 refine WL.nilOwn 73 2 (h := ?_)
 refine WL.nilOwn 4 1 (h := ?_)
 refine WL.nilOwn 229 7 (h := ?_)
 refine clT (hc := T_next (begin0 f first) ⟨none, none, none, 0, 0, 0⟩ b1 hf hfs (by simp [begin0]) (by simp [begin0])) (h := fun x _ => ?_)
 refine nr ?_
 iterate 2 refine ww ?_
 refine nq ?_
 refine rtn ?_
 refine q_ret (hR := ?_)
 exact fun w hS => ⟨(b1, x), trivial, rfl, hS.sub slz_⟩
end Go.Proofs.YthkliiifllhacaaGreat

namespace Go.Proofs.YthkliiifllhacaaGreat
open Go Go.RowKit

theorem addV_bd {p : Pr} {K side : Int} (h : (0 ≤ p.1 ∧ p.1 ≤ K) ∧ 0 ≤ p.2 ∧ p.2 ≤ K) : (0 ≤ (addV p side).1 ∧ (addV p side).1 ≤ K + 1) ∧ 0 ≤ (addV p side).2 ∧ (addV p side).2 ≤ K + 1 := by
 unfold addV
 cases decide (side = 0) <;> simp only [cond_true, cond_false] <;> omega
theorem sm_of {p : Pr} {K : Int} (h : (0 ≤ p.1 ∧ p.1 ≤ K) ∧ 0 ≤ p.2 ∧ p.2 ≤ K) (hK : K ≤ 100000) : Sm p := ⟨by omega, by omega⟩

set_option maxRecDepth 100000 in
set_option maxHeartbeats 2000000 in
theorem T_point (m : MS) (a : MA) (b : Nat) (side K : Int) (hB : m.Bd K) :
  Tr Tryz.prog 100 [.pointer (some ⟨b, 0, none⟩), .int .i64 side] (m.ents a b) (fun _ : MA => True) (fun _ => .tuple #[]) (fun a' => (pointV m side).ents a' b) := by
 refine ⟨fun w0 w R hst => ?_⟩
 have hf := hB.f
 have hfs : 0 ≤ m.first ∧ m.first ≤ 1 := by have := hB.fst; omega
 have hK := hB.k
 have hb1 : 1 ≤ (m.ties.length : Int) ∧ (m.ties.length : Int) ≤ 100000 := ⟨hB.t1, by have := hB.t2; omega⟩
 have hb2 : (m.ties.length : Int) ≤ 90000 := by have := hB.t2; omega
 have hbb : 0 ≤ m.balls ∧ m.balls ≤ 100000 := by have := hB.b; omega
 have hbe := hB.e
 have hbs := hB.s
 have hbg := hB.gs
 have hSw := sm_of hB.won (by omega)
 have hSp := sm_of hB.p (by omega)
 have hSg := sm_of hB.g (by omega)
 have hp0 := addV_bd (side := side) hB.p
 have hg0 := addV_bd (side := m.w side) hB.g
 have hw0 := addV_bd (side := m.w side) hB.won
 have hSp' := sm_of hp0 (by omega)
 have hSg' := sm_of hg0 (by omega)
 have hk1 := encB_at (l := m.ties) (i := (m.ties.length : Int) - 1) (by omega)
 have hgl : (m.gs ++ [gameG m side]).length = m.gs.length + 1 := by simp
 have hge : encG (m.gs ++ [gameG m side]) = encG m.gs ++ [(gameG m side).enc] := (encG_app ..).symm
 have hsl : (m.st ++ [addV m.g (m.w side)]).length = m.st.length + 1 := by simp
 have hse' : encP (m.st ++ [addV m.g (m.w side)]) = encP m.st ++ [[.int .i64 (addV m.g (m.w side)).1, .int .i64 (addV m.g (m.w side)).2]] := (encP_app ..).symm
 refine en Tryz.func100 Tryz.ntmps100 hst (h := fun F => ?_)
 refine ct (X := Nat) (fun _ => True) (fun x => [(0, .pointer (some ⟨b, 0, none⟩)), (1, .int .i64 side), (4, .pointer (some ⟨x, 0, none⟩)), (5, .int .i64 ((m.ties.length : Int) - 1))]) (fun x => .blk x 232 [.int .i64 (setV m.f m.won).1, .int .i64 (setV m.f m.won).2] :: (m.ents a b ++ R)) (h1 := ?_) (h2 := ?_)
 ·
  refine rgD (by kernel_rfl) [(1000000, m.blk a b)] (by repeat (first | exact HS.nil | (apply HS.keep; (repeat (first | exact At.here | apply At.there))) | (apply HS.ro; (repeat (first | exact Rds.ro | exact Rds.own | apply Rds.there))))) (h := ?_)
  dsimp only [MS.ents, MS.blk, MS.cells, MS.tiesE]
  refine tw 0 ?_
  refine tw 1 ?_
  refine tw 2 ?_
  refine tw 3 ?_
  refine tw 4 ?_
  refine tw 5 ?_
  refine tw 6 ?_
  refine tw 7 ?_
  refine tw 9 ?_
  refine two 8 11 (h1 := ?_) (h2 := ?_)
  ·
   refine cl0 (hc := fun w hS => C_rules_set _ _ (by assumption) w) (h := ?_)
   refine nx (h := ?_)
   refine two 10 11 (h1 := ?_) (h2 := ?_)
   ·
    refine clT (hc := T_number m a b hb1) (h := fun _ _ => ?_)
    dsimp only [MS.ents, MS.blk, MS.cells, MS.tiesE]
    refine nx (h := ?_)
    refine one 11 (h := ?_)
    refine al (h := fun b0 => ?_)
    refine nx (h := ?_)
    refine one 12 (h := ?_)
    first | refine stA (h := ?_) | refine stEA (h := ?_)
    refine nx (h := ?_)
    refine tw 13 ?_
    refine dn (h := ?_)
    exact ctn _ trivial sbz_ slz_
   ·
    refine al (h := fun b1 => ?_)
    refine nx (h := ?_)
    refine one 10 (h := ?_)
    refine clT (hc := T_number m a b hb1) (h := fun _ _ => ?_)
    dsimp only [MS.ents, MS.blk, MS.cells, MS.tiesE]
    refine nx (h := ?_)
    refine one 12 (h := ?_)
    first | refine stA (h := ?_) | refine stEA (h := ?_)
    refine nx (h := ?_)
    refine tw 13 ?_
    refine dn (h := ?_)
    exact ctn _ trivial sbz_ slz_
  ·
   refine al (h := fun b2 => ?_)
   refine nx (h := ?_)
   refine one 8 (h := ?_)
   refine cl0 (hc := fun w hS => C_rules_set _ _ (by assumption) w) (h := ?_)
   refine nx (h := ?_)
   refine one 10 (h := ?_)
   refine clT (hc := T_number m a b hb1) (h := fun _ _ => ?_)
   dsimp only [MS.ents, MS.blk, MS.cells, MS.tiesE]
   refine nx (h := ?_)
   refine one 12 (h := ?_)
   first | refine stA (h := ?_) | refine stEA (h := ?_)
   refine nx (h := ?_)
   refine tw 13 ?_
   refine dn (h := ?_)
   exact ctn _ trivial sbz_ slz_
 rintro sB -
 dsimp only [MS.ents, MS.blk, MS.cells, MS.tiesE]
 refine sr ?_
 iterate 5 refine ww ?_
 refine wy ix ?_
 refine wy (ldE (hk := hk1)) ?_
 refine ww ?_
 refine nr ?_
 iterate 8 refine ww ?_
 refine cl0 (hc := fun w hS => C_score_add _ _ (by assumption) w) (h := ?_)
 iterate 4 refine ww ?_
 first | refine stA (h := ?_) | refine stEA (h := ?_)
 refine nr ?_
 iterate 6 refine ww ?_
 refine cl0 (hc := fun w hS => C_score_sum _ (by assumption) w) (h := ?_)
 refine ww ?_
 refine nq ?_
 refine sq ?_
 refine rgD (by kernel_rfl) [(1000000, ({ m with p := addV m.p side } : MS).blk a b), (1000000, .blk sB 232 [.int .i64 (setV m.f m.won).1, .int .i64 (setV m.f m.won).2])] (by repeat (first | exact HS.nil | (apply HS.keep; (repeat (first | exact At.here | apply At.there))) | (apply HS.ro; (repeat (first | exact Rds.ro | exact Rds.own | apply Rds.there))))) (h := ?_)
 dsimp only [MS.ents, MS.blk, MS.cells, MS.tiesE]
 refine tw 0 ?_
 refine tw 1 ?_
 refine tw 2 ?_
 refine tw 3 ?_
 refine tw 4 ?_
 refine tw 5 ?_
 refine tw 6 ?_
 refine tw 7 ?_
 refine tw 8 ?_
 refine tw 9 ?_
 refine tw 10 ?_
 refine tw 11 ?_
 refine one 12 (h := ?_)
 refine cl0 (hc := fun w hS => C_rules_game _ _ _ _ (by assumption) w) (h := ?_)
 refine nx (h := ?_)
 refine tw 13 ?_
 refine dn (h := ?_)
 refine q_seq ?_
 refine sq ?_
 refine sr ?_
 iterate 2 refine ww ?_
 refine nq ?_
 refine czz (fun h0 => ?_) fun h0 => ?_
 ·
  have hw : decide (m.w side < 0) = true := h0
  refine sq ?_
  refine sr ?_
  iterate 2 refine ww ?_
  apply brAnd 4 64 68 (by exact rfl)
  ·
   intro hb1
   iterate 3 refine uw ?_
   refine ww ?_
   exact mg (by repeat (first | exact trivial | refine ⟨rfl, ?_⟩ | refine ⟨by rw [hb1]; rfl, ?_⟩)) slz_
  ·
   intro hb1
   repeat (first | refine uz ?_ | refine kz ?_ | refine wz ?_)
   exact mg (by repeat (first | exact trivial | refine ⟨rfl, ?_⟩ | refine ⟨by rw [hb1]; rfl, ?_⟩)) slz_
  refine nq ?_
  refine czz (fun h2 => ?_) fun h2 => ?_
  ·
   have hpt : pointV m side = { m with p := addV m.p side, ends := m.ends + 1, server := servesV m.f m.first m.ties ((addV m.p side).1 + (addV m.p side).2) } := by
    have h' : (m.tie && decide (((addV m.p side).1 + (addV m.p side).2) % 6 = 0)) = true := h2
    rw [pointV, hw, cond_true, pointN, h']; rfl
   refine rg ?_
   iterate 9 refine ww ?_
   first | refine st (h := ?_) | refine stE (h := ?_)
   refine nr ?_
   iterate 3 refine ww ?_
   first
    | refine clT (hc := T_serves { m with p := addV m.p side, ends := m.ends + 1 } a b ((addV m.p side).1 + (addV m.p side).2) hfs (by omega) hb1) (h := fun _ _ => ?_)
    | refine clT (hc := T_serves { m with p := addV m.p side } a b ((addV m.p side).1 + (addV m.p side).2) hfs (by omega) hb1) (h := fun _ _ => ?_)
   dsimp only [MS.ents, MS.blk, MS.cells, MS.tiesE]
   iterate 3 refine ww ?_
   first | refine st (h := ?_) | refine stE (h := ?_)
   refine nq ?_
   refine rtn ?_
   refine q_then_ret ?_
   refine q_ret (hR := ?_)
   first
    | (rw [hpt]; exact fun w hS => ⟨a, trivial, rfl, hS.sub slz_⟩)
    | (rw [pointV, hw, cond_false, hE, hG]; exact fun w hS => ⟨a', trivial, rfl, hS.sub slz_⟩)
  ·
   have hpt : pointV m side = { m with p := addV m.p side, server := servesV m.f m.first m.ties ((addV m.p side).1 + (addV m.p side).2) } := by
    have h' : (m.tie && decide (((addV m.p side).1 + (addV m.p side).2) % 6 = 0)) = false := h2
    rw [pointV, hw, cond_true, pointN, h']; rfl
   refine skp ?_
   refine q_seq ?_
   refine sr ?_
   iterate 3 refine ww ?_
   first
    | refine clT (hc := T_serves { m with p := addV m.p side, ends := m.ends + 1 } a b ((addV m.p side).1 + (addV m.p side).2) hfs (by omega) hb1) (h := fun _ _ => ?_)
    | refine clT (hc := T_serves { m with p := addV m.p side } a b ((addV m.p side).1 + (addV m.p side).2) hfs (by omega) hb1) (h := fun _ _ => ?_)
   dsimp only [MS.ents, MS.blk, MS.cells, MS.tiesE]
   iterate 3 refine ww ?_
   first | refine st (h := ?_) | refine stE (h := ?_)
   refine nq ?_
   refine rtn ?_
   refine q_then_ret ?_
   refine q_ret (hR := ?_)
   first
    | (rw [hpt]; exact fun w hS => ⟨a, trivial, rfl, hS.sub slz_⟩)
    | (rw [pointV, hw, cond_false, hE, hG]; exact fun w hS => ⟨a', trivial, rfl, hS.sub slz_⟩)
 ·
  have hw : decide (m.w side < 0) = false := h0
  refine skp ?_
  refine q_seq ?_
  refine ct (X := Option Addr × Nat) (fun _ => True) (fun _ => [(0, .pointer (some ⟨b, 0, none⟩)), (6, .bool m.tie), (8, .int .i64 (m.w side))]) (fun x => ({ m with p := addV m.p side, gs := m.gs ++ [gameG m side] } : MS).ents ⟨a.sA, a.tA, x.1, a.sc, a.tc, x.2⟩ b ++ R) (h1 := ?_) (h2 := ?_)
  ·
   refine rgD (by kernel_rfl) [(29, ({ m with p := addV m.p side } : MS).blk a b)] (by repeat (first | exact HS.nil | (apply HS.keep; (repeat (first | exact At.here | apply At.there))) | (apply HS.ro; (repeat (first | exact Rds.ro | exact Rds.own | apply Rds.there))))) (h := ?_)
   dsimp only [MS.ents, MS.blk, MS.cells, MS.tiesE]
   refine tw 0 ?_
   refine tw 1 ?_
   refine tw 2 ?_
   refine tw 3 ?_
   refine tw 4 ?_
   refine tw 5 ?_
   refine tw 6 ?_
   refine tw 7 ?_
   refine tw 8 ?_
   refine tw 9 ?_
   refine tw 10 ?_
   refine tw 11 ?_
   refine tw 12 ?_
   refine tw 13 ?_
   refine tw 15 ?_
   refine tw 16 ?_
   refine tw 17 ?_
   refine tw 18 ?_
   refine tw 19 ?_
   refine tw 20 ?_
   refine tw 21 ?_
   refine tw 22 ?_
   refine one 14 (h := ?_)
   refine clT (hc := T_serves { m with p := addV m.p side } a b 0 hfs (by omega) hb1) (h := fun _ _ => ?_)
   dsimp only [MS.ents, MS.blk, MS.cells, MS.tiesE]
   refine nx (h := ?_)
   refine one 23 (h := ?_)
   refine clT (hc := T_fresh { m with p := addV m.p side } a b hf hb1) (h := fun _ _ => ?_)
   dsimp only [MS.ents, MS.blk, MS.cells, MS.tiesE]
   refine nx (h := ?_)
   refine tw 24 ?_
   refine one 25 (h := ?_)
   refine bs (h := fun b3 => ?_)
   refine nx (h := ?_)
   refine one 26 (h := ?_)
   first | refine ap (h := fun A1 c1 => ?_) | refine ap0 (h := fun A1 c1 => ?_)
   refine nx (h := ?_)
   refine tw 27 ?_
   refine tw 28 ?_
   refine one 29 (h := ?_)
   first | refine st (h := ?_) | refine stE (h := ?_)
   refine nx (h := ?_)
   refine dn (h := ?_)
   exact ctn ⟨_, _⟩ trivial sbz_ (by dsimp only [MS.ents, MS.blk, MS.cells, MS.tiesE]; rw [hgl, hge]; repeat (first | exact SubL.nil | (apply SubL.cons; (repeat (first | exact At.here | apply At.there))) | exact SubL.refl _ | apply SubL.skip))
  rintro ⟨gA1, gc1⟩ -
  dsimp only [MS.ents, MS.blk, MS.cells, MS.tiesE]
  refine sr ?_
  iterate 6 refine ww ?_
  first | refine stA (h := ?_) | refine stEA (h := ?_)
  refine nr ?_
  iterate 7 refine ww ?_
  refine cl0 (hc := fun w hS => C_score_add _ _ (by assumption) w) (h := ?_)
  refine al (h := fun b4 => ?_)
  first | refine stA (h := ?_) | refine stEA (h := ?_)
  refine nr ?_
  iterate 6 refine ww ?_
  first | refine stA (h := ?_) | refine stEA (h := ?_)
  refine nq ?_
  refine sq ?_
  refine ct1 145 (v := .bool (setEnds m (m.w side))) (h1 := ?_) (h2 := ?_)
  ·
   refine rgD (by kernel_rfl) [(1000000, ({ m with p := (0, 0), g := addV m.g (m.w side), gs := m.gs ++ [gameG m side] } : MS).blk ⟨a.sA, a.tA, gA1, a.sc, a.tc, gc1⟩ b), (1000000, .blk b4 73 [.int .i64 (addV m.g (m.w side)).1, .int .i64 (addV m.g (m.w side)).2])] (by repeat (first | exact HS.nil | (apply HS.keep; (repeat (first | exact At.here | apply At.there))) | (apply HS.ro; (repeat (first | exact Rds.ro | exact Rds.own | apply Rds.there))))) (h := ?_)
   dsimp only [MS.ents, MS.blk, MS.cells, MS.tiesE]
   refine tw 0 ?_
   refine tw 1 ?_
   refine brH (g := 135) (by exact rfl) (fun hb3 => ?_) (fun hb3 => ?_)
   ·
    refine tkS 2 (h := ?_)
    refine tkS 3 (h := ?_)
    refine tkS 4 (h := ?_)
    refine tkS 5 (h := ?_)
    refine tkS 6 (h := ?_)
    refine tkS 7 (h := ?_)
    refine tkS 8 (h := ?_)
    refine tkS 9 (h := ?_)
    refine tkS 10 (h := ?_)
    refine tw 11 ?_
    refine dn (h := ?_)
    exact ct1n (by repeat (first | exact trivial | refine ⟨rfl, ?_⟩ | refine ⟨by rw [setEnds, ‹m.tie = true›]; rfl, ?_⟩ | refine ⟨by rw [setEnds, ‹m.tie = false›]; rfl, ?_⟩)) slz_
   ·
    refine tw 2 ?_
    refine tw 3 ?_
    refine tw 4 ?_
    refine tw 5 ?_
    refine tw 6 ?_
    refine tw 7 ?_
    refine tw 8 ?_
    refine one 9 (h := ?_)
    refine uz ?_
    refine cl0 (hc := fun w hS => C_score_leads _ _ _ (by assumption) w) (h := ?_)
    refine nx (h := ?_)
    refine tw 10 ?_
    refine tw 11 ?_
    refine dn (h := ?_)
    exact ct1n (by repeat (first | exact trivial | refine ⟨rfl, ?_⟩ | refine ⟨by rw [setEnds, ‹m.tie = true›]; rfl, ?_⟩ | refine ⟨by rw [setEnds, ‹m.tie = false›]; rfl, ?_⟩)) slz_
  refine czz (fun h4 => ?_) fun h4 => ?_
  ·
   have hse : setEnds m (m.w side) = true := h4
   refine ct (X := Option Addr × Nat) (fun _ => True) (fun _ => [(0, .pointer (some ⟨b, 0, none⟩)), (8, .int .i64 (m.w side)), (9, .pointer (some ⟨b4, 0, none⟩))]) (fun x => .blk b4 73 [.int .i64 (addV m.g (m.w side)).1, .int .i64 (addV m.g (m.w side)).2] :: (({ m with p := (0, 0), g := addV m.g (m.w side), gs := m.gs ++ [gameG m side], st := m.st ++ [addV m.g (m.w side)] } : MS).ents ⟨x.1, a.tA, gA1, x.2, a.tc, gc1⟩ b ++ R)) (h1 := ?_) (h2 := ?_)
   ·
    refine rgD (by kernel_rfl) [(14, ({ m with p := (0, 0), g := addV m.g (m.w side), gs := m.gs ++ [gameG m side] } : MS).blk ⟨a.sA, a.tA, gA1, a.sc, a.tc, gc1⟩ b), (1000000, .blk b4 73 [.int .i64 (addV m.g (m.w side)).1, .int .i64 (addV m.g (m.w side)).2])] (by repeat (first | exact HS.nil | (apply HS.keep; (repeat (first | exact At.here | apply At.there))) | (apply HS.ro; (repeat (first | exact Rds.ro | exact Rds.own | apply Rds.there))))) (h := ?_)
    dsimp only [MS.ents, MS.blk, MS.cells, MS.tiesE]
    refine tw 0 ?_
    refine tw 1 ?_
    refine tw 2 ?_
    refine tw 3 ?_
    refine tw 4 ?_
    refine tw 5 ?_
    refine tw 6 ?_
    refine tw 7 ?_
    refine one 8 (h := ?_)
    refine bs (h := fun b5 => ?_)
    refine nx (h := ?_)
    refine one 9 (h := ?_)
    first | refine ap (h := fun A2 c2 => ?_) | refine ap0 (h := fun A2 c2 => ?_)
    refine nx (h := ?_)
    refine tw 10 ?_
    refine tw 11 ?_
    refine tw 12 ?_
    refine tw 13 ?_
    refine one 14 (h := ?_)
    first | refine st (h := ?_) | refine stE (h := ?_)
    refine nx (h := ?_)
    refine dn (h := ?_)
    exact ctn ⟨_, _⟩ trivial sbz_ (by dsimp only [MS.ents, MS.blk, MS.cells, MS.tiesE]; rw [hsl, hse']; repeat (first | exact SubL.nil | (apply SubL.cons; (repeat (first | exact At.here | apply At.there))) | exact SubL.refl _ | apply SubL.skip))
   rintro ⟨sA1, sc1⟩ -
   dsimp only [MS.ents, MS.blk, MS.cells, MS.tiesE]
   refine sr ?_
   iterate 6 refine ww ?_
   first | refine stA (h := ?_) | refine stEA (h := ?_)
   refine nr ?_
   iterate 6 refine ww ?_
   refine cl0 (hc := fun w hS => C_score_add _ _ (by assumption) w) (h := ?_)
   iterate 2 refine ww ?_
   first | refine stA (h := ?_) | refine stEA (h := ?_)
   refine nq ?_
   refine sq ?_
   refine rgD (by kernel_rfl) [(1000000, ({ m with p := (0, 0), g := (0, 0), gs := m.gs ++ [gameG m side], st := m.st ++ [addV m.g (m.w side)], won := addV m.won (m.w side) } : MS).blk ⟨sA1, a.tA, gA1, sc1, a.tc, gc1⟩ b)] (by repeat (first | exact HS.nil | (apply HS.keep; (repeat (first | exact At.here | apply At.there))) | (apply HS.ro; (repeat (first | exact Rds.ro | exact Rds.own | apply Rds.there))))) (h := ?_)
   dsimp only [MS.ents, MS.blk, MS.cells, MS.tiesE]
   refine tw 0 ?_
   refine tw 1 ?_
   refine tw 2 ?_
   refine tw 3 ?_
   refine tw 4 ?_
   refine tw 5 ?_
   refine tw 6 ?_
   refine tw 7 ?_
   refine tw 8 ?_
   refine tw 9 ?_
   refine tw 10 ?_
   refine tw 11 ?_
   refine tw 12 ?_
   refine tw 13 ?_
   refine tw 14 ?_
   refine tw 15 ?_
   refine tw 16 ?_
   refine tw 17 ?_
   refine dn (h := ?_)
   refine q_seq ?_
   refine czz (fun h5 => ?_) fun h5 => ?_
   ·
    have hG : pointG m side = { m with gs := m.gs ++ [gameG m side], p := (0, 0), st := m.st ++ [addV m.g (m.w side)], g := (0, 0), won := addV m.won (m.w side), winner := m.w side } := by rw [pointG, hse, h5]; rfl
    refine rg ?_
    iterate 5 refine ww ?_
    first | refine st (h := ?_) | refine stE (h := ?_)
    refine nq ?_
    refine sq ?_
    refine sr ?_
    refine ww ?_
    refine cl0 (hc := fun w hS => C_score_sum _ (by assumption) w) (h := ?_)
    iterate 3 refine ww ?_
    apply brAnd 7 202 209 (by exact rfl)
    ·
     intro hb6
     iterate 6 refine uw ?_
     refine ww ?_
     exact mg (by repeat (first | exact trivial | refine ⟨rfl, ?_⟩ | refine ⟨by rw [hb6]; rfl, ?_⟩)) slz_
    ·
     intro hb6
     repeat (first | refine uz ?_ | refine kz ?_ | refine wz ?_)
     exact mg (by repeat (first | exact trivial | refine ⟨rfl, ?_⟩ | refine ⟨by rw [hb6]; rfl, ?_⟩)) slz_
    refine nq ?_
    refine czz (fun h7 => ?_) fun h7 => ?_
    ·
     have hE : pointE m side = { pointG m side with ends := m.ends + 1 } := by rw [pointE, hG]; dsimp only; rw [h7]; rfl
     refine rg ?_
     iterate 9 refine ww ?_
     first | refine st (h := ?_) | refine stE (h := ?_)
     refine nq ?_
     refine rg ?_
     refine ww ?_
     first
      | refine clT (hc := T_next ⟨m.f, m.first, m.st ++ [addV m.g (m.w side)], (0, 0), (0, 0), addV m.won (m.w side), m.server, _, m.balls, _, m.ties, m.gs ++ [gameG m side]⟩ ⟨sA1, a.tA, gA1, sc1, a.tc, gc1⟩ b hf hfs hb2 hbb) (h := fun a' _ => ?_)
      | refine clT (hc := T_next ⟨m.f, m.first, m.st, addV m.g (m.w side), (0, 0), m.won, m.server, _, m.balls, _, m.ties, m.gs ++ [gameG m side]⟩ ⟨a.sA, a.tA, gA1, a.sc, a.tc, gc1⟩ b hf hfs hb2 hbb) (h := fun a' _ => ?_)
     refine nl ?_
     refine q_end (hR := ?_)
     first
      | (rw [hpt]; exact fun w hS => ⟨a, trivial, rfl, hS.sub slz_⟩)
      | (rw [pointV, hw, cond_false, hE, hG]; exact fun w hS => ⟨a', trivial, rfl, hS.sub slz_⟩)
    ·
     have hE : pointE m side = pointG m side := by rw [pointE, hG]; dsimp only; rw [h7]; rfl
     refine skp ?_
     refine q_seq ?_
     refine rg ?_
     refine ww ?_
     first
      | refine clT (hc := T_next ⟨m.f, m.first, m.st ++ [addV m.g (m.w side)], (0, 0), (0, 0), addV m.won (m.w side), m.server, _, m.balls, _, m.ties, m.gs ++ [gameG m side]⟩ ⟨sA1, a.tA, gA1, sc1, a.tc, gc1⟩ b hf hfs hb2 hbb) (h := fun a' _ => ?_)
      | refine clT (hc := T_next ⟨m.f, m.first, m.st, addV m.g (m.w side), (0, 0), m.won, m.server, _, m.balls, _, m.ties, m.gs ++ [gameG m side]⟩ ⟨a.sA, a.tA, gA1, a.sc, a.tc, gc1⟩ b hf hfs hb2 hbb) (h := fun a' _ => ?_)
     refine nl ?_
     refine q_end (hR := ?_)
     first
      | (rw [hpt]; exact fun w hS => ⟨a, trivial, rfl, hS.sub slz_⟩)
      | (rw [pointV, hw, cond_false, hE, hG]; exact fun w hS => ⟨a', trivial, rfl, hS.sub slz_⟩)
   ·
    have hG : pointG m side = { m with gs := m.gs ++ [gameG m side], p := (0, 0), st := m.st ++ [addV m.g (m.w side)], g := (0, 0), won := addV m.won (m.w side) } := by rw [pointG, hse, h5]; rfl
    refine skp ?_
    refine q_seq ?_
    refine sq ?_
    refine sr ?_
    refine ww ?_
    refine cl0 (hc := fun w hS => C_score_sum _ (by assumption) w) (h := ?_)
    iterate 3 refine ww ?_
    apply brAnd 7 202 209 (by exact rfl)
    ·
     intro hb8
     iterate 6 refine uw ?_
     refine ww ?_
     exact mg (by repeat (first | exact trivial | refine ⟨rfl, ?_⟩ | refine ⟨by rw [hb8]; rfl, ?_⟩)) slz_
    ·
     intro hb8
     repeat (first | refine uz ?_ | refine kz ?_ | refine wz ?_)
     exact mg (by repeat (first | exact trivial | refine ⟨rfl, ?_⟩ | refine ⟨by rw [hb8]; rfl, ?_⟩)) slz_
    refine nq ?_
    refine czz (fun h9 => ?_) fun h9 => ?_
    ·
     have hE : pointE m side = { pointG m side with ends := m.ends + 1 } := by rw [pointE, hG]; dsimp only; rw [h9]; rfl
     refine rg ?_
     iterate 9 refine ww ?_
     first | refine st (h := ?_) | refine stE (h := ?_)
     refine nq ?_
     refine rg ?_
     refine ww ?_
     first
      | refine clT (hc := T_next ⟨m.f, m.first, m.st ++ [addV m.g (m.w side)], (0, 0), (0, 0), addV m.won (m.w side), m.server, _, m.balls, _, m.ties, m.gs ++ [gameG m side]⟩ ⟨sA1, a.tA, gA1, sc1, a.tc, gc1⟩ b hf hfs hb2 hbb) (h := fun a' _ => ?_)
      | refine clT (hc := T_next ⟨m.f, m.first, m.st, addV m.g (m.w side), (0, 0), m.won, m.server, _, m.balls, _, m.ties, m.gs ++ [gameG m side]⟩ ⟨a.sA, a.tA, gA1, a.sc, a.tc, gc1⟩ b hf hfs hb2 hbb) (h := fun a' _ => ?_)
     refine nl ?_
     refine q_end (hR := ?_)
     first
      | (rw [hpt]; exact fun w hS => ⟨a, trivial, rfl, hS.sub slz_⟩)
      | (rw [pointV, hw, cond_false, hE, hG]; exact fun w hS => ⟨a', trivial, rfl, hS.sub slz_⟩)
    ·
     have hE : pointE m side = pointG m side := by rw [pointE, hG]; dsimp only; rw [h9]; rfl
     refine skp ?_
     refine q_seq ?_
     refine rg ?_
     refine ww ?_
     first
      | refine clT (hc := T_next ⟨m.f, m.first, m.st ++ [addV m.g (m.w side)], (0, 0), (0, 0), addV m.won (m.w side), m.server, _, m.balls, _, m.ties, m.gs ++ [gameG m side]⟩ ⟨sA1, a.tA, gA1, sc1, a.tc, gc1⟩ b hf hfs hb2 hbb) (h := fun a' _ => ?_)
      | refine clT (hc := T_next ⟨m.f, m.first, m.st, addV m.g (m.w side), (0, 0), m.won, m.server, _, m.balls, _, m.ties, m.gs ++ [gameG m side]⟩ ⟨a.sA, a.tA, gA1, a.sc, a.tc, gc1⟩ b hf hfs hb2 hbb) (h := fun a' _ => ?_)
     refine nl ?_
     refine q_end (hR := ?_)
     first
      | (rw [hpt]; exact fun w hS => ⟨a, trivial, rfl, hS.sub slz_⟩)
      | (rw [pointV, hw, cond_false, hE, hG]; exact fun w hS => ⟨a', trivial, rfl, hS.sub slz_⟩)
  ·
   have hse : setEnds m (m.w side) = false := h4
   have hG : pointG m side = { m with gs := m.gs ++ [gameG m side], p := (0, 0), g := addV m.g (m.w side) } := by rw [pointG, hse]; rfl
   refine skp ?_
   refine q_seq ?_
   refine sq ?_
   refine sr ?_
   refine ww ?_
   refine cl0 (hc := fun w hS => C_score_sum _ (by assumption) w) (h := ?_)
   iterate 3 refine ww ?_
   apply brAnd 7 202 209 (by exact rfl)
   ·
    intro hb10
    iterate 6 refine uw ?_
    refine ww ?_
    exact mg (by repeat (first | exact trivial | refine ⟨rfl, ?_⟩ | refine ⟨by rw [hb10]; rfl, ?_⟩)) slz_
   ·
    intro hb10
    repeat (first | refine uz ?_ | refine kz ?_ | refine wz ?_)
    exact mg (by repeat (first | exact trivial | refine ⟨rfl, ?_⟩ | refine ⟨by rw [hb10]; rfl, ?_⟩)) slz_
   refine nq ?_
   refine czz (fun h11 => ?_) fun h11 => ?_
   ·
    have hE : pointE m side = { pointG m side with ends := m.ends + 1 } := by rw [pointE, hG]; dsimp only; rw [h11]; rfl
    refine rg ?_
    iterate 9 refine ww ?_
    first | refine st (h := ?_) | refine stE (h := ?_)
    refine nq ?_
    refine rg ?_
    refine ww ?_
    first
     | refine clT (hc := T_next ⟨m.f, m.first, m.st ++ [addV m.g (m.w side)], (0, 0), (0, 0), addV m.won (m.w side), m.server, _, m.balls, _, m.ties, m.gs ++ [gameG m side]⟩ ⟨sA1, a.tA, gA1, sc1, a.tc, gc1⟩ b hf hfs hb2 hbb) (h := fun a' _ => ?_)
     | refine clT (hc := T_next ⟨m.f, m.first, m.st, addV m.g (m.w side), (0, 0), m.won, m.server, _, m.balls, _, m.ties, m.gs ++ [gameG m side]⟩ ⟨a.sA, a.tA, gA1, a.sc, a.tc, gc1⟩ b hf hfs hb2 hbb) (h := fun a' _ => ?_)
    refine nl ?_
    refine q_end (hR := ?_)
    first
     | (rw [hpt]; exact fun w hS => ⟨a, trivial, rfl, hS.sub slz_⟩)
     | (rw [pointV, hw, cond_false, hE, hG]; exact fun w hS => ⟨a', trivial, rfl, hS.sub slz_⟩)
   ·
    have hE : pointE m side = pointG m side := by rw [pointE, hG]; dsimp only; rw [h11]; rfl
    refine skp ?_
    refine q_seq ?_
    refine rg ?_
    refine ww ?_
    first
     | refine clT (hc := T_next ⟨m.f, m.first, m.st ++ [addV m.g (m.w side)], (0, 0), (0, 0), addV m.won (m.w side), m.server, _, m.balls, _, m.ties, m.gs ++ [gameG m side]⟩ ⟨sA1, a.tA, gA1, sc1, a.tc, gc1⟩ b hf hfs hb2 hbb) (h := fun a' _ => ?_)
     | refine clT (hc := T_next ⟨m.f, m.first, m.st, addV m.g (m.w side), (0, 0), m.won, m.server, _, m.balls, _, m.ties, m.gs ++ [gameG m side]⟩ ⟨a.sA, a.tA, gA1, a.sc, a.tc, gc1⟩ b hf hfs hb2 hbb) (h := fun a' _ => ?_)
    refine nl ?_
    refine q_end (hR := ?_)
    first
     | (rw [hpt]; exact fun w hS => ⟨a, trivial, rfl, hS.sub slz_⟩)
     | (rw [pointV, hw, cond_false, hE, hG]; exact fun w hS => ⟨a', trivial, rfl, hS.sub slz_⟩)
end Go.Proofs.YthkliiifllhacaaGreat

namespace Go.Proofs.YthkliiifllhacaaGreat
open Go Go.RowKit

def sideBad (s : Int) : Bool := !decide (s = 0) && !decide (s = 1)
def playTo (f : Fmt) (first : Int) (xs : List Int) : Nat → Option MS
 | 0 => some (beginV f first)
 | k + 1 => match playTo f first xs k, xs[k]? with
  | some m, some s => bif sideBad s || decide (0 ≤ m.winner) then none else some (pointV m s)
  | _, _ => none
def preE (f : Fmt) (first : Int) (n : Nat) : Int := bif !decide (chkF f = 0) then chkF f else bif sideBad first then 1 else bif decide ((600 : Int) < n) then 2 else 0
def playO (f : Fmt) (first : Int) (xs : List Int) : Option MS := bif !decide (preE f first xs.length = 0) then none else playTo f first xs xs.length
def playE (f : Fmt) (first : Int) (xs : List Int) : Int := bif !decide (preE f first xs.length = 0) then preE f first xs.length else match playTo f first xs xs.length with | some _ => 0 | none => 11
theorem playTo_succ {f : Fmt} {first : Int} {xs : List Int} {k : Nat} {m : MS} {s : Int} (h : playTo f first xs k = some m) (hs : xs[k]? = some s) : playTo f first xs (k + 1) = bif sideBad s || decide (0 ≤ m.winner) then none else some (pointV m s) := by rw [playTo, h, hs]
theorem playTo_none {f : Fmt} {first : Int} {xs : List Int} {j : Nat} (h : playTo f first xs j = none) : ∀ {k : Nat}, j ≤ k → playTo f first xs k = none
  | 0, hk => by obtain rfl : j = 0 := by omega
                exact h
  | k + 1, hk => by
    by_cases e : j = k + 1
    · subst e; exact h
    · rw [playTo, playTo_none h (k := k) (by omega)]
theorem chkF_ok {f : Fmt} (h : (!decide (chkF f = 0)) = false) : f.Ok := by
 cases hb : fmtOk f
 ·
  simp [chkF, hb] at h
 ·
  exact fmt_ok hb
theorem side_ok {s : Int} (h : sideBad s = false) : s = 0 ∨ s = 1 := by
 simp only [sideBad, Bool.and_eq_false_iff, Bool.not_eq_false', decide_eq_true_eq] at h
 exact h

theorem nextV_bd {m : MS} {K : Int} (hf : m.f.Ok) (hfs : m.first = 0 ∨ m.first = 1) (hk : 0 ≤ K ∧ K ≤ 1000) (ht : (m.ties.length : Int) ≤ K) (ht1 : 0 ≤ m.winner → 1 ≤ (m.ties.length : Int))
  (hg : (0 ≤ m.g.1 ∧ m.g.1 ≤ K) ∧ 0 ≤ m.g.2 ∧ m.g.2 ≤ K) (hp : (0 ≤ m.p.1 ∧ m.p.1 ≤ K) ∧ 0 ≤ m.p.2 ∧ m.p.2 ≤ K) (hw : (0 ≤ m.won.1 ∧ m.won.1 ≤ K) ∧ 0 ≤ m.won.2 ∧ m.won.2 ≤ K) (he : 0 ≤ m.ends ∧ m.ends ≤ K) (hb : 0 ≤ m.balls ∧ m.balls ≤ K) (hs : (m.st.length : Int) ≤ K) (hgs : (m.gs.length : Int) ≤ K) : (nextV m).Bd K := by
 unfold nextV
 cases hd : decide (0 ≤ m.winner)
 ·
  have hl : ((tiesV m).length : Int) = m.ties.length + 1 := by simp [tiesV]
  refine ⟨hf, hfs, hk, ?_, ?_, hg, hp, hw, he, ?_, hs, hgs⟩
  ·
   simp only [cond_false]; omega
  ·
   simp only [cond_false]; omega
  ·
   simp only [cond_false]
   cases freshV m.f (tiesV m) <;> simp only [cond_true, cond_false] <;> omega
 ·
  have h1 := ht1 (by simpa using hd)
  refine ⟨hf, hfs, hk, h1, ?_, hg, hp, hw, he, ?_, hs, hgs⟩
  ·
   simp only [cond_true]; omega
  ·
   simp only [cond_true]; omega
theorem beginV_bd {f : Fmt} {first : Int} (hf : f.Ok) (h1 : first = 0 ∨ first = 1) : (beginV f first).Bd 0 :=
 nextV_bd hf h1 (by omega) (by simp [begin0]) (by simp [begin0]) (by simp [begin0]) (by simp [begin0]) (by simp [begin0]) (by simp [begin0]) (by simp [begin0]) (by simp [begin0]) (by simp [begin0])
theorem pointV_bd {m : MS} {K side : Int} (h : m.Bd K) (hK : K < 1000) : (pointV m side).Bd (K + 1) := by
 obtain ⟨hf, hfs, hk, ht1, ht2, hg, hp, hw, he, hb, hs, hgs⟩ := h
 have hp' := addV_bd (side := side) hp
 have hg' := addV_bd (side := m.w side) hg
 have hw' := addV_bd (side := m.w side) hw
 unfold pointV
 cases hd : decide (m.w side < 0)
 ·
  simp only [cond_false]
  have hz : (0 ≤ (0 : Int) ∧ (0 : Int) ≤ K + 1) ∧ (0 : Int) ≤ 0 ∧ (0 : Int) ≤ K + 1 := by omega
  have hends : ∀ c : Bool, 0 ≤ (bif c then m.ends + 1 else m.ends) ∧ (bif c then m.ends + 1 else m.ends) ≤ K + 1 := fun c => by cases c <;> simp only [cond_true, cond_false] <;> omega
  have hl : ((m.gs ++ [gameG m side]).length : Int) ≤ K + 1 := by simp; omega
  have hl2 : ((m.st ++ [addV m.g (m.w side)]).length : Int) ≤ K + 1 := by simp; omega
  unfold pointE pointG
  cases setEnds m (m.w side)
  ·
   simp only [cond_false]
   exact nextV_bd hf hfs (by omega) (by dsimp only; omega) (fun _ => ht1) hg' hz (by dsimp only; omega) (hends _) (by dsimp only; omega) (by dsimp only; omega) hl
  ·
   simp only [cond_true]
   exact nextV_bd hf hfs (by omega) (by dsimp only; omega) (fun _ => ht1) hz hz hw' (hends _) (by dsimp only; omega) hl2 hl
 ·
  simp only [cond_true, pointN]
  refine ⟨hf, hfs, by omega, ht1, by dsimp only; omega, by dsimp only; omega, hp', by dsimp only; omega, ?_, by dsimp only; omega, by dsimp only; omega, by dsimp only; omega⟩
  dsimp only
  cases m.tie && decide (((addV m.p side).1 + (addV m.p side).2) % 6 = 0) <;> simp only [cond_true, cond_false] <;> omega
structure PZ where
 (k : Nat) (m : MS) (a : MA)

set_option maxRecDepth 100000 in
theorem C_play_none (f : Fmt) (first : Int) (xs : List Int) (A : Option Addr) (n c : Nat) (w : World) (h : Rd w A 1 n (encI xs)) (hn : n ≤ 9223372036854775807) (hO : playO f first xs = none) :
  C0 Tryz.prog 52 [f.val, .int .i64 first, .slice A n c] w (.tuple #[.pointer none, .int .i64 (playE f first xs)]) := by
 have hlen : xs.length = n := by have := h.len; rwa [encI_len] at this
 refine ⟨en Tryz.func52 Tryz.ntmps52 ((St.init w).share (e := .ro A 1 n (encI xs)) h rfl rfl rfl) (h := fun F => ?_)⟩
 refine sr ?_
 refine bxA (h := fun b0 => ?_)
 iterate 2 refine ww ?_
 refine nq ?_
 refine sq ?_
 refine sr ?_
 refine ww ?_
 refine cl0 (hc := fun w hS => C_score_Check _ w) (h := ?_)
 refine ww ?_
 refine nr ?_
 iterate 2 refine ww ?_
 refine nq ?_
 refine czz (fun h0 => ?_) fun h0 => ?_
 ·
  have hE : playE f first xs = chkF f := by simp only [playE, preE, h0, cond_true]
  refine sr ?_
  iterate 3 refine ww ?_
  refine nq ?_
  refine rtn ?_
  refine q_then_ret ?_
  refine q_ret (hR := ?_)
  rw [hE]
  exact fun w hS => ⟨rfl, hS.sub slz_⟩
 ·
  have hf := chkF_ok h0
  have hc0 : (!decide (chkF f = 0)) = false := h0
  refine skp ?_
  refine q_seq ?_
  refine sq ?_
  refine sr ?_
  iterate 3 refine ww ?_
  apply brAnd 3 19 22 (by exact rfl)
  ·
   intro hb1
   iterate 2 refine uw ?_
   refine ww ?_
   exact mg (by repeat (first | exact trivial | refine ⟨rfl, ?_⟩ | refine ⟨by rw [hb1]; rfl, ?_⟩)) slz_
  ·
   intro hb1
   repeat (first | refine uz ?_ | refine kz ?_ | refine wz ?_)
   exact mg (by repeat (first | exact trivial | refine ⟨rfl, ?_⟩ | refine ⟨by rw [hb1]; rfl, ?_⟩)) slz_
  refine nq ?_
  refine czz (fun h2 => ?_) fun h2 => ?_
  ·
   have hE : playE f first xs = 1 := by
    have h' : sideBad first = true := h2
    simp only [playE, preE, hc0, h', cond_true, cond_false]; rfl
   refine sr ?_
   iterate 2 refine ww ?_
   refine nq ?_
   refine rtn ?_
   refine q_then_ret ?_
   refine q_ret (hR := ?_)
   rw [hE]
   exact fun w hS => ⟨rfl, hS.sub slz_⟩
  ·
   have hfs := side_ok (s := first) h2
   have hs0 : sideBad first = false := h2
   refine skp ?_
   refine q_seq ?_
   refine sq ?_
   refine sr ?_
   iterate 3 refine ww ?_
   refine nq ?_
   refine czz (fun h3 => ?_) fun h3 => ?_
   ·
    have hE : playE f first xs = 2 := by
     have h' : decide ((600 : Int) < xs.length) = true := by rw [hlen]; exact h3
     simp only [playE, preE, hc0, hs0, h', cond_true, cond_false]; rfl
    refine sr ?_
    iterate 2 refine ww ?_
    refine nq ?_
    refine rtn ?_
    refine q_then_ret ?_
    refine q_ret (hR := ?_)
    rw [hE]
    exact fun w hS => ⟨rfl, hS.sub slz_⟩
   ·
    have hn6 : n ≤ 600 := by simp only [decide_eq_false_iff_not] at h3; omega
    have hp0 : preE f first xs.length = 0 := by
     have h' : decide ((600 : Int) < xs.length) = false := by rw [hlen]; exact h3
     simp only [preE, hc0, hs0, h', cond_false]
    refine skp ?_
    refine q_seq ?_
    refine sr ?_
    iterate 3 refine ww ?_
    refine cl (hc := fun w hS => C_score_begin f first hf (by omega) w) (h := fun x1 _ => ?_)
    refine ww ?_
    refine nq ?_
    refine sq ?_
    refine sr ?_
    iterate 3 refine ww ?_
    refine nq ?_
    refine bk ?_
    refine lp (X := PZ) (I := fun z => z.k ≤ n ∧ playTo f first xs z.k = some z.m ∧ z.m.Bd z.k) (le := fun z => [(9, .pointer (some ⟨x1.1, 0, none⟩)), (30, .slice A n c), (31, .int .i64 n), (32, .int .i64 z.k)]) (Le := fun z => z.m.ents z.a x1.1 ++ [.ro A 1 n (encI xs)]) (μ := fun z => n - z.k) ⟨0, beginV f first, x1.2⟩ ⟨Nat.zero_le _, rfl, beginV_bd hf hfs⟩ sbz_ slz_ (fun z hz => ?_)
    obtain ⟨hzk, hzr, hzb⟩ := hz
    refine sr ?_
    refine ww ?_
    refine nq ?_
    refine sq ?_
    refine czz (fun h4 => ?_) fun h4 => ?_
    ·
     have hkn : z.k < n := by simp only [decide_eq_true_eq] at h4; omega
     obtain ⟨s, hs⟩ : ∃ s, xs[z.k]? = some s := ⟨_, List.getElem?_eq_getElem (by omega)⟩
     have hse := encI_at hs
     have hstep := playTo_succ hzr hs
     refine skp ?_
     refine q_seq ?_
     refine sq ?_
     refine bk ?_
     refine sr ?_
     refine wy (ix (hb := by omega)) ?_
     refine wy (ldE (hk := hse)) ?_
     refine ww ?_
     refine nq ?_
     refine sq ?_
     refine sr ?_
     iterate 3 refine ww ?_
     apply brAnd 3 38 41 (by exact rfl)
     ·
      intro hb5
      iterate 2 refine uw ?_
      refine ww ?_
      exact mg (by repeat (first | exact trivial | refine ⟨rfl, ?_⟩ | refine ⟨by rw [hb5]; rfl, ?_⟩)) slz_
     ·
      intro hb5
      repeat (first | refine uz ?_ | refine kz ?_ | refine wz ?_)
      exact mg (by repeat (first | exact trivial | refine ⟨rfl, ?_⟩ | refine ⟨by rw [hb5]; rfl, ?_⟩)) slz_
     refine ww ?_
     apply brOr 7 42 49 (by exact rfl)
     ·
      intro hb6
      iterate 6 refine uw ?_
      refine ww ?_
      exact mg (by repeat (first | exact trivial | refine ⟨rfl, ?_⟩ | refine ⟨by rw [hb6]; rfl, ?_⟩)) slz_
     ·
      intro hb6
      repeat (first | refine uz ?_ | refine kz ?_ | refine wz ?_)
      exact mg (by repeat (first | exact trivial | refine ⟨rfl, ?_⟩ | refine ⟨by rw [hb6]; rfl, ?_⟩)) slz_
     refine nq ?_
     refine czz (fun h7 => ?_) fun h7 => ?_
     ·
      have hE : playE f first xs = 11 := by
       have h' : (sideBad s || decide (0 ≤ z.m.winner)) = true := h7
       rw [h'] at hstep
       have := playTo_none (k := xs.length) hstep (by omega)
       rw [playE, hp0, this]; rfl
      refine sr ?_
      iterate 2 refine ww ?_
      refine nq ?_
      refine rtn ?_
      refine q_then_ret ?_
      refine q_blk_ret ?_
      iterate 2 refine q_then_ret ?_
      refine q_blk_ret ?_
      refine q_then_ret ?_
      refine q_ret (hR := ?_)
      rw [hE]
      exact fun w hS => ⟨rfl, hS.sub slz_⟩
     ·
      have hnx : playTo f first xs (z.k + 1) = some (pointV z.m s) := by
       have h' : (sideBad s || decide (0 ≤ z.m.winner)) = false := h7
       rw [hstep, h']; rfl
      refine skp ?_
      refine q_seq ?_
      refine rg ?_
      iterate 2 refine ww ?_
      refine clT (hc := T_point z.m z.a x1.1 s z.k hzb) (h := fun x2 _ => ?_)
      refine nl ?_
      refine q_blk_norm ?_
      refine q_seq ?_
      refine rg ?_
      iterate 2 refine ww ?_
      refine nl ?_
      refine rn (x := z) ⟨z.k + 1, pointV z.m s, x2⟩ ⟨by dsimp only; omega, hnx, by have := pointV_bd (side := s) hzb (by omega); simpa using this⟩ (by dsimp only; omega) sbz_ slz_
    ·
     exfalso
     have hkn : z.k = n := by simp only [decide_eq_false_iff_not] at h4; omega
     rw [playO, hp0, hlen, ← hkn, hzr] at hO
     cases hO
set_option maxRecDepth 100000 in
theorem C_play_some (f : Fmt) (first : Int) (xs : List Int) (A : Option Addr) (n c : Nat) (w : World) (h : Rd w A 1 n (encI xs)) (hn : n ≤ 9223372036854775807) {m : MS} (hO : playO f first xs = some m) :
  CR Tryz.prog 52 [f.val, .int .i64 first, .slice A n c] w (fun _ : Nat × MA => True) (fun x => .tuple #[.pointer (some ⟨x.1, 0, none⟩), .int .i64 0]) (fun x => m.ents x.2 x.1) := by
 have hlen : xs.length = n := by have := h.len; rwa [encI_len] at this
 refine ⟨en Tryz.func52 Tryz.ntmps52 ((St.init w).share (e := .ro A 1 n (encI xs)) h rfl rfl rfl) (h := fun F => ?_)⟩
 refine sr ?_
 refine bxA (h := fun b0 => ?_)
 iterate 2 refine ww ?_
 refine nq ?_
 refine sq ?_
 refine sr ?_
 refine ww ?_
 refine cl0 (hc := fun w hS => C_score_Check _ w) (h := ?_)
 refine ww ?_
 refine nr ?_
 iterate 2 refine ww ?_
 refine nq ?_
 refine czz (fun h0 => ?_) fun h0 => ?_
 ·
  exfalso
  have hp : (!decide (preE f first xs.length = 0)) = true := by
   have h' : (!decide (chkF f = 0)) = true := h0
   simp only [preE, h', cond_true]
  rw [playO, hp] at hO
  cases hO
 ·
  have hf := chkF_ok h0
  have hc0 : (!decide (chkF f = 0)) = false := h0
  refine skp ?_
  refine q_seq ?_
  refine sq ?_
  refine sr ?_
  iterate 3 refine ww ?_
  apply brAnd 3 19 22 (by exact rfl)
  ·
   intro hb1
   iterate 2 refine uw ?_
   refine ww ?_
   exact mg (by repeat (first | exact trivial | refine ⟨rfl, ?_⟩ | refine ⟨by rw [hb1]; rfl, ?_⟩)) slz_
  ·
   intro hb1
   repeat (first | refine uz ?_ | refine kz ?_ | refine wz ?_)
   exact mg (by repeat (first | exact trivial | refine ⟨rfl, ?_⟩ | refine ⟨by rw [hb1]; rfl, ?_⟩)) slz_
  refine nq ?_
  refine czz (fun h2 => ?_) fun h2 => ?_
  ·
   exfalso
   have hp : (!decide (preE f first xs.length = 0)) = true := by
    have h' : sideBad first = true := h2
    simp only [preE, hc0, h', cond_true, cond_false]; rfl
   rw [playO, hp] at hO
   cases hO
  ·
   have hfs := side_ok (s := first) h2
   have hs0 : sideBad first = false := h2
   refine skp ?_
   refine q_seq ?_
   refine sq ?_
   refine sr ?_
   iterate 3 refine ww ?_
   refine nq ?_
   refine czz (fun h3 => ?_) fun h3 => ?_
   ·
    exfalso
    have hp : (!decide (preE f first xs.length = 0)) = true := by
     have h' : decide ((600 : Int) < xs.length) = true := by rw [hlen]; exact h3
     simp only [preE, hc0, hs0, h', cond_true, cond_false]; rfl
    rw [playO, hp] at hO
    cases hO
   ·
    have hn6 : n ≤ 600 := by simp only [decide_eq_false_iff_not] at h3; omega
    have hp0 : preE f first xs.length = 0 := by
     have h' : decide ((600 : Int) < xs.length) = false := by rw [hlen]; exact h3
     simp only [preE, hc0, hs0, h', cond_false]
    refine skp ?_
    refine q_seq ?_
    refine sr ?_
    iterate 3 refine ww ?_
    refine cl (hc := fun w hS => C_score_begin f first hf (by omega) w) (h := fun x1 _ => ?_)
    refine ww ?_
    refine nq ?_
    refine sq ?_
    refine sr ?_
    iterate 3 refine ww ?_
    refine nq ?_
    refine bk ?_
    refine lp (X := PZ) (I := fun z => z.k ≤ n ∧ playTo f first xs z.k = some z.m ∧ z.m.Bd z.k) (le := fun z => [(9, .pointer (some ⟨x1.1, 0, none⟩)), (30, .slice A n c), (31, .int .i64 n), (32, .int .i64 z.k)]) (Le := fun z => z.m.ents z.a x1.1 ++ [.ro A 1 n (encI xs)]) (μ := fun z => n - z.k) ⟨0, beginV f first, x1.2⟩ ⟨Nat.zero_le _, rfl, beginV_bd hf hfs⟩ sbz_ slz_ (fun z hz => ?_)
    obtain ⟨hzk, hzr, hzb⟩ := hz
    refine sr ?_
    refine ww ?_
    refine nq ?_
    refine sq ?_
    refine czz (fun h4 => ?_) fun h4 => ?_
    ·
     have hkn : z.k < n := by simp only [decide_eq_true_eq] at h4; omega
     obtain ⟨s, hs⟩ : ∃ s, xs[z.k]? = some s := ⟨_, List.getElem?_eq_getElem (by omega)⟩
     have hse := encI_at hs
     have hstep := playTo_succ hzr hs
     refine skp ?_
     refine q_seq ?_
     refine sq ?_
     refine bk ?_
     refine sr ?_
     refine wy (ix (hb := by omega)) ?_
     refine wy (ldE (hk := hse)) ?_
     refine ww ?_
     refine nq ?_
     refine sq ?_
     refine sr ?_
     iterate 3 refine ww ?_
     apply brAnd 3 38 41 (by exact rfl)
     ·
      intro hb5
      iterate 2 refine uw ?_
      refine ww ?_
      exact mg (by repeat (first | exact trivial | refine ⟨rfl, ?_⟩ | refine ⟨by rw [hb5]; rfl, ?_⟩)) slz_
     ·
      intro hb5
      repeat (first | refine uz ?_ | refine kz ?_ | refine wz ?_)
      exact mg (by repeat (first | exact trivial | refine ⟨rfl, ?_⟩ | refine ⟨by rw [hb5]; rfl, ?_⟩)) slz_
     refine ww ?_
     apply brOr 7 42 49 (by exact rfl)
     ·
      intro hb6
      iterate 6 refine uw ?_
      refine ww ?_
      exact mg (by repeat (first | exact trivial | refine ⟨rfl, ?_⟩ | refine ⟨by rw [hb6]; rfl, ?_⟩)) slz_
     ·
      intro hb6
      repeat (first | refine uz ?_ | refine kz ?_ | refine wz ?_)
      exact mg (by repeat (first | exact trivial | refine ⟨rfl, ?_⟩ | refine ⟨by rw [hb6]; rfl, ?_⟩)) slz_
     refine nq ?_
     refine czz (fun h7 => ?_) fun h7 => ?_
     ·
      exfalso
      have h' : (sideBad s || decide (0 ≤ z.m.winner)) = true := h7
      rw [h'] at hstep
      have := playTo_none (k := xs.length) hstep (by omega)
      rw [playO, hp0, this] at hO
      cases hO
     ·
      have hnx : playTo f first xs (z.k + 1) = some (pointV z.m s) := by
       have h' : (sideBad s || decide (0 ≤ z.m.winner)) = false := h7
       rw [hstep, h']; rfl
      refine skp ?_
      refine q_seq ?_
      refine rg ?_
      iterate 2 refine ww ?_
      refine clT (hc := T_point z.m z.a x1.1 s z.k hzb) (h := fun x2 _ => ?_)
      refine nl ?_
      refine q_blk_norm ?_
      refine q_seq ?_
      refine rg ?_
      iterate 2 refine ww ?_
      refine nl ?_
      refine rn (x := z) ⟨z.k + 1, pointV z.m s, x2⟩ ⟨by dsimp only; omega, hnx, by have := pointV_bd (side := s) hzb (by omega); simpa using this⟩ (by dsimp only; omega) sbz_ slz_
    ·
     have hkn : z.k = n := by simp only [decide_eq_false_iff_not] at h4; omega
     rw [playO, hp0, hlen, ← hkn, hzr] at hO
     obtain rfl : z.m = m := by simpa using hO
     refine et ?_
     iterate 2 refine q_then_exit ?_
     refine q_blk_hit ?_
     refine q_seq ?_
     refine sr ?_
     iterate 3 refine ww ?_
     refine nq ?_
     refine rtn ?_
     refine q_ret (hR := ?_)
     exact fun w hS => ⟨(x1.1, z.a), trivial, rfl, hS.sub slz_⟩

structure Sc where
 (st : List Pr) (g p : Pr) (server ends balls winner : Int)
def MS.sc (m : MS) : Sc := ⟨m.st, m.g, m.p, m.server, m.ends, m.balls, m.winner⟩
def scO (o : Option MS) : Sc := match o with | some m => m.sc | none => ⟨[], (0, 0), (0, 0), 0, 0, 0, 0⟩
def gsO (o : Option MS) : List Gm := match o with | some m => m.gs | none => []
abbrev Sc.cells (s : Sc) (A : Option Addr) (c : Nat) : List Value := [.slice A s.st.length c, .int .i64 s.g.1, .int .i64 s.g.2, .int .i64 s.p.1, .int .i64 s.p.2, .int .i64 s.server, .int .i64 s.ends, .int .i64 s.balls, .int .i64 s.winner]
abbrev Sc.val (s : Sc) (A : Option Addr) (c : Nat) : Value := .agg #[.slice A s.st.length c, .int .i64 s.g.1, .int .i64 s.g.2, .int .i64 s.p.1, .int .i64 s.p.2, .int .i64 s.server, .int .i64 s.ends, .int .i64 s.balls, .int .i64 s.winner]
theorem playE_none {f : Fmt} {first : Int} {xs : List Int} (h : playO f first xs = none) : ¬ playE f first xs = 0 := by
 unfold playO at h
 unfold playE
 cases hp : !decide (preE f first xs.length = 0)
 ·
  rw [hp] at h
  simp only [cond_false] at h ⊢
  rw [h]; decide
 ·
  simp only [cond_true]
  simpa using hp
theorem playE_some {f : Fmt} {first : Int} {xs : List Int} {m : MS} (h : playO f first xs = some m) : playE f first xs = 0 := by
 unfold playO at h
 unfold playE
 cases hp : !decide (preE f first xs.length = 0)
 ·
  rw [hp] at h
  simp only [cond_false] at h ⊢
  rw [h]
 ·
  rw [hp] at h; cases h

set_option maxRecDepth 100000 in
theorem C_score_Play_n (f : Fmt) (first : Int) (xs : List Int) (A : Option Addr) (n c : Nat) (w : World) (h : Rd w A 1 n (encI xs)) (hn : n ≤ 9223372036854775807) (hO : playO f first xs = none) :
  CR Tryz.prog 23 [f.val, .int .i64 first, .slice A n c] w (fun _ : Option Addr × Nat => True) (fun x => .tuple #[(scO (playO f first xs)).val x.1 x.2, .int .i64 (playE f first xs)]) (fun x => [.own x.1 x.2 73 2 (scO (playO f first xs)).st.length (encP (scO (playO f first xs)).st)]) := by
 have hE := playE_none hO
 rw [hO]
 refine ⟨en Tryz.func23 Tryz.ntmps23 ((St.init w).share (e := .ro A 1 n (encI xs)) h rfl rfl rfl) (h := fun F => ?_)⟩
 refine sr ?_
 refine bxA (h := fun b0 => ?_)
 refine al (h := fun b1 => ?_)
 refine ww ?_
 refine nr ?_
 iterate 3 refine ww ?_
 refine cl0 (hc := fun w hS => C_play_none f first xs A n c w (hS.get rdz_) hn hO) (h := ?_)
 iterate 5 refine ww ?_
 refine nq ?_
 iterate 2 refine sq ?_
 refine WC.nilOwn 73 2 (h := ?_)
 refine rg ?_
 iterate 2 refine ww ?_
 refine nq ?_
 refine czz (fun h0 => ?_) fun h0 => ?_
 ·
  refine sr ?_
  iterate 2 refine ww ?_
  first | refine stA (h := ?_) | refine stEA (h := ?_)
  refine ww ?_
  refine nq ?_
  refine rtn ?_
  refine q_then_ret ?_
  refine q_ret (hR := ?_)
  exact fun w hS => ⟨(none, 0), trivial, rfl, hS.sub slz_⟩
 ·
  exfalso
  simp at h0
  exact hE h0

set_option maxRecDepth 100000 in
theorem C_score_Play_s (f : Fmt) (first : Int) (xs : List Int) (A : Option Addr) (n c : Nat) (w : World) (h : Rd w A 1 n (encI xs)) (hn : n ≤ 9223372036854775807) {m : MS} (hO : playO f first xs = some m) :
  CR Tryz.prog 23 [f.val, .int .i64 first, .slice A n c] w (fun _ : Option Addr × Nat => True) (fun x => .tuple #[(scO (playO f first xs)).val x.1 x.2, .int .i64 (playE f first xs)]) (fun x => [.own x.1 x.2 73 2 (scO (playO f first xs)).st.length (encP (scO (playO f first xs)).st)]) := by
 have hE := playE_some hO
 rw [hE, hO]
 refine ⟨en Tryz.func23 Tryz.ntmps23 ((St.init w).share (e := .ro A 1 n (encI xs)) h rfl rfl rfl) (h := fun F => ?_)⟩
 refine sr ?_
 refine bxA (h := fun b0 => ?_)
 refine al (h := fun b1 => ?_)
 refine ww ?_
 refine nr ?_
 iterate 3 refine ww ?_
 refine cl (hc := fun w hS => C_play_some f first xs A n c w (hS.get rdz_) hn hO) (h := fun x _ => ?_)
 iterate 5 refine ww ?_
 refine nq ?_
 refine sq ?_
 refine sr ?_
 iterate 2 refine ww ?_
 refine nq ?_
 refine czz (fun h0 => ?_) fun h0 => ?_
 ·
  exact absurd h0 (by decide)
 ·
  refine skp ?_
  refine q_seq ?_
  refine sr ?_
  iterate 4 refine ww ?_
  first | refine stA (h := ?_) | refine stEA (h := ?_)
  refine ww ?_
  refine nq ?_
  refine rtn ?_
  refine q_ret (hR := ?_)
  exact fun w hS => ⟨(x.2.sA, x.2.sc), trivial, rfl, hS.sub slz_⟩

theorem C_score_Play (f : Fmt) (first : Int) (xs : List Int) (A : Option Addr) (n c : Nat) (w : World) (h : Rd w A 1 n (encI xs)) (hn : n ≤ 9223372036854775807) :
  CR Tryz.prog 23 [f.val, .int .i64 first, .slice A n c] w (fun _ : Option Addr × Nat => True) (fun x => .tuple #[(scO (playO f first xs)).val x.1 x.2, .int .i64 (playE f first xs)]) (fun x => [.own x.1 x.2 73 2 (scO (playO f first xs)).st.length (encP (scO (playO f first xs)).st)]) := by
 cases hO : playO f first xs with
 | none => have := C_score_Play_n f first xs A n c w h hn hO; rwa [hO] at this
 | some m => have := C_score_Play_s f first xs A n c w h hn hO; rwa [hO] at this

end Go.Proofs.YthkliiifllhacaaGreat

namespace Go.Proofs.YthkliiifllhacaaGreat
open Go Go.RowKit

end Go.Proofs.YthkliiifllhacaaGreat

namespace Go.Proofs.YthkliiifllhacaaGreat
open Go Go.RowKit

end Go.Proofs.YthkliiifllhacaaGreat

namespace Go.Proofs.YthkliiifllhacaaGreat
open Go Go.RowKit

theorem C_ClonePairs (A : Option Addr) (n c : Nat) (es : List (List Value)) (w : World) (h : Rd w A 2 n es) (hn : n ≤ 100000000) :
  CR Tryz.prog 101 [.slice A n c] w (fun _ : Option Addr × Nat => True) (fun p => .slice p.1 n p.2) (fun p => [.own p.1 p.2 73 2 n es]) := by
 refine ⟨en Tryz.func101 Tryz.ntmps101 ((St.init w).share (e := .ro A 2 n es) h rfl rfl rfl) (h := fun F => ?_)⟩
 refine sr ?_
 refine ww ?_
 refine WL.nilOwn 73 2 (h := ?_)
 refine nq ?_
 refine sq ?_
 refine sr ?_
 refine ww ?_
 refine wy eqlN ?_
 refine nq ?_
 refine czz (fun h0 => ?_) fun h0 => ?_
 ·
  refine sr ?_
  refine ww ?_
  refine nq ?_
  refine rtn ?_
  refine q_then_ret ?_
  refine q_ret (hR := ?_)
  have hn0 : n = 0 := by
   rcases Nat.eq_zero_or_pos n with e | e
   ·
    exact e
   ·
    obtain ⟨ad, rfl⟩ := h.some_ e
    cases h0
  have hes : es = [] := by have := h.len; rw [hn0] at this; exact List.length_eq_zero_iff.1 this
  exact fun w hS => ⟨(none, 0), trivial, by rw [hn0]; rfl, by rw [hn0, hes]; exact hS.sub slz_⟩
 ·
  refine skp ?_
  refine q_seq ?_
  refine sr ?_
  refine bs (h := fun b0 => ?_)
  refine ww ?_
  first | refine ap (h := fun A1 c1 => ?_) | refine ap0 (h := fun A1 c1 => ?_)
  refine ww ?_
  refine nq ?_
  refine rtn ?_
  refine q_ret (hR := ?_)
  exact fun w hS => ⟨(_, _), trivial, by simp only [Nat.zero_add]; rfl, by simp only [Nat.zero_add, List.nil_append] at hS; exact hS.sub slz_⟩

structure Brd where
 (st : List Pr) (g p : Pr)
abbrev Brd.val (b : Brd) (A : Option Addr) (n c : Nat) : Value := .agg #[.slice A n c, .int .i64 b.g.1, .int .i64 b.g.2, .int .i64 b.p.1, .int .i64 b.p.2]
abbrev Brd.cells (b : Brd) (A : Option Addr) (n c : Nat) : List Value := [.slice A n c, .int .i64 b.g.1, .int .i64 b.g.2, .int .i64 b.p.1, .int .i64 b.p.2]
def Brd.all (b : Brd) : List Pr := b.st ++ [b.g, b.p]
end Go.Proofs.YthkliiifllhacaaGreat

namespace Go.Proofs.YthkliiifllhacaaGreat
open Go Go.RowKit

abbrev fmtSp : List Sp := [.int .i64, .int .i64, .bool, .int .i64, .int .i64, .int .i64, .int .i64, .int .i64, .int .i64, .bool]
abbrev i2 : List Sp := [.int .i64, .int .i64]
theorem format_open {w : World} {cs : List Value} (h : Mts w fmtSp cs) : ∃ f : Fmt, Value.agg cs.toArray = f.val := by
 obtain ⟨a1, cs, rfl, _, h⟩ := Mts.int_inv h
 obtain ⟨a2, cs, rfl, _, h⟩ := h.int_inv
 obtain ⟨a3, cs, rfl, h3⟩ := h.bool_inv
 obtain ⟨a4, cs, rfl, _, h⟩ := h3.int_inv
 obtain ⟨a5, cs, rfl, _, h⟩ := h.int_inv
 obtain ⟨a6, cs, rfl, _, h⟩ := h.int_inv
 obtain ⟨a7, cs, rfl, _, h⟩ := h.int_inv
 obtain ⟨a8, cs, rfl, _, h⟩ := h.int_inv
 obtain ⟨a9, cs, rfl, _, h⟩ := h.int_inv
 obtain ⟨a10, cs, rfl, h10⟩ := h.bool_inv
 rw [h10.nil_inv]
 exact ⟨⟨a1, a2, a3, a4, a5, a6, a7, a8, a9, a10⟩, rfl⟩
end Go.Proofs.YthkliiifllhacaaGreat

namespace Go.Proofs.YthkliiifllhacaaGreat
open Go


def encIL (xs : List Int) : List (List Value) := xs.map fun x => [.int .i64 x]
theorem encI_app (xs : List Int) (x : Int) : encIL xs ++ [[.int .i64 x]] = encIL (xs ++ [x]) := by simp [encIL]
structure Strip where
 (p q lo hi : Int)
def Strip.enc (s : Strip) : List Value := [.int .i64 s.p, .int .i64 s.q, .int .i64 s.lo, .int .i64 s.hi]
structure View where
 (size : Int) (strips : List Strip) (wr hxl hxh hyl hyh : Int)
abbrev View.val (v : View) (A : Option Addr) (n c : Nat) : Value := .agg #[.int .i64 v.size, .slice A n c, .int .i64 v.wr, .int .i64 v.hxl, .int .i64 v.hxh, .int .i64 v.hyl, .int .i64 v.hyh]
abbrev View.cells (v : View) (A : Option Addr) (n c : Nat) : List Value := [.int .i64 v.size, .slice A n c, .int .i64 v.wr, .int .i64 v.hxl, .int .i64 v.hxh, .int .i64 v.hyl, .int .i64 v.hyh]
abbrev View.enc (v : View) : List (List Value) := v.strips.map Strip.enc
structure Box where
 (l r b t : Int)
abbrev Box.val (b : Box) : Value := .agg #[.int .i64 b.l, .int .i64 b.r, .int .i64 b.b, .int .i64 b.t]
structure Mark where
 (x y hx hy : Int)
abbrev Mark.val (m : Mark) : Value := .agg #[.int .i64 m.x, .int .i64 m.y, .int .i64 m.hx, .int .i64 m.hy]

def wiL (n lo hi : Int) : Bool := decide (lo ≤ n) && decide (n ≤ hi)
def isp (l h lo hi : Int) : Bool := decide (l ≤ h) && wiL l lo hi && wiL h lo hi
def iStrip (s : Strip) : Bool := wiL s.p (-3) 3 && wiL s.q (-3) 3 && (!decide (s.p = 0) || !decide (s.q = 0)) && isp s.lo s.hi (-500) 500
def vbad (v : View) : Bool := v.strips.any (fun s => !iStrip s) || decide ((8 : Int) < v.strips.length) || !wiL v.size 0 40 || !wiL v.wr 0 3 || !isp v.hxl v.hxh 1 9 || !isp v.hyl v.hyh 1 9
def chkV (v : View) : Int := bif vbad v then 20 else 0
def bbad (b : Box) : Bool := !isp b.l b.r 0 40 || !isp b.b b.t 0 40
def chkB (b : Box) : Int := bif bbad b then 21 else 0
def bey (n lo hi : Int) : Int := max (max 0 (lo - n)) (n - hi)
def tch (m : Mark) (b : Box) : Bool :=
 decide (bey m.x b.l b.r * m.hy * (bey m.x b.l b.r * m.hy) + bey m.y b.b b.t * m.hx * (bey m.y b.b b.t * m.hx) ≤ m.hx * m.hy * (m.hx * m.hy))
theorem wi_iffL {n lo hi : Int} : wiL n lo hi = true ↔ lo ≤ n ∧ n ≤ hi := by simp [wiL]
theorem isp_iff {l h lo hi : Int} : isp l h lo hi = true ↔ l ≤ h ∧ lo ≤ l ∧ h ≤ hi := by
 simp only [isp, Bool.and_eq_true, decide_eq_true_eq, wi_iffL]; omega

structure Box.Ok (b : Box) : Prop where
 k0 : 0 ≤ b.l
 k1 : b.l ≤ b.r
 k2 : b.r ≤ 40
 k3 : 0 ≤ b.b
 k4 : b.b ≤ b.t
 k5 : b.t ≤ 40
structure Mark.Ok (m : Mark) : Prop where
 x0 : 0 ≤ m.x
 x1 : m.x ≤ 40
 y0 : 0 ≤ m.y
 y1 : m.y ≤ 40
 hx0 : 1 ≤ m.hx
 hx1 : m.hx ≤ 9
 hy0 : 1 ≤ m.hy
 hy1 : m.hy ≤ 9
theorem bbad_ok {b : Box} (h : bbad b = false) : b.Ok := by
 simp only [bbad, Bool.or_eq_false_iff, Bool.not_eq_false', isp_iff] at h
 exact ⟨by omega, by omega, by omega, by omega, by omega, by omega⟩
theorem mul_bnd {a b A B : Int} (ha : 0 ≤ a ∧ a ≤ A) (hb : 0 ≤ b ∧ b ≤ B) : 0 ≤ a * b ∧ a * b ≤ A * B :=
 ⟨Int.mul_nonneg ha.1 hb.1, Int.mul_le_mul ha.2 hb.2 hb.1 (by omega)⟩
theorem mul_abs {p x : Int} (h1 : -3 ≤ p) (h2 : p ≤ 3) (hx : 0 ≤ x ∧ x ≤ 40) : -120 ≤ p * x ∧ p * x ≤ 120 := by
 have e : ∀ q : Int, 0 ≤ q → q ≤ 3 → 0 ≤ q * x ∧ q * x ≤ 120 := fun q a b => by have := mul_bnd (a := q) (A := 3) ⟨a, b⟩ hx; omega
 by_cases hp : 0 ≤ p
 ·
  have := e p hp h2; omega
 ·
  have := e (-p) (by omega) (by omega)
  rw [Int.neg_mul] at this; omega
theorem bey_bnd {n lo hi : Int} (h : 0 ≤ n ∧ n ≤ 40 ∧ 0 ≤ lo ∧ lo ≤ 40 ∧ 0 ≤ hi ∧ hi ≤ 40) : 0 ≤ bey n lo hi ∧ bey n lo hi ≤ 40 := by unfold bey; omega
structure TchBnd (m : Mark) (b : Box) : Prop where
 k1 : 0 ≤ bey m.x b.l b.r * m.hy ∧ bey m.x b.l b.r * m.hy ≤ 360
 k2 : 0 ≤ bey m.y b.b b.t * m.hx ∧ bey m.y b.b b.t * m.hx ≤ 360
 k3 : 0 ≤ m.hx * m.hy ∧ m.hx * m.hy ≤ 81
 k4 : 0 ≤ bey m.x b.l b.r * m.hy * (bey m.x b.l b.r * m.hy) ∧ bey m.x b.l b.r * m.hy * (bey m.x b.l b.r * m.hy) ≤ 129600
 k5 : 0 ≤ bey m.y b.b b.t * m.hx * (bey m.y b.b b.t * m.hx) ∧ bey m.y b.b b.t * m.hx * (bey m.y b.b b.t * m.hx) ≤ 129600
 k6 : 0 ≤ m.hx * m.hy * (m.hx * m.hy) ∧ m.hx * m.hy * (m.hx * m.hy) ≤ 6561
theorem tch_bnd {m : Mark} {b : Box} (hm : m.Ok) (hb : b.Ok) : TchBnd m b := by
 obtain ⟨a1, a2, a3, a4, a5, a6, a7, a8⟩ := hm
 obtain ⟨b1, b2, b3, b4, b5, b6⟩ := hb
 have e1 := bey_bnd (n := m.x) (lo := b.l) (hi := b.r) (by omega)
 have e2 := bey_bnd (n := m.y) (lo := b.b) (hi := b.t) (by omega)
 have f1 := mul_bnd e1 (b := m.hy) (B := 9) (by omega)
 have f2 := mul_bnd e2 (b := m.hx) (B := 9) (by omega)
 have f3 := mul_bnd (a := m.hx) (A := 9) (by omega) (b := m.hy) (B := 9) (by omega)
 exact ⟨f1, f2, f3, mul_bnd f1 f1, mul_bnd f2 f2, mul_bnd f3 f3⟩
structure View.Near (v : View) : Prop where
 s0 : 0 ≤ v.size
 s1 : v.size ≤ 40
 hx0 : 1 ≤ v.hxl
 hx : v.hxl ≤ v.hxh
 hx1 : v.hxh ≤ 9
 hy0 : 1 ≤ v.hyl
 hy : v.hyl ≤ v.hyh
 hy1 : v.hyh ≤ 9
 len : v.strips.length ≤ 8
 slope : ∀ s ∈ v.strips, -3 ≤ s.p ∧ s.p ≤ 3 ∧ -3 ≤ s.q ∧ s.q ≤ 3
theorem vbad_near {v : View} (h : vbad v = false) : v.Near := by
 simp only [vbad, Bool.or_eq_false_iff, Bool.not_eq_false', isp_iff, wi_iffL, decide_eq_false_iff_not, List.any_eq_false] at h
 obtain ⟨⟨⟨⟨⟨hs, hl⟩, hz⟩, hw⟩, hx⟩, hy⟩ := h
 refine ⟨by omega, by omega, by omega, by omega, by omega, by omega, by omega, by omega, by omega, fun s hm => ?_⟩
 have := hs s hm
 simp only [iStrip, Bool.not_eq_true, Bool.not_eq_false', Bool.and_eq_true, wi_iffL] at this
 omega

def pAtL {α : Type} (ss : List α) (q : α → Bool) (k : Nat) : Bool := match ss[k]? with
 | some s => q s
 | none => false
theorem pAt_eqL {α : Type} {ss : List α} {q : α → Bool} {k : Nat} {s : α} (h : ss[k]? = some s) : pAtL ss q k = q s := by simp only [pAtL, h]
theorem pAt_anyL {α : Type} (ss : List α) (q : α → Bool) : (List.range ss.length).any (pAtL ss q) = ss.any q := by
 rw [Bool.eq_iff_iff]
 simp only [List.any_eq_true, List.mem_range]
 constructor
 ·
  rintro ⟨k, hk, h⟩
  simp only [pAtL, List.getElem?_eq_getElem hk] at h
  exact ⟨ss[k], List.getElem_mem hk, h⟩
 ·
  rintro ⟨s, hs, h⟩
  obtain ⟨k, hk, rfl⟩ := List.getElem_of_mem hs
  exact ⟨k, hk, by simp only [pAtL, List.getElem?_eq_getElem hk]; exact h⟩
def FstL (p : Nat → Bool) (n : Nat) (j : Int) : Prop := (∃ k : Nat, k < n ∧ j = k ∧ p k = true ∧ ∀ i, i < k → p i = false) ∨ (j = -1 ∧ ∀ i, i < n → p i = false)
theorem FstL.any {p : Nat → Bool} {n : Nat} {j : Int} (h : FstL p n j) : decide (0 ≤ j) = (List.range n).any p := by
 rcases h with ⟨k, hk, rfl, hp, _⟩ | ⟨rfl, hp⟩
 ·
  rw [decide_eq_true (by omega)]
  exact (List.any_eq_true.2 ⟨k, by simpa using hk, hp⟩).symm
 ·
  rw [decide_eq_false (by omega)]
  exact (List.any_eq_false.2 fun k hk => by simp [hp k (by simpa using hk)]).symm
theorem enc_atL {α : Type} {f : α → List Value} {ss : List α} {k : Nat} {cs : List Value} (h : (ss.map f)[k]? = some cs) : ∃ s, ss[k]? = some s ∧ cs = f s := by
 rw [List.getElem?_map] at h
 cases hs : ss[k]? with
 | none => simp [hs] at h
 | some s => exact ⟨s, rfl, by simpa [hs] using h.symm⟩
theorem take_next {α : Type} {ss : List α} {q : α → Bool} {k : Nat} {s : α} (h : ∀ t ∈ ss.take k, q t = false) (hs : ss[k]? = some s) (hq : q s = false) : ∀ t ∈ ss.take (k + 1), q t = false := by
 rw [List.take_add_one, hs]
 intro t ht
 rcases List.mem_append.1 ht with ht | ht
 ·
  exact h t ht
 ·
  have : t = s := by simpa using ht
  rw [this]; exact hq
structure LS where
 (k m : Nat) (es : List (List Value)) (A : Option Addr) (c : Nat)

def miss (s : Strip) (x y : Int) : Bool := !wiL (s.p * x + s.q * y) s.lo s.hi
def wrongTo (ss : List Strip) (x y : Int) : Nat → List Int
 | 0 => []
 | k + 1 => match ss[k]? with
  | some s => bif miss s x y then wrongTo ss x y k ++ [(k : Int)] else wrongTo ss x y k
  | none => wrongTo ss x y k
def wrongs (v : View) (x y : Int) : List Int := wrongTo v.strips x y v.strips.length
theorem wrongTo_succ {ss : List Strip} {x y : Int} {k : Nat} {s : Strip} (h : ss[k]? = some s) : wrongTo ss x y (k + 1) = bif miss s x y then wrongTo ss x y k ++ [(k : Int)] else wrongTo ss x y k := by
 rw [wrongTo]; simp [h]
theorem wrongTo_len (ss : List Strip) (x y : Int) : ∀ k, (wrongTo ss x y k).length ≤ k
 | 0 => by simp [wrongTo]
 | k + 1 => by
  have := wrongTo_len ss x y k
  rw [wrongTo]; split
  ·
   cases miss _ x y <;> simp <;> omega
  ·
   omega

def View.m (v : View) : Nat := v.size.toNat + 1
def ctr (v : View) (k : Nat) : Int × Int := (((k / v.m : Nat) : Int), ((k % v.m : Nat) : Int))
def encPL (ps : List (Int × Int)) : List (List Value) := ps.map fun p => [.int .i64 p.1, .int .i64 p.2]
def tru (v : View) (p : Int × Int) : Bool := decide (((wrongs v p.1 p.2).length : Int) ≤ v.wr)
def truTo (v : View) : Nat → List (Int × Int)
 | 0 => []
 | k + 1 => bif tru v (ctr v k) then truTo v k ++ [ctr v k] else truTo v k
def trus (v : View) : List (Int × Int) := truTo v (v.m * v.m)
theorem truTo_len (v : View) : ∀ k, (truTo v k).length ≤ k
 | 0 => by simp [truTo]
 | k + 1 => by
  have := truTo_len v k
  rw [truTo]; cases tru v (ctr v k) <;> simp <;> omega
theorem m_le {v : View} (h : v.Near) : v.m ≤ 41 := by have := h.s0; have := h.s1; unfold View.m; omega
theorem m_int {v : View} (h : v.Near) : (v.m : Int) = v.size + 1 := by have := h.s0; unfold View.m; omega
theorem ctr_eq {v : View} {i j : Nat} (h : j < v.m) : ctr v (i * v.m + j) = ((i : Int), (j : Int)) := by
 have e1 : (i * v.m + j) / v.m = i := by rw [Nat.mul_comm, Nat.mul_add_div (by omega), Nat.div_eq_of_lt h, Nat.add_zero]
 have e2 : (i * v.m + j) % v.m = j := by rw [Nat.mul_comm, Nat.mul_add_mod, Nat.mod_eq_of_lt h]
 simp only [ctr, e1, e2]
theorem ctr_lt {v : View} (h : v.Near) {k : Nat} (hk : k < v.m * v.m) : (0 ≤ (ctr v k).1 ∧ (ctr v k).1 ≤ 40) ∧ 0 ≤ (ctr v k).2 ∧ (ctr v k).2 ≤ 40 := by
 have h1 : k / v.m < v.m := Nat.div_lt_of_lt_mul hk
 have h2 : k % v.m < v.m := Nat.mod_lt _ (by unfold View.m; omega)
 have h3 := m_le h
 simp only [ctr]
 generalize k / v.m = q at *
 generalize k % v.m = r at *
 omega
theorem ctr_in {m i j : Nat} (hi : i < m) (hj : j < m) : i * m + j < m * m := by
 have := Nat.mul_le_mul_right m (Nat.succ_le_of_lt hi)
 rw [Nat.succ_mul] at this
 omega
theorem encP_appL (ps : List (Int × Int)) (p : Int × Int) : encPL ps ++ [[.int .i64 p.1, .int .i64 p.2]] = encPL (ps ++ [p]) := by simp [encPL]
structure LY (Y : Type) where
 (k : Nat) (y : Y)
theorem mm_le {v : View} (h : v.Near) : v.m * v.m ≤ 1681 := Nat.mul_le_mul (m_le h) (m_le h)
theorem truTo_mem {v : View} {p : Int × Int} : ∀ {k : Nat}, p ∈ truTo v k → ∃ j, j < k ∧ p = ctr v j ∧ tru v p = true
 | 0, h => by simp [truTo] at h
 | k + 1, h => by
  rw [truTo] at h
  cases ht : tru v (ctr v k) <;> rw [ht] at h
  ·
   obtain ⟨j, hj, h1⟩ := truTo_mem h
   exact ⟨j, by omega, h1⟩
  ·
   rcases List.mem_append.1 h with h | h
   ·
    obtain ⟨j, hj, h1⟩ := truTo_mem h
    exact ⟨j, by omega, h1⟩
   ·
    simp only [List.mem_singleton] at h
    exact ⟨k, by omega, h, by rw [h]; exact ht⟩
theorem trus_rng {v : View} (hv : v.Near) {p : Int × Int} (h : p ∈ trus v) : (0 ≤ p.1 ∧ p.1 ≤ 40) ∧ 0 ≤ p.2 ∧ p.2 ≤ 40 := by
 obtain ⟨j, hj, rfl, _⟩ := truTo_mem h
 exact ctr_lt hv hj
def smallM (v : View) (p : Int × Int) : Mark := ⟨p.1, p.2, v.hxl, v.hyl⟩
def largeM (v : View) (p : Int × Int) : Mark := ⟨p.1, p.2, v.hxh, v.hyh⟩
theorem small_ok {v : View} (hv : v.Near) {p : Int × Int} (h : p ∈ trus v) : (smallM v p).Ok := by
 have := trus_rng hv h; obtain ⟨a1, a2, a3, a4, a5, a6, a7, a8, _, _⟩ := hv
 constructor <;> simp only [smallM] <;> omega
theorem large_ok {v : View} (hv : v.Near) {p : Int × Int} (h : p ∈ trus v) : (largeM v p).Ok := by
 have := trus_rng hv h; obtain ⟨a1, a2, a3, a4, a5, a6, a7, a8, _, _⟩ := hv
 constructor <;> simp only [largeM] <;> omega

def none0 (v : View) : Bool := decide (((trus v).length : Int) = 0)
def callV (v : View) (b : Box) : Int :=
 bif none0 v then 0 else bif !((trus v).any fun p => !tch (smallM v p) b) then 1 else bif !((trus v).any fun p => tch (largeM v p) b) then 2 else 3
def chkVB (v : View) (b : Box) : Int := bif !decide (chkV v = 0) then chkV v else chkB b
def callR (v : View) (b : Box) : List Value := bif !decide (chkVB v b = 0) then [.int .i64 0, .int .i64 (chkVB v b)] else bif decide (callV v b = 0) then [.int .i64 0, .int .i64 3] else [.int .i64 (callV v b), .int .i64 0]
theorem chkV_ok {v : View} (h : (!decide (chkV v = 0)) = false) : vbad v = false := by
 cases hb : vbad v
 ·
  rfl
 ·
  simp [chkV, hb] at h
theorem chkVB_ok {v : View} {b : Box} (h : (!decide (chkVB v b = 0)) = false) : vbad v = false ∧ bbad b = false := by
 unfold chkVB at h
 cases hv : !decide (chkV v = 0)
 ·
  rw [hv] at h
  refine ⟨chkV_ok hv, ?_⟩
  cases hb : bbad b
  ·
   rfl
  ·
   simp [chkB, hb] at h
 ·
  rw [hv] at h; simp only [cond_true] at h; rw [h] at hv; cases hv
def foldTo (f : Int → Int → Int) (g : Int × Int → Int) (a : Int) (l : List (Int × Int)) : Nat → Int
 | 0 => a
 | k + 1 => match l[k]? with
  | some p => f (foldTo f g a l k) (g p)
  | none => foldTo f g a l k
theorem foldTo_succ {f : Int → Int → Int} {g : Int × Int → Int} {a : Int} {l : List (Int × Int)} {k : Nat} {p : Int × Int} (h : l[k]? = some p) : foldTo f g a l (k + 1) = f (foldTo f g a l k) (g p) := by
 rw [foldTo]; simp [h]
def ext (f : Int → Int → Int) (g : Int × Int → Int) (l : List (Int × Int)) : Int := match l with
 | [] => 0
 | p :: _ => foldTo f g (g p) l l.length
structure LC where
 (k : Nat) (a b c d : Int)
def LC.ok (z : LC) (p0 : Int × Int) (l : List (Int × Int)) : Prop :=
 z.a = foldTo min (·.1) p0.1 l z.k ∧ z.b = foldTo max (·.1) p0.1 l z.k ∧ z.c = foldTo min (·.2) p0.2 l z.k ∧ z.d = foldTo max (·.2) p0.2 l z.k
theorem LC.next {z : LC} {p0 p : Int × Int} {l : List (Int × Int)} (h : z.ok p0 l) (hp : l[z.k]? = some p) : LC.ok ⟨z.k + 1, min z.a p.1, max z.b p.1, min z.c p.2, max z.d p.2⟩ p0 l := by
 obtain ⟨h1, h2, h3, h4⟩ := h
 refine ⟨?_, ?_, ?_, ?_⟩ <;> dsimp only <;> rw [foldTo_succ hp] <;> simp only [h1, h2, h3, h4]
end Go.Proofs.YthkliiifllhacaaGreat

namespace Go.Proofs.YthkliiifllhacaaGreat
open Go Go.RowKit

theorem C_lines_within (n lo hi : Int) (w : World) : C0 Tryz.prog 131 [.int .i64 n, .int .i64 lo, .int .i64 hi] w (.bool (wiL n lo hi)) := by
 refine ⟨en Tryz.func131 Tryz.ntmps131 (St.init w) (h := fun F => ?_)⟩
 refine sr ?_
 refine ww ?_
 refine nr ?_
 iterate 4 refine ww ?_
 apply brAnd 4 10 14 (by exact rfl)
 ·
  intro hb0
  iterate 3 refine uw ?_
  refine ww ?_
  exact mg (by repeat (first | exact trivial | refine ⟨rfl, ?_⟩ | refine ⟨by rw [hb0]; rfl, ?_⟩)) slz_
 ·
  intro hb0
  repeat (first | refine uz ?_ | refine kz ?_ | refine wz ?_)
  exact mg (by repeat (first | exact trivial | refine ⟨rfl, ?_⟩ | refine ⟨by rw [hb0]; rfl, ?_⟩)) slz_
 refine ww ?_
 refine nq ?_
 refine rtn ?_
 refine q_ret (hR := ?_)
 exact fun w hS => ⟨rfl, hS.sub slz_⟩

theorem C_lines_isSpan (l h lo hi : Int) (w : World) : C0 Tryz.prog 132 [.agg #[.int .i64 l, .int .i64 h], .int .i64 lo, .int .i64 hi] w (.bool (isp l h lo hi)) := by
 refine ⟨en Tryz.func132 Tryz.ntmps132 (St.init w) (h := fun F => ?_)⟩
 refine sr ?_
 refine bxA (h := fun b0 => ?_)
 refine ww ?_
 refine nr ?_
 iterate 6 refine ww ?_
 apply brAnd 6 12 18 (by exact rfl)
 ·
  intro hb0
  iterate 4 refine uw ?_
  refine uz ?_
  refine cl0 (hc := fun w hS => C_lines_within ..) (h := ?_)
  refine ww ?_
  exact mg (by repeat (first | exact trivial | refine ⟨rfl, ?_⟩ | refine ⟨by rw [hb0]; rfl, ?_⟩)) slz_
 ·
  intro hb0
  repeat (first | refine uz ?_ | refine kz ?_ | refine wz ?_)
  exact mg (by repeat (first | exact trivial | refine ⟨rfl, ?_⟩ | refine ⟨by rw [hb0]; rfl, ?_⟩)) slz_
 refine ww ?_
 apply brAnd 6 19 25 (by exact rfl)
 ·
  intro hb1
  iterate 4 refine uw ?_
  refine uz ?_
  refine cl0 (hc := fun w hS => C_lines_within ..) (h := ?_)
  refine ww ?_
  exact mg (by repeat (first | exact trivial | refine ⟨rfl, ?_⟩ | refine ⟨by rw [hb1]; rfl, ?_⟩)) slz_
 ·
  intro hb1
  repeat (first | refine uz ?_ | refine kz ?_ | refine wz ?_)
  exact mg (by repeat (first | exact trivial | refine ⟨rfl, ?_⟩ | refine ⟨by rw [hb1]; rfl, ?_⟩)) slz_
 refine ww ?_
 refine nq ?_
 refine rtn ?_
 refine q_ret (hR := ?_)
 exact fun w hS => ⟨rfl, hS.sub slz_⟩

theorem C_lines_isStrip (s : Strip) (w : World) : C0 Tryz.prog 130 [.agg s.enc.toArray] w (.bool (iStrip s)) := by
 unfold Strip.enc
 refine ⟨en Tryz.func130 Tryz.ntmps130 (St.init w) (h := fun F => ?_)⟩
 refine sr ?_
 refine bxA (h := fun b0 => ?_)
 refine ww ?_
 refine nr ?_
 iterate 2 refine ww ?_
 refine cl0 (hc := fun w hS => C_lines_within ..) (h := ?_)
 refine ww ?_
 apply brAnd 4 6 10 (by exact rfl)
 ·
  intro hb0
  iterate 2 refine uw ?_
  refine uz ?_
  refine cl0 (hc := fun w hS => C_lines_within ..) (h := ?_)
  refine ww ?_
  exact mg (by repeat (first | exact trivial | refine ⟨rfl, ?_⟩ | refine ⟨by rw [hb0]; rfl, ?_⟩)) slz_
 ·
  intro hb0
  repeat (first | refine uz ?_ | refine kz ?_ | refine wz ?_)
  exact mg (by repeat (first | exact trivial | refine ⟨rfl, ?_⟩ | refine ⟨by rw [hb0]; rfl, ?_⟩)) slz_
 refine ww ?_
 apply brAnd 9 11 20 (by exact rfl)
 ·
  intro hb1
  iterate 4 refine uw ?_
  apply brOr 4 15 19 (by exact rfl)
  ·
   intro hb2
   iterate 4 refine uw ?_
   exact mg (by repeat (first | exact trivial | refine ⟨rfl, ?_⟩ | refine ⟨by rw [hb2]; rfl, ?_⟩ | refine ⟨by rw [hb1]; rfl, ?_⟩)) slz_
  ·
   intro hb2
   repeat (first | refine uz ?_ | refine kz ?_ | refine wz ?_)
   exact mg (by repeat (first | exact trivial | refine ⟨rfl, ?_⟩ | refine ⟨by rw [hb2]; rfl, ?_⟩ | refine ⟨by rw [hb1]; rfl, ?_⟩)) slz_
  refine ww ?_
  exact mg (by repeat (first | exact trivial | refine ⟨rfl, ?_⟩ | refine ⟨by rw [hb1]; rfl, ?_⟩)) slz_
 ·
  intro hb1
  repeat (first | refine uz ?_ | refine kz ?_ | refine wz ?_)
  exact mg (by repeat (first | exact trivial | refine ⟨rfl, ?_⟩ | refine ⟨by rw [hb1]; rfl, ?_⟩)) slz_
 refine ww ?_
 apply brAnd 7 21 28 (by exact rfl)
 ·
  intro hb3
  iterate 5 refine uw ?_
  refine uz ?_
  refine cl0 (hc := fun w hS => C_lines_isSpan ..) (h := ?_)
  refine ww ?_
  exact mg (by repeat (first | exact trivial | refine ⟨rfl, ?_⟩ | refine ⟨by rw [hb3]; rfl, ?_⟩)) slz_
 ·
  intro hb3
  repeat (first | refine uz ?_ | refine kz ?_ | refine wz ?_)
  exact mg (by repeat (first | exact trivial | refine ⟨rfl, ?_⟩ | refine ⟨by rw [hb3]; rfl, ?_⟩)) slz_
 refine ww ?_
 refine nq ?_
 refine rtn ?_
 refine q_ret (hR := ?_)
 exact fun w hS => ⟨rfl, hS.sub slz_⟩

theorem C_lines_checkBox (b : Box) (w : World) : C0 Tryz.prog 87 [b.val] w (.int .i64 (chkB b)) := by
 refine ⟨en Tryz.func87 Tryz.ntmps87 (St.init w) (h := fun F => ?_)⟩
 refine sr ?_
 refine bxA (h := fun b0 => ?_)
 refine ww ?_
 refine nq ?_
 refine sq ?_
 refine sr ?_
 iterate 5 refine ww ?_
 refine cl0 (hc := fun w hS => C_lines_isSpan ..) (h := ?_)
 iterate 2 refine ww ?_
 apply brOr 8 10 18 (by exact rfl)
 ·
  intro hb0
  iterate 5 refine uw ?_
  refine uz ?_
  refine cl0 (hc := fun w hS => C_lines_isSpan ..) (h := ?_)
  refine uw ?_
  refine ww ?_
  exact mg (by repeat (first | exact trivial | refine ⟨rfl, ?_⟩ | refine ⟨by rw [hb0]; rfl, ?_⟩)) slz_
 ·
  intro hb0
  repeat (first | refine uz ?_ | refine kz ?_ | refine wz ?_)
  exact mg (by repeat (first | exact trivial | refine ⟨rfl, ?_⟩ | refine ⟨by rw [hb0]; rfl, ?_⟩)) slz_
 refine nq ?_
 refine czz (fun h1 => ?_) fun h1 => ?_
 ·
  refine sr ?_
  refine ww ?_
  refine nq ?_
  refine rtn ?_
  refine q_then_ret ?_
  refine q_ret (hR := ?_)
  exact fun w hS => ⟨cdT' (fun x : Int => Ending.returned (Value.int .i64 x)) h1, hS.sub slz_⟩
 ·
  refine skp ?_
  refine q_seq ?_
  refine sr ?_
  refine ww ?_
  refine nq ?_
  refine rtn ?_
  refine q_ret (hR := ?_)
  exact fun w hS => ⟨cdF' (fun x : Int => Ending.returned (Value.int .i64 x)) h1, hS.sub slz_⟩

theorem C_lines_beyond (n lo hi : Int) (h : 0 ≤ n ∧ n ≤ 40 ∧ 0 ≤ lo ∧ lo ≤ 40 ∧ 0 ≤ hi ∧ hi ≤ 40) (w : World) : C0 Tryz.prog 135 [.int .i64 n, .int .i64 lo, .int .i64 hi] w (.int .i64 (bey n lo hi)) := by
 refine ⟨en Tryz.func135 Tryz.ntmps135 (St.init w) (h := fun F => ?_)⟩
 refine sr ?_
 refine ww ?_
 refine nr ?_
 iterate 6 refine ww ?_
 refine wy maxI3 ?_
 refine ww ?_
 refine nq ?_
 refine rtn ?_
 refine q_ret (hR := ?_)
 exact fun w hS => ⟨rfl, hS.sub slz_⟩

theorem C_lines_touches (m : Mark) (b : Box) (hm : m.Ok) (hb : b.Ok) (w : World) : C0 Tryz.prog 91 [m.val, b.val] w (.bool (tch m b)) := by
 obtain ⟨k1, k2, k3, k4, k5, k6⟩ := tch_bnd hm hb
 obtain ⟨a1, a2, a3, a4, a5, a6, a7, a8⟩ := hm
 obtain ⟨b1, b2, b3, b4, b5, b6⟩ := hb
 refine ⟨en Tryz.func91 Tryz.ntmps91 (St.init w) (h := fun F => ?_)⟩
 refine sr ?_
 refine bxA (h := fun b0 => ?_)
 refine bxA (h := fun b1 => ?_)
 refine ww ?_
 refine nq ?_
 refine sq ?_
 refine rgD0 (by kernel_rfl) (h := ?_)
 refine tw 0 ?_
 refine tw 1 ?_
 refine tw 2 ?_
 refine tw 3 ?_
 refine tw 4 ?_
 refine tw 5 ?_
 refine tw 7 ?_
 refine tw 8 ?_
 refine tw 10 ?_
 refine tw 11 ?_
 refine tw 12 ?_
 refine tw 13 ?_
 refine tw 14 ?_
 refine tw 15 ?_
 refine tw 17 ?_
 refine tw 18 ?_
 refine one 6 (h := ?_)
 refine cl0 (hc := fun w hS => C_lines_beyond _ _ _ (by omega) w) (h := ?_)
 refine nx (h := ?_)
 refine tw 9 ?_
 refine one 16 (h := ?_)
 refine cl0 (hc := fun w hS => C_lines_beyond _ _ _ (by omega) w) (h := ?_)
 refine nx (h := ?_)
 refine tw 19 ?_
 refine tw 20 ?_
 refine tw 21 ?_
 refine dn (h := ?_)
 refine q_seq ?_
 refine sr ?_
 iterate 6 refine ww ?_
 refine nr ?_
 iterate 12 refine ww ?_
 refine nq ?_
 refine rtn ?_
 refine q_ret (hR := ?_)
 exact fun w hS => ⟨rfl, hS.sub slz_⟩

theorem C_lines_small (v : View) (A : Option Addr) (n c : Nat) (x y : Int) (w : World) : C0 Tryz.prog 92 [v.val A n c, .agg #[.int .i64 x, .int .i64 y]] w (Mark.val ⟨x, y, v.hxl, v.hyl⟩) := by
 refine ⟨en Tryz.func92 Tryz.ntmps92 (St.init w) (h := fun F => ?_)⟩
 refine sr ?_
 refine bxA (h := fun b0 => ?_)
 refine bxA (h := fun b1 => ?_)
 refine al (h := fun b2 => ?_)
 refine nr ?_
 iterate 11 refine ww ?_
 first | refine stA (h := ?_) | refine stEA (h := ?_)
 refine nq ?_
 refine rtn ?_
 refine q_ret (hR := ?_)
 exact fun w hS => ⟨rfl, hS.sub slz_⟩
theorem C_lines_large (v : View) (A : Option Addr) (n c : Nat) (x y : Int) (w : World) : C0 Tryz.prog 94 [v.val A n c, .agg #[.int .i64 x, .int .i64 y]] w (Mark.val ⟨x, y, v.hxh, v.hyh⟩) := by
 refine ⟨en Tryz.func94 Tryz.ntmps94 (St.init w) (h := fun F => ?_)⟩
 refine sr ?_
 refine bxA (h := fun b0 => ?_)
 refine bxA (h := fun b1 => ?_)
 refine al (h := fun b2 => ?_)
 refine nr ?_
 iterate 11 refine ww ?_
 first | refine stA (h := ?_) | refine stEA (h := ?_)
 refine nq ?_
 refine rtn ?_
 refine q_ret (hR := ?_)
 exact fun w hS => ⟨rfl, hS.sub slz_⟩

theorem C_IndexFuncS {A : Option Addr} {n c : Nat} {es : List (List Value)} {g : FuncId} (hg : FnOk Tryz.prog g) (fi cap : List Value) (Lp : List Ent) (p : Nat → Bool) (hn : n ≤ 9223372036854775807)
  (hp : ∀ k cs, es[k]? = some cs → Tr Tryz.prog g (fi ++ [.agg cs.toArray] ++ cap) (.ro A 4 n es :: Lp) (fun _ : Unit => True) (fun _ => .bool (p k)) (fun _ => .ro A 4 n es :: Lp)) :
  Tr Tryz.prog 186 [.slice A n c, .func (.func g) fi.toArray cap.toArray] (.ro A 4 n es :: Lp) (FstL p n) (fun j => .int .i64 j) (fun _ => .ro A 4 n es :: Lp) := by
 refine ⟨fun w0 w R hst => ?_⟩
 have hlen : es.length = n := (hst.ok (.ro A 4 n es) (by simp)).len
 refine en Tryz.func186 Tryz.ntmps186 hst (h := fun F => ?_)
 refine sr ?_
 refine ww ?_
 refine nq ?_
 refine sq ?_
 refine sr ?_
 iterate 3 refine ww ?_
 refine nq ?_
 refine bk ?_
 refine lp (X := Nat) (I := fun k => k ≤ n ∧ ∀ i, i < k → p i = false) (le := fun k => [(0, .slice A n c), (1, .func (.func g) fi.toArray cap.toArray), (7, .int .i64 n), (8, .int .i64 k)]) (Le := fun _ => .ro A 4 n es :: (Lp ++ R)) (μ := fun k => n - k) 0 ⟨by omega, fun i hi => by omega⟩ sbz_ (SubL.refl _) (fun k hk => ?_)
 obtain ⟨hk, hall⟩ := hk
 refine sr ?_
 refine ww ?_
 refine nq ?_
 refine sq ?_
 refine czz (fun h0 => ?_) fun h0 => ?_
 ·
  have hkn : k < n := by simp only [decide_eq_true_eq] at h0; omega
  have hes : es[k]? = some es[k] := List.getElem?_eq_getElem (by omega)
  refine skp ?_
  refine q_seq ?_
  refine sq ?_
  refine bk ?_
  refine sr ?_
  iterate 2 refine ww ?_
  refine nr ?_
  iterate 3 refine ww ?_
  refine wy ix ?_
  refine wy (ldEW (k := k) (cs := es[k]) (hk := hes)) ?_
  refine clfT hg (fi := fi) (cap := cap) (by exact rfl) (by repeat (first | exact Evs.nil | (apply Evs.cons; exact rfl))) (hp k _ hes) rfl (Spl.cons .here (Spl.app _ _)) (h := fun _ _ => ?_)
  refine nq ?_
  refine czz (fun h1 => ?_) fun h1 => ?_
  ·
   refine sr ?_
   iterate 2 refine ww ?_
   refine nq ?_
   refine rtn ?_
   refine q_blk_ret ?_
   iterate 2 refine q_then_ret ?_
   refine q_blk_ret ?_
   refine q_then_ret ?_
   refine q_ret (hR := ?_)
   exact fun w hS => ⟨_, .inl ⟨k, hkn, rfl, by assumption, hall⟩, rfl, hS⟩
  ·
   refine skp ?_
   refine q_blk_norm ?_
   refine q_seq ?_
   refine rg ?_
   iterate 2 refine ww ?_
   refine nl ?_
   refine rn (k + 1) ⟨by omega, fun i hi => ?_⟩ (by omega) sbz_ (SubL.refl _)
   rcases Nat.lt_succ_iff_lt_or_eq.1 hi with h | rfl
   ·
    exact hall i h
   ·
    assumption
 ·
  have hkn : k = n := by simp only [decide_eq_false_iff_not] at h0; omega
  refine et ?_
  iterate 2 refine q_then_exit ?_
  refine q_blk_hit ?_
  refine q_seq ?_
  refine sr ?_
  refine ww ?_
  refine nq ?_
  refine rtn ?_
  refine q_ret (hR := ?_)
  exact fun w hS => ⟨_, .inr ⟨rfl, by subst hkn; exact hall⟩, rfl, hS⟩

theorem C_ContainsFuncS {A : Option Addr} {n c : Nat} {es : List (List Value)} {g : FuncId} (hg : FnOk Tryz.prog g) (fi cap : List Value) (Lp : List Ent) (p : Nat → Bool) (hn : n ≤ 9223372036854775807)
  (hp : ∀ k cs, es[k]? = some cs → Tr Tryz.prog g (fi ++ [.agg cs.toArray] ++ cap) (.ro A 4 n es :: Lp) (fun _ : Unit => True) (fun _ => .bool (p k)) (fun _ => .ro A 4 n es :: Lp)) :
  Tr Tryz.prog 128 [.slice A n c, .func (.func g) fi.toArray cap.toArray] (.ro A 4 n es :: Lp) (fun _ : Unit => True) (fun _ => .bool ((List.range n).any p)) (fun _ => .ro A 4 n es :: Lp) := by
 refine ⟨fun w0 w R hst => ?_⟩
 refine en Tryz.func128 Tryz.ntmps128 hst (h := fun F => ?_)
 refine sr ?_
 refine ww ?_
 refine nr ?_
 iterate 2 refine ww ?_
 refine clT (hc := C_IndexFuncS hg fi cap Lp p hn hp) (hs := Spl.cons .here (Spl.app _ _)) (h := fun x0 hx0 => ?_)
 iterate 2 refine ww ?_
 refine nq ?_
 refine rtn ?_
 refine q_ret (hR := ?_)
 exact fun w hS => ⟨(), trivial, by simp only [resV, hx0.any], hS⟩

theorem C_lines_Check1 (s : Strip) (w : World) : C0 Tryz.prog 129 [.agg s.enc.toArray] w (.bool (!iStrip s)) := by
 refine ⟨en Tryz.func129 Tryz.ntmps129 (St.init w) (h := fun F => ?_)⟩
 refine sr ?_
 refine bxA (h := fun b0 => ?_)
 refine ww ?_
 refine nr ?_
 refine ww ?_
 refine cl0 (hc := fun w hS => C_lines_isStrip ..) (h := ?_)
 iterate 2 refine ww ?_
 refine nq ?_
 refine rtn ?_
 refine q_ret (hR := ?_)
 exact fun w hS => ⟨rfl, hS.sub slz_⟩

theorem Tr.of0 {P : Program} {f : FuncId} {vs : List Value} {Lp : List Ent} {v : Value} (h : ∀ w, C0 P f vs w v) : Tr P f vs Lp (fun _ : Unit => True) (fun _ => v) (fun _ => Lp) :=
 ⟨fun w0 w R hst => Calls.mono (h w).out fun e w' ⟨he, hs⟩ => ⟨(), trivial, he, by simpa using hst.join hs rfl⟩⟩

theorem C_lines_Check (v : View) (A : Option Addr) (n c : Nat) (w : World) (h : Rd w A 4 n v.enc) (hn : n ≤ 9223372036854775807) : C0 Tryz.prog 86 [v.val A n c] w (.int .i64 (chkV v)) := by
 have hlen : v.strips.length = n := by have := h.len; simpa using this
 have hany : (List.range n).any (pAtL v.strips fun s => !iStrip s) = v.strips.any (fun s => !iStrip s) := by rw [← hlen]; exact pAt_anyL ..
 refine ⟨en Tryz.func86 Tryz.ntmps86 ((St.init w).share (e := .ro A 4 n v.enc) h rfl rfl rfl) (h := fun F => ?_)⟩
 refine sr ?_
 refine bxA (h := fun b0 => ?_)
 refine ww ?_
 refine nr ?_
 iterate 2 refine ww ?_
 refine clT (hc := C_ContainsFuncS (g := 129) inferInstance [] [] [] (pAtL v.strips fun s => !iStrip s) hn (fun k cs hk => by
  obtain ⟨s, hs, rfl⟩ := enc_atL hk
  rw [pAt_eqL hs]
  exact Tr.of0 fun w => C_lines_Check1 s w)) (hs := by apply Spl.cons; (repeat (first | exact At.here | apply At.there)); exact Spl.nil) (h := fun _ _ => ?_)
 rw [hany]
 subst hlen
 refine ww ?_
 refine nq ?_
 refine sq ?_
 refine sr ?_
 iterate 2 refine ww ?_
 apply brOr 5 8 13 (by exact rfl)
 ·
  intro hb0
  iterate 4 refine uw ?_
  refine ww ?_
  exact mg (by repeat (first | exact trivial | refine ⟨rfl, ?_⟩ | refine ⟨by rw [hb0]; rfl, ?_⟩)) slz_
 ·
  intro hb0
  repeat (first | refine uz ?_ | refine kz ?_ | refine wz ?_)
  exact mg (by repeat (first | exact trivial | refine ⟨rfl, ?_⟩ | refine ⟨by rw [hb0]; rfl, ?_⟩)) slz_
 refine ww ?_
 apply brOr 5 14 19 (by exact rfl)
 ·
  intro hb1
  iterate 2 refine uw ?_
  refine uz ?_
  refine cl0 (hc := fun w hS => C_lines_within ..) (h := ?_)
  refine uw ?_
  refine ww ?_
  exact mg (by repeat (first | exact trivial | refine ⟨rfl, ?_⟩ | refine ⟨by rw [hb1]; rfl, ?_⟩)) slz_
 ·
  intro hb1
  repeat (first | refine uz ?_ | refine kz ?_ | refine wz ?_)
  exact mg (by repeat (first | exact trivial | refine ⟨rfl, ?_⟩ | refine ⟨by rw [hb1]; rfl, ?_⟩)) slz_
 refine ww ?_
 apply brOr 5 20 25 (by exact rfl)
 ·
  intro hb2
  iterate 2 refine uw ?_
  refine uz ?_
  refine cl0 (hc := fun w hS => C_lines_within ..) (h := ?_)
  refine uw ?_
  refine ww ?_
  exact mg (by repeat (first | exact trivial | refine ⟨rfl, ?_⟩ | refine ⟨by rw [hb2]; rfl, ?_⟩)) slz_
 ·
  intro hb2
  repeat (first | refine uz ?_ | refine kz ?_ | refine wz ?_)
  exact mg (by repeat (first | exact trivial | refine ⟨rfl, ?_⟩ | refine ⟨by rw [hb2]; rfl, ?_⟩)) slz_
 refine ww ?_
 apply brOr 5 26 31 (by exact rfl)
 ·
  intro hb3
  iterate 2 refine uw ?_
  refine uz ?_
  refine cl0 (hc := fun w hS => C_lines_isSpan ..) (h := ?_)
  refine uw ?_
  refine ww ?_
  exact mg (by repeat (first | exact trivial | refine ⟨rfl, ?_⟩ | refine ⟨by rw [hb3]; rfl, ?_⟩)) slz_
 ·
  intro hb3
  repeat (first | refine uz ?_ | refine kz ?_ | refine wz ?_)
  exact mg (by repeat (first | exact trivial | refine ⟨rfl, ?_⟩ | refine ⟨by rw [hb3]; rfl, ?_⟩)) slz_
 refine ww ?_
 apply brOr 5 32 37 (by exact rfl)
 ·
  intro hb4
  iterate 2 refine uw ?_
  refine uz ?_
  refine cl0 (hc := fun w hS => C_lines_isSpan ..) (h := ?_)
  refine uw ?_
  refine ww ?_
  exact mg (by repeat (first | exact trivial | refine ⟨rfl, ?_⟩ | refine ⟨by rw [hb4]; rfl, ?_⟩)) slz_
 ·
  intro hb4
  repeat (first | refine uz ?_ | refine kz ?_ | refine wz ?_)
  exact mg (by repeat (first | exact trivial | refine ⟨rfl, ?_⟩ | refine ⟨by rw [hb4]; rfl, ?_⟩)) slz_
 refine nq ?_
 refine czz (fun h5 => ?_) fun h5 => ?_
 ·
  refine sr ?_
  refine ww ?_
  refine nq ?_
  refine rtn ?_
  refine q_then_ret ?_
  refine q_ret (hR := ?_)
  exact fun w hS => ⟨cdT' (fun x : Int => Ending.returned (Value.int .i64 x)) h5, hS.sub slz_⟩
 ·
  refine skp ?_
  refine q_seq ?_
  refine sr ?_
  refine ww ?_
  refine nq ?_
  refine rtn ?_
  refine q_ret (hR := ?_)
  exact fun w hS => ⟨cdF' (fun x : Int => Ending.returned (Value.int .i64 x)) h5, hS.sub slz_⟩

theorem C_lines_wrong (v : View) (A : Option Addr) (n c : Nat) (x y : Int) (w : World) (h : Rd w A 4 n v.enc) (hv : v.Near) (hx : 0 ≤ x ∧ x ≤ 40) (hy : 0 ≤ y ∧ y ≤ 40) :
  CR Tryz.prog 188 [v.val A n c, .int .i64 x, .int .i64 y] w (fun _ : Option Addr × Nat => True) (fun p => .slice p.1 (wrongs v x y).length p.2) (fun p => [.own p.1 p.2 3 1 (wrongs v x y).length (encIL (wrongs v x y))]) := by
 have hlen : v.strips.length = n := by have := h.len; simpa using this
 have hn8 := hv.len
 refine ⟨en Tryz.func188 Tryz.ntmps188 ((St.init w).share (e := .ro A 4 n v.enc) h rfl rfl rfl) (h := fun F => ?_)⟩
 refine sr ?_
 refine bxA (h := fun b0 => ?_)
 refine ww ?_
 refine nr ?_
 refine ww ?_
 refine nq ?_
 iterate 2 refine sq ?_
 refine WC.nilOwn 3 1 (h := ?_)
 refine rg ?_
 iterate 4 refine ww ?_
 refine nq ?_
 refine bk ?_
 refine lp (X := LS) (I := fun z => z.k ≤ n ∧ z.es = encIL (wrongTo v.strips x y z.k) ∧ z.m = (wrongTo v.strips x y z.k).length) (le := fun z => [(1, .int .i64 x), (2, .int .i64 y), (3, .pointer (some ⟨b0, 0, none⟩)), (7, .slice z.A z.m z.c), (11, .slice A n c), (12, .int .i64 n), (13, .int .i64 z.k)]) (Le := fun z => [.own z.A z.c 3 1 z.m z.es, .ro A 4 n v.enc, .blk b0 59 (v.cells A n c)]) (μ := fun z => n - z.k) ⟨0, 0, [], none, 0⟩ ⟨by simp, rfl, rfl⟩ sbz_ slz_ (fun z hz => ?_)
 obtain ⟨hk, hes, hm⟩ := hz
 have hml := wrongTo_len v.strips x y z.k
 refine sr ?_
 refine ww ?_
 refine nq ?_
 refine sq ?_
 refine czz (fun h0 => ?_) fun h0 => ?_
 ·
  have hkn : z.k < n := by simp only [decide_eq_true_eq] at h0; omega
  obtain ⟨s, hs⟩ : ∃ s, v.strips[z.k]? = some s := ⟨_, List.getElem?_eq_getElem (by omega)⟩
  have hse : v.enc[z.k]? = some s.enc := by simp [View.enc, hs]
  have hsl := hv.slope s (List.mem_of_getElem? hs)
  have hsx := mul_abs hsl.1 hsl.2.1 hx
  have hsy := mul_abs hsl.2.2.1 hsl.2.2.2 hy
  refine skp ?_
  refine q_seq ?_
  refine sq ?_
  refine bk ?_
  refine sr ?_
  refine ww ?_
  refine wy (ix (hb := by omega)) ?_
  refine wy (ldEW (k := z.k) (cs := s.enc) (hk := hse)) ?_
  refine al (h := fun b1 => ?_)
  refine ww ?_
  first | refine stA (h := ?_) | refine stEA (h := ?_)
  refine nr ?_
  iterate 13 refine ww ?_
  refine cl0 (hc := fun w hS => C_lines_within ..) (h := ?_)
  refine ww ?_
  refine nq ?_
  refine czz (fun h1 => ?_) fun h1 => ?_
  ·
   have h1 : miss s x y = true := h1
   refine rg ?_
   iterate 2 refine ww ?_
   refine bs (h := fun b2 => ?_)
   first | refine ap (h := fun A1 c1 => ?_) | refine ap0 (h := fun A1 c1 => ?_)
   refine ww ?_
   refine nl ?_
   refine q_blk_norm ?_
   refine q_seq ?_
   refine rg ?_
   iterate 2 refine ww ?_
   refine nl ?_
   first
    | refine rn (x := z) ⟨z.k + 1, z.m + 1, z.es ++ [[.int .i64 z.k]], _, _⟩ ⟨by dsimp only; omega, by dsimp only; rw [wrongTo_succ hs, h1, hes, encI_app]; rfl, by dsimp only; rw [wrongTo_succ hs, h1, hm, cond_true, List.length_append]; rfl⟩ (by dsimp only; omega) sbz_ slz_
    | refine rn (x := z) ⟨z.k + 1, z.m, z.es, z.A, z.c⟩ ⟨by dsimp only; omega, by dsimp only; rw [wrongTo_succ hs, h1, hes]; rfl, by dsimp only; rw [wrongTo_succ hs, h1, hm]; rfl⟩ (by dsimp only; omega) sbz_ slz_
  ·
   have h1 : miss s x y = false := h1
   refine skp ?_
   refine q_blk_norm ?_
   refine q_seq ?_
   refine rg ?_
   iterate 2 refine ww ?_
   refine nl ?_
   first
    | refine rn (x := z) ⟨z.k + 1, z.m + 1, z.es ++ [[.int .i64 z.k]], _, _⟩ ⟨by dsimp only; omega, by dsimp only; rw [wrongTo_succ hs, h1, hes, encI_app]; rfl, by dsimp only; rw [wrongTo_succ hs, h1, hm, cond_true, List.length_append]; rfl⟩ (by dsimp only; omega) sbz_ slz_
    | refine rn (x := z) ⟨z.k + 1, z.m, z.es, z.A, z.c⟩ ⟨by dsimp only; omega, by dsimp only; rw [wrongTo_succ hs, h1, hes]; rfl, by dsimp only; rw [wrongTo_succ hs, h1, hm]; rfl⟩ (by dsimp only; omega) sbz_ slz_
 ·
  have hkn : z.k = n := by simp only [decide_eq_false_iff_not] at h0; omega
  refine et ?_
  iterate 2 refine q_then_exit ?_
  refine q_blk_hit ?_
  refine q_seq ?_
  refine sr ?_
  iterate 2 refine ww ?_
  refine nq ?_
  refine rtn ?_
  refine q_ret (hR := ?_)
  exact fun w hS => ⟨(z.A, z.c), trivial, by rw [hm, hkn, ← hlen]; rfl, by rw [hm, hkn, hes, hkn, ← hlen] at hS; exact hS.sub slz_⟩

theorem C_lines_all (v : View) (A : Option Addr) (n c : Nat) (w : World) : CR Tryz.prog 133 [v.val A n c] w (fun _ : Nat => True) (fun b => .func (.func 187) #[] #[.pointer (some ⟨b, 0, none⟩)]) (fun b => [.blk b 59 (v.cells A n c)]) := by
 refine ⟨en Tryz.func133 Tryz.ntmps133 (St.init w) (h := fun F => ?_)⟩
 refine sr ?_
 refine bxA (h := fun b0 => ?_)
 refine ww ?_
 refine nr ?_
 iterate 2 refine ww ?_
 refine nq ?_
 refine rtn ?_
 refine q_ret (hR := ?_)
 exact fun w hS => ⟨_, trivial, rfl, hS⟩
end Go.Proofs.YthkliiifllhacaaGreat
