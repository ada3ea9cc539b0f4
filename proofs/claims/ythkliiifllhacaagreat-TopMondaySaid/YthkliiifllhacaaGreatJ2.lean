/- The texts of the walk, part 2. -/
import Derived.Test.YthkliiifllhacaaGreatJ1
import Derived.Test.YthkliiifllhacaaGreatProg
import Derived.KernelRfl
import Derived.Maps.RangeRun
namespace Go.Proofs.YthkliiifllhacaaGreat
open Go Go.RowKit

structure It2 (P : Program) (f : FuncId) (mk : Value → List Value) (Lp : List Ent) (N : Nat) {X : Type} (φ : Nat → X → Prop) (ya : Nat → X → List Value) (yL : Nat → X → List Ent) : Prop where
  out : ∀ {Y : Type} (ψ : Nat → Y → Prop) (J : Nat → Y → List Ent) (ψx : Y → Prop) (Jx : Y → List Ent) (w0 w : World) (lb : Nat) (y0 : Y), ψ 0 y0 → St w0 w (Lp ++ J 0 y0) →
    (∀ R k x y w, k < N → φ k x → ψ k y → St w0 w (yL k x ++ (Lp ++ (J k y ++ R))) → RoundOf P lb (ya k x) w (RR ψ (fun k y => J k y ++ R) ψx (fun y => Jx y ++ R) Lp w0 k)) →
    Calls P f (mk (.func (.yield lb) #[] #[])).toArray w fun e w' => ∃ v, e = .returned v ∧ ((∃ y, ψ N y ∧ St w0 w' (Lp ++ J N y)) ∨ ∃ y, ψx y ∧ St w0 w' (Lp ++ Jx y))

section rules
variable {P : Program} {ops : Array Oper} {Q : Exit → Act → World → Prop} {rest : List Oper} {n : Nat} {D : List Deferred} {l : Env} {w0 : World} {L M : List Ent}
theorem rf2 {f : FuncId} (hf : FnOk P f) {g : Operand} {ps : List Nat} {assign body : Code} {fi cap : List Value} {Lp : List Ent} {N : Nat} {X Y : Type} {φ : Nat → X → Prop} {ya : Nat → X → List Value} {yL : Nat → X → List Ent}
    (ψ : Nat → Y → Prop) (J : Nat → Y → List Ent) (ψx : Y → Prop) (jx : Y → Code) (Jx : Y → List Ent) (y0 : Y)
    (hit : It2 P f (fun v => fi ++ [v] ++ cap) Lp N φ ya yL) (hx : ev l g = some (.func (.func f) fi.toArray cap.toArray)) (hlen : ∀ k x, (ya k x).length = ps.length) (hps : ps.all (fun p => Nat.blt p n) = true)
    (h0 : ψ 0 y0) (hL : SubL (Lp ++ J 0 y0) L)
    (hround : ∀ (R : List Ent) (fn : FuncId) (tmps : Array Value) (lb rb : Nat) (k : Nat) (x : X) (y : Y), k < N → φ k x → ψ k y →
      WC (Fence.wide.inRound lb) P assign (Exit.then (BR P lb body (roundPost P lb (RR ψ (fun k y => .obj lb (.loop (recd fn tmps ps.toArray assign body rb .ready none)) :: .obj rb (.deferred (some [])) :: (J k y ++ R)) ψx
          (fun y => .obj lb (.loop (recd fn tmps ps.toArray assign body rb .done (some (jx y)))) :: .obj rb (.deferred (some [])) :: (Jx y ++ R)) Lp w0 k))) NoQ) n [] (zipE ps (ya k x) l) w0
        (yL k x ++ (Lp ++ (.obj lb (.loop (recd fn tmps ps.toArray assign body rb .ready none)) :: .obj rb (.deferred (some [])) :: (J k y ++ R)))))
    (hdone : ∀ rb y, ψ N y → WQ Fence.wide P Q .normal n (mark rb :: D) l w0 (.obj rb (.deferred (some [])) :: (Lp ++ J N y)))
    (hjump : ∀ rb y, ψx y → WC Fence.wide P (jx y) Q n (mark rb :: D) l w0 (.obj rb (.deferred (some [])) :: (Lp ++ Jx y))) : WC Fence.wide P (.rangeFunc g ps.toArray assign body) Q n D l w0 L := by
  intro hF a w hfr hst
  have hst0 := hst.sub hL
  refine wpIn_rangeFunc fun fn _ => ?_
  obtain ⟨W, hW⟩ : ∃ W, (w.alloc (.deferred (some []))).alloc (.loop { state := .ready, pending := none, fn, tmps := a.tmps, params := ps.toArray, assign, body, defers := w.heap.size }) = W := ⟨_, rfl⟩
  refine ⟨w.heap.size + 1, [{ target := .collected w.heap.size, args := #[] }], W, { target := .fn (.func f) cap.toArray, args := fi.toArray ++ #[Value.func (.yield (w.heap.size + 1)) #[] #[]] }, W, f, (fi ++ [Value.func (.yield (w.heap.size + 1)) #[] #[]] ++ cap).toArray, W,
    by rw [← hW]; exact run_enterLoop_outer fn a.tmps ps.toArray assign body, ?_, fun _ _ => trivial, ?_, fun h => (by cases h), ?_⟩
  · simp [resolve, Deferred.ofValue, hfr.eval hx]
    rfl
  · have := run_callFunc hf (fi ++ [Value.func (.yield (w.heap.size + 1)) #[] #[]] ++ cap).toArray W
    simpa [invoke] using this
  · subst hW
    have hst1 := (hst0.allocObj (.deferred (some []))).allocObj (.loop (recd fn a.tmps ps.toArray assign body w.heap.size .ready none))
    rw [World.size_alloc] at hst1
    have hsub : SubL (Lp ++ (.obj (w.heap.size + 1) (.loop (recd fn a.tmps ps.toArray assign body w.heap.size .ready none)) :: .obj w.heap.size (.deferred (some [])) :: J 0 y0))
        (.obj (w.heap.size + 1) (.loop (recd fn a.tmps ps.toArray assign body w.heap.size .ready none)) :: .obj w.heap.size (.deferred (some [])) :: (Lp ++ J 0 y0)) := by
      have : ∀ (A B : List Ent) (e e' : Ent), SubL (A ++ (e :: e' :: B)) (e :: e' :: (A ++ B)) := by
        intro A B e e'
        induction A with
        | nil => exact SubL.refl _
        | cons x A ih => exact .cons (.there (.there .here)) ih
      exact this ..
    refine callsIn_wide.2 (Calls.mono (hit.out ψ (fun k y => .obj (w.heap.size + 1) (.loop (recd fn a.tmps ps.toArray assign body w.heap.size .ready none)) :: .obj w.heap.size (.deferred (some [])) :: J k y) ψx (fun y => .obj (w.heap.size + 1) (.loop (recd fn a.tmps ps.toArray assign body w.heap.size .done (some (jx y)))) :: .obj w.heap.size (.deferred (some [])) :: Jx y) w0 _ (w.heap.size + 1) y0 h0 (hst1.sub hsub) ?_) ?_)
    · intro R k x y w1 hk hφ hψ hs1
      have hrec : w1.heap[w.heap.size + 1]? = some (.loop (recd fn a.tmps ps.toArray assign body w.heap.size .ready none)) := hs1.ok (.obj (w.heap.size + 1) (.loop (recd fn a.tmps ps.toArray assign body w.heap.size .ready none))) (by simp)
      refine ⟨_, _, _, _, run_yield hrec (by simp [recd, hlen]), ?_⟩
      refine roundIn_of_wpIn trivial ?_
      have hfr1 : Fr ⟨a.tmps, []⟩ n [] l := ⟨hfr.size, hfr.slot, rfl⟩
      have hfr2 := Fr.params ps (ya k x) a.tmps l hfr1 hps
      have := hround R fn a.tmps (w.heap.size + 1) w.heap.size k x y hk hφ hψ (freeRound _) _ w1 hfr2 hs1
      unfold BR NoQ at this
      simpa [recd] using this
    · rintro e w' ⟨v, rfl, hend⟩
      rcases hend with ⟨y, hψ, hs⟩ | ⟨y, hψ, hs⟩
      · have hp := hs.pull (e := .obj (w.heap.size + 1) (.loop (recd fn a.tmps ps.toArray assign body w.heap.size .ready none))) (M := Lp ++ (.obj w.heap.size (.deferred (some [])) :: J N y)) (by
          have : ∀ (A B : List Ent) (e : Ent), At (A ++ (e :: B)) e (A ++ B) := by
            intro A B e
            induction A with
            | nil => exact .here
            | cons x A ih => exact .there ih
          exact this ..)
        refine ⟨_, _, run_endLoop hp.objAt (by simp [recd]), ?_⟩
        have hs2 := (hp.putObj (.loop (recd fn a.tmps ps.toArray assign body w.heap.size .exhausted none))).tail
        have hs3 := hs2.pull (e := .obj w.heap.size (.deferred (some []))) (M := Lp ++ J N y) (by
          have : ∀ (A B : List Ent) (e : Ent), At (A ++ (e :: B)) e (A ++ B) := by
            intro A B e
            induction A with
            | nil => exact .here
            | cons x A ih => exact .there ih
          exact this ..)
        exact hdone w.heap.size y hψ hF _ _ ⟨hfr.size, hfr.slot, by simp [mark, hfr.defers]⟩ hs3
      · have hp := hs.pull (e := .obj (w.heap.size + 1) (.loop (recd fn a.tmps ps.toArray assign body w.heap.size .done (some (jx y))))) (M := Lp ++ (.obj w.heap.size (.deferred (some [])) :: Jx y)) (by
          have : ∀ (A B : List Ent) (e : Ent), At (A ++ (e :: B)) e (A ++ B) := by
            intro A B e
            induction A with
            | nil => exact .here
            | cons x A ih => exact .there ih
          exact this ..)
        refine ⟨_, _, run_endLoop hp.objAt (by simp [recd]), ?_⟩
        have hs2 := (hp.putObj (.loop (recd fn a.tmps ps.toArray assign body w.heap.size .exhausted (some (jx y))))).tail
        have hs3 := hs2.pull (e := .obj w.heap.size (.deferred (some []))) (M := Lp ++ Jx y) (by
          have : ∀ (A B : List Ent) (e : Ent), At (A ++ (e :: B)) e (A ++ B) := by
            intro A B e
            induction A with
            | nil => exact .here
            | cons x A ih => exact .there ih
          exact this ..)
        exact hjump w.heap.size y hψ hF _ _ ⟨hfr.size, hfr.slot, by simp [mark, hfr.defers]⟩ hs3


end rules
section rules2
variable {F : Fence} {P : Program} {ops : Array Oper} {Q : Exit → Act → World → Prop} {rest : List Oper} {n : Nat} {D : List Deferred} {l : Env} {w0 : World} {L M : List Ent}
variable {d : Nat} {ty : TypeId} {pos : String} {aft : Array Edge}
theorem apIn {s x : Operand} {t T : TypeId} (hT : SliceTy P t T := by infer_instance) {agg : Bool} {size bytes : Nat} {z : Value} {zl : List Value} (hE : Ty P T agg size bytes z zl := by infer_instance) (hs1 : size = 1 := by rfl) {A2 : Option Addr} {g c c2 m : Nat} {cs : List Value} {v : Value}
    (ha : At L (.blk g T cs) M) (hr : Rds M A2 1 1 [[v]]) (h1 : v.oneCell' = true := by rfl) (hroom : m + 1 ≤ c) (hlen : c ≤ cs.length) (hs : ev l s = some (.slice (some ⟨g, 0, none⟩) m c) := by exact rfl) (hx : ev l x = some (.slice A2 1 c2) := by exact rfl)
    (hd : Nat.blt d n = true := by rfl)
    (h : WL F P ops Q rest n D ((d, .slice (some ⟨g, 0, none⟩) (m + 1) c) :: l) w0 (.blk g T (cs.set m v) :: M)) :
    WL F P ops Q (⟨some d, .call { callee := .builtin .append, args := #[s, x], argTypes := #[t, t] }, ty, pos, aft, none⟩ :: rest) n D l w0 L :=
  WL.value (X := Unit) (φ := fun _ => True) (val := fun _ => .slice (some ⟨g, 0, none⟩) (m + 1) c) (L' := fun _ => .blk g T (cs.set m v) :: M) (by simp) hd (fun ac w hfr hst => by
    have hp := hst.pull ha
    subst hs1
    have hrd := hp.tail.get hr
    obtain ⟨a, rfl⟩ := hrd.some_ (by omega)
    have hnews : ∀ j u, [v][j]? = some u → w.cell? (a.add j) = some u := fun j u hj => by
      cases j with
      | zero =>
        have := hrd.cell a rfl 0 [v] rfl 0 v rfl
        simp at hj; subst hj
        simpa using this
      | succ j => simp at hj
    have hfc := run_firstCells_some (P := P) w 1 1 a 1 c2 [v] rfl hnews
    obtain ⟨w', hrs, hs'⟩ := run_storeCells (P := P) [v] cs m 0 w hp (fun _ => by simp; omega) (fun u hu => by simp at hu; subst hu; exact h1)
    rw [Nat.add_zero] at hs'
    have hput : putAll cs m [v] = cs.set m v := by simp [putAll]
    rw [hput] at hs'
    refine ⟨(), w', trivial, ?_, hs'⟩
    have hadd : (⟨g, 0, none⟩ : Addr).add m = ⟨g, m, none⟩ := by rw [add_lit, Nat.zero_add]
    simp [execOp, resolve, invoke, builtin, hfr.eval hs, hfr.eval hx, Builtin.append_, run_underlying hT.und, run_sizeOf hE, Builtin.lenOf, hroom, hfc, hadd, hrs]) (fun _ _ => h)
theorem mkc {x y : Operand} {t T : TypeId} (m : Nat) (hT : SliceTy P t T := by infer_instance) {agg : Bool} {size bytes : Nat} {z : Value} {zl : List Value} (hE : Ty P T agg size bytes z zl := by infer_instance) {kl kc : IntKind} (hx : ev l x = some (.int kl 0) := by exact rfl) (hy : ev l y = some (.int kc (m : Int)) := by exact rfl)
    (hb : bytes * m ≤ 281474976710656 := by omega) (hlm : m ≤ 9223372036854775807 := by omega) (hpos : 0 < size := by omega) (hd : Nat.blt d n = true := by rfl)
    (h : ∀ b, WL F P ops Q rest n D ((d, .slice (some ⟨b, 0, none⟩) 0 m) :: l) w0 (.blk b T (List.replicate m zl).flatten :: L)) : WL F P ops Q (⟨some d, .makeSlice t x y, ty, pos, aft, none⟩ :: rest) n D l w0 L :=
  WL.value (X := Nat) (φ := fun _ => True) (val := fun b => .slice (some ⟨b, 0, none⟩) 0 m) (L' := fun b => .blk b T (List.replicate m zl).flatten :: L) (by simp) hd (fun ac w hfr hst => by
    obtain ⟨i, hi, hi1, hi2, h3⟩ := ty_info hE
    have hzl : zl.length = size := hE.zs
    have hmade : madeCells z.cells (m * i.size) = (List.replicate m zl).flatten.toArray := by
      rw [hi1, hE.zc, ← hzl]
      exact Array.toList_inj.1 (by rw [made_flat zl (by omega) m])
    have hrun := run_make (P := P) (w := w) t T i z hT.und hi h3 kl kc 0 (m : Int) (Int.le_refl _) (by omega) (by rw [hi2, ← Int.natCast_mul]; omega) (by omega)
    rw [Int.toNat_natCast, hmade] at hrun
    refine ⟨w.heap.size, w.alloc (.cells (List.replicate m zl).flatten.toArray T), trivial, ?_, by simpa using hst.alloc T (List.replicate m zl).flatten.toArray⟩
    simp [execOp, hfr.eval hx, hfr.eval hy, hrun]) (fun b _ => h b)
theorem clX {f : FuncId} (hf : FnOk P f) {x : Operand} {fi cap : List Value} {xs : List Operand} {vs : List Value} {ts : Array TypeId} {Z : Type} {Φ : Z → Prop} {val : Z → Value} {post : Z → List Ent}
    (hx : ev l x = some (.func (.func f) fi.toArray cap.toArray)) (hargs : Evs l xs vs) (hc : ∀ w, St w0 w L → Calls P f (fi ++ vs ++ cap).toArray w fun e w' => ∃ z, Φ z ∧ e = .returned (val z) ∧ St w0 w' (post z)) (hd : Nat.blt d n = true)
    (h : ∀ z, Φ z → WL F P ops Q rest n D ((d, val z) :: l) w0 (post z)) :
    WL F P ops Q (⟨some d, .call { callee := .value x, args := xs.toArray, argTypes := ts }, ty, pos, aft, none⟩ :: rest) n D l w0 L :=
  WL.enter (by simp) hd fun a w hfr hst => ⟨run_callF hf hx hargs hfr w, Calls.mono (hc w hst) fun e w' ⟨z, hz, he, hs⟩ => ⟨val z, he, _, hs, h z hz⟩⟩
theorem ctnL {X : Type} {I : X → Prop} {le : X → Env} {Le : X → List Ent} (x : X) (hs : Sub (le x) l) (hL : SubL (Le x) L) (hI : I x) : WQ F P (Exit.then (MI I le Le n D w0) Q) .normal n D l w0 L := ctn x hI hs hL
end rules2
end Go.Proofs.YthkliiifllhacaaGreat

namespace Go.Proofs.YthkliiifllhacaaGreat
open Go Go.RowKit

theorem St.clearN {w0 : World} {M : List Ent} {g cap : Nat} {T : TypeId} {n size : Nat} (h0 : 0 < size) : ∀ (vs : List Value) (i : Nat) (w : World) (es : List (List Value)), i + vs.length = n * size → (∀ v ∈ vs, v.oneCell' = true) → St w0 w (.own (some ⟨g, 0, none⟩) cap T size n es :: M) →
    ∃ es', St w0 (w.setCells g i vs) (.own (some ⟨g, 0, none⟩) cap T size n es' :: M) ∧ ∀ lo, lo * size ≤ i → es'.take lo = es.take lo
  | [], i, w, es, _, _, h => ⟨es, h, fun _ _ => rfl⟩
  | v :: vs, i, w, es, hi, h1, h => by
    have hlen : es.length = n := (h.ok (.own (some ⟨g, 0, none⟩) cap T size n es) (by simp)).2.len
    rw [List.length_cons] at hi
    have hk : i / size < n := by rw [Nat.div_lt_iff_lt_mul h0]; omega
    have he : es[i / size]? = some (es[i / size]'(by omega)) := List.getElem?_eq_getElem (by omega)
    obtain ⟨ad, had, _, _, hs⟩ := own_set h he (j := i % size) (v := v) (Nat.mod_lt _ h0) (h1 v (by simp))
    injection had with had; subst had
    have e : (⟨g, 0, none⟩ : Addr).add (i / size * size + i % size) = ⟨g, i, none⟩ := by
      rw [add_lit, Nat.mul_comm, Nat.div_add_mod]; simp
    rw [e] at hs
    obtain ⟨es', hs', ht⟩ := St.clearN h0 vs (i + 1) _ _ (by omega) (fun u hu => h1 u (by simp [hu])) hs
    refine ⟨es', hs', fun lo hlo => ?_⟩
    rw [ht lo (by omega), List.take_set_of_le]
    exact (Nat.le_div_iff_mul_le h0).2 hlo
theorem zeroCells_mem {zl : List Value} {n : Nat} (h0 : 0 < zl.length) {v : Value} (h : v ∈ (Builtin.zeroCells zl.toArray n).toList) : v ∈ zl := by
  simp only [Builtin.zeroCells, Array.toList_map, List.mem_map] at h
  obtain ⟨i, _, rfl⟩ := h
  have hm : i % zl.length < zl.length := Nat.mod_lt _ h0
  simp only [List.size_toArray]
  rw [getElem!_pos zl.toArray (i % zl.length) (by simpa using hm)]
  simp
theorem zeroCells_len (zl : List Value) (n : Nat) : (Builtin.zeroCells zl.toArray n).toList.length = n * zl.length := by
  simp [Builtin.zeroCells]
section rules
variable {F : Fence} {P : Program} {ops : Array Oper} {Q : Exit → Act → World → Prop} {rest : List Oper} {n : Nat} {D : List Deferred} {l : Env} {w0 : World} {L M : List Ent}
variable {d : Nat} {ty : TypeId} {pos : String} {aft : Array Edge}
theorem clrS {x : Operand} {t T : TypeId} (hT : SliceTy P t T := by infer_instance) {agg : Bool} {size bytes : Nat} {z : Value} {zl : List Value} (hE : Ty P T agg size bytes z zl := by infer_instance) (h1 : zl.all (·.oneCell') = true := by rfl) (h0 : 0 < size := by decide) {A : Option Addr} {m cap : Nat} (lo : Nat) {es : List (List Value)}
    (hx : ev l x = some (.slice (if cap = lo then A else A.map (·.add (lo * size))) (m - lo) (cap - lo)) := by exact rfl) (ha : At L (.own A cap T size m es) M := by repeat (first | exact At.here | apply At.there)) (hlo : lo < m)
    (h : ∀ es', es'.take lo = es.take lo → WL F P ops Q rest n D l w0 (.own A cap T size m es' :: M)) : WL F P ops Q (⟨none, .call { callee := .builtin .clear, args := #[x], argTypes := #[t] }, ty, pos, aft, none⟩ :: rest) n D l w0 L := by
  intro hF a w hfr hst
  have hst1 := hst.pull ha
  obtain ⟨hown, hrd⟩ := hst1.ok (.own A cap T size m es) (by simp)
  rcases hown.2 with ⟨hv, h0'⟩ | ⟨g, cap', cur, hv, hb, hg, g1, g2, g3, g4⟩
  · injection hv with e1 e2 e3
    have := hrd.len; have := hrd.some_ (by omega)
    obtain ⟨_, h⟩ := this
    rw [e1] at h; cases h
  injection hv with e1 e2 e3; subst e1 e3
  have hne : ¬ (cap = lo) := by
    have := hst1.room; omega
  have hzl : zl.length = size := hE.zs
  have hsum : lo * size + (Builtin.zeroCells zl.toArray (m - lo)).toList.length = m * size := by
    rw [zeroCells_len, hzl, ← Nat.add_mul]; congr 1; omega
  have hone : ∀ v ∈ (Builtin.zeroCells zl.toArray (m - lo)).toList, v.oneCell' = true := fun v hv => List.all_eq_true.1 h1 v (zeroCells_mem (by omega) hv)
  obtain ⟨es', hs', ht⟩ := St.clearN h0 _ (lo * size) w es hsum hone hst1
  have he := hfr.eval hx
  rw [if_neg hne] at he
  have hadd : (⟨g, 0, none⟩ : Addr).add (lo * size) = ⟨g, lo * size, none⟩ := by rw [add_lit]; simp
  have hst := run_storeCells_cells (P := P) g (lo * size) _ 0 w (fun j hj => by
      rw [zeroCells_len, hzl] at hj
      have hlt : lo * size + j < m * size := by rw [zeroCells_len, hzl] at hsum; omega
      have hk' : (lo * size + j) / size < m := by rw [Nat.div_lt_iff_lt_mul h0]; exact hlt
      have hk : es[(lo * size + j) / size]? = some (es[(lo * size + j) / size]'(by rw [hrd.len]; exact hk')) := List.getElem?_eq_getElem _
      have hl := hrd.each _ (List.mem_of_getElem? hk)
      have := hrd.cell _ rfl _ _ hk ((lo * size + j) % size) _ (List.getElem?_eq_getElem (by rw [hl]; exact Nat.mod_lt _ h0))
      rw [add_lit, Nat.mul_comm _ size, Nat.div_add_mod] at this
      simp at this
      simp [this]) (fun j hj => hown.frozenAt _) hone
  rw [Nat.add_zero] at hst
  have hrun : (Builtin.clear_ #[t] ty #[.slice (some ⟨g, lo * size, none⟩) (m - lo) (cap - lo)]).run P w = .ok (.tuple #[]) (w.setCells g (lo * size) (Builtin.zeroCells zl.toArray (m - lo)).toList) := by
    have hzv : (zeroValue T).run P w = .ok z w := run_zeroValue hE w
    obtain ⟨q, hq⟩ : ∃ q, m - lo = q + 1 := ⟨m - lo - 1, by omega⟩
    rw [hq] at hst ⊢
    simp [Builtin.clear_, run_underlying hT.und, hzv, hE.zc, hst]
  show (if _ then _ else _)
  rw [if_pos (by simp [Region.wanted])]
  refine ⟨fun f _ => hF.fn f, ?_⟩
  have hr : (execOp a.eval ⟨none, .call { callee := .builtin .clear, args := #[x], argTypes := #[t] }, ty, pos, aft, none⟩).run P w = .ok (.value (.tuple #[])) (w.setCells g (lo * size) (Builtin.zeroCells zl.toArray (m - lo)).toList) := by
    simp only [Option.map_some, hadd] at he
    simp [execOp, resolve, invoke, builtin, he, hrun]
  rw [semAt_plain (by simp), hr]
  exact h es' (ht lo (Nat.le_refl _)) hF _ _ (hfr.put_none _) hs'
end rules

section
variable {F : Fence} {P : Program} {Q : Exit → Act → World → Prop} {n : Nat} {D : List Deferred} {l : Env} {w0 : World} {L M M' M'' : List Ent}
end
end Go.Proofs.YthkliiifllhacaaGreat

namespace Go.Proofs.YthkliiifllhacaaGreat
open Go Go.RowKit

section
variable {P : Program}
theorem run_append_made {w : World} (t ty e ti : TypeId) (i : TypeInfo) (z : Value) (ht : P.underlying t = some (.slice e)) (hi : P.info? e = some i) (hz : i.zero = some z) (hti : P.underlying ti = some (.int .i64))
    (n : Nat) (h0 : 0 < n) (h63 : n ≤ 100000000) (h48 : n * i.bytes ≤ 281474976710656) (hs : 0 < i.size) :
    (Builtin.append_ #[t, ti] ty #[.slice none 0 0, .int .i64 (n : Int)]).run P w =
      .ok (.slice (some ⟨w.heap.size, 0, none⟩) n (grownCap w n 0 e)) (w.drew.alloc (.cells (Builtin.zeroCells z.cells n ++ Builtin.zeroCells z.cells (grownCap w n 0 e - n)) e)) := by
  have hn : n ≠ 0 := by omega
  have h63' : ¬ (9223372036854775807 < (n : Int)) := by omega
  have h48' : ¬ (281474976710656 < Builtin.nextslicecap n 0 * i.bytes) := by rw [nextslicecap_zero h0]; omega
  have hw : IntKind.i64.wrap (n : Int) = (n : Int) := IntWalk.i64_in _ (by omega)
  have hnn : ¬ ((n : Int) < 0) := by omega
  have h48i : ¬ (281474976710656 < (n : Int) * (i.bytes : Int)) := by
    have : (n : Int) * (i.bytes : Int) = ((n * i.bytes : Nat) : Int) := by rw [Int.natCast_mul]
    omega
  have hns : i.size ≠ 0 := by omega
  simp [Builtin.append_, run_underlying ht, run_underlying hti, sizeOf, typeInfo, zeroValue, hi, hz, asInt, asIntOf, hw, hnn, h48i, hn, hns, h63', h48', Question.forced, run_firstCells_none, newRow, grownCap]
  exact fun h => absurd h (Nat.mul_ne_zero hn hns)

def MapV (es : Array MapEntry) (ks : List Bool) (Pv : Value → Prop) (N : Nat) : Prop := ∃ kv, MapIs es kv ∧ (∀ p ∈ kv, shapeOf p.1 = ks ∧ Pv p.2) ∧ kv.length ≤ N
theorem mapV_nil (ks : List Bool) (Pv : Value → Prop) : MapV #[] ks Pv 0 := ⟨[], rfl, ⟨fun p hp => absurd hp List.not_mem_nil, Nat.le_refl _⟩⟩
theorem MapV.size {es : Array MapEntry} {ks : List Bool} {Pv : Value → Prop} {N : Nat} (h : MapV es ks Pv N) : es.size ≤ N := by
  obtain ⟨kv, h1, _, h3⟩ := h
  have := congrArg List.length h1
  simp at this
  omega
theorem lkp_in {kv : List (List Fl × Value)} {k : List Fl} {v : Value} (h : lkp kv k = some v) : ∃ p ∈ kv, p.2 = v := by
  unfold lkp at h
  cases e : kv.find? fun p => decide (k = p.1) with
  | none => rw [e] at h; cases h
  | some p =>
    rw [e] at h
    exact ⟨p, List.mem_of_find?_eq_some e, Option.some.inj h⟩
theorem idx_some {α : Type} {es : Array α} {p : α → Bool} {i : Nat} {e : α} (h : es[i]? = some e) (hp : p e = true) : ∃ j, es.findIdx? p = some j := by
  cases q : es.findIdx? p with
  | some j => exact ⟨j, rfl⟩
  | none =>
    have := Array.findIdx?_eq_none_iff.1 q e (Array.mem_of_getElem? h)
    rw [hp] at this; cases this
theorem run_mapEntryV {t kt e : TypeId} {ks : List Bool} {agg : Bool} {size bytes : Nat} {z : Value} {zl : List Value} (hT : MapTy P t kt e) (hK : FlatTy P kt ks) (hE : Ty P e agg size bytes z zl) {w : World} {b : Nat} {es : Array MapEntry} {c : Nat} (hb : w.heap[b]? = some (.map es c)) {Pv : Value → Prop} {N : Nat} (hm : MapV es ks Pv N) (hz : Pv z) {k : List Fl} (hk : shapeOf k = ks) :
    ∃ es' c' v s, (Instr.mapEntry t (.map (some b)) (.agg (fv k).toArray)).run P w = .ok (.tuple #[v, .int .i64 s]) (w.putObj b (.map es' c')) ∧ MapV es' ks Pv (N + 1) ∧ ∃ j, es'.findIdx? (fun e => (e.born : Int) == s) = some j := by
  obtain ⟨kv, hm1, hm2, hm3⟩ := hm
  obtain ⟨r, hr, hc⟩ := run_findKey hK hk es.toList kv w hm1 fun p hp => (hm2 p hp).1
  have hck := fun em => checkKeyF em 8 kt ks hK.flt 9992 k w hk
  simp only [fval, hK.agg, cond_true] at hck
  have hck' : ∀ em, (Instr.checkKey em 10000 kt (.agg (fv k).toArray)).run P w = .ok () w := hck
  unfold Instr.mapEntry
  simp only [Sem.run_bind, run_underlying hT.und, Result.andThen_ok, getMap hb, Sem.run_pure, hck', hr]
  rcases hc with ⟨rfl, h1, h2⟩ | ⟨j, u, e', rfl, h1, h3, h4, h5⟩
  · simp only [Sem.run_bind, run_zeroValue hE, Result.andThen_ok, putMap _ hb, Sem.run_pure]
    refine ⟨_, _, _, _, rfl, ⟨kv ++ [(k, z)], ?_, fun p hp => ?_, by rw [List.length_append]; simp; omega⟩, idx_some (i := es.size) (e := { key := .agg (fv k).toArray, val := z, born := c }) (by simp) (by simp)⟩
    · have hm' : es.toList.map (fun e => (e.key, e.val)) = kv.map fun p => (Value.agg (fv p.1).toArray, p.2) := hm1
      simp only [MapIs, Array.toList_push, List.map_append, hm', List.map_cons, List.map_nil]
    · rcases List.mem_append.1 hp with hp | hp
      · exact hm2 p hp
      · rw [List.mem_singleton.1 hp]; exact ⟨hk, hz⟩
  · have hj : es[j]? = some e' := by simpa using h3
    have hjl : j < es.size := (Array.getElem?_eq_some_iff.1 hj).1
    have hst : (Instr.keyThatStays (.agg (fv k).toArray) (.agg (fv k).toArray)).run P w = .ok (.agg (fv k).toArray) w := by
      simp [Instr.keyThatStays, sameBits_flat]
    simp only [hj, Option.map_some, Option.getD_some, h4, Sem.run_bind, hst, Result.andThen_ok, putMap _ hb, Sem.run_pure]
    have he : (es.modify j fun e => { e with key := .agg (fv k).toArray }).toList = es.toList := by
      rw [Array.toList_modify]
      refine List.ext_getElem? fun i => ?_
      rw [List.getElem?_modify]
      by_cases e : j = i
      · subst e
        rw [show es.toList[j]? = some e' from h3]
        simp [← h4]
      · simp [e]
    have he2 : es.modify j (fun e => { e with key := .agg (fv k).toArray }) = es := Array.toList_inj.1 he
    rw [he2]
    exact ⟨_, _, _, _, rfl, ⟨kv, hm1, hm2, by omega⟩, idx_some hj (by simp)⟩
theorem run_entryStoreV {t : TypeId} {ks : List Bool} {w : World} {b : Nat} {es : Array MapEntry} {c : Nat} (hb : w.heap[b]? = some (.map es c)) {Pv : Value → Prop} {N : Nat} (hm : MapV es ks Pv N) {s : Int} {j : Nat} (hj : es.findIdx? (fun e => (e.born : Int) == s) = some j) {x : Value} (hx : Pv x) :
    ∃ es', (Instr.entryStore t (.map (some b)) (.int .i64 s) x).run P w = .ok () (w.putObj b (.map es' c)) ∧ MapV es' ks Pv N := by
  obtain ⟨kv, hm1, hm2, hm3⟩ := hm
  unfold Instr.entryStore
  simp only [Sem.run_bind, Result.andThen_ok, getMap hb, Sem.run_pure, asInt, asIntOf, hj]
  refine ⟨_, putMap _ hb, kv.modify j (fun p => (p.1, x)), ?_, fun p hp => ?_, by rw [List.length_modify]; exact hm3⟩
  · have hm' : es.toList.map (fun e => (e.key, e.val)) = kv.map fun p => (Value.agg (fv p.1).toArray, p.2) := hm1
    show ((es.modify j fun e => { e with val := x }).toList.map fun e => (e.key, e.val)) = (kv.modify j fun p => (p.1, x)).map fun p => (Value.agg (fv p.1).toArray, p.2)
    rw [Array.toList_modify]
    refine List.ext_getElem? fun i => ?_
    have hi := congrArg (·[i]?) hm'
    simp only [List.getElem?_map] at hi
    rw [List.getElem?_map, List.getElem?_map, List.getElem?_modify, List.getElem?_modify]
    by_cases e : j = i
    · subst e
      simp only [if_true]
      cases h1 : es.toList[j]? <;> cases h2 : kv[j]? <;> rw [h1, h2] at hi <;> simp at hi ⊢
      exact hi.1
    · simp only [if_neg e]
      simpa using hi
  · obtain ⟨i, hi, hp⟩ := List.getElem_of_mem hp
    have hi2 : i < kv.length := by rwa [List.length_modify] at hi
    have h1 := hm2 kv[i] (List.getElem_mem hi2)
    rw [List.getElem_modify] at hp
    split at hp
    · rw [← hp]; exact ⟨h1.1, hx⟩
    · rw [← hp]; exact h1
end

section rules
variable {F : Fence} {P : Program} {ops : Array Oper} {Q : Exit → Act → World → Prop} {rest : List Oper} {n : Nat} {D : List Deferred} {l : Env} {w0 : World} {L M : List Ent}
variable {d : Nat} {ty : TypeId} {pos : String} {aft : Array Edge}
theorem apz {s x : Operand} {t T ti : TypeId} (hT : SliceTy P t T := by infer_instance) {agg : Bool} {size bytes : Nat} {z : Value} {zl : List Value} (hE : Ty P T agg size bytes z zl := by infer_instance) (hti : P.underlying ti = some (.int .i64) := by kernel_rfl) {k : Nat}
    (hs : ev l s = some (.slice none 0 0) := by exact rfl) (hx : ev l x = some (.int .i64 (k : Int)) := by exact rfl) (h0 : 0 < k := by omega) (hb : k ≤ 1000000 := by omega) (hpos : 0 < size := by omega) (hby : bytes ≤ 1000000 := by omega) (h1 : zl.all (·.oneCell') = true := by rfl) (hd : Nat.blt d n = true := by rfl)
    (h : ∀ A' c', WL F P ops Q rest n D ((d, .slice A' k c') :: l) w0 (.own A' c' T size k (List.replicate k zl) :: L)) :
    WL F P ops Q (⟨some d, .call { callee := .builtin .append, args := #[s, x], argTypes := #[t, ti] }, ty, pos, aft, none⟩ :: rest) n D l w0 L :=
  WL.value (X := Option Addr × Nat) (φ := fun _ => True) (val := fun p => .slice p.1 k p.2) (L' := fun p => .own p.1 p.2 T size k (List.replicate k zl) :: L) (by simp) hd (fun ac w hfr hst => by
    obtain ⟨i, hi, hi1, hi2, h3⟩ := ty_info hE
    have hzl : zl.length = size := hE.zs
    have hes : ∀ c ∈ List.replicate k zl, c.length = size := fun c hc => by rw [(List.mem_replicate.1 hc).2, hzl]
    have hfl := flatten_len hes
    rw [List.length_replicate] at hfl
    have hmade : (Builtin.zeroCells z.cells k).toList = (List.replicate k zl).flatten := by
      rw [hE.zc]
      exact made_flat zl (by omega) k
    have hbytes : k * bytes ≤ 1000000000000 := Nat.mul_le_mul hb hby
    have hrun := run_append_made (P := P) (w := w) t ty T ti i z hT.und hi h3 hti k h0 (by omega) (by rw [hi2]; omega) (by omega)
    have hge := grownCap_ge w k 0 T
    have hcm : grownCap w k 0 T ≤ maxLen := grownCap_le_maxLen w k 0 T (by simp only [maxLen]; omega)
    refine ⟨(some ⟨w.heap.size, 0, none⟩, grownCap w k 0 T), w.drew.alloc (.cells (Builtin.zeroCells z.cells k ++ Builtin.zeroCells z.cells (grownCap w k 0 T - k)) T), trivial, by simp [execOp, resolve, invoke, builtin, hfr.eval hs, hfr.eval hx, hrun], ?_⟩
    have hone : ∀ c ∈ List.replicate k zl, ∀ v ∈ c, v.oneCell' = true := fun c hc v hv => by
      rw [(List.mem_replicate.1 hc).2] at hv
      exact List.all_eq_true.1 h1 v hv
    have hzs : z.cells.size = size := by rw [hE.zc]; simpa using hzl
    have hown : (w.drew.alloc (.cells (Builtin.zeroCells z.cells k ++ Builtin.zeroCells z.cells (grownCap w k 0 T - k)) T)).ownsRow 0 T size (.slice (some ⟨w.heap.size, 0, none⟩) k (grownCap w k 0 T)) k (List.replicate k zl).flatten := by
      refine ⟨by rw [hfl], .inr ⟨w.heap.size, _, _, rfl, Nat.zero_le _, heap_alloc_new w.drew _, hge, hcm, ?_, ?_⟩⟩
      · simp only [Array.size_append, size_zeroCells, hzs, ← Nat.add_mul]
        congr 1; omega
      · rw [Array.toList_append, hmade, ← hfl]
        exact List.take_left
    refine St.add (M := [_]) hst (((Blw.refl _ w).drew).alloc (Nat.le_refl _) _) (fun e he => ?_) (fun e he b hb' => ?_) (List.pairwise_singleton _ _)
    · simp only [List.mem_singleton] at he; subst he
      exact ⟨hown, rd_own hown (by simp) hes hone⟩
    · simp only [List.mem_singleton] at he; subst he
      obtain ⟨ad, had, rfl⟩ := hb'
      injection had with had; subst had; exact Nat.le_refl _) (fun p _ => h p.1 p.2)
theorem mpe {m x : Operand} {t kt e : TypeId} {ks : List Bool} {agg : Bool} {size bytes : Nat} {z : Value} {zl : List Value} (hT : MapTy P t kt e := by infer_instance) (hK : FlatTy P kt ks := by infer_instance) (hE : Ty P e agg size bytes z zl := by infer_instance) {b : Nat} {es : Array MapEntry} {c N : Nat} {Pv : Value → Prop} {cs : List Value} {k : List Fl}
    (hm : MapV es ks Pv N) (hz : Pv z) (hx : ev l m = some (.map (some b)) := by exact rfl) (hy : ev l x = some (.agg cs.toArray) := by exact rfl) (hl : FlL cs k := by repeat (first | exact FlL.nil | apply FlL.int | apply FlL.bool)) (hk : shapeOf k = ks := by rfl) (hd : Nat.blt d n = true := by rfl)
    (ha : At L (.obj b (.map es c)) M := by repeat (first | exact At.here | apply At.there)) (h : ∀ es' c' v s, MapV es' ks Pv (N + 1) → (∃ j, es'.findIdx? (fun e => (e.born : Int) == s) = some j) → WL F P ops Q rest n D ((d, .tuple #[v, .int .i64 s]) :: l) w0 (.obj b (.map es' c') :: M)) :
    WL F P ops Q (⟨some d, .mapEntry t m x, ty, pos, aft, none⟩ :: rest) n D l w0 L :=
  WL.value (X := (Array MapEntry × Nat) × Value × Int) (φ := fun p => MapV p.1.1 ks Pv (N + 1) ∧ ∃ j, p.1.1.findIdx? (fun e => (e.born : Int) == p.2.2) = some j) (val := fun p => .tuple #[p.2.1, .int .i64 p.2.2]) (L' := fun p => .obj b (.map p.1.1 p.1.2) :: M) (by simp) hd (fun ac w hfr hst => by
    have hst1 := hst.pull ha
    obtain ⟨es', c', v, s, hr, h1, h2⟩ := run_mapEntryV (P := P) hT hK hE hst1.objAt hm hz hk
    rw [← hl.out] at hr
    exact ⟨((es', c'), v, s), _, ⟨h1, h2⟩, by simp [execOp, hfr.eval hx, hfr.eval hy, hr], hst1.putObj _⟩) (fun p hp => h _ _ _ _ hp.1 hp.2)
theorem est {m x y : Operand} {t : TypeId} {ks : List Bool} {b : Nat} {es : Array MapEntry} {c N : Nat} {Pv : Value → Prop} {s : Int} {v : Value}
    (hm : MapV es ks Pv N) (hj : ∃ j, es.findIdx? (fun e => (e.born : Int) == s) = some j) (hv : Pv v) (hx : ev l m = some (.map (some b)) := by exact rfl) (hs : ev l x = some (.int .i64 s) := by exact rfl) (hy : ev l y = some v := by exact rfl)
    (ha : At L (.obj b (.map es c)) M := by repeat (first | exact At.here | apply At.there)) (h : ∀ es', MapV es' ks Pv N → WL F P ops Q rest n D l w0 (.obj b (.map es' c) :: M)) : WL F P ops Q (⟨none, .entryStore t m x y, ty, pos, aft, none⟩ :: rest) n D l w0 L := by
  intro hF a w hfr hst
  have hst1 := hst.pull ha
  obtain ⟨j, hj⟩ := hj
  obtain ⟨es', hr, hm'⟩ := run_entryStoreV (P := P) (t := t) hst1.objAt hm hj hv
  have he : (execOp a.eval ⟨none, .entryStore t m x y, ty, pos, aft, none⟩).run P w = .ok .skip (w.putObj b (.map es' c)) := by
    simp [execOp, hfr.eval hx, hfr.eval hs, hfr.eval hy, hr]
  show (if _ then _ else _)
  rw [if_pos (by simp [Region.wanted])]
  refine ⟨fun f _ => hF.fn f, ?_⟩
  rw [semAt_plain (by simp), he]
  exact h es' hm' hF _ _ (hfr.put_none (.bool true)) (hst1.putObj _)
theorem MapV.mono {es : Array MapEntry} {ks : List Bool} {Pv Qv : Value → Prop} {N : Nat} (h : MapV es ks Pv N) (hq : ∀ v, Pv v → Qv v) : MapV es ks Qv N := by
  obtain ⟨kv, h1, h2, h3⟩ := h
  exact ⟨kv, h1, fun p hp => ⟨(h2 p hp).1, hq _ (h2 p hp).2⟩, h3⟩
theorem lkV {m x : Operand} {t kt e : TypeId} {ks : List Bool} {agg : Bool} {size bytes : Nat} {z : Value} {zl : List Value} (hT : MapTy P t kt e := by infer_instance) (hK : FlatTy P kt ks := by infer_instance) (hE : Ty P e agg size bytes z zl := by infer_instance) {b : Nat} {es : Array MapEntry} {c N : Nat} {Pv : Value → Prop} {cs : List Value} {k : List Fl}
    (hm : MapV es ks Pv N) (hz : Pv z) (hx : ev l m = some (.map (some b)) := by exact rfl) (hy : ev l x = some (.agg cs.toArray) := by exact rfl) (hl : FlL cs k := by repeat (first | exact FlL.nil | apply FlL.int | apply FlL.bool)) (hk : shapeOf k = ks := by rfl) (hd : Nat.blt d n = true := by rfl)
    (ha : At L (.obj b (.map es c)) M := by repeat (first | exact At.here | apply At.there)) (h : ∀ v, Pv v → WL F P ops Q rest n D ((d, v) :: l) w0 L) : WL F P ops Q (⟨some d, .lookup t m x false, ty, pos, aft, none⟩ :: rest) n D l w0 L := by
  obtain ⟨kv, hm1, hm2, hm3⟩ := hm
  refine WL.y (hy := lkN (hT := hT) (hK := hK) (hE := hE) (hm := hm1) (hs := fun p hp => (hm2 p hp).1) (hx := hx) (hy := hy) (hl := hl) (hk := hk) (ha := ha)) (hd := hd) (h := h _ ?_)
  cases e : lkp kv k with
  | none => exact hz
  | some v =>
    obtain ⟨p, hp, hv⟩ := lkp_in e
    show Pv v
    rw [← hv]; exact (hm2 p hp).2
theorem lenMp {x : Operand} {t kt e : TypeId} (hT : MapTy P t kt e := by infer_instance) {b : Nat} {es : Array MapEntry} {c : Nat} (hx : ev l x = some (.map (some b)) := by exact rfl) (ha : At L (.obj b (.map es c)) M := by repeat (first | exact At.here | apply At.there)) : Yd P n D l w0 L (.call { callee := .builtin .len, args := #[x], argTypes := #[t] }) (.int .i64 es.size) :=
  ⟨by simp, by simp, fun oo ho ac w hfr hst => by
    have hg := getMap (P := P) (hst _ ha.mem)
    simp [execOp, ho, resolve, invoke, builtin, hfr.eval hx, Builtin.len_, run_underlying hT.und, goInt, hg]⟩
theorem capS {x : Operand} {A : Option Addr} {m c : Nat} {t e : TypeId} (hT : SliceTy P t e := by infer_instance) (hx : ev l x = some (.slice A m c) := by exact rfl) : Yd P n D l w0 L (.call { callee := .builtin .cap, args := #[x], argTypes := #[t] }) (.int .i64 c) :=
  ⟨by simp, by simp, fun oo ho ac w hfr _ => by
    simp [execOp, ho, resolve, invoke, builtin, hfr.eval hx, Builtin.cap_, run_underlying hT.und, goInt]⟩
end rules
end Go.Proofs.YthkliiifllhacaaGreat

namespace Go.Proofs.YthkliiifllhacaaGreat
open Go Go.RowKit

section
variable {F : Fence} {P : Program} {ops : Array Oper} {Q : Exit → Act → World → Prop} {rest : List Oper} {n : Nat} {D : List Deferred} {l : Env} {w0 : World} {L M : List Ent}
theorem St.getRowF {w : World} {fr : Bool} {rs : List Row} {r : Row} (h : St w0 w (manyE fr rs :: M)) (hr : r ∈ rs) : St w0 w (.ro r.A r.size r.n r.es :: manyE fr rs :: M) := by
  have hp := List.pairwise_cons.1 h.sep
  refine ⟨h.below, fun x hx => ?_, fun x hx hf k hk => ?_, List.pairwise_cons.2 ⟨fun x hx ho k hk hk' => ?_, h.sep⟩⟩
  · rcases List.mem_cons.1 hx with rfl | hx
    · exact h.ok (manyE fr rs) (by simp) r hr
    · exact h.ok x hx
  · rcases List.mem_cons.1 hx with rfl | hx
    · cases hf
    · exact h.new x hx hf k hk
  · rcases List.mem_cons.1 hx with rfl | hx
    · rcases ho with h1 | h1 <;> cases h1
    · exact hp.1 x hx (ho.imp (fun h => (by cases h)) id) k ⟨r, hr, hk⟩ hk'
theorem WC.getRowF {c : Code} {fr : Bool} {rs : List Row} {r : Row} (hr : r ∈ rs) (ha : At L (manyE fr rs) M) (h : WC F P c Q n D l w0 (.ro r.A r.size r.n r.es :: manyE fr rs :: M)) : WC F P c Q n D l w0 L := fun hF a w hfr hst => h hF a w hfr ((hst.pull ha).getRowF hr)
theorem WL.getRowF {fr : Bool} {rs : List Row} {r : Row} (hr : r ∈ rs) (ha : At L (manyE fr rs) M) (h : WL F P ops Q rest n D l w0 (.ro r.A r.size r.n r.es :: manyE fr rs :: M)) : WL F P ops Q rest n D l w0 L := fun hF a w hfr hst => h hF a w hfr ((hst.pull ha).getRowF hr)
theorem St.manyOld {w : World} (h : St w0 w L) {rs : List Row} (hr : ∀ r ∈ rs, Rd w0 r.A r.size r.n r.es) : St w0 w (manyE false rs :: L) := by
  have hlt : ∀ b, (manyE false rs).fp b → b < w0.heap.size := fun b hb => Ent.ok_lt (e := manyE false rs) hr hb
  refine ⟨h.below, fun x hx => ?_, fun x hx hf b hb => ?_, List.pairwise_cons.2 ⟨fun x hx hor b hb hb' => ?_, h.sep⟩⟩
  · rcases List.mem_cons.1 hx with rfl | hx
    · exact Ent.ok_frame (e := manyE false rs) hr fun b hb => h.below.b.block b (hlt b hb)
    · exact h.ok x hx
  · rcases List.mem_cons.1 hx with rfl | hx
    · cases hf
    · exact h.new x hx hf b hb
  · rcases hor with hor | hor
    · cases hor
    · have h1 := h.new x hx (Ent.fresh_of_excl hor) b hb'
      have h2 := hlt b hb
      omega
theorem WC.manyOld {c : Code} {rs : List Row} (hr : ∀ r ∈ rs, Rd w0 r.A r.size r.n r.es) (h : WC F P c Q n D l w0 (manyE false rs :: L)) : WC F P c Q n D l w0 L := fun hF a w hfr hst => h hF a w hfr (hst.manyOld hr)
theorem WL.manyOld {rs : List Row} (hr : ∀ r ∈ rs, Rd w0 r.A r.size r.n r.es) (h : WL F P ops Q rest n D l w0 (manyE false rs :: L)) : WL F P ops Q rest n D l w0 L := fun hF a w hfr hst => h hF a w hfr (hst.manyOld hr)
end
/-! #### short names of steps -/
section
variable {F : Fence} {P : Program} {ops : Array Oper} {Q : Exit → Act → World → Prop} {rest : List Oper} {n : Nat} {D : List Deferred} {l : Env} {w0 : World} {L : List Ent} {d : Nat} {ty : TypeId} {pos : String} {aft : Array Edge} {op : Op} {v : Value}
theorem ww (h : WL F P ops Q rest n D ((d, v) :: l) w0 L) (hy : Yd P n D l w0 L op v := by first | exact fa | exact faE | exact mv | exact ld | exact ldE | exact asg | exact ldA | exact ldEA | exact pkT | exact pkF | exact addI | exact eql | exact bd | exact ex | exact nck | exact lenS | exact lss | exact notB | exact subI | exact geq | exact neq | exact gtr | exact leq | exact remI | exact mulI | exact maxI | exact quoI | exact mkf | exact minI) (hd : Nat.blt d n = true := by rfl) : WL F P ops Q (⟨some d, op, ty, pos, aft, none⟩ :: rest) n D l w0 L := WL.y hy hd h
theorem uz {dst : Option Nat} {j g : Nat} {b : Bool} (h : WL F P ops Q (⟨dst, op, ty, pos, aft, none⟩ :: rest) n D l w0 L) (hg : gsl ops j = some g := by exact rfl) (hv : look l g = some (.bool b) := by exact rfl) : WL F P ops Q (⟨dst, op, ty, pos, aft, some (j, b)⟩ :: rest) n D l w0 L := un hg hv h
theorem uw {j g : Nat} {b : Bool} (h : WL F P ops Q rest n D ((d, v) :: l) w0 L) (hg : gsl ops j = some g := by exact rfl) (hv : look l g = some (.bool b) := by exact rfl) (hy : Yd P n D l w0 L op v := by first | exact fa | exact faE | exact mv | exact ld | exact ldE | exact asg | exact ldA | exact ldEA | exact pkT | exact pkF | exact addI | exact eql | exact bd | exact ex | exact nck | exact lenS | exact lss | exact notB | exact subI | exact geq | exact neq | exact gtr | exact leq | exact remI | exact mulI | exact maxI | exact quoI | exact mkf | exact minI) (hd : Nat.blt d n = true := by rfl) : WL F P ops Q (⟨some d, op, ty, pos, aft, some (j, b)⟩ :: rest) n D l w0 L := un hg hv (WL.y hy hd h)
theorem kz {j g : Nat} {b : Bool} {v : Value} (h : WL F P ops Q rest n D ((d, undef) :: l) w0 L) (hg : gsl ops j = some g := by exact rfl) (hv : look l g = some v := by exact rfl) (hn : noB b v = true := by exact rfl) (hd : Nat.blt d n = true := by rfl) : WL F P ops Q (⟨some d, op, ty, pos, aft, some (j, b)⟩ :: rest) n D l w0 L := sk hg hv hn hd h
theorem wz (h : WL F P ops Q rest n D ((d, v) :: l) w0 L) (hy : Yd P n D l w0 L op v := by first | exact pkF | exact pkT) (hd : Nat.blt d n = true := by rfl) : WL F P ops Q (⟨some d, op, ty, pos, aft, none⟩ :: rest) n D l w0 L := WL.y hy hd h
theorem sr {id : Nat} {os : List Oper} {y : Code} (h : WL F P os.toArray (Exit.then (y.wpIn F 0 P Q) Q) os n D l w0 L) : WC F P (.seq (.region id os.toArray false) y) Q n D l w0 L := sq (rg h)
theorem nq {y : Code} (h : WC F P y Q n D l w0 L) : WL F P ops (Exit.then (y.wpIn F 0 P Q) Q) [] n D l w0 L := nl (q_seq h)
theorem nr {id : Nat} {os : List Oper} {y : Code} (h : WL F P os.toArray (Exit.then (y.wpIn F 0 P Q) Q) os n D l w0 L) : WL F P ops (Exit.then ((Code.seq (.region id os.toArray false) y).wpIn F 0 P Q) Q) [] n D l w0 L := nq (sr h)
theorem czz {c : Operand} {x y : Code} {b : Bool} (ht : b = true → WC F P x Q n D l w0 L) (hf : b = false → WC F P y Q n D l w0 L) (hc : ev l c = some (.bool b) := by exact rfl) : WC F P (.cond c x y) Q n D l w0 L := cd hc ht hf
theorem tw {held : List (Nat × Ent)} {fuel : Nat} {listed : Array Bool} (i : Nat) {gd : Option (Nat × Bool)} {E : List Ent} (h : WH F P ops Q held fuel (listed.setIfInBounds i true) n D ((d, v) :: l) w0 L)
    (hi : ops[i]? = some ⟨some d, op, ty, pos, aft, gd⟩ := by exact rfl) (hg : gd = none ∨ ∃ j b g, gd = some (j, b) ∧ gsl ops j = some g ∧ look l g = some (.bool b) := by first | exact .inl rfl | exact .inr ⟨_, _, _, rfl, rfl, rfl⟩)
    (hE : HE ops i held E := by repeat (first | exact HE.nil | (apply HE.keep; exact rfl) | apply HE.drop)) (hy : Yd P n D l w0 E op v := by first | exact fa | exact faE | exact mv | exact ld | exact ldE | exact asg | exact ldA | exact ldEA | exact pkT | exact pkF | exact addI | exact eql | exact bd | exact ex | exact nck | exact lenS | exact lss | exact notB | exact subI | exact geq | exact neq | exact gtr | exact leq | exact remI | exact mulI | exact maxI | exact quoI | exact mkf | exact minI)
    (hc : (plainOps ops && Region.free .any ops listed i && (Region.ready .any ops listed).contains i) = true := by kernel_rfl) (hne : (held.map (·.1)).all (fun k => !Nat.beq k i) = true := by exact rfl)
    (hl : ((held.map (·.1)).all fun k => !waits ops k i || !listed.getD k false) = true := by exact rfl) (hd : Nat.blt d n = true := by rfl) : WH F P ops Q held (fuel + 1) listed n D l w0 L := tk i hi hg hE hy hc hne hl hd h
end
end Go.Proofs.YthkliiifllhacaaGreat

namespace Go.Proofs.YthkliiifllhacaaGreat
open Go

-- 1 func()
instance : Ty Tryz.prog 1 false 1 8 (.nilFunc) [.nilFunc] := ⟨by kernel_rfl, by kernel_rfl, rfl, rfl⟩
-- 2 int64
instance : Ty Tryz.prog 2 false 1 8 (.int .i64 0) [.int .i64 0] := ⟨by kernel_rfl, by kernel_rfl, rfl, rfl⟩
-- 3 int
instance : Ty Tryz.prog 3 false 1 8 (.int .i64 0) [.int .i64 0] := ⟨by kernel_rfl, by kernel_rfl, rfl, rfl⟩
-- 4 bool
instance : Ty Tryz.prog 4 false 1 1 (.bool false) [.bool false] := ⟨by kernel_rfl, by kernel_rfl, rfl, rfl⟩
-- 5 uint8
instance : Ty Tryz.prog 5 false 1 1 (.int .u8 0) [.int .u8 0] := ⟨by kernel_rfl, by kernel_rfl, rfl, rfl⟩
-- 7 struct { x int64; y int; signed bool; code abi.BoundsErrorCode }
instance : Ty Tryz.prog 7 true 4 24 (.agg #[.int .i64 0, .int .i64 0, .bool false, .int .u8 0]) [.int .i64 0, .int .i64 0, .bool false, .int .u8 0] := ⟨by kernel_rfl, by kernel_rfl, rfl, rfl⟩
instance : FieldTy Tryz.prog 7 0 0 2 0 := ⟨by kernel_rfl, by kernel_rfl⟩
instance : FieldTy Tryz.prog 7 1 1 3 0 := ⟨by kernel_rfl, by kernel_rfl⟩
instance : FieldTy Tryz.prog 7 2 2 4 0 := ⟨by kernel_rfl, by kernel_rfl⟩
instance : FieldTy Tryz.prog 7 3 3 6 0 := ⟨by kernel_rfl, by kernel_rfl⟩
instance : BuildTy Tryz.prog 7 [(0, 1), (1, 1), (2, 1), (3, 1)] [.int .i64 0, .int .i64 0, .bool false, .int .u8 0] := ⟨fun parts => by kernel_rfl⟩
-- 9 string
instance : Ty Tryz.prog 9 false 1 16 (.string ByteArray.empty) [.string ByteArray.empty] := ⟨by kernel_rfl, by kernel_rfl, rfl, rfl⟩
-- 12 uintptr
instance : Ty Tryz.prog 12 false 1 8 (.int .u64 0) [.int .u64 0] := ⟨by kernel_rfl, by kernel_rfl, rfl, rfl⟩
-- 13 struct { msg string; addr uintptr }
instance : Ty Tryz.prog 13 true 2 24 (.agg #[.string ByteArray.empty, .int .u64 0]) [.string ByteArray.empty, .int .u64 0] := ⟨by kernel_rfl, by kernel_rfl, rfl, rfl⟩
instance : FieldTy Tryz.prog 13 0 0 9 0 := ⟨by kernel_rfl, by kernel_rfl⟩
instance : FieldTy Tryz.prog 13 1 1 12 0 := ⟨by kernel_rfl, by kernel_rfl⟩
instance : BuildTy Tryz.prog 13 [(0, 1), (1, 1)] [.string ByteArray.empty, .int .u64 0] := ⟨fun parts => by kernel_rfl⟩
-- 18 struct { typ *abi.Type }
instance : Ty Tryz.prog 18 true 1 8 (.agg #[.pointer none]) [.pointer none] := ⟨by kernel_rfl, by kernel_rfl, rfl, rfl⟩
instance : FieldTy Tryz.prog 18 0 0 17 0 := ⟨by kernel_rfl, by kernel_rfl⟩
instance : BuildTy Tryz.prog 18 [(0, 1)] [.pointer none] := ⟨fun parts => by kernel_rfl⟩
-- 20 
instance : Ty Tryz.prog 20 false 1 16 (.nilIface) [.nilIface] := ⟨by kernel_rfl, by kernel_rfl, rfl, rfl⟩
-- 21 int32
instance : Ty Tryz.prog 21 false 1 4 (.int .i32 0) [.int .i32 0] := ⟨by kernel_rfl, by kernel_rfl, rfl, rfl⟩
-- 22 []api.Report
instance : Ty Tryz.prog 22 false 1 24 (.slice none 0 0) [.slice none 0 0] := ⟨by kernel_rfl, by kernel_rfl, rfl, rfl⟩
instance : SliceTy Tryz.prog 22 90 := ⟨by kernel_rfl⟩
-- 23 []api.Absence
instance : Ty Tryz.prog 23 false 1 24 (.slice none 0 0) [.slice none 0 0] := ⟨by kernel_rfl, by kernel_rfl, rfl, rfl⟩
instance : SliceTy Tryz.prog 23 115 := ⟨by kernel_rfl⟩
-- 24 struct { Players int; Counts int; Reports []api.Report; Bans []api.Absence; Frozen []api.Absence }
instance : Ty Tryz.prog 24 true 5 88 (.agg #[.int .i64 0, .int .i64 0, .slice none 0 0, .slice none 0 0, .slice none 0 0]) [.int .i64 0, .int .i64 0, .slice none 0 0, .slice none 0 0, .slice none 0 0] := ⟨by kernel_rfl, by kernel_rfl, rfl, rfl⟩
instance : FieldTy Tryz.prog 24 0 0 3 0 := ⟨by kernel_rfl, by kernel_rfl⟩
instance : FieldTy Tryz.prog 24 1 1 3 0 := ⟨by kernel_rfl, by kernel_rfl⟩
instance : FieldTy Tryz.prog 24 2 2 22 0 := ⟨by kernel_rfl, by kernel_rfl⟩
instance : FieldTy Tryz.prog 24 3 3 23 0 := ⟨by kernel_rfl, by kernel_rfl⟩
instance : FieldTy Tryz.prog 24 4 4 23 0 := ⟨by kernel_rfl, by kernel_rfl⟩
instance : BuildTy Tryz.prog 24 [(0, 1), (1, 1), (2, 1), (3, 1), (4, 1)] [.int .i64 0, .int .i64 0, .slice none 0 0, .slice none 0 0, .slice none 0 0] := ⟨fun parts => by kernel_rfl⟩
-- 25 deuce/api.Ledger
instance : Ty Tryz.prog 25 true 5 88 (.agg #[.int .i64 0, .int .i64 0, .slice none 0 0, .slice none 0 0, .slice none 0 0]) [.int .i64 0, .int .i64 0, .slice none 0 0, .slice none 0 0, .slice none 0 0] := ⟨by kernel_rfl, by kernel_rfl, rfl, rfl⟩
instance : FieldTy Tryz.prog 25 0 0 3 0 := ⟨by kernel_rfl, by kernel_rfl⟩
instance : FieldTy Tryz.prog 25 1 1 3 0 := ⟨by kernel_rfl, by kernel_rfl⟩
instance : FieldTy Tryz.prog 25 2 2 22 0 := ⟨by kernel_rfl, by kernel_rfl⟩
instance : FieldTy Tryz.prog 25 3 3 23 0 := ⟨by kernel_rfl, by kernel_rfl⟩
instance : FieldTy Tryz.prog 25 4 4 23 0 := ⟨by kernel_rfl, by kernel_rfl⟩
instance : BuildTy Tryz.prog 25 [(0, 1), (1, 1), (2, 1), (3, 1), (4, 1)] [.int .i64 0, .int .i64 0, .slice none 0 0, .slice none 0 0, .slice none 0 0] := ⟨fun parts => by kernel_rfl⟩
-- 26 []int
instance : Ty Tryz.prog 26 false 1 24 (.slice none 0 0) [.slice none 0 0] := ⟨by kernel_rfl, by kernel_rfl, rfl, rfl⟩
instance : SliceTy Tryz.prog 26 3 := ⟨by kernel_rfl⟩
-- 27 struct { Week int; Nations []int; Lots []int }
instance : Ty Tryz.prog 27 true 3 56 (.agg #[.int .i64 0, .slice none 0 0, .slice none 0 0]) [.int .i64 0, .slice none 0 0, .slice none 0 0] := ⟨by kernel_rfl, by kernel_rfl, rfl, rfl⟩
instance : FieldTy Tryz.prog 27 0 0 3 0 := ⟨by kernel_rfl, by kernel_rfl⟩
instance : FieldTy Tryz.prog 27 1 1 26 0 := ⟨by kernel_rfl, by kernel_rfl⟩
instance : FieldTy Tryz.prog 27 2 2 26 0 := ⟨by kernel_rfl, by kernel_rfl⟩
instance : BuildTy Tryz.prog 27 [(0, 1), (1, 1), (2, 1)] [.int .i64 0, .slice none 0 0, .slice none 0 0] := ⟨fun parts => by kernel_rfl⟩
-- 28 deuce/deucetop.Ballot
instance : Ty Tryz.prog 28 true 3 56 (.agg #[.int .i64 0, .slice none 0 0, .slice none 0 0]) [.int .i64 0, .slice none 0 0, .slice none 0 0] := ⟨by kernel_rfl, by kernel_rfl, rfl, rfl⟩
instance : FieldTy Tryz.prog 28 0 0 3 0 := ⟨by kernel_rfl, by kernel_rfl⟩
instance : FieldTy Tryz.prog 28 1 1 26 0 := ⟨by kernel_rfl, by kernel_rfl⟩
instance : FieldTy Tryz.prog 28 2 2 26 0 := ⟨by kernel_rfl, by kernel_rfl⟩
instance : BuildTy Tryz.prog 28 [(0, 1), (1, 1), (2, 1)] [.int .i64 0, .slice none 0 0, .slice none 0 0] := ⟨fun parts => by kernel_rfl⟩
-- 29 func(api.Ledger) bool
instance : Ty Tryz.prog 29 false 1 8 (.nilFunc) [.nilFunc] := ⟨by kernel_rfl, by kernel_rfl, rfl, rfl⟩
-- 30 deuce/api.Errno
instance : Ty Tryz.prog 30 false 1 8 (.int .i64 0) [.int .i64 0] := ⟨by kernel_rfl, by kernel_rfl, rfl, rfl⟩
-- 31 func(api.Ledger) api.Errno
instance : Ty Tryz.prog 31 false 1 8 (.nilFunc) [.nilFunc] := ⟨by kernel_rfl, by kernel_rfl, rfl, rfl⟩
-- 32 func() bool
instance : Ty Tryz.prog 32 false 1 8 (.nilFunc) [.nilFunc] := ⟨by kernel_rfl, by kernel_rfl, rfl, rfl⟩
-- 34 func(api.Ledger, int) ([]int, api.Errno)
instance : Ty Tryz.prog 34 false 1 8 (.nilFunc) [.nilFunc] := ⟨by kernel_rfl, by kernel_rfl, rfl, rfl⟩
-- 35 []api.Person
instance : Ty Tryz.prog 35 false 1 24 (.slice none 0 0) [.slice none 0 0] := ⟨by kernel_rfl, by kernel_rfl, rfl, rfl⟩
instance : SliceTy Tryz.prog 35 103 := ⟨by kernel_rfl⟩
-- 36 struct { Size int; Seeds int; Persons []api.Person; Lots []int }
instance : Ty Tryz.prog 36 true 4 64 (.agg #[.int .i64 0, .int .i64 0, .slice none 0 0, .slice none 0 0]) [.int .i64 0, .int .i64 0, .slice none 0 0, .slice none 0 0] := ⟨by kernel_rfl, by kernel_rfl, rfl, rfl⟩
instance : FieldTy Tryz.prog 36 0 0 3 0 := ⟨by kernel_rfl, by kernel_rfl⟩
instance : FieldTy Tryz.prog 36 1 1 3 0 := ⟨by kernel_rfl, by kernel_rfl⟩
instance : FieldTy Tryz.prog 36 2 2 35 0 := ⟨by kernel_rfl, by kernel_rfl⟩
instance : FieldTy Tryz.prog 36 3 3 26 0 := ⟨by kernel_rfl, by kernel_rfl⟩
instance : BuildTy Tryz.prog 36 [(0, 1), (1, 1), (2, 1), (3, 1)] [.int .i64 0, .int .i64 0, .slice none 0 0, .slice none 0 0] := ⟨fun parts => by kernel_rfl⟩
-- 37 deuce/api.Plan
instance : Ty Tryz.prog 37 true 4 64 (.agg #[.int .i64 0, .int .i64 0, .slice none 0 0, .slice none 0 0]) [.int .i64 0, .int .i64 0, .slice none 0 0, .slice none 0 0] := ⟨by kernel_rfl, by kernel_rfl, rfl, rfl⟩
instance : FieldTy Tryz.prog 37 0 0 3 0 := ⟨by kernel_rfl, by kernel_rfl⟩
instance : FieldTy Tryz.prog 37 1 1 3 0 := ⟨by kernel_rfl, by kernel_rfl⟩
instance : FieldTy Tryz.prog 37 2 2 35 0 := ⟨by kernel_rfl, by kernel_rfl⟩
instance : FieldTy Tryz.prog 37 3 3 26 0 := ⟨by kernel_rfl, by kernel_rfl⟩
instance : BuildTy Tryz.prog 37 [(0, 1), (1, 1), (2, 1), (3, 1)] [.int .i64 0, .int .i64 0, .slice none 0 0, .slice none 0 0] := ⟨fun parts => by kernel_rfl⟩
-- 39 func([]int, deucetop.Ballot) (api.Plan, bool)
instance : Ty Tryz.prog 39 false 1 8 (.nilFunc) [.nilFunc] := ⟨by kernel_rfl, by kernel_rfl, rfl, rfl⟩
-- 40 func(api.Plan) ([]int, api.Errno)
instance : Ty Tryz.prog 40 false 1 8 (.nilFunc) [.nilFunc] := ⟨by kernel_rfl, by kernel_rfl, rfl, rfl⟩
-- 42 func(api.Ledger, int, int) (int, api.Errno)
instance : Ty Tryz.prog 42 false 1 8 (.nilFunc) [.nilFunc] := ⟨by kernel_rfl, by kernel_rfl, rfl, rfl⟩
-- 43 func(api.Ledger, deucetop.Ballot) bool
instance : Ty Tryz.prog 43 false 1 8 (.nilFunc) [.nilFunc] := ⟨by kernel_rfl, by kernel_rfl, rfl, rfl⟩
-- 44 func(api.Ledger) api.Ledger
instance : Ty Tryz.prog 44 false 1 8 (.nilFunc) [.nilFunc] := ⟨by kernel_rfl, by kernel_rfl, rfl, rfl⟩
-- 46 func(api.Ledger, []api.Report) (api.Ledger, api.Errno)
instance : Ty Tryz.prog 46 false 1 8 (.nilFunc) [.nilFunc] := ⟨by kernel_rfl, by kernel_rfl, rfl, rfl⟩
-- 47 func(api.Ledger, deucetop.Ballot, int) bool
instance : Ty Tryz.prog 47 false 1 8 (.nilFunc) [.nilFunc] := ⟨by kernel_rfl, by kernel_rfl, rfl, rfl⟩
-- 48 struct { Sets int; Games int; NoAd bool; Tie int; To int; LastTie int; LastTo int; First int; Then int; Doubles bool }
instance : Ty Tryz.prog 48 true 10 80 (.agg #[.int .i64 0, .int .i64 0, .bool false, .int .i64 0, .int .i64 0, .int .i64 0, .int .i64 0, .int .i64 0, .int .i64 0, .bool false]) [.int .i64 0, .int .i64 0, .bool false, .int .i64 0, .int .i64 0, .int .i64 0, .int .i64 0, .int .i64 0, .int .i64 0, .bool false] := ⟨by kernel_rfl, by kernel_rfl, rfl, rfl⟩
instance : FieldTy Tryz.prog 48 0 0 3 0 := ⟨by kernel_rfl, by kernel_rfl⟩
instance : FieldTy Tryz.prog 48 1 1 3 0 := ⟨by kernel_rfl, by kernel_rfl⟩
instance : FieldTy Tryz.prog 48 2 2 4 0 := ⟨by kernel_rfl, by kernel_rfl⟩
instance : FieldTy Tryz.prog 48 3 3 3 0 := ⟨by kernel_rfl, by kernel_rfl⟩
instance : FieldTy Tryz.prog 48 4 4 3 0 := ⟨by kernel_rfl, by kernel_rfl⟩
instance : FieldTy Tryz.prog 48 5 5 3 0 := ⟨by kernel_rfl, by kernel_rfl⟩
instance : FieldTy Tryz.prog 48 6 6 3 0 := ⟨by kernel_rfl, by kernel_rfl⟩
instance : FieldTy Tryz.prog 48 7 7 3 0 := ⟨by kernel_rfl, by kernel_rfl⟩
instance : FieldTy Tryz.prog 48 8 8 3 0 := ⟨by kernel_rfl, by kernel_rfl⟩
instance : FieldTy Tryz.prog 48 9 9 4 0 := ⟨by kernel_rfl, by kernel_rfl⟩
instance : BuildTy Tryz.prog 48 [(0, 1), (1, 1), (2, 1), (3, 1), (4, 1), (5, 1), (6, 1), (7, 1), (8, 1), (9, 1)] [.int .i64 0, .int .i64 0, .bool false, .int .i64 0, .int .i64 0, .int .i64 0, .int .i64 0, .int .i64 0, .int .i64 0, .bool false] := ⟨fun parts => by kernel_rfl⟩
-- 49 deuce/api.Format
instance : Ty Tryz.prog 49 true 10 80 (.agg #[.int .i64 0, .int .i64 0, .bool false, .int .i64 0, .int .i64 0, .int .i64 0, .int .i64 0, .int .i64 0, .int .i64 0, .bool false]) [.int .i64 0, .int .i64 0, .bool false, .int .i64 0, .int .i64 0, .int .i64 0, .int .i64 0, .int .i64 0, .int .i64 0, .bool false] := ⟨by kernel_rfl, by kernel_rfl, rfl, rfl⟩
instance : FieldTy Tryz.prog 49 0 0 3 0 := ⟨by kernel_rfl, by kernel_rfl⟩
instance : FieldTy Tryz.prog 49 1 1 3 0 := ⟨by kernel_rfl, by kernel_rfl⟩
instance : FieldTy Tryz.prog 49 2 2 4 0 := ⟨by kernel_rfl, by kernel_rfl⟩
instance : FieldTy Tryz.prog 49 3 3 3 0 := ⟨by kernel_rfl, by kernel_rfl⟩
instance : FieldTy Tryz.prog 49 4 4 3 0 := ⟨by kernel_rfl, by kernel_rfl⟩
instance : FieldTy Tryz.prog 49 5 5 3 0 := ⟨by kernel_rfl, by kernel_rfl⟩
instance : FieldTy Tryz.prog 49 6 6 3 0 := ⟨by kernel_rfl, by kernel_rfl⟩
instance : FieldTy Tryz.prog 49 7 7 3 0 := ⟨by kernel_rfl, by kernel_rfl⟩
instance : FieldTy Tryz.prog 49 8 8 3 0 := ⟨by kernel_rfl, by kernel_rfl⟩
instance : FieldTy Tryz.prog 49 9 9 4 0 := ⟨by kernel_rfl, by kernel_rfl⟩
instance : BuildTy Tryz.prog 49 [(0, 1), (1, 1), (2, 1), (3, 1), (4, 1), (5, 1), (6, 1), (7, 1), (8, 1), (9, 1)] [.int .i64 0, .int .i64 0, .bool false, .int .i64 0, .int .i64 0, .int .i64 0, .int .i64 0, .int .i64 0, .int .i64 0, .bool false] := ⟨fun parts => by kernel_rfl⟩
-- 50 []deucetop.Rally
instance : Ty Tryz.prog 50 false 1 24 (.slice none 0 0) [.slice none 0 0] := ⟨by kernel_rfl, by kernel_rfl, rfl, rfl⟩
instance : SliceTy Tryz.prog 50 65 := ⟨by kernel_rfl⟩
-- 51 func(api.Format) api.Errno
instance : Ty Tryz.prog 51 false 1 8 (.nilFunc) [.nilFunc] := ⟨by kernel_rfl, by kernel_rfl, rfl, rfl⟩
-- 52 []api.Note
instance : Ty Tryz.prog 52 false 1 24 (.slice none 0 0) [.slice none 0 0] := ⟨by kernel_rfl, by kernel_rfl, rfl, rfl⟩
instance : SliceTy Tryz.prog 52 75 := ⟨by kernel_rfl⟩
-- 53 struct { Format api.Format; First int; Marks []api.Note }
instance : Ty Tryz.prog 53 true 12 112 (.agg #[.int .i64 0, .int .i64 0, .bool false, .int .i64 0, .int .i64 0, .int .i64 0, .int .i64 0, .int .i64 0, .int .i64 0, .bool false, .int .i64 0, .slice none 0 0]) [.int .i64 0, .int .i64 0, .bool false, .int .i64 0, .int .i64 0, .int .i64 0, .int .i64 0, .int .i64 0, .int .i64 0, .bool false, .int .i64 0, .slice none 0 0] := ⟨by kernel_rfl, by kernel_rfl, rfl, rfl⟩
instance : FieldTy Tryz.prog 53 0 0 49 9 := ⟨by kernel_rfl, by kernel_rfl⟩
instance : FieldTy Tryz.prog 53 1 10 3 0 := ⟨by kernel_rfl, by kernel_rfl⟩
instance : FieldTy Tryz.prog 53 2 11 52 0 := ⟨by kernel_rfl, by kernel_rfl⟩
instance : BuildTy Tryz.prog 53 [(0, 10), (10, 1), (11, 1)] [.int .i64 0, .int .i64 0, .bool false, .int .i64 0, .int .i64 0, .int .i64 0, .int .i64 0, .int .i64 0, .int .i64 0, .bool false, .int .i64 0, .slice none 0 0] := ⟨fun parts => by kernel_rfl⟩
-- 54 deuce/api.Card
instance : Ty Tryz.prog 54 true 12 112 (.agg #[.int .i64 0, .int .i64 0, .bool false, .int .i64 0, .int .i64 0, .int .i64 0, .int .i64 0, .int .i64 0, .int .i64 0, .bool false, .int .i64 0, .slice none 0 0]) [.int .i64 0, .int .i64 0, .bool false, .int .i64 0, .int .i64 0, .int .i64 0, .int .i64 0, .int .i64 0, .int .i64 0, .bool false, .int .i64 0, .slice none 0 0] := ⟨by kernel_rfl, by kernel_rfl, rfl, rfl⟩
instance : FieldTy Tryz.prog 54 0 0 49 9 := ⟨by kernel_rfl, by kernel_rfl⟩
instance : FieldTy Tryz.prog 54 1 10 3 0 := ⟨by kernel_rfl, by kernel_rfl⟩
instance : FieldTy Tryz.prog 54 2 11 52 0 := ⟨by kernel_rfl, by kernel_rfl⟩
instance : BuildTy Tryz.prog 54 [(0, 10), (10, 1), (11, 1)] [.int .i64 0, .int .i64 0, .bool false, .int .i64 0, .int .i64 0, .int .i64 0, .int .i64 0, .int .i64 0, .int .i64 0, .bool false, .int .i64 0, .slice none 0 0] := ⟨fun parts => by kernel_rfl⟩
-- 55 []api.Strip
instance : Ty Tryz.prog 55 false 1 24 (.slice none 0 0) [.slice none 0 0] := ⟨by kernel_rfl, by kernel_rfl, rfl, rfl⟩
instance : SliceTy Tryz.prog 55 119 := ⟨by kernel_rfl⟩
-- 56 struct { Low int; High int }
instance : Ty Tryz.prog 56 true 2 16 (.agg #[.int .i64 0, .int .i64 0]) [.int .i64 0, .int .i64 0] := ⟨by kernel_rfl, by kernel_rfl, rfl, rfl⟩
instance : EqS Tryz.prog 56 2 := ⟨by kernel_rfl, by kernel_rfl, by kernel_rfl⟩
instance : FieldTy Tryz.prog 56 0 0 3 0 := ⟨by kernel_rfl, by kernel_rfl⟩
instance : FieldTy Tryz.prog 56 1 1 3 0 := ⟨by kernel_rfl, by kernel_rfl⟩
instance : BuildTy Tryz.prog 56 [(0, 1), (1, 1)] [.int .i64 0, .int .i64 0] := ⟨fun parts => by kernel_rfl⟩
-- 57 deuce/api.Span
instance : Ty Tryz.prog 57 true 2 16 (.agg #[.int .i64 0, .int .i64 0]) [.int .i64 0, .int .i64 0] := ⟨by kernel_rfl, by kernel_rfl, rfl, rfl⟩
instance : EqS Tryz.prog 57 2 := ⟨by kernel_rfl, by kernel_rfl, by kernel_rfl⟩
instance : FieldTy Tryz.prog 57 0 0 3 0 := ⟨by kernel_rfl, by kernel_rfl⟩
instance : FieldTy Tryz.prog 57 1 1 3 0 := ⟨by kernel_rfl, by kernel_rfl⟩
instance : BuildTy Tryz.prog 57 [(0, 1), (1, 1)] [.int .i64 0, .int .i64 0] := ⟨fun parts => by kernel_rfl⟩
-- 58 struct { Size int; Strips []api.Strip; Wrong int; HalfX api.Span; HalfY api.Span }
instance : Ty Tryz.prog 58 true 7 72 (.agg #[.int .i64 0, .slice none 0 0, .int .i64 0, .int .i64 0, .int .i64 0, .int .i64 0, .int .i64 0]) [.int .i64 0, .slice none 0 0, .int .i64 0, .int .i64 0, .int .i64 0, .int .i64 0, .int .i64 0] := ⟨by kernel_rfl, by kernel_rfl, rfl, rfl⟩
instance : FieldTy Tryz.prog 58 0 0 3 0 := ⟨by kernel_rfl, by kernel_rfl⟩
instance : FieldTy Tryz.prog 58 1 1 55 0 := ⟨by kernel_rfl, by kernel_rfl⟩
instance : FieldTy Tryz.prog 58 2 2 3 0 := ⟨by kernel_rfl, by kernel_rfl⟩
instance : FieldTy Tryz.prog 58 3 3 57 1 := ⟨by kernel_rfl, by kernel_rfl⟩
instance : FieldTy Tryz.prog 58 4 5 57 1 := ⟨by kernel_rfl, by kernel_rfl⟩
instance : BuildTy Tryz.prog 58 [(0, 1), (1, 1), (2, 1), (3, 2), (5, 2)] [.int .i64 0, .slice none 0 0, .int .i64 0, .int .i64 0, .int .i64 0, .int .i64 0, .int .i64 0] := ⟨fun parts => by kernel_rfl⟩
-- 59 deuce/api.View
instance : Ty Tryz.prog 59 true 7 72 (.agg #[.int .i64 0, .slice none 0 0, .int .i64 0, .int .i64 0, .int .i64 0, .int .i64 0, .int .i64 0]) [.int .i64 0, .slice none 0 0, .int .i64 0, .int .i64 0, .int .i64 0, .int .i64 0, .int .i64 0] := ⟨by kernel_rfl, by kernel_rfl, rfl, rfl⟩
instance : FieldTy Tryz.prog 59 0 0 3 0 := ⟨by kernel_rfl, by kernel_rfl⟩
instance : FieldTy Tryz.prog 59 1 1 55 0 := ⟨by kernel_rfl, by kernel_rfl⟩
instance : FieldTy Tryz.prog 59 2 2 3 0 := ⟨by kernel_rfl, by kernel_rfl⟩
instance : FieldTy Tryz.prog 59 3 3 57 1 := ⟨by kernel_rfl, by kernel_rfl⟩
instance : FieldTy Tryz.prog 59 4 5 57 1 := ⟨by kernel_rfl, by kernel_rfl⟩
instance : BuildTy Tryz.prog 59 [(0, 1), (1, 1), (2, 1), (3, 2), (5, 2)] [.int .i64 0, .slice none 0 0, .int .i64 0, .int .i64 0, .int .i64 0, .int .i64 0, .int .i64 0] := ⟨fun parts => by kernel_rfl⟩
-- 60 struct { Left int; Right int; Bottom int; Top int }
instance : Ty Tryz.prog 60 true 4 32 (.agg #[.int .i64 0, .int .i64 0, .int .i64 0, .int .i64 0]) [.int .i64 0, .int .i64 0, .int .i64 0, .int .i64 0] := ⟨by kernel_rfl, by kernel_rfl, rfl, rfl⟩
instance : EqS Tryz.prog 60 4 := ⟨by kernel_rfl, by kernel_rfl, by kernel_rfl⟩
instance : FieldTy Tryz.prog 60 0 0 3 0 := ⟨by kernel_rfl, by kernel_rfl⟩
instance : FieldTy Tryz.prog 60 1 1 3 0 := ⟨by kernel_rfl, by kernel_rfl⟩
instance : FieldTy Tryz.prog 60 2 2 3 0 := ⟨by kernel_rfl, by kernel_rfl⟩
instance : FieldTy Tryz.prog 60 3 3 3 0 := ⟨by kernel_rfl, by kernel_rfl⟩
instance : BuildTy Tryz.prog 60 [(0, 1), (1, 1), (2, 1), (3, 1)] [.int .i64 0, .int .i64 0, .int .i64 0, .int .i64 0] := ⟨fun parts => by kernel_rfl⟩
-- 61 deuce/api.Box
instance : Ty Tryz.prog 61 true 4 32 (.agg #[.int .i64 0, .int .i64 0, .int .i64 0, .int .i64 0]) [.int .i64 0, .int .i64 0, .int .i64 0, .int .i64 0] := ⟨by kernel_rfl, by kernel_rfl, rfl, rfl⟩
instance : EqS Tryz.prog 61 4 := ⟨by kernel_rfl, by kernel_rfl, by kernel_rfl⟩
instance : FieldTy Tryz.prog 61 0 0 3 0 := ⟨by kernel_rfl, by kernel_rfl⟩
instance : FieldTy Tryz.prog 61 1 1 3 0 := ⟨by kernel_rfl, by kernel_rfl⟩
instance : FieldTy Tryz.prog 61 2 2 3 0 := ⟨by kernel_rfl, by kernel_rfl⟩
instance : FieldTy Tryz.prog 61 3 3 3 0 := ⟨by kernel_rfl, by kernel_rfl⟩
instance : BuildTy Tryz.prog 61 [(0, 1), (1, 1), (2, 1), (3, 1)] [.int .i64 0, .int .i64 0, .int .i64 0, .int .i64 0] := ⟨fun parts => by kernel_rfl⟩
-- 62 struct { X int; Y int; HalfX int; HalfY int }
instance : Ty Tryz.prog 62 true 4 32 (.agg #[.int .i64 0, .int .i64 0, .int .i64 0, .int .i64 0]) [.int .i64 0, .int .i64 0, .int .i64 0, .int .i64 0] := ⟨by kernel_rfl, by kernel_rfl, rfl, rfl⟩
instance : EqS Tryz.prog 62 4 := ⟨by kernel_rfl, by kernel_rfl, by kernel_rfl⟩
instance : FieldTy Tryz.prog 62 0 0 3 0 := ⟨by kernel_rfl, by kernel_rfl⟩
instance : FieldTy Tryz.prog 62 1 1 3 0 := ⟨by kernel_rfl, by kernel_rfl⟩
instance : FieldTy Tryz.prog 62 2 2 3 0 := ⟨by kernel_rfl, by kernel_rfl⟩
instance : FieldTy Tryz.prog 62 3 3 3 0 := ⟨by kernel_rfl, by kernel_rfl⟩
instance : BuildTy Tryz.prog 62 [(0, 1), (1, 1), (2, 1), (3, 1)] [.int .i64 0, .int .i64 0, .int .i64 0, .int .i64 0] := ⟨fun parts => by kernel_rfl⟩
-- 63 deuce/api.Mark
instance : Ty Tryz.prog 63 true 4 32 (.agg #[.int .i64 0, .int .i64 0, .int .i64 0, .int .i64 0]) [.int .i64 0, .int .i64 0, .int .i64 0, .int .i64 0] := ⟨by kernel_rfl, by kernel_rfl, rfl, rfl⟩
instance : EqS Tryz.prog 63 4 := ⟨by kernel_rfl, by kernel_rfl, by kernel_rfl⟩
instance : FieldTy Tryz.prog 63 0 0 3 0 := ⟨by kernel_rfl, by kernel_rfl⟩
instance : FieldTy Tryz.prog 63 1 1 3 0 := ⟨by kernel_rfl, by kernel_rfl⟩
instance : FieldTy Tryz.prog 63 2 2 3 0 := ⟨by kernel_rfl, by kernel_rfl⟩
instance : FieldTy Tryz.prog 63 3 3 3 0 := ⟨by kernel_rfl, by kernel_rfl⟩
instance : BuildTy Tryz.prog 63 [(0, 1), (1, 1), (2, 1), (3, 1)] [.int .i64 0, .int .i64 0, .int .i64 0, .int .i64 0] := ⟨fun parts => by kernel_rfl⟩
-- 64 struct { Side int; View api.View; Box api.Box; Mark api.Mark }
instance : Ty Tryz.prog 64 true 16 144 (.agg #[.int .i64 0, .int .i64 0, .slice none 0 0, .int .i64 0, .int .i64 0, .int .i64 0, .int .i64 0, .int .i64 0, .int .i64 0, .int .i64 0, .int .i64 0, .int .i64 0, .int .i64 0, .int .i64 0, .int .i64 0, .int .i64 0]) [.int .i64 0, .int .i64 0, .slice none 0 0, .int .i64 0, .int .i64 0, .int .i64 0, .int .i64 0, .int .i64 0, .int .i64 0, .int .i64 0, .int .i64 0, .int .i64 0, .int .i64 0, .int .i64 0, .int .i64 0, .int .i64 0] := ⟨by kernel_rfl, by kernel_rfl, rfl, rfl⟩
instance : FieldTy Tryz.prog 64 0 0 3 0 := ⟨by kernel_rfl, by kernel_rfl⟩
instance : FieldTy Tryz.prog 64 1 1 59 6 := ⟨by kernel_rfl, by kernel_rfl⟩
instance : FieldTy Tryz.prog 64 2 8 61 3 := ⟨by kernel_rfl, by kernel_rfl⟩
instance : FieldTy Tryz.prog 64 3 12 63 3 := ⟨by kernel_rfl, by kernel_rfl⟩
instance : BuildTy Tryz.prog 64 [(0, 1), (1, 7), (8, 4), (12, 4)] [.int .i64 0, .int .i64 0, .slice none 0 0, .int .i64 0, .int .i64 0, .int .i64 0, .int .i64 0, .int .i64 0, .int .i64 0, .int .i64 0, .int .i64 0, .int .i64 0, .int .i64 0, .int .i64 0, .int .i64 0, .int .i64 0] := ⟨fun parts => by kernel_rfl⟩
-- 65 deuce/deucetop.Rally
instance : Ty Tryz.prog 65 true 16 144 (.agg #[.int .i64 0, .int .i64 0, .slice none 0 0, .int .i64 0, .int .i64 0, .int .i64 0, .int .i64 0, .int .i64 0, .int .i64 0, .int .i64 0, .int .i64 0, .int .i64 0, .int .i64 0, .int .i64 0, .int .i64 0, .int .i64 0]) [.int .i64 0, .int .i64 0, .slice none 0 0, .int .i64 0, .int .i64 0, .int .i64 0, .int .i64 0, .int .i64 0, .int .i64 0, .int .i64 0, .int .i64 0, .int .i64 0, .int .i64 0, .int .i64 0, .int .i64 0, .int .i64 0] := ⟨by kernel_rfl, by kernel_rfl, rfl, rfl⟩
instance : FieldTy Tryz.prog 65 0 0 3 0 := ⟨by kernel_rfl, by kernel_rfl⟩
instance : FieldTy Tryz.prog 65 1 1 59 6 := ⟨by kernel_rfl, by kernel_rfl⟩
instance : FieldTy Tryz.prog 65 2 8 61 3 := ⟨by kernel_rfl, by kernel_rfl⟩
instance : FieldTy Tryz.prog 65 3 12 63 3 := ⟨by kernel_rfl, by kernel_rfl⟩
instance : BuildTy Tryz.prog 65 [(0, 1), (1, 7), (8, 4), (12, 4)] [.int .i64 0, .int .i64 0, .slice none 0 0, .int .i64 0, .int .i64 0, .int .i64 0, .int .i64 0, .int .i64 0, .int .i64 0, .int .i64 0, .int .i64 0, .int .i64 0, .int .i64 0, .int .i64 0, .int .i64 0, .int .i64 0] := ⟨fun parts => by kernel_rfl⟩
-- 66 func(api.View) bool
instance : Ty Tryz.prog 66 false 1 8 (.nilFunc) [.nilFunc] := ⟨by kernel_rfl, by kernel_rfl, rfl, rfl⟩
-- 67 func(api.View) api.Errno
instance : Ty Tryz.prog 67 false 1 8 (.nilFunc) [.nilFunc] := ⟨by kernel_rfl, by kernel_rfl, rfl, rfl⟩
-- 68 func(api.Box) bool
instance : Ty Tryz.prog 68 false 1 8 (.nilFunc) [.nilFunc] := ⟨by kernel_rfl, by kernel_rfl, rfl, rfl⟩
-- 69 func(api.View, api.Mark) bool
instance : Ty Tryz.prog 69 false 1 8 (.nilFunc) [.nilFunc] := ⟨by kernel_rfl, by kernel_rfl, rfl, rfl⟩
-- 70 func(api.Mark, api.Box) bool
instance : Ty Tryz.prog 70 false 1 8 (.nilFunc) [.nilFunc] := ⟨by kernel_rfl, by kernel_rfl, rfl, rfl⟩
-- 71 func(api.View, api.Box) (int, api.Errno)
instance : Ty Tryz.prog 71 false 1 8 (.nilFunc) [.nilFunc] := ⟨by kernel_rfl, by kernel_rfl, rfl, rfl⟩
-- 72 struct { A int; B int }
instance : Ty Tryz.prog 72 true 2 16 (.agg #[.int .i64 0, .int .i64 0]) [.int .i64 0, .int .i64 0] := ⟨by kernel_rfl, by kernel_rfl, rfl, rfl⟩
instance : EqS Tryz.prog 72 2 := ⟨by kernel_rfl, by kernel_rfl, by kernel_rfl⟩
instance : FieldTy Tryz.prog 72 0 0 3 0 := ⟨by kernel_rfl, by kernel_rfl⟩
instance : FieldTy Tryz.prog 72 1 1 3 0 := ⟨by kernel_rfl, by kernel_rfl⟩
instance : BuildTy Tryz.prog 72 [(0, 1), (1, 1)] [.int .i64 0, .int .i64 0] := ⟨fun parts => by kernel_rfl⟩
-- 73 deuce/api.Pair
instance : Ty Tryz.prog 73 true 2 16 (.agg #[.int .i64 0, .int .i64 0]) [.int .i64 0, .int .i64 0] := ⟨by kernel_rfl, by kernel_rfl, rfl, rfl⟩
instance : EqS Tryz.prog 73 2 := ⟨by kernel_rfl, by kernel_rfl, by kernel_rfl⟩
instance : FieldTy Tryz.prog 73 0 0 3 0 := ⟨by kernel_rfl, by kernel_rfl⟩
instance : FieldTy Tryz.prog 73 1 1 3 0 := ⟨by kernel_rfl, by kernel_rfl⟩
instance : BuildTy Tryz.prog 73 [(0, 1), (1, 1)] [.int .i64 0, .int .i64 0] := ⟨fun parts => by kernel_rfl⟩
-- 74 struct { Kind int; Side int; Pair api.Pair }
instance : Ty Tryz.prog 74 true 4 32 (.agg #[.int .i64 0, .int .i64 0, .int .i64 0, .int .i64 0]) [.int .i64 0, .int .i64 0, .int .i64 0, .int .i64 0] := ⟨by kernel_rfl, by kernel_rfl, rfl, rfl⟩
instance : FieldTy Tryz.prog 74 0 0 3 0 := ⟨by kernel_rfl, by kernel_rfl⟩
instance : FieldTy Tryz.prog 74 1 1 3 0 := ⟨by kernel_rfl, by kernel_rfl⟩
instance : FieldTy Tryz.prog 74 2 2 73 1 := ⟨by kernel_rfl, by kernel_rfl⟩
instance : BuildTy Tryz.prog 74 [(0, 1), (1, 1), (2, 2)] [.int .i64 0, .int .i64 0, .int .i64 0, .int .i64 0] := ⟨fun parts => by kernel_rfl⟩
-- 75 deuce/api.Note
instance : Ty Tryz.prog 75 true 4 32 (.agg #[.int .i64 0, .int .i64 0, .int .i64 0, .int .i64 0]) [.int .i64 0, .int .i64 0, .int .i64 0, .int .i64 0] := ⟨by kernel_rfl, by kernel_rfl, rfl, rfl⟩
instance : FieldTy Tryz.prog 75 0 0 3 0 := ⟨by kernel_rfl, by kernel_rfl⟩
instance : FieldTy Tryz.prog 75 1 1 3 0 := ⟨by kernel_rfl, by kernel_rfl⟩
instance : FieldTy Tryz.prog 75 2 2 73 1 := ⟨by kernel_rfl, by kernel_rfl⟩
instance : BuildTy Tryz.prog 75 [(0, 1), (1, 1), (2, 2)] [.int .i64 0, .int .i64 0, .int .i64 0, .int .i64 0] := ⟨fun parts => by kernel_rfl⟩
-- 76 []api.Pair
instance : Ty Tryz.prog 76 false 1 24 (.slice none 0 0) [.slice none 0 0] := ⟨by kernel_rfl, by kernel_rfl, rfl, rfl⟩
instance : SliceTy Tryz.prog 76 73 := ⟨by kernel_rfl⟩
-- 77 struct { Sets []api.Pair; Games api.Pair; Points api.Pair }
instance : Ty Tryz.prog 77 true 5 56 (.agg #[.slice none 0 0, .int .i64 0, .int .i64 0, .int .i64 0, .int .i64 0]) [.slice none 0 0, .int .i64 0, .int .i64 0, .int .i64 0, .int .i64 0] := ⟨by kernel_rfl, by kernel_rfl, rfl, rfl⟩
instance : FieldTy Tryz.prog 77 0 0 76 0 := ⟨by kernel_rfl, by kernel_rfl⟩
instance : FieldTy Tryz.prog 77 1 1 73 1 := ⟨by kernel_rfl, by kernel_rfl⟩
instance : FieldTy Tryz.prog 77 2 3 73 1 := ⟨by kernel_rfl, by kernel_rfl⟩
instance : BuildTy Tryz.prog 77 [(0, 1), (1, 2), (3, 2)] [.slice none 0 0, .int .i64 0, .int .i64 0, .int .i64 0, .int .i64 0] := ⟨fun parts => by kernel_rfl⟩
-- 78 deuce/api.Board
instance : Ty Tryz.prog 78 true 5 56 (.agg #[.slice none 0 0, .int .i64 0, .int .i64 0, .int .i64 0, .int .i64 0]) [.slice none 0 0, .int .i64 0, .int .i64 0, .int .i64 0, .int .i64 0] := ⟨by kernel_rfl, by kernel_rfl, rfl, rfl⟩
instance : FieldTy Tryz.prog 78 0 0 76 0 := ⟨by kernel_rfl, by kernel_rfl⟩
instance : FieldTy Tryz.prog 78 1 1 73 1 := ⟨by kernel_rfl, by kernel_rfl⟩
instance : FieldTy Tryz.prog 78 2 3 73 1 := ⟨by kernel_rfl, by kernel_rfl⟩
instance : BuildTy Tryz.prog 78 [(0, 1), (1, 2), (3, 2)] [.slice none 0 0, .int .i64 0, .int .i64 0, .int .i64 0, .int .i64 0] := ⟨fun parts => by kernel_rfl⟩
-- 79 struct { Board api.Board; Server int; Ends int; Balls int; Winner int }
instance : Ty Tryz.prog 79 true 9 88 (.agg #[.slice none 0 0, .int .i64 0, .int .i64 0, .int .i64 0, .int .i64 0, .int .i64 0, .int .i64 0, .int .i64 0, .int .i64 0]) [.slice none 0 0, .int .i64 0, .int .i64 0, .int .i64 0, .int .i64 0, .int .i64 0, .int .i64 0, .int .i64 0, .int .i64 0] := ⟨by kernel_rfl, by kernel_rfl, rfl, rfl⟩
instance : FieldTy Tryz.prog 79 0 0 78 4 := ⟨by kernel_rfl, by kernel_rfl⟩
instance : FieldTy Tryz.prog 79 1 5 3 0 := ⟨by kernel_rfl, by kernel_rfl⟩
instance : FieldTy Tryz.prog 79 2 6 3 0 := ⟨by kernel_rfl, by kernel_rfl⟩
instance : FieldTy Tryz.prog 79 3 7 3 0 := ⟨by kernel_rfl, by kernel_rfl⟩
instance : FieldTy Tryz.prog 79 4 8 3 0 := ⟨by kernel_rfl, by kernel_rfl⟩
instance : BuildTy Tryz.prog 79 [(0, 5), (5, 1), (6, 1), (7, 1), (8, 1)] [.slice none 0 0, .int .i64 0, .int .i64 0, .int .i64 0, .int .i64 0, .int .i64 0, .int .i64 0, .int .i64 0, .int .i64 0] := ⟨fun parts => by kernel_rfl⟩
-- 80 deuce/api.Score
instance : Ty Tryz.prog 80 true 9 88 (.agg #[.slice none 0 0, .int .i64 0, .int .i64 0, .int .i64 0, .int .i64 0, .int .i64 0, .int .i64 0, .int .i64 0, .int .i64 0]) [.slice none 0 0, .int .i64 0, .int .i64 0, .int .i64 0, .int .i64 0, .int .i64 0, .int .i64 0, .int .i64 0, .int .i64 0] := ⟨by kernel_rfl, by kernel_rfl, rfl, rfl⟩
instance : FieldTy Tryz.prog 80 0 0 78 4 := ⟨by kernel_rfl, by kernel_rfl⟩
instance : FieldTy Tryz.prog 80 1 5 3 0 := ⟨by kernel_rfl, by kernel_rfl⟩
instance : FieldTy Tryz.prog 80 2 6 3 0 := ⟨by kernel_rfl, by kernel_rfl⟩
instance : FieldTy Tryz.prog 80 3 7 3 0 := ⟨by kernel_rfl, by kernel_rfl⟩
instance : FieldTy Tryz.prog 80 4 8 3 0 := ⟨by kernel_rfl, by kernel_rfl⟩
instance : BuildTy Tryz.prog 80 [(0, 5), (5, 1), (6, 1), (7, 1), (8, 1)] [.slice none 0 0, .int .i64 0, .int .i64 0, .int .i64 0, .int .i64 0, .int .i64 0, .int .i64 0, .int .i64 0, .int .i64 0] := ⟨fun parts => by kernel_rfl⟩
-- 82 func(api.Format, int, []int) (api.Score, api.Errno)
instance : Ty Tryz.prog 82 false 1 8 (.nilFunc) [.nilFunc] := ⟨by kernel_rfl, by kernel_rfl, rfl, rfl⟩
-- 83 []api.Board
instance : Ty Tryz.prog 83 false 1 24 (.slice none 0 0) [.slice none 0 0] := ⟨by kernel_rfl, by kernel_rfl, rfl, rfl⟩
instance : SliceTy Tryz.prog 83 78 := ⟨by kernel_rfl⟩
-- 85 func(api.Card) ([]api.Board, api.Errno)
instance : Ty Tryz.prog 85 false 1 8 (.nilFunc) [.nilFunc] := ⟨by kernel_rfl, by kernel_rfl, rfl, rfl⟩
-- 86 func(api.Card) (int, api.Errno)
instance : Ty Tryz.prog 86 false 1 8 (.nilFunc) [.nilFunc] := ⟨by kernel_rfl, by kernel_rfl, rfl, rfl⟩
-- 87 func(api.Board, api.Board) bool
instance : Ty Tryz.prog 87 false 1 8 (.nilFunc) [.nilFunc] := ⟨by kernel_rfl, by kernel_rfl, rfl, rfl⟩
-- 88 func(api.Format, int, []deucetop.Rally) bool
instance : Ty Tryz.prog 88 false 1 8 (.nilFunc) [.nilFunc] := ⟨by kernel_rfl, by kernel_rfl, rfl, rfl⟩
-- 89 struct { Id int; Player int; Week int; Points int; Must bool }
instance : Ty Tryz.prog 89 true 5 40 (.agg #[.int .i64 0, .int .i64 0, .int .i64 0, .int .i64 0, .bool false]) [.int .i64 0, .int .i64 0, .int .i64 0, .int .i64 0, .bool false] := ⟨by kernel_rfl, by kernel_rfl, rfl, rfl⟩
instance : FieldTy Tryz.prog 89 0 0 3 0 := ⟨by kernel_rfl, by kernel_rfl⟩
instance : FieldTy Tryz.prog 89 1 1 3 0 := ⟨by kernel_rfl, by kernel_rfl⟩
instance : FieldTy Tryz.prog 89 2 2 3 0 := ⟨by kernel_rfl, by kernel_rfl⟩
instance : FieldTy Tryz.prog 89 3 3 3 0 := ⟨by kernel_rfl, by kernel_rfl⟩
instance : FieldTy Tryz.prog 89 4 4 4 0 := ⟨by kernel_rfl, by kernel_rfl⟩
instance : BuildTy Tryz.prog 89 [(0, 1), (1, 1), (2, 1), (3, 1), (4, 1)] [.int .i64 0, .int .i64 0, .int .i64 0, .int .i64 0, .bool false] := ⟨fun parts => by kernel_rfl⟩
-- 90 deuce/api.Report
instance : Ty Tryz.prog 90 true 5 40 (.agg #[.int .i64 0, .int .i64 0, .int .i64 0, .int .i64 0, .bool false]) [.int .i64 0, .int .i64 0, .int .i64 0, .int .i64 0, .bool false] := ⟨by kernel_rfl, by kernel_rfl, rfl, rfl⟩
instance : FieldTy Tryz.prog 90 0 0 3 0 := ⟨by kernel_rfl, by kernel_rfl⟩
instance : FieldTy Tryz.prog 90 1 1 3 0 := ⟨by kernel_rfl, by kernel_rfl⟩
instance : FieldTy Tryz.prog 90 2 2 3 0 := ⟨by kernel_rfl, by kernel_rfl⟩
instance : FieldTy Tryz.prog 90 3 3 3 0 := ⟨by kernel_rfl, by kernel_rfl⟩
instance : FieldTy Tryz.prog 90 4 4 4 0 := ⟨by kernel_rfl, by kernel_rfl⟩
instance : BuildTy Tryz.prog 90 [(0, 1), (1, 1), (2, 1), (3, 1), (4, 1)] [.int .i64 0, .int .i64 0, .int .i64 0, .int .i64 0, .bool false] := ⟨fun parts => by kernel_rfl⟩
-- 91 func([]api.Report) bool
instance : Ty Tryz.prog 91 false 1 8 (.nilFunc) [.nilFunc] := ⟨by kernel_rfl, by kernel_rfl, rfl, rfl⟩
-- 92 func() api.Ledger
instance : Ty Tryz.prog 92 false 1 8 (.nilFunc) [.nilFunc] := ⟨by kernel_rfl, by kernel_rfl, rfl, rfl⟩
-- 94 func() (api.Plan, api.Plan)
instance : Ty Tryz.prog 94 false 1 8 (.nilFunc) [.nilFunc] := ⟨by kernel_rfl, by kernel_rfl, rfl, rfl⟩
-- 96 func() (api.View, api.Box)
instance : Ty Tryz.prog 96 false 1 8 (.nilFunc) [.nilFunc] := ⟨by kernel_rfl, by kernel_rfl, rfl, rfl⟩
-- 97 func() api.Card
instance : Ty Tryz.prog 97 false 1 8 (.nilFunc) [.nilFunc] := ⟨by kernel_rfl, by kernel_rfl, rfl, rfl⟩
-- 98 *rank.book
instance : Ty Tryz.prog 98 false 1 8 (.pointer none) [.pointer none] := ⟨by kernel_rfl, by kernel_rfl, rfl, rfl⟩
-- 100 func(api.Ledger, int, int) (*rank.book, api.Errno)
instance : Ty Tryz.prog 100 false 1 8 (.nilFunc) [.nilFunc] := ⟨by kernel_rfl, by kernel_rfl, rfl, rfl⟩
-- 101 func(int) []int
instance : Ty Tryz.prog 101 false 1 8 (.nilFunc) [.nilFunc] := ⟨by kernel_rfl, by kernel_rfl, rfl, rfl⟩
-- 102 struct { Player int; Nation int; Qualified bool }
instance : Ty Tryz.prog 102 true 3 24 (.agg #[.int .i64 0, .int .i64 0, .bool false]) [.int .i64 0, .int .i64 0, .bool false] := ⟨by kernel_rfl, by kernel_rfl, rfl, rfl⟩
instance : FieldTy Tryz.prog 102 0 0 3 0 := ⟨by kernel_rfl, by kernel_rfl⟩
instance : FieldTy Tryz.prog 102 1 1 3 0 := ⟨by kernel_rfl, by kernel_rfl⟩
instance : FieldTy Tryz.prog 102 2 2 4 0 := ⟨by kernel_rfl, by kernel_rfl⟩
instance : BuildTy Tryz.prog 102 [(0, 1), (1, 1), (2, 1)] [.int .i64 0, .int .i64 0, .bool false] := ⟨fun parts => by kernel_rfl⟩
-- 103 deuce/api.Person
instance : Ty Tryz.prog 103 true 3 24 (.agg #[.int .i64 0, .int .i64 0, .bool false]) [.int .i64 0, .int .i64 0, .bool false] := ⟨by kernel_rfl, by kernel_rfl, rfl, rfl⟩
instance : FieldTy Tryz.prog 103 0 0 3 0 := ⟨by kernel_rfl, by kernel_rfl⟩
instance : FieldTy Tryz.prog 103 1 1 3 0 := ⟨by kernel_rfl, by kernel_rfl⟩
instance : FieldTy Tryz.prog 103 2 2 4 0 := ⟨by kernel_rfl, by kernel_rfl⟩
instance : BuildTy Tryz.prog 103 [(0, 1), (1, 1), (2, 1)] [.int .i64 0, .int .i64 0, .bool false] := ⟨fun parts => by kernel_rfl⟩
-- 104 func(api.Plan) api.Errno
instance : Ty Tryz.prog 104 false 1 8 (.nilFunc) [.nilFunc] := ⟨by kernel_rfl, by kernel_rfl, rfl, rfl⟩
-- 105 func(api.Plan) (int, api.Errno)
instance : Ty Tryz.prog 105 false 1 8 (.nilFunc) [.nilFunc] := ⟨by kernel_rfl, by kernel_rfl, rfl, rfl⟩
-- 107 func(api.Plan, int) ([]int, bool)
instance : Ty Tryz.prog 107 false 1 8 (.nilFunc) [.nilFunc] := ⟨by kernel_rfl, by kernel_rfl, rfl, rfl⟩
-- 108 func(int, int) int
instance : Ty Tryz.prog 108 false 1 8 (.nilFunc) [.nilFunc] := ⟨by kernel_rfl, by kernel_rfl, rfl, rfl⟩
-- 109 map[api.Report]int
instance : Ty Tryz.prog 109 false 1 8 (.map none) [.map none] := ⟨by kernel_rfl, by kernel_rfl, rfl, rfl⟩
-- 110 func(...[]api.Report) []api.Report
instance : Ty Tryz.prog 110 false 1 8 (.nilFunc) [.nilFunc] := ⟨by kernel_rfl, by kernel_rfl, rfl, rfl⟩
-- 112 func([]api.Report) ([]api.Report, bool)
instance : Ty Tryz.prog 112 false 1 8 (.nilFunc) [.nilFunc] := ⟨by kernel_rfl, by kernel_rfl, rfl, rfl⟩
-- 113 func([]api.Absence) []api.Absence
instance : Ty Tryz.prog 113 false 1 8 (.nilFunc) [.nilFunc] := ⟨by kernel_rfl, by kernel_rfl, rfl, rfl⟩
-- 114 struct { Player int; From int; To int }
instance : Ty Tryz.prog 114 true 3 24 (.agg #[.int .i64 0, .int .i64 0, .int .i64 0]) [.int .i64 0, .int .i64 0, .int .i64 0] := ⟨by kernel_rfl, by kernel_rfl, rfl, rfl⟩
instance : EqS Tryz.prog 114 3 := ⟨by kernel_rfl, by kernel_rfl, by kernel_rfl⟩
instance : FieldTy Tryz.prog 114 0 0 3 0 := ⟨by kernel_rfl, by kernel_rfl⟩
instance : FieldTy Tryz.prog 114 1 1 3 0 := ⟨by kernel_rfl, by kernel_rfl⟩
instance : FieldTy Tryz.prog 114 2 2 3 0 := ⟨by kernel_rfl, by kernel_rfl⟩
instance : BuildTy Tryz.prog 114 [(0, 1), (1, 1), (2, 1)] [.int .i64 0, .int .i64 0, .int .i64 0] := ⟨fun parts => by kernel_rfl⟩
-- 115 deuce/api.Absence
instance : Ty Tryz.prog 115 true 3 24 (.agg #[.int .i64 0, .int .i64 0, .int .i64 0]) [.int .i64 0, .int .i64 0, .int .i64 0] := ⟨by kernel_rfl, by kernel_rfl, rfl, rfl⟩
instance : EqS Tryz.prog 115 3 := ⟨by kernel_rfl, by kernel_rfl, by kernel_rfl⟩
instance : FieldTy Tryz.prog 115 0 0 3 0 := ⟨by kernel_rfl, by kernel_rfl⟩
instance : FieldTy Tryz.prog 115 1 1 3 0 := ⟨by kernel_rfl, by kernel_rfl⟩
instance : FieldTy Tryz.prog 115 2 2 3 0 := ⟨by kernel_rfl, by kernel_rfl⟩
instance : BuildTy Tryz.prog 115 [(0, 1), (1, 1), (2, 1)] [.int .i64 0, .int .i64 0, .int .i64 0] := ⟨fun parts => by kernel_rfl⟩
-- 116 func(int, int, int) bool
instance : Ty Tryz.prog 116 false 1 8 (.nilFunc) [.nilFunc] := ⟨by kernel_rfl, by kernel_rfl, rfl, rfl⟩
-- 117 func(api.Format, int) bool
instance : Ty Tryz.prog 117 false 1 8 (.nilFunc) [.nilFunc] := ⟨by kernel_rfl, by kernel_rfl, rfl, rfl⟩
-- 118 struct { P int; Q int; Low int; High int }
instance : Ty Tryz.prog 118 true 4 32 (.agg #[.int .i64 0, .int .i64 0, .int .i64 0, .int .i64 0]) [.int .i64 0, .int .i64 0, .int .i64 0, .int .i64 0] := ⟨by kernel_rfl, by kernel_rfl, rfl, rfl⟩
instance : EqS Tryz.prog 118 4 := ⟨by kernel_rfl, by kernel_rfl, by kernel_rfl⟩
instance : FieldTy Tryz.prog 118 0 0 3 0 := ⟨by kernel_rfl, by kernel_rfl⟩
instance : FieldTy Tryz.prog 118 1 1 3 0 := ⟨by kernel_rfl, by kernel_rfl⟩
instance : FieldTy Tryz.prog 118 2 2 3 0 := ⟨by kernel_rfl, by kernel_rfl⟩
instance : FieldTy Tryz.prog 118 3 3 3 0 := ⟨by kernel_rfl, by kernel_rfl⟩
instance : BuildTy Tryz.prog 118 [(0, 1), (1, 1), (2, 1), (3, 1)] [.int .i64 0, .int .i64 0, .int .i64 0, .int .i64 0] := ⟨fun parts => by kernel_rfl⟩
-- 119 deuce/api.Strip
instance : Ty Tryz.prog 119 true 4 32 (.agg #[.int .i64 0, .int .i64 0, .int .i64 0, .int .i64 0]) [.int .i64 0, .int .i64 0, .int .i64 0, .int .i64 0] := ⟨by kernel_rfl, by kernel_rfl, rfl, rfl⟩
instance : EqS Tryz.prog 119 4 := ⟨by kernel_rfl, by kernel_rfl, by kernel_rfl⟩
instance : FieldTy Tryz.prog 119 0 0 3 0 := ⟨by kernel_rfl, by kernel_rfl⟩
instance : FieldTy Tryz.prog 119 1 1 3 0 := ⟨by kernel_rfl, by kernel_rfl⟩
instance : FieldTy Tryz.prog 119 2 2 3 0 := ⟨by kernel_rfl, by kernel_rfl⟩
instance : FieldTy Tryz.prog 119 3 3 3 0 := ⟨by kernel_rfl, by kernel_rfl⟩
instance : BuildTy Tryz.prog 119 [(0, 1), (1, 1), (2, 1), (3, 1)] [.int .i64 0, .int .i64 0, .int .i64 0, .int .i64 0] := ⟨fun parts => by kernel_rfl⟩
-- 120 func(api.View, int, int) []int
instance : Ty Tryz.prog 120 false 1 8 (.nilFunc) [.nilFunc] := ⟨by kernel_rfl, by kernel_rfl, rfl, rfl⟩
-- 121 func(int, int, int) int
instance : Ty Tryz.prog 121 false 1 8 (.nilFunc) [.nilFunc] := ⟨by kernel_rfl, by kernel_rfl, rfl, rfl⟩
-- 122 func(api.View, api.Box) api.Errno
instance : Ty Tryz.prog 122 false 1 8 (.nilFunc) [.nilFunc] := ⟨by kernel_rfl, by kernel_rfl, rfl, rfl⟩
-- 123 func(api.View, api.Box) int
instance : Ty Tryz.prog 123 false 1 8 (.nilFunc) [.nilFunc] := ⟨by kernel_rfl, by kernel_rfl, rfl, rfl⟩
-- 124 []api.Game
instance : Ty Tryz.prog 124 false 1 24 (.slice none 0 0) [.slice none 0 0] := ⟨by kernel_rfl, by kernel_rfl, rfl, rfl⟩
instance : SliceTy Tryz.prog 124 229 := ⟨by kernel_rfl⟩
-- 125 struct { Score api.Score; First int; Games []api.Game; Fresh bool }
instance : Ty Tryz.prog 125 true 12 128 (.agg #[.slice none 0 0, .int .i64 0, .int .i64 0, .int .i64 0, .int .i64 0, .int .i64 0, .int .i64 0, .int .i64 0, .int .i64 0, .int .i64 0, .slice none 0 0, .bool false]) [.slice none 0 0, .int .i64 0, .int .i64 0, .int .i64 0, .int .i64 0, .int .i64 0, .int .i64 0, .int .i64 0, .int .i64 0, .int .i64 0, .slice none 0 0, .bool false] := ⟨by kernel_rfl, by kernel_rfl, rfl, rfl⟩
instance : FieldTy Tryz.prog 125 0 0 80 8 := ⟨by kernel_rfl, by kernel_rfl⟩
instance : FieldTy Tryz.prog 125 1 9 3 0 := ⟨by kernel_rfl, by kernel_rfl⟩
instance : FieldTy Tryz.prog 125 2 10 124 0 := ⟨by kernel_rfl, by kernel_rfl⟩
instance : FieldTy Tryz.prog 125 3 11 4 0 := ⟨by kernel_rfl, by kernel_rfl⟩
instance : BuildTy Tryz.prog 125 [(0, 9), (9, 1), (10, 1), (11, 1)] [.slice none 0 0, .int .i64 0, .int .i64 0, .int .i64 0, .int .i64 0, .int .i64 0, .int .i64 0, .int .i64 0, .int .i64 0, .int .i64 0, .slice none 0 0, .bool false] := ⟨fun parts => by kernel_rfl⟩
-- 126 deuce/deuceref01.Match
instance : Ty Tryz.prog 126 true 12 128 (.agg #[.slice none 0 0, .int .i64 0, .int .i64 0, .int .i64 0, .int .i64 0, .int .i64 0, .int .i64 0, .int .i64 0, .int .i64 0, .int .i64 0, .slice none 0 0, .bool false]) [.slice none 0 0, .int .i64 0, .int .i64 0, .int .i64 0, .int .i64 0, .int .i64 0, .int .i64 0, .int .i64 0, .int .i64 0, .int .i64 0, .slice none 0 0, .bool false] := ⟨by kernel_rfl, by kernel_rfl, rfl, rfl⟩
instance : FieldTy Tryz.prog 126 0 0 80 8 := ⟨by kernel_rfl, by kernel_rfl⟩
instance : FieldTy Tryz.prog 126 1 9 3 0 := ⟨by kernel_rfl, by kernel_rfl⟩
instance : FieldTy Tryz.prog 126 2 10 124 0 := ⟨by kernel_rfl, by kernel_rfl⟩
instance : FieldTy Tryz.prog 126 3 11 4 0 := ⟨by kernel_rfl, by kernel_rfl⟩
instance : BuildTy Tryz.prog 126 [(0, 9), (9, 1), (10, 1), (11, 1)] [.slice none 0 0, .int .i64 0, .int .i64 0, .int .i64 0, .int .i64 0, .int .i64 0, .int .i64 0, .int .i64 0, .int .i64 0, .int .i64 0, .slice none 0 0, .bool false] := ⟨fun parts => by kernel_rfl⟩
-- 128 func(api.Format, int, []int) (deuceref01.Match, api.Errno)
instance : Ty Tryz.prog 128 false 1 8 (.nilFunc) [.nilFunc] := ⟨by kernel_rfl, by kernel_rfl, rfl, rfl⟩
-- 129 *score.match
instance : Ty Tryz.prog 129 false 1 8 (.pointer none) [.pointer none] := ⟨by kernel_rfl, by kernel_rfl, rfl, rfl⟩
-- 131 func(api.Format, int, []int) (*score.match, api.Errno)
instance : Ty Tryz.prog 131 false 1 8 (.nilFunc) [.nilFunc] := ⟨by kernel_rfl, by kernel_rfl, rfl, rfl⟩
-- 132 struct { api.Format }
instance : Ty Tryz.prog 132 true 10 80 (.agg #[.int .i64 0, .int .i64 0, .bool false, .int .i64 0, .int .i64 0, .int .i64 0, .int .i64 0, .int .i64 0, .int .i64 0, .bool false]) [.int .i64 0, .int .i64 0, .bool false, .int .i64 0, .int .i64 0, .int .i64 0, .int .i64 0, .int .i64 0, .int .i64 0, .bool false] := ⟨by kernel_rfl, by kernel_rfl, rfl, rfl⟩
instance : FieldTy Tryz.prog 132 0 0 49 9 := ⟨by kernel_rfl, by kernel_rfl⟩
instance : BuildTy Tryz.prog 132 [(0, 10)] [.int .i64 0, .int .i64 0, .bool false, .int .i64 0, .int .i64 0, .int .i64 0, .int .i64 0, .int .i64 0, .int .i64 0, .bool false] := ⟨fun parts => by kernel_rfl⟩
-- 133 deuce/score.rules
instance : Ty Tryz.prog 133 true 10 80 (.agg #[.int .i64 0, .int .i64 0, .bool false, .int .i64 0, .int .i64 0, .int .i64 0, .int .i64 0, .int .i64 0, .int .i64 0, .bool false]) [.int .i64 0, .int .i64 0, .bool false, .int .i64 0, .int .i64 0, .int .i64 0, .int .i64 0, .int .i64 0, .int .i64 0, .bool false] := ⟨by kernel_rfl, by kernel_rfl, rfl, rfl⟩
instance : FieldTy Tryz.prog 133 0 0 49 9 := ⟨by kernel_rfl, by kernel_rfl⟩
instance : BuildTy Tryz.prog 133 [(0, 10)] [.int .i64 0, .int .i64 0, .bool false, .int .i64 0, .int .i64 0, .int .i64 0, .int .i64 0, .int .i64 0, .int .i64 0, .bool false] := ⟨fun parts => by kernel_rfl⟩
-- 134 []bool
instance : Ty Tryz.prog 134 false 1 24 (.slice none 0 0) [.slice none 0 0] := ⟨by kernel_rfl, by kernel_rfl, rfl, rfl⟩
instance : SliceTy Tryz.prog 134 4 := ⟨by kernel_rfl⟩
-- 135 struct { score.rules; api.Score; first int; won api.Pair; ties []bool; games []api.Game }
instance : Ty Tryz.prog 135 true 24 240 (.agg #[.int .i64 0, .int .i64 0, .bool false, .int .i64 0, .int .i64 0, .int .i64 0, .int .i64 0, .int .i64 0, .int .i64 0, .bool false, .slice none 0 0, .int .i64 0, .int .i64 0, .int .i64 0, .int .i64 0, .int .i64 0, .int .i64 0, .int .i64 0, .int .i64 0, .int .i64 0, .int .i64 0, .int .i64 0, .slice none 0 0, .slice none 0 0]) [.int .i64 0, .int .i64 0, .bool false, .int .i64 0, .int .i64 0, .int .i64 0, .int .i64 0, .int .i64 0, .int .i64 0, .bool false, .slice none 0 0, .int .i64 0, .int .i64 0, .int .i64 0, .int .i64 0, .int .i64 0, .int .i64 0, .int .i64 0, .int .i64 0, .int .i64 0, .int .i64 0, .int .i64 0, .slice none 0 0, .slice none 0 0] := ⟨by kernel_rfl, by kernel_rfl, rfl, rfl⟩
instance : FieldTy Tryz.prog 135 0 0 133 9 := ⟨by kernel_rfl, by kernel_rfl⟩
instance : FieldTy Tryz.prog 135 1 10 80 8 := ⟨by kernel_rfl, by kernel_rfl⟩
instance : FieldTy Tryz.prog 135 2 19 3 0 := ⟨by kernel_rfl, by kernel_rfl⟩
instance : FieldTy Tryz.prog 135 3 20 73 1 := ⟨by kernel_rfl, by kernel_rfl⟩
instance : FieldTy Tryz.prog 135 4 22 134 0 := ⟨by kernel_rfl, by kernel_rfl⟩
instance : FieldTy Tryz.prog 135 5 23 124 0 := ⟨by kernel_rfl, by kernel_rfl⟩
instance : BuildTy Tryz.prog 135 [(0, 10), (10, 9), (19, 1), (20, 2), (22, 1), (23, 1)] [.int .i64 0, .int .i64 0, .bool false, .int .i64 0, .int .i64 0, .int .i64 0, .int .i64 0, .int .i64 0, .int .i64 0, .bool false, .slice none 0 0, .int .i64 0, .int .i64 0, .int .i64 0, .int .i64 0, .int .i64 0, .int .i64 0, .int .i64 0, .int .i64 0, .int .i64 0, .int .i64 0, .int .i64 0, .slice none 0 0, .slice none 0 0] := ⟨fun parts => by kernel_rfl⟩
-- 136 deuce/score.match
instance : Ty Tryz.prog 136 true 24 240 (.agg #[.int .i64 0, .int .i64 0, .bool false, .int .i64 0, .int .i64 0, .int .i64 0, .int .i64 0, .int .i64 0, .int .i64 0, .bool false, .slice none 0 0, .int .i64 0, .int .i64 0, .int .i64 0, .int .i64 0, .int .i64 0, .int .i64 0, .int .i64 0, .int .i64 0, .int .i64 0, .int .i64 0, .int .i64 0, .slice none 0 0, .slice none 0 0]) [.int .i64 0, .int .i64 0, .bool false, .int .i64 0, .int .i64 0, .int .i64 0, .int .i64 0, .int .i64 0, .int .i64 0, .bool false, .slice none 0 0, .int .i64 0, .int .i64 0, .int .i64 0, .int .i64 0, .int .i64 0, .int .i64 0, .int .i64 0, .int .i64 0, .int .i64 0, .int .i64 0, .int .i64 0, .slice none 0 0, .slice none 0 0] := ⟨by kernel_rfl, by kernel_rfl, rfl, rfl⟩
instance : FieldTy Tryz.prog 136 0 0 133 9 := ⟨by kernel_rfl, by kernel_rfl⟩
instance : FieldTy Tryz.prog 136 1 10 80 8 := ⟨by kernel_rfl, by kernel_rfl⟩
instance : FieldTy Tryz.prog 136 2 19 3 0 := ⟨by kernel_rfl, by kernel_rfl⟩
instance : FieldTy Tryz.prog 136 3 20 73 1 := ⟨by kernel_rfl, by kernel_rfl⟩
instance : FieldTy Tryz.prog 136 4 22 134 0 := ⟨by kernel_rfl, by kernel_rfl⟩
instance : FieldTy Tryz.prog 136 5 23 124 0 := ⟨by kernel_rfl, by kernel_rfl⟩
instance : BuildTy Tryz.prog 136 [(0, 10), (10, 9), (19, 1), (20, 2), (22, 1), (23, 1)] [.int .i64 0, .int .i64 0, .bool false, .int .i64 0, .int .i64 0, .int .i64 0, .int .i64 0, .int .i64 0, .int .i64 0, .bool false, .slice none 0 0, .int .i64 0, .int .i64 0, .int .i64 0, .int .i64 0, .int .i64 0, .int .i64 0, .int .i64 0, .int .i64 0, .int .i64 0, .int .i64 0, .int .i64 0, .slice none 0 0, .slice none 0 0] := ⟨fun parts => by kernel_rfl⟩
-- 137 map[card.spot]*card.node
instance : Ty Tryz.prog 137 false 1 8 (.map none) [.map none] := ⟨by kernel_rfl, by kernel_rfl, rfl, rfl⟩
-- 138 deuce/card.crowd
instance : Ty Tryz.prog 138 false 1 8 (.map none) [.map none] := ⟨by kernel_rfl, by kernel_rfl, rfl, rfl⟩
-- 140 func(api.Card) (card.crowd, api.Errno)
instance : Ty Tryz.prog 140 false 1 8 (.nilFunc) [.nilFunc] := ⟨by kernel_rfl, by kernel_rfl, rfl, rfl⟩
-- 141 [5]api.Pair
instance : Ty Tryz.prog 141 true 10 80 (.agg #[.int .i64 0, .int .i64 0, .int .i64 0, .int .i64 0, .int .i64 0, .int .i64 0, .int .i64 0, .int .i64 0, .int .i64 0, .int .i64 0]) [.int .i64 0, .int .i64 0, .int .i64 0, .int .i64 0, .int .i64 0, .int .i64 0, .int .i64 0, .int .i64 0, .int .i64 0, .int .i64 0] := ⟨by kernel_rfl, by kernel_rfl, rfl, rfl⟩
instance : ArrayTy Tryz.prog 141 5 73 := ⟨by kernel_rfl⟩
-- 142 struct { first int; over int; sets [5]api.Pair; games api.Pair; points api.Pair }
instance : Ty Tryz.prog 142 true 16 128 (.agg #[.int .i64 0, .int .i64 0, .int .i64 0, .int .i64 0, .int .i64 0, .int .i64 0, .int .i64 0, .int .i64 0, .int .i64 0, .int .i64 0, .int .i64 0, .int .i64 0, .int .i64 0, .int .i64 0, .int .i64 0, .int .i64 0]) [.int .i64 0, .int .i64 0, .int .i64 0, .int .i64 0, .int .i64 0, .int .i64 0, .int .i64 0, .int .i64 0, .int .i64 0, .int .i64 0, .int .i64 0, .int .i64 0, .int .i64 0, .int .i64 0, .int .i64 0, .int .i64 0] := ⟨by kernel_rfl, by kernel_rfl, rfl, rfl⟩
instance : FieldTy Tryz.prog 142 0 0 3 0 := ⟨by kernel_rfl, by kernel_rfl⟩
instance : FieldTy Tryz.prog 142 1 1 3 0 := ⟨by kernel_rfl, by kernel_rfl⟩
instance : FieldTy Tryz.prog 142 2 2 141 9 := ⟨by kernel_rfl, by kernel_rfl⟩
instance : FieldTy Tryz.prog 142 3 12 73 1 := ⟨by kernel_rfl, by kernel_rfl⟩
instance : FieldTy Tryz.prog 142 4 14 73 1 := ⟨by kernel_rfl, by kernel_rfl⟩
instance : BuildTy Tryz.prog 142 [(0, 1), (1, 1), (2, 10), (12, 2), (14, 2)] [.int .i64 0, .int .i64 0, .int .i64 0, .int .i64 0, .int .i64 0, .int .i64 0, .int .i64 0, .int .i64 0, .int .i64 0, .int .i64 0, .int .i64 0, .int .i64 0, .int .i64 0, .int .i64 0, .int .i64 0, .int .i64 0] := ⟨fun parts => by kernel_rfl⟩
-- 143 deuce/card.spot
instance : Ty Tryz.prog 143 true 16 128 (.agg #[.int .i64 0, .int .i64 0, .int .i64 0, .int .i64 0, .int .i64 0, .int .i64 0, .int .i64 0, .int .i64 0, .int .i64 0, .int .i64 0, .int .i64 0, .int .i64 0, .int .i64 0, .int .i64 0, .int .i64 0, .int .i64 0]) [.int .i64 0, .int .i64 0, .int .i64 0, .int .i64 0, .int .i64 0, .int .i64 0, .int .i64 0, .int .i64 0, .int .i64 0, .int .i64 0, .int .i64 0, .int .i64 0, .int .i64 0, .int .i64 0, .int .i64 0, .int .i64 0] := ⟨by kernel_rfl, by kernel_rfl, rfl, rfl⟩
instance : FieldTy Tryz.prog 143 0 0 3 0 := ⟨by kernel_rfl, by kernel_rfl⟩
instance : FieldTy Tryz.prog 143 1 1 3 0 := ⟨by kernel_rfl, by kernel_rfl⟩
instance : FieldTy Tryz.prog 143 2 2 141 9 := ⟨by kernel_rfl, by kernel_rfl⟩
instance : FieldTy Tryz.prog 143 3 12 73 1 := ⟨by kernel_rfl, by kernel_rfl⟩
instance : FieldTy Tryz.prog 143 4 14 73 1 := ⟨by kernel_rfl, by kernel_rfl⟩
instance : BuildTy Tryz.prog 143 [(0, 1), (1, 1), (2, 10), (12, 2), (14, 2)] [.int .i64 0, .int .i64 0, .int .i64 0, .int .i64 0, .int .i64 0, .int .i64 0, .int .i64 0, .int .i64 0, .int .i64 0, .int .i64 0, .int .i64 0, .int .i64 0, .int .i64 0, .int .i64 0, .int .i64 0, .int .i64 0] := ⟨fun parts => by kernel_rfl⟩
-- 144 func() api.Board
instance : Ty Tryz.prog 144 false 1 8 (.nilFunc) [.nilFunc] := ⟨by kernel_rfl, by kernel_rfl, rfl, rfl⟩
-- 145 func(...int) int
instance : Ty Tryz.prog 145 false 1 8 (.nilFunc) [.nilFunc] := ⟨by kernel_rfl, by kernel_rfl, rfl, rfl⟩
-- 146 func([]api.Pair, []api.Pair, func(api.Pair, api.Pair) int) int
instance : Ty Tryz.prog 146 false 1 8 (.nilFunc) [.nilFunc] := ⟨by kernel_rfl, by kernel_rfl, rfl, rfl⟩
-- 147 func(api.Pair, api.Pair) int
instance : Ty Tryz.prog 147 false 1 8 (.nilFunc) [.nilFunc] := ⟨by kernel_rfl, by kernel_rfl, rfl, rfl⟩
-- 148 func(api.Board, api.Board) int
instance : Ty Tryz.prog 148 false 1 8 (.nilFunc) [.nilFunc] := ⟨by kernel_rfl, by kernel_rfl, rfl, rfl⟩
-- 149 func([]api.Board, func(api.Board, api.Board) int)
instance : Ty Tryz.prog 149 false 1 8 (.nilFunc) [.nilFunc] := ⟨by kernel_rfl, by kernel_rfl, rfl, rfl⟩
-- 150 func([]api.Board, func(api.Board, api.Board) bool) []api.Board
instance : Ty Tryz.prog 150 false 1 8 (.nilFunc) [.nilFunc] := ⟨by kernel_rfl, by kernel_rfl, rfl, rfl⟩
-- 152 func(api.Card) (card.crowd, int, api.Errno)
instance : Ty Tryz.prog 152 false 1 8 (.nilFunc) [.nilFunc] := ⟨by kernel_rfl, by kernel_rfl, rfl, rfl⟩
-- 153 func(int, []api.Absence) bool
instance : Ty Tryz.prog 153 false 1 8 (.nilFunc) [.nilFunc] := ⟨by kernel_rfl, by kernel_rfl, rfl, rfl⟩
-- 154 func(int, api.Report) bool
instance : Ty Tryz.prog 154 false 1 8 (.nilFunc) [.nilFunc] := ⟨by kernel_rfl, by kernel_rfl, rfl, rfl⟩
-- 156 func() (api.Format, []int)
instance : Ty Tryz.prog 156 false 1 8 (.nilFunc) [.nilFunc] := ⟨by kernel_rfl, by kernel_rfl, rfl, rfl⟩
-- 157 func(api.Ledger) (*rank.book, api.Errno)
instance : Ty Tryz.prog 157 false 1 8 (.nilFunc) [.nilFunc] := ⟨by kernel_rfl, by kernel_rfl, rfl, rfl⟩
-- 158 []rank.line
instance : Ty Tryz.prog 158 false 1 24 (.slice none 0 0) [.slice none 0 0] := ⟨by kernel_rfl, by kernel_rfl, rfl, rfl⟩
instance : SliceTy Tryz.prog 158 166 := ⟨by kernel_rfl⟩
-- 159 struct { api.Ledger }
instance : Ty Tryz.prog 159 true 5 88 (.agg #[.int .i64 0, .int .i64 0, .slice none 0 0, .slice none 0 0, .slice none 0 0]) [.int .i64 0, .int .i64 0, .slice none 0 0, .slice none 0 0, .slice none 0 0] := ⟨by kernel_rfl, by kernel_rfl, rfl, rfl⟩
instance : FieldTy Tryz.prog 159 0 0 25 4 := ⟨by kernel_rfl, by kernel_rfl⟩
instance : BuildTy Tryz.prog 159 [(0, 5)] [.int .i64 0, .int .i64 0, .slice none 0 0, .slice none 0 0, .slice none 0 0] := ⟨fun parts => by kernel_rfl⟩
-- 160 deuce/rank.book
instance : Ty Tryz.prog 160 true 5 88 (.agg #[.int .i64 0, .int .i64 0, .slice none 0 0, .slice none 0 0, .slice none 0 0]) [.int .i64 0, .int .i64 0, .slice none 0 0, .slice none 0 0, .slice none 0 0] := ⟨by kernel_rfl, by kernel_rfl, rfl, rfl⟩
instance : FieldTy Tryz.prog 160 0 0 25 4 := ⟨by kernel_rfl, by kernel_rfl⟩
instance : BuildTy Tryz.prog 160 [(0, 5)] [.int .i64 0, .int .i64 0, .slice none 0 0, .slice none 0 0, .slice none 0 0] := ⟨fun parts => by kernel_rfl⟩
-- 161 func(int, int) []api.Report
instance : Ty Tryz.prog 161 false 1 8 (.nilFunc) [.nilFunc] := ⟨by kernel_rfl, by kernel_rfl, rfl, rfl⟩
-- 162 func([]api.Absence, int, int) bool
instance : Ty Tryz.prog 162 false 1 8 (.nilFunc) [.nilFunc] := ⟨by kernel_rfl, by kernel_rfl, rfl, rfl⟩
-- 163 func([]api.Report) int
instance : Ty Tryz.prog 163 false 1 8 (.nilFunc) [.nilFunc] := ⟨by kernel_rfl, by kernel_rfl, rfl, rfl⟩
-- 164 func([]api.Report) []api.Report
instance : Ty Tryz.prog 164 false 1 8 (.nilFunc) [.nilFunc] := ⟨by kernel_rfl, by kernel_rfl, rfl, rfl⟩
-- 165 struct { player int; points int; musts int; many int }
instance : Ty Tryz.prog 165 true 4 32 (.agg #[.int .i64 0, .int .i64 0, .int .i64 0, .int .i64 0]) [.int .i64 0, .int .i64 0, .int .i64 0, .int .i64 0] := ⟨by kernel_rfl, by kernel_rfl, rfl, rfl⟩
instance : EqS Tryz.prog 165 4 := ⟨by kernel_rfl, by kernel_rfl, by kernel_rfl⟩
instance : FieldTy Tryz.prog 165 0 0 3 0 := ⟨by kernel_rfl, by kernel_rfl⟩
instance : FieldTy Tryz.prog 165 1 1 3 0 := ⟨by kernel_rfl, by kernel_rfl⟩
instance : FieldTy Tryz.prog 165 2 2 3 0 := ⟨by kernel_rfl, by kernel_rfl⟩
instance : FieldTy Tryz.prog 165 3 3 3 0 := ⟨by kernel_rfl, by kernel_rfl⟩
instance : BuildTy Tryz.prog 165 [(0, 1), (1, 1), (2, 1), (3, 1)] [.int .i64 0, .int .i64 0, .int .i64 0, .int .i64 0] := ⟨fun parts => by kernel_rfl⟩
-- 166 deuce/rank.line
instance : Ty Tryz.prog 166 true 4 32 (.agg #[.int .i64 0, .int .i64 0, .int .i64 0, .int .i64 0]) [.int .i64 0, .int .i64 0, .int .i64 0, .int .i64 0] := ⟨by kernel_rfl, by kernel_rfl, rfl, rfl⟩
instance : EqS Tryz.prog 166 4 := ⟨by kernel_rfl, by kernel_rfl, by kernel_rfl⟩
instance : FieldTy Tryz.prog 166 0 0 3 0 := ⟨by kernel_rfl, by kernel_rfl⟩
instance : FieldTy Tryz.prog 166 1 1 3 0 := ⟨by kernel_rfl, by kernel_rfl⟩
instance : FieldTy Tryz.prog 166 2 2 3 0 := ⟨by kernel_rfl, by kernel_rfl⟩
instance : FieldTy Tryz.prog 166 3 3 3 0 := ⟨by kernel_rfl, by kernel_rfl⟩
instance : BuildTy Tryz.prog 166 [(0, 1), (1, 1), (2, 1), (3, 1)] [.int .i64 0, .int .i64 0, .int .i64 0, .int .i64 0] := ⟨fun parts => by kernel_rfl⟩
-- 167 func([]rank.line, func(rank.line, rank.line) int)
instance : Ty Tryz.prog 167 false 1 8 (.nilFunc) [.nilFunc] := ⟨by kernel_rfl, by kernel_rfl, rfl, rfl⟩
-- 168 func(rank.line, rank.line) int
instance : Ty Tryz.prog 168 false 1 8 (.nilFunc) [.nilFunc] := ⟨by kernel_rfl, by kernel_rfl, rfl, rfl⟩
-- 169 func(rank.line) int
instance : Ty Tryz.prog 169 false 1 8 (.nilFunc) [.nilFunc] := ⟨by kernel_rfl, by kernel_rfl, rfl, rfl⟩
-- 170 func(func([]int) bool)
instance : Ty Tryz.prog 170 false 1 8 (.nilFunc) [.nilFunc] := ⟨by kernel_rfl, by kernel_rfl, rfl, rfl⟩
-- 171 func(api.Plan) func(func([]int) bool)
instance : Ty Tryz.prog 171 false 1 8 (.nilFunc) [.nilFunc] := ⟨by kernel_rfl, by kernel_rfl, rfl, rfl⟩
-- 172 func(api.Plan, []int) []int
instance : Ty Tryz.prog 172 false 1 8 (.nilFunc) [.nilFunc] := ⟨by kernel_rfl, by kernel_rfl, rfl, rfl⟩
-- 173 func([]int, int) int
instance : Ty Tryz.prog 173 false 1 8 (.nilFunc) [.nilFunc] := ⟨by kernel_rfl, by kernel_rfl, rfl, rfl⟩
-- 174 [][]api.Report
instance : Ty Tryz.prog 174 false 1 24 (.slice none 0 0) [.slice none 0 0] := ⟨by kernel_rfl, by kernel_rfl, rfl, rfl⟩
instance : SliceTy Tryz.prog 174 22 := ⟨by kernel_rfl⟩
-- 175 func([]api.Report, int) []api.Report
instance : Ty Tryz.prog 175 false 1 8 (.nilFunc) [.nilFunc] := ⟨by kernel_rfl, by kernel_rfl, rfl, rfl⟩
-- 176 func([]api.Report, func(api.Report, api.Report) int)
instance : Ty Tryz.prog 176 false 1 8 (.nilFunc) [.nilFunc] := ⟨by kernel_rfl, by kernel_rfl, rfl, rfl⟩
-- 177 func(api.Report, api.Report) int
instance : Ty Tryz.prog 177 false 1 8 (.nilFunc) [.nilFunc] := ⟨by kernel_rfl, by kernel_rfl, rfl, rfl⟩
-- 178 func(api.Box) api.Errno
instance : Ty Tryz.prog 178 false 1 8 (.nilFunc) [.nilFunc] := ⟨by kernel_rfl, by kernel_rfl, rfl, rfl⟩
-- 179 []lines.point
instance : Ty Tryz.prog 179 false 1 24 (.slice none 0 0) [.slice none 0 0] := ⟨by kernel_rfl, by kernel_rfl, rfl, rfl⟩
instance : SliceTy Tryz.prog 179 183 := ⟨by kernel_rfl⟩
-- 180 func(api.View) []lines.point
instance : Ty Tryz.prog 180 false 1 8 (.nilFunc) [.nilFunc] := ⟨by kernel_rfl, by kernel_rfl, rfl, rfl⟩
-- 181 func([]lines.point, func(lines.point) bool) bool
instance : Ty Tryz.prog 181 false 1 8 (.nilFunc) [.nilFunc] := ⟨by kernel_rfl, by kernel_rfl, rfl, rfl⟩
-- 182 struct { x int; y int }
instance : Ty Tryz.prog 182 true 2 16 (.agg #[.int .i64 0, .int .i64 0]) [.int .i64 0, .int .i64 0] := ⟨by kernel_rfl, by kernel_rfl, rfl, rfl⟩
instance : EqS Tryz.prog 182 2 := ⟨by kernel_rfl, by kernel_rfl, by kernel_rfl⟩
instance : FieldTy Tryz.prog 182 0 0 3 0 := ⟨by kernel_rfl, by kernel_rfl⟩
instance : FieldTy Tryz.prog 182 1 1 3 0 := ⟨by kernel_rfl, by kernel_rfl⟩
instance : BuildTy Tryz.prog 182 [(0, 1), (1, 1)] [.int .i64 0, .int .i64 0] := ⟨fun parts => by kernel_rfl⟩
-- 183 deuce/lines.point
instance : Ty Tryz.prog 183 true 2 16 (.agg #[.int .i64 0, .int .i64 0]) [.int .i64 0, .int .i64 0] := ⟨by kernel_rfl, by kernel_rfl, rfl, rfl⟩
instance : EqS Tryz.prog 183 2 := ⟨by kernel_rfl, by kernel_rfl, by kernel_rfl⟩
instance : FieldTy Tryz.prog 183 0 0 3 0 := ⟨by kernel_rfl, by kernel_rfl⟩
instance : FieldTy Tryz.prog 183 1 1 3 0 := ⟨by kernel_rfl, by kernel_rfl⟩
instance : BuildTy Tryz.prog 183 [(0, 1), (1, 1)] [.int .i64 0, .int .i64 0] := ⟨fun parts => by kernel_rfl⟩
-- 184 func(api.View, lines.point) api.Mark
instance : Ty Tryz.prog 184 false 1 8 (.nilFunc) [.nilFunc] := ⟨by kernel_rfl, by kernel_rfl, rfl, rfl⟩
-- 185 func(lines.point) bool
instance : Ty Tryz.prog 185 false 1 8 (.nilFunc) [.nilFunc] := ⟨by kernel_rfl, by kernel_rfl, rfl, rfl⟩
-- 186 func(api.Format, int) deuceref01.Match
instance : Ty Tryz.prog 186 false 1 8 (.nilFunc) [.nilFunc] := ⟨by kernel_rfl, by kernel_rfl, rfl, rfl⟩
-- 187 func(api.Format, deuceref01.Match, int) deuceref01.Match
instance : Ty Tryz.prog 187 false 1 8 (.nilFunc) [.nilFunc] := ⟨by kernel_rfl, by kernel_rfl, rfl, rfl⟩
-- 188 func(api.Format, deuceref01.Match) int
instance : Ty Tryz.prog 188 false 1 8 (.nilFunc) [.nilFunc] := ⟨by kernel_rfl, by kernel_rfl, rfl, rfl⟩
-- 189 func(score.rules, int) *score.match
instance : Ty Tryz.prog 189 false 1 8 (.nilFunc) [.nilFunc] := ⟨by kernel_rfl, by kernel_rfl, rfl, rfl⟩
-- 190 func(int)
instance : Ty Tryz.prog 190 false 1 8 (.nilFunc) [.nilFunc] := ⟨by kernel_rfl, by kernel_rfl, rfl, rfl⟩
-- 191 func([]api.Pair) []api.Pair
instance : Ty Tryz.prog 191 false 1 8 (.nilFunc) [.nilFunc] := ⟨by kernel_rfl, by kernel_rfl, rfl, rfl⟩
-- 192 func([]api.Board, int, int, int, func(api.Board, api.Board) int)
instance : Ty Tryz.prog 192 false 1 8 (.nilFunc) [.nilFunc] := ⟨by kernel_rfl, by kernel_rfl, rfl, rfl⟩
-- 193 func(uint) int
instance : Ty Tryz.prog 193 false 1 8 (.nilFunc) [.nilFunc] := ⟨by kernel_rfl, by kernel_rfl, rfl, rfl⟩
-- 194 uint
instance : Ty Tryz.prog 194 false 1 8 (.int .u64 0) [.int .u64 0] := ⟨by kernel_rfl, by kernel_rfl, rfl, rfl⟩
-- 195 func(api.Card) api.Errno
instance : Ty Tryz.prog 195 false 1 8 (.nilFunc) [.nilFunc] := ⟨by kernel_rfl, by kernel_rfl, rfl, rfl⟩
-- 196 struct { api.Card }
instance : Ty Tryz.prog 196 true 12 112 (.agg #[.int .i64 0, .int .i64 0, .bool false, .int .i64 0, .int .i64 0, .int .i64 0, .int .i64 0, .int .i64 0, .int .i64 0, .bool false, .int .i64 0, .slice none 0 0]) [.int .i64 0, .int .i64 0, .bool false, .int .i64 0, .int .i64 0, .int .i64 0, .int .i64 0, .int .i64 0, .int .i64 0, .bool false, .int .i64 0, .slice none 0 0] := ⟨by kernel_rfl, by kernel_rfl, rfl, rfl⟩
instance : FieldTy Tryz.prog 196 0 0 54 11 := ⟨by kernel_rfl, by kernel_rfl⟩
instance : BuildTy Tryz.prog 196 [(0, 12)] [.int .i64 0, .int .i64 0, .bool false, .int .i64 0, .int .i64 0, .int .i64 0, .int .i64 0, .int .i64 0, .int .i64 0, .bool false, .int .i64 0, .slice none 0 0] := ⟨fun parts => by kernel_rfl⟩
-- 197 deuce/card.reader
instance : Ty Tryz.prog 197 true 12 112 (.agg #[.int .i64 0, .int .i64 0, .bool false, .int .i64 0, .int .i64 0, .int .i64 0, .int .i64 0, .int .i64 0, .int .i64 0, .bool false, .int .i64 0, .slice none 0 0]) [.int .i64 0, .int .i64 0, .bool false, .int .i64 0, .int .i64 0, .int .i64 0, .int .i64 0, .int .i64 0, .int .i64 0, .bool false, .int .i64 0, .slice none 0 0] := ⟨by kernel_rfl, by kernel_rfl, rfl, rfl⟩
instance : FieldTy Tryz.prog 197 0 0 54 11 := ⟨by kernel_rfl, by kernel_rfl⟩
instance : BuildTy Tryz.prog 197 [(0, 12)] [.int .i64 0, .int .i64 0, .bool false, .int .i64 0, .int .i64 0, .int .i64 0, .int .i64 0, .int .i64 0, .int .i64 0, .bool false, .int .i64 0, .slice none 0 0] := ⟨fun parts => by kernel_rfl⟩
-- 198 func() card.crowd
instance : Ty Tryz.prog 198 false 1 8 (.nilFunc) [.nilFunc] := ⟨by kernel_rfl, by kernel_rfl, rfl, rfl⟩
-- 199 func(card.crowd, api.Note) card.crowd
instance : Ty Tryz.prog 199 false 1 8 (.nilFunc) [.nilFunc] := ⟨by kernel_rfl, by kernel_rfl, rfl, rfl⟩
-- 200 func(api.Report, int) int
instance : Ty Tryz.prog 200 false 1 8 (.nilFunc) [.nilFunc] := ⟨by kernel_rfl, by kernel_rfl, rfl, rfl⟩
-- 201 func([]api.Absence, func(api.Absence) bool) bool
instance : Ty Tryz.prog 201 false 1 8 (.nilFunc) [.nilFunc] := ⟨by kernel_rfl, by kernel_rfl, rfl, rfl⟩
-- 202 func(api.Absence) bool
instance : Ty Tryz.prog 202 false 1 8 (.nilFunc) [.nilFunc] := ⟨by kernel_rfl, by kernel_rfl, rfl, rfl⟩
-- 203 func([]rank.line, int, int, int, func(rank.line, rank.line) int)
instance : Ty Tryz.prog 203 false 1 8 (.nilFunc) [.nilFunc] := ⟨by kernel_rfl, by kernel_rfl, rfl, rfl⟩
-- 204 func([]api.Person, func(api.Person) bool) bool
instance : Ty Tryz.prog 204 false 1 8 (.nilFunc) [.nilFunc] := ⟨by kernel_rfl, by kernel_rfl, rfl, rfl⟩
-- 205 func(api.Person) bool
instance : Ty Tryz.prog 205 false 1 8 (.nilFunc) [.nilFunc] := ⟨by kernel_rfl, by kernel_rfl, rfl, rfl⟩
-- 206 func([]int, func(int) bool) bool
instance : Ty Tryz.prog 206 false 1 8 (.nilFunc) [.nilFunc] := ⟨by kernel_rfl, by kernel_rfl, rfl, rfl⟩
-- 207 func(int) bool
instance : Ty Tryz.prog 207 false 1 8 (.nilFunc) [.nilFunc] := ⟨by kernel_rfl, by kernel_rfl, rfl, rfl⟩
-- 208 func([]int, func(int, int) int)
instance : Ty Tryz.prog 208 false 1 8 (.nilFunc) [.nilFunc] := ⟨by kernel_rfl, by kernel_rfl, rfl, rfl⟩
-- 209 func([]int) bool
instance : Ty Tryz.prog 209 false 1 8 (.nilFunc) [.nilFunc] := ⟨by kernel_rfl, by kernel_rfl, rfl, rfl⟩
-- 210 func([]int, int) bool
instance : Ty Tryz.prog 210 false 1 8 (.nilFunc) [.nilFunc] := ⟨by kernel_rfl, by kernel_rfl, rfl, rfl⟩
-- 211 func([]int) []int
instance : Ty Tryz.prog 211 false 1 8 (.nilFunc) [.nilFunc] := ⟨by kernel_rfl, by kernel_rfl, rfl, rfl⟩
-- 212 func(api.Plan, int, int) bool
instance : Ty Tryz.prog 212 false 1 8 (.nilFunc) [.nilFunc] := ⟨by kernel_rfl, by kernel_rfl, rfl, rfl⟩
-- 213 func(api.Ledger, []api.Absence) bool
instance : Ty Tryz.prog 213 false 1 8 (.nilFunc) [.nilFunc] := ⟨by kernel_rfl, by kernel_rfl, rfl, rfl⟩
-- 214 func([]api.Report, int, func(api.Report, api.Report) int)
instance : Ty Tryz.prog 214 false 1 8 (.nilFunc) [.nilFunc] := ⟨by kernel_rfl, by kernel_rfl, rfl, rfl⟩
-- 215 func([]api.Strip, func(api.Strip) bool) bool
instance : Ty Tryz.prog 215 false 1 8 (.nilFunc) [.nilFunc] := ⟨by kernel_rfl, by kernel_rfl, rfl, rfl⟩
-- 216 func(api.Strip) bool
instance : Ty Tryz.prog 216 false 1 8 (.nilFunc) [.nilFunc] := ⟨by kernel_rfl, by kernel_rfl, rfl, rfl⟩
-- 217 func(api.Span, int, int) bool
instance : Ty Tryz.prog 217 false 1 8 (.nilFunc) [.nilFunc] := ⟨by kernel_rfl, by kernel_rfl, rfl, rfl⟩
-- 218 func(func(lines.point, []int) bool)
instance : Ty Tryz.prog 218 false 1 8 (.nilFunc) [.nilFunc] := ⟨by kernel_rfl, by kernel_rfl, rfl, rfl⟩
-- 219 func(api.View) func(func(lines.point, []int) bool)
instance : Ty Tryz.prog 219 false 1 8 (.nilFunc) [.nilFunc] := ⟨by kernel_rfl, by kernel_rfl, rfl, rfl⟩
-- 220 func([]lines.point, func(lines.point) bool) int
instance : Ty Tryz.prog 220 false 1 8 (.nilFunc) [.nilFunc] := ⟨by kernel_rfl, by kernel_rfl, rfl, rfl⟩
-- 221 func(api.Format, deuceref01.Match) deuceref01.Match
instance : Ty Tryz.prog 221 false 1 8 (.nilFunc) [.nilFunc] := ⟨by kernel_rfl, by kernel_rfl, rfl, rfl⟩
-- 223 func(api.Format, api.Board) (bool, int)
instance : Ty Tryz.prog 223 false 1 8 (.nilFunc) [.nilFunc] := ⟨by kernel_rfl, by kernel_rfl, rfl, rfl⟩
-- 224 func(api.Pair, int) api.Pair
instance : Ty Tryz.prog 224 false 1 8 (.nilFunc) [.nilFunc] := ⟨by kernel_rfl, by kernel_rfl, rfl, rfl⟩
-- 225 func(api.Format, api.Pair) int
instance : Ty Tryz.prog 225 false 1 8 (.nilFunc) [.nilFunc] := ⟨by kernel_rfl, by kernel_rfl, rfl, rfl⟩
-- 226 func(api.Pair, int) int
instance : Ty Tryz.prog 226 false 1 8 (.nilFunc) [.nilFunc] := ⟨by kernel_rfl, by kernel_rfl, rfl, rfl⟩
-- 227 func(api.Format, int, int, bool, int) int
instance : Ty Tryz.prog 227 false 1 8 (.nilFunc) [.nilFunc] := ⟨by kernel_rfl, by kernel_rfl, rfl, rfl⟩
-- 228 struct { Set int; Tie bool; Server int; Winner int; Points api.Pair; Fresh bool }
instance : Ty Tryz.prog 228 true 7 56 (.agg #[.int .i64 0, .bool false, .int .i64 0, .int .i64 0, .int .i64 0, .int .i64 0, .bool false]) [.int .i64 0, .bool false, .int .i64 0, .int .i64 0, .int .i64 0, .int .i64 0, .bool false] := ⟨by kernel_rfl, by kernel_rfl, rfl, rfl⟩
instance : FieldTy Tryz.prog 228 0 0 3 0 := ⟨by kernel_rfl, by kernel_rfl⟩
instance : FieldTy Tryz.prog 228 1 1 4 0 := ⟨by kernel_rfl, by kernel_rfl⟩
instance : FieldTy Tryz.prog 228 2 2 3 0 := ⟨by kernel_rfl, by kernel_rfl⟩
instance : FieldTy Tryz.prog 228 3 3 3 0 := ⟨by kernel_rfl, by kernel_rfl⟩
instance : FieldTy Tryz.prog 228 4 4 73 1 := ⟨by kernel_rfl, by kernel_rfl⟩
instance : FieldTy Tryz.prog 228 5 6 4 0 := ⟨by kernel_rfl, by kernel_rfl⟩
instance : BuildTy Tryz.prog 228 [(0, 1), (1, 1), (2, 1), (3, 1), (4, 2), (6, 1)] [.int .i64 0, .bool false, .int .i64 0, .int .i64 0, .int .i64 0, .int .i64 0, .bool false] := ⟨fun parts => by kernel_rfl⟩
-- 229 deuce/api.Game
instance : Ty Tryz.prog 229 true 7 56 (.agg #[.int .i64 0, .bool false, .int .i64 0, .int .i64 0, .int .i64 0, .int .i64 0, .bool false]) [.int .i64 0, .bool false, .int .i64 0, .int .i64 0, .int .i64 0, .int .i64 0, .bool false] := ⟨by kernel_rfl, by kernel_rfl, rfl, rfl⟩
instance : FieldTy Tryz.prog 229 0 0 3 0 := ⟨by kernel_rfl, by kernel_rfl⟩
instance : FieldTy Tryz.prog 229 1 1 4 0 := ⟨by kernel_rfl, by kernel_rfl⟩
instance : FieldTy Tryz.prog 229 2 2 3 0 := ⟨by kernel_rfl, by kernel_rfl⟩
instance : FieldTy Tryz.prog 229 3 3 3 0 := ⟨by kernel_rfl, by kernel_rfl⟩
instance : FieldTy Tryz.prog 229 4 4 73 1 := ⟨by kernel_rfl, by kernel_rfl⟩
instance : FieldTy Tryz.prog 229 5 6 4 0 := ⟨by kernel_rfl, by kernel_rfl⟩
instance : BuildTy Tryz.prog 229 [(0, 1), (1, 1), (2, 1), (3, 1), (4, 2), (6, 1)] [.int .i64 0, .bool false, .int .i64 0, .int .i64 0, .int .i64 0, .int .i64 0, .bool false] := ⟨fun parts => by kernel_rfl⟩
-- 230 func([]api.Pair) api.Pair
instance : Ty Tryz.prog 230 false 1 8 (.nilFunc) [.nilFunc] := ⟨by kernel_rfl, by kernel_rfl, rfl, rfl⟩
-- 231 struct { tie int; to int }
instance : Ty Tryz.prog 231 true 2 16 (.agg #[.int .i64 0, .int .i64 0]) [.int .i64 0, .int .i64 0] := ⟨by kernel_rfl, by kernel_rfl, rfl, rfl⟩
instance : EqS Tryz.prog 231 2 := ⟨by kernel_rfl, by kernel_rfl, by kernel_rfl⟩
instance : FieldTy Tryz.prog 231 0 0 3 0 := ⟨by kernel_rfl, by kernel_rfl⟩
instance : FieldTy Tryz.prog 231 1 1 3 0 := ⟨by kernel_rfl, by kernel_rfl⟩
instance : BuildTy Tryz.prog 231 [(0, 1), (1, 1)] [.int .i64 0, .int .i64 0] := ⟨fun parts => by kernel_rfl⟩
-- 232 deuce/score.set
instance : Ty Tryz.prog 232 true 2 16 (.agg #[.int .i64 0, .int .i64 0]) [.int .i64 0, .int .i64 0] := ⟨by kernel_rfl, by kernel_rfl, rfl, rfl⟩
instance : EqS Tryz.prog 232 2 := ⟨by kernel_rfl, by kernel_rfl, by kernel_rfl⟩
instance : FieldTy Tryz.prog 232 0 0 3 0 := ⟨by kernel_rfl, by kernel_rfl⟩
instance : FieldTy Tryz.prog 232 1 1 3 0 := ⟨by kernel_rfl, by kernel_rfl⟩
instance : BuildTy Tryz.prog 232 [(0, 1), (1, 1)] [.int .i64 0, .int .i64 0] := ⟨fun parts => by kernel_rfl⟩
-- 233 func(api.Pair) score.set
instance : Ty Tryz.prog 233 false 1 8 (.nilFunc) [.nilFunc] := ⟨by kernel_rfl, by kernel_rfl, rfl, rfl⟩
-- 234 func() int
instance : Ty Tryz.prog 234 false 1 8 (.nilFunc) [.nilFunc] := ⟨by kernel_rfl, by kernel_rfl, rfl, rfl⟩
-- 235 func(api.Pair) int
instance : Ty Tryz.prog 235 false 1 8 (.nilFunc) [.nilFunc] := ⟨by kernel_rfl, by kernel_rfl, rfl, rfl⟩
-- 236 func(score.set, bool, api.Pair) int
instance : Ty Tryz.prog 236 false 1 8 (.nilFunc) [.nilFunc] := ⟨by kernel_rfl, by kernel_rfl, rfl, rfl⟩
-- 237 func(int) int
instance : Ty Tryz.prog 237 false 1 8 (.nilFunc) [.nilFunc] := ⟨by kernel_rfl, by kernel_rfl, rfl, rfl⟩
-- 238 func(api.Pair, int, int) int
instance : Ty Tryz.prog 238 false 1 8 (.nilFunc) [.nilFunc] := ⟨by kernel_rfl, by kernel_rfl, rfl, rfl⟩
-- 239 func([]api.Board, int, int, func(api.Board, api.Board) int)
instance : Ty Tryz.prog 239 false 1 8 (.nilFunc) [.nilFunc] := ⟨by kernel_rfl, by kernel_rfl, rfl, rfl⟩
-- 240 slices.sortedHint
instance : Ty Tryz.prog 240 false 1 8 (.int .i64 0) [.int .i64 0] := ⟨by kernel_rfl, by kernel_rfl, rfl, rfl⟩
-- 242 func([]api.Board, int, int, func(api.Board, api.Board) int) (int, slices.sortedHint)
instance : Ty Tryz.prog 242 false 1 8 (.nilFunc) [.nilFunc] := ⟨by kernel_rfl, by kernel_rfl, rfl, rfl⟩
-- 243 func([]api.Board, int, int, func(api.Board, api.Board) int) bool
instance : Ty Tryz.prog 243 false 1 8 (.nilFunc) [.nilFunc] := ⟨by kernel_rfl, by kernel_rfl, rfl, rfl⟩
-- 244 func([]api.Board, int, int, int, func(api.Board, api.Board) int) int
instance : Ty Tryz.prog 244 false 1 8 (.nilFunc) [.nilFunc] := ⟨by kernel_rfl, by kernel_rfl, rfl, rfl⟩
-- 246 func([]api.Board, int, int, int, func(api.Board, api.Board) int) (int, bool)
instance : Ty Tryz.prog 246 false 1 8 (.nilFunc) [.nilFunc] := ⟨by kernel_rfl, by kernel_rfl, rfl, rfl⟩
-- 247 func(uint32) int
instance : Ty Tryz.prog 247 false 1 8 (.nilFunc) [.nilFunc] := ⟨by kernel_rfl, by kernel_rfl, rfl, rfl⟩
-- 248 uint32
instance : Ty Tryz.prog 248 false 1 4 (.int .u32 0) [.int .u32 0] := ⟨by kernel_rfl, by kernel_rfl, rfl, rfl⟩
-- 249 func(uint64) int
instance : Ty Tryz.prog 249 false 1 8 (.nilFunc) [.nilFunc] := ⟨by kernel_rfl, by kernel_rfl, rfl, rfl⟩
-- 250 uint64
instance : Ty Tryz.prog 250 false 1 8 (.int .u64 0) [.int .u64 0] := ⟨by kernel_rfl, by kernel_rfl, rfl, rfl⟩
-- 251 func(api.Note) bool
instance : Ty Tryz.prog 251 false 1 8 (.nilFunc) [.nilFunc] := ⟨by kernel_rfl, by kernel_rfl, rfl, rfl⟩
-- 252 func(*card.node)
instance : Ty Tryz.prog 252 false 1 8 (.nilFunc) [.nilFunc] := ⟨by kernel_rfl, by kernel_rfl, rfl, rfl⟩
-- 253 *card.node
instance : Ty Tryz.prog 253 false 1 8 (.pointer none) [.pointer none] := ⟨by kernel_rfl, by kernel_rfl, rfl, rfl⟩
-- 254 struct { card.spot; before *card.node; side int; many api.Span }
instance : Ty Tryz.prog 254 true 20 160 (.agg #[.int .i64 0, .int .i64 0, .int .i64 0, .int .i64 0, .int .i64 0, .int .i64 0, .int .i64 0, .int .i64 0, .int .i64 0, .int .i64 0, .int .i64 0, .int .i64 0, .int .i64 0, .int .i64 0, .int .i64 0, .int .i64 0, .pointer none, .int .i64 0, .int .i64 0, .int .i64 0]) [.int .i64 0, .int .i64 0, .int .i64 0, .int .i64 0, .int .i64 0, .int .i64 0, .int .i64 0, .int .i64 0, .int .i64 0, .int .i64 0, .int .i64 0, .int .i64 0, .int .i64 0, .int .i64 0, .int .i64 0, .int .i64 0, .pointer none, .int .i64 0, .int .i64 0, .int .i64 0] := ⟨by kernel_rfl, by kernel_rfl, rfl, rfl⟩
instance : FieldTy Tryz.prog 254 0 0 143 15 := ⟨by kernel_rfl, by kernel_rfl⟩
instance : FieldTy Tryz.prog 254 1 16 253 0 := ⟨by kernel_rfl, by kernel_rfl⟩
instance : FieldTy Tryz.prog 254 2 17 3 0 := ⟨by kernel_rfl, by kernel_rfl⟩
instance : FieldTy Tryz.prog 254 3 18 57 1 := ⟨by kernel_rfl, by kernel_rfl⟩
instance : BuildTy Tryz.prog 254 [(0, 16), (16, 1), (17, 1), (18, 2)] [.int .i64 0, .int .i64 0, .int .i64 0, .int .i64 0, .int .i64 0, .int .i64 0, .int .i64 0, .int .i64 0, .int .i64 0, .int .i64 0, .int .i64 0, .int .i64 0, .int .i64 0, .int .i64 0, .int .i64 0, .int .i64 0, .pointer none, .int .i64 0, .int .i64 0, .int .i64 0] := ⟨fun parts => by kernel_rfl⟩
-- 255 deuce/card.node
instance : Ty Tryz.prog 255 true 20 160 (.agg #[.int .i64 0, .int .i64 0, .int .i64 0, .int .i64 0, .int .i64 0, .int .i64 0, .int .i64 0, .int .i64 0, .int .i64 0, .int .i64 0, .int .i64 0, .int .i64 0, .int .i64 0, .int .i64 0, .int .i64 0, .int .i64 0, .pointer none, .int .i64 0, .int .i64 0, .int .i64 0]) [.int .i64 0, .int .i64 0, .int .i64 0, .int .i64 0, .int .i64 0, .int .i64 0, .int .i64 0, .int .i64 0, .int .i64 0, .int .i64 0, .int .i64 0, .int .i64 0, .int .i64 0, .int .i64 0, .int .i64 0, .int .i64 0, .pointer none, .int .i64 0, .int .i64 0, .int .i64 0] := ⟨by kernel_rfl, by kernel_rfl, rfl, rfl⟩
instance : FieldTy Tryz.prog 255 0 0 143 15 := ⟨by kernel_rfl, by kernel_rfl⟩
instance : FieldTy Tryz.prog 255 1 16 253 0 := ⟨by kernel_rfl, by kernel_rfl⟩
instance : FieldTy Tryz.prog 255 2 17 3 0 := ⟨by kernel_rfl, by kernel_rfl⟩
instance : FieldTy Tryz.prog 255 3 18 57 1 := ⟨by kernel_rfl, by kernel_rfl⟩
instance : BuildTy Tryz.prog 255 [(0, 16), (16, 1), (17, 1), (18, 2)] [.int .i64 0, .int .i64 0, .int .i64 0, .int .i64 0, .int .i64 0, .int .i64 0, .int .i64 0, .int .i64 0, .int .i64 0, .int .i64 0, .int .i64 0, .int .i64 0, .int .i64 0, .int .i64 0, .int .i64 0, .int .i64 0, .pointer none, .int .i64 0, .int .i64 0, .int .i64 0] := ⟨fun parts => by kernel_rfl⟩
-- 256 func(card.crowd, int) card.crowd
instance : Ty Tryz.prog 256 false 1 8 (.nilFunc) [.nilFunc] := ⟨by kernel_rfl, by kernel_rfl, rfl, rfl⟩
-- 257 func(api.Note, *card.node) bool
instance : Ty Tryz.prog 257 false 1 8 (.nilFunc) [.nilFunc] := ⟨by kernel_rfl, by kernel_rfl, rfl, rfl⟩
-- 258 func([]api.Absence, func(api.Absence) bool) int
instance : Ty Tryz.prog 258 false 1 8 (.nilFunc) [.nilFunc] := ⟨by kernel_rfl, by kernel_rfl, rfl, rfl⟩
-- 259 func([]rank.line, int, int, func(rank.line, rank.line) int)
instance : Ty Tryz.prog 259 false 1 8 (.nilFunc) [.nilFunc] := ⟨by kernel_rfl, by kernel_rfl, rfl, rfl⟩
-- 260 func([]rank.line, int, int, func(rank.line, rank.line) int) (int, slices.sortedHint)
instance : Ty Tryz.prog 260 false 1 8 (.nilFunc) [.nilFunc] := ⟨by kernel_rfl, by kernel_rfl, rfl, rfl⟩
-- 261 func([]rank.line, int, int, func(rank.line, rank.line) int) bool
instance : Ty Tryz.prog 261 false 1 8 (.nilFunc) [.nilFunc] := ⟨by kernel_rfl, by kernel_rfl, rfl, rfl⟩
-- 262 func([]rank.line, int, int, int, func(rank.line, rank.line) int) int
instance : Ty Tryz.prog 262 false 1 8 (.nilFunc) [.nilFunc] := ⟨by kernel_rfl, by kernel_rfl, rfl, rfl⟩
-- 263 func([]rank.line, int, int, int, func(rank.line, rank.line) int) (int, bool)
instance : Ty Tryz.prog 263 false 1 8 (.nilFunc) [.nilFunc] := ⟨by kernel_rfl, by kernel_rfl, rfl, rfl⟩
-- 264 func([]api.Person, func(api.Person) bool) int
instance : Ty Tryz.prog 264 false 1 8 (.nilFunc) [.nilFunc] := ⟨by kernel_rfl, by kernel_rfl, rfl, rfl⟩
-- 265 func([]int, func(int) bool) int
instance : Ty Tryz.prog 265 false 1 8 (.nilFunc) [.nilFunc] := ⟨by kernel_rfl, by kernel_rfl, rfl, rfl⟩
-- 266 func([]int, int, int, int, func(int, int) int)
instance : Ty Tryz.prog 266 false 1 8 (.nilFunc) [.nilFunc] := ⟨by kernel_rfl, by kernel_rfl, rfl, rfl⟩
-- 267 func(int, int) bool
instance : Ty Tryz.prog 267 false 1 8 (.nilFunc) [.nilFunc] := ⟨by kernel_rfl, by kernel_rfl, rfl, rfl⟩
-- 268 func([]api.Report, int, int, func(api.Report, api.Report) int)
instance : Ty Tryz.prog 268 false 1 8 (.nilFunc) [.nilFunc] := ⟨by kernel_rfl, by kernel_rfl, rfl, rfl⟩
-- 269 func([]api.Report, int, int, int, func(api.Report, api.Report) int)
instance : Ty Tryz.prog 269 false 1 8 (.nilFunc) [.nilFunc] := ⟨by kernel_rfl, by kernel_rfl, rfl, rfl⟩
-- 270 func([]api.Strip, func(api.Strip) bool) int
instance : Ty Tryz.prog 270 false 1 8 (.nilFunc) [.nilFunc] := ⟨by kernel_rfl, by kernel_rfl, rfl, rfl⟩
-- 271 func(lines.point, []int) bool
instance : Ty Tryz.prog 271 false 1 8 (.nilFunc) [.nilFunc] := ⟨by kernel_rfl, by kernel_rfl, rfl, rfl⟩
-- 273 func(api.Format, bool) (int, int)
instance : Ty Tryz.prog 273 false 1 8 (.nilFunc) [.nilFunc] := ⟨by kernel_rfl, by kernel_rfl, rfl, rfl⟩
-- 274 func(api.Format, api.Pair) bool
instance : Ty Tryz.prog 274 false 1 8 (.nilFunc) [.nilFunc] := ⟨by kernel_rfl, by kernel_rfl, rfl, rfl⟩
-- 275 func(api.Pair) bool
instance : Ty Tryz.prog 275 false 1 8 (.nilFunc) [.nilFunc] := ⟨by kernel_rfl, by kernel_rfl, rfl, rfl⟩
-- 276 slices.xorshift
instance : Ty Tryz.prog 276 false 1 8 (.int .u64 0) [.int .u64 0] := ⟨by kernel_rfl, by kernel_rfl, rfl, rfl⟩
-- 277 func(int) uint
instance : Ty Tryz.prog 277 false 1 8 (.nilFunc) [.nilFunc] := ⟨by kernel_rfl, by kernel_rfl, rfl, rfl⟩
-- 278 func() uint64
instance : Ty Tryz.prog 278 false 1 8 (.nilFunc) [.nilFunc] := ⟨by kernel_rfl, by kernel_rfl, rfl, rfl⟩
-- 279 func([]api.Board, int, *int, func(api.Board, api.Board) int) int
instance : Ty Tryz.prog 279 false 1 8 (.nilFunc) [.nilFunc] := ⟨by kernel_rfl, by kernel_rfl, rfl, rfl⟩
-- 280 *int
instance : Ty Tryz.prog 280 false 1 8 (.pointer none) [.pointer none] := ⟨by kernel_rfl, by kernel_rfl, rfl, rfl⟩
-- 281 func([]api.Board, int, int, int, *int, func(api.Board, api.Board) int) int
instance : Ty Tryz.prog 281 false 1 8 (.nilFunc) [.nilFunc] := ⟨by kernel_rfl, by kernel_rfl, rfl, rfl⟩
-- 283 func(*card.node, int) *card.node
instance : Ty Tryz.prog 283 false 1 8 (.nilFunc) [.nilFunc] := ⟨by kernel_rfl, by kernel_rfl, rfl, rfl⟩
-- 284 func() api.Pair
instance : Ty Tryz.prog 284 false 1 8 (.nilFunc) [.nilFunc] := ⟨by kernel_rfl, by kernel_rfl, rfl, rfl⟩
-- 285 func(*card.node) api.Score
instance : Ty Tryz.prog 285 false 1 8 (.nilFunc) [.nilFunc] := ⟨by kernel_rfl, by kernel_rfl, rfl, rfl⟩
-- 286 func([]rank.line, int, *int, func(rank.line, rank.line) int) int
instance : Ty Tryz.prog 286 false 1 8 (.nilFunc) [.nilFunc] := ⟨by kernel_rfl, by kernel_rfl, rfl, rfl⟩
-- 287 func([]rank.line, int, int, int, *int, func(rank.line, rank.line) int) int
instance : Ty Tryz.prog 287 false 1 8 (.nilFunc) [.nilFunc] := ⟨by kernel_rfl, by kernel_rfl, rfl, rfl⟩
-- 288 func([]int, int, int, func(int, int) int)
instance : Ty Tryz.prog 288 false 1 8 (.nilFunc) [.nilFunc] := ⟨by kernel_rfl, by kernel_rfl, rfl, rfl⟩
-- 289 func([]int, int, int, func(int, int) int) (int, slices.sortedHint)
instance : Ty Tryz.prog 289 false 1 8 (.nilFunc) [.nilFunc] := ⟨by kernel_rfl, by kernel_rfl, rfl, rfl⟩
-- 290 func([]int, int, int, func(int, int) int) bool
instance : Ty Tryz.prog 290 false 1 8 (.nilFunc) [.nilFunc] := ⟨by kernel_rfl, by kernel_rfl, rfl, rfl⟩
-- 291 func([]int, int, int, int, func(int, int) int) int
instance : Ty Tryz.prog 291 false 1 8 (.nilFunc) [.nilFunc] := ⟨by kernel_rfl, by kernel_rfl, rfl, rfl⟩
-- 292 func([]int, int, int, int, func(int, int) int) (int, bool)
instance : Ty Tryz.prog 292 false 1 8 (.nilFunc) [.nilFunc] := ⟨by kernel_rfl, by kernel_rfl, rfl, rfl⟩
-- 293 *slices.xorshift
instance : Ty Tryz.prog 293 false 1 8 (.pointer none) [.pointer none] := ⟨by kernel_rfl, by kernel_rfl, rfl, rfl⟩
-- 294 func([]api.Board, int, int, *int, func(api.Board, api.Board) int) (int, int)
instance : Ty Tryz.prog 294 false 1 8 (.nilFunc) [.nilFunc] := ⟨by kernel_rfl, by kernel_rfl, rfl, rfl⟩
-- 295 func(api.Pair, int, int, int) bool
instance : Ty Tryz.prog 295 false 1 8 (.nilFunc) [.nilFunc] := ⟨by kernel_rfl, by kernel_rfl, rfl, rfl⟩
-- 296 func() []int
instance : Ty Tryz.prog 296 false 1 8 (.nilFunc) [.nilFunc] := ⟨by kernel_rfl, by kernel_rfl, rfl, rfl⟩
-- 297 func([]rank.line, int, int, *int, func(rank.line, rank.line) int) (int, int)
instance : Ty Tryz.prog 297 false 1 8 (.nilFunc) [.nilFunc] := ⟨by kernel_rfl, by kernel_rfl, rfl, rfl⟩
-- 298 func([]int, int, *int, func(int, int) int) int
instance : Ty Tryz.prog 298 false 1 8 (.nilFunc) [.nilFunc] := ⟨by kernel_rfl, by kernel_rfl, rfl, rfl⟩
-- 299 func([]int, int, int, int, *int, func(int, int) int) int
instance : Ty Tryz.prog 299 false 1 8 (.nilFunc) [.nilFunc] := ⟨by kernel_rfl, by kernel_rfl, rfl, rfl⟩
-- 300 func([]int)
instance : Ty Tryz.prog 300 false 1 8 (.nilFunc) [.nilFunc] := ⟨by kernel_rfl, by kernel_rfl, rfl, rfl⟩
-- 301 func([]int, int, int, *int, func(int, int) int) (int, int)
instance : Ty Tryz.prog 301 false 1 8 (.nilFunc) [.nilFunc] := ⟨by kernel_rfl, by kernel_rfl, rfl, rfl⟩
-- 302 func() string
instance : Ty Tryz.prog 302 false 1 8 (.nilFunc) [.nilFunc] := ⟨by kernel_rfl, by kernel_rfl, rfl, rfl⟩
-- 303 struct { _interface *abi.Type; concrete *abi.Type; asserted *abi.Type; missingMethod string }
instance : Ty Tryz.prog 303 true 4 40 (.agg #[.pointer none, .pointer none, .pointer none, .string ByteArray.empty]) [.pointer none, .pointer none, .pointer none, .string ByteArray.empty] := ⟨by kernel_rfl, by kernel_rfl, rfl, rfl⟩
instance : FieldTy Tryz.prog 303 0 0 17 0 := ⟨by kernel_rfl, by kernel_rfl⟩
instance : FieldTy Tryz.prog 303 1 1 17 0 := ⟨by kernel_rfl, by kernel_rfl⟩
instance : FieldTy Tryz.prog 303 2 2 17 0 := ⟨by kernel_rfl, by kernel_rfl⟩
instance : FieldTy Tryz.prog 303 3 3 9 0 := ⟨by kernel_rfl, by kernel_rfl⟩
instance : BuildTy Tryz.prog 303 [(0, 1), (1, 1), (2, 1), (3, 1)] [.pointer none, .pointer none, .pointer none, .string ByteArray.empty] := ⟨fun parts => by kernel_rfl⟩
-- 305 [0]*runtime.PanicNilError
instance : Ty Tryz.prog 305 true 0 0 (.agg #[]) [] := ⟨by kernel_rfl, by kernel_rfl, rfl, rfl⟩
instance : ArrayTy Tryz.prog 305 0 16 := ⟨by kernel_rfl⟩
-- 306 struct { _ [0]*runtime.PanicNilError }
instance : Ty Tryz.prog 306 true 0 0 (.agg #[]) [] := ⟨by kernel_rfl, by kernel_rfl, rfl, rfl⟩
-- 310 func(unsafe.Pointer, unsafe.Pointer) bool
instance : Ty Tryz.prog 310 false 1 8 (.nilFunc) [.nilFunc] := ⟨by kernel_rfl, by kernel_rfl, rfl, rfl⟩
-- 311 *uint8
instance : Ty Tryz.prog 311 false 1 8 (.pointer none) [.pointer none] := ⟨by kernel_rfl, by kernel_rfl, rfl, rfl⟩
-- 314 struct { Size_ uintptr; PtrBytes uintptr; Hash uint32; TFlag abi.TFlag; Align_ uint8; FieldAlign_ uint8; Kind_ abi.Kind; Equal func(unsafe.Pointer, unsafe.Pointer) bool; GCData *uint8; Str abi.NameOff; PtrToThis abi.TypeOff }
instance : Ty Tryz.prog 314 true 11 48 (.agg #[.int .u64 0, .int .u64 0, .int .u32 0, .int .u8 0, .int .u8 0, .int .u8 0, .int .u8 0, .nilFunc, .pointer none, .int .i32 0, .int .i32 0]) [.int .u64 0, .int .u64 0, .int .u32 0, .int .u8 0, .int .u8 0, .int .u8 0, .int .u8 0, .nilFunc, .pointer none, .int .i32 0, .int .i32 0] := ⟨by kernel_rfl, by kernel_rfl, rfl, rfl⟩
instance : FieldTy Tryz.prog 314 0 0 12 0 := ⟨by kernel_rfl, by kernel_rfl⟩
instance : FieldTy Tryz.prog 314 1 1 12 0 := ⟨by kernel_rfl, by kernel_rfl⟩
instance : FieldTy Tryz.prog 314 2 2 248 0 := ⟨by kernel_rfl, by kernel_rfl⟩
instance : FieldTy Tryz.prog 314 3 3 308 0 := ⟨by kernel_rfl, by kernel_rfl⟩
instance : FieldTy Tryz.prog 314 4 4 5 0 := ⟨by kernel_rfl, by kernel_rfl⟩
instance : FieldTy Tryz.prog 314 5 5 5 0 := ⟨by kernel_rfl, by kernel_rfl⟩
instance : FieldTy Tryz.prog 314 6 6 309 0 := ⟨by kernel_rfl, by kernel_rfl⟩
instance : FieldTy Tryz.prog 314 7 7 310 0 := ⟨by kernel_rfl, by kernel_rfl⟩
instance : FieldTy Tryz.prog 314 8 8 311 0 := ⟨by kernel_rfl, by kernel_rfl⟩
instance : FieldTy Tryz.prog 314 9 9 312 0 := ⟨by kernel_rfl, by kernel_rfl⟩
instance : FieldTy Tryz.prog 314 10 10 313 0 := ⟨by kernel_rfl, by kernel_rfl⟩
instance : BuildTy Tryz.prog 314 [(0, 1), (1, 1), (2, 1), (3, 1), (4, 1), (5, 1), (6, 1), (7, 1), (8, 1), (9, 1), (10, 1)] [.int .u64 0, .int .u64 0, .int .u32 0, .int .u8 0, .int .u8 0, .int .u8 0, .int .u8 0, .nilFunc, .pointer none, .int .i32 0, .int .i32 0] := ⟨fun parts => by kernel_rfl⟩
-- 316 unsafe.Pointer
instance : Ty Tryz.prog 316 false 1 8 (.pointer none) [.pointer none] := ⟨by kernel_rfl, by kernel_rfl, rfl, rfl⟩
-- deuce/deucetop.TopSeeded
instance : FnOk Tryz.prog 3 := ⟨by kernel_rfl⟩
-- deuce/deucetop.TopMonday
instance : FnOk Tryz.prog 4 := ⟨by kernel_rfl⟩
-- deuce/deucetop.TopCalled
instance : FnOk Tryz.prog 5 := ⟨by kernel_rfl⟩
-- deuce/deucelaw04.Far
instance : FnOk Tryz.prog 6 := ⟨by kernel_rfl⟩
-- deuce/deuceref04.Check
instance : FnOk Tryz.prog 7 := ⟨by kernel_rfl⟩
-- deuce/deucetop.seeded
instance : FnOk Tryz.prog 8 := ⟨by kernel_rfl⟩
-- deuce/rank.List
instance : FnOk Tryz.prog 9 := ⟨by kernel_rfl⟩
-- deuce/deucetop.ranked
instance : FnOk Tryz.prog 10 := ⟨by kernel_rfl⟩
-- deuce/draws.Draw
instance : FnOk Tryz.prog 11 := ⟨by kernel_rfl⟩
-- deuce/rank.Place
instance : FnOk Tryz.prog 12 := ⟨by kernel_rfl⟩
-- deuce/deuceref04.Copy
instance : FnOk Tryz.prog 13 := ⟨by kernel_rfl⟩
-- deuce/rank.Merge
instance : FnOk Tryz.prog 14 := ⟨by kernel_rfl⟩
-- deuce/deuceref01.Check
instance : FnOk Tryz.prog 15 := ⟨by kernel_rfl⟩
-- deuce/deucelaw02.Far
instance : FnOk Tryz.prog 16 := ⟨by kernel_rfl⟩
-- deuce/deuceref02.Check
instance : FnOk Tryz.prog 17 := ⟨by kernel_rfl⟩
-- deuce/deuceref02.IsBox
instance : FnOk Tryz.prog 18 := ⟨by kernel_rfl⟩
-- deuce/deuceref02.IsTruth
instance : FnOk Tryz.prog 19 := ⟨by kernel_rfl⟩
-- deuce/deuceref02.Touch
instance : FnOk Tryz.prog 20 := ⟨by kernel_rfl⟩
-- deuce/lines.Call
instance : FnOk Tryz.prog 21 := ⟨by kernel_rfl⟩
-- deuce/deuceref01.Play
instance : FnOk Tryz.prog 22 := ⟨by kernel_rfl⟩
-- deuce/score.Play
instance : FnOk Tryz.prog 23 := ⟨by kernel_rfl⟩
-- deuce/card.Boards
instance : FnOk Tryz.prog 24 := ⟨by kernel_rfl⟩
-- deuce/card.First
instance : FnOk Tryz.prog 25 := ⟨by kernel_rfl⟩
-- deuce/deuceref03.SameBoard
instance : FnOk Tryz.prog 26 := ⟨by kernel_rfl⟩
-- deuce/deuceref04.isLedger
instance : FnOk Tryz.prog 27 := ⟨by kernel_rfl⟩
-- deuce/deuceref04.clash
instance : FnOk Tryz.prog 28 := ⟨by kernel_rfl⟩
-- deuce/deucelaw04.Example
instance : FnOk Tryz.prog 29 := ⟨by kernel_rfl⟩
-- deuce/deucelaw06.Example
instance : FnOk Tryz.prog 30 := ⟨by kernel_rfl⟩
-- deuce/deucelaw02.Example
instance : FnOk Tryz.prog 31 := ⟨by kernel_rfl⟩
-- deuce/deucelaw03.Example
instance : FnOk Tryz.prog 32 := ⟨by kernel_rfl⟩
-- deuce/rank.ask
instance : FnOk Tryz.prog 33 := ⟨by kernel_rfl⟩
-- (*deuce/rank.book).list
instance : FnOk Tryz.prog 34 := ⟨by kernel_rfl⟩
-- deuce/deuceref06.Check
instance : FnOk Tryz.prog 35 := ⟨by kernel_rfl⟩
-- deuce/draws.Count
instance : FnOk Tryz.prog 36 := ⟨by kernel_rfl⟩
-- deuce/draws.pick
instance : FnOk Tryz.prog 37 := ⟨by kernel_rfl⟩
-- (*deuce/rank.book).place
instance : FnOk Tryz.prog 38 := ⟨by kernel_rfl⟩
-- deuce/rank.Check
instance : FnOk Tryz.prog 39 := ⟨by kernel_rfl⟩
-- slices.Concat[[]deuce/api.Report,deuce/api.Report]
instance : FnOk Tryz.prog 40 := ⟨by kernel_rfl⟩
-- deuce/rank.once
instance : FnOk Tryz.prog 41 := ⟨by kernel_rfl⟩
-- slices.Clone[[]deuce/api.Absence,deuce/api.Absence]
instance : FnOk Tryz.prog 42 := ⟨by kernel_rfl⟩
-- deuce/deuceref01.within
instance : FnOk Tryz.prog 43 := ⟨by kernel_rfl⟩
-- deuce/deuceref01.isTie
instance : FnOk Tryz.prog 44 := ⟨by kernel_rfl⟩
-- deuce/deuceref02.within
instance : FnOk Tryz.prog 45 := ⟨by kernel_rfl⟩
-- deuce/deuceref02.IsMark
instance : FnOk Tryz.prog 46 := ⟨by kernel_rfl⟩
-- deuce/deuceref02.wrong
instance : FnOk Tryz.prog 47 := ⟨by kernel_rfl⟩
-- deuce/deuceref02.far
instance : FnOk Tryz.prog 48 := ⟨by kernel_rfl⟩
-- deuce/lines.check
instance : FnOk Tryz.prog 49 := ⟨by kernel_rfl⟩
-- deuce/lines.call
instance : FnOk Tryz.prog 50 := ⟨by kernel_rfl⟩
-- deuce/deuceref01.Run
instance : FnOk Tryz.prog 51 := ⟨by kernel_rfl⟩
-- deuce/score.play
instance : FnOk Tryz.prog 52 := ⟨by kernel_rfl⟩
-- deuce/card.possible
instance : FnOk Tryz.prog 53 := ⟨by kernel_rfl⟩
-- (deuce/card.spot).board
instance : FnOk Tryz.prog 54 := ⟨by kernel_rfl⟩
-- deuce/card.Boards$1
instance : FnOk Tryz.prog 55 := ⟨by kernel_rfl⟩
-- cmp.Or[int]
instance : FnOk Tryz.prog 56 := ⟨by kernel_rfl⟩
-- slices.CompareFunc[[]deuce/api.Pair,[]deuce/api.Pair,deuce/api.Pair,deuce/api.Pair]
instance : FnOk Tryz.prog 57 := ⟨by kernel_rfl⟩
-- deuce/card.order
instance : FnOk Tryz.prog 58 := ⟨by kernel_rfl⟩
-- slices.SortFunc[[]deuce/api.Board,deuce/api.Board]
instance : FnOk Tryz.prog 59 := ⟨by kernel_rfl⟩
-- slices.CompactFunc[[]deuce/api.Board,deuce/api.Board]
instance : FnOk Tryz.prog 60 := ⟨by kernel_rfl⟩
-- deuce/card.Boards$2
instance : FnOk Tryz.prog 61 := ⟨by kernel_rfl⟩
-- deuce/card.all
instance : FnOk Tryz.prog 62 := ⟨by kernel_rfl⟩
-- deuce/deuceref04.within
instance : FnOk Tryz.prog 63 := ⟨by kernel_rfl⟩
-- deuce/deuceref04.areLeaves
instance : FnOk Tryz.prog 64 := ⟨by kernel_rfl⟩
-- deuce/deuceref04.isReport
instance : FnOk Tryz.prog 65 := ⟨by kernel_rfl⟩
-- deuce/deucelaw01.Example
instance : FnOk Tryz.prog 66 := ⟨by kernel_rfl⟩
-- deuce/rank.open
instance : FnOk Tryz.prog 67 := ⟨by kernel_rfl⟩
-- deuce/rank.within
instance : FnOk Tryz.prog 68 := ⟨by kernel_rfl⟩
-- (*deuce/rank.book).count
instance : FnOk Tryz.prog 69 := ⟨by kernel_rfl⟩
-- deuce/rank.away
instance : FnOk Tryz.prog 70 := ⟨by kernel_rfl⟩
-- deuce/rank.sum
instance : FnOk Tryz.prog 71 := ⟨by kernel_rfl⟩
-- (*deuce/rank.book).taken
instance : FnOk Tryz.prog 72 := ⟨by kernel_rfl⟩
-- slices.SortFunc[[]deuce/rank.line,deuce/rank.line]
instance : FnOk Tryz.prog 73 := ⟨by kernel_rfl⟩
-- (deuce/rank.line).compare
instance : FnOk Tryz.prog 74 := ⟨by kernel_rfl⟩
-- deuce/deuceref06.within
instance : FnOk Tryz.prog 75 := ⟨by kernel_rfl⟩
-- deuce/draws.Check
instance : FnOk Tryz.prog 76 := ⟨by kernel_rfl⟩
-- deuce/draws.draws
instance : FnOk Tryz.prog 77 := ⟨by kernel_rfl⟩
-- deuce/draws.sheet
instance : FnOk Tryz.prog 78 := ⟨by kernel_rfl⟩
-- slices.Index[[]int,int]
instance : FnOk Tryz.prog 79 := ⟨by kernel_rfl⟩
-- deuce/rank.isLedger
instance : FnOk Tryz.prog 80 := ⟨by kernel_rfl⟩
-- slices.Grow[[]deuce/api.Report,deuce/api.Report]
instance : FnOk Tryz.prog 81 := ⟨by kernel_rfl⟩
-- slices.Clone[[]deuce/api.Report,deuce/api.Report]
instance : FnOk Tryz.prog 82 := ⟨by kernel_rfl⟩
-- slices.SortStableFunc[[]deuce/api.Report,deuce/api.Report]
instance : FnOk Tryz.prog 83 := ⟨by kernel_rfl⟩
-- deuce/rank.once$1
instance : FnOk Tryz.prog 84 := ⟨by kernel_rfl⟩
-- slices.Compact[[]deuce/api.Report,deuce/api.Report]
instance : FnOk Tryz.prog 85 := ⟨by kernel_rfl⟩
-- deuce/lines.Check
instance : FnOk Tryz.prog 86 := ⟨by kernel_rfl⟩
-- deuce/lines.checkBox
instance : FnOk Tryz.prog 87 := ⟨by kernel_rfl⟩
-- deuce/lines.truths
instance : FnOk Tryz.prog 88 := ⟨by kernel_rfl⟩
-- slices.ContainsFunc[[]deuce/lines.point,deuce/lines.point]
instance : FnOk Tryz.prog 89 := ⟨by kernel_rfl⟩
-- deuce/lines.call$1
instance : FnOk Tryz.prog 90 := ⟨by kernel_rfl⟩
-- deuce/lines.touches
instance : FnOk Tryz.prog 91 := ⟨by kernel_rfl⟩
-- deuce/lines.small
instance : FnOk Tryz.prog 92 := ⟨by kernel_rfl⟩
-- deuce/lines.call$2
instance : FnOk Tryz.prog 93 := ⟨by kernel_rfl⟩
-- deuce/lines.large
instance : FnOk Tryz.prog 94 := ⟨by kernel_rfl⟩
-- deuce/deuceref01.Begin
instance : FnOk Tryz.prog 95 := ⟨by kernel_rfl⟩
-- deuce/deuceref01.Point
instance : FnOk Tryz.prog 96 := ⟨by kernel_rfl⟩
-- deuce/deuceref01.Next
instance : FnOk Tryz.prog 97 := ⟨by kernel_rfl⟩
-- deuce/score.Check
instance : FnOk Tryz.prog 98 := ⟨by kernel_rfl⟩
-- deuce/score.begin
instance : FnOk Tryz.prog 99 := ⟨by kernel_rfl⟩
-- (*deuce/score.match).point
instance : FnOk Tryz.prog 100 := ⟨by kernel_rfl⟩
-- slices.Clone[[]deuce/api.Pair,deuce/api.Pair]
instance : FnOk Tryz.prog 101 := ⟨by kernel_rfl⟩
-- slices.pdqsortCmpFunc[deuce/api.Board]
instance : FnOk Tryz.prog 102 := ⟨by kernel_rfl⟩
-- math/bits.Len
instance : FnOk Tryz.prog 103 := ⟨by kernel_rfl⟩
-- deuce/card.Check
instance : FnOk Tryz.prog 104 := ⟨by kernel_rfl⟩
-- (deuce/card.reader).begin
instance : FnOk Tryz.prog 105 := ⟨by kernel_rfl⟩
-- (deuce/card.reader).read
instance : FnOk Tryz.prog 106 := ⟨by kernel_rfl⟩
-- (*deuce/rank.book).age
instance : FnOk Tryz.prog 107 := ⟨by kernel_rfl⟩
-- slices.ContainsFunc[[]deuce/api.Absence,deuce/api.Absence]
instance : FnOk Tryz.prog 108 := ⟨by kernel_rfl⟩
-- deuce/rank.away$1
instance : FnOk Tryz.prog 109 := ⟨by kernel_rfl⟩
-- (*deuce/rank.book).taken$1
instance : FnOk Tryz.prog 110 := ⟨by kernel_rfl⟩
-- slices.pdqsortCmpFunc[deuce/rank.line]
instance : FnOk Tryz.prog 111 := ⟨by kernel_rfl⟩
-- deuce/draws.within
instance : FnOk Tryz.prog 112 := ⟨by kernel_rfl⟩
-- slices.ContainsFunc[[]deuce/api.Person,deuce/api.Person]
instance : FnOk Tryz.prog 113 := ⟨by kernel_rfl⟩
-- deuce/draws.Check$1
instance : FnOk Tryz.prog 114 := ⟨by kernel_rfl⟩
-- slices.ContainsFunc[[]int,int]
instance : FnOk Tryz.prog 115 := ⟨by kernel_rfl⟩
-- deuce/draws.Check$2
instance : FnOk Tryz.prog 116 := ⟨by kernel_rfl⟩
-- slices.SortFunc[[]int,int]
instance : FnOk Tryz.prog 117 := ⟨by kernel_rfl⟩
-- deuce/draws.draws$1
instance : FnOk Tryz.prog 118 := ⟨by kernel_rfl⟩
-- deuce/draws.draws$2
instance : FnOk Tryz.prog 119 := ⟨by kernel_rfl⟩
-- deuce/draws.draws$2$1
instance : FnOk Tryz.prog 120 := ⟨by kernel_rfl⟩
-- slices.Clone[[]int,int]
instance : FnOk Tryz.prog 121 := ⟨by kernel_rfl⟩
-- slices.Contains[[]int,int]
instance : FnOk Tryz.prog 122 := ⟨by kernel_rfl⟩
-- deuce/draws.seat
instance : FnOk Tryz.prog 123 := ⟨by kernel_rfl⟩
-- deuce/draws.match
instance : FnOk Tryz.prog 124 := ⟨by kernel_rfl⟩
-- deuce/rank.areLeaves
instance : FnOk Tryz.prog 125 := ⟨by kernel_rfl⟩
-- deuce/rank.isLedger$1
instance : FnOk Tryz.prog 126 := ⟨by kernel_rfl⟩
-- slices.stableCmpFunc[deuce/api.Report]
instance : FnOk Tryz.prog 127 := ⟨by kernel_rfl⟩
-- slices.ContainsFunc[[]deuce/api.Strip,deuce/api.Strip]
instance : FnOk Tryz.prog 128 := ⟨by kernel_rfl⟩
-- deuce/lines.Check$1
instance : FnOk Tryz.prog 129 := ⟨by kernel_rfl⟩
-- deuce/lines.isStrip
instance : FnOk Tryz.prog 130 := ⟨by kernel_rfl⟩
-- deuce/lines.within
instance : FnOk Tryz.prog 131 := ⟨by kernel_rfl⟩
-- deuce/lines.isSpan
instance : FnOk Tryz.prog 132 := ⟨by kernel_rfl⟩
-- deuce/lines.all
instance : FnOk Tryz.prog 133 := ⟨by kernel_rfl⟩
-- slices.IndexFunc[[]deuce/lines.point,deuce/lines.point]
instance : FnOk Tryz.prog 134 := ⟨by kernel_rfl⟩
-- deuce/lines.beyond
instance : FnOk Tryz.prog 135 := ⟨by kernel_rfl⟩
-- deuce/deuceref01.begin
instance : FnOk Tryz.prog 136 := ⟨by kernel_rfl⟩
-- deuce/deuceref01.tied
instance : FnOk Tryz.prog 137 := ⟨by kernel_rfl⟩
-- deuce/deuceref01.plus
instance : FnOk Tryz.prog 138 := ⟨by kernel_rfl⟩
-- deuce/deuceref01.gameWinner
instance : FnOk Tryz.prog 139 := ⟨by kernel_rfl⟩
-- deuce/deuceref01.leads
instance : FnOk Tryz.prog 140 := ⟨by kernel_rfl⟩
-- deuce/deuceref01.Server
instance : FnOk Tryz.prog 141 := ⟨by kernel_rfl⟩
-- deuce/deuceref01.Won
instance : FnOk Tryz.prog 142 := ⟨by kernel_rfl⟩
-- deuce/score.Check$1
instance : FnOk Tryz.prog 143 := ⟨by kernel_rfl⟩
-- deuce/score.within
instance : FnOk Tryz.prog 144 := ⟨by kernel_rfl⟩
-- (*deuce/score.match).next
instance : FnOk Tryz.prog 145 := ⟨by kernel_rfl⟩
-- (deuce/score.rules).set
instance : FnOk Tryz.prog 146 := ⟨by kernel_rfl⟩
-- (*deuce/score.match).number
instance : FnOk Tryz.prog 147 := ⟨by kernel_rfl⟩
-- deuce/score.add
instance : FnOk Tryz.prog 148 := ⟨by kernel_rfl⟩
-- deuce/score.sum
instance : FnOk Tryz.prog 149 := ⟨by kernel_rfl⟩
-- (deuce/score.rules).game
instance : FnOk Tryz.prog 150 := ⟨by kernel_rfl⟩
-- (*deuce/score.match).serves
instance : FnOk Tryz.prog 151 := ⟨by kernel_rfl⟩
-- (*deuce/score.match).fresh
instance : FnOk Tryz.prog 152 := ⟨by kernel_rfl⟩
-- deuce/score.leads
instance : FnOk Tryz.prog 153 := ⟨by kernel_rfl⟩
-- slices.insertionSortCmpFunc[deuce/api.Board]
instance : FnOk Tryz.prog 154 := ⟨by kernel_rfl⟩
-- slices.heapSortCmpFunc[deuce/api.Board]
instance : FnOk Tryz.prog 155 := ⟨by kernel_rfl⟩
-- slices.breakPatternsCmpFunc[deuce/api.Board]
instance : FnOk Tryz.prog 156 := ⟨by kernel_rfl⟩
-- slices.choosePivotCmpFunc[deuce/api.Board]
instance : FnOk Tryz.prog 157 := ⟨by kernel_rfl⟩
-- slices.reverseRangeCmpFunc[deuce/api.Board]
instance : FnOk Tryz.prog 158 := ⟨by kernel_rfl⟩
-- slices.partialInsertionSortCmpFunc[deuce/api.Board]
instance : FnOk Tryz.prog 159 := ⟨by kernel_rfl⟩
-- slices.partitionEqualCmpFunc[deuce/api.Board]
instance : FnOk Tryz.prog 160 := ⟨by kernel_rfl⟩
-- slices.partitionCmpFunc[deuce/api.Board]
instance : FnOk Tryz.prog 161 := ⟨by kernel_rfl⟩
-- math/bits.Len32
instance : FnOk Tryz.prog 162 := ⟨by kernel_rfl⟩
-- math/bits.Len64
instance : FnOk Tryz.prog 163 := ⟨by kernel_rfl⟩
-- deuce/card.within
instance : FnOk Tryz.prog 164 := ⟨by kernel_rfl⟩
-- deuce/card.isMark
instance : FnOk Tryz.prog 165 := ⟨by kernel_rfl⟩
-- (deuce/card.crowd).put
instance : FnOk Tryz.prog 166 := ⟨by kernel_rfl⟩
-- (deuce/card.reader).play
instance : FnOk Tryz.prog 167 := ⟨by kernel_rfl⟩
-- (deuce/card.reader).holds
instance : FnOk Tryz.prog 168 := ⟨by kernel_rfl⟩
-- slices.IndexFunc[[]deuce/api.Absence,deuce/api.Absence]
instance : FnOk Tryz.prog 169 := ⟨by kernel_rfl⟩
-- slices.insertionSortCmpFunc[deuce/rank.line]
instance : FnOk Tryz.prog 170 := ⟨by kernel_rfl⟩
-- slices.heapSortCmpFunc[deuce/rank.line]
instance : FnOk Tryz.prog 171 := ⟨by kernel_rfl⟩
-- slices.breakPatternsCmpFunc[deuce/rank.line]
instance : FnOk Tryz.prog 172 := ⟨by kernel_rfl⟩
-- slices.choosePivotCmpFunc[deuce/rank.line]
instance : FnOk Tryz.prog 173 := ⟨by kernel_rfl⟩
-- slices.reverseRangeCmpFunc[deuce/rank.line]
instance : FnOk Tryz.prog 174 := ⟨by kernel_rfl⟩
-- slices.partialInsertionSortCmpFunc[deuce/rank.line]
instance : FnOk Tryz.prog 175 := ⟨by kernel_rfl⟩
-- slices.partitionEqualCmpFunc[deuce/rank.line]
instance : FnOk Tryz.prog 176 := ⟨by kernel_rfl⟩
-- slices.partitionCmpFunc[deuce/rank.line]
instance : FnOk Tryz.prog 177 := ⟨by kernel_rfl⟩
-- slices.IndexFunc[[]deuce/api.Person,deuce/api.Person]
instance : FnOk Tryz.prog 178 := ⟨by kernel_rfl⟩
-- slices.IndexFunc[[]int,int]
instance : FnOk Tryz.prog 179 := ⟨by kernel_rfl⟩
-- slices.pdqsortCmpFunc[int]
instance : FnOk Tryz.prog 180 := ⟨by kernel_rfl⟩
-- deuce/draws.match$1
instance : FnOk Tryz.prog 181 := ⟨by kernel_rfl⟩
-- deuce/draws.apart
instance : FnOk Tryz.prog 182 := ⟨by kernel_rfl⟩
-- deuce/rank.areLeaves$1
instance : FnOk Tryz.prog 183 := ⟨by kernel_rfl⟩
-- slices.insertionSortCmpFunc[deuce/api.Report]
instance : FnOk Tryz.prog 184 := ⟨by kernel_rfl⟩
-- slices.symMergeCmpFunc[deuce/api.Report]
instance : FnOk Tryz.prog 185 := ⟨by kernel_rfl⟩
-- slices.IndexFunc[[]deuce/api.Strip,deuce/api.Strip]
instance : FnOk Tryz.prog 186 := ⟨by kernel_rfl⟩
-- deuce/lines.all$1
instance : FnOk Tryz.prog 187 := ⟨by kernel_rfl⟩
-- deuce/lines.wrong
instance : FnOk Tryz.prog 188 := ⟨by kernel_rfl⟩
-- deuce/deuceref01.due
instance : FnOk Tryz.prog 189 := ⟨by kernel_rfl⟩
-- deuce/deuceref01.Rule
instance : FnOk Tryz.prog 190 := ⟨by kernel_rfl⟩
-- deuce/deuceref01.IsLast
instance : FnOk Tryz.prog 191 := ⟨by kernel_rfl⟩
-- (deuce/score.set).breaks
instance : FnOk Tryz.prog 192 := ⟨by kernel_rfl⟩
-- (deuce/score.rules).due
instance : FnOk Tryz.prog 193 := ⟨by kernel_rfl⟩
-- slices.siftDownCmpFunc[deuce/api.Board]
instance : FnOk Tryz.prog 194 := ⟨by kernel_rfl⟩
-- slices.nextPowerOfTwo
instance : FnOk Tryz.prog 195 := ⟨by kernel_rfl⟩
-- (*slices.xorshift).Next
instance : FnOk Tryz.prog 196 := ⟨by kernel_rfl⟩
-- slices.medianAdjacentCmpFunc[deuce/api.Board]
instance : FnOk Tryz.prog 197 := ⟨by kernel_rfl⟩
-- slices.medianCmpFunc[deuce/api.Board]
instance : FnOk Tryz.prog 198 := ⟨by kernel_rfl⟩
-- deuce/card.isMark$1
instance : FnOk Tryz.prog 199 := ⟨by kernel_rfl⟩
-- deuce/card.isMark$2
instance : FnOk Tryz.prog 200 := ⟨by kernel_rfl⟩
-- (deuce/card.reader).next
instance : FnOk Tryz.prog 201 := ⟨by kernel_rfl⟩
-- (deuce/card.spot).won
instance : FnOk Tryz.prog 202 := ⟨by kernel_rfl⟩
-- (deuce/card.reader).score
instance : FnOk Tryz.prog 203 := ⟨by kernel_rfl⟩
-- slices.siftDownCmpFunc[deuce/rank.line]
instance : FnOk Tryz.prog 204 := ⟨by kernel_rfl⟩
-- slices.medianAdjacentCmpFunc[deuce/rank.line]
instance : FnOk Tryz.prog 205 := ⟨by kernel_rfl⟩
-- slices.medianCmpFunc[deuce/rank.line]
instance : FnOk Tryz.prog 206 := ⟨by kernel_rfl⟩
-- slices.insertionSortCmpFunc[int]
instance : FnOk Tryz.prog 207 := ⟨by kernel_rfl⟩
-- slices.heapSortCmpFunc[int]
instance : FnOk Tryz.prog 208 := ⟨by kernel_rfl⟩
-- slices.breakPatternsCmpFunc[int]
instance : FnOk Tryz.prog 209 := ⟨by kernel_rfl⟩
-- slices.choosePivotCmpFunc[int]
instance : FnOk Tryz.prog 210 := ⟨by kernel_rfl⟩
-- slices.reverseRangeCmpFunc[int]
instance : FnOk Tryz.prog 211 := ⟨by kernel_rfl⟩
-- slices.partialInsertionSortCmpFunc[int]
instance : FnOk Tryz.prog 212 := ⟨by kernel_rfl⟩
-- slices.partitionEqualCmpFunc[int]
instance : FnOk Tryz.prog 213 := ⟨by kernel_rfl⟩
-- slices.partitionCmpFunc[int]
instance : FnOk Tryz.prog 214 := ⟨by kernel_rfl⟩
-- slices.rotateCmpFunc[deuce/api.Report]
instance : FnOk Tryz.prog 215 := ⟨by kernel_rfl⟩
-- slices.order2CmpFunc[deuce/api.Board]
instance : FnOk Tryz.prog 216 := ⟨by kernel_rfl⟩
-- deuce/card.more
instance : FnOk Tryz.prog 217 := ⟨by kernel_rfl⟩
-- deuce/card.leads
instance : FnOk Tryz.prog 218 := ⟨by kernel_rfl⟩
-- (*deuce/card.node).row
instance : FnOk Tryz.prog 219 := ⟨by kernel_rfl⟩
-- slices.order2CmpFunc[deuce/rank.line]
instance : FnOk Tryz.prog 220 := ⟨by kernel_rfl⟩
-- slices.siftDownCmpFunc[int]
instance : FnOk Tryz.prog 221 := ⟨by kernel_rfl⟩
-- slices.medianAdjacentCmpFunc[int]
instance : FnOk Tryz.prog 222 := ⟨by kernel_rfl⟩
-- slices.medianCmpFunc[int]
instance : FnOk Tryz.prog 223 := ⟨by kernel_rfl⟩
-- slices.swapRangeCmpFunc[deuce/api.Report]
instance : FnOk Tryz.prog 224 := ⟨by kernel_rfl⟩
-- slices.Reverse[[]int,int]
instance : FnOk Tryz.prog 225 := ⟨by kernel_rfl⟩
-- slices.order2CmpFunc[int]
instance : FnOk Tryz.prog 226 := ⟨by kernel_rfl⟩
end Go.Proofs.YthkliiifllhacaaGreat

namespace Go.Proofs.YthkliiifllhacaaGreat
open Go
instance : BuildArr Tryz.prog 141 2 [.int .i64 0, .int .i64 0, .int .i64 0, .int .i64 0, .int .i64 0, .int .i64 0, .int .i64 0, .int .i64 0, .int .i64 0, .int .i64 0] := ⟨fun parts => by kernel_rfl⟩
instance : BuildArr Tryz.prog 305 1 [] := ⟨fun parts => by kernel_rfl⟩
instance : FlatTy Tryz.prog 48 [false, false, true, false, false, false, false, false, false, true] := ⟨by kernel_rfl, by kernel_rfl, by kernel_rfl⟩
instance : FlatTy Tryz.prog 49 [false, false, true, false, false, false, false, false, false, true] := ⟨by kernel_rfl, by kernel_rfl, by kernel_rfl⟩
instance : FlatTy Tryz.prog 56 [false, false] := ⟨by kernel_rfl, by kernel_rfl, by kernel_rfl⟩
instance : FlatTy Tryz.prog 57 [false, false] := ⟨by kernel_rfl, by kernel_rfl, by kernel_rfl⟩
instance : FlatTy Tryz.prog 60 [false, false, false, false] := ⟨by kernel_rfl, by kernel_rfl, by kernel_rfl⟩
instance : FlatTy Tryz.prog 61 [false, false, false, false] := ⟨by kernel_rfl, by kernel_rfl, by kernel_rfl⟩
instance : FlatTy Tryz.prog 62 [false, false, false, false] := ⟨by kernel_rfl, by kernel_rfl, by kernel_rfl⟩
instance : FlatTy Tryz.prog 63 [false, false, false, false] := ⟨by kernel_rfl, by kernel_rfl, by kernel_rfl⟩
instance : FlatTy Tryz.prog 72 [false, false] := ⟨by kernel_rfl, by kernel_rfl, by kernel_rfl⟩
instance : FlatTy Tryz.prog 73 [false, false] := ⟨by kernel_rfl, by kernel_rfl, by kernel_rfl⟩
instance : FlatTy Tryz.prog 74 [false, false, false, false] := ⟨by kernel_rfl, by kernel_rfl, by kernel_rfl⟩
instance : FlatTy Tryz.prog 75 [false, false, false, false] := ⟨by kernel_rfl, by kernel_rfl, by kernel_rfl⟩
instance : FlatTy Tryz.prog 89 [false, false, false, false, true] := ⟨by kernel_rfl, by kernel_rfl, by kernel_rfl⟩
instance : FlatTy Tryz.prog 90 [false, false, false, false, true] := ⟨by kernel_rfl, by kernel_rfl, by kernel_rfl⟩
instance : FlatTy Tryz.prog 102 [false, false, true] := ⟨by kernel_rfl, by kernel_rfl, by kernel_rfl⟩
instance : FlatTy Tryz.prog 103 [false, false, true] := ⟨by kernel_rfl, by kernel_rfl, by kernel_rfl⟩
instance : MapTy Tryz.prog 109 90 3 := ⟨by kernel_rfl⟩
instance : FlatTy Tryz.prog 114 [false, false, false] := ⟨by kernel_rfl, by kernel_rfl, by kernel_rfl⟩
instance : FlatTy Tryz.prog 115 [false, false, false] := ⟨by kernel_rfl, by kernel_rfl, by kernel_rfl⟩
instance : FlatTy Tryz.prog 118 [false, false, false, false] := ⟨by kernel_rfl, by kernel_rfl, by kernel_rfl⟩
instance : FlatTy Tryz.prog 119 [false, false, false, false] := ⟨by kernel_rfl, by kernel_rfl, by kernel_rfl⟩
instance : FlatTy Tryz.prog 132 [false, false, true, false, false, false, false, false, false, true] := ⟨by kernel_rfl, by kernel_rfl, by kernel_rfl⟩
instance : FlatTy Tryz.prog 133 [false, false, true, false, false, false, false, false, false, true] := ⟨by kernel_rfl, by kernel_rfl, by kernel_rfl⟩
instance : MapTy Tryz.prog 137 143 253 := ⟨by kernel_rfl⟩
instance : MapTy Tryz.prog 138 143 253 := ⟨by kernel_rfl⟩
instance : FlatTy Tryz.prog 142 [false, false, false, false, false, false, false, false, false, false, false, false, false, false, false, false] := ⟨by kernel_rfl, by kernel_rfl, by kernel_rfl⟩
instance : FlatTy Tryz.prog 143 [false, false, false, false, false, false, false, false, false, false, false, false, false, false, false, false] := ⟨by kernel_rfl, by kernel_rfl, by kernel_rfl⟩
instance : FlatTy Tryz.prog 165 [false, false, false, false] := ⟨by kernel_rfl, by kernel_rfl, by kernel_rfl⟩
instance : FlatTy Tryz.prog 166 [false, false, false, false] := ⟨by kernel_rfl, by kernel_rfl, by kernel_rfl⟩
instance : FlatTy Tryz.prog 182 [false, false] := ⟨by kernel_rfl, by kernel_rfl, by kernel_rfl⟩
instance : FlatTy Tryz.prog 183 [false, false] := ⟨by kernel_rfl, by kernel_rfl, by kernel_rfl⟩
instance : FlatTy Tryz.prog 228 [false, true, false, false, false, false, true] := ⟨by kernel_rfl, by kernel_rfl, by kernel_rfl⟩
instance : FlatTy Tryz.prog 229 [false, true, false, false, false, false, true] := ⟨by kernel_rfl, by kernel_rfl, by kernel_rfl⟩
instance : FlatTy Tryz.prog 231 [false, false] := ⟨by kernel_rfl, by kernel_rfl, by kernel_rfl⟩
instance : FlatTy Tryz.prog 232 [false, false] := ⟨by kernel_rfl, by kernel_rfl, by kernel_rfl⟩
end Go.Proofs.YthkliiifllhacaaGreat

namespace Go.Proofs.YthkliiifllhacaaGreat
open Go Go.RowKit

def wi (n lo hi : Int) : Bool := decide (lo ≤ n) && decide (n ≤ hi)
theorem wi_iff {n lo hi : Int} : wi n lo hi = true ↔ lo ≤ n ∧ n ≤ hi := by simp [wi]
theorem wi_not {n lo hi : Int} : (!wi n lo hi) = false ↔ lo ≤ n ∧ n ≤ hi := by simp [wi]

structure Fmt where
 (sets games : Int) (noAd : Bool) (tie to ltie lto first thn : Int) (dbl : Bool)
abbrev Fmt.cells (f : Fmt) : List Value := [.int .i64 f.sets, .int .i64 f.games, .bool f.noAd, .int .i64 f.tie, .int .i64 f.to, .int .i64 f.ltie, .int .i64 f.lto, .int .i64 f.first, .int .i64 f.thn, .bool f.dbl]
abbrev Fmt.val (f : Fmt) : Value := .agg #[.int .i64 f.sets, .int .i64 f.games, .bool f.noAd, .int .i64 f.tie, .int .i64 f.to, .int .i64 f.ltie, .int .i64 f.lto, .int .i64 f.first, .int .i64 f.thn, .bool f.dbl]
abbrev Pr := Int × Int
abbrev pv (p : Pr) : Value := .agg #[.int .i64 p.1, .int .i64 p.2]
def tieB (f : Fmt) (n : Int) : Bool := decide (n = -1) || decide (n = 0) || decide (n = f.games - 1) || decide (n = f.games)
def fmtOk (f : Fmt) : Bool := wi f.sets 1 3 && wi f.games 1 8 && tieB f f.tie && tieB f f.ltie && wi f.to 1 15 && wi f.lto 1 15 && wi f.first 0 20 && wi f.thn 0 20
def chkF (f : Fmt) : Int := bif fmtOk f then 0 else 10
structure Fmt.Ok (f : Fmt) : Prop where
 s0 : 1 ≤ f.sets
 s1 : f.sets ≤ 3
 g0 : 1 ≤ f.games
 g1 : f.games ≤ 8
 t : f.tie = -1 ∨ f.tie = 0 ∨ f.tie = f.games - 1 ∨ f.tie = f.games
 lt : f.ltie = -1 ∨ f.ltie = 0 ∨ f.ltie = f.games - 1 ∨ f.ltie = f.games
 o0 : 1 ≤ f.to
 o1 : f.to ≤ 15
 l0 : 1 ≤ f.lto
 l1 : f.lto ≤ 15
 f0 : 0 ≤ f.first
 f1 : f.first ≤ 20
 n0 : 0 ≤ f.thn
 n1 : f.thn ≤ 20
theorem fmt_ok {f : Fmt} (h : fmtOk f = true) : f.Ok := by
 simp only [fmtOk, tieB, Bool.and_eq_true, Bool.or_eq_true, wi_iff, decide_eq_true_eq] at h
 constructor <;> omega
def Sm (p : Pr) : Prop := (-1000000 ≤ p.1 ∧ p.1 ≤ 1000000) ∧ -1000000 ≤ p.2 ∧ p.2 ≤ 1000000
def leadsV (p : Pr) (l b : Int) : Int := bif decide (l ≤ p.1) && decide (b ≤ p.1 - p.2) then 0 else bif decide (l ≤ p.2) && decide (b ≤ p.2 - p.1) then 1 else -1
def setV (f : Fmt) (won : Pr) : Pr := bif decide (won.1 = f.sets - 1) && decide (won.2 = f.sets - 1) then (f.ltie, f.lto) else (f.tie, f.to)
def brksV (s g : Pr) : Bool := decide (g.1 = s.1) && decide (g.2 = s.1)
def addV (p : Pr) (side : Int) : Pr := bif decide (side = 0) then (p.1 + 1, p.2) else (p.1, p.2 + 1)
def gameV (f : Fmt) (s : Pr) (tie : Bool) (p : Pr) : Int := bif tie then leadsV p s.2 2 else bif f.noAd then leadsV p 4 1 else leadsV p 4 2
def dueV (f : Fmt) (n : Int) : Bool := decide (0 < f.first) && (decide (n - f.first = 0) || decide (0 < n - f.first) && decide (0 < f.thn) && decide ((n - f.first) % f.thn = 0))
end Go.Proofs.YthkliiifllhacaaGreat

namespace Go.Proofs.YthkliiifllhacaaGreat
open Go Go.RowKit

theorem C_score_within (n lo hi : Int) (w : World) : C0 Tryz.prog 144 [.int .i64 n, .int .i64 lo, .int .i64 hi] w (.bool (wi n lo hi)) := by
 refine ⟨en Tryz.func144 Tryz.ntmps144 (St.init w) (h := fun F => ?_)⟩
 refine sr ?_
 refine ww ?_
 refine nr ?_
 iterate 4 refine ww ?_
 apply brAnd 4 10 14 (by exact rfl)
 ·
  intro hb0
  iterate 3 refine uw ?_
  refine ww ?_
  exact mg (by repeat (first | exact trivial | refine ⟨rfl, ?_⟩ | refine ⟨by rw [hb0]; rfl, ?_⟩)) slz_
 ·
  intro hb0
  repeat (first | refine uz ?_ | refine kz ?_ | refine wz ?_)
  exact mg (by repeat (first | exact trivial | refine ⟨rfl, ?_⟩ | refine ⟨by rw [hb0]; rfl, ?_⟩)) slz_
 refine ww ?_
 refine nq ?_
 refine rtn ?_
 refine q_ret (hR := ?_)
 exact fun w hS => ⟨rfl, hS.sub slz_⟩
theorem T_score_Check1 (f : Fmt) (n : Int) (hg : 1 ≤ f.games ∧ f.games ≤ 8) (a0 : Nat) : Tr Tryz.prog 143 [.int .i64 n, .pointer (some ⟨a0, 0, none⟩)] [.blk a0 49 f.cells] (fun _ : Unit => True) (fun _ => .bool (tieB f n)) (fun _ => [.blk a0 49 f.cells]) := by
 refine ⟨fun w0 w R hst => ?_⟩
 refine en Tryz.func143 Tryz.ntmps143 hst (h := fun F => ?_)
 refine sr ?_
 refine ww ?_
 refine nr ?_
 iterate 3 refine ww ?_
 apply brOr 3 6 9 (by exact rfl)
 ·
  intro hb0
  iterate 2 refine uw ?_
  refine ww ?_
  exact mg (by repeat (first | exact trivial | refine ⟨rfl, ?_⟩ | refine ⟨by rw [hb0]; rfl, ?_⟩)) slz_
 ·
  intro hb0
  repeat (first | refine uz ?_ | refine kz ?_ | refine wz ?_)
  exact mg (by repeat (first | exact trivial | refine ⟨rfl, ?_⟩ | refine ⟨by rw [hb0]; rfl, ?_⟩)) slz_
 refine ww ?_
 apply brOr 6 10 16 (by exact rfl)
 ·
  intro hb1
  iterate 5 refine uw ?_
  refine ww ?_
  exact mg (by repeat (first | exact trivial | refine ⟨rfl, ?_⟩ | refine ⟨by rw [hb1]; rfl, ?_⟩)) slz_
 ·
  intro hb1
  repeat (first | refine uz ?_ | refine kz ?_ | refine wz ?_)
  exact mg (by repeat (first | exact trivial | refine ⟨rfl, ?_⟩ | refine ⟨by rw [hb1]; rfl, ?_⟩)) slz_
 refine ww ?_
 apply brOr 5 17 22 (by exact rfl)
 ·
  intro hb2
  iterate 4 refine uw ?_
  refine ww ?_
  exact mg (by repeat (first | exact trivial | refine ⟨rfl, ?_⟩ | refine ⟨by rw [hb2]; rfl, ?_⟩)) slz_
 ·
  intro hb2
  repeat (first | refine uz ?_ | refine kz ?_ | refine wz ?_)
  exact mg (by repeat (first | exact trivial | refine ⟨rfl, ?_⟩ | refine ⟨by rw [hb2]; rfl, ?_⟩)) slz_
 refine ww ?_
 refine nq ?_
 refine rtn ?_
 refine q_ret (hR := ?_)
 exact fun w hS => ⟨(), trivial, rfl, hS⟩

theorem C_score_Check (f : Fmt) (w : World) : C0 Tryz.prog 98 [f.val] w (.int .i64 (chkF f)) := by
 refine ⟨en Tryz.func98 Tryz.ntmps98 (St.init w) (h := fun F => ?_)⟩
 refine sr ?_
 refine bxA (h := fun b0 => ?_)
 refine ww ?_
 refine nr ?_
 iterate 2 refine ww ?_
 refine nq ?_
 refine sq ?_
 refine sr ?_
 iterate 2 refine ww ?_
 refine cl0 (hc := fun w hS => C_score_within ..) (h := ?_)
 refine ww ?_
 apply brAnd 4 8 12 (by exact rfl)
 ·
  intro hb0
  iterate 2 refine uw ?_
  refine uz ?_
  refine cl0 (hc := fun w hS => C_score_within ..) (h := ?_)
  refine ww ?_
  exact mg (by repeat (first | exact trivial | refine ⟨rfl, ?_⟩ | refine ⟨by rw [hb0]; rfl, ?_⟩)) slz_
 ·
  intro hb0
  repeat (first | refine uz ?_ | refine kz ?_ | refine wz ?_)
  exact mg (by repeat (first | exact trivial | refine ⟨rfl, ?_⟩ | refine ⟨by rw [hb0]; rfl, ?_⟩)) slz_
 refine ww ?_
 apply brAnd 5 13 18 (by exact rfl)
 ·
  intro hb1
  have hg : 1 ≤ f.games ∧ f.games ≤ 8 := by simp only [Bool.and_eq_true, wi_iff] at hb1; omega
  iterate 3 refine uw ?_
  refine uz ?_
  refine clfT inferInstance (fi := []) (cap := [.pointer (some ⟨b0, 0, none⟩)]) (by exact rfl) (by repeat (first | exact Evs.nil | (apply Evs.cons; exact rfl))) (T_score_Check1 f f.tie hg b0) rfl (by repeat (first | exact Spl.nil | (apply Spl.cons; (repeat (first | exact At.here | apply At.there))))) (h := fun _ _ => ?_)
  refine ww ?_
  exact mg (by repeat (first | exact trivial | refine ⟨rfl, ?_⟩ | refine ⟨by rw [hb1]; rfl, ?_⟩)) slz_
 ·
  intro hb1
  repeat (first | refine uz ?_ | refine kz ?_ | refine wz ?_)
  exact mg (by repeat (first | exact trivial | refine ⟨rfl, ?_⟩ | refine ⟨by rw [hb1]; rfl, ?_⟩)) slz_
 refine ww ?_
 apply brAnd 5 19 24 (by exact rfl)
 ·
  intro hb2
  have hg : 1 ≤ f.games ∧ f.games ≤ 8 := by simp only [Bool.and_eq_true, wi_iff] at hb2; omega
  iterate 3 refine uw ?_
  refine uz ?_
  refine clfT inferInstance (fi := []) (cap := [.pointer (some ⟨b0, 0, none⟩)]) (by exact rfl) (by repeat (first | exact Evs.nil | (apply Evs.cons; exact rfl))) (T_score_Check1 f f.ltie hg b0) rfl (by repeat (first | exact Spl.nil | (apply Spl.cons; (repeat (first | exact At.here | apply At.there))))) (h := fun _ _ => ?_)
  refine ww ?_
  exact mg (by repeat (first | exact trivial | refine ⟨rfl, ?_⟩ | refine ⟨by rw [hb2]; rfl, ?_⟩)) slz_
 ·
  intro hb2
  repeat (first | refine uz ?_ | refine kz ?_ | refine wz ?_)
  exact mg (by repeat (first | exact trivial | refine ⟨rfl, ?_⟩ | refine ⟨by rw [hb2]; rfl, ?_⟩)) slz_
 refine ww ?_
 apply brAnd 4 25 29 (by exact rfl)
 ·
  intro hb3
  iterate 2 refine uw ?_
  refine uz ?_
  refine cl0 (hc := fun w hS => C_score_within ..) (h := ?_)
  refine ww ?_
  exact mg (by repeat (first | exact trivial | refine ⟨rfl, ?_⟩ | refine ⟨by rw [hb3]; rfl, ?_⟩)) slz_
 ·
  intro hb3
  repeat (first | refine uz ?_ | refine kz ?_ | refine wz ?_)
  exact mg (by repeat (first | exact trivial | refine ⟨rfl, ?_⟩ | refine ⟨by rw [hb3]; rfl, ?_⟩)) slz_
 refine ww ?_
 apply brAnd 4 30 34 (by exact rfl)
 ·
  intro hb4
  iterate 2 refine uw ?_
  refine uz ?_
  refine cl0 (hc := fun w hS => C_score_within ..) (h := ?_)
  refine ww ?_
  exact mg (by repeat (first | exact trivial | refine ⟨rfl, ?_⟩ | refine ⟨by rw [hb4]; rfl, ?_⟩)) slz_
 ·
  intro hb4
  repeat (first | refine uz ?_ | refine kz ?_ | refine wz ?_)
  exact mg (by repeat (first | exact trivial | refine ⟨rfl, ?_⟩ | refine ⟨by rw [hb4]; rfl, ?_⟩)) slz_
 refine ww ?_
 apply brAnd 4 35 39 (by exact rfl)
 ·
  intro hb5
  iterate 2 refine uw ?_
  refine uz ?_
  refine cl0 (hc := fun w hS => C_score_within ..) (h := ?_)
  refine ww ?_
  exact mg (by repeat (first | exact trivial | refine ⟨rfl, ?_⟩ | refine ⟨by rw [hb5]; rfl, ?_⟩)) slz_
 ·
  intro hb5
  repeat (first | refine uz ?_ | refine kz ?_ | refine wz ?_)
  exact mg (by repeat (first | exact trivial | refine ⟨rfl, ?_⟩ | refine ⟨by rw [hb5]; rfl, ?_⟩)) slz_
 refine ww ?_
 apply brAnd 4 40 44 (by exact rfl)
 ·
  intro hb6
  iterate 2 refine uw ?_
  refine uz ?_
  refine cl0 (hc := fun w hS => C_score_within ..) (h := ?_)
  refine ww ?_
  exact mg (by repeat (first | exact trivial | refine ⟨rfl, ?_⟩ | refine ⟨by rw [hb6]; rfl, ?_⟩)) slz_
 ·
  intro hb6
  repeat (first | refine uz ?_ | refine kz ?_ | refine wz ?_)
  exact mg (by repeat (first | exact trivial | refine ⟨rfl, ?_⟩ | refine ⟨by rw [hb6]; rfl, ?_⟩)) slz_
 refine nq ?_
 refine czz (fun h7 => ?_) fun h7 => ?_
 ·
  refine sr ?_
  refine ww ?_
  refine nq ?_
  refine rtn ?_
  refine q_then_ret ?_
  refine q_ret (hR := ?_)
  exact fun w hS => ⟨cdT' (fun x : Int => Ending.returned (Value.int .i64 x)) h7, hS.sub slz_⟩
 ·
  refine skp ?_
  refine q_seq ?_
  refine sr ?_
  refine ww ?_
  refine nq ?_
  refine rtn ?_
  refine q_ret (hR := ?_)
  exact fun w hS => ⟨cdF' (fun x : Int => Ending.returned (Value.int .i64 x)) h7, hS.sub slz_⟩

theorem C_score_leads (p : Pr) (l b : Int) (hp : Sm p) (w : World) : C0 Tryz.prog 153 [pv p, .int .i64 l, .int .i64 b] w (.int .i64 (leadsV p l b)) := by
 obtain ⟨⟨h1, h2⟩, h3, h4⟩ := hp
 refine ⟨en Tryz.func153 Tryz.ntmps153 (St.init w) (h := fun F => ?_)⟩
 refine sr ?_
 refine bxA (h := fun b0 => ?_)
 refine ww ?_
 refine nq ?_
 refine sq ?_
 refine bk ?_
 refine sr ?_
 iterate 5 refine ww ?_
 apply brAnd 8 12 20 (by exact rfl)
 ·
  intro hb0
  iterate 7 refine uw ?_
  refine ww ?_
  exact mg (by repeat (first | exact trivial | refine ⟨rfl, ?_⟩ | refine ⟨by rw [hb0]; rfl, ?_⟩)) slz_
 ·
  intro hb0
  repeat (first | refine uz ?_ | refine kz ?_ | refine wz ?_)
  exact mg (by repeat (first | exact trivial | refine ⟨rfl, ?_⟩ | refine ⟨by rw [hb0]; rfl, ?_⟩)) slz_
 refine ww ?_
 refine nq ?_
 refine czz (fun h1 => ?_) fun h1 => ?_
 ·
  refine sr ?_
  refine ww ?_
  refine nq ?_
  refine rtn ?_
  refine q_blk_ret ?_
  refine q_then_ret ?_
  refine q_ret (hR := ?_)
  exact fun w hS => ⟨cdT' (fun x : Int => Ending.returned (Value.int .i64 x)) h1, hS.sub slz_⟩
 ·
  refine sr ?_
  iterate 5 refine ww ?_
  apply brAnd 8 26 34 (by exact rfl)
  ·
   intro hb2
   iterate 7 refine uw ?_
   refine ww ?_
   exact mg (by repeat (first | exact trivial | refine ⟨rfl, ?_⟩ | refine ⟨by rw [hb2]; rfl, ?_⟩)) slz_
  ·
   intro hb2
   repeat (first | refine uz ?_ | refine kz ?_ | refine wz ?_)
   exact mg (by repeat (first | exact trivial | refine ⟨rfl, ?_⟩ | refine ⟨by rw [hb2]; rfl, ?_⟩)) slz_
  refine ww ?_
  refine nq ?_
  refine czz (fun h3 => ?_) fun h3 => ?_
  ·
   refine sr ?_
   refine ww ?_
   refine nq ?_
   refine rtn ?_
   refine q_blk_ret ?_
   refine q_then_ret ?_
   refine q_ret (hR := ?_)
   exact fun w hS => ⟨(cdT' (fun x : Int => Ending.returned (Value.int .i64 x)) h3).trans (cdF' (fun x : Int => Ending.returned (Value.int .i64 x)) h1), hS.sub slz_⟩
  ·
   refine skp ?_
   refine q_blk_norm ?_
   refine q_seq ?_
   refine sr ?_
   refine ww ?_
   refine nq ?_
   refine rtn ?_
   refine q_ret (hR := ?_)
   exact fun w hS => ⟨(cdF' (fun x : Int => Ending.returned (Value.int .i64 x)) h3).trans (cdF' (fun x : Int => Ending.returned (Value.int .i64 x)) h1), hS.sub slz_⟩

theorem C_rules_set (f : Fmt) (won : Pr) (hf : f.Ok) (w : World) : C0 Tryz.prog 146 [f.val, pv won] w (pv (setV f won)) := by
 have h1 := hf.s0
 have h2 := hf.s1
 refine ⟨en Tryz.func146 Tryz.ntmps146 (St.init w) (h := fun F => ?_)⟩
 refine sr ?_
 refine bxA (h := fun b0 => ?_)
 refine bxA (h := fun b1 => ?_)
 refine al (h := fun b2 => ?_)
 refine nq ?_
 refine sq ?_
 refine sr ?_
 iterate 8 refine ww ?_
 apply brAnd 8 12 20 (by exact rfl)
 ·
  intro hb0
  iterate 7 refine uw ?_
  refine ww ?_
  exact mg (by repeat (first | exact trivial | refine ⟨rfl, ?_⟩ | refine ⟨by rw [hb0]; rfl, ?_⟩)) slz_
 ·
  intro hb0
  repeat (first | refine uz ?_ | refine kz ?_ | refine wz ?_)
  exact mg (by repeat (first | exact trivial | refine ⟨rfl, ?_⟩ | refine ⟨by rw [hb0]; rfl, ?_⟩)) slz_
 refine nq ?_
 refine czz (fun h1 => ?_) fun h1 => ?_
 ·
  refine sr ?_
  iterate 7 refine ww ?_
  first | refine stA (h := ?_) | refine stEA (h := ?_)
  refine nq ?_
  refine rtn ?_
  refine q_then_ret ?_
  refine q_ret (hR := ?_)
  exact fun w hS => ⟨cdT' (x := (f.ltie, f.lto)) (fun p : Pr => Ending.returned (pv p)) h1, hS.sub slz_⟩
 ·
  refine skp ?_
  refine q_seq ?_
  refine sr ?_
  iterate 7 refine ww ?_
  first | refine stA (h := ?_) | refine stEA (h := ?_)
  refine nq ?_
  refine rtn ?_
  refine q_ret (hR := ?_)
  exact fun w hS => ⟨cdF' (y := (f.tie, f.to)) (fun p : Pr => Ending.returned (pv p)) h1, hS.sub slz_⟩

theorem C_set_breaks (s g : Pr) (w : World) : C0 Tryz.prog 192 [pv s, pv g] w (.bool (brksV s g)) := by
 refine ⟨en Tryz.func192 Tryz.ntmps192 (St.init w) (h := fun F => ?_)⟩
 refine sr ?_
 refine bxA (h := fun b0 => ?_)
 refine bxA (h := fun b1 => ?_)
 refine ww ?_
 refine nr ?_
 iterate 6 refine ww ?_
 apply brAnd 6 10 16 (by exact rfl)
 ·
  intro hb0
  iterate 5 refine uw ?_
  refine ww ?_
  exact mg (by repeat (first | exact trivial | refine ⟨rfl, ?_⟩ | refine ⟨by rw [hb0]; rfl, ?_⟩)) slz_
 ·
  intro hb0
  repeat (first | refine uz ?_ | refine kz ?_ | refine wz ?_)
  exact mg (by repeat (first | exact trivial | refine ⟨rfl, ?_⟩ | refine ⟨by rw [hb0]; rfl, ?_⟩)) slz_
 refine ww ?_
 refine nq ?_
 refine rtn ?_
 refine q_ret (hR := ?_)
 exact fun w hS => ⟨rfl, hS.sub slz_⟩

theorem C_score_add (p : Pr) (side : Int) (hp : Sm p) (w : World) : C0 Tryz.prog 148 [pv p, .int .i64 side] w (pv (addV p side)) := by
 obtain ⟨⟨h1, h2⟩, h3, h4⟩ := hp
 refine ⟨en Tryz.func148 Tryz.ntmps148 (St.init w) (h := fun F => ?_)⟩
 refine sr ?_
 refine bxA (h := fun b0 => ?_)
 refine al (h := fun b1 => ?_)
 refine nq ?_
 refine sq ?_
 refine sr ?_
 iterate 2 refine ww ?_
 refine nq ?_
 refine czz (fun h0 => ?_) fun h0 => ?_
 ·
  refine rg ?_
  iterate 4 refine ww ?_
  first | refine st (h := ?_) | refine stE (h := ?_)
  refine nr ?_
  refine ww ?_
  first | refine stA (h := ?_) | refine stEA (h := ?_)
  refine nq ?_
  refine rtn ?_
  refine q_ret (hR := ?_)
  exact fun w hS => ⟨cdT' (x := (p.1 + 1, p.2)) (fun p : Pr => Ending.returned (pv p)) h0, hS.sub slz_⟩
 ·
  refine rg ?_
  iterate 4 refine ww ?_
  first | refine st (h := ?_) | refine stE (h := ?_)
  refine nr ?_
  refine ww ?_
  first | refine stA (h := ?_) | refine stEA (h := ?_)
  refine nq ?_
  refine rtn ?_
  refine q_ret (hR := ?_)
  exact fun w hS => ⟨cdF' (y := (p.1, p.2 + 1)) (fun p : Pr => Ending.returned (pv p)) h0, hS.sub slz_⟩

theorem C_score_sum (p : Pr) (hp : Sm p) (w : World) : C0 Tryz.prog 149 [pv p] w (.int .i64 (p.1 + p.2)) := by
 obtain ⟨⟨h1, h2⟩, h3, h4⟩ := hp
 refine ⟨en Tryz.func149 Tryz.ntmps149 (St.init w) (h := fun F => ?_)⟩
 refine sr ?_
 refine bxA (h := fun b0 => ?_)
 refine ww ?_
 refine nr ?_
 iterate 6 refine ww ?_
 refine nq ?_
 refine rtn ?_
 refine q_ret (hR := ?_)
 exact fun w hS => ⟨rfl, hS.sub slz_⟩

theorem C_rules_game (f : Fmt) (s : Pr) (tie : Bool) (p : Pr) (hp : Sm p) (w : World) : C0 Tryz.prog 150 [f.val, pv s, .bool tie, pv p] w (.int .i64 (gameV f s tie p)) := by
 refine ⟨en Tryz.func150 Tryz.ntmps150 (St.init w) (h := fun F => ?_)⟩
 refine sr ?_
 refine bxA (h := fun b0 => ?_)
 refine bxA (h := fun b1 => ?_)
 refine bxA (h := fun b2 => ?_)
 refine ww ?_
 refine nq ?_
 refine sq ?_
 refine bk ?_
 refine sr ?_
 iterate 2 refine ww ?_
 refine nq ?_
 refine czz (fun h0 => ?_) fun h0 => ?_
 ·
  refine sr ?_
  iterate 3 refine ww ?_
  refine cl0 (hc := fun w hS => C_score_leads _ _ _ (by assumption) w) (h := ?_)
  refine ww ?_
  refine nq ?_
  refine rtn ?_
  refine q_blk_ret ?_
  refine q_then_ret ?_
  refine q_ret (hR := ?_)
  exact fun w hS => ⟨cdT' (fun x : Int => Ending.returned (Value.int .i64 x)) h0, hS.sub slz_⟩
 ·
  refine sr ?_
  iterate 4 refine ww ?_
  refine nq ?_
  refine czz (fun h1 => ?_) fun h1 => ?_
  ·
   refine sr ?_
   refine ww ?_
   refine cl0 (hc := fun w hS => C_score_leads _ _ _ (by assumption) w) (h := ?_)
   refine ww ?_
   refine nq ?_
   refine rtn ?_
   refine q_blk_ret ?_
   refine q_then_ret ?_
   refine q_ret (hR := ?_)
   exact fun w hS => ⟨(cdT' (fun x : Int => Ending.returned (Value.int .i64 x)) h1).trans (cdF' (fun x : Int => Ending.returned (Value.int .i64 x)) h0), hS.sub slz_⟩
  ·
   refine skp ?_
   refine q_blk_norm ?_
   refine q_seq ?_
   refine sr ?_
   refine ww ?_
   refine cl0 (hc := fun w hS => C_score_leads _ _ _ (by assumption) w) (h := ?_)
   refine ww ?_
   refine nq ?_
   refine rtn ?_
   refine q_ret (hR := ?_)
   exact fun w hS => ⟨(cdF' (fun x : Int => Ending.returned (Value.int .i64 x)) h1).trans (cdF' (fun x : Int => Ending.returned (Value.int .i64 x)) h0), hS.sub slz_⟩

theorem C_rules_due (f : Fmt) (n : Int) (hf : f.Ok) (hn : -1000000 ≤ n ∧ n ≤ 1000000) (w : World) : C0 Tryz.prog 193 [f.val, .int .i64 n] w (.bool (dueV f n)) := by
 have h1 := hf.f0
 have h2 := hf.f1
 have h3 := hf.n0
 refine ⟨en Tryz.func193 Tryz.ntmps193 (St.init w) (h := fun F => ?_)⟩
 refine sr ?_
 refine bxA (h := fun b0 => ?_)
 refine ww ?_
 refine nr ?_
 iterate 6 refine ww ?_
 refine nr ?_
 iterate 5 refine ww ?_
 apply brAnd 21 15 36 (by exact rfl)
 ·
  intro hb0
  iterate 3 refine uw ?_
  apply brOr 17 18 35 (by exact rfl)
  ·
   intro hb1
   iterate 3 refine uw ?_
   apply brAnd 5 21 26 (by exact rfl)
   ·
    intro hb2
    iterate 5 refine uw ?_
    exact mg (by repeat (first | exact trivial | refine ⟨rfl, ?_⟩ | refine ⟨by rw [hb2]; rfl, ?_⟩ | refine ⟨by rw [hb0]; rfl, ?_⟩ | refine ⟨by rw [hb1]; rfl, ?_⟩)) slz_
   ·
    intro hb2
    repeat (first | refine uz ?_ | refine kz ?_ | refine wz ?_)
    exact mg (by repeat (first | exact trivial | refine ⟨rfl, ?_⟩ | refine ⟨by rw [hb2]; rfl, ?_⟩ | refine ⟨by rw [hb0]; rfl, ?_⟩ | refine ⟨by rw [hb1]; rfl, ?_⟩)) slz_
   refine uw ?_
   apply brAnd 7 27 34 (by exact rfl)
   ·
    intro hb3
    obtain ⟨hng, hthn⟩ : 0 < n - f.first ∧ 0 < f.thn := by simp only [Bool.and_eq_true, decide_eq_true_eq] at hb3; omega
    iterate 7 refine uw ?_
    exact mg (by repeat (first | exact trivial | refine ⟨rfl, ?_⟩ | refine ⟨by rw [hb3]; rfl, ?_⟩ | refine ⟨by rw [hb0]; rfl, ?_⟩ | refine ⟨by rw [hb1]; rfl, ?_⟩)) slz_
   ·
    intro hb3
    repeat (first | refine uz ?_ | refine kz ?_ | refine wz ?_)
    exact mg (by repeat (first | exact trivial | refine ⟨rfl, ?_⟩ | refine ⟨by rw [hb3]; rfl, ?_⟩ | refine ⟨by rw [hb0]; rfl, ?_⟩ | refine ⟨by rw [hb1]; rfl, ?_⟩)) slz_
   refine uw ?_
   exact mg (by repeat (first | exact trivial | refine ⟨rfl, ?_⟩ | refine ⟨by rw [hb1]; rfl, ?_⟩ | refine ⟨by rw [hb0]; rfl, ?_⟩)) slz_
  ·
   intro hb1
   repeat (first | refine uz ?_ | refine kz ?_ | refine wz ?_)
   exact mg (by repeat (first | exact trivial | refine ⟨rfl, ?_⟩ | refine ⟨by rw [hb1]; rfl, ?_⟩ | refine ⟨by rw [hb0]; rfl, ?_⟩)) slz_
  refine ww ?_
  exact mg (by repeat (first | exact trivial | refine ⟨rfl, ?_⟩ | refine ⟨by rw [hb0]; rfl, ?_⟩)) slz_
 ·
  intro hb0
  repeat (first | refine uz ?_ | refine kz ?_ | refine wz ?_)
  exact mg (by repeat (first | exact trivial | refine ⟨rfl, ?_⟩ | refine ⟨by rw [hb0]; rfl, ?_⟩)) slz_
 refine ww ?_
 refine nq ?_
 refine rtn ?_
 refine q_ret (hR := ?_)
 exact fun w hS => ⟨rfl, hS.sub slz_⟩
end Go.Proofs.YthkliiifllhacaaGreat

namespace Go.Proofs.YthkliiifllhacaaGreat
open Go Go.RowKit

structure Gm where
 (set : Int) (tie : Bool) (server winner : Int) (pts : Pr) (fresh : Bool)
abbrev Gm.enc (g : Gm) : List Value := [.int .i64 g.set, .bool g.tie, .int .i64 g.server, .int .i64 g.winner, .int .i64 g.pts.1, .int .i64 g.pts.2, .bool g.fresh]
def encP (ps : List Pr) : List (List Value) := ps.map fun p => [.int .i64 p.1, .int .i64 p.2]
def encB (bs : List Bool) : List (List Value) := bs.map fun b => [.bool b]
def encG (gs : List Gm) : List (List Value) := gs.map Gm.enc
def encI (xs : List Int) : List (List Value) := xs.map fun x => [.int .i64 x]
theorem encP_app (ps : List Pr) (p : Pr) : encP ps ++ [[.int .i64 p.1, .int .i64 p.2]] = encP (ps ++ [p]) := by simp [encP]
theorem encB_app (bs : List Bool) (b : Bool) : encB bs ++ [[.bool b]] = encB (bs ++ [b]) := by simp [encB]
theorem encG_app (gs : List Gm) (g : Gm) : encG gs ++ [g.enc] = encG (gs ++ [g]) := by simp [encG]
theorem encI_len (xs : List Int) : (encI xs).length = xs.length := by simp [encI]
theorem encI_at {xs : List Int} {k : Nat} {x : Int} (h : xs[k]? = some x) : (encI xs)[k]? = some [.int .i64 x] := by simp [encI, h]
theorem encP_at {xs : List Pr} {k : Nat} {x : Pr} (h : xs[k]? = some x) : (encP xs)[k]? = some [.int .i64 x.1, .int .i64 x.2] := by simp [encP, h]
def tieI (l : List Bool) (i : Int) : Bool := l.getD i.toNat false
theorem encB_at {l : List Bool} {i : Int} (h : 0 ≤ i ∧ i < l.length) : (encB l)[i.toNat]? = some [.bool (tieI l i)] := by
 have hi : i.toNat < l.length := by omega
 simp [encB, tieI, List.getElem?_eq_getElem hi, List.getD_eq_getElem?_getD]
structure MS where
 (f : Fmt) (first : Int) (st : List Pr) (g p won : Pr) (server ends balls winner : Int) (ties : List Bool) (gs : List Gm)
structure MA where
 (sA tA gA : Option Addr) (sc tc gc : Nat)
abbrev MS.cells (m : MS) (a : MA) : List Value := [.int .i64 m.f.sets, .int .i64 m.f.games, .bool m.f.noAd, .int .i64 m.f.tie, .int .i64 m.f.to, .int .i64 m.f.ltie, .int .i64 m.f.lto, .int .i64 m.f.first, .int .i64 m.f.thn, .bool m.f.dbl,
 .slice a.sA m.st.length a.sc, .int .i64 m.g.1, .int .i64 m.g.2, .int .i64 m.p.1, .int .i64 m.p.2, .int .i64 m.server, .int .i64 m.ends, .int .i64 m.balls, .int .i64 m.winner, .int .i64 m.first, .int .i64 m.won.1, .int .i64 m.won.2, .slice a.tA m.ties.length a.tc, .slice a.gA m.gs.length a.gc]
abbrev MS.blk (m : MS) (a : MA) (b : Nat) : Ent := .blk b 136 (m.cells a)
abbrev MS.tiesE (m : MS) (a : MA) : Ent := .own a.tA a.tc 4 1 m.ties.length (encB m.ties)
abbrev MS.ents (m : MS) (a : MA) (b : Nat) : List Ent := [m.blk a b, .own a.sA a.sc 73 2 m.st.length (encP m.st), m.tiesE a, .own a.gA a.gc 229 7 m.gs.length (encG m.gs)]
def freshV (f : Fmt) (ties : List Bool) : Bool := !tieI ties ((ties.length : Int) - 1) && dueV f ((ties.length : Int) - 1) || decide (2 ≤ (ties.length : Int) - 1) && tieI ties ((ties.length : Int) - 1 - 2) && dueV f ((ties.length : Int) - 1 - 2)
def turnV (ties : List Bool) (pt : Int) : Int := bif tieI ties ((ties.length : Int) - 1) then (pt + 1) / 2 else 0
def servesV (f : Fmt) (first : Int) (ties : List Bool) (pt : Int) : Int :=
 bif !f.dbl then (first + ((ties.length : Int) - 1) + turnV ties pt) % 2 else
  (first + ((ties.length : Int) - 1) + turnV ties pt) % 2 + 2 * ((((ties.length : Int) - 1 + turnV ties pt % 2) / 2 + turnV ties pt / 2) % 2)
def tiesV (m : MS) : List Bool := m.ties ++ [brksV (setV m.f m.won) m.g]
def nextV (m : MS) : MS := bif decide (0 ≤ m.winner) then { m with server := -1 } else
 { m with ties := tiesV m, balls := bif freshV m.f (tiesV m) then m.balls + 1 else m.balls, server := servesV m.f m.first (tiesV m) 0 }
def begin0 (f : Fmt) (first : Int) : MS := ⟨f, first, [], (0, 0), (0, 0), (0, 0), 0, 0, 0, -1, [], []⟩
def beginV (f : Fmt) (first : Int) : MS := nextV (begin0 f first)
def MS.tie (m : MS) : Bool := tieI m.ties ((m.ties.length : Int) - 1)
def MS.w (m : MS) (side : Int) : Int := gameV m.f (setV m.f m.won) m.tie (addV m.p side)
def pointN (m : MS) (side : Int) : MS :=
 { m with p := addV m.p side, ends := bif m.tie && decide (((addV m.p side).1 + (addV m.p side).2) % 6 = 0) then m.ends + 1 else m.ends, server := servesV m.f m.first m.ties ((addV m.p side).1 + (addV m.p side).2) }
def gameG (m : MS) (side : Int) : Gm := ⟨m.st.length, m.tie, servesV m.f m.first m.ties 0, m.w side, addV m.p side, freshV m.f m.ties⟩
def setEnds (m : MS) (w : Int) : Bool := m.tie || decide (0 ≤ leadsV (addV m.g w) m.f.games 2)
def pointG (m : MS) (side : Int) : MS :=
 bif setEnds m (m.w side) then
  { m with gs := m.gs ++ [gameG m side], p := (0, 0), st := m.st ++ [addV m.g (m.w side)], g := (0, 0), won := addV m.won (m.w side), winner := bif decide (max (addV m.won (m.w side)).1 (addV m.won (m.w side)).2 = m.f.sets) then m.w side else m.winner }
 else { m with gs := m.gs ++ [gameG m side], p := (0, 0), g := addV m.g (m.w side) }
def pointE (m : MS) (side : Int) : MS :=
 { pointG m side with ends := bif decide (((addV m.g (m.w side)).1 + (addV m.g (m.w side)).2) % 2 = 1) && decide ((pointG m side).winner < 0) then m.ends + 1 else m.ends }
def pointV (m : MS) (side : Int) : MS := bif decide (m.w side < 0) then pointN m side else nextV (pointE m side)
structure MS.Bd (m : MS) (K : Int) : Prop where
 f : m.f.Ok
 fst : m.first = 0 ∨ m.first = 1
 k : 0 ≤ K ∧ K ≤ 1000
 t1 : 1 ≤ (m.ties.length : Int)
 t2 : (m.ties.length : Int) ≤ K + 1
 g : (0 ≤ m.g.1 ∧ m.g.1 ≤ K) ∧ 0 ≤ m.g.2 ∧ m.g.2 ≤ K
 p : (0 ≤ m.p.1 ∧ m.p.1 ≤ K) ∧ 0 ≤ m.p.2 ∧ m.p.2 ≤ K
 won : (0 ≤ m.won.1 ∧ m.won.1 ≤ K) ∧ 0 ≤ m.won.2 ∧ m.won.2 ≤ K
 e : 0 ≤ m.ends ∧ m.ends ≤ K
 b : 0 ≤ m.balls ∧ m.balls ≤ K + 1
 s : (m.st.length : Int) ≤ K
 gs : (m.gs.length : Int) ≤ K
end Go.Proofs.YthkliiifllhacaaGreat

namespace Go.Proofs.YthkliiifllhacaaGreat
open Go Go.RowKit

theorem T_number (m : MS) (a : MA) (b : Nat) (hb : 1 ≤ (m.ties.length : Int) ∧ (m.ties.length : Int) ≤ 100000) :
  Tr Tryz.prog 147 [.pointer (some ⟨b, 0, none⟩)] [m.blk a b] (fun _ : Unit => True) (fun _ => .int .i64 ((m.ties.length : Int) - 1)) (fun _ => [m.blk a b]) := by
 refine ⟨fun w0 w R hst => ?_⟩
 refine en Tryz.func147 Tryz.ntmps147 hst (h := fun F => ?_)
 refine sr ?_
 refine ww ?_
 refine nr ?_
 iterate 7 refine ww ?_
 refine nq ?_
 refine rtn ?_
 refine q_ret (hR := ?_)
 exact fun w hS => ⟨(), trivial, rfl, hS⟩

theorem T_fresh (m : MS) (a : MA) (b : Nat) (hf : m.f.Ok) (hb : 1 ≤ (m.ties.length : Int) ∧ (m.ties.length : Int) ≤ 100000) :
  Tr Tryz.prog 152 [.pointer (some ⟨b, 0, none⟩)] [m.blk a b, m.tiesE a] (fun _ : Unit => True) (fun _ => .bool (freshV m.f m.ties)) (fun _ => [m.blk a b, m.tiesE a]) := by
 refine ⟨fun w0 w R hst => ?_⟩
 have hk1 := encB_at (l := m.ties) (i := (m.ties.length : Int) - 1) (by omega)
 refine en Tryz.func152 Tryz.ntmps152 hst (h := fun F => ?_)
 refine sr ?_
 refine ww ?_
 refine nr ?_
 refine ww ?_
 refine clT (hc := T_number m a b hb) (h := fun _ _ => ?_)
 refine ww ?_
 refine nr ?_
 iterate 5 refine ww ?_
 refine wy ix ?_
 refine wy (ldE (hk := hk1)) ?_
 iterate 2 refine ww ?_
 apply brAnd 7 14 21 (by exact rfl)
 ·
  intro hb0
  iterate 5 refine uw ?_
  refine uz ?_
  refine cl0 (hc := fun w hS => C_rules_due _ _ (by assumption) (by omega) w) (h := ?_)
  refine ww ?_
  exact mg (by repeat (first | exact trivial | refine ⟨rfl, ?_⟩ | refine ⟨by rw [hb0]; rfl, ?_⟩)) slz_
 ·
  intro hb0
  repeat (first | refine uz ?_ | refine kz ?_ | refine wz ?_)
  exact mg (by repeat (first | exact trivial | refine ⟨rfl, ?_⟩ | refine ⟨by rw [hb0]; rfl, ?_⟩)) slz_
 refine ww ?_
 apply brOr 22 22 44 (by exact rfl)
 ·
  intro hb1
  iterate 3 refine uw ?_
  apply brAnd 9 25 34 (by exact rfl)
  ·
   intro hb2
   have hn2 : 2 ≤ (m.ties.length : Int) - 1 := by simpa using hb2
   have hk2 := encB_at (l := m.ties) (i := (m.ties.length : Int) - 1 - 2) (by omega)
   iterate 6 refine uw ?_
   refine uz ?_
   refine wy ix ?_
   refine uz ?_
   refine wy (ldE (hk := hk2)) ?_
   refine uw ?_
   exact mg (by repeat (first | exact trivial | refine ⟨rfl, ?_⟩ | refine ⟨by rw [hb2]; rfl, ?_⟩ | refine ⟨by rw [hb1]; rfl, ?_⟩)) slz_
  ·
   intro hb2
   repeat (first | refine uz ?_ | refine kz ?_ | refine wz ?_)
   exact mg (by repeat (first | exact trivial | refine ⟨rfl, ?_⟩ | refine ⟨by rw [hb2]; rfl, ?_⟩ | refine ⟨by rw [hb1]; rfl, ?_⟩)) slz_
  refine uw ?_
  apply brAnd 8 35 43 (by exact rfl)
  ·
   intro hb3
   have hn2 : 2 ≤ (m.ties.length : Int) - 1 := by simp only [Bool.and_eq_true, decide_eq_true_eq] at hb3; omega
   iterate 6 refine uw ?_
   refine uz ?_
   refine cl0 (hc := fun w hS => C_rules_due _ _ (by assumption) (by omega) w) (h := ?_)
   refine uw ?_
   exact mg (by repeat (first | exact trivial | refine ⟨rfl, ?_⟩ | refine ⟨by rw [hb3]; rfl, ?_⟩ | refine ⟨by rw [hb1]; rfl, ?_⟩)) slz_
  ·
   intro hb3
   repeat (first | refine uz ?_ | refine kz ?_ | refine wz ?_)
   exact mg (by repeat (first | exact trivial | refine ⟨rfl, ?_⟩ | refine ⟨by rw [hb3]; rfl, ?_⟩ | refine ⟨by rw [hb1]; rfl, ?_⟩)) slz_
  refine ww ?_
  exact mg (by repeat (first | exact trivial | refine ⟨rfl, ?_⟩ | refine ⟨by rw [hb1]; rfl, ?_⟩)) slz_
 ·
  intro hb1
  repeat (first | refine uz ?_ | refine kz ?_ | refine wz ?_)
  exact mg (by repeat (first | exact trivial | refine ⟨rfl, ?_⟩ | refine ⟨by rw [hb1]; rfl, ?_⟩)) slz_
 refine ww ?_
 refine nq ?_
 refine rtn ?_
 refine q_ret (hR := ?_)
 exact fun w hS => ⟨(), trivial, rfl, hS.sub slz_⟩

theorem T_serves (m : MS) (a : MA) (b : Nat) (pt : Int) (hf : 0 ≤ m.first ∧ m.first ≤ 1) (hp : 0 ≤ pt ∧ pt ≤ 100000) (hb : 1 ≤ (m.ties.length : Int) ∧ (m.ties.length : Int) ≤ 100000) :
  Tr Tryz.prog 151 [.pointer (some ⟨b, 0, none⟩), .int .i64 pt] [m.blk a b, m.tiesE a] (fun _ : Unit => True) (fun _ => .int .i64 (servesV m.f m.first m.ties pt)) (fun _ => [m.blk a b, m.tiesE a]) := by
 refine ⟨fun w0 w R hst => ?_⟩
 have hk1 := encB_at (l := m.ties) (i := (m.ties.length : Int) - 1) (by omega)
 refine en Tryz.func151 Tryz.ntmps151 hst (h := fun F => ?_)
 refine sr ?_
 refine ww ?_
 refine nr ?_
 refine ww ?_
 refine clT (hc := T_number m a b hb) (h := fun _ _ => ?_)
 iterate 2 refine ww ?_
 refine nq ?_
 refine sq ?_
 refine sr ?_
 iterate 5 refine ww ?_
 refine wy ix ?_
 refine wy (ldE (hk := hk1)) ?_
 refine nq ?_
 refine czz (fun h0 => ?_) fun h0 => ?_
 ·
  have ht : turnV m.ties pt = (pt + 1) / 2 := by rw [turnV, h0]; rfl
  refine rg ?_
  iterate 4 refine ww ?_
  refine nr ?_
  iterate 10 refine ww ?_
  refine nq ?_
  refine sq ?_
  refine sr ?_
  iterate 7 refine ww ?_
  refine nq ?_
  refine czz (fun h1 => ?_) fun h1 => ?_
  ·
   have hsv : servesV m.f m.first m.ties pt = (m.first + ((m.ties.length : Int) - 1) + turnV m.ties pt) % 2 := by rw [servesV, h1]; rfl
   refine sr ?_
   iterate 2 refine ww ?_
   refine nq ?_
   refine rtn ?_
   refine q_then_ret ?_
   refine q_ret (hR := ?_)
   rw [hsv, ht]
   exact fun w hS => ⟨(), trivial, rfl, hS.sub slz_⟩
  ·
   have hsv : servesV m.f m.first m.ties pt = (m.first + ((m.ties.length : Int) - 1) + turnV m.ties pt) % 2 + 2 * ((((m.ties.length : Int) - 1 + turnV m.ties pt % 2) / 2 + turnV m.ties pt / 2) % 2) := by rw [servesV, h1]; rfl
   refine skp ?_
   refine q_seq ?_
   refine sr ?_
   iterate 9 refine ww ?_
   refine nr ?_
   iterate 6 refine ww ?_
   refine nq ?_
   refine rtn ?_
   refine q_ret (hR := ?_)
   rw [hsv, ht]
   exact fun w hS => ⟨(), trivial, rfl, hS.sub slz_⟩
 ·
  have ht : turnV m.ties pt = 0 := by rw [turnV, h0]; rfl
  refine skp ?_
  refine q_seq ?_
  refine sr ?_
  iterate 10 refine ww ?_
  refine nq ?_
  refine sq ?_
  refine sr ?_
  iterate 7 refine ww ?_
  refine nq ?_
  refine czz (fun h2 => ?_) fun h2 => ?_
  ·
   have hsv : servesV m.f m.first m.ties pt = (m.first + ((m.ties.length : Int) - 1) + turnV m.ties pt) % 2 := by rw [servesV, h2]; rfl
   refine sr ?_
   iterate 2 refine ww ?_
   refine nq ?_
   refine rtn ?_
   refine q_then_ret ?_
   refine q_ret (hR := ?_)
   rw [hsv, ht]
   exact fun w hS => ⟨(), trivial, rfl, hS.sub slz_⟩
  ·
   have hsv : servesV m.f m.first m.ties pt = (m.first + ((m.ties.length : Int) - 1) + turnV m.ties pt) % 2 + 2 * ((((m.ties.length : Int) - 1 + turnV m.ties pt % 2) / 2 + turnV m.ties pt / 2) % 2) := by rw [servesV, h2]; rfl
   refine skp ?_
   refine q_seq ?_
   refine sr ?_
   iterate 9 refine ww ?_
   refine nr ?_
   iterate 6 refine ww ?_
   refine nq ?_
   refine rtn ?_
   refine q_ret (hR := ?_)
   rw [hsv, ht]
   exact fun w hS => ⟨(), trivial, rfl, hS.sub slz_⟩
end Go.Proofs.YthkliiifllhacaaGreat

namespace Go.Proofs.YthkliiifllhacaaGreat
open Go Go.RowKit

set_option maxRecDepth 100000 in
theorem T_next (m : MS) (a : MA) (b : Nat) (hf : m.f.Ok) (hfs : 0 ≤ m.first ∧ m.first ≤ 1) (ht : (m.ties.length : Int) ≤ 90000) (hbal : 0 ≤ m.balls ∧ m.balls ≤ 100000) :
  Tr Tryz.prog 145 [.pointer (some ⟨b, 0, none⟩)] (m.ents a b) (fun _ : MA => True) (fun _ => .tuple #[]) (fun a' => (nextV m).ents a' b) := by
 refine ⟨fun w0 w R hst => ?_⟩
 have hb1 : 1 ≤ ((tiesV m).length : Int) ∧ ((tiesV m).length : Int) ≤ 100000 := by
  have : (tiesV m).length = m.ties.length + 1 := by simp [tiesV]
  omega
 have hl : (tiesV m).length = m.ties.length + 1 := by simp [tiesV]
 have he : encB (tiesV m) = encB m.ties ++ [[.bool (brksV (setV m.f m.won) m.g)]] := (encB_app ..).symm
 refine en Tryz.func145 Tryz.ntmps145 hst (h := fun F => ?_)
 refine sq ?_
 refine sr ?_
 iterate 6 refine ww ?_
 refine nq ?_
 refine czz (fun h0 => ?_) fun h0 => ?_
 ·
  have hnx : nextV m = { m with server := -1 } := by rw [nextV, h0]; rfl
  refine sr ?_
  iterate 4 refine ww ?_
  first | refine st (h := ?_) | refine stE (h := ?_)
  refine nq ?_
  refine rtn ?_
  refine q_then_ret ?_
  refine q_ret (hR := ?_)
  rw [hnx]
  exact fun w hS => ⟨a, trivial, rfl, hS.sub slz_⟩
 ·
  have hw0 : decide (0 ≤ m.winner) = false := h0
  refine skp ?_
  refine q_seq ?_
  refine ct (X := Option Addr × Nat) (fun _ => True) (fun _ => [(0, .pointer (some ⟨b, 0, none⟩))]) (fun x => ({ m with ties := tiesV m } : MS).ents ⟨a.sA, x.1, a.gA, a.sc, x.2, a.gc⟩ b ++ R) (h1 := ?_) (h2 := ?_)
  ·
   refine rgD (by kernel_rfl) [(25, m.blk a b)] (by repeat (first | exact HS.nil | (apply HS.keep; (repeat (first | exact At.here | apply At.there))) | (apply HS.ro; (repeat (first | exact Rds.ro | exact Rds.own | apply Rds.there))))) (h := ?_)
   refine tw 0 ?_
   refine tw 1 ?_
   refine tw 2 ?_
   refine tw 3 ?_
   refine tw 4 ?_
   refine tw 5 ?_
   refine tw 6 ?_
   refine tw 7 ?_
   refine tw 8 ?_
   refine tw 9 ?_
   refine tw 10 ?_
   refine tw 11 ?_
   refine tw 12 ?_
   refine tw 14 ?_
   refine tw 15 ?_
   refine tw 16 ?_
   refine tw 17 ?_
   refine tw 18 ?_
   refine tw 19 ?_
   refine one 13 (h := ?_)
   refine cl0 (hc := fun w hS => C_rules_set _ _ (by assumption) w) (h := ?_)
   refine nx (h := ?_)
   refine one 20 (h := ?_)
   refine cl0 (hc := fun w hS => C_set_breaks _ _ w) (h := ?_)
   refine nx (h := ?_)
   refine one 21 (h := ?_)
   refine bs (h := fun b0 => ?_)
   refine nx (h := ?_)
   refine one 22 (h := ?_)
   first | refine ap (h := fun A1 c1 => ?_) | refine ap0 (h := fun A1 c1 => ?_)
   refine nx (h := ?_)
   refine tw 23 ?_
   refine tw 24 ?_
   refine one 25 (h := ?_)
   first | refine st (h := ?_) | refine stE (h := ?_)
   refine nx (h := ?_)
   refine dn (h := ?_)
   exact ctn ⟨_, _⟩ trivial sbz_ (by dsimp only [MS.ents, MS.blk, MS.cells, MS.tiesE]; rw [hl, he]; repeat (first | exact SubL.nil | (apply SubL.cons; (repeat (first | exact At.here | apply At.there))) | exact SubL.refl _ | apply SubL.skip))
  rintro ⟨A1, c1⟩ -
  dsimp only [MS.ents, MS.blk, MS.cells, MS.tiesE]
  refine sq ?_
  refine sr ?_
  refine ww ?_
  refine clT (hc := T_fresh { m with ties := tiesV m } ⟨a.sA, A1, a.gA, a.sc, c1, a.gc⟩ b hf hb1) (h := fun _ _ => ?_)
  dsimp only [MS.blk, MS.cells, MS.tiesE]
  refine nq ?_
  refine czz (fun h1 => ?_) fun h1 => ?_
  ·
   have hnx : nextV m = { m with ties := tiesV m, balls := m.balls + 1, server := servesV m.f m.first (tiesV m) 0 } := by rw [nextV, hw0, h1]; rfl
   refine rg ?_
   iterate 9 refine ww ?_
   first | refine st (h := ?_) | refine stE (h := ?_)
   refine nq ?_
   refine rg ?_
   iterate 2 refine ww ?_
   first
    | refine clT (hc := T_serves { m with ties := tiesV m, balls := m.balls + 1 } ⟨a.sA, A1, a.gA, a.sc, c1, a.gc⟩ b 0 hfs (by omega) hb1) (h := fun _ _ => ?_)
    | refine clT (hc := T_serves { m with ties := tiesV m } ⟨a.sA, A1, a.gA, a.sc, c1, a.gc⟩ b 0 hfs (by omega) hb1) (h := fun _ _ => ?_)
   iterate 3 refine ww ?_
   first | refine st (h := ?_) | refine stE (h := ?_)
   refine nl ?_
   refine q_end (hR := ?_)
   rw [hnx]
   exact fun w hS => ⟨⟨a.sA, A1, a.gA, a.sc, c1, a.gc⟩, trivial, rfl, hS.sub slz_⟩
  ·
   have hnx : nextV m = { m with ties := tiesV m, server := servesV m.f m.first (tiesV m) 0 } := by rw [nextV, hw0, h1]; rfl
   refine skp ?_
   refine q_seq ?_
   refine rg ?_
   iterate 2 refine ww ?_
   first
    | refine clT (hc := T_serves { m with ties := tiesV m, balls := m.balls + 1 } ⟨a.sA, A1, a.gA, a.sc, c1, a.gc⟩ b 0 hfs (by omega) hb1) (h := fun _ _ => ?_)
    | refine clT (hc := T_serves { m with ties := tiesV m } ⟨a.sA, A1, a.gA, a.sc, c1, a.gc⟩ b 0 hfs (by omega) hb1) (h := fun _ _ => ?_)
   iterate 3 refine ww ?_
   first | refine st (h := ?_) | refine stE (h := ?_)
   refine nl ?_
   refine q_end (hR := ?_)
   rw [hnx]
   exact fun w hS => ⟨⟨a.sA, A1, a.gA, a.sc, c1, a.gc⟩, trivial, rfl, hS.sub slz_⟩

set_option maxRecDepth 100000 in
theorem C_score_begin (f : Fmt) (first : Int) (hf : f.Ok) (hfs : 0 ≤ first ∧ first ≤ 1) (w : World) :
  CR Tryz.prog 99 [f.val, .int .i64 first] w (fun _ : Nat × MA => True) (fun x => .pointer (some ⟨x.1, 0, none⟩)) (fun x => (beginV f first).ents x.2 x.1) := by
 refine ⟨en Tryz.func99 Tryz.ntmps99 (St.init w) (h := fun F => ?_)⟩
 refine sr ?_
 refine bxA (h := fun b0 => ?_)
 refine ww ?_
 refine nr ?_
 iterate 3 refine ww ?_
 refine bxA (h := fun b1 => ?_)
 refine ww ?_
 refine nr ?_
 iterate 4 refine ww ?_
 first | refine st (h := ?_) | refine stE (h := ?_)
 refine nr ?_
 refine ww ?_
 refine WL.nilOwn 73 2 (h := ?_)
 refine WL.nilOwn 4 1 (h := ?_)
 refine WL.nilOwn 229 7 (h := ?_)
 refine clT (hc := T_next (begin0 f first) ⟨none, none, none, 0, 0, 0⟩ b1 hf hfs (by simp [begin0]) (by simp [begin0])) (h := fun x _ => ?_)
 refine nr ?_
 iterate 2 refine ww ?_
 refine nq ?_
 refine rtn ?_
 refine q_ret (hR := ?_)
 exact fun w hS => ⟨(b1, x), trivial, rfl, hS.sub slz_⟩
end Go.Proofs.YthkliiifllhacaaGreat

namespace Go.Proofs.YthkliiifllhacaaGreat
open Go Go.RowKit

theorem addV_bd {p : Pr} {K side : Int} (h : (0 ≤ p.1 ∧ p.1 ≤ K) ∧ 0 ≤ p.2 ∧ p.2 ≤ K) : (0 ≤ (addV p side).1 ∧ (addV p side).1 ≤ K + 1) ∧ 0 ≤ (addV p side).2 ∧ (addV p side).2 ≤ K + 1 := by
 unfold addV
 cases decide (side = 0) <;> simp only [cond_true, cond_false] <;> omega
theorem sm_of {p : Pr} {K : Int} (h : (0 ≤ p.1 ∧ p.1 ≤ K) ∧ 0 ≤ p.2 ∧ p.2 ≤ K) (hK : K ≤ 100000) : Sm p := ⟨by omega, by omega⟩

set_option maxRecDepth 100000 in
set_option maxHeartbeats 2000000 in
theorem T_point (m : MS) (a : MA) (b : Nat) (side K : Int) (hB : m.Bd K) :
  Tr Tryz.prog 100 [.pointer (some ⟨b, 0, none⟩), .int .i64 side] (m.ents a b) (fun _ : MA => True) (fun _ => .tuple #[]) (fun a' => (pointV m side).ents a' b) := by
 refine ⟨fun w0 w R hst => ?_⟩
 have hf := hB.f
 have hfs : 0 ≤ m.first ∧ m.first ≤ 1 := by have := hB.fst; omega
 have hK := hB.k
 have hb1 : 1 ≤ (m.ties.length : Int) ∧ (m.ties.length : Int) ≤ 100000 := ⟨hB.t1, by have := hB.t2; omega⟩
 have hb2 : (m.ties.length : Int) ≤ 90000 := by have := hB.t2; omega
 have hbb : 0 ≤ m.balls ∧ m.balls ≤ 100000 := by have := hB.b; omega
 have hbe := hB.e
 have hbs := hB.s
 have hbg := hB.gs
 have hSw := sm_of hB.won (by omega)
 have hSp := sm_of hB.p (by omega)
 have hSg := sm_of hB.g (by omega)
 have hp0 := addV_bd (side := side) hB.p
 have hg0 := addV_bd (side := m.w side) hB.g
 have hw0 := addV_bd (side := m.w side) hB.won
 have hSp' := sm_of hp0 (by omega)
 have hSg' := sm_of hg0 (by omega)
 have hk1 := encB_at (l := m.ties) (i := (m.ties.length : Int) - 1) (by omega)
 have hgl : (m.gs ++ [gameG m side]).length = m.gs.length + 1 := by simp
 have hge : encG (m.gs ++ [gameG m side]) = encG m.gs ++ [(gameG m side).enc] := (encG_app ..).symm
 have hsl : (m.st ++ [addV m.g (m.w side)]).length = m.st.length + 1 := by simp
 have hse' : encP (m.st ++ [addV m.g (m.w side)]) = encP m.st ++ [[.int .i64 (addV m.g (m.w side)).1, .int .i64 (addV m.g (m.w side)).2]] := (encP_app ..).symm
 refine en Tryz.func100 Tryz.ntmps100 hst (h := fun F => ?_)
 refine ct (X := Nat) (fun _ => True) (fun x => [(0, .pointer (some ⟨b, 0, none⟩)), (1, .int .i64 side), (4, .pointer (some ⟨x, 0, none⟩)), (5, .int .i64 ((m.ties.length : Int) - 1))]) (fun x => .blk x 232 [.int .i64 (setV m.f m.won).1, .int .i64 (setV m.f m.won).2] :: (m.ents a b ++ R)) (h1 := ?_) (h2 := ?_)
 ·
  refine rgD (by kernel_rfl) [(1000000, m.blk a b)] (by repeat (first | exact HS.nil | (apply HS.keep; (repeat (first | exact At.here | apply At.there))) | (apply HS.ro; (repeat (first | exact Rds.ro | exact Rds.own | apply Rds.there))))) (h := ?_)
  dsimp only [MS.ents, MS.blk, MS.cells, MS.tiesE]
  refine tw 0 ?_
  refine tw 1 ?_
  refine tw 2 ?_
  refine tw 3 ?_
  refine tw 4 ?_
  refine tw 5 ?_
  refine tw 6 ?_
  refine tw 7 ?_
  refine tw 9 ?_
  refine two 8 11 (h1 := ?_) (h2 := ?_)
  ·
   refine cl0 (hc := fun w hS => C_rules_set _ _ (by assumption) w) (h := ?_)
   refine nx (h := ?_)
   refine two 10 11 (h1 := ?_) (h2 := ?_)
   ·
    refine clT (hc := T_number m a b hb1) (h := fun _ _ => ?_)
    dsimp only [MS.ents, MS.blk, MS.cells, MS.tiesE]
    refine nx (h := ?_)
    refine one 11 (h := ?_)
    refine al (h := fun b0 => ?_)
    refine nx (h := ?_)
    refine one 12 (h := ?_)
    first | refine stA (h := ?_) | refine stEA (h := ?_)
    refine nx (h := ?_)
    refine tw 13 ?_
    refine dn (h := ?_)
    exact ctn _ trivial sbz_ slz_
   ·
    refine al (h := fun b1 => ?_)
    refine nx (h := ?_)
    refine one 10 (h := ?_)
    refine clT (hc := T_number m a b hb1) (h := fun _ _ => ?_)
    dsimp only [MS.ents, MS.blk, MS.cells, MS.tiesE]
    refine nx (h := ?_)
    refine one 12 (h := ?_)
    first | refine stA (h := ?_) | refine stEA (h := ?_)
    refine nx (h := ?_)
    refine tw 13 ?_
    refine dn (h := ?_)
    exact ctn _ trivial sbz_ slz_
  ·
   refine al (h := fun b2 => ?_)
   refine nx (h := ?_)
   refine one 8 (h := ?_)
   refine cl0 (hc := fun w hS => C_rules_set _ _ (by assumption) w) (h := ?_)
   refine nx (h := ?_)
   refine one 10 (h := ?_)
   refine clT (hc := T_number m a b hb1) (h := fun _ _ => ?_)
   dsimp only [MS.ents, MS.blk, MS.cells, MS.tiesE]
   refine nx (h := ?_)
   refine one 12 (h := ?_)
   first | refine stA (h := ?_) | refine stEA (h := ?_)
   refine nx (h := ?_)
   refine tw 13 ?_
   refine dn (h := ?_)
   exact ctn _ trivial sbz_ slz_
 rintro sB -
 dsimp only [MS.ents, MS.blk, MS.cells, MS.tiesE]
 refine sr ?_
 iterate 5 refine ww ?_
 refine wy ix ?_
 refine wy (ldE (hk := hk1)) ?_
 refine ww ?_
 refine nr ?_
 iterate 8 refine ww ?_
 refine cl0 (hc := fun w hS => C_score_add _ _ (by assumption) w) (h := ?_)
 iterate 4 refine ww ?_
 first | refine stA (h := ?_) | refine stEA (h := ?_)
 refine nr ?_
 iterate 6 refine ww ?_
 refine cl0 (hc := fun w hS => C_score_sum _ (by assumption) w) (h := ?_)
 refine ww ?_
 refine nq ?_
 refine sq ?_
 refine rgD (by kernel_rfl) [(1000000, ({ m with p := addV m.p side } : MS).blk a b), (1000000, .blk sB 232 [.int .i64 (setV m.f m.won).1, .int .i64 (setV m.f m.won).2])] (by repeat (first | exact HS.nil | (apply HS.keep; (repeat (first | exact At.here | apply At.there))) | (apply HS.ro; (repeat (first | exact Rds.ro | exact Rds.own | apply Rds.there))))) (h := ?_)
 dsimp only [MS.ents, MS.blk, MS.cells, MS.tiesE]
 refine tw 0 ?_
 refine tw 1 ?_
 refine tw 2 ?_
 refine tw 3 ?_
 refine tw 4 ?_
 refine tw 5 ?_
 refine tw 6 ?_
 refine tw 7 ?_
 refine tw 8 ?_
 refine tw 9 ?_
 refine tw 10 ?_
 refine tw 11 ?_
 refine one 12 (h := ?_)
 refine cl0 (hc := fun w hS => C_rules_game _ _ _ _ (by assumption) w) (h := ?_)
 refine nx (h := ?_)
 refine tw 13 ?_
 refine dn (h := ?_)
 refine q_seq ?_
 refine sq ?_
 refine sr ?_
 iterate 2 refine ww ?_
 refine nq ?_
 refine czz (fun h0 => ?_) fun h0 => ?_
 ·
  have hw : decide (m.w side < 0) = true := h0
  refine sq ?_
  refine sr ?_
  iterate 2 refine ww ?_
  apply brAnd 4 64 68 (by exact rfl)
  ·
   intro hb1
   iterate 3 refine uw ?_
   refine ww ?_
   exact mg (by repeat (first | exact trivial | refine ⟨rfl, ?_⟩ | refine ⟨by rw [hb1]; rfl, ?_⟩)) slz_
  ·
   intro hb1
   repeat (first | refine uz ?_ | refine kz ?_ | refine wz ?_)
   exact mg (by repeat (first | exact trivial | refine ⟨rfl, ?_⟩ | refine ⟨by rw [hb1]; rfl, ?_⟩)) slz_
  refine nq ?_
  refine czz (fun h2 => ?_) fun h2 => ?_
  ·
   have hpt : pointV m side = { m with p := addV m.p side, ends := m.ends + 1, server := servesV m.f m.first m.ties ((addV m.p side).1 + (addV m.p side).2) } := by
    have h' : (m.tie && decide (((addV m.p side).1 + (addV m.p side).2) % 6 = 0)) = true := h2
    rw [pointV, hw, cond_true, pointN, h']; rfl
   refine rg ?_
   iterate 9 refine ww ?_
   first | refine st (h := ?_) | refine stE (h := ?_)
   refine nr ?_
   iterate 3 refine ww ?_
   first
    | refine clT (hc := T_serves { m with p := addV m.p side, ends := m.ends + 1 } a b ((addV m.p side).1 + (addV m.p side).2) hfs (by omega) hb1) (h := fun _ _ => ?_)
    | refine clT (hc := T_serves { m with p := addV m.p side } a b ((addV m.p side).1 + (addV m.p side).2) hfs (by omega) hb1) (h := fun _ _ => ?_)
   dsimp only [MS.ents, MS.blk, MS.cells, MS.tiesE]
   iterate 3 refine ww ?_
   first | refine st (h := ?_) | refine stE (h := ?_)
   refine nq ?_
   refine rtn ?_
   refine q_then_ret ?_
   refine q_ret (hR := ?_)
   first
    | (rw [hpt]; exact fun w hS => ⟨a, trivial, rfl, hS.sub slz_⟩)
    | (rw [pointV, hw, cond_false, hE, hG]; exact fun w hS => ⟨a', trivial, rfl, hS.sub slz_⟩)
  ·
   have hpt : pointV m side = { m with p := addV m.p side, server := servesV m.f m.first m.ties ((addV m.p side).1 + (addV m.p side).2) } := by
    have h' : (m.tie && decide (((addV m.p side).1 + (addV m.p side).2) % 6 = 0)) = false := h2
    rw [pointV, hw, cond_true, pointN, h']; rfl
   refine skp ?_
   refine q_seq ?_
   refine sr ?_
   iterate 3 refine ww ?_
   first
    | refine clT (hc := T_serves { m with p := addV m.p side, ends := m.ends + 1 } a b ((addV m.p side).1 + (addV m.p side).2) hfs (by omega) hb1) (h := fun _ _ => ?_)
    | refine clT (hc := T_serves { m with p := addV m.p side } a b ((addV m.p side).1 + (addV m.p side).2) hfs (by omega) hb1) (h := fun _ _ => ?_)
   dsimp only [MS.ents, MS.blk, MS.cells, MS.tiesE]
   iterate 3 refine ww ?_
   first | refine st (h := ?_) | refine stE (h := ?_)
   refine nq ?_
   refine rtn ?_
   refine q_then_ret ?_
   refine q_ret (hR := ?_)
   first
    | (rw [hpt]; exact fun w hS => ⟨a, trivial, rfl, hS.sub slz_⟩)
    | (rw [pointV, hw, cond_false, hE, hG]; exact fun w hS => ⟨a', trivial, rfl, hS.sub slz_⟩)
 ·
  have hw : decide (m.w side < 0) = false := h0
  refine skp ?_
  refine q_seq ?_
  refine ct (X := Option Addr × Nat) (fun _ => True) (fun _ => [(0, .pointer (some ⟨b, 0, none⟩)), (6, .bool m.tie), (8, .int .i64 (m.w side))]) (fun x => ({ m with p := addV m.p side, gs := m.gs ++ [gameG m side] } : MS).ents ⟨a.sA, a.tA, x.1, a.sc, a.tc, x.2⟩ b ++ R) (h1 := ?_) (h2 := ?_)
  ·
   refine rgD (by kernel_rfl) [(29, ({ m with p := addV m.p side } : MS).blk a b)] (by repeat (first | exact HS.nil | (apply HS.keep; (repeat (first | exact At.here | apply At.there))) | (apply HS.ro; (repeat (first | exact Rds.ro | exact Rds.own | apply Rds.there))))) (h := ?_)
   dsimp only [MS.ents, MS.blk, MS.cells, MS.tiesE]
   refine tw 0 ?_
   refine tw 1 ?_
   refine tw 2 ?_
   refine tw 3 ?_
   refine tw 4 ?_
   refine tw 5 ?_
   refine tw 6 ?_
   refine tw 7 ?_
   refine tw 8 ?_
   refine tw 9 ?_
   refine tw 10 ?_
   refine tw 11 ?_
   refine tw 12 ?_
   refine tw 13 ?_
   refine tw 15 ?_
   refine tw 16 ?_
   refine tw 17 ?_
   refine tw 18 ?_
   refine tw 19 ?_
   refine tw 20 ?_
   refine tw 21 ?_
   refine tw 22 ?_
   refine one 14 (h := ?_)
   refine clT (hc := T_serves { m with p := addV m.p side } a b 0 hfs (by omega) hb1) (h := fun _ _ => ?_)
   dsimp only [MS.ents, MS.blk, MS.cells, MS.tiesE]
   refine nx (h := ?_)
   refine one 23 (h := ?_)
   refine clT (hc := T_fresh { m with p := addV m.p side } a b hf hb1) (h := fun _ _ => ?_)
   dsimp only [MS.ents, MS.blk, MS.cells, MS.tiesE]
   refine nx (h := ?_)
   refine tw 24 ?_
   refine one 25 (h := ?_)
   refine bs (h := fun b3 => ?_)
   refine nx (h := ?_)
   refine one 26 (h := ?_)
   first | refine ap (h := fun A1 c1 => ?_) | refine ap0 (h := fun A1 c1 => ?_)
   refine nx (h := ?_)
   refine tw 27 ?_
   refine tw 28 ?_
   refine one 29 (h := ?_)
   first | refine st (h := ?_) | refine stE (h := ?_)
   refine nx (h := ?_)
   refine dn (h := ?_)
   exact ctn ⟨_, _⟩ trivial sbz_ (by dsimp only [MS.ents, MS.blk, MS.cells, MS.tiesE]; rw [hgl, hge]; repeat (first | exact SubL.nil | (apply SubL.cons; (repeat (first | exact At.here | apply At.there))) | exact SubL.refl _ | apply SubL.skip))
  rintro ⟨gA1, gc1⟩ -
  dsimp only [MS.ents, MS.blk, MS.cells, MS.tiesE]
  refine sr ?_
  iterate 6 refine ww ?_
  first | refine stA (h := ?_) | refine stEA (h := ?_)
  refine nr ?_
  iterate 7 refine ww ?_
  refine cl0 (hc := fun w hS => C_score_add _ _ (by assumption) w) (h := ?_)
  refine al (h := fun b4 => ?_)
  first | refine stA (h := ?_) | refine stEA (h := ?_)
  refine nr ?_
  iterate 6 refine ww ?_
  first | refine stA (h := ?_) | refine stEA (h := ?_)
  refine nq ?_
  refine sq ?_
  refine ct1 145 (v := .bool (setEnds m (m.w side))) (h1 := ?_) (h2 := ?_)
  ·
   refine rgD (by kernel_rfl) [(1000000, ({ m with p := (0, 0), g := addV m.g (m.w side), gs := m.gs ++ [gameG m side] } : MS).blk ⟨a.sA, a.tA, gA1, a.sc, a.tc, gc1⟩ b), (1000000, .blk b4 73 [.int .i64 (addV m.g (m.w side)).1, .int .i64 (addV m.g (m.w side)).2])] (by repeat (first | exact HS.nil | (apply HS.keep; (repeat (first | exact At.here | apply At.there))) | (apply HS.ro; (repeat (first | exact Rds.ro | exact Rds.own | apply Rds.there))))) (h := ?_)
   dsimp only [MS.ents, MS.blk, MS.cells, MS.tiesE]
   refine tw 0 ?_
   refine tw 1 ?_
   refine brH (g := 135) (by exact rfl) (fun hb3 => ?_) (fun hb3 => ?_)
   ·
    refine tkS 2 (h := ?_)
    refine tkS 3 (h := ?_)
    refine tkS 4 (h := ?_)
    refine tkS 5 (h := ?_)
    refine tkS 6 (h := ?_)
    refine tkS 7 (h := ?_)
    refine tkS 8 (h := ?_)
    refine tkS 9 (h := ?_)
    refine tkS 10 (h := ?_)
    refine tw 11 ?_
    refine dn (h := ?_)
    exact ct1n (by repeat (first | exact trivial | refine ⟨rfl, ?_⟩ | refine ⟨by rw [setEnds, ‹m.tie = true›]; rfl, ?_⟩ | refine ⟨by rw [setEnds, ‹m.tie = false›]; rfl, ?_⟩)) slz_
   ·
    refine tw 2 ?_
    refine tw 3 ?_
    refine tw 4 ?_
    refine tw 5 ?_
    refine tw 6 ?_
    refine tw 7 ?_
    refine tw 8 ?_
    refine one 9 (h := ?_)
    refine uz ?_
    refine cl0 (hc := fun w hS => C_score_leads _ _ _ (by assumption) w) (h := ?_)
    refine nx (h := ?_)
    refine tw 10 ?_
    refine tw 11 ?_
    refine dn (h := ?_)
    exact ct1n (by repeat (first | exact trivial | refine ⟨rfl, ?_⟩ | refine ⟨by rw [setEnds, ‹m.tie = true›]; rfl, ?_⟩ | refine ⟨by rw [setEnds, ‹m.tie = false›]; rfl, ?_⟩)) slz_
  refine czz (fun h4 => ?_) fun h4 => ?_
  ·
   have hse : setEnds m (m.w side) = true := h4
   refine ct (X := Option Addr × Nat) (fun _ => True) (fun _ => [(0, .pointer (some ⟨b, 0, none⟩)), (8, .int .i64 (m.w side)), (9, .pointer (some ⟨b4, 0, none⟩))]) (fun x => .blk b4 73 [.int .i64 (addV m.g (m.w side)).1, .int .i64 (addV m.g (m.w side)).2] :: (({ m with p := (0, 0), g := addV m.g (m.w side), gs := m.gs ++ [gameG m side], st := m.st ++ [addV m.g (m.w side)] } : MS).ents ⟨x.1, a.tA, gA1, x.2, a.tc, gc1⟩ b ++ R)) (h1 := ?_) (h2 := ?_)
   ·
    refine rgD (by kernel_rfl) [(14, ({ m with p := (0, 0), g := addV m.g (m.w side), gs := m.gs ++ [gameG m side] } : MS).blk ⟨a.sA, a.tA, gA1, a.sc, a.tc, gc1⟩ b), (1000000, .blk b4 73 [.int .i64 (addV m.g (m.w side)).1, .int .i64 (addV m.g (m.w side)).2])] (by repeat (first | exact HS.nil | (apply HS.keep; (repeat (first | exact At.here | apply At.there))) | (apply HS.ro; (repeat (first | exact Rds.ro | exact Rds.own | apply Rds.there))))) (h := ?_)
    dsimp only [MS.ents, MS.blk, MS.cells, MS.tiesE]
    refine tw 0 ?_
    refine tw 1 ?_
    refine tw 2 ?_
    refine tw 3 ?_
    refine tw 4 ?_
    refine tw 5 ?_
    refine tw 6 ?_
    refine tw 7 ?_
    refine one 8 (h := ?_)
    refine bs (h := fun b5 => ?_)
    refine nx (h := ?_)
    refine one 9 (h := ?_)
    first | refine ap (h := fun A2 c2 => ?_) | refine ap0 (h := fun A2 c2 => ?_)
    refine nx (h := ?_)
    refine tw 10 ?_
    refine tw 11 ?_
    refine tw 12 ?_
    refine tw 13 ?_
    refine one 14 (h := ?_)
    first | refine st (h := ?_) | refine stE (h := ?_)
    refine nx (h := ?_)
    refine dn (h := ?_)
    exact ctn ⟨_, _⟩ trivial sbz_ (by dsimp only [MS.ents, MS.blk, MS.cells, MS.tiesE]; rw [hsl, hse']; repeat (first | exact SubL.nil | (apply SubL.cons; (repeat (first | exact At.here | apply At.there))) | exact SubL.refl _ | apply SubL.skip))
   rintro ⟨sA1, sc1⟩ -
   dsimp only [MS.ents, MS.blk, MS.cells, MS.tiesE]
   refine sr ?_
   iterate 6 refine ww ?_
   first | refine stA (h := ?_) | refine stEA (h := ?_)
   refine nr ?_
   iterate 6 refine ww ?_
   refine cl0 (hc := fun w hS => C_score_add _ _ (by assumption) w) (h := ?_)
   iterate 2 refine ww ?_
   first | refine stA (h := ?_) | refine stEA (h := ?_)
   refine nq ?_
   refine sq ?_
   refine rgD (by kernel_rfl) [(1000000, ({ m with p := (0, 0), g := (0, 0), gs := m.gs ++ [gameG m side], st := m.st ++ [addV m.g (m.w side)], won := addV m.won (m.w side) } : MS).blk ⟨sA1, a.tA, gA1, sc1, a.tc, gc1⟩ b)] (by repeat (first | exact HS.nil | (apply HS.keep; (repeat (first | exact At.here | apply At.there))) | (apply HS.ro; (repeat (first | exact Rds.ro | exact Rds.own | apply Rds.there))))) (h := ?_)
   dsimp only [MS.ents, MS.blk, MS.cells, MS.tiesE]
   refine tw 0 ?_
   refine tw 1 ?_
   refine tw 2 ?_
   refine tw 3 ?_
   refine tw 4 ?_
   refine tw 5 ?_
   refine tw 6 ?_
   refine tw 7 ?_
   refine tw 8 ?_
   refine tw 9 ?_
   refine tw 10 ?_
   refine tw 11 ?_
   refine tw 12 ?_
   refine tw 13 ?_
   refine tw 14 ?_
   refine tw 15 ?_
   refine tw 16 ?_
   refine tw 17 ?_
   refine dn (h := ?_)
   refine q_seq ?_
   refine czz (fun h5 => ?_) fun h5 => ?_
   ·
    have hG : pointG m side = { m with gs := m.gs ++ [gameG m side], p := (0, 0), st := m.st ++ [addV m.g (m.w side)], g := (0, 0), won := addV m.won (m.w side), winner := m.w side } := by rw [pointG, hse, h5]; rfl
    refine rg ?_
    iterate 5 refine ww ?_
    first | refine st (h := ?_) | refine stE (h := ?_)
    refine nq ?_
    refine sq ?_
    refine sr ?_
    refine ww ?_
    refine cl0 (hc := fun w hS => C_score_sum _ (by assumption) w) (h := ?_)
    iterate 3 refine ww ?_
    apply brAnd 7 202 209 (by exact rfl)
    ·
     intro hb6
     iterate 6 refine uw ?_
     refine ww ?_
     exact mg (by repeat (first | exact trivial | refine ⟨rfl, ?_⟩ | refine ⟨by rw [hb6]; rfl, ?_⟩)) slz_
    ·
     intro hb6
     repeat (first | refine uz ?_ | refine kz ?_ | refine wz ?_)
     exact mg (by repeat (first | exact trivial | refine ⟨rfl, ?_⟩ | refine ⟨by rw [hb6]; rfl, ?_⟩)) slz_
    refine nq ?_
    refine czz (fun h7 => ?_) fun h7 => ?_
    ·
     have hE : pointE m side = { pointG m side with ends := m.ends + 1 } := by rw [pointE, hG]; dsimp only; rw [h7]; rfl
     refine rg ?_
     iterate 9 refine ww ?_
     first | refine st (h := ?_) | refine stE (h := ?_)
     refine nq ?_
     refine rg ?_
     refine ww ?_
     first
      | refine clT (hc := T_next ⟨m.f, m.first, m.st ++ [addV m.g (m.w side)], (0, 0), (0, 0), addV m.won (m.w side), m.server, _, m.balls, _, m.ties, m.gs ++ [gameG m side]⟩ ⟨sA1, a.tA, gA1, sc1, a.tc, gc1⟩ b hf hfs hb2 hbb) (h := fun a' _ => ?_)
      | refine clT (hc := T_next ⟨m.f, m.first, m.st, addV m.g (m.w side), (0, 0), m.won, m.server, _, m.balls, _, m.ties, m.gs ++ [gameG m side]⟩ ⟨a.sA, a.tA, gA1, a.sc, a.tc, gc1⟩ b hf hfs hb2 hbb) (h := fun a' _ => ?_)
     refine nl ?_
     refine q_end (hR := ?_)
     first
      | (rw [hpt]; exact fun w hS => ⟨a, trivial, rfl, hS.sub slz_⟩)
      | (rw [pointV, hw, cond_false, hE, hG]; exact fun w hS => ⟨a', trivial, rfl, hS.sub slz_⟩)
    ·
     have hE : pointE m side = pointG m side := by rw [pointE, hG]; dsimp only; rw [h7]; rfl
     refine skp ?_
     refine q_seq ?_
     refine rg ?_
     refine ww ?_
     first
      | refine clT (hc := T_next ⟨m.f, m.first, m.st ++ [addV m.g (m.w side)], (0, 0), (0, 0), addV m.won (m.w side), m.server, _, m.balls, _, m.ties, m.gs ++ [gameG m side]⟩ ⟨sA1, a.tA, gA1, sc1, a.tc, gc1⟩ b hf hfs hb2 hbb) (h := fun a' _ => ?_)
      | refine clT (hc := T_next ⟨m.f, m.first, m.st, addV m.g (m.w side), (0, 0), m.won, m.server, _, m.balls, _, m.ties, m.gs ++ [gameG m side]⟩ ⟨a.sA, a.tA, gA1, a.sc, a.tc, gc1⟩ b hf hfs hb2 hbb) (h := fun a' _ => ?_)
     refine nl ?_
     refine q_end (hR := ?_)
     first
      | (rw [hpt]; exact fun w hS => ⟨a, trivial, rfl, hS.sub slz_⟩)
      | (rw [pointV, hw, cond_false, hE, hG]; exact fun w hS => ⟨a', trivial, rfl, hS.sub slz_⟩)
   ·
    have hG : pointG m side = { m with gs := m.gs ++ [gameG m side], p := (0, 0), st := m.st ++ [addV m.g (m.w side)], g := (0, 0), won := addV m.won (m.w side) } := by rw [pointG, hse, h5]; rfl
    refine skp ?_
    refine q_seq ?_
    refine sq ?_
    refine sr ?_
    refine ww ?_
    refine cl0 (hc := fun w hS => C_score_sum _ (by assumption) w) (h := ?_)
    iterate 3 refine ww ?_
    apply brAnd 7 202 209 (by exact rfl)
    ·
     intro hb8
     iterate 6 refine uw ?_
     refine ww ?_
     exact mg (by repeat (first | exact trivial | refine ⟨rfl, ?_⟩ | refine ⟨by rw [hb8]; rfl, ?_⟩)) slz_
    ·
     intro hb8
     repeat (first | refine uz ?_ | refine kz ?_ | refine wz ?_)
     exact mg (by repeat (first | exact trivial | refine ⟨rfl, ?_⟩ | refine ⟨by rw [hb8]; rfl, ?_⟩)) slz_
    refine nq ?_
    refine czz (fun h9 => ?_) fun h9 => ?_
    ·
     have hE : pointE m side = { pointG m side with ends := m.ends + 1 } := by rw [pointE, hG]; dsimp only; rw [h9]; rfl
     refine rg ?_
     iterate 9 refine ww ?_
     first | refine st (h := ?_) | refine stE (h := ?_)
     refine nq ?_
     refine rg ?_
     refine ww ?_
     first
      | refine clT (hc := T_next ⟨m.f, m.first, m.st ++ [addV m.g (m.w side)], (0, 0), (0, 0), addV m.won (m.w side), m.server, _, m.balls, _, m.ties, m.gs ++ [gameG m side]⟩ ⟨sA1, a.tA, gA1, sc1, a.tc, gc1⟩ b hf hfs hb2 hbb) (h := fun a' _ => ?_)
      | refine clT (hc := T_next ⟨m.f, m.first, m.st, addV m.g (m.w side), (0, 0), m.won, m.server, _, m.balls, _, m.ties, m.gs ++ [gameG m side]⟩ ⟨a.sA, a.tA, gA1, a.sc, a.tc, gc1⟩ b hf hfs hb2 hbb) (h := fun a' _ => ?_)
     refine nl ?_
     refine q_end (hR := ?_)
     first
      | (rw [hpt]; exact fun w hS => ⟨a, trivial, rfl, hS.sub slz_⟩)
      | (rw [pointV, hw, cond_false, hE, hG]; exact fun w hS => ⟨a', trivial, rfl, hS.sub slz_⟩)
    ·
     have hE : pointE m side = pointG m side := by rw [pointE, hG]; dsimp only; rw [h9]; rfl
     refine skp ?_
     refine q_seq ?_
     refine rg ?_
     refine ww ?_
     first
      | refine clT (hc := T_next ⟨m.f, m.first, m.st ++ [addV m.g (m.w side)], (0, 0), (0, 0), addV m.won (m.w side), m.server, _, m.balls, _, m.ties, m.gs ++ [gameG m side]⟩ ⟨sA1, a.tA, gA1, sc1, a.tc, gc1⟩ b hf hfs hb2 hbb) (h := fun a' _ => ?_)
      | refine clT (hc := T_next ⟨m.f, m.first, m.st, addV m.g (m.w side), (0, 0), m.won, m.server, _, m.balls, _, m.ties, m.gs ++ [gameG m side]⟩ ⟨a.sA, a.tA, gA1, a.sc, a.tc, gc1⟩ b hf hfs hb2 hbb) (h := fun a' _ => ?_)
     refine nl ?_
     refine q_end (hR := ?_)
     first
      | (rw [hpt]; exact fun w hS => ⟨a, trivial, rfl, hS.sub slz_⟩)
      | (rw [pointV, hw, cond_false, hE, hG]; exact fun w hS => ⟨a', trivial, rfl, hS.sub slz_⟩)
  ·
   have hse : setEnds m (m.w side) = false := h4
   have hG : pointG m side = { m with gs := m.gs ++ [gameG m side], p := (0, 0), g := addV m.g (m.w side) } := by rw [pointG, hse]; rfl
   refine skp ?_
   refine q_seq ?_
   refine sq ?_
   refine sr ?_
   refine ww ?_
   refine cl0 (hc := fun w hS => C_score_sum _ (by assumption) w) (h := ?_)
   iterate 3 refine ww ?_
   apply brAnd 7 202 209 (by exact rfl)
   ·
    intro hb10
    iterate 6 refine uw ?_
    refine ww ?_
    exact mg (by repeat (first | exact trivial | refine ⟨rfl, ?_⟩ | refine ⟨by rw [hb10]; rfl, ?_⟩)) slz_
   ·
    intro hb10
    repeat (first | refine uz ?_ | refine kz ?_ | refine wz ?_)
    exact mg (by repeat (first | exact trivial | refine ⟨rfl, ?_⟩ | refine ⟨by rw [hb10]; rfl, ?_⟩)) slz_
   refine nq ?_
   refine czz (fun h11 => ?_) fun h11 => ?_
   ·
    have hE : pointE m side = { pointG m side with ends := m.ends + 1 } := by rw [pointE, hG]; dsimp only; rw [h11]; rfl
    refine rg ?_
    iterate 9 refine ww ?_
    first | refine st (h := ?_) | refine stE (h := ?_)
    refine nq ?_
    refine rg ?_
    refine ww ?_
    first
     | refine clT (hc := T_next ⟨m.f, m.first, m.st ++ [addV m.g (m.w side)], (0, 0), (0, 0), addV m.won (m.w side), m.server, _, m.balls, _, m.ties, m.gs ++ [gameG m side]⟩ ⟨sA1, a.tA, gA1, sc1, a.tc, gc1⟩ b hf hfs hb2 hbb) (h := fun a' _ => ?_)
     | refine clT (hc := T_next ⟨m.f, m.first, m.st, addV m.g (m.w side), (0, 0), m.won, m.server, _, m.balls, _, m.ties, m.gs ++ [gameG m side]⟩ ⟨a.sA, a.tA, gA1, a.sc, a.tc, gc1⟩ b hf hfs hb2 hbb) (h := fun a' _ => ?_)
    refine nl ?_
    refine q_end (hR := ?_)
    first
     | (rw [hpt]; exact fun w hS => ⟨a, trivial, rfl, hS.sub slz_⟩)
     | (rw [pointV, hw, cond_false, hE, hG]; exact fun w hS => ⟨a', trivial, rfl, hS.sub slz_⟩)
   ·
    have hE : pointE m side = pointG m side := by rw [pointE, hG]; dsimp only; rw [h11]; rfl
    refine skp ?_
    refine q_seq ?_
    refine rg ?_
    refine ww ?_
    first
     | refine clT (hc := T_next ⟨m.f, m.first, m.st ++ [addV m.g (m.w side)], (0, 0), (0, 0), addV m.won (m.w side), m.server, _, m.balls, _, m.ties, m.gs ++ [gameG m side]⟩ ⟨sA1, a.tA, gA1, sc1, a.tc, gc1⟩ b hf hfs hb2 hbb) (h := fun a' _ => ?_)
     | refine clT (hc := T_next ⟨m.f, m.first, m.st, addV m.g (m.w side), (0, 0), m.won, m.server, _, m.balls, _, m.ties, m.gs ++ [gameG m side]⟩ ⟨a.sA, a.tA, gA1, a.sc, a.tc, gc1⟩ b hf hfs hb2 hbb) (h := fun a' _ => ?_)
    refine nl ?_
    refine q_end (hR := ?_)
    first
     | (rw [hpt]; exact fun w hS => ⟨a, trivial, rfl, hS.sub slz_⟩)
     | (rw [pointV, hw, cond_false, hE, hG]; exact fun w hS => ⟨a', trivial, rfl, hS.sub slz_⟩)
end Go.Proofs.YthkliiifllhacaaGreat

namespace Go.Proofs.YthkliiifllhacaaGreat
open Go Go.RowKit

def sideBad (s : Int) : Bool := !decide (s = 0) && !decide (s = 1)
def playTo (f : Fmt) (first : Int) (xs : List Int) : Nat → Option MS
 | 0 => some (beginV f first)
 | k + 1 => match playTo f first xs k, xs[k]? with
  | some m, some s => bif sideBad s || decide (0 ≤ m.winner) then none else some (pointV m s)
  | _, _ => none
def preE (f : Fmt) (first : Int) (n : Nat) : Int := bif !decide (chkF f = 0) then chkF f else bif sideBad first then 1 else bif decide ((600 : Int) < n) then 2 else 0
def playO (f : Fmt) (first : Int) (xs : List Int) : Option MS := bif !decide (preE f first xs.length = 0) then none else playTo f first xs xs.length
def playE (f : Fmt) (first : Int) (xs : List Int) : Int := bif !decide (preE f first xs.length = 0) then preE f first xs.length else match playTo f first xs xs.length with | some _ => 0 | none => 11
theorem playTo_succ {f : Fmt} {first : Int} {xs : List Int} {k : Nat} {m : MS} {s : Int} (h : playTo f first xs k = some m) (hs : xs[k]? = some s) : playTo f first xs (k + 1) = bif sideBad s || decide (0 ≤ m.winner) then none else some (pointV m s) := by rw [playTo, h, hs]
theorem playTo_none {f : Fmt} {first : Int} {xs : List Int} {j : Nat} (h : playTo f first xs j = none) : ∀ {k : Nat}, j ≤ k → playTo f first xs k = none
  | 0, hk => by obtain rfl : j = 0 := by omega
                exact h
  | k + 1, hk => by
    by_cases e : j = k + 1
    · subst e; exact h
    · rw [playTo, playTo_none h (k := k) (by omega)]
theorem chkF_ok {f : Fmt} (h : (!decide (chkF f = 0)) = false) : f.Ok := by
 cases hb : fmtOk f
 ·
  simp [chkF, hb] at h
 ·
  exact fmt_ok hb
theorem side_ok {s : Int} (h : sideBad s = false) : s = 0 ∨ s = 1 := by
 simp only [sideBad, Bool.and_eq_false_iff, Bool.not_eq_false', decide_eq_true_eq] at h
 exact h

theorem nextV_bd {m : MS} {K : Int} (hf : m.f.Ok) (hfs : m.first = 0 ∨ m.first = 1) (hk : 0 ≤ K ∧ K ≤ 1000) (ht : (m.ties.length : Int) ≤ K) (ht1 : 0 ≤ m.winner → 1 ≤ (m.ties.length : Int))
  (hg : (0 ≤ m.g.1 ∧ m.g.1 ≤ K) ∧ 0 ≤ m.g.2 ∧ m.g.2 ≤ K) (hp : (0 ≤ m.p.1 ∧ m.p.1 ≤ K) ∧ 0 ≤ m.p.2 ∧ m.p.2 ≤ K) (hw : (0 ≤ m.won.1 ∧ m.won.1 ≤ K) ∧ 0 ≤ m.won.2 ∧ m.won.2 ≤ K) (he : 0 ≤ m.ends ∧ m.ends ≤ K) (hb : 0 ≤ m.balls ∧ m.balls ≤ K) (hs : (m.st.length : Int) ≤ K) (hgs : (m.gs.length : Int) ≤ K) : (nextV m).Bd K := by
 unfold nextV
 cases hd : decide (0 ≤ m.winner)
 ·
  have hl : ((tiesV m).length : Int) = m.ties.length + 1 := by simp [tiesV]
  refine ⟨hf, hfs, hk, ?_, ?_, hg, hp, hw, he, ?_, hs, hgs⟩
  ·
   simp only [cond_false]; omega
  ·
   simp only [cond_false]; omega
  ·
   simp only [cond_false]
   cases freshV m.f (tiesV m) <;> simp only [cond_true, cond_false] <;> omega
 ·
  have h1 := ht1 (by simpa using hd)
  refine ⟨hf, hfs, hk, h1, ?_, hg, hp, hw, he, ?_, hs, hgs⟩
  ·
   simp only [cond_true]; omega
  ·
   simp only [cond_true]; omega
theorem beginV_bd {f : Fmt} {first : Int} (hf : f.Ok) (h1 : first = 0 ∨ first = 1) : (beginV f first).Bd 0 :=
 nextV_bd hf h1 (by omega) (by simp [begin0]) (by simp [begin0]) (by simp [begin0]) (by simp [begin0]) (by simp [begin0]) (by simp [begin0]) (by simp [begin0]) (by simp [begin0]) (by simp [begin0])
theorem pointV_bd {m : MS} {K side : Int} (h : m.Bd K) (hK : K < 1000) : (pointV m side).Bd (K + 1) := by
 obtain ⟨hf, hfs, hk, ht1, ht2, hg, hp, hw, he, hb, hs, hgs⟩ := h
 have hp' := addV_bd (side := side) hp
 have hg' := addV_bd (side := m.w side) hg
 have hw' := addV_bd (side := m.w side) hw
 unfold pointV
 cases hd : decide (m.w side < 0)
 ·
  simp only [cond_false]
  have hz : (0 ≤ (0 : Int) ∧ (0 : Int) ≤ K + 1) ∧ (0 : Int) ≤ 0 ∧ (0 : Int) ≤ K + 1 := by omega
  have hends : ∀ c : Bool, 0 ≤ (bif c then m.ends + 1 else m.ends) ∧ (bif c then m.ends + 1 else m.ends) ≤ K + 1 := fun c => by cases c <;> simp only [cond_true, cond_false] <;> omega
  have hl : ((m.gs ++ [gameG m side]).length : Int) ≤ K + 1 := by simp; omega
  have hl2 : ((m.st ++ [addV m.g (m.w side)]).length : Int) ≤ K + 1 := by simp; omega
  unfold pointE pointG
  cases setEnds m (m.w side)
  ·
   simp only [cond_false]
   exact nextV_bd hf hfs (by omega) (by dsimp only; omega) (fun _ => ht1) hg' hz (by dsimp only; omega) (hends _) (by dsimp only; omega) (by dsimp only; omega) hl
  ·
   simp only [cond_true]
   exact nextV_bd hf hfs (by omega) (by dsimp only; omega) (fun _ => ht1) hz hz hw' (hends _) (by dsimp only; omega) hl2 hl
 ·
  simp only [cond_true, pointN]
  refine ⟨hf, hfs, by omega, ht1, by dsimp only; omega, by dsimp only; omega, hp', by dsimp only; omega, ?_, by dsimp only; omega, by dsimp only; omega, by dsimp only; omega⟩
  dsimp only
  cases m.tie && decide (((addV m.p side).1 + (addV m.p side).2) % 6 = 0) <;> simp only [cond_true, cond_false] <;> omega
structure PZ where
 (k : Nat) (m : MS) (a : MA)

set_option maxRecDepth 100000 in
theorem C_play_none (f : Fmt) (first : Int) (xs : List Int) (A : Option Addr) (n c : Nat) (w : World) (h : Rd w A 1 n (encI xs)) (hn : n ≤ 9223372036854775807) (hO : playO f first xs = none) :
  C0 Tryz.prog 52 [f.val, .int .i64 first, .slice A n c] w (.tuple #[.pointer none, .int .i64 (playE f first xs)]) := by
 have hlen : xs.length = n := by have := h.len; rwa [encI_len] at this
 refine ⟨en Tryz.func52 Tryz.ntmps52 ((St.init w).share (e := .ro A 1 n (encI xs)) h rfl rfl rfl) (h := fun F => ?_)⟩
 refine sr ?_
 refine bxA (h := fun b0 => ?_)
 iterate 2 refine ww ?_
 refine nq ?_
 refine sq ?_
 refine sr ?_
 refine ww ?_
 refine cl0 (hc := fun w hS => C_score_Check _ w) (h := ?_)
 refine ww ?_
 refine nr ?_
 iterate 2 refine ww ?_
 refine nq ?_
 refine czz (fun h0 => ?_) fun h0 => ?_
 ·
  have hE : playE f first xs = chkF f := by simp only [playE, preE, h0, cond_true]
  refine sr ?_
  iterate 3 refine ww ?_
  refine nq ?_
  refine rtn ?_
  refine q_then_ret ?_
  refine q_ret (hR := ?_)
  rw [hE]
  exact fun w hS => ⟨rfl, hS.sub slz_⟩
 ·
  have hf := chkF_ok h0
  have hc0 : (!decide (chkF f = 0)) = false := h0
  refine skp ?_
  refine q_seq ?_
  refine sq ?_
  refine sr ?_
  iterate 3 refine ww ?_
  apply brAnd 3 19 22 (by exact rfl)
  ·
   intro hb1
   iterate 2 refine uw ?_
   refine ww ?_
   exact mg (by repeat (first | exact trivial | refine ⟨rfl, ?_⟩ | refine ⟨by rw [hb1]; rfl, ?_⟩)) slz_
  ·
   intro hb1
   repeat (first | refine uz ?_ | refine kz ?_ | refine wz ?_)
   exact mg (by repeat (first | exact trivial | refine ⟨rfl, ?_⟩ | refine ⟨by rw [hb1]; rfl, ?_⟩)) slz_
  refine nq ?_
  refine czz (fun h2 => ?_) fun h2 => ?_
  ·
   have hE : playE f first xs = 1 := by
    have h' : sideBad first = true := h2
    simp only [playE, preE, hc0, h', cond_true, cond_false]; rfl
   refine sr ?_
   iterate 2 refine ww ?_
   refine nq ?_
   refine rtn ?_
   refine q_then_ret ?_
   refine q_ret (hR := ?_)
   rw [hE]
   exact fun w hS => ⟨rfl, hS.sub slz_⟩
  ·
   have hfs := side_ok (s := first) h2
   have hs0 : sideBad first = false := h2
   refine skp ?_
   refine q_seq ?_
   refine sq ?_
   refine sr ?_
   iterate 3 refine ww ?_
   refine nq ?_
   refine czz (fun h3 => ?_) fun h3 => ?_
   ·
    have hE : playE f first xs = 2 := by
     have h' : decide ((600 : Int) < xs.length) = true := by rw [hlen]; exact h3
     simp only [playE, preE, hc0, hs0, h', cond_true, cond_false]; rfl
    refine sr ?_
    iterate 2 refine ww ?_
    refine nq ?_
    refine rtn ?_
    refine q_then_ret ?_
    refine q_ret (hR := ?_)
    rw [hE]
    exact fun w hS => ⟨rfl, hS.sub slz_⟩
   ·
    have hn6 : n ≤ 600 := by simp only [decide_eq_false_iff_not] at h3; omega
    have hp0 : preE f first xs.length = 0 := by
     have h' : decide ((600 : Int) < xs.length) = false := by rw [hlen]; exact h3
     simp only [preE, hc0, hs0, h', cond_false]
    refine skp ?_
    refine q_seq ?_
    refine sr ?_
    iterate 3 refine ww ?_
    refine cl (hc := fun w hS => C_score_begin f first hf (by omega) w) (h := fun x1 _ => ?_)
    refine ww ?_
    refine nq ?_
    refine sq ?_
    refine sr ?_
    iterate 3 refine ww ?_
    refine nq ?_
    refine bk ?_
    refine lp (X := PZ) (I := fun z => z.k ≤ n ∧ playTo f first xs z.k = some z.m ∧ z.m.Bd z.k) (le := fun z => [(9, .pointer (some ⟨x1.1, 0, none⟩)), (30, .slice A n c), (31, .int .i64 n), (32, .int .i64 z.k)]) (Le := fun z => z.m.ents z.a x1.1 ++ [.ro A 1 n (encI xs)]) (μ := fun z => n - z.k) ⟨0, beginV f first, x1.2⟩ ⟨Nat.zero_le _, rfl, beginV_bd hf hfs⟩ sbz_ slz_ (fun z hz => ?_)
    obtain ⟨hzk, hzr, hzb⟩ := hz
    refine sr ?_
    refine ww ?_
    refine nq ?_
    refine sq ?_
    refine czz (fun h4 => ?_) fun h4 => ?_
    ·
     have hkn : z.k < n := by simp only [decide_eq_true_eq] at h4; omega
     obtain ⟨s, hs⟩ : ∃ s, xs[z.k]? = some s := ⟨_, List.getElem?_eq_getElem (by omega)⟩
     have hse := encI_at hs
     have hstep := playTo_succ hzr hs
     refine skp ?_
     refine q_seq ?_
     refine sq ?_
     refine bk ?_
     refine sr ?_
     refine wy (ix (hb := by omega)) ?_
     refine wy (ldE (hk := hse)) ?_
     refine ww ?_
     refine nq ?_
     refine sq ?_
     refine sr ?_
     iterate 3 refine ww ?_
     apply brAnd 3 38 41 (by exact rfl)
     ·
      intro hb5
      iterate 2 refine uw ?_
      refine ww ?_
      exact mg (by repeat (first | exact trivial | refine ⟨rfl, ?_⟩ | refine ⟨by rw [hb5]; rfl, ?_⟩)) slz_
     ·
      intro hb5
      repeat (first | refine uz ?_ | refine kz ?_ | refine wz ?_)
      exact mg (by repeat (first | exact trivial | refine ⟨rfl, ?_⟩ | refine ⟨by rw [hb5]; rfl, ?_⟩)) slz_
     refine ww ?_
     apply brOr 7 42 49 (by exact rfl)
     ·
      intro hb6
      iterate 6 refine uw ?_
      refine ww ?_
      exact mg (by repeat (first | exact trivial | refine ⟨rfl, ?_⟩ | refine ⟨by rw [hb6]; rfl, ?_⟩)) slz_
     ·
      intro hb6
      repeat (first | refine uz ?_ | refine kz ?_ | refine wz ?_)
      exact mg (by repeat (first | exact trivial | refine ⟨rfl, ?_⟩ | refine ⟨by rw [hb6]; rfl, ?_⟩)) slz_
     refine nq ?_
     refine czz (fun h7 => ?_) fun h7 => ?_
     ·
      have hE : playE f first xs = 11 := by
       have h' : (sideBad s || decide (0 ≤ z.m.winner)) = true := h7
       rw [h'] at hstep
       have := playTo_none (k := xs.length) hstep (by omega)
       rw [playE, hp0, this]; rfl
      refine sr ?_
      iterate 2 refine ww ?_
      refine nq ?_
      refine rtn ?_
      refine q_then_ret ?_
      refine q_blk_ret ?_
      iterate 2 refine q_then_ret ?_
      refine q_blk_ret ?_
      refine q_then_ret ?_
      refine q_ret (hR := ?_)
      rw [hE]
      exact fun w hS => ⟨rfl, hS.sub slz_⟩
     ·
      have hnx : playTo f first xs (z.k + 1) = some (pointV z.m s) := by
       have h' : (sideBad s || decide (0 ≤ z.m.winner)) = false := h7
       rw [hstep, h']; rfl
      refine skp ?_
      refine q_seq ?_
      refine rg ?_
      iterate 2 refine ww ?_
      refine clT (hc := T_point z.m z.a x1.1 s z.k hzb) (h := fun x2 _ => ?_)
      refine nl ?_
      refine q_blk_norm ?_
      refine q_seq ?_
      refine rg ?_
      iterate 2 refine ww ?_
      refine nl ?_
      refine rn (x := z) ⟨z.k + 1, pointV z.m s, x2⟩ ⟨by dsimp only; omega, hnx, by have := pointV_bd (side := s) hzb (by omega); simpa using this⟩ (by dsimp only; omega) sbz_ slz_
    ·
     exfalso
     have hkn : z.k = n := by simp only [decide_eq_false_iff_not] at h4; omega
     rw [playO, hp0, hlen, ← hkn, hzr] at hO
     cases hO
set_option maxRecDepth 100000 in
theorem C_play_some (f : Fmt) (first : Int) (xs : List Int) (A : Option Addr) (n c : Nat) (w : World) (h : Rd w A 1 n (encI xs)) (hn : n ≤ 9223372036854775807) {m : MS} (hO : playO f first xs = some m) :
  CR Tryz.prog 52 [f.val, .int .i64 first, .slice A n c] w (fun _ : Nat × MA => True) (fun x => .tuple #[.pointer (some ⟨x.1, 0, none⟩), .int .i64 0]) (fun x => m.ents x.2 x.1) := by
 have hlen : xs.length = n := by have := h.len; rwa [encI_len] at this
 refine ⟨en Tryz.func52 Tryz.ntmps52 ((St.init w).share (e := .ro A 1 n (encI xs)) h rfl rfl rfl) (h := fun F => ?_)⟩
 refine sr ?_
 refine bxA (h := fun b0 => ?_)
 iterate 2 refine ww ?_
 refine nq ?_
 refine sq ?_
 refine sr ?_
 refine ww ?_
 refine cl0 (hc := fun w hS => C_score_Check _ w) (h := ?_)
 refine ww ?_
 refine nr ?_
 iterate 2 refine ww ?_
 refine nq ?_
 refine czz (fun h0 => ?_) fun h0 => ?_
 ·
  exfalso
  have hp : (!decide (preE f first xs.length = 0)) = true := by
   have h' : (!decide (chkF f = 0)) = true := h0
   simp only [preE, h', cond_true]
  rw [playO, hp] at hO
  cases hO
 ·
  have hf := chkF_ok h0
  have hc0 : (!decide (chkF f = 0)) = false := h0
  refine skp ?_
  refine q_seq ?_
  refine sq ?_
  refine sr ?_
  iterate 3 refine ww ?_
  apply brAnd 3 19 22 (by exact rfl)
  ·
   intro hb1
   iterate 2 refine uw ?_
   refine ww ?_
   exact mg (by repeat (first | exact trivial | refine ⟨rfl, ?_⟩ | refine ⟨by rw [hb1]; rfl, ?_⟩)) slz_
  ·
   intro hb1
   repeat (first | refine uz ?_ | refine kz ?_ | refine wz ?_)
   exact mg (by repeat (first | exact trivial | refine ⟨rfl, ?_⟩ | refine ⟨by rw [hb1]; rfl, ?_⟩)) slz_
  refine nq ?_
  refine czz (fun h2 => ?_) fun h2 => ?_
  ·
   exfalso
   have hp : (!decide (preE f first xs.length = 0)) = true := by
    have h' : sideBad first = true := h2
    simp only [preE, hc0, h', cond_true, cond_false]; rfl
   rw [playO, hp] at hO
   cases hO
  ·
   have hfs := side_ok (s := first) h2
   have hs0 : sideBad first = false := h2
   refine skp ?_
   refine q_seq ?_
   refine sq ?_
   refine sr ?_
   iterate 3 refine ww ?_
   refine nq ?_
   refine czz (fun h3 => ?_) fun h3 => ?_
   ·
    exfalso
    have hp : (!decide (preE f first xs.length = 0)) = true := by
     have h' : decide ((600 : Int) < xs.length) = true := by rw [hlen]; exact h3
     simp only [preE, hc0, hs0, h', cond_true, cond_false]; rfl
    rw [playO, hp] at hO
    cases hO
   ·
    have hn6 : n ≤ 600 := by simp only [decide_eq_false_iff_not] at h3; omega
    have hp0 : preE f first xs.length = 0 := by
     have h' : decide ((600 : Int) < xs.length) = false := by rw [hlen]; exact h3
     simp only [preE, hc0, hs0, h', cond_false]
    refine skp ?_
    refine q_seq ?_
    refine sr ?_
    iterate 3 refine ww ?_
    refine cl (hc := fun w hS => C_score_begin f first hf (by omega) w) (h := fun x1 _ => ?_)
    refine ww ?_
    refine nq ?_
    refine sq ?_
    refine sr ?_
    iterate 3 refine ww ?_
    refine nq ?_
    refine bk ?_
    refine lp (X := PZ) (I := fun z => z.k ≤ n ∧ playTo f first xs z.k = some z.m ∧ z.m.Bd z.k) (le := fun z => [(9, .pointer (some ⟨x1.1, 0, none⟩)), (30, .slice A n c), (31, .int .i64 n), (32, .int .i64 z.k)]) (Le := fun z => z.m.ents z.a x1.1 ++ [.ro A 1 n (encI xs)]) (μ := fun z => n - z.k) ⟨0, beginV f first, x1.2⟩ ⟨Nat.zero_le _, rfl, beginV_bd hf hfs⟩ sbz_ slz_ (fun z hz => ?_)
    obtain ⟨hzk, hzr, hzb⟩ := hz
    refine sr ?_
    refine ww ?_
    refine nq ?_
    refine sq ?_
    refine czz (fun h4 => ?_) fun h4 => ?_
    ·
     have hkn : z.k < n := by simp only [decide_eq_true_eq] at h4; omega
     obtain ⟨s, hs⟩ : ∃ s, xs[z.k]? = some s := ⟨_, List.getElem?_eq_getElem (by omega)⟩
     have hse := encI_at hs
     have hstep := playTo_succ hzr hs
     refine skp ?_
     refine q_seq ?_
     refine sq ?_
     refine bk ?_
     refine sr ?_
     refine wy (ix (hb := by omega)) ?_
     refine wy (ldE (hk := hse)) ?_
     refine ww ?_
     refine nq ?_
     refine sq ?_
     refine sr ?_
     iterate 3 refine ww ?_
     apply brAnd 3 38 41 (by exact rfl)
     ·
      intro hb5
      iterate 2 refine uw ?_
      refine ww ?_
      exact mg (by repeat (first | exact trivial | refine ⟨rfl, ?_⟩ | refine ⟨by rw [hb5]; rfl, ?_⟩)) slz_
     ·
      intro hb5
      repeat (first | refine uz ?_ | refine kz ?_ | refine wz ?_)
      exact mg (by repeat (first | exact trivial | refine ⟨rfl, ?_⟩ | refine ⟨by rw [hb5]; rfl, ?_⟩)) slz_
     refine ww ?_
     apply brOr 7 42 49 (by exact rfl)
     ·
      intro hb6
      iterate 6 refine uw ?_
      refine ww ?_
      exact mg (by repeat (first | exact trivial | refine ⟨rfl, ?_⟩ | refine ⟨by rw [hb6]; rfl, ?_⟩)) slz_
     ·
      intro hb6
      repeat (first | refine uz ?_ | refine kz ?_ | refine wz ?_)
      exact mg (by repeat (first | exact trivial | refine ⟨rfl, ?_⟩ | refine ⟨by rw [hb6]; rfl, ?_⟩)) slz_
     refine nq ?_
     refine czz (fun h7 => ?_) fun h7 => ?_
     ·
      exfalso
      have h' : (sideBad s || decide (0 ≤ z.m.winner)) = true := h7
      rw [h'] at hstep
      have := playTo_none (k := xs.length) hstep (by omega)
      rw [playO, hp0, this] at hO
      cases hO
     ·
      have hnx : playTo f first xs (z.k + 1) = some (pointV z.m s) := by
       have h' : (sideBad s || decide (0 ≤ z.m.winner)) = false := h7
       rw [hstep, h']; rfl
      refine skp ?_
      refine q_seq ?_
      refine rg ?_
      iterate 2 refine ww ?_
      refine clT (hc := T_point z.m z.a x1.1 s z.k hzb) (h := fun x2 _ => ?_)
      refine nl ?_
      refine q_blk_norm ?_
      refine q_seq ?_
      refine rg ?_
      iterate 2 refine ww ?_
      refine nl ?_
      refine rn (x := z) ⟨z.k + 1, pointV z.m s, x2⟩ ⟨by dsimp only; omega, hnx, by have := pointV_bd (side := s) hzb (by omega); simpa using this⟩ (by dsimp only; omega) sbz_ slz_
    ·
     have hkn : z.k = n := by simp only [decide_eq_false_iff_not] at h4; omega
     rw [playO, hp0, hlen, ← hkn, hzr] at hO
     obtain rfl : z.m = m := by simpa using hO
     refine et ?_
     iterate 2 refine q_then_exit ?_
     refine q_blk_hit ?_
     refine q_seq ?_
     refine sr ?_
     iterate 3 refine ww ?_
     refine nq ?_
     refine rtn ?_
     refine q_ret (hR := ?_)
     exact fun w hS => ⟨(x1.1, z.a), trivial, rfl, hS.sub slz_⟩

structure Sc where
 (st : List Pr) (g p : Pr) (server ends balls winner : Int)
def MS.sc (m : MS) : Sc := ⟨m.st, m.g, m.p, m.server, m.ends, m.balls, m.winner⟩
def scO (o : Option MS) : Sc := match o with | some m => m.sc | none => ⟨[], (0, 0), (0, 0), 0, 0, 0, 0⟩
abbrev Sc.cells (s : Sc) (A : Option Addr) (c : Nat) : List Value := [.slice A s.st.length c, .int .i64 s.g.1, .int .i64 s.g.2, .int .i64 s.p.1, .int .i64 s.p.2, .int .i64 s.server, .int .i64 s.ends, .int .i64 s.balls, .int .i64 s.winner]
abbrev Sc.val (s : Sc) (A : Option Addr) (c : Nat) : Value := .agg #[.slice A s.st.length c, .int .i64 s.g.1, .int .i64 s.g.2, .int .i64 s.p.1, .int .i64 s.p.2, .int .i64 s.server, .int .i64 s.ends, .int .i64 s.balls, .int .i64 s.winner]
theorem playE_none {f : Fmt} {first : Int} {xs : List Int} (h : playO f first xs = none) : ¬ playE f first xs = 0 := by
 unfold playO at h
 unfold playE
 cases hp : !decide (preE f first xs.length = 0)
 ·
  rw [hp] at h
  simp only [cond_false] at h ⊢
  rw [h]; decide
 ·
  simp only [cond_true]
  simpa using hp
theorem playE_some {f : Fmt} {first : Int} {xs : List Int} {m : MS} (h : playO f first xs = some m) : playE f first xs = 0 := by
 unfold playO at h
 unfold playE
 cases hp : !decide (preE f first xs.length = 0)
 ·
  rw [hp] at h
  simp only [cond_false] at h ⊢
  rw [h]
 ·
  rw [hp] at h; cases h

set_option maxRecDepth 100000 in
theorem C_score_Play_n (f : Fmt) (first : Int) (xs : List Int) (A : Option Addr) (n c : Nat) (w : World) (h : Rd w A 1 n (encI xs)) (hn : n ≤ 9223372036854775807) (hO : playO f first xs = none) :
  CR Tryz.prog 23 [f.val, .int .i64 first, .slice A n c] w (fun _ : Option Addr × Nat => True) (fun x => .tuple #[(scO (playO f first xs)).val x.1 x.2, .int .i64 (playE f first xs)]) (fun x => [.own x.1 x.2 73 2 (scO (playO f first xs)).st.length (encP (scO (playO f first xs)).st)]) := by
 have hE := playE_none hO
 rw [hO]
 refine ⟨en Tryz.func23 Tryz.ntmps23 ((St.init w).share (e := .ro A 1 n (encI xs)) h rfl rfl rfl) (h := fun F => ?_)⟩
 refine sr ?_
 refine bxA (h := fun b0 => ?_)
 refine al (h := fun b1 => ?_)
 refine ww ?_
 refine nr ?_
 iterate 3 refine ww ?_
 refine cl0 (hc := fun w hS => C_play_none f first xs A n c w (hS.get rdz_) hn hO) (h := ?_)
 iterate 5 refine ww ?_
 refine nq ?_
 iterate 2 refine sq ?_
 refine WC.nilOwn 73 2 (h := ?_)
 refine rg ?_
 iterate 2 refine ww ?_
 refine nq ?_
 refine czz (fun h0 => ?_) fun h0 => ?_
 ·
  refine sr ?_
  iterate 2 refine ww ?_
  first | refine stA (h := ?_) | refine stEA (h := ?_)
  refine ww ?_
  refine nq ?_
  refine rtn ?_
  refine q_then_ret ?_
  refine q_ret (hR := ?_)
  exact fun w hS => ⟨(none, 0), trivial, rfl, hS.sub slz_⟩
 ·
  exfalso
  simp at h0
  exact hE h0

set_option maxRecDepth 100000 in
theorem C_score_Play_s (f : Fmt) (first : Int) (xs : List Int) (A : Option Addr) (n c : Nat) (w : World) (h : Rd w A 1 n (encI xs)) (hn : n ≤ 9223372036854775807) {m : MS} (hO : playO f first xs = some m) :
  CR Tryz.prog 23 [f.val, .int .i64 first, .slice A n c] w (fun _ : Option Addr × Nat => True) (fun x => .tuple #[(scO (playO f first xs)).val x.1 x.2, .int .i64 (playE f first xs)]) (fun x => [.own x.1 x.2 73 2 (scO (playO f first xs)).st.length (encP (scO (playO f first xs)).st)]) := by
 have hE := playE_some hO
 rw [hE, hO]
 refine ⟨en Tryz.func23 Tryz.ntmps23 ((St.init w).share (e := .ro A 1 n (encI xs)) h rfl rfl rfl) (h := fun F => ?_)⟩
 refine sr ?_
 refine bxA (h := fun b0 => ?_)
 refine al (h := fun b1 => ?_)
 refine ww ?_
 refine nr ?_
 iterate 3 refine ww ?_
 refine cl (hc := fun w hS => C_play_some f first xs A n c w (hS.get rdz_) hn hO) (h := fun x _ => ?_)
 iterate 5 refine ww ?_
 refine nq ?_
 refine sq ?_
 refine sr ?_
 iterate 2 refine ww ?_
 refine nq ?_
 refine czz (fun h0 => ?_) fun h0 => ?_
 ·
  exact absurd h0 (by decide)
 ·
  refine skp ?_
  refine q_seq ?_
  refine sr ?_
  iterate 4 refine ww ?_
  first | refine stA (h := ?_) | refine stEA (h := ?_)
  refine ww ?_
  refine nq ?_
  refine rtn ?_
  refine q_ret (hR := ?_)
  exact fun w hS => ⟨(x.2.sA, x.2.sc), trivial, rfl, hS.sub slz_⟩

theorem C_score_Play (f : Fmt) (first : Int) (xs : List Int) (A : Option Addr) (n c : Nat) (w : World) (h : Rd w A 1 n (encI xs)) (hn : n ≤ 9223372036854775807) :
  CR Tryz.prog 23 [f.val, .int .i64 first, .slice A n c] w (fun _ : Option Addr × Nat => True) (fun x => .tuple #[(scO (playO f first xs)).val x.1 x.2, .int .i64 (playE f first xs)]) (fun x => [.own x.1 x.2 73 2 (scO (playO f first xs)).st.length (encP (scO (playO f first xs)).st)]) := by
 cases hO : playO f first xs with
 | none => have := C_score_Play_n f first xs A n c w h hn hO; rwa [hO] at this
 | some m => have := C_score_Play_s f first xs A n c w h hn hO; rwa [hO] at this

end Go.Proofs.YthkliiifllhacaaGreat

namespace Go.Proofs.YthkliiifllhacaaGreat
open Go Go.RowKit

end Go.Proofs.YthkliiifllhacaaGreat

namespace Go.Proofs.YthkliiifllhacaaGreat
open Go Go.RowKit

end Go.Proofs.YthkliiifllhacaaGreat

namespace Go.Proofs.YthkliiifllhacaaGreat
open Go Go.RowKit

structure Brd where
 (st : List Pr) (g p : Pr)
abbrev Brd.val (b : Brd) (A : Option Addr) (n c : Nat) : Value := .agg #[.slice A n c, .int .i64 b.g.1, .int .i64 b.g.2, .int .i64 b.p.1, .int .i64 b.p.2]
abbrev Brd.cells (b : Brd) (A : Option Addr) (n c : Nat) : List Value := [.slice A n c, .int .i64 b.g.1, .int .i64 b.g.2, .int .i64 b.p.1, .int .i64 b.p.2]
def Brd.all (b : Brd) : List Pr := b.st ++ [b.g, b.p]
end Go.Proofs.YthkliiifllhacaaGreat

namespace Go.Proofs.YthkliiifllhacaaGreat
open Go Go.RowKit

abbrev i2 : List Sp := [.int .i64, .int .i64]
end Go.Proofs.YthkliiifllhacaaGreat

namespace Go.Proofs.YthkliiifllhacaaGreat
open Go Go.RowKit

def Stm (es : Array MapEntry) (c : Nat) : Prop := (es.toList.map (·.born)).Nodup ∧ ∀ e ∈ es.toList, e.born < c
theorem stm0 : Stm #[] 0 := ⟨List.nodup_nil, fun e he => by simp at he⟩
theorem stm_push {es : Array MapEntry} {c : Nat} (h : Stm es c) (k v : Value) : Stm (es.push { key := k, val := v, born := c }) (c + 1) := by
 constructor
 ·
  rw [Array.toList_push, List.map_append, List.map_cons, List.map_nil, List.nodup_append]
  refine ⟨h.1, List.nodup_cons.2 ⟨by simp, List.nodup_nil⟩, fun a ha b hb => ?_⟩
  obtain ⟨e, he, rfl⟩ := List.mem_map.1 ha
  rw [List.mem_singleton] at hb
  have h3 := h.2 e he
  rw [hb]
  intro e2
  exact absurd e2 (Nat.ne_of_lt h3)
 ·
  intro e he
  rw [Array.toList_push, List.mem_append, List.mem_singleton] at he
  rcases he with he | rfl
  ·
   have := h.2 e he; omega
  ·
   exact Nat.lt_succ_self _
theorem stm_mod {es : Array MapEntry} {c : Nat} (h : Stm es c) (j : Nat) (k v : Value) : Stm (es.modify j fun e => { e with key := k, val := v }) c := by
 have hb : (es.modify j fun e => { e with key := k, val := v }).toList.map (·.born) = es.toList.map (·.born) := by
  rw [Array.toList_modify]
  refine List.ext_getElem? fun i => ?_
  rw [List.getElem?_map, List.getElem?_map, List.getElem?_modify]
  by_cases e : j = i
  ·
   subst e; simp only [if_pos]; cases es.toList[j]? <;> rfl
  ·
   simp only [if_neg e]; cases es.toList[i]? <;> rfl
 refine ⟨by rw [hb]; exact h.1, fun e he => ?_⟩
 have : e.born ∈ es.toList.map (·.born) := hb ▸ List.mem_map.2 ⟨e, he, rfl⟩
 obtain ⟨e', he', e2⟩ := List.mem_map.1 this
 have := h.2 e' he'
 omega

section rules
variable {F : Fence} {P : Program} {ops : Array Oper} {Q : Exit → Act → World → Prop} {rest : List Oper} {n : Nat} {D : List Deferred} {l : Env} {w0 : World} {L M : List Ent}
variable {d : Nat} {ty : TypeId} {pos : String} {aft : Array Edge}

theorem run_updateS {t kt e : TypeId} {ks : List Bool} (hT : MapTy P t kt e) (hK : FlatTy P kt ks) {w : World} {b : Nat} {es : Array MapEntry} {c : Nat} (hb : w.heap[b]? = some (.map es c)) {kv : List (List Fl × Value)} (hm : MapIs es kv) (hs : ∀ p ∈ kv, shapeOf p.1 = ks) {k : List Fl} (hk : shapeOf k = ks) (v : Value) (hst0 : Stm es c) :
  ∃ es' c', (Instr.mapUpdate t (.map (some b)) (.agg (fv k).toArray) v).run P w = .ok () (w.putObj b (.map es' c')) ∧ MapIs es' (updM kv k v) ∧ Stm es' c' := by
 obtain ⟨r, hr, hc⟩ := run_findKey hK hk es.toList kv w hm hs
 have hck := fun em => checkKeyF em 8 kt ks hK.flt 9992 k w hk
 simp only [fval, hK.agg, cond_true] at hck
 have hck' : ∀ em, (Instr.checkKey em 10000 kt (.agg (fv k).toArray)).run P w = .ok () w := hck
 unfold Instr.mapUpdate
 simp only [Sem.run_bind, run_underlying hT.und, Result.andThen_ok, getMap hb, Sem.run_pure, hck', hr]
 rcases hc with ⟨rfl, h1, h2⟩ | ⟨j, u, e', rfl, h1, h3, h4, h5⟩
 ·
  refine ⟨_, _, putMap _ hb, ?_, stm_push hst0 _ _⟩
  have hm' : es.toList.map (fun e => (e.key, e.val)) = kv.map fun p => (Value.agg (fv p.1).toArray, p.2) := hm
  simp only [MapIs, h2, Array.toList_push, List.map_append, hm', List.map_cons, List.map_nil]
 ·
  have hj : es[j]? = some e' := by simpa using h3
  have hjl : j < es.size := (Array.getElem?_eq_some_iff.1 hj).1
  have hst : (Instr.keyThatStays (.agg (fv k).toArray) (.agg (fv k).toArray)).run P w = .ok (.agg (fv k).toArray) w := by
   simp [Instr.keyThatStays, sameBits_flat]
  simp only [hj, Option.map_some, Option.getD_some, h4, Sem.run_bind, hst, Result.andThen_ok]
  refine ⟨_, _, putMap _ hb, ?_, stm_mod hst0 _ _ _⟩
  have he : (es.modify j fun e => { e with key := .agg (fv k).toArray, val := v }).toList = es.toList.set j { e' with val := v } := by
   rw [Array.toList_modify]
   refine List.ext_getElem? fun i => ?_
   rw [List.getElem?_modify, List.getElem?_set]
   by_cases e : j = i
   ·
    subst e
    have : es.toList[j]? = some e' := h3
    rw [this]
    simp [hjl, ← h4]
   ·
    simp [e]
  rw [MapIs, he]
  exact h5 v
theorem mupS {m x y : Operand} {t kt e : TypeId} {ks : List Bool} (hT : MapTy P t kt e := by infer_instance) (hK : FlatTy P kt ks := by infer_instance) {b : Nat} {es : Array MapEntry} {c : Nat} {kv : List (List Fl × Value)} {cs : List Value} {k : List Fl} {v : Value}
  (hm : MapIs es kv) (hs : ∀ p ∈ kv, shapeOf p.1 = ks) (hst0 : Stm es c) (hx : ev l m = some (.map (some b)) := by exact rfl) (hy : ev l x = some (.agg cs.toArray) := by exact rfl) (hv : ev l y = some v := by exact rfl) (hl : FlL cs k := by repeat (first | exact FlL.nil | apply FlL.int | apply FlL.bool)) (hk : shapeOf k = ks := by rfl)
  (ha : At L (.obj b (.map es c)) M := by repeat (first | exact At.here | apply At.there)) (h : ∀ es' c', MapIs es' (updM kv k v) → Stm es' c' → WL F P ops Q rest n D l w0 (.obj b (.map es' c') :: M)) : WL F P ops Q (⟨none, .mapUpdate t m x y, ty, pos, aft, none⟩ :: rest) n D l w0 L := by
 intro hF a w hfr hst
 have hst1 := hst.pull ha
 obtain ⟨es', c', hr, hm', hs'⟩ := run_updateS (P := P) hT hK hst1.objAt hm hs hk v hst0
 rw [← hl.out] at hr
 have he : (execOp a.eval ⟨none, .mapUpdate t m x y, ty, pos, aft, none⟩).run P w = .ok .skip (w.putObj b (.map es' c')) := by
  simp [execOp, hfr.eval hx, hfr.eval hy, hfr.eval hv, hr]
 show (if _ then _ else _)
 rw [if_pos (by simp [Region.wanted])]
 refine ⟨fun f _ => hF.fn f, ?_⟩
 rw [semAt_plain (by simp), he]
 exact h es' c' hm' hs' hF _ _ (hfr.put_none (.bool true)) (hst1.putObj _)

abbrev KV := Value × Value
def kvOf (e : MapEntry) : KV := (e.key, e.val)
def LastIs (es : Array MapEntry) (seen : Array Nat) (last : Option KV) : Prop := ∀ kv, last = some kv → ∃ (seen' : Array Nat) (e : MapEntry), seen = seen'.push e.born ∧ e ∈ es.toList ∧ kvOf e = kv
def itE (r b : Nat) (es : Array MapEntry) (c : Nat) (todo : List KV) (last : Option KV) : Ent := .gen true true (fun k => k = r) (fun w => ∃ seen, w.heap[r]? = some (.mapIter (some b) c seen c) ∧ todo.Perm ((leftOf es seen).toList.map kvOf) ∧ LastIs es seen last)
 (fun w w' hb ⟨seen, h1, h2⟩ => ⟨seen, (hb r rfl).trans h1, h2⟩) (fun w k ⟨seen, h1, _⟩ hk => by subst hk; exact heap_lt h1)
def roM (b : Nat) (es : Array MapEntry) (c : Nat) : Ent := .gen true false (fun k => k = b) (fun w => w.heap[b]? = some (.map es c)) (fun w w' hb h => (hb b rfl).trans h) (fun w k h hk => by subst hk; exact heap_lt h)
theorem St.toRoM {w0 w : World} {M : List Ent} {b : Nat} {es : Array MapEntry} {c : Nat} (h : St w0 w (.obj b (.map es c) :: M)) : St w0 w (roM b es c :: M) := by
 have hp := List.pairwise_cons.1 h.sep
 refine ⟨h.below, fun x hx => ?_, fun x hx hf k hk => ?_, List.pairwise_cons.2 ⟨fun x hx _ k hk hk' => hp.1 x hx (.inl rfl) k hk hk', hp.2⟩⟩
 ·
  rcases List.mem_cons.1 hx with rfl | hx
  ·
   exact h.ok (.obj b (.map es c)) (by simp)
  ·
   exact h.ok x (by simp [hx])
 ·
  rcases List.mem_cons.1 hx with rfl | hx
  ·
   exact h.new (.obj b (.map es c)) (by simp) rfl k hk
  ·
   exact h.new x (by simp [hx]) hf k hk
theorem St.dupM {w0 w : World} {M : List Ent} {b : Nat} {es : Array MapEntry} {c : Nat} (h : St w0 w (roM b es c :: M)) : St w0 w (roM b es c :: roM b es c :: M) := by
 have hp := List.pairwise_cons.1 h.sep
 refine ⟨h.below, fun x hx => ?_, fun x hx hf k hk => ?_, List.pairwise_cons.2 ⟨fun x hx ho k hk hk' => ?_, h.sep⟩⟩
 ·
  rcases List.mem_cons.1 hx with rfl | hx
  ·
   exact h.ok _ (by simp)
  ·
   exact h.ok x hx
 ·
  rcases List.mem_cons.1 hx with rfl | hx
  ·
   exact h.new _ (by simp) hf k hk
  ·
   exact h.new x hx hf k hk
 ·
  rcases List.mem_cons.1 hx with rfl | hx
  ·
   rcases ho with h1 | h1 <;> cases h1
  ·
   exact hp.1 x hx ho k hk hk'
theorem left_none (es : Array MapEntry) : leftOf es #[] = es := by
 unfold leftOf
 exact Array.filter_eq_self.2 fun a _ => by simp
theorem rngM {x : Operand} {t kt e : TypeId} (hT : MapTy P t kt e := by infer_instance) {b : Nat} {es : Array MapEntry} {c : Nat} (hx : ev l x = some (.map (some b)) := by exact rfl) (ha : At L (roM b es c) M := by repeat (first | exact At.here | apply At.there)) (hd : Nat.blt d n = true := by rfl)
  (h : ∀ r, WL F P ops Q rest n D ((d, .pointer (some ⟨r, 0, none⟩)) :: l) w0 (itE r b es c (es.toList.map kvOf) none :: L)) : WL F P ops Q (⟨some d, .range t x, ty, pos, aft, none⟩ :: rest) n D l w0 L :=
 WL.value (X := Nat) (φ := fun _ => True) (val := fun r => .pointer (some ⟨r, 0, none⟩)) (L' := fun r => itE r b es c (es.toList.map kvOf) none :: L) (by simp) hd (fun a w hfr hst => by
  have hb : w.heap[b]? = some (.map es c) := hst.ok (roM b es c) ha.mem
  have hr := run_range_map (P := P) w t kt e b es c hT.und hb
  have hs := hst.allocObj (.mapIter (some b) c #[] c)
  refine ⟨w.heap.size, _, trivial, by simp [execOp, hfr.eval hx, hr]; rfl, ?_⟩
  refine hs.turn (e' := itE _ b es c _ none) rfl (fun _ _ _ => rfl) rfl rfl rfl (Nat.le_refl _) ⟨#[], ?_, ?_, fun kv h => (by cases h)⟩ (fun k hk => .inl hk)
  ·
   exact heap_alloc_new w _
  ·
   rw [left_none]) (fun r _ => h r)
theorem WC.toRoM {c0 : Code} {b : Nat} {es : Array MapEntry} {c : Nat} (ha : At L (.obj b (.map es c)) M) (h : WC F P c0 Q n D l w0 (roM b es c :: M)) : WC F P c0 Q n D l w0 L := fun hF a w hfr hst => h hF a w hfr (hst.pull ha).toRoM
theorem WL.toRoM {b : Nat} {es : Array MapEntry} {c : Nat} (ha : At L (.obj b (.map es c)) M) (h : WL F P ops Q rest n D l w0 (roM b es c :: M)) : WL F P ops Q rest n D l w0 L := fun hF a w hfr hst => h hF a w hfr (hst.pull ha).toRoM
theorem WC.dupM {c0 : Code} {b : Nat} {es : Array MapEntry} {c : Nat} (ha : At L (roM b es c) M) (h : WC F P c0 Q n D l w0 (roM b es c :: roM b es c :: M)) : WC F P c0 Q n D l w0 L := fun hF a w hfr hst => h hF a w hfr (hst.pull ha).dupM
def nxV : Option KV → Value
 | none => .tuple #[.bool false]
 | some kv => .tuple #[.bool true, kv.1, kv.2]
def NxO (todo : List KV) (o : Option KV) (todo' : List KV) : Prop := match o with
 | none => todo = [] ∧ todo' = []
 | some kv => todo.Perm (kv :: todo')
theorem born_apart {es : List MapEntry} (h : (es.map (·.born)).Nodup) {a b : MapEntry} (ha : a ∈ es) (hb : b ∈ es) (e : a.born = b.born) : a = b := by
 induction es with
 | nil => cases ha
 | cons x es ih =>
  rw [List.map_cons, List.nodup_cons] at h
  rcases List.mem_cons.1 ha with h1 | h1
  ·
   rcases List.mem_cons.1 hb with h2 | h2
   ·
    rw [h1, h2]
   ·
    exact absurd (List.mem_map.2 ⟨b, h2, by rw [← e, h1]⟩) h.1
  ·
   rcases List.mem_cons.1 hb with h2 | h2
   ·
    exact absurd (List.mem_map.2 ⟨a, h1, by rw [e, h2]⟩) h.1
   ·
    exact ih h.2 h1 h2
theorem nodup_of_born {es : List MapEntry} (h : (es.map (·.born)).Nodup) : es.Nodup := by
 induction es with
 | nil => exact List.nodup_nil
 | cons x es ih =>
  rw [List.map_cons, List.nodup_cons] at h
  exact List.nodup_cons.2 ⟨fun hm => h.1 (List.mem_map.2 ⟨x, hm, rfl⟩), ih h.2⟩
theorem left_perm {es : Array MapEntry} (h : (es.toList.map (·.born)).Nodup) {seen : Array Nat} {e : MapEntry} (he : e ∈ (leftOf es seen).toList) : (leftOf es seen).toList.Perm (e :: (leftOf es (seen.push e.born)).toList) := by
 have hnd : (leftOf es seen).toList.Nodup := by
  have : es.toList.Nodup := nodup_of_born h
  unfold leftOf
  rw [Array.toList_filter]
  exact this.filter _
 obtain ⟨hem, hes⟩ := mem_left he
 have hnd2 : (leftOf es (seen.push e.born)).toList.Nodup := by
  have : es.toList.Nodup := nodup_of_born h
  unfold leftOf
  rw [Array.toList_filter]
  exact this.filter _
 have hm : ∀ x : MapEntry, x ∈ (leftOf es (seen.push e.born)).toList ↔ x ∈ es.toList ∧ seen.contains x.born = false ∧ x.born ≠ e.born := fun x => by
  unfold leftOf
  rw [Array.toList_filter, List.mem_filter, contains_push]
  simp
 have hm0 : ∀ x : MapEntry, x ∈ (leftOf es seen).toList ↔ x ∈ es.toList ∧ seen.contains x.born = false := fun x => by
  unfold leftOf
  rw [Array.toList_filter, List.mem_filter]
  simp
 refine (List.perm_ext_iff_of_nodup hnd (List.nodup_cons.2 ⟨fun h2 => ((hm e).1 h2).2.2 rfl, hnd2⟩)).2 fun x => ?_
 rw [hm0, List.mem_cons, hm]
 constructor
 ·
  rintro ⟨h1, h2⟩
  by_cases e2 : x.born = e.born
  ·
   exact .inl (born_apart h h1 hem e2)
  ·
   exact .inr ⟨h1, h2, e2⟩
 ·
  rintro (rfl | ⟨h1, h2, _⟩)
  ·
   exact ⟨hem, hes⟩
  ·
   exact ⟨h1, h2⟩
theorem nxtM {x : Operand} {r b : Nat} {es : Array MapEntry} {c : Nat} {todo : List KV} {last : Option KV} {M' : List Ent} (hs : Stm es c) (hx : ev l x = some (.pointer (some ⟨r, 0, none⟩)) := by exact rfl) (ha : At L (itE r b es c todo last) M := by repeat (first | exact At.here | apply At.there)) (hb : At M (roM b es c) M' := by repeat (first | exact At.here | apply At.there)) (hd : Nat.blt d n = true := by rfl)
  (h : ∀ o todo', NxO todo o todo' → WL F P ops Q rest n D ((d, nxV o) :: l) w0 (itE r b es c todo' o :: M)) : WL F P ops Q (⟨some d, .next x false, ty, pos, aft, none⟩ :: rest) n D l w0 L :=
 WL.value (X := Option KV × List KV) (φ := fun p => NxO todo p.1 p.2) (val := fun p => nxV p.1) (L' := fun p => itE r b es c p.2 p.1 :: M) (by simp) hd (fun a w hfr hst => by
  have hst1 := hst.pull ha
  obtain ⟨seen, h1, h2, h2'⟩ := hst1.ok (itE r b es c todo last) (by simp)
  have h3 : w.heap[b]? = some (.map es c) := hst1.ok (roM b es c) (by simp [hb.mem])
  rcases run_next_at (P := P) w ty r b c c seen es c h1 h3 hs.2 (Nat.le_refl _) with ⟨h0, hrun⟩ | ⟨e, he, w1, hal, hrun⟩
  ·
   have hnil : todo = [] := by
    have : (leftOf es seen).toList = [] := by
     rw [← Array.length_toList] at h0
     exact List.eq_nil_of_length_eq_zero h0
    rw [this, List.map_nil] at h2
    exact h2.eq_nil
   subst hnil
   refine ⟨(none, []), w, ⟨rfl, rfl⟩, ?_, hst1.turn (e' := itE r b es c [] none) rfl (fun _ _ _ => rfl) rfl rfl rfl (Nat.le_refl _) ⟨seen, h1, h2, fun kv h => (by cases h)⟩ (fun k hk => .inl hk)⟩
   simp [execOp, hfr.eval hx, hrun, nxV]
  ·
   have hp := left_perm hs.1 he
   have hem := (mem_left he).1
   have hr1 : w1.heap[r]? = some (.mapIter (some b) c seen c) := by rcases hal with rfl | rfl <;> exact h1
   refine ⟨(some (kvOf e), (leftOf es (seen.push e.born)).toList.map kvOf), _, h2.trans (hp.map kvOf), by simp [execOp, hfr.eval hx, hrun, nxV, kvOf]; rfl, ?_⟩
   have hset := MapKept.heap_set (o' := .mapIter (some b) c (seen.push e.born) c) hr1
   have hw : w1.heap = w.heap ∧ w1.os = w.os ∧ w1.tape = w.tape ∧ w1.output = w.output ∧ w.drawn ≤ w1.drawn := by
    rcases hal with rfl | rfl
    ·
     exact ⟨rfl, rfl, rfl, rfl, Nat.le_refl _⟩
    ·
     exact ⟨rfl, rfl, rfl, rfl, Nat.le_succ _⟩
   refine hst1.turn (w' := ChangeMaps.setBlock w1 r _) (e' := itE r b es c _ (some (kvOf e))) rfl (fun k _ hk => ?_) hw.2.1 hw.2.2.1 hw.2.2.2.1 (by show w.heap.size ≤ (w1.heap.setIfInBounds r _).size; rw [Array.size_setIfInBounds, hw.1]; exact Nat.le_refl _) ⟨seen.push e.born, hset.1, .refl _, fun kv hkv => ⟨seen, e, rfl, hem, Option.some.inj hkv⟩⟩ (fun k hk => .inl hk) hw.2.2.2.2
   rw [← hw.1]; exact hset.2 k (fun e => hk e)) (fun p hp => h p.1 p.2 hp)
theorem entM {x : Operand} {r b : Nat} {es : Array MapEntry} {c : Nat} {todo : List KV} {kv : KV} {M' : List Ent} (hs : Stm es c) (hx : ev l x = some (.pointer (some ⟨r, 0, none⟩)) := by exact rfl) (ha : At L (itE r b es c todo (some kv)) M := by repeat (first | exact At.here | apply At.there)) (hb : At L (roM b es c) M' := by repeat (first | exact At.here | apply At.there)) : Yd P n D l w0 L (.entry x) (.tuple #[kv.1, kv.2]) :=
 ⟨by simp, by simp, fun oo ho ac w hfr hst => by
  obtain ⟨seen, h1, _, h3⟩ := hst _ ha.mem
  have h4 : w.heap[b]? = some (.map es c) := hst _ hb.mem
  obtain ⟨seen', e, rfl, he, rfl⟩ := h3 kv rfl
  have hr := run_entry_at (P := P) w r b c seen' es c e h1 h4 he hs.1
  simp [execOp, ho, hfr.eval hx, hr, kvOf]⟩
theorem exN {x : Operand} {o : Option KV} (hx : ev l x = some (nxV o) := by exact rfl) : Yd P n D l w0 L (.extract x 0) (.bool o.isSome) :=
 ⟨by simp, by simp, fun oo ho ac w hfr _ => by
  cases o <;> simp [execOp, ho, hfr.eval hx, nxV] <;> rfl⟩
end rules

section
variable {w0 w : World} {M : List Ent} {e e1 e2 : Ent}
theorem St.split (h : St w0 w (e :: M)) (hx : e.excl = true) (h1 : e1.ok w) (h2 : e2.ok w) (f1 : ∀ k, e1.fp k → e.fp k) (f2 : ∀ k, e2.fp k → e.fp k) (hd : ∀ k, e1.fp k → e2.fp k → False) : St w0 w (e1 :: e2 :: M) := by
 have hp := List.pairwise_cons.1 h.sep
 refine ⟨h.below, fun x hxm => ?_, fun x hxm hf b hb => ?_, List.pairwise_cons.2 ⟨fun x hxm _ b hb hb' => ?_, List.pairwise_cons.2 ⟨fun x hxm _ b hb hb' => ?_, hp.2⟩⟩⟩
 ·
  rcases List.mem_cons.1 hxm with rfl | hxm
  ·
   exact h1
  rcases List.mem_cons.1 hxm with rfl | hxm
  ·
   exact h2
  ·
   exact h.ok x (by simp [hxm])
 ·
  rcases List.mem_cons.1 hxm with rfl | hxm
  ·
   exact h.new e (by simp) (Ent.fresh_of_excl hx) b (f1 b hb)
  rcases List.mem_cons.1 hxm with rfl | hxm
  ·
   exact h.new e (by simp) (Ent.fresh_of_excl hx) b (f2 b hb)
  ·
   exact h.new x (by simp [hxm]) hf b hb
 ·
  rcases List.mem_cons.1 hxm with rfl | hxm
  ·
   exact hd b hb hb'
  ·
   exact hp.1 x hxm (.inl hx) b (f1 b hb) hb'
 ·
  exact hp.1 x hxm (.inl hx) b (f2 b hb) hb'
theorem St.fuse (h : St w0 w (e1 :: e2 :: M)) (x1 : e1.excl = true) (x2 : e2.excl = true) (ho : e.ok w) (hf : ∀ k, e.fp k → e1.fp k ∨ e2.fp k) : St w0 w (e :: M) := by
 have hp := List.pairwise_cons.1 h.sep
 have hp2 := List.pairwise_cons.1 hp.2
 refine ⟨h.below, fun x hxm => ?_, fun x hxm hf' b hb => ?_, List.pairwise_cons.2 ⟨fun x hxm _ b hb hb' => ?_, hp2.2⟩⟩
 ·
  rcases List.mem_cons.1 hxm with rfl | hxm
  ·
   exact ho
  ·
   exact h.ok x (by simp [hxm])
 ·
  rcases List.mem_cons.1 hxm with rfl | hxm
  ·
   rcases hf b hb with h1 | h1
   ·
    exact h.new e1 (by simp) (Ent.fresh_of_excl x1) b h1
   ·
    exact h.new e2 (by simp) (Ent.fresh_of_excl x2) b h1
  ·
   exact h.new x (by simp [hxm]) hf' b hb
 ·
  rcases hf b hb with h1 | h1
  ·
   exact hp.1 x (by simp [hxm]) (.inl x1) b h1 hb'
  ·
   exact hp2.1 x hxm (.inl x2) b h1 hb'
end
end Go.Proofs.YthkliiifllhacaaGreat

namespace Go.Proofs.YthkliiifllhacaaGreat
open Go Go.RowKit

end Go.Proofs.YthkliiifllhacaaGreat

namespace Go.Proofs.YthkliiifllhacaaGreat
open Go Go.RowKit

end Go.Proofs.YthkliiifllhacaaGreat

namespace Go.Proofs.YthkliiifllhacaaGreat
open Go Go.RowKit

end Go.Proofs.YthkliiifllhacaaGreat

namespace Go.Proofs.YthkliiifllhacaaGreat
open Go Go.RowKit

end Go.Proofs.YthkliiifllhacaaGreat

namespace Go.Proofs.YthkliiifllhacaaGreat
open Go Go.RowKit

end Go.Proofs.YthkliiifllhacaaGreat

namespace Go.Proofs.YthkliiifllhacaaGreat
open Go Go.RowKit

end Go.Proofs.YthkliiifllhacaaGreat

namespace Go.Proofs.YthkliiifllhacaaGreat
open Go Go.RowKit

instance : DecidableEq Brd := fun a b => by
 cases a; cases b
 simp only [Brd.mk.injEq]
 infer_instance
def exF : Fmt := ⟨2, 2, false, 2, 3, 0, 4, 2, 2, false⟩
def exP : List Int := [0, 0, 0, 0, 1, 1, 1, 1, 0, 0, 0, 0, 0, 0, 0, 0, 1, 1, 1, 1]
theorem C_law1_Example (w : World) : CR Tryz.prog 66 [] w (fun _ : Option Addr × Nat => True) (fun x => .tuple #[exF.val, .slice x.1 20 x.2]) (fun x => [.own x.1 x.2 3 1 20 (encI exP)]) := by
 refine ⟨en Tryz.func66 Tryz.ntmps66 (St.init w) (h := fun F => ?_)⟩
 refine sr ?_
 refine al (h := fun b0 => ?_)
 refine ww ?_
 refine nr ?_
 refine ww ?_
 refine al (h := fun b1 => ?_)
 first | refine stA (h := ?_) | refine stEA (h := ?_)
 refine nr ?_
 refine ww ?_
 refine bs (h := fun b2 => ?_)
 first | refine stA (h := ?_) | refine stEA (h := ?_)
 refine ww ?_
 refine nq ?_
 refine rtn ?_
 refine q_ret (hR := ?_)
 exact fun w hS => ⟨(_, _), trivial, rfl, hS.sub slz_⟩
end Go.Proofs.YthkliiifllhacaaGreat

namespace Go.Proofs.YthkliiifllhacaaGreat
open Go Go.RowKit

end Go.Proofs.YthkliiifllhacaaGreat

namespace Go.Proofs.YthkliiifllhacaaGreat
open Go Go.RowKit

def wside (p : Pr) : Int := bif decide (p.2 < p.1) then 0 else 1
def wonTo (l : List Pr) : Nat → Pr
 | 0 => (0, 0)
 | k + 1 => match l[k]? with
  | some p => addV (wonTo l k) (wside p)
  | none => wonTo l k
def wonV (l : List Pr) : Pr := wonTo l l.length
theorem wonTo_succ {l : List Pr} {k : Nat} {p : Pr} (h : l[k]? = some p) : wonTo l (k + 1) = addV (wonTo l k) (wside p) := by rw [wonTo, h]
theorem wonTo_bd (l : List Pr) : ∀ k, (0 ≤ (wonTo l k).1 ∧ (wonTo l k).1 ≤ (k : Int)) ∧ 0 ≤ (wonTo l k).2 ∧ (wonTo l k).2 ≤ (k : Int)
 | 0 => by simp [wonTo]
 | k + 1 => by
  have ih := wonTo_bd l k
  rw [wonTo]
  cases l[k]? with
  | none => dsimp only; omega
  | some p => have := addV_bd (side := wside p) ih; simpa using this
theorem wonTo_app (l : List Pr) (p : Pr) : ∀ k, k ≤ l.length → wonTo (l ++ [p]) k = wonTo l k
 | 0, _ => rfl
 | k + 1, hk => by rw [wonTo, wonTo, wonTo_app l p k (by omega), List.getElem?_append_left (by omega)]
theorem wonV_app (l : List Pr) (p : Pr) : wonV (l ++ [p]) = addV (wonV l) (wside p) := by
 unfold wonV
 have hl : (l ++ [p]).length = l.length + 1 := by simp
 rw [hl, wonTo_succ (p := p) (by simp), wonTo_app l p _ (Nat.le_refl _)]
structure WZ where
 (k : Nat) (p : Pr)
def turnR (tie : Bool) (pt : Int) : Int := bif tie then (pt + 1) / 2 else 0
def befTo (first side : Int) : Nat → Int
 | 0 => 0
 | k + 1 => bif decide ((first + (k : Int)) % 2 = side) then befTo first side k + 1 else befTo first side k
def servR (f : Fmt) (first : Int) (game : Nat) (tie : Bool) (pt : Int) : Int :=
 bif !f.dbl then (first + game + turnR tie pt) % 2 else (first + game + turnR tie pt) % 2 + 2 * ((befTo first ((first + game + turnR tie pt) % 2) game + turnR tie pt / 2) % 2)
end Go.Proofs.YthkliiifllhacaaGreat

namespace Go.Proofs.YthkliiifllhacaaGreat
open Go Go.RowKit

structure RS where
 (st : List Pr) (g p : Pr) (server ends balls winner first : Int) (gs : List Gm) (fresh : Bool)
abbrev RS.cells (r : RS) (sA : Option Addr) (sc : Nat) (gA : Option Addr) (gc : Nat) : List Value := [.slice sA r.st.length sc, .int .i64 r.g.1, .int .i64 r.g.2, .int .i64 r.p.1, .int .i64 r.p.2, .int .i64 r.server, .int .i64 r.ends, .int .i64 r.balls, .int .i64 r.winner, .int .i64 r.first, .slice gA r.gs.length gc, .bool r.fresh]
abbrev RS.val (r : RS) (sA : Option Addr) (sc : Nat) (gA : Option Addr) (gc : Nat) : Value := .agg #[.slice sA r.st.length sc, .int .i64 r.g.1, .int .i64 r.g.2, .int .i64 r.p.1, .int .i64 r.p.2, .int .i64 r.server, .int .i64 r.ends, .int .i64 r.balls, .int .i64 r.winner, .int .i64 r.first, .slice gA r.gs.length gc, .bool r.fresh]
structure RS.Bd (r : RS) (K : Int) : Prop where
 k : 0 ≤ K ∧ K ≤ 990
 fst : 0 ≤ r.first ∧ r.first ≤ 1
 g : (0 ≤ r.g.1 ∧ r.g.1 ≤ K) ∧ 0 ≤ r.g.2 ∧ r.g.2 ≤ K
 p : (0 ≤ r.p.1 ∧ r.p.1 ≤ K) ∧ 0 ≤ r.p.2 ∧ r.p.2 ≤ K
 e : 0 ≤ r.ends ∧ r.ends ≤ K
 b : 0 ≤ r.balls ∧ r.balls ≤ K + 1
 s : (r.st.length : Int) ≤ K
 gs : (r.gs.length : Int) ≤ K
end Go.Proofs.YthkliiifllhacaaGreat
