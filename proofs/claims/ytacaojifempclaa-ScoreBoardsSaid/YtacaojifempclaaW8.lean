/- Rules for a range over a function: the iterator's contract, the round, the statement, the way out; plain laws, no program is named here. -/
import Derived.Test.YtacaojifempclaaW7
import Derived.RangeFuncRecord
namespace Go.Proofs.Ytacaojifempclaa
open Go Go.RowKit

theorem St.allocObj {w0 w : World} {L : List Ent} (h : St w0 w L) (o : Obj) : St w0 (w.alloc o) (.obj w.heap.size o :: L) := by
  refine St.add (M := [_]) h ((Below.refl _ w).alloc (Nat.le_refl _) _) (fun e he => ?_) (fun e he b hb => ?_) (List.pairwise_singleton _ _)
  · simp only [List.mem_singleton] at he; subst he
    exact heap_alloc_new w o
  · simp only [List.mem_singleton] at he; subst he
    have : b = w.heap.size := hb
    omega

theorem St.putObj {w0 w : World} {M : List Ent} {b : Nat} {o : Obj} (h : St w0 w (.obj b o :: M)) (o' : Obj) : St w0 (w.putObj b o') (.obj b o' :: M) := by
  have hb := h.ok (.obj b o) (by simp)
  refine h.turn rfl (fun k _ hk => World.putObj_heap_other fun e => hk e) rfl rfl rfl (by simp) (World.putObj_heap_same (heap_lt hb)) (fun k hk => .inl hk)

theorem St.objAt {w0 w : World} {M : List Ent} {b : Nat} {o : Obj} (h : St w0 w (.obj b o :: M)) : w.heap[b]? = some o := h.ok (.obj b o) (by simp)

/-- The record of a loop over a function. -/
def recd (fn : FuncId) (tmps : Array Value) (ps : Array Tmp) (assign body : Code) (rb : Nat) (st : LoopState) (pend : Option Code) : Loop := { state := st, pending := pend, fn, tmps, params := ps, assign, body, defers := rb }

def mark (rb : Nat) : Deferred := { target := .collected rb, args := #[] }

/-- A call of yield: a round, with what is asked of its end. -/
def RoundOf (P : Program) (lb : Nat) (ys : List Value) (w : World) (R : Ending → World → Prop) : Prop :=
  ∃ fn tmps assign body, (Instr.yield lb ys.toArray).run P w = .ok (.round lb fn tmps assign body) w ∧ RoundIn Fence.wide 0 P lb fn tmps assign body w R

/-- What a round leaves: it goes on, or it has left by a jump. -/
def RR {Y : Type} (ψ : Nat → Y → Prop) (J : Nat → Y → List Ent) (ψx : Y → Prop) (Jx : Y → List Ent) (Lp : List Ent) (w0 : World) (k : Nat) : Ending → World → Prop :=
  fun e w' => (e = .returned (.bool true) ∧ ∃ y, ψ (k + 1) y ∧ St w0 w' (Lp ++ J (k + 1) y)) ∨ (e = .returned (.bool false) ∧ ∃ y, ψx y ∧ St w0 w' (Lp ++ Jx y))

/-- The contract of an iterator: N rounds, the k-th with 'ya k x' and the new entries 'yL k x'; Lp is its own. -/
structure It (P : Program) (f : FuncId) (mk : Value → List Value) (Lp : List Ent) (N : Nat) {X : Type} (φ : Nat → X → Prop) (ya : Nat → X → List Value) (yL : Nat → X → List Ent) : Prop where
  out : ∀ {Y : Type} (ψ : Nat → Y → Prop) (J : Nat → Y → List Ent) (ψx : Y → Prop) (Jx : Y → List Ent) (w0 w : World) (lb : Nat) (y0 : Y), ψ 0 y0 → St w0 w (Lp ++ J 0 y0) →
    (∀ k x y w, k < N → φ k x → ψ k y → St w0 w (yL k x ++ (Lp ++ J k y)) → RoundOf P lb (ya k x) w (RR ψ J ψx Jx Lp w0 k)) →
    Calls P f (mk (.func (.yield lb) #[] #[])).toArray w fun e w' => ∃ v, e = .returned v ∧ ((∃ y, ψ N y ∧ St w0 w' (Lp ++ J N y)) ∨ ∃ y, ψx y ∧ St w0 w' (Lp ++ Jx y))

theorem freeRound (lb : Nat) : FreeF (Fence.wide.inRound lb) := ⟨fun _ => trivial, rfl, rfl⟩

def zipE : List Nat → List Value → Env → Env
  | p :: ps, v :: vs, l => zipE ps vs ((p, v) :: l)
  | _, _, l => l

theorem Fr.params {n : Nat} : ∀ (ps : List Nat) (vs : List Value) (tmps : Array Value) (l : Env), Fr ⟨tmps, []⟩ n [] l → ps.all (fun p => Nat.blt p n) = true →
    Fr ⟨(ps.zip vs).foldl (fun t (x : Nat × Value) => t.setIfInBounds x.1 x.2) tmps, []⟩ n [] (zipE ps vs l)
  | [], _, _, _, h, _ => h
  | _ :: _, [], _, _, h, _ => h
  | p :: ps, v :: vs, tmps, l, h, hp => by
    have hp' : Nat.blt p n = true ∧ ps.all (fun p => Nat.blt p n) = true := by simpa using hp
    exact Fr.params ps vs _ _ (h.put (d := p) hp'.1 v) hp'.2

def BR (P : Program) (lb : Nat) (body : Code) (Qb : Exit → Act → World → Prop) : Act → World → Prop :=
  fun a w => ∃ w2, (Instr.beginRound lb).run P w = .ok () w2 ∧ body.wpIn (Fence.wide.inRound lb) 0 P Qb a w2

def NoQ : Exit → Act → World → Prop := fun _ _ _ => False

section rules
variable {P : Program} {ops : Array Oper} {Q : Exit → Act → World → Prop} {rest : List Oper} {n : Nat} {D : List Deferred} {l : Env} {w0 : World} {L M : List Ent}

/-- In the iterator: a call of yield. -/
theorem yl {d : Nat} {ty : TypeId} {pos : String} {aft : Array Edge} {x : Operand} {xs : List Operand} {vs : List Value} {ts : Array TypeId} {lb : Nat} {Z : Type} {Φ : Z → Prop} {val : Z → Value} {post : Z → List Ent}
    (hx : ev l x = some (.func (.yield lb) #[] #[])) (hargs : Evs l xs vs) (hd : Nat.blt d n = true) (hR : ∀ w, St w0 w L → RoundOf P lb vs w fun e w' => ∃ z, Φ z ∧ e = .returned (val z) ∧ St w0 w' (post z))
    (h : ∀ z, Φ z → WL Fence.wide P ops Q rest n D ((d, val z) :: l) w0 (post z)) : WL Fence.wide P ops Q (⟨some d, .call { callee := .value x, args := xs.toArray, argTypes := ts }, ty, pos, aft, none⟩ :: rest) n D l w0 L := by
  intro hF a w hfr hst
  obtain ⟨fn, tmps, assign, body, hy, hround⟩ := hR w hst
  have he := hfr.evals hargs
  show (if _ then _ else _)
  rw [if_pos (by simp [Region.wanted])]
  refine ⟨fun f _ => hF.fn f, ?_⟩
  rw [semAt_plain (by simp)]
  have hr : (execOp a.eval ⟨some d, .call { callee := .value x, args := xs.toArray, argTypes := ts }, ty, pos, aft, none⟩).run P w = .ok (.round lb fn tmps assign body) w := by
    simp [execOp, resolve, Deferred.ofValue, hfr.eval hx, invoke, he, hy]
  rw [hr]
  refine ⟨fun hds => (by cases hds), hround.mono fun e w' he => ?_⟩
  obtain ⟨z, hz, rfl, hst'⟩ := he
  exact h z hz hF _ w' (hfr.put hd _) hst'

/-! #### a round's own walk -/
theorem bgn {lb : Nat} {body : Code} {Qb : Exit → Act → World → Prop} {fn : FuncId} {tmps : Array Value} {ps : Array Tmp} {asc bo : Code} {rb : Nat} {pend : Option Code}
    (ha : At L (.obj lb (.loop (recd fn tmps ps asc bo rb .ready pend))) M := by repeat (first | exact At.here | apply At.there))
    (h : WC (Fence.wide.inRound lb) P body Qb n D l w0 (.obj lb (.loop (recd fn tmps ps asc bo rb .busy pend)) :: M)) : WQ (Fence.wide.inRound lb) P (Exit.then (BR P lb body Qb) NoQ) .normal n D l w0 L := by
  intro hF a w hfr hst
  have hp := hst.pull ha
  exact ⟨_, run_beginRound hp.objAt rfl, h hF a _ hfr (hp.putObj _)⟩

theorem rdN {Y : Type} {ψ : Nat → Y → Prop} {J : Nat → Y → List Ent} {ψx : Y → Prop} {Jx : Y → List Ent} {Lp : List Ent} {k : Nat} {F : Fence} {lb : Nat} {fn : FuncId} {tmps : Array Value} {ps : Array Tmp} {asc bo : Code} {rb : Nat} {st : LoopState} {pend : Option Code} (y : Y) (hψ : ψ (k + 1) y)
    (ha : At L (.obj lb (.loop (recd fn tmps ps asc bo rb st pend))) M := by repeat (first | exact At.here | apply At.there))
    (hs : SubL (Lp ++ J (k + 1) y) (.obj lb (.loop (recd fn tmps ps asc bo rb .ready none)) :: M)) : WQ F P (roundPost P lb (RR ψ J ψx Jx Lp w0 k)) .normal n D l w0 L := by
  intro _ a w hfr hst
  have hp := hst.pull ha
  exact ⟨_, _, run_endRound none hp.objAt, .inl ⟨rfl, y, hψ, (hp.putObj _).sub hs⟩⟩

theorem rdRet {Y : Type} {ψ : Nat → Y → Prop} {J : Nat → Y → List Ent} {ψx : Y → Prop} {Jx : Y → List Ent} {Lp : List Ent} {k : Nat} {F : Fence} {lb : Nat} {fn : FuncId} {tmps : Array Value} {ps : Array Tmp} {asc bo : Code} {rb : Nat} {st : LoopState} {pend : Option Code} (y : Y) (hψ : ψx y)
    (ha : At L (.obj lb (.loop (recd fn tmps ps asc bo rb st pend))) M := by repeat (first | exact At.here | apply At.there))
    (hs : SubL (Lp ++ Jx y) (.obj lb (.loop (recd fn tmps ps asc bo rb .done (some .ret))) :: M)) : WQ F P (roundPost P lb (RR ψ J ψx Jx Lp w0 k)) .ret n D l w0 L := by
  intro _ a w hfr hst
  have hp := hst.pull ha
  exact ⟨_, _, run_endRound (some .ret) hp.objAt, .inr ⟨rfl, y, hψ, (hp.putObj _).sub hs⟩⟩

theorem rdExit {Y : Type} {ψ : Nat → Y → Prop} {J : Nat → Y → List Ent} {ψx : Y → Prop} {Jx : Y → List Ent} {Lp : List Ent} {k : Nat} {F : Fence} {lb id : Nat} {fn : FuncId} {tmps : Array Value} {ps : Array Tmp} {asc bo : Code} {rb : Nat} {st : LoopState} {pend : Option Code} (y : Y) (hψ : ψx y)
    (ha : At L (.obj lb (.loop (recd fn tmps ps asc bo rb st pend))) M := by repeat (first | exact At.here | apply At.there))
    (hs : SubL (Lp ++ Jx y) (.obj lb (.loop (recd fn tmps ps asc bo rb .done (some (.exit id)))) :: M)) : WQ F P (roundPost P lb (RR ψ J ψx Jx Lp w0 k)) (.exit id) n D l w0 L := by
  intro _ a w hfr hst
  have hp := hst.pull ha
  exact ⟨_, _, run_endRound (some (.exit id)) hp.objAt, .inr ⟨rfl, y, hψ, (hp.putObj _).sub hs⟩⟩

/-- The statement: the loop runs out, or has left by one of its jumps. -/
theorem rf {f : FuncId} (hf : FnOk P f) {g : Operand} {ps : List Nat} {assign body : Code} {fi cap : List Value} {Lp : List Ent} {N : Nat} {X Y : Type} {φ : Nat → X → Prop} {ya : Nat → X → List Value} {yL : Nat → X → List Ent}
    (ψ : Nat → Y → Prop) (J : Nat → Y → List Ent) (ψx : Y → Prop) (jx : Y → Code) (Jx : Y → List Ent) (y0 : Y)
    (hit : It P f (fun v => fi ++ [v] ++ cap) Lp N φ ya yL) (hx : ev l g = some (.func (.func f) fi.toArray cap.toArray)) (hlen : ∀ k x, (ya k x).length = ps.length) (hps : ps.all (fun p => Nat.blt p n) = true)
    (h0 : ψ 0 y0) (hL : SubL (Lp ++ J 0 y0) L)
    (hround : ∀ (fn : FuncId) (tmps : Array Value) (lb rb : Nat) (k : Nat) (x : X) (y : Y), k < N → φ k x → ψ k y →
      WC (Fence.wide.inRound lb) P assign (Exit.then (BR P lb body (roundPost P lb (RR ψ (fun k y => .obj lb (.loop (recd fn tmps ps.toArray assign body rb .ready none)) :: .obj rb (.deferred (some [])) :: J k y) ψx
          (fun y => .obj lb (.loop (recd fn tmps ps.toArray assign body rb .done (some (jx y)))) :: .obj rb (.deferred (some [])) :: Jx y) Lp w0 k))) NoQ) n [] (zipE ps (ya k x) l) w0
        (yL k x ++ (Lp ++ (.obj lb (.loop (recd fn tmps ps.toArray assign body rb .ready none)) :: .obj rb (.deferred (some [])) :: J k y))))
    (hdone : ∀ rb y, ψ N y → WQ Fence.wide P Q .normal n (mark rb :: D) l w0 (.obj rb (.deferred (some [])) :: (Lp ++ J N y)))
    (hjump : ∀ rb y, ψx y → WC Fence.wide P (jx y) Q n (mark rb :: D) l w0 (.obj rb (.deferred (some [])) :: (Lp ++ Jx y))) : WC Fence.wide P (.rangeFunc g ps.toArray assign body) Q n D l w0 L := by
  intro hF a w hfr hst
  have hst0 := hst.sub hL
  refine wpIn_rangeFunc fun fn _ => ?_
  obtain ⟨W, hW⟩ : ∃ W, (w.alloc (.deferred (some []))).alloc (.loop { state := .ready, pending := none, fn, tmps := a.tmps, params := ps.toArray, assign, body, defers := w.heap.size }) = W := ⟨_, rfl⟩
  refine ⟨w.heap.size + 1, [{ target := .collected w.heap.size, args := #[] }], W, { target := .fn (.func f) cap.toArray, args := fi.toArray ++ #[Value.func (.yield (w.heap.size + 1)) #[] #[]] }, W, f, (fi ++ [Value.func (.yield (w.heap.size + 1)) #[] #[]] ++ cap).toArray, W,
    by rw [← hW]; exact run_enterLoop_outer fn a.tmps ps.toArray assign body, ?_, fun _ _ => trivial, ?_, fun h => (by cases h), ?_⟩
  · simp [resolve, Deferred.ofValue, hfr.eval hx]
    rfl
  · have := run_callFunc hf (fi ++ [Value.func (.yield (w.heap.size + 1)) #[] #[]] ++ cap).toArray W
    simpa [invoke] using this
  · subst hW
    have hst1 := (hst0.allocObj (.deferred (some []))).allocObj (.loop (recd fn a.tmps ps.toArray assign body w.heap.size .ready none))
    rw [World.size_alloc] at hst1
    have hsub : SubL (Lp ++ (.obj (w.heap.size + 1) (.loop (recd fn a.tmps ps.toArray assign body w.heap.size .ready none)) :: .obj w.heap.size (.deferred (some [])) :: J 0 y0))
        (.obj (w.heap.size + 1) (.loop (recd fn a.tmps ps.toArray assign body w.heap.size .ready none)) :: .obj w.heap.size (.deferred (some [])) :: (Lp ++ J 0 y0)) := by
      have : ∀ (A B : List Ent) (e e' : Ent), SubL (A ++ (e :: e' :: B)) (e :: e' :: (A ++ B)) := by
        intro A B e e'
        induction A with
        | nil => exact SubL.refl _
        | cons x A ih => exact .cons (.there (.there .here)) ih
      exact this ..
    refine callsIn_wide.2 (Calls.mono (hit.out ψ (fun k y => .obj (w.heap.size + 1) (.loop (recd fn a.tmps ps.toArray assign body w.heap.size .ready none)) :: .obj w.heap.size (.deferred (some [])) :: J k y) ψx (fun y => .obj (w.heap.size + 1) (.loop (recd fn a.tmps ps.toArray assign body w.heap.size .done (some (jx y)))) :: .obj w.heap.size (.deferred (some [])) :: Jx y) w0 _ (w.heap.size + 1) y0 h0 (hst1.sub hsub) ?_) ?_)
    · intro k x y w1 hk hφ hψ hs1
      have hrec : w1.heap[w.heap.size + 1]? = some (.loop (recd fn a.tmps ps.toArray assign body w.heap.size .ready none)) := hs1.ok (.obj (w.heap.size + 1) (.loop (recd fn a.tmps ps.toArray assign body w.heap.size .ready none))) (by simp)
      refine ⟨_, _, _, _, run_yield hrec (by simp [recd, hlen]), ?_⟩
      refine roundIn_of_wpIn trivial ?_
      have hfr1 : Fr ⟨a.tmps, []⟩ n [] l := ⟨hfr.size, hfr.slot, rfl⟩
      have hfr2 := Fr.params ps (ya k x) a.tmps l hfr1 hps
      have := hround fn a.tmps (w.heap.size + 1) w.heap.size k x y hk hφ hψ (freeRound _) _ w1 hfr2 hs1
      unfold BR NoQ at this
      simpa [recd] using this
    · rintro e w' ⟨v, rfl, hend⟩
      rcases hend with ⟨y, hψ, hs⟩ | ⟨y, hψ, hs⟩
      · have hp := hs.pull (e := .obj (w.heap.size + 1) (.loop (recd fn a.tmps ps.toArray assign body w.heap.size .ready none))) (M := Lp ++ (.obj w.heap.size (.deferred (some [])) :: J N y)) (by
          have : ∀ (A B : List Ent) (e : Ent), At (A ++ (e :: B)) e (A ++ B) := by
            intro A B e
            induction A with
            | nil => exact .here
            | cons x A ih => exact .there ih
          exact this ..)
        refine ⟨_, _, run_endLoop hp.objAt (by simp [recd]), ?_⟩
        have hs2 := (hp.putObj (.loop (recd fn a.tmps ps.toArray assign body w.heap.size .exhausted none))).tail
        have hs3 := hs2.pull (e := .obj w.heap.size (.deferred (some []))) (M := Lp ++ J N y) (by
          have : ∀ (A B : List Ent) (e : Ent), At (A ++ (e :: B)) e (A ++ B) := by
            intro A B e
            induction A with
            | nil => exact .here
            | cons x A ih => exact .there ih
          exact this ..)
        exact hdone w.heap.size y hψ hF _ _ ⟨hfr.size, hfr.slot, by simp [mark, hfr.defers]⟩ hs3
      · have hp := hs.pull (e := .obj (w.heap.size + 1) (.loop (recd fn a.tmps ps.toArray assign body w.heap.size .done (some (jx y))))) (M := Lp ++ (.obj w.heap.size (.deferred (some [])) :: Jx y)) (by
          have : ∀ (A B : List Ent) (e : Ent), At (A ++ (e :: B)) e (A ++ B) := by
            intro A B e
            induction A with
            | nil => exact .here
            | cons x A ih => exact .there ih
          exact this ..)
        refine ⟨_, _, run_endLoop hp.objAt (by simp [recd]), ?_⟩
        have hs2 := (hp.putObj (.loop (recd fn a.tmps ps.toArray assign body w.heap.size .exhausted (some (jx y))))).tail
        have hs3 := hs2.pull (e := .obj w.heap.size (.deferred (some []))) (M := Lp ++ Jx y) (by
          have : ∀ (A B : List Ent) (e : Ent), At (A ++ (e :: B)) e (A ++ B) := by
            intro A B e
            induction A with
            | nil => exact .here
            | cons x A ih => exact .there ih
          exact this ..)
        exact hjump w.heap.size y hψ hF _ _ ⟨hfr.size, hfr.slot, by simp [mark, hfr.defers]⟩ hs3

/-! #### a function that holds such a loop -/
theorem enM {f : FuncId} {fn : Func} {c : Code} {vs : List Value} {w : World} {R : Ending → World → Prop} (hf : P.funcs[f]? = some fn) (hn : fn.ntmps = n) (hst : St w0 w L) (hb : fn.body = some c := by exact rfl) (hle : Nat.ble vs.length n = true := by rfl)
    (h : WC Fence.wide P c (bodyPostM Fence.wide 0 P fn R) n [] (argE 0 vs) w0 L) : Calls P f vs.toArray w R := by
  have hle' : vs.length ≤ n := Nat.le_of_ble_eq_true hle
  refine callsIn_wide.1 (callsIn_of_wp_marks (n := 0) hf hb trivial ?_ rfl)
  refine h freeWide _ w ⟨?_, fun k v hk => ?_, rfl⟩ hst
  · simp [hn]; omega
  · obtain ⟨j, rfl, hj⟩ := look_argE vs 0 k v hk
    have hl : j < vs.length := (List.getElem?_eq_some_iff.1 hj).1
    simp only [Nat.zero_add]
    rw [Array.getElem?_append_left (by simpa using hl)]
    simpa using hj

theorem q_retM0 {fn : Func} {R : Ending → World → Prop} {rs : List ResultVar} {vs : List Value} (hr : fn.results = rs.toArray := by exact rfl)
    (h : Res P l L rs vs := by repeat (first | exact Res.nil | (apply Res.tmp; exact rfl) | (apply Res.cellA; infer_instance; exact rfl; (repeat (first | exact At.here | apply At.there)); (repeat (first | exact Tk.nil | apply Tk.cons | apply Tk.skip))) | (apply Res.cell1; infer_instance; exact rfl; (repeat (first | exact At.here | apply At.there)); exact rfl))) (hR : ∀ w, St w0 w L → R (.returned (resV vs)) w) :
    WQ Fence.wide P (bodyPostM Fence.wide 0 P fn R) .ret n [] l w0 L := fun _ a w hfr hst => by
  show LeavesInM Fence.wide 0 P fn a.tmps R a.defers .returning w
  rw [hfr.defers]
  exact ⟨_, h.results hfr hst hr, hR w hst⟩

theorem q_retM {rb : Nat} {fn : Func} {R : Ending → World → Prop} {rs : List ResultVar} {vs : List Value} (ha : At L (.obj rb (.deferred (some []))) M := by repeat (first | exact At.here | apply At.there)) (hr : fn.results = rs.toArray := by exact rfl)
    (h : Res P l M rs vs := by repeat (first | exact Res.nil | (apply Res.tmp; exact rfl) | (apply Res.cellA; infer_instance; exact rfl; (repeat (first | exact At.here | apply At.there)); (repeat (first | exact Tk.nil | apply Tk.cons | apply Tk.skip))) | (apply Res.cell1; infer_instance; exact rfl; (repeat (first | exact At.here | apply At.there)); exact rfl))) (hR : ∀ w, St w0 w M → R (.returned (resV vs)) w) :
    WQ Fence.wide P (bodyPostM Fence.wide 0 P fn R) .ret n [mark rb] l w0 L := fun _ a w hfr hst => by
  have hp := hst.pull ha
  show LeavesInM Fence.wide 0 P fn a.tmps R a.defers .returning w
  rw [hfr.defers]
  refine ⟨by simp, .inl ⟨rb, _, rfl, run_takeDeferred hp.objAt, ?_⟩⟩
  have hs2 := (hp.putObj (.deferred none)).tail
  exact ⟨_, h.results hfr hs2 hr, hR _ hs2⟩

theorem q_endM0 {fn : Func} {R : Ending → World → Prop} {rs : List ResultVar} {vs : List Value} (hr : fn.results = rs.toArray := by exact rfl)
    (h : Res P l L rs vs := by repeat (first | exact Res.nil | (apply Res.tmp; exact rfl) | (apply Res.cellA; infer_instance; exact rfl; (repeat (first | exact At.here | apply At.there)); (repeat (first | exact Tk.nil | apply Tk.cons | apply Tk.skip))) | (apply Res.cell1; infer_instance; exact rfl; (repeat (first | exact At.here | apply At.there)); exact rfl))) (hR : ∀ w, St w0 w L → R (.returned (resV vs)) w) :
    WQ Fence.wide P (bodyPostM Fence.wide 0 P fn R) .normal n [] l w0 L := fun _ a w hfr hst => by
  show LeavesInM Fence.wide 0 P fn a.tmps R a.defers .returning w
  rw [hfr.defers]
  exact ⟨_, h.results hfr hst hr, hR w hst⟩

theorem q_endM {rb : Nat} {fn : Func} {R : Ending → World → Prop} {rs : List ResultVar} {vs : List Value} (ha : At L (.obj rb (.deferred (some []))) M := by repeat (first | exact At.here | apply At.there)) (hr : fn.results = rs.toArray := by exact rfl)
    (h : Res P l M rs vs := by repeat (first | exact Res.nil | (apply Res.tmp; exact rfl) | (apply Res.cellA; infer_instance; exact rfl; (repeat (first | exact At.here | apply At.there)); (repeat (first | exact Tk.nil | apply Tk.cons | apply Tk.skip))) | (apply Res.cell1; infer_instance; exact rfl; (repeat (first | exact At.here | apply At.there)); exact rfl))) (hR : ∀ w, St w0 w M → R (.returned (resV vs)) w) :
    WQ Fence.wide P (bodyPostM Fence.wide 0 P fn R) .normal n [mark rb] l w0 L := fun _ a w hfr hst => by
  have hp := hst.pull ha
  show LeavesInM Fence.wide 0 P fn a.tmps R a.defers .returning w
  rw [hfr.defers]
  refine ⟨by simp, .inl ⟨rb, _, rfl, run_takeDeferred hp.objAt, ?_⟩⟩
  have hs2 := (hp.putObj (.deferred none)).tail
  exact ⟨_, h.results hfr hs2 hr, hR _ hs2⟩

end rules
end Go.Proofs.Ytacaojifempclaa
