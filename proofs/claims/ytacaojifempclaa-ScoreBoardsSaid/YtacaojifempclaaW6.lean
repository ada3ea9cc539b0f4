/- Rules for the forms of code, for loops, and for a function's entry and return, in a walk over symbolic slots and a symbolic heap; plain laws, no program is named here. -/
import Derived.Test.YtacaojifempclaaW5
namespace Go.Proofs.Ytacaojifempclaa
open Go Go.RowKit

def WC (F : Fence) (P : Program) (c : Code) (Q : Exit → Act → World → Prop) (n : Nat) (D : List Deferred) (l : Env) (w0 : World) (L : List Ent) : Prop :=
  FreeF F → ∀ a w, Fr a n D l → St w0 w L → c.wpIn F 0 P Q a w

/-- What is left to be shown where a piece of code has ended by e. -/
def WQ (F : Fence) (_P : Program) (Q : Exit → Act → World → Prop) (e : Exit) (n : Nat) (D : List Deferred) (l : Env) (w0 : World) (L : List Ent) : Prop :=
  FreeF F → ∀ a w, Fr a n D l → St w0 w L → Q e a w

section rules
variable {F : Fence} {P : Program} {ops : Array Oper} {Q : Exit → Act → World → Prop} {n : Nat} {D : List Deferred} {l : Env} {w0 : World} {L M : List Ent}

theorem WC.sub {c : Code} {l' : Env} (hs : Sub l' l) (h : WC F P c Q n D l' w0 L) : WC F P c Q n D l w0 L := fun hF a w hfr hst => h hF a w (hfr.sub hs) hst
theorem WC.subL {c : Code} {L' : List Ent} (hs : SubL L' L) (h : WC F P c Q n D l w0 L') : WC F P c Q n D l w0 L := fun hF a w hfr hst => h hF a w hfr (hst.sub hs)
theorem WC.know {c : Code} {p : Prop} (hp : ∀ w, St w0 w L → p) (h : p → WC F P c Q n D l w0 L) : WC F P c Q n D l w0 L := fun hF a w hfr hst => h (hp w hst) hF a w hfr hst
theorem WC.nilOwn {c : Code} (T : TypeId) (size : Nat) (h : WC F P c Q n D l w0 (.own none 0 T size 0 [] :: L)) : WC F P c Q n D l w0 L := fun hF a w hfr hst => h hF a w hfr (by
  refine St.add (M := [_]) hst (Below.refl _ _) (fun e he => ?_) (fun e he b hb' => ?_) (List.pairwise_singleton _ _)
  · simp only [List.mem_singleton] at he; subst he; exact ⟨World.ownsRow_nil w 0 T size, Rd.nil w none size⟩
  · simp only [List.mem_singleton] at he; subst he; obtain ⟨ad, had, _⟩ := hb'; cases had)
theorem WC.toRo {c : Code} {A : Option Addr} {cap : Nat} {T : TypeId} {size m : Nat} {es : List (List Value)} (ha : At L (.own A cap T size m es) M) (h : WC F P c Q n D l w0 (.ro A size m es :: M)) : WC F P c Q n D l w0 L :=
  fun hF a w hfr hst => h hF a w hfr (hst.pull ha).toRo

/-! #### code -/
theorem sq {x y : Code} (h : WC F P x (Exit.then (y.wpIn F 0 P Q) Q) n D l w0 L) : WC F P (.seq x y) Q n D l w0 L := fun hF a w hfr hst => wpIn_seq (h hF a w hfr hst)
theorem rg {id : Nat} {os : List Oper} (h : WL F P os.toArray Q os n D l w0 L) : WC F P (.region id os.toArray false) Q n D l w0 L := fun hF a w hfr hst => wpIn_region_lit (h hF a w hfr hst)
theorem nl (h : WQ F P Q .normal n D l w0 L) : WL F P ops Q [] n D l w0 L := fun hF a w hfr hst => h hF a w hfr hst
theorem skp (h : WQ F P Q .normal n D l w0 L) : WC F P .skip Q n D l w0 L := fun hF a w hfr hst => wpIn_skip (h hF a w hfr hst)
theorem cd {c : Operand} {x y : Code} {b : Bool} (hc : ev l c = some (.bool b)) (ht : b = true → WC F P x Q n D l w0 L) (hf : b = false → WC F P y Q n D l w0 L) : WC F P (.cond c x y) Q n D l w0 L :=
  fun hF a w hfr hst => wpIn_cond_split (hfr.eval hc) (fun h => ht h hF a w hfr hst) (fun h => hf h hF a w hfr hst)
theorem cdT {c : Operand} {x y : Code} (hc : ev l c = some (.bool true) := by exact rfl) (h : WC F P x Q n D l w0 L) : WC F P (.cond c x y) Q n D l w0 L :=
  fun hF a w hfr hst => wpIn_cond_true (hfr.eval hc) (h hF a w hfr hst)
theorem cdF {c : Operand} {x y : Code} (hc : ev l c = some (.bool false) := by exact rfl) (h : WC F P y Q n D l w0 L) : WC F P (.cond c x y) Q n D l w0 L :=
  fun hF a w hfr hst => wpIn_cond_false (hfr.eval hc) (h hF a w hfr hst)
theorem bk {id : Nat} {c : Code} (h : WC F P c (Exit.inBlock id Q) n D l w0 L) : WC F P (.block id c) Q n D l w0 L := fun hF a w hfr hst => wpIn_block (h hF a w hfr hst)
theorem et {id : Nat} (h : WQ F P Q (.exit id) n D l w0 L) : WC F P (.exit id) Q n D l w0 L := fun hF a w hfr hst => wpIn_exit (h hF a w hfr hst)
theorem rtn (h : WQ F P Q .ret n D l w0 L) : WC F P .ret Q n D l w0 L := fun hF a w hfr hst => wpIn_ret (h hF a w hfr hst)

theorem q_seq {y : Code} (h : WC F P y Q n D l w0 L) : WQ F P (Exit.then (y.wpIn F 0 P Q) Q) .normal n D l w0 L := h
theorem q_then_exit {N : Act → World → Prop} {id : Nat} (h : WQ F P Q (.exit id) n D l w0 L) : WQ F P (Exit.then N Q) (.exit id) n D l w0 L := h
theorem q_then_ret {N : Act → World → Prop} (h : WQ F P Q .ret n D l w0 L) : WQ F P (Exit.then N Q) .ret n D l w0 L := h
theorem q_blk_hit {id : Nat} (h : WQ F P Q .normal n D l w0 L) : WQ F P (Exit.inBlock id Q) (.exit id) n D l w0 L := fun hF a w hfr hst => by
  show (if id = id then Q .normal a w else Q (.exit id) a w)
  rw [if_pos rfl]; exact h hF a w hfr hst
theorem q_blk_miss {id id' : Nat} (hne : Nat.beq id' id = false := by rfl) (h : WQ F P Q (.exit id') n D l w0 L) : WQ F P (Exit.inBlock id Q) (.exit id') n D l w0 L := fun hF a w hfr hst => by
  show (if id' = id then Q .normal a w else Q (.exit id') a w)
  rw [if_neg (by rintro rfl; simp at hne)]; exact h hF a w hfr hst
theorem q_blk_norm {id : Nat} (h : WQ F P Q .normal n D l w0 L) : WQ F P (Exit.inBlock id Q) .normal n D l w0 L := h
theorem q_blk_ret {id : Nat} (h : WQ F P Q .ret n D l w0 L) : WQ F P (Exit.inBlock id Q) .ret n D l w0 L := h

/-! #### a loop -/
def LI {X : Type} (I : X → Prop) (le : X → Env) (Le : X → List Ent) (μ : X → Nat) (n : Nat) (D : List Deferred) (w0 : World) (x : X) : Act → World → Prop :=
  fun a w => ∃ x', I x' ∧ μ x' < μ x ∧ Fr a n D (le x') ∧ St w0 w (Le x')

theorem lp {X : Type} (I : X → Prop) (le : X → Env) (Le : X → List Ent) (μ : X → Nat) (x0 : X) {body : Code} (h0 : I x0) (hs : Sub (le x0) l) (hL : SubL (Le x0) L)
    (round : ∀ x, I x → WC F P body (Exit.then (LI I le Le μ n D w0 x) Q) n D (le x) w0 (Le x)) : WC F P (.loop body) Q n D l w0 L := by
  intro hF a w hfr hst b k cs hro hb hr
  have key : ∀ j x a w, μ x = j → I x → Fr a n D (le x) → St w0 w (Le x) →
      ∃ e a' w', Q e a' w' ∧ ArrivesIn (Machine.fenced P F) P (lone (b.atR a (.code body :: .inLoop body :: k)) cs w) b k cs e a' w' := by
    intro j
    induction j using Nat.strongRecOn with
    | _ j ih =>
      intro x a w hn hI hfr hst
      obtain ⟨e, a₁, w₁, hq, harr⟩ := round x hI hF a w hfr hst b (.inLoop body :: k) cs hro hb hr
      cases e with
      | normal =>
        obtain ⟨x', hI₁, hlt, hfr', hst'⟩ := hq
        obtain ⟨e₂, a₂, w₂, hq₂, harr₂⟩ := ih (μ x') (hn ▸ hlt) x' a₁ w₁ rfl hI₁ hfr' hst'
        exact ⟨e₂, a₂, w₂, hq₂, .of_steps (StepsIn.trans harr (.one (fenced_calm hb hr rfl) stepR_inLoop)) harr₂⟩
      | exit id => exact ⟨_, a₁, w₁, hq, .pass (x := .inLoop body) rfl (fun _ _ => .inl (by simp)) harr⟩
      | goto l => exact ⟨_, a₁, w₁, hq, .pass (x := .inLoop body) rfl (fun _ _ => .inl (by simp)) harr⟩
      | ret => exact ⟨_, a₁, w₁, hq, .pass (x := .inLoop body) rfl (fun _ _ => .inl (by simp)) harr⟩
      | panic ch => exact ⟨_, a₁, w₁, hq, .pass (x := .inLoop body) rfl (fun _ _ => .inl (by simp)) harr⟩
      | outgrown => exact ⟨_, a₁, w₁, hq, .pass (x := .inLoop body) rfl (fun _ _ => .inl (by simp)) harr⟩
  obtain ⟨e, a', w', hq, harr⟩ := key _ x0 a w rfl h0 (hfr.sub hs) (hst.sub hL)
  exact ⟨e, a', w', hq, .of_steps (.one (fenced_calm hb hr rfl) stepR_loop) harr⟩

theorem rn {X : Type} {I : X → Prop} {le : X → Env} {Le : X → List Ent} {μ : X → Nat} {x : X} (x' : X) (hI : I x') (hμ : μ x' < μ x) (hs : Sub (le x') l) (hL : SubL (Le x') L) :
    WQ F P (Exit.then (LI I le Le μ n D w0 x) Q) .normal n D l w0 L := fun _ _ _ hfr hst => ⟨x', hI, hμ, hfr.sub hs, hst.sub hL⟩

/-! #### ways that meet -/
def MI {X : Type} (I : X → Prop) (le : X → Env) (Le : X → List Ent) (n : Nat) (D : List Deferred) (w0 : World) : Act → World → Prop :=
  fun a w => ∃ x, I x ∧ Fr a n D (le x) ∧ St w0 w (Le x)

theorem ct {X : Type} (I : X → Prop) (le : X → Env) (Le : X → List Ent) {x y : Code} (h1 : WC F P x (Exit.then (MI I le Le n D w0) Q) n D l w0 L) (h2 : ∀ z, I z → WC F P y Q n D (le z) w0 (Le z)) : WC F P (.seq x y) Q n D l w0 L :=
  fun hF a w hfr hst => wpIn_seq (wpIn_mono (h1 hF a w hfr hst) fun e a w hq => by
    cases e <;> first
      | exact hq
      | (obtain ⟨z, hz, hfr', hst'⟩ := hq; exact h2 z hz hF a w hfr' hst'))

theorem ctn {X : Type} {I : X → Prop} {le : X → Env} {Le : X → List Ent} (x : X) (hI : I x) (hs : Sub (le x) l) (hL : SubL (Le x) L) : WQ F P (Exit.then (MI I le Le n D w0) Q) .normal n D l w0 L := fun _ _ _ hfr hst => ⟨x, hI, hfr.sub hs, hst.sub hL⟩

/-- Two ways of one piece of code meet with one slot more and the heap as it was. -/
theorem ct1 (d : Nat) {v : Value} {x y : Code} (h1 : WC F P x (Exit.then (fun a w => Fr a n D ((d, v) :: l) ∧ St w0 w L) Q) n D l w0 L) (h2 : WC F P y Q n D ((d, v) :: l) w0 L) : WC F P (.seq x y) Q n D l w0 L :=
  fun hF a w hfr hst => wpIn_seq (wpIn_mono (h1 hF a w hfr hst) fun e a w hq => by
    cases e <;> first
      | exact hq
      | exact h2 hF a w hq.1 hq.2)

theorem ct1n {l' : Env} {L' : List Ent} (hs : Sub l' l) (hL : SubL L' L) : WQ F P (Exit.then (fun a w => Fr a n D l' ∧ St w0 w L') Q) .normal n D l w0 L := fun _ _ _ hfr hst => ⟨hfr.sub hs, hst.sub hL⟩

/-! #### entry and return -/
def argE : Nat → List Value → Env
  | _, [] => []
  | k, v :: vs => (k, v) :: argE (k + 1) vs

theorem look_argE : ∀ (vs : List Value) (k i : Nat) (v : Value), look (argE k vs) i = some v → ∃ j, i = k + j ∧ vs[j]? = some v
  | [], _, _, _, h => by simp [argE, look] at h
  | u :: vs, k, i, v, h => by
    rw [argE, look_cons] at h
    by_cases e : k = i
    · subst e; simp at h; exact ⟨0, rfl, by simpa using h⟩
    · rw [if_neg e] at h
      obtain ⟨j, rfl, hj⟩ := look_argE vs (k + 1) i v h
      exact ⟨j + 1, by omega, by simpa using hj⟩

theorem freeWide : FreeF Fence.wide := ⟨fun _ => trivial, rfl, rfl⟩

theorem en {f : FuncId} {fn : Func} {c : Code} {vs : List Value} {w : World} {R : Ending → World → Prop} (hf : P.funcs[f]? = some fn) (hn : fn.ntmps = n) (hst : St w0 w L) (hb : fn.body = some c := by exact rfl) (hle : Nat.ble vs.length n = true := by rfl)
    (h : ∀ F, WC F P c (bodyPost P fn R) n [] (argE 0 vs) w0 L) : Calls P f vs.toArray w R := by
  have hle' : vs.length ≤ n := Nat.le_of_ble_eq_true hle
  refine callsIn_wide.1 (callsIn_of_wp (n := 0) hf hb trivial ?_ rfl)
  refine h Fence.wide freeWide _ w ⟨?_, fun k v hk => ?_, rfl⟩ hst
  · simp [hn]; omega
  · obtain ⟨j, rfl, hj⟩ := look_argE vs 0 k v hk
    have hl : j < vs.length := (List.getElem?_eq_some_iff.1 hj).1
    simp only [Nat.zero_add]
    rw [Array.getElem?_append_left (by simpa using hl)]
    simpa using hj

/-- The results, out of slots and cells. -/
inductive Res (P : Program) (l : Env) (L : List Ent) : List ResultVar → List Value → Prop
  | nil : Res P l L [] []
  | tmp {t : Nat} {rs : List ResultVar} {v : Value} {vs : List Value} (h : look l t = some v) (hs : Res P l L rs vs) : Res P l L (.tmp t :: rs) (v :: vs)
  | cellA {t : Nat} {ty : TypeId} {rs : List ResultVar} {size bytes : Nat} {z : Value} {zl us : List Value} {vs : List Value} {b o : Nat} {T : TypeId} {cs : List Value} {M : List Ent} (hT : Ty P ty true size bytes z zl) (h : look l t = some (.pointer (some ⟨b, o, none⟩)))
      (ha : At L (.blk b T cs) M) (hc : Tk cs o size us) (hs : Res P l L rs vs) : Res P l L (.cell t ty :: rs) (.agg us.toArray :: vs)
  | cell1 {t : Nat} {ty : TypeId} {rs : List ResultVar} {size bytes : Nat} {z v : Value} {zl : List Value} {vs : List Value} {b o : Nat} {T : TypeId} {cs : List Value} {M : List Ent} (hT : Ty P ty false size bytes z zl) (h : look l t = some (.pointer (some ⟨b, o, none⟩)))
      (ha : At L (.blk b T cs) M) (hc : cs[o]? = some v) (hs : Res P l L rs vs) : Res P l L (.cell t ty :: rs) (v :: vs)

def readR (tmps : Array Value) : ResultVar → Sem Value
  | .tmp t => pure (tmps.getD t undef)
  | .cell a t => do loadVar t (← asAddr (tmps.getD a undef))

theorem Res.run {a : Act} (hfr : Fr a n D l) {w : World} (hst : St w0 w L) {rs : List ResultVar} {vs : List Value} (h : Res P l L rs vs) : (rs.mapM (readR a.tmps)).run P w = .ok vs w := by
  induction h with
  | nil => simp
  | @tmp t rs v vs h _ ih =>
    have := hfr.slot _ _ h
    have e : (readR a.tmps (.tmp t)).run P w = .ok v w := by simp [readR, this]
    simp [List.mapM_cons, e, ih]
  | @cellA t ty rs size bytes z zl us vs b o T cs M hT h ha hc _ ih =>
    have hs := hfr.slot _ _ h
    have hcell : ∀ j v, us[j]? = some v → w.cell? ((⟨b, o, none⟩ : Addr).add j) = some v := fun j v hj => by
      rw [add_lit, hst.cell ha]; exact hc.out.2 j v hj
    have hl := run_loadVarA hT hc.out.1 hcell
    have e : (readR a.tmps (.cell t ty)).run P w = .ok (.agg us.toArray) w := by simp [readR, hs, asAddr, hl]
    simp [List.mapM_cons, e, ih]
  | @cell1 t ty rs size bytes z v zl vs b o T cs M hT h ha hc _ ih =>
    have hs := hfr.slot _ _ h
    have hcell : w.cell? ⟨b, o, none⟩ = some v := by rw [hst.cell ha, hc]
    have hl := run_loadVar1 hT hcell
    have e : (readR a.tmps (.cell t ty)).run P w = .ok v w := by simp [readR, hs, asAddr, hl]
    simp [List.mapM_cons, e, ih]

def resV : List Value → Value
  | [v] => v
  | vs => .tuple vs.toArray

theorem Res.results {a : Act} (hfr : Fr a n D l) {w : World} (hst : St w0 w L) {fn : Func} {rs : List ResultVar} {vs : List Value} (hr : fn.results = rs.toArray) (h : Res P l L rs vs) : (results fn a.tmps).run P w = .ok (resV vs) w := by
  have hrun := h.run hfr hst
  have e : Go.results fn a.tmps = (do let vs ← fn.results.mapM (readR a.tmps); pure (if h : vs.size = 1 then vs[0] else .tuple vs)) := by
    unfold Go.results
    congr 1
  rw [e, Sem.run_bind, hr, Array.mapM_eq_mapM_toList]
  simp only [Sem.run_map, hrun, Result.andThen_ok, Sem.run_pure]
  congr 1
  match vs with
  | [] => rfl
  | [v] => rfl
  | _ :: _ :: _ => rfl

theorem q_ret {fn : Func} {R : Ending → World → Prop} {rs : List ResultVar} {vs : List Value} (hr : fn.results = rs.toArray := by exact rfl)
    (h : Res P l L rs vs := by repeat (first | exact Res.nil | (apply Res.tmp; exact rfl) | (apply Res.cellA; infer_instance; exact rfl; (repeat (first | exact At.here | apply At.there)); (repeat (first | exact Tk.nil | apply Tk.cons | apply Tk.skip))) | (apply Res.cell1; infer_instance; exact rfl; (repeat (first | exact At.here | apply At.there)); exact rfl))) (hR : ∀ w, St w0 w L → R (.returned (resV vs)) w) : WQ F P (bodyPost P fn R) .ret n [] l w0 L :=
  fun _ _ w hfr hst => ⟨hfr.defers, _, h.results hfr hst hr, hR w hst⟩
theorem q_end {fn : Func} {R : Ending → World → Prop} {rs : List ResultVar} {vs : List Value} (hr : fn.results = rs.toArray := by exact rfl)
    (h : Res P l L rs vs := by repeat (first | exact Res.nil | (apply Res.tmp; exact rfl) | (apply Res.cellA; infer_instance; exact rfl; (repeat (first | exact At.here | apply At.there)); (repeat (first | exact Tk.nil | apply Tk.cons | apply Tk.skip))) | (apply Res.cell1; infer_instance; exact rfl; (repeat (first | exact At.here | apply At.there)); exact rfl))) (hR : ∀ w, St w0 w L → R (.returned (resV vs)) w) : WQ F P (bodyPost P fn R) .normal n [] l w0 L :=
  fun _ _ w hfr hst => ⟨hfr.defers, _, h.results hfr hst hr, hR w hst⟩

end rules
end Go.Proofs.Ytacaojifempclaa
