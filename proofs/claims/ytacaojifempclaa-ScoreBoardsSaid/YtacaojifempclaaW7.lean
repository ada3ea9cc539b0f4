/- Rules for a region that draws its order: pure operations first, whatever order is drawn; plain laws, no program is named here. -/
import Derived.Test.YtacaojifempclaaW6
import Derived.OrdersIn
import Derived.KernelRfl
namespace Go.Proofs.Ytacaojifempclaa
open Go Go.RowKit

/-- Operation k waits for operation i (k beyond the region: it never comes). -/
def waits (ops : Array Oper) (k i : Nat) : Bool :=
  match ops[k]? with
  | none => true
  | some o => o.after.toList.any fun e => Region.binds .any e && Nat.beq e.on i

/-- What is held: the entry e stands till operation k has come. -/
def Sh (held : List (Nat × Ent)) (listed : Array Bool) (w : World) : Prop := ∀ p ∈ held, listed.getD p.1 false = false → p.2.ok w

def wpAnyS (F : Fence) (P : Program) (ops : Array Oper) (Q : Exit → Act → World → Prop) (held : List (Nat × Ent)) : Nat → Array Bool → Act → World → Prop
  | 0, listed, a, w => Region.ready .any ops listed = [] ∧ Q .normal a w
  | fuel + 1, listed, a, w =>
    (Region.ready .any ops listed = [] → Q .normal a w) ∧
    ∀ i ∈ Region.ready .any ops listed, wpOpIn F 0 P ops Q i (fun a' w' => Sh held (listed.setIfInBounds i true) w' ∧ wpAnyS F P ops Q held fuel (listed.setIfInBounds i true) a' w') a w

section
variable {F : Fence} {P : Program} {ops : Array Oper} {Q : Exit → Act → World → Prop} {held : List (Nat × Ent)}

theorem any_of_S : ∀ (fuel : Nat) (listed : Array Bool) (a : Act) (w : World), wpAnyS F P ops Q held fuel listed a w → wpAnyIn F 0 P .any ops Q fuel listed a w
  | 0, _, _, _, h => h
  | fuel + 1, _, _, _, h => ⟨h.1, fun i hi => wpOpIn_mono (fun a' w' h' => any_of_S fuel _ a' w' h'.2) (h.2 i hi)⟩

/-- In frame a, in every world in which E holds, the operation yields v. -/
def YI (P : Program) (ops : Array Oper) (E : List Ent) (o : Oper) (v : Value) (a : Act) : Prop :=
  (Region.wanted o (yielded ops a.tmps) = true ∧ ∀ w, OkL w E → (execOp a.eval o).run P w = .ok (.value v) w) ∨ (Region.wanted o (yielded ops a.tmps) = false ∧ v = undef)

theorem YI.of_same {E : List Ent} {o : Oper} {v : Value} {a a' : Act} (hy : YI P ops E o v a) (he : execOp a'.eval o = execOp a.eval o) (hw : Region.wanted o (yielded ops a'.tmps) = Region.wanted o (yielded ops a.tmps)) : YI P ops E o v a' := by
  unfold YI at *
  rw [he, hw]
  exact hy

theorem YI.wpOp {i : Nat} {o : Oper} {E : List Ent} {v : Value} {a : Act} (hF : FreeF F) (hnd : ∀ c, o.op ≠ .defer c) (hi : ops[i]? = some o) (hy : YI P ops E o v a) {K : Act → World → Prop} {w : World} (hE : OkL w E) (h : K (a.put o.dst v) w) : wpOpIn F 0 P ops Q i K a w := by
  unfold wpOpIn
  simp only [hi]
  rcases hy with ⟨hw, hv⟩ | ⟨hw, rfl⟩
  · simp only [hw, if_true, Oper.wpIn, semAt_plain hnd, hv w hE, Oper.uponIn]; exact ⟨fun f _ => hF.fn f, h⟩
  · simp only [hw, Bool.false_eq_true, if_false]; exact ⟨fun f _ => hF.fn f, h⟩

theorem wpOp_putS {j : Nat} {oi oj : Oper} {E : List Ent} {v : Value} (hndj : ∀ c, oj.op ≠ .defer c) (hj : ops[j]? = some oj) (hap : oi.apart ops oj = true) (hsi : ∀ cs b, oi.op ≠ .select cs b) (hsj : ∀ cs b, oj.op ≠ .select cs b)
    (hQ : ∀ c a w, ¬ Q (.panic c) a w) {K : Act → World → Prop} {a : Act} {w : World} (hy : YI P ops E oi v a) (h : wpOpIn F 0 P ops Q j K (a.put oi.dst v) w) :
    wpOpIn F 0 P ops Q j (fun a' w' => YI P ops E oi v a' ∧ K (a'.put oi.dst v) w') a w := by
  obtain ⟨h1, h2, h3⟩ := Oper.apart_spec hap
  have keep : ∀ (a : Act), YI P ops E oi v a → ∀ u, YI P ops E oi v (a.put oj.dst u) := fun a hy u => hy.of_same (execOp_put oi hsi a oj.dst u h3) (wanted_put oi a oj.dst u h3)
  unfold wpOpIn at *
  simp only [hj] at *
  rw [wanted_put oj a oi.dst v h1, about_put oj w a oi.dst v h1] at h
  split
  · rename_i hw
    simp only [hw, if_true] at h
    unfold Oper.wpIn at *
    rw [about_put oj w a oi.dst v h1] at h
    refine ⟨h.1, ?_⟩
    have h := h.2
    rw [semAt_plain hndj, execOp_put oj hsj a oi.dst v h1] at h
    rw [semAt_plain hndj]
    generalize hr : (execOp a.eval oj).run P w = r at *
    cases r with
    | ok x w' =>
      cases x <;> simp only [Oper.uponIn] at h ⊢
      case value u => exact ⟨keep a hy u, by rw [← Act.put_comm a v u h2]; exact h⟩
      case skip => exact ⟨keep a hy _, by rw [← Act.put_comm a v undef h2]; exact h⟩
      case defer d =>
        refine ⟨(hy.of_same rfl rfl : YI P ops E oi v { a with defers := d :: a.defers }).of_same (execOp_put oi hsi _ oj.dst undef h3) (wanted_put oi _ oj.dst undef h3), ?_⟩
        rw [← Act.put_comm _ v undef h2, ← Act.put_defers]
        exact h
      case enter f args =>
        refine ⟨h.1, CallsIn.mono h.2 fun e w'' he => ?_⟩
        cases e with
        | returned u => exact ⟨keep a hy u, by rw [← Act.put_comm a v u h2]; exact he⟩
        | panicked c => exact absurd he (hQ _ _ _)
        | outgrown => exact he
      case row row args => exact ⟨h.1, RowsIn.mono h.2 fun u w'' he => ⟨keep a hy u, by rw [← Act.put_comm a v u h2]; exact he⟩⟩
      case round l f tmps assign body =>
        refine ⟨h.1, RoundIn.mono h.2 fun e w'' he => ?_⟩
        cases e with
        | returned u => exact ⟨keep a hy u, by rw [← Act.put_comm a v u h2]; exact he⟩
        | panicked c => exact absurd he (hQ _ _ _)
        | outgrown => exact he
    | halt x w' =>
      cases x <;> simp only [Oper.uponIn] at h ⊢
      case panic u => exact absurd h (hQ _ _ _)
  · rename_i hw
    simp only [hw] at h
    exact ⟨h.1, keep a hy _, by rw [← Act.put_comm a v undef h2]; exact h.2⟩

theorem first {i : Nat} {oi : Oper} {v : Value} {E : List Ent} (hF : FreeF F) (hi : ops[i]? = some oi) (hnd : ∀ (j : Nat) (o : Oper) c, ops[j]? = some o → o.op ≠ .defer c) (hsel : ∀ (j : Nat) (o : Oper) cs b, ops[j]? = some o → o.op ≠ .select cs b)
    (hQ : ∀ c a w, ¬ Q (.panic c) a w) (hE : ∀ e ∈ E, ∃ k, (k, e) ∈ held ∧ waits ops k i = true) (hne : ∀ p ∈ held, p.1 ≠ i) :
    ∀ (fuel : Nat) (listed : Array Bool) (a : Act) (w : World),
      (∀ j oj, ops[j]? = some oj → j ≠ i → listed.getD j true = false → (∀ e ∈ oj.after, Region.binds .any e = true → e.on ≠ i) → oi.apart ops oj = true) →
      i ∈ Region.ready .any ops listed → (∀ p ∈ held, waits ops p.1 i = true → listed.getD p.1 false = false) → YI P ops E oi v a → Sh held listed w →
      wpAnyS F P ops Q held fuel (listed.setIfInBounds i true) (a.put oi.dst v) w → wpAnyS F P ops Q held (fuel + 1) listed a w := by
  have hok : ∀ (listed : Array Bool) (w : World), (∀ p ∈ held, waits ops p.1 i = true → listed.getD p.1 false = false) → Sh held listed w → OkL w E := fun listed w hl hs e he => by
    obtain ⟨k, hk, hw⟩ := hE e he
    exact hs (k, e) hk (hl (k, e) hk hw)
  have hset : ∀ (listed : Array Bool) (w : World), Sh held listed w → Sh held (listed.setIfInBounds i true) w := fun listed w hs p hp hl => by
    rw [getD_set_ne false (Ne.symm (hne p hp))] at hl; exact hs p hp hl
  intro fuel
  induction fuel with
  | zero =>
    intro listed a w _ hr hl hy hS H
    refine ⟨fun h => (by rw [h] at hr; cases hr), fun j hj => ?_⟩
    by_cases hji : j = i
    · subst hji; exact hy.wpOp hF (fun c => hnd j oi c hi) hi (hok listed w hl hS) ⟨hset listed w hS, H⟩
    · have := ready_mono hj hji
      rw [H.1] at this
      cases this
  | succ fuel ih =>
    intro listed a w hfree hr hl hy hS H
    refine ⟨fun h => (by rw [h] at hr; cases hr), fun j hj => ?_⟩
    by_cases hji : j = i
    · subst hji; exact hy.wpOp hF (fun c => hnd j oi c hi) hi (hok listed w hl hS) ⟨hset listed w hS, H⟩
    · have h1 := H.2 j (ready_mono hj hji)
      obtain ⟨hjun, oj, hoj, hall⟩ := mem_ready.1 hj
      have hnot : ∀ e ∈ oj.after, Region.binds .any e = true → e.on ≠ i := fun e he hb heq => by
        have h1 := hall e he hb
        have h0 := (mem_ready.1 hr).1
        rw [heq] at h1
        rcases Nat.lt_or_ge i listed.size with h' | h'
        · simp [h'] at h0 h1; rw [h0] at h1; cases h1
        · simp [Array.getElem?_eq_none h'] at h1
      have h2 := wpOp_putS (fun c => hnd j oj c hoj) hoj (hfree j oj hoj hji hjun hnot) (fun cs b => hsel i oi cs b hi) (fun cs b => hsel j oj cs b hoj) hQ hy h1
      have hfree' : ∀ k ok, ops[k]? = some ok → k ≠ i → (listed.setIfInBounds j true).getD k true = false →
          (∀ e ∈ ok.after, Region.binds .any e = true → e.on ≠ i) → oi.apart ops ok = true := fun k ok hk hki hun hno => by
        refine hfree k ok hk hki ?_ hno
        by_cases hjk : j = k
        · subst hjk; exact hjun
        · rw [getD_set_ne true hjk] at hun; exact hun
      have hl' : ∀ p ∈ held, waits ops p.1 i = true → (listed.setIfInBounds j true).getD p.1 false = false := fun p hp hw => by
        by_cases hjp : j = p.1
        · exfalso
          subst hjp
          unfold waits at hw
          rw [hoj] at hw
          obtain ⟨e, he, hb⟩ := List.any_eq_true.1 hw
          rw [Bool.and_eq_true] at hb
          exact hnot e (by simpa using he) hb.1 (Nat.eq_of_beq_eq_true hb.2)
        · rw [getD_set_ne false hjp]; exact hl p hp hw
      refine wpOpIn_mono (fun a' w' h3 => ?_) h2
      obtain ⟨hy', hS', hrest⟩ := h3
      have hS2 : Sh held (listed.setIfInBounds j true) w' := fun p hp hlp => hS' p hp (by
        rw [Array.setIfInBounds_comm _ _ (Ne.symm hji), getD_set_ne false (Ne.symm (hne p hp))]; exact hlp)
      refine ⟨hS2, ih (listed.setIfInBounds j true) a' w' hfree' (ready_mono hr (Ne.symm hji)) hl' hy' hS2 ?_⟩
      rw [Array.setIfInBounds_comm _ _ hji]
      exact hrest
end

/-! ### at the level of slots and entries -/
/-- As Q, but no panic and no way out. -/
def NP (Q : Exit → Act → World → Prop) : Exit → Act → World → Prop
  | .panic _, _, _ => False
  | .outgrown, _, _ => False
  | e, a, w => Q e a w

def WH (F : Fence) (P : Program) (ops : Array Oper) (Q : Exit → Act → World → Prop) (held : List (Nat × Ent)) (fuel : Nat) (listed : Array Bool) (n : Nat) (D : List Deferred) (l : Env) (w0 : World) (L : List Ent) : Prop :=
  FreeF F → ∀ a w, Fr a n D l → St w0 w L → Sh held listed w → wpAnyS F P ops (NP Q) held fuel listed a w

/-- What is left once one operation has come by itself. -/
def NX (F : Fence) (P : Program) (ops : Array Oper) (Q : Exit → Act → World → Prop) (held : List (Nat × Ent)) (fuel : Nat) (listed : Array Bool) : Exit → Act → World → Prop
  | .normal, a, w => Sh held listed w ∧ wpAnyS F P ops (NP Q) held fuel listed a w
  | _, _, _ => False

def plainOps (ops : Array Oper) : Bool := ops.toList.all fun o => match o.op with | .defer _ => false | .select _ _ => false | _ => true

/-- HE held i E: the entries that are held at least till an operation that waits for i. -/
inductive HE (ops : Array Oper) (i : Nat) : List (Nat × Ent) → List Ent → Prop
  | nil : HE ops i [] []
  | keep {k : Nat} {e : Ent} {held : List (Nat × Ent)} {E : List Ent} (hw : waits ops k i = true) (h : HE ops i held E) : HE ops i ((k, e) :: held) (e :: E)
  | drop {k : Nat} {e : Ent} {held : List (Nat × Ent)} {E : List Ent} (h : HE ops i held E) : HE ops i ((k, e) :: held) E

theorem HE.out {ops : Array Oper} {i : Nat} {held : List (Nat × Ent)} {E : List Ent} (h : HE ops i held E) : ∀ e ∈ E, ∃ k, (k, e) ∈ held ∧ waits ops k i = true := by
  induction h with
  | nil => intro e he; cases he
  | keep hw _ ih =>
    intro e he
    rcases List.mem_cons.1 he with rfl | he
    · exact ⟨_, by simp, hw⟩
    · obtain ⟨k, hk, hw⟩ := ih e he; exact ⟨k, by simp [hk], hw⟩
  | drop _ ih => intro e he; obtain ⟨k, hk, hw⟩ := ih e he; exact ⟨k, by simp [hk], hw⟩

/-- HS held listed L: each entry that is still held stands in L. -/
inductive HS (listed : Array Bool) (L : List Ent) : List (Nat × Ent) → Prop
  | nil : HS listed L []
  | keep {k : Nat} {e : Ent} {held : List (Nat × Ent)} {M : List Ent} (ha : At L e M) (h : HS listed L held) : HS listed L ((k, e) :: held)
  | ro {k : Nat} {A : Option Addr} {size n : Nat} {es : List (List Value)} {held : List (Nat × Ent)} (ha : Rds L A size n es) (h : HS listed L held) : HS listed L ((k, .ro A size n es) :: held)
  | gone {k : Nat} {e : Ent} {held : List (Nat × Ent)} (hk : listed.getD k false = true) (h : HS listed L held) : HS listed L ((k, e) :: held)

theorem HS.out {listed : Array Bool} {L : List Ent} {held : List (Nat × Ent)} (h : HS listed L held) {w : World} (hw : OkL w L) : Sh held listed w := by
  induction h with
  | nil => intro p hp; cases hp
  | keep ha _ ih =>
    intro p hp hl
    rcases List.mem_cons.1 hp with rfl | hp
    · exact hw _ ha.mem
    · exact ih p hp hl
  | ro ha _ ih =>
    intro p hp hl
    rcases List.mem_cons.1 hp with rfl | hp
    · exact hw.get ha
    · exact ih p hp hl
  | gone hk _ ih =>
    intro p hp hl
    rcases List.mem_cons.1 hp with rfl | hp
    · rw [hk] at hl; cases hl
    · exact ih p hp hl

section rules
variable {F : Fence} {P : Program} {ops : Array Oper} {Q : Exit → Act → World → Prop} {held : List (Nat × Ent)} {fuel : Nat} {listed : Array Bool} {n : Nat} {D : List Deferred} {l : Env} {w0 : World} {L M : List Ent}

theorem rgD {id : Nat} {os : List Oper} (hm : P.follows .mixedOrders = true) (held : List (Nat × Ent)) (hs : HS (Array.replicate os.toArray.size false) L held)
    (h : WH F P os.toArray Q held os.toArray.size (Array.replicate os.toArray.size false) n D l w0 L) : WC F P (.region id os.toArray true) Q n D l w0 L := by
  intro hF a w hfr hst
  refine wpIn_mono (Q := NP Q) (wpIn_region_any hm (any_of_S _ _ a _ (h hF a _ hfr hst.drew (hs.out hst.drew.ok)))) fun e a w hq => ?_
  cases e <;> first
    | exact hq
    | exact hq.elim

theorem HS.all (listed : Array Bool) (r : Ent → Nat × Ent) (hr : ∀ e, (r e).2 = e) : ∀ (L' L : List Ent), (∀ e ∈ L', ∃ M, At L e M) → HS listed L (L'.map r)
  | [], _, _ => .nil
  | e :: L', L, h => by
    obtain ⟨M, hM⟩ := h e (by simp)
    have := HS.all listed r hr L' L fun x hx => h x (by simp [hx])
    have he := hr e
    rw [List.map_cons]
    cases hre : r e with
    | mk k e' => rw [hre] at he; simp at he; subst he; exact .keep hM this

theorem At.of_mem {e : Ent} : ∀ {L : List Ent}, e ∈ L → ∃ M, At L e M
  | x :: L, h => by
    rcases List.mem_cons.1 h with rfl | h
    · exact ⟨_, .here⟩
    · obtain ⟨M, hM⟩ := At.of_mem h; exact ⟨_, .there hM⟩

/-- No operation of the region turns an entry: all are held. -/
theorem rgD0 {id : Nat} {os : List Oper} (hm : P.follows .mixedOrders = true)
    (h : WH F P os.toArray Q (L.map fun e => (1000000, e)) os.toArray.size (Array.replicate os.toArray.size false) n D l w0 L) : WC F P (.region id os.toArray true) Q n D l w0 L :=
  rgD hm _ (HS.all _ _ (fun _ => rfl) L L fun e he => At.of_mem he) h

theorem WH.sub {l' : Env} (hs : Sub l' l) (h : WH F P ops Q held fuel listed n D l' w0 L) : WH F P ops Q held fuel listed n D l w0 L := fun hF a w hfr hst => h hF a w (hfr.sub hs) hst
theorem WH.subL {L' : List Ent} (hs : SubL L' L) (h : WH F P ops Q held fuel listed n D l w0 L') : WH F P ops Q held fuel listed n D l w0 L := fun hF a w hfr hst => h hF a w hfr (hst.sub hs)

/-- Pure operation i is taken first; its guard, if it has one, is known to say yes. -/
theorem tk (i : Nat) {d : Nat} {op : Op} {ty : TypeId} {pos : String} {aft : Array Edge} {gd : Option (Nat × Bool)} {E : List Ent} {v : Value}
    (hi : ops[i]? = some ⟨some d, op, ty, pos, aft, gd⟩ := by exact rfl) (hg : gd = none ∨ ∃ j b g, gd = some (j, b) ∧ gsl ops j = some g ∧ look l g = some (.bool b) := by first | exact .inl rfl | exact .inr ⟨_, _, _, rfl, rfl, rfl⟩)
    (hE : HE ops i held E := by repeat (first | exact HE.nil | (apply HE.keep; exact rfl) | apply HE.drop)) (hy : Yd P n D l w0 E op v)
    (hc : (plainOps ops && Region.free .any ops listed i && (Region.ready .any ops listed).contains i) = true := by kernel_rfl) (hne : (held.map (·.1)).all (fun k => !Nat.beq k i) = true := by exact rfl)
    (hl : ((held.map (·.1)).all fun k => !waits ops k i || !listed.getD k false) = true := by exact rfl) (hd : Nat.blt d n = true := by rfl)
    (h : WH F P ops Q held fuel (listed.setIfInBounds i true) n D ((d, v) :: l) w0 L) : WH F P ops Q held (fuel + 1) listed n D l w0 L := by
  intro hF a w hfr hst hsh
  simp only [Bool.and_eq_true] at hc
  obtain ⟨⟨hp, hf⟩, hr⟩ := hc
  have hplain : ∀ (j : Nat) (o : Oper), ops[j]? = some o → (∀ c, o.op ≠ .defer c) ∧ ∀ cs b, o.op ≠ .select cs b := fun j o hj => by
    have hm : o ∈ ops.toList := by
      have := List.mem_of_getElem? (l := ops.toList) (i := j) (a := o) (by simpa using hj)
      exact this
    have := List.all_eq_true.1 hp o hm
    refine ⟨fun c hc => ?_, fun cs b hc => ?_⟩ <;> simp [hc] at this
  have hwanted : Region.wanted ⟨some d, op, ty, pos, aft, gd⟩ (yielded ops a.tmps) = true := by
    rcases hg with rfl | ⟨j, b, g, rfl, hgs, hv⟩
    · simp [Region.wanted]
    · simp [Region.wanted, yielded_eq hfr hgs hv]
  refine first hF hi (fun j o c hj => (hplain j o hj).1 c) (fun j o cs b hj => (hplain j o hj).2 cs b) (fun c a w hq => hq) hE.out (fun p hp he => ?_) fuel listed a w (Region.free_spec hi hf) (by simpa using hr) (fun p hp hw => ?_)
    (.inl ⟨hwanted, fun w hE => hy.run _ rfl a w hfr hE⟩) hsh (h hF _ w (hfr.put hd v) hst fun p hp hlp => ?_)
  · have := List.all_eq_true.1 hne p.1 (List.mem_map_of_mem hp)
    rw [he] at this
    simp at this
  · have := List.all_eq_true.1 hl p.1 (List.mem_map_of_mem hp)
    rw [hw] at this
    simpa using this
  · have := List.all_eq_true.1 hne p.1 (List.mem_map_of_mem hp)
    have hpi : p.1 ≠ i := by rintro rfl; simp at this
    rw [getD_set_ne false (Ne.symm hpi)] at hlp
    exact hsh p hp hlp

/-- Operation i is passed over: its guard says no. -/
theorem tkS (i : Nat) {d : Nat} {op : Op} {ty : TypeId} {pos : String} {aft : Array Edge} {j g : Nat} {b : Bool} {v : Value}
    (hi : ops[i]? = some ⟨some d, op, ty, pos, aft, some (j, b)⟩ := by exact rfl) (hgs : gsl ops j = some g := by exact rfl) (hv : look l g = some v := by exact rfl) (hn : noB b v = true := by exact rfl)
    (hc : (plainOps ops && Region.free .any ops listed i && (Region.ready .any ops listed).contains i) = true := by kernel_rfl) (hne : (held.map (·.1)).all (fun k => !Nat.beq k i) = true := by exact rfl)
    (hl : ((held.map (·.1)).all fun k => !waits ops k i || !listed.getD k false) = true := by exact rfl) (hd : Nat.blt d n = true := by rfl)
    (h : WH F P ops Q held fuel (listed.setIfInBounds i true) n D ((d, undef) :: l) w0 L) : WH F P ops Q held (fuel + 1) listed n D l w0 L := by
  intro hF a w hfr hst hsh
  simp only [Bool.and_eq_true] at hc
  obtain ⟨⟨hp, hf⟩, hr⟩ := hc
  have hplain : ∀ (j : Nat) (o : Oper), ops[j]? = some o → (∀ c, o.op ≠ .defer c) ∧ ∀ cs b, o.op ≠ .select cs b := fun j o hj => by
    have hm : o ∈ ops.toList := by
      have := List.mem_of_getElem? (l := ops.toList) (i := j) (a := o) (by simpa using hj)
      exact this
    have := List.all_eq_true.1 hp o hm
    refine ⟨fun c hc => ?_, fun cs b hc => ?_⟩ <;> simp [hc] at this
  have hwanted : Region.wanted ⟨some d, op, ty, pos, aft, some (j, b)⟩ (yielded ops a.tmps) = false := by
    simp only [Region.wanted, yielded_eq hfr hgs hv]
    cases v <;> simp [noB] at hn ⊢
    exact hn
  refine first (E := []) hF hi (fun j o c hj => (hplain j o hj).1 c) (fun j o cs b hj => (hplain j o hj).2 cs b) (fun c a w hq => hq) (fun e he => by cases he) (fun p hp he => ?_) fuel listed a w (Region.free_spec hi hf) (by simpa using hr) (fun p hp hw => ?_)
    (.inr ⟨hwanted, rfl⟩) hsh (h hF _ w (hfr.put hd undef) hst fun p hp hlp => ?_)
  · have := List.all_eq_true.1 hne p.1 (List.mem_map_of_mem hp)
    rw [he] at this
    simp at this
  · have := List.all_eq_true.1 hl p.1 (List.mem_map_of_mem hp)
    rw [hw] at this
    simpa using this
  · have := List.all_eq_true.1 hne p.1 (List.mem_map_of_mem hp)
    have hpi : p.1 ≠ i := by rintro rfl; simp at this
    rw [getD_set_ne false (Ne.symm hpi)] at hlp
    exact hsh p hp hlp

theorem wpOp_of_list {i : Nat} {o : Oper} {a : Act} {w : World} {Q' : Exit → Act → World → Prop} {K : Act → World → Prop} (ho : ops[i]? = some o) (hK : ∀ a w, Q' .normal a w → K a w) (hP : ∀ c a w, ¬ Q' (.panic c) a w) (hO : ¬ LetsOut Q')
    (h : wpListIn F 0 P ops Q' [o] a w) : wpOpIn F 0 P ops Q i K a w := by
  unfold wpOpIn
  simp only [ho]
  change (if _ then _ else _) at h
  split
  · rename_i hw
    rw [if_pos hw] at h
    exact ⟨h.1, uponIn_mono h.2 (fun a w hk => hK a w hk) (fun c a w hk => absurd hk (hP c a w)) (fun hk => absurd hk hO)⟩
  · rename_i hw
    rw [if_neg hw] at h
    exact ⟨h.1, hK _ _ h.2⟩

/-- The operations that may come now: i alone. -/
theorem one (i : Nat) {o : Oper} (hr : Region.ready .any ops listed = [i] := by kernel_rfl) (ho : ops[i]? = some o := by exact rfl)
    (h : WL F P ops (NX F P ops Q held fuel (listed.setIfInBounds i true)) [o] n D l w0 L) : WH F P ops Q held (fuel + 1) listed n D l w0 L := by
  intro hF a w hfr hst _
  refine ⟨fun h0 => absurd (h0.symm.trans hr) (by simp), fun j hj => ?_⟩
  rw [hr] at hj
  simp only [List.mem_singleton] at hj
  subst hj
  exact wpOp_of_list ho (fun a w hk => hk) (fun c a w hk => hk) (fun ⟨a, w, hk⟩ => hk) (h hF a w hfr hst)

/-- Two may come. -/
theorem two (i j : Nat) {o u : Oper} (hr : Region.ready .any ops listed = [i, j] := by kernel_rfl) (ho : ops[i]? = some o := by exact rfl) (hu : ops[j]? = some u := by exact rfl)
    (h1 : WL F P ops (NX F P ops Q held fuel (listed.setIfInBounds i true)) [o] n D l w0 L) (h2 : WL F P ops (NX F P ops Q held fuel (listed.setIfInBounds j true)) [u] n D l w0 L) : WH F P ops Q held (fuel + 1) listed n D l w0 L := by
  intro hF a w hfr hst _
  refine ⟨fun h0 => absurd (h0.symm.trans hr) (by simp), fun k hk => ?_⟩
  rw [hr] at hk
  simp only [List.mem_cons, List.not_mem_nil, or_false] at hk
  rcases hk with rfl | rfl
  · exact wpOp_of_list ho (fun a w hk => hk) (fun c a w hk => hk) (fun ⟨a, w, hk⟩ => hk) (h1 hF a w hfr hst)
  · exact wpOp_of_list hu (fun a w hk => hk) (fun c a w hk => hk) (fun ⟨a, w, hk⟩ => hk) (h2 hF a w hfr hst)

theorem nx (hs : HS listed L held := by repeat (first | exact HS.nil | (apply HS.gone; exact rfl) | (apply HS.keep; (repeat (first | exact At.here | apply At.there))) | (apply HS.ro; (repeat (first | exact Rds.ro | exact Rds.own | apply Rds.there)))))
    (h : WH F P ops Q held fuel listed n D l w0 L) : WL F P ops (NX F P ops Q held fuel listed) [] n D l w0 L := fun hF a w hfr hst => ⟨hs.out hst.ok, h hF a w hfr hst (hs.out hst.ok)⟩

theorem dn (hr : Region.ready .any ops listed = [] := by kernel_rfl) (h : WQ F P Q .normal n D l w0 L) : WH F P ops Q held fuel listed n D l w0 L := by
  intro hF a w hfr hst _
  cases fuel with
  | zero => exact ⟨hr, h hF a w hfr hst⟩
  | succ m => exact ⟨fun _ => h hF a w hfr hst, fun i hi => by rw [hr] at hi; cases hi⟩

/-- The ways part at a guard. -/
theorem brH {g : Nat} {b : Bool} (hv : look l g = some (.bool b)) (ht : b = true → WH F P ops Q held fuel listed n D ((g, .bool true) :: l) w0 L) (hf : b = false → WH F P ops Q held fuel listed n D ((g, .bool false) :: l) w0 L) : WH F P ops Q held fuel listed n D l w0 L := by
  intro hF a w hfr hst
  have hput : ∀ c, b = c → Fr a n D ((g, .bool c) :: l) := fun c hc => ⟨hfr.size, fun k v hk => by
    rw [look_cons] at hk
    by_cases e : g = k
    · subst e; simp at hk; subst hk; exact hfr.slot g _ (by rw [hv, hc])
    · rw [if_neg e] at hk; exact hfr.slot k v hk, hfr.defers⟩
  cases hb : b with
  | true => exact ht hb hF a w (hput true hb) hst
  | false => exact hf hb hF a w (hput false hb) hst

end rules
end Go.Proofs.Ytacaojifempclaa
