/- The texts of the walk, part 1. -/
import Derived.TacticsIn
import Derived.WalkKit
import Derived.Deep.AppendLies
import Derived.RangeFuncLeaves
import Derived.KernelRfl
import Derived.Maps.AppendAt
import Derived.OrdersIn
import Derived.RangeFuncRecord
import Derived.Laws.StructEq
import Derived.Laws.Cover3
import Derived.Lib.SliceRun
import Derived.ChangeKeysEq
import Derived.Laws.MakeOwn
import Derived.ArgAppend
import Derived.Deep.Slices
import Derived.ProofKit
import Derived.OpenShut
import Derived.JoinedCond
import Derived.SizedLaws
namespace Go.Proofs.YtmlhnajgiopfgaaGreat
open Go Go.RowKit

abbrev Env := List (Nat × Value)

def look : Env → Nat → Option Value
  | [], _ => none
  | (i, v) :: l, k => bif Nat.beq i k then some v else look l k

theorem look_cons (i : Nat) (v : Value) (l : Env) (k : Nat) : look ((i, v) :: l) k = if i = k then some v else look l k := by
  by_cases h : i = k
  · subst h; simp [look]
  · have : Nat.beq i k = false := by
      cases hb : Nat.beq i k
      · rfl
      · exact absurd (Nat.eq_of_beq_eq_true hb) h
    show (bif Nat.beq i k then some v else look l k) = _
    simp only [this, cond_false, if_neg h]

structure Fr (a : Act) (n : Nat) (D : List Deferred) (l : Env) : Prop where
  size : a.tmps.size = n
  slot : ∀ k v, look l k = some v → a.tmps[k]? = some v
  defers : a.defers = D

def Sub : Env → Env → Prop
  | [], _ => True
  | (i, v) :: t, l => look l i = some v ∧ Sub t l

theorem Sub.out : ∀ {l' l : Env}, Sub l' l → ∀ k v, look l' k = some v → look l k = some v
  | [], _, _, _, _, h => by simp [look] at h
  | (i, u) :: t, l, ⟨h1, h2⟩, k, v, h => by
    rw [look_cons] at h
    by_cases e : i = k
    · subst e; simp at h; subst h; exact h1
    · rw [if_neg e] at h; exact Sub.out h2 k v h

theorem Fr.sub {a : Act} {n : Nat} {D : List Deferred} {l l' : Env} (h : Fr a n D l) (hs : Sub l' l) : Fr a n D l' :=
  ⟨h.size, fun k v hk => h.slot k v (hs.out k v hk), h.defers⟩

theorem Fr.put {a : Act} {n : Nat} {D : List Deferred} {l : Env} (h : Fr a n D l) {d : Nat} (hd : Nat.blt d n = true) (v : Value) : Fr (a.put (some d) v) n D ((d, v) :: l) := by
  have hlt : d < a.tmps.size := by rw [h.size]; exact (by simpa [Nat.blt_eq] using hd)
  refine ⟨by simp [Act.put, h.size], fun k u hk => ?_, h.defers⟩
  rw [look_cons] at hk
  by_cases e : d = k
  · subst e; simp at hk; subst hk; simp [Act.put, hlt]
  · rw [if_neg e] at hk
    have := h.slot k u hk
    simp only [Act.put]
    rw [Array.getElem?_setIfInBounds_ne e]
    exact this

theorem Fr.put_none {a : Act} {n : Nat} {D : List Deferred} {l : Env} (h : Fr a n D l) (v : Value) : Fr (a.put none v) n D l := h

def ev (l : Env) : Operand → Option Value
  | .tmp t => look l t
  | .const v => some v
  | .func f => some (.func (.func f) #[] #[])
  | .global g => some (.pointer (some ⟨g, 0, none⟩))

theorem Fr.eval {a : Act} {n : Nat} {D : List Deferred} {l : Env} (h : Fr a n D l) {x : Operand} {v : Value} (hx : ev l x = some v) : a.eval x = v := by
  cases x with
  | tmp t =>
    have := h.slot t v hx
    simp [Act.eval, this]
  | const c => simpa [ev, Act.eval] using hx
  | func f => simpa [ev, Act.eval] using hx
  | global g => simpa [ev, Act.eval] using hx

inductive Evs (l : Env) : List Operand → List Value → Prop
  | nil : Evs l [] []
  | cons {x : Operand} {xs : List Operand} {v : Value} {vs : List Value} (h : ev l x = some v) (hs : Evs l xs vs) : Evs l (x :: xs) (v :: vs)

theorem Fr.evals {a : Act} {n : Nat} {D : List Deferred} {l : Env} (h : Fr a n D l) {xs : List Operand} {vs : List Value} (hx : Evs l xs vs) : xs.map a.eval = vs := by
  induction hx with
  | nil => rfl
  | cons h1 _ ih => simp [h.eval h1, ih]

theorem ask_drawn {α : Type} (m : Ask α) : ∀ w : World, w.drawn ≤ (w.ask m).2.drawn := by
  induction m with
  | done a => intro w; exact Nat.le_refl _
  | ask what range k ih =>
    intro w
    unfold World.ask
    dsimp only
    split
    · exact ih _ _
    · exact Nat.le_trans (Nat.le_succ _) (ih _ { w with drawn := w.drawn + 1 })
theorem sys_drawn (w : World) (c : Sys) : w.drawn ≤ (w.sys c).2.drawn := by
  have h := ask_drawn (Kernel.perform c w.os) w
  unfold World.sys
  split
  · exact Nat.le_refl _
  · next heq => rw [heq] at h; exact h
theorem view_drawn {p : Program} {w : World} {at_ : Addr} {u : TypeId} {k : Addr} {v : Value} {b : Bool} {r : World × List Addr} (h : w.viewStore p at_ u k v b = .ok r) : r.1.drawn = w.drawn := by
  unfold World.viewStore at h
  simp only [bind, Except.bind, pure, Except.pure] at h
  repeat' (split at h)
  all_goals first
    | (cases h; done)
    | (cases h; rfl)
theorem far_drawn {p : Program} {w : World} {a : Addr} {v : Value} {b : Bool} {r : World × List Addr} (h : w.farStore p a v b = .ok r) : r.1.drawn = w.drawn := by
  unfold World.farStore at h
  split at h
  · split at h
    · next heq => cases h; exact view_drawn heq
    · cases h
  · cases h
theorem freeze_drawn (w : World) (a : Addr) (n : Nat) : (w.freeze a n).drawn = w.drawn := by
  unfold World.freeze; split <;> rfl
theorem sem_drawn {α : Type} {P : Program} (m : Sem α) : ∀ {w : World} {x : α} {w' : World}, m.run P w = .ok x w' → w.drawn ≤ w'.drawn := by
  induction m with
  | pure a => intro w x w' h; simp only [Sem.run, Result.ok.injEq] at h; rw [h.2]; exact Nat.le_refl _
  | load m a k ih =>
    intro w x w' h
    simp only [Sem.run] at h
    split at h
    · exact ih _ h
    · split at h
      · exact ih _ h
      · cases h
  | store m a v k ih =>
    intro w x w' h
    have key : ∀ v : Value, (match w.cell? a with
      | some _ => if w.frozen? a then Result.halt (.unsupported (.unsafePointer "a write to bytes that a string shares")) w else k.run P (w.setCell a v)
      | none => match w.farStore P a v (m == Mode.atomic) with
        | .ok (w, _) => k.run P w
        | .error h => .halt h w) = .ok x w' → w.drawn ≤ w'.drawn := by
      intro v h
      split at h
      · split at h
        · cases h
        · exact (ih h : (w.setCell a v).drawn ≤ w'.drawn)
      · split at h
        · next heq => have := far_drawn heq; exact this ▸ ih h
        · cases h
    cases v with
    | agg _ => cases h
    | tuple _ => cases h
    | _ => exact key _ h
  | new o k ih => intro w x w' h; simp only [Sem.run] at h; have := ih _ h; exact this
  | shape r k ih => intro w x w' h; simp only [Sem.run] at h; exact ih _ h
  | freeze a n k ih => intro w x w' h; simp only [Sem.run] at h; have := ih h; rwa [freeze_drawn] at this
  | frozen a k ih => intro w x w' h; simp only [Sem.run] at h; exact ih _ h
  | getObj r k ih =>
    intro w x w' h
    simp only [Sem.run] at h
    split at h
    · cases h
    · exact ih _ h
    · cases h
  | setObj r o k ih =>
    intro w x w' h
    simp only [Sem.run] at h
    split at h
    · cases h
    · have := ih h; exact this
    · cases h
  | choose q k ih =>
    intro w x w' h
    simp only [Sem.run] at h
    split at h
    · exact ih _ h
    · exact Nat.le_trans (Nat.le_succ _) (ih _ h)
  | sys c k ih => intro w x w' h; simp only [Sem.run] at h; exact Nat.le_trans (sys_drawn w c) (ih _ h)
  | program k ih => intro w x w' h; simp only [Sem.run] at h; exact ih _ h
  | mark m k ih => intro w x w' h; simp only [Sem.run] at h; exact ih h
  | halt e => intro w x w' h; cases h

structure Blw (B : Nat) (w w' : World) : Prop where
  b : Below B w w'
  dr : w.drawn ≤ w'.drawn
theorem Blw.refl (B : Nat) (w : World) : Blw B w w := ⟨Below.refl B w, Nat.le_refl _⟩
theorem Blw.trans {B : Nat} {a b c : World} (h : Blw B a b) (k : Blw B b c) : Blw B a c := ⟨h.b.trans k.b, Nat.le_trans h.dr k.dr⟩
theorem Blw.alloc {B : Nat} {w w' : World} (h : Blw B w w') (hb : B ≤ w'.heap.size) (o : Obj) : Blw B w (w'.alloc o) := ⟨h.b.alloc hb o, h.dr⟩
theorem Blw.drew {B : Nat} {w w' : World} (h : Blw B w w') : Blw B w { w' with drawn := w'.drawn + 1 } := ⟨h.b.drew, Nat.le_succ_of_le h.dr⟩

theorem block_add (a : Addr) (n : Nat) : (a.add n).block = a.block := by unfold Addr.add; split <;> rfl
theorem add_add' (a : Addr) (i j : Nat) : (a.add i).add j = a.add (i + j) := by
  unfold Addr.add
  by_cases hi : i = 0 <;> by_cases hj : j = 0 <;> simp [hi, hj, Nat.add_assoc]

structure Rd (w : World) (A : Option Addr) (size n : Nat) (es : List (List Value)) : Prop where
  len : es.length = n
  each : ∀ c ∈ es, c.length = size
  some_ : 0 < n → ∃ ad, A = some ad
  cell : ∀ ad, A = some ad → ∀ k cs, es[k]? = some cs → ∀ j v, cs[j]? = some v → w.cell? (ad.add (k * size + j)) = some v
  one : ∀ c ∈ es, ∀ v ∈ c, v.oneCell' = true

theorem Rd.frame {w w' : World} {A : Option Addr} {size n : Nat} {es : List (List Value)} (h : Rd w A size n es)
    (hf : ∀ ad, A = some ad → 0 < n → 0 < size → w'.heap[ad.block]? = w.heap[ad.block]?) : Rd w' A size n es := by
  refine ⟨h.len, h.each, h.some_, fun ad ha k cs hk j v hj => ?_, h.one⟩
  have hkl : k < es.length := (List.getElem?_eq_some_iff.1 hk).1
  have hjl : j < cs.length := (List.getElem?_eq_some_iff.1 hj).1
  have hmem : cs ∈ es := List.mem_of_getElem? hk
  have h1 := h.each cs hmem
  rw [World.cell?_of_block (w := w)]
  · exact h.cell ad ha k cs hk j v hj
  · rw [block_add]; exact hf ad ha (by have := h.len; omega) (by omega)

theorem Rd.lt {w : World} {A : Option Addr} {size n : Nat} {es : List (List Value)} (h : Rd w A size n es) {ad : Addr} (ha : A = some ad) (hn : 0 < n) (hs : 0 < size) : ad.block < w.heap.size := by
  have hl : 0 < es.length := by have := h.len; omega
  have hc := h.each es[0] (List.getElem_mem hl)
  have := h.cell ad ha 0 es[0] (List.getElem?_eq_getElem hl) 0 (es[0][0]'(by omega)) (List.getElem?_eq_getElem _)
  have := World.block_lt_of_cell? w _ this
  rwa [block_add] at this

theorem Rd.nil (w : World) (A : Option Addr) (size : Nat) : Rd w A size 0 [] := by
  refine ⟨rfl, ?_, ?_, ?_, ?_⟩
  · intro c h; cases h
  · intro h; omega
  · intro _ _ k cs h; simp at h
  · intro c h; cases h

inductive Ent where
  | blk (b : Nat) (T : TypeId) (cs : List Value)
  | own (A : Option Addr) (cap : Nat) (T : TypeId) (size n : Nat) (es : List (List Value))
  | ro (A : Option Addr) (size n : Nat) (es : List (List Value))
  | obj (b : Nat) (o : Obj)
  | gen (fresh ex : Bool) (fp : Nat → Prop) (ok : World → Prop) (hf : ∀ w w' : World, (∀ b, fp b → w'.heap[b]? = w.heap[b]?) → ok w → ok w') (hlt : ∀ w b, ok w → fp b → b < w.heap.size)

def Ent.fp : Ent → Nat → Prop
  | .blk b _ _ => fun k => k = b
  | .own A _ _ _ _ _ => fun k => ∃ ad, A = some ad ∧ ad.block = k
  | .ro A size n _ => fun k => ∃ ad, A = some ad ∧ ad.block = k ∧ 0 < n ∧ 0 < size
  | .obj b _ => fun k => k = b
  | .gen _ _ fp _ _ _ => fp

def Ent.excl : Ent → Bool
  | .blk .. | .own .. | .obj .. => true
  | .gen _ x _ _ _ _ => x
  | _ => false

def Ent.fresh : Ent → Bool
  | .ro .. => false
  | .gen f x _ _ _ _ => f || x
  | _ => true

theorem Ent.fresh_of_excl {e : Ent} (h : e.excl = true) : e.fresh = true := by cases e <;> simp_all [Ent.excl, Ent.fresh]

def Ent.ok : Ent → World → Prop
  | .blk b T cs, w => w.heap[b]? = some (.cells cs.toArray T (0, 0))
  | .own A cap T size n es, w => w.ownsRow 0 T size (.slice A n cap) n es.flatten ∧ Rd w A size n es
  | .ro A size n es, w => Rd w A size n es
  | .obj b o, w => w.heap[b]? = some o
  | .gen _ _ _ ok _ _, w => ok w

theorem heap_lt {w : World} {b : Nat} {o : Obj} (h : w.heap[b]? = some o) : b < w.heap.size := (Array.getElem?_eq_some_iff.1 h).1

theorem Ent.ok_lt {e : Ent} {w : World} (h : e.ok w) {b : Nat} (hb : e.fp b) : b < w.heap.size := by
  cases e with
  | blk b' T cs => simp only [Ent.fp] at hb; subst hb; exact heap_lt h
  | own A cap T size n es =>
    obtain ⟨ad, rfl, rfl⟩ := hb
    exact (h.1.lt _ (by simp [Value.ownBlock])).2
  | ro A size n es => obtain ⟨ad, ha, rfl, hn, hs⟩ := hb; exact Rd.lt h ha hn hs
  | obj b' o => simp only [Ent.fp] at hb; subst hb; exact heap_lt h
  | gen fr ex fp ok hf hlt => exact hlt w b h hb

theorem Ent.ok_frame {e : Ent} {w w' : World} (h : e.ok w) (hf : ∀ b, e.fp b → w'.heap[b]? = w.heap[b]?) : e.ok w' := by
  cases e with
  | blk b' T cs => exact (hf b' rfl).trans h
  | own A cap T size n es =>
    refine ⟨⟨h.1.1, ?_⟩, h.2.frame fun ad ha _ _ => hf _ ⟨ad, ha, rfl⟩⟩
    rcases h.1.2 with hn | ⟨g, cap', cur, hv, hg, hh, r⟩
    · exact .inl hn
    · refine .inr ⟨g, cap', cur, hv, hg, ?_, r⟩
      rw [hf g ⟨⟨g, 0, none⟩, by injection hv, rfl⟩]
      exact hh
  | ro A size n es => exact Rd.frame h fun ad ha hn hs => hf _ ⟨ad, ha, rfl, hn, hs⟩
  | obj b' o => exact (hf b' rfl).trans h
  | gen fr ex fp ok hf' hlt => exact hf' w w' hf h

def Ent.apart (e e' : Ent) : Prop := (e.excl = true ∨ e'.excl = true) → ∀ b, e.fp b → e'.fp b → False
theorem Ent.apart.symm {e e' : Ent} (h : e.apart e') : e'.apart e := fun hx b hb hb' => h hx.symm b hb' hb

structure St (w0 w : World) (L : List Ent) : Prop where
  below : Blw w0.heap.size w0 w
  ok : ∀ e ∈ L, e.ok w
  new : ∀ e ∈ L, e.fresh = true → ∀ b, e.fp b → w0.heap.size ≤ b
  sep : L.Pairwise Ent.apart

inductive At : List Ent → Ent → List Ent → Prop
  | here {e : Ent} {L : List Ent} : At (e :: L) e L
  | there {x e : Ent} {L M : List Ent} (h : At L e M) : At (x :: L) e (x :: M)

theorem At.mem {L M : List Ent} {e : Ent} (h : At L e M) : e ∈ L := by
  induction h with
  | here => simp
  | there _ ih => simp [ih]

theorem At.rest {L M : List Ent} {e : Ent} (h : At L e M) : ∀ x ∈ M, x ∈ L := by
  induction h with
  | here => intro x hx; simp [hx]
  | there _ ih =>
    intro x hx
    rcases List.mem_cons.1 hx with rfl | hx
    · simp
    · simp [ih x hx]

theorem At.cases {L M : List Ent} {e : Ent} (h : At L e M) : ∀ x ∈ L, x = e ∨ x ∈ M := by
  induction h with
  | here => intro x hx; simpa using hx
  | there _ ih =>
    intro x hx
    rcases List.mem_cons.1 hx with rfl | hx
    · simp
    · rcases ih x hx with h | h
      · exact .inl h
      · simp [h]

theorem At.pw {L M : List Ent} {e : Ent} (h : At L e M) (hs : L.Pairwise Ent.apart) : M.Pairwise Ent.apart ∧ ∀ x ∈ M, e.apart x := by
  induction h with
  | here => rw [List.pairwise_cons] at hs; exact ⟨hs.2, hs.1⟩
  | there h ih =>
    rw [List.pairwise_cons] at hs
    obtain ⟨i1, i2⟩ := ih hs.2
    refine ⟨List.pairwise_cons.2 ⟨fun y hy => hs.1 y (h.rest y hy), i1⟩, fun y hy => ?_⟩
    rcases List.mem_cons.1 hy with rfl | hy
    · exact (hs.1 _ h.mem).symm
    · exact i2 y hy

theorem St.pull {w0 w : World} {L M : List Ent} {e : Ent} (h : St w0 w L) (ha : At L e M) : St w0 w (e :: M) :=
  ⟨h.below, fun x hx => by
    rcases List.mem_cons.1 hx with rfl | hx
    · exact h.ok _ ha.mem
    · exact h.ok _ (ha.rest x hx),
   fun x hx => by
    rcases List.mem_cons.1 hx with rfl | hx
    · exact h.new _ ha.mem
    · exact h.new _ (ha.rest x hx),
   List.pairwise_cons.2 ⟨(ha.pw h.sep).2, (ha.pw h.sep).1⟩⟩

theorem St.tail {w0 w : World} {M : List Ent} {e : Ent} (h : St w0 w (e :: M)) : St w0 w M :=
  ⟨h.below, fun x hx => h.ok x (by simp [hx]), fun x hx => h.new x (by simp [hx]), (List.pairwise_cons.1 h.sep).2⟩

inductive SubL : List Ent → List Ent → Prop
  | nil {L : List Ent} : SubL [] L
  | cons {e : Ent} {L' L M : List Ent} (h : At L e M) (hs : SubL L' M) : SubL (e :: L') L

theorem SubL.mem {L' L : List Ent} (h : SubL L' L) : ∀ x ∈ L', x ∈ L := by
  induction h with
  | nil => intro x hx; cases hx
  | cons h _ ih =>
    intro x hx
    rcases List.mem_cons.1 hx with rfl | hx
    · exact h.mem
    · exact h.rest x (ih x hx)

theorem St.sub {w0 w : World} {L L' : List Ent} (h : St w0 w L) (hs : SubL L' L) : St w0 w L' := by
  refine ⟨h.below, fun e he => h.ok e (hs.mem e he), fun e he => h.new e (hs.mem e he), ?_⟩
  have hp := h.sep
  clear h
  induction hs with
  | nil => exact List.Pairwise.nil
  | cons ha hs ih => exact List.pairwise_cons.2 ⟨fun y hy => (ha.pw hp).2 y (hs.mem y hy), ih (ha.pw hp).1⟩

theorem SubL.refl : ∀ L : List Ent, SubL L L
  | [] => .nil
  | _ :: L => .cons .here (SubL.refl L)

theorem St.rd {w0 w : World} {L M : List Ent} {A : Option Addr} {size n : Nat} {es : List (List Value)} (h : St w0 w L) (ha : At L (.ro A size n es) M) : Rd w A size n es := h.ok _ ha.mem
inductive Rds : List Ent → Option Addr → Nat → Nat → List (List Value) → Prop
  | ro {A : Option Addr} {size n : Nat} {es : List (List Value)} {L : List Ent} : Rds (.ro A size n es :: L) A size n es
  | own {A : Option Addr} {cap : Nat} {T : TypeId} {size n : Nat} {es : List (List Value)} {L : List Ent} : Rds (.own A cap T size n es :: L) A size n es
  | any {e : Ent} {A : Option Addr} {size n : Nat} {es : List (List Value)} {L : List Ent} (hr : ∀ w, e.ok w → Rd w A size n es) : Rds (e :: L) A size n es
  | there {x : Ent} {A : Option Addr} {size n : Nat} {es : List (List Value)} {L : List Ent} (h : Rds L A size n es) : Rds (x :: L) A size n es

theorem Rds.at_ {L : List Ent} {A : Option Addr} {size n : Nat} {es : List (List Value)} (h : Rds L A size n es) {w : World} (ho : ∀ e ∈ L, e.ok w) : Rd w A size n es := by
  induction h with
  | ro => exact ho (.ro ..) (by simp)
  | own => exact (ho _ (List.mem_cons_self ..)).2
  | any hr => exact hr _ (ho _ (List.mem_cons_self ..))
  | there _ ih => exact ih fun e he => ho e (by simp [he])

theorem St.get {w0 w : World} {L : List Ent} (h : St w0 w L) {A : Option Addr} {size n : Nat} {es : List (List Value)}
    (hr : Rds L A size n es := by repeat (first | exact Rds.ro | exact Rds.own | apply Rds.there)) : Rd w A size n es := hr.at_ h.ok

theorem St.ext {w0 w w' : World} {L : List Ent} (h : St w0 w L) (hb : Blw w.heap.size w w') : St w0 w' L :=
  ⟨h.below.trans ⟨⟨hb.b.os, hb.b.tape, hb.b.output, hb.b.size, fun k hk => hb.b.block k (Nat.lt_of_lt_of_le hk h.below.b.size)⟩, hb.dr⟩,
   fun e he => Ent.ok_frame (h.ok e he) fun b hbf => hb.b.block b (Ent.ok_lt (h.ok e he) hbf), h.new, h.sep⟩

theorem St.drew {w0 w : World} {L : List Ent} (h : St w0 w L) : St w0 { w with drawn := w.drawn + 1 } L := h.ext (Blw.refl _ w).drew

theorem St.add {w0 w w' : World} {L M : List Ent} (h : St w0 w L) (hb : Blw w.heap.size w w') (hok : ∀ e ∈ M, e.ok w') (hnew : ∀ e ∈ M, ∀ b, e.fp b → w.heap.size ≤ b) (hsep : M.Pairwise Ent.apart) : St w0 w' (M ++ L) := by
  have h' := h.ext hb
  refine ⟨h'.below, fun e he => ?_, fun e he hx b hbf => ?_, List.pairwise_append.2 ⟨hsep, h'.sep, fun e he e' he' _ b hb1 hb2 => ?_⟩⟩
  · rcases List.mem_append.1 he with he | he
    · exact hok e he
    · exact h'.ok e he
  · rcases List.mem_append.1 he with he | he
    · exact Nat.le_trans h.below.b.size (hnew e he b hbf)
    · exact h'.new e he hx b hbf
  · have := hnew e he b hb1
    have := Ent.ok_lt (h.ok e' he') hb2
    omega

theorem St.turn {w0 w w' : World} {M : List Ent} {e e' : Ent} (h : St w0 w (e :: M)) (hx : e.excl = true) (hbl : ∀ k, k < w.heap.size → ¬ e.fp k → w'.heap[k]? = w.heap[k]?)
    (hos : w'.os = w.os) (htape : w'.tape = w.tape) (hout : w'.output = w.output) (hsz : w.heap.size ≤ w'.heap.size) (hok : e'.ok w') (hfp : ∀ k, e'.fp k → e.fp k ∨ w.heap.size ≤ k) (hdr : w.drawn ≤ w'.drawn := by exact Nat.le_refl _) : St w0 w' (e' :: M) := by
  have hap := (List.pairwise_cons.1 h.sep).1
  have hfr : ∀ x ∈ M, x.ok w' := fun x hxm => Ent.ok_frame (h.ok x (by simp [hxm])) fun b hb =>
    hbl b (Ent.ok_lt (h.ok x (by simp [hxm])) hb) fun hb' => hap x hxm (.inl hx) b hb' hb
  refine ⟨h.below.trans ⟨⟨hos, htape, hout, hsz, fun k hk => hbl k (Nat.lt_of_lt_of_le hk h.below.b.size) fun hk' => ?_⟩, hdr⟩, fun x hxm => ?_, fun x hxm hxx b hb => ?_, List.pairwise_cons.2 ⟨fun x hxm _ b hb hb' => ?_, (List.pairwise_cons.1 h.sep).2⟩⟩
  · have := h.new e (by simp) (Ent.fresh_of_excl hx) k hk'
    omega
  · rcases List.mem_cons.1 hxm with rfl | hxm
    · exact hok
    · exact hfr x hxm
  · rcases List.mem_cons.1 hxm with rfl | hxm
    · rcases hfp b hb with hb | hb
      · exact h.new e (by simp) (Ent.fresh_of_excl hx) b hb
      · exact Nat.le_trans h.below.b.size hb
    · exact h.new x (by simp [hxm]) hxx b hb
  · rcases hfp b hb with hb | hb
    · exact hap x hxm (.inl hx) b hb hb'
    · have := Ent.ok_lt (h.ok x (by simp [hxm])) hb'
      omega

theorem St.alloc {w0 w : World} {L : List Ent} (h : St w0 w L) (T : TypeId) (cs : Array Value) : St w0 (w.alloc (.cells cs T)) (.blk w.heap.size T cs.toList :: L) := by
  refine St.add (M := [_]) h ((Blw.refl _ w).alloc (Nat.le_refl _) _) (fun e he => ?_) (fun e he b hb => ?_) (List.pairwise_singleton _ _)
  · simp only [List.mem_singleton] at he; subst he
    show (w.alloc _).heap[w.heap.size]? = _
    rw [heap_alloc_new]
  · simp only [List.mem_singleton] at he; subst he
    have : b = w.heap.size := hb
    omega

theorem St.cell {w0 w : World} {L M : List Ent} {b : Nat} {T : TypeId} {cs : List Value} (h : St w0 w L) (ha : At L (.blk b T cs) M) (i : Nat) : w.cell? ⟨b, i, none⟩ = cs[i]? := by
  rw [cell_of_row w b i _ T (0, 0) (h.ok _ ha.mem)]; simp

theorem St.notFrozen {w0 w : World} {L M : List Ent} {b : Nat} {T : TypeId} {cs : List Value} (h : St w0 w L) (ha : At L (.blk b T cs) M) (i : Nat) : w.frozen? ⟨b, i, none⟩ = false :=
  frozen_of_row w b i _ T (h.ok _ ha.mem)

theorem St.setCell {w0 w : World} {M : List Ent} {b : Nat} {T : TypeId} {cs : List Value} (h : St w0 w (.blk b T cs :: M)) (i : Nat) (v : Value) : St w0 (w.setCell ⟨b, i, none⟩ v) (.blk b T (cs.set i v) :: M) := by
  have hb := h.ok (.blk b T cs) (by simp)
  refine h.turn rfl (fun k _ hk => heap_setCell_other w _ k v fun e => hk e) rfl rfl rfl (by simp) ?_ (fun k hk => .inl hk)
  show (w.setCell _ v).heap[b]? = _
  rw [heap_setCell_same w b i cs.toArray T v hb]
  simp

theorem St.init (w : World) : St w w [] := ⟨Blw.refl _ w, fun e he => (by cases he), fun e he => (by cases he), List.Pairwise.nil⟩

theorem St.share {w0 w : World} {L : List Ent} (h : St w0 w L) {e : Ent} (ho : e.ok w) (hx : e.excl = false) (hf : e.fresh = false) (hl : L.all (fun x => !x.excl) = true) : St w0 w (e :: L) := by
  refine ⟨h.below, fun x hxm => ?_, fun x hxm hxx b hb => ?_, List.pairwise_cons.2 ⟨fun x hxm hor => ?_, h.sep⟩⟩
  · rcases List.mem_cons.1 hxm with rfl | hxm
    · exact ho
    · exact h.ok x hxm
  · rcases List.mem_cons.1 hxm with rfl | hxm
    · rw [hf] at hxx; cases hxx
    · exact h.new x hxm hxx b hb
  · have := List.all_eq_true.1 hl x hxm
    rcases hor with hor | hor
    · rw [hx] at hor; cases hor
    · rw [hor] at this; cases this

theorem St.join {w0 w w' : World} {L M : List Ent} (h : St w0 w L) (h' : St w w' M) (hf : M.all Ent.fresh = true) : St w0 w' (M ++ L) :=
  h.add h'.below h'.ok (fun e he b hb => h'.new e he (List.all_eq_true.1 hf e he) b hb) h'.sep

def OkL (w : World) (L : List Ent) : Prop := ∀ e ∈ L, e.ok w
theorem OkL.get {w : World} {L : List Ent} (h : OkL w L) {A : Option Addr} {size n : Nat} {es : List (List Value)} (hr : Rds L A size n es) : Rd w A size n es := hr.at_ h
theorem OkL.cell {w : World} {L M : List Ent} {b : Nat} {T : TypeId} {cs : List Value} (h : OkL w L) (ha : At L (.blk b T cs) M) (i : Nat) : w.cell? ⟨b, i, none⟩ = cs[i]? := by
  rw [cell_of_row w b i _ T (0, 0) (h _ ha.mem)]; simp

end Go.Proofs.YtmlhnajgiopfgaaGreat

namespace Go.Proofs.YtmlhnajgiopfgaaGreat
open Go Go.RowKit

def aggD : TypeDesc → Bool
  | .struct _ | .array _ _ => true
  | _ => false

class Ty (P : Program) (t : TypeId) (agg : outParam Bool) (size bytes : outParam Nat) (z : outParam Value) (zl : outParam (List Value)) : Prop where
  info : (P.info? t).map (fun i => (i.zero, i.size, i.bytes)) = some (some z, size, bytes)
  und : (P.underlying t).map aggD = some agg
  zc : z.cells = zl.toArray
  zs : zl.length = size

class SliceTy (P : Program) (t : TypeId) (e : outParam TypeId) : Prop where
  und : P.underlying t = some (.slice e)

class ArrayTy (P : Program) (t : TypeId) (len : outParam Nat) (e : outParam TypeId) : Prop where
  und : P.underlying t = some (.array len e)

def fldD (k : Nat) : TypeDesc → Option (Nat × TypeId)
  | .struct fs => (fs[k]?).map fun f => (f.offset, f.type)
  | _ => none

class FieldTy (P : Program) (s k : Nat) (off : outParam Nat) (ft : outParam TypeId) (size : outParam Nat) : Prop where
  und : (P.underlying s).bind (fldD k) = some (off, ft)
  nz : (P.info? ft).map (·.size) = some (size + 1)

section
variable {P : Program}

theorem ty_info {t : TypeId} {agg : Bool} {size bytes : Nat} {z : Value} {zl : List Value} (h : Ty P t agg size bytes z zl) : ∃ i, P.info? t = some i ∧ i.size = size ∧ i.bytes = bytes ∧ i.zero = some z := by
  have := h.info
  cases hq : P.info? t with
  | none => simp [hq] at this
  | some i => simp [hq] at this; exact ⟨i, rfl, this.2.1, this.2.2, this.1⟩

theorem run_sizeOf {t : TypeId} {agg : Bool} {size bytes : Nat} {z : Value} {zl : List Value} (h : Ty P t agg size bytes z zl) (w : World) : (sizeOf t).run P w = .ok size w := by
  obtain ⟨i, hi, hs, _, _⟩ := ty_info h
  simp [sizeOf, typeInfo, hi, hs]

theorem run_zeroValue {t : TypeId} {agg : Bool} {size bytes : Nat} {z : Value} {zl : List Value} (h : Ty P t agg size bytes z zl) (w : World) : (zeroValue t).run P w = .ok z w := by
  obtain ⟨i, hi, _, _, hz⟩ := ty_info h
  simp [zeroValue, typeInfo, hi, hz]

theorem run_isAgg {t : TypeId} {agg : Bool} {size bytes : Nat} {z : Value} {zl : List Value} (h : Ty P t agg size bytes z zl) (w : World) : (isAgg t).run P w = .ok agg w := by
  have hu := h.und
  cases hq : P.underlying t with
  | none => simp [hq] at hu
  | some d =>
    simp [hq] at hu
    unfold isAgg
    rw [Sem.run_bind, run_underlying hq w]
    simp only [Result.andThen_ok]
    cases d <;> simp [aggD] at hu <;> subst hu <;> rfl

theorem run_loadVar1 {t : TypeId} {size bytes : Nat} {z : Value} {zl : List Value} (h : Ty P t false size bytes z zl) {w : World} {a : Addr} {v : Value} (hc : w.cell? a = some v) : (loadVar t a).run P w = .ok v w := by
  simp [loadVar, Sem.run_bind, run_isAgg h, hc]

theorem run_loadVarA {t : TypeId} {size bytes : Nat} {z : Value} {zl : List Value} (h : Ty P t true size bytes z zl) {w : World} {a : Addr} {vs : List Value} (hl : vs.length = size) (hc : ∀ j v, vs[j]? = some v → w.cell? (a.add j) = some v) :
    (loadVar t a).run P w = .ok (.agg vs.toArray) w := by
  have := run_loadCells_list (P := P) w a vs hc
  rw [hl] at this
  simp [loadVar, Sem.run_bind, run_isAgg h, run_sizeOf h, this]

theorem run_storeCells1 {w : World} {a : Addr} {v u : Value} (h1 : v.oneCell' = true) (hc : w.cell? a = some u) (hf : w.frozen? a = false) : (storeCells a [v]).run P w = .ok () (w.setCell a v) := by
  have e : a.add 0 = a := Addr.add_zero' a
  simp [storeCells, run_store P w _ v _ h1, e, hc, hf]

end

structure FreeF (F : Fence) : Prop where
  fn : ∀ f, F.fn f
  depth : F.depth = none
  alive : F.alive = false

def WL (F : Fence) (P : Program) (ops : Array Oper) (Q : Exit → Act → World → Prop) (rest : List Oper) (n : Nat) (D : List Deferred) (l : Env) (w0 : World) (L : List Ent) : Prop :=
  FreeF F → ∀ a w, Fr a n D l → St w0 w L → wpListIn F 0 P ops Q rest a w

theorem semAt_plain {r : Option Nat} {ρ : Operand → Value} {o : Oper} (h : ∀ c, o.op ≠ .defer c) : Oper.semAt r ρ o = execOp ρ o := by
  cases r with
  | none => exact Oper.semAt_none ..
  | some l => exact Oper.semAt_some l ρ o h

section rules
variable {F : Fence} {P : Program} {ops : Array Oper} {Q : Exit → Act → World → Prop} {rest : List Oper} {n : Nat} {D : List Deferred} {l : Env} {w0 : World} {L M : List Ent}
variable {d : Nat} {ty : TypeId} {pos : String} {aft : Array Edge}

theorem WL.value {op : Op} {X : Type} {φ : X → Prop} {val : X → Value} {L' : X → List Ent} (hnd : ∀ c, op ≠ .defer c) (hd : Nat.blt d n = true)
    (hrun : ∀ a w, Fr a n D l → St w0 w L → ∃ x w', φ x ∧ (execOp a.eval ⟨some d, op, ty, pos, aft, none⟩).run P w = .ok (.value (val x)) w' ∧ St w0 w' (L' x))
    (h : ∀ x, φ x → WL F P ops Q rest n D ((d, val x) :: l) w0 (L' x)) : WL F P ops Q (⟨some d, op, ty, pos, aft, none⟩ :: rest) n D l w0 L := by
  intro hF a w hfr hst
  obtain ⟨x, w', hx, hr, hst'⟩ := hrun a w hfr hst
  show (if _ then _ else _)
  rw [if_pos (by simp [Region.wanted])]
  refine ⟨fun f _ => hF.fn f, ?_⟩
  rw [semAt_plain hnd, hr]
  exact h x hx hF _ w' (hfr.put hd _) hst'

theorem WL.pure1 {op : Op} {v : Value} (hnd : ∀ c, op ≠ .defer c) (hd : Nat.blt d n = true)
    (hrun : ∀ a w, Fr a n D l → St w0 w L → (execOp a.eval ⟨some d, op, ty, pos, aft, none⟩).run P w = .ok (.value v) w)
    (h : WL F P ops Q rest n D ((d, v) :: l) w0 L) : WL F P ops Q (⟨some d, op, ty, pos, aft, none⟩ :: rest) n D l w0 L :=
  WL.value (X := Unit) (φ := fun _ => True) (val := fun _ => v) (L' := fun _ => L) hnd hd (fun a w hfr hst => ⟨(), w, trivial, hrun a w hfr hst, hst⟩) (fun _ _ => h)

structure Yd (P : Program) (n : Nat) (D : List Deferred) (l : Env) (w0 : World) (L : List Ent) (op : Op) (v : Value) : Prop where
  nd : ∀ c, op ≠ .defer c
  nsel : ∀ cs b, op ≠ .select cs b
  run : ∀ (o : Oper), o.op = op → ∀ a w, Fr a n D l → OkL w L → (execOp a.eval o).run P w = .ok (.value v) w

theorem WL.y {op : Op} {v : Value} (hy : Yd P n D l w0 L op v) (hd : Nat.blt d n = true := by rfl)
    (h : WL F P ops Q rest n D ((d, v) :: l) w0 L) : WL F P ops Q (⟨some d, op, ty, pos, aft, none⟩ :: rest) n D l w0 L :=
  WL.pure1 hy.nd hd (fun a w hfr hst => hy.run _ rfl a w hfr hst.ok) h

theorem WL.skipop {op : Op} {L' : List Ent} (hnd : ∀ c, op ≠ .defer c)
    (hrun : ∀ a w, Fr a n D l → St w0 w L → ∃ w', (execOp a.eval ⟨none, op, ty, pos, aft, none⟩).run P w = .ok .skip w' ∧ St w0 w' L')
    (h : WL F P ops Q rest n D l w0 L') : WL F P ops Q (⟨none, op, ty, pos, aft, none⟩ :: rest) n D l w0 L := by
  intro hF a w hfr hst
  obtain ⟨w', hr, hst'⟩ := hrun a w hfr hst
  show (if _ then _ else _)
  rw [if_pos (by simp [Region.wanted])]
  refine ⟨fun f _ => hF.fn f, ?_⟩
  rw [semAt_plain hnd, hr]
  exact h hF _ w' (hfr.put_none _) hst'

theorem WL.sub {l' : Env} (hs : Sub l' l) (h : WL F P ops Q rest n D l' w0 L) : WL F P ops Q rest n D l w0 L := fun hF a w hfr hst => h hF a w (hfr.sub hs) hst
theorem WL.subL {L' : List Ent} (hs : SubL L' L) (h : WL F P ops Q rest n D l w0 L') : WL F P ops Q rest n D l w0 L := fun hF a w hfr hst => h hF a w hfr (hst.sub hs)
theorem WL.know {p : Prop} (hp : ∀ w, St w0 w L → p) (h : p → WL F P ops Q rest n D l w0 L) : WL F P ops Q rest n D l w0 L := fun hF a w hfr hst => h (hp w hst) hF a w hfr hst

theorem mv {x : Operand} {v : Value} (hx : ev l x = some v := by exact rfl) : Yd P n D l w0 L (.move x) (v) :=
  ⟨by simp, by simp, fun oo ho a w hfr _ => by simp [execOp, ho, hfr.eval hx]⟩

theorem asg {x : Operand} {v : Value} (hx : ev l x = some v := by exact rfl) : Yd P n D l w0 L (.assign x) (v) :=
  ⟨by simp, by simp, fun oo ho a w hfr _ => by simp [execOp, ho, hfr.eval hx]⟩

theorem pkT {c x y : Operand} {v : Value} (hc : ev l c = some (.bool true) := by exact rfl) (hx : ev l x = some v := by exact rfl) : Yd P n D l w0 L (.pick c x y) (v) :=
  ⟨by simp, by simp, fun oo ho a w hfr _ => by simp [execOp, ho, hfr.eval hc, hfr.eval hx, asBool]⟩

theorem pkF {c x y : Operand} {v : Value} (hc : ev l c = some (.bool false) := by exact rfl) (hy : ev l y = some v := by exact rfl) : Yd P n D l w0 L (.pick c x y) (v) :=
  ⟨by simp, by simp, fun oo ho a w hfr _ => by simp [execOp, ho, hfr.eval hc, hfr.eval hy, asBool]⟩

theorem lss {x y : Operand} {a b : Int} {k : IntKind} {t u : TypeId} (hx : ev l x = some (.int k a) := by exact rfl) (hy : ev l y = some (.int k b) := by exact rfl) : Yd P n D l w0 L (.binOp .lss t x y u) (.bool (decide (a < b))) :=
  ⟨by simp, by simp, fun oo ho ac w hfr _ => by simp [execOp, ho, hfr.eval hx, hfr.eval hy, eqGuard_lss, binOp_lss]⟩
theorem leq {x y : Operand} {a b : Int} {k : IntKind} {t u : TypeId} (hx : ev l x = some (.int k a) := by exact rfl) (hy : ev l y = some (.int k b) := by exact rfl) : Yd P n D l w0 L (.binOp .leq t x y u) (.bool (decide (a ≤ b))) :=
  ⟨by simp, by simp, fun oo ho ac w hfr _ => by simp [execOp, ho, hfr.eval hx, hfr.eval hy, eqGuard_leq, binOp_leq]⟩
theorem gtr {x y : Operand} {a b : Int} {k : IntKind} {t u : TypeId} (hx : ev l x = some (.int k a) := by exact rfl) (hy : ev l y = some (.int k b) := by exact rfl) : Yd P n D l w0 L (.binOp .gtr t x y u) (.bool (decide (b < a))) :=
  ⟨by simp, by simp, fun oo ho ac w hfr _ => by simp [execOp, ho, hfr.eval hx, hfr.eval hy, eqGuard_gtr, binOp_gtr]⟩
theorem geq {x y : Operand} {a b : Int} {k : IntKind} {t u : TypeId} (hx : ev l x = some (.int k a) := by exact rfl) (hy : ev l y = some (.int k b) := by exact rfl) : Yd P n D l w0 L (.binOp .geq t x y u) (.bool (decide (b ≤ a))) :=
  ⟨by simp, by simp, fun oo ho ac w hfr _ => by simp [execOp, ho, hfr.eval hx, hfr.eval hy, eqGuard_geq, binOp_geq]⟩
theorem eql {x y : Operand} {a b : Int} {k : IntKind} {t u : TypeId} (hx : ev l x = some (.int k a) := by exact rfl) (hy : ev l y = some (.int k b) := by exact rfl) : Yd P n D l w0 L (.binOp .eql t x y u) (.bool (decide (a = b))) :=
  ⟨by simp, by simp, fun oo ho ac w hfr _ => by simp [execOp, ho, hfr.eval hx, hfr.eval hy, eqGuard_at_int, binOp_eql]; rfl⟩
theorem neq {x y : Operand} {a b : Int} {k : IntKind} {t u : TypeId} (hx : ev l x = some (.int k a) := by exact rfl) (hy : ev l y = some (.int k b) := by exact rfl) : Yd P n D l w0 L (.binOp .neq t x y u) (.bool (!decide (a = b))) :=
  ⟨by simp, by simp, fun oo ho ac w hfr _ => by simp [execOp, ho, hfr.eval hx, hfr.eval hy, eqGuard_at_int, binOp_neq]; rfl⟩

theorem eqlB {x y : Operand} {a b : Bool} {t u : TypeId} (hb : P.underlying t = some .bool := by kernel_rfl) (hx : ev l x = some (.bool a) := by exact rfl) (hy : ev l y = some (.bool b) := by exact rfl) : Yd P n D l w0 L (.binOp .eql t x y u) (.bool (a == b)) :=
  ⟨by simp, by simp, fun oo ho ac w hfr _ => by
    have : ∀ d : Nat, (Op.equalIn (d + 1) t (.bool a) (.bool b)).run P w = .ok (a == b) w := fun d => by
      simp [Op.equalIn, run_underlying hb]
    simp [execOp, ho, hfr.eval hx, hfr.eval hy, eqGuard_at_bool, binOp, Op.equal, Op.maxDepth, this 9999]⟩
theorem addI {x y : Operand} {a b : Int} {t u : TypeId} (hx : ev l x = some (.int .i64 a) := by exact rfl) (hy : ev l y = some (.int .i64 b) := by exact rfl) 
    (hb : -9223372036854775808 ≤ a + b ∧ a + b ≤ 9223372036854775807 := by omega) : Yd P n D l w0 L (.binOp .add t x y u) (.int .i64 (a + b)) :=
  ⟨by simp, by simp, fun oo ho ac w hfr _ => by simp [execOp, ho, hfr.eval hx, hfr.eval hy, eqGuard_add, binOp_add, Op.intArith, IntWalk.i64_in _ hb]⟩
theorem subI {x y : Operand} {a b : Int} {t u : TypeId} (hx : ev l x = some (.int .i64 a) := by exact rfl) (hy : ev l y = some (.int .i64 b) := by exact rfl) 
    (hb : -9223372036854775808 ≤ a - b ∧ a - b ≤ 9223372036854775807 := by omega) : Yd P n D l w0 L (.binOp .sub t x y u) (.int .i64 (a - b)) :=
  ⟨by simp, by simp, fun oo ho ac w hfr _ => by simp [execOp, ho, hfr.eval hx, hfr.eval hy, eqGuard_sub, binOp_sub, Op.intArith, IntWalk.i64_in _ hb]⟩
theorem mulI {x y : Operand} {a b : Int} {t u : TypeId} (hx : ev l x = some (.int .i64 a) := by exact rfl) (hy : ev l y = some (.int .i64 b) := by exact rfl) 
    (hb : -9223372036854775808 ≤ a * b ∧ a * b ≤ 9223372036854775807 := by omega) : Yd P n D l w0 L (.binOp .mul t x y u) (.int .i64 (a * b)) :=
  ⟨by simp, by simp, fun oo ho ac w hfr _ => by simp [execOp, ho, hfr.eval hx, hfr.eval hy, eqGuard_mul, binOp_mul, Op.intArith, IntWalk.i64_in _ hb]⟩
theorem quoI {x y : Operand} {a b : Int} {t u : TypeId} (hx : ev l x = some (.int .i64 a) := by exact rfl) (hy : ev l y = some (.int .i64 b) := by exact rfl) 
    (hb : 0 ≤ a ∧ a ≤ 9223372036854775807 ∧ 1 ≤ b := by omega) : Yd P n D l w0 L (.binOp .quo t x y u) (.int .i64 (a / b)) :=
  ⟨by simp, by simp, fun oo ho ac w hfr _ => by
    have h0 : ¬ b = 0 := by omega
    simp [execOp, ho, hfr.eval hx, hfr.eval hy, eqGuard_quo, binOp_quo, Op.intDiv, h0, IntWalk.i64_quo _ _ hb]⟩
theorem remI {x y : Operand} {a b : Int} {t u : TypeId} (hx : ev l x = some (.int .i64 a) := by exact rfl) (hy : ev l y = some (.int .i64 b) := by exact rfl) 
    (hb : 0 ≤ a ∧ 1 ≤ b := by omega) : Yd P n D l w0 L (.binOp .rem t x y u) (.int .i64 (a % b)) :=
  ⟨by simp, by simp, fun oo ho ac w hfr _ => by
    have h0 : ¬ b = 0 := by omega
    simp [execOp, ho, hfr.eval hx, hfr.eval hy, eqGuard_rem, binOp_rem, Op.intDiv, h0, IntWalk.rem_in _ _ hb.1]⟩
theorem notB {x : Operand} {b : Bool} {t : TypeId} (hx : ev l x = some (.bool b) := by exact rfl) : Yd P n D l w0 L (.unOp .not t x) (.bool (!b)) :=
  ⟨by simp, by simp, fun oo ho ac w hfr _ => by simp [execOp, ho, hfr.eval hx, Op.unary]⟩
theorem ex {x : Operand} {vs : List Value} {i : Nat} {v : Value} (hx : ev l x = some (.tuple vs.toArray) := by exact rfl) (hv : vs[i]? = some v := by exact rfl) : Yd P n D l w0 L (.extract x i) (v) :=
  ⟨by simp, by simp, fun oo ho ac w hfr _ => by
    have hv' : vs.toArray[i]? = some v := by simpa using hv
    simp [execOp, ho, hfr.eval hx, Instr.extract, hv']⟩

theorem mkf {fn : Fn} {first captured : List Operand} {vs us : List Value} (hf : Evs l first vs := by repeat (first | exact Evs.nil | (apply Evs.cons; exact rfl))) (hc : Evs l captured us := by repeat (first | exact Evs.nil | (apply Evs.cons; exact rfl))) : Yd P n D l w0 L (.makeFunc fn first.toArray captured.toArray) (.func fn vs.toArray us.toArray) :=
  ⟨by simp, by simp, fun oo ho ac w hfr _ => by simp [execOp, ho, Instr.makeFunc, hfr.evals hf, hfr.evals hc]⟩

theorem minI {x y : Operand} {a b : Int} {k : IntKind} {ts : Array TypeId} (hx : ev l x = some (.int k a) := by exact rfl) (hy : ev l y = some (.int k b) := by exact rfl) : Yd P n D l w0 L (.call { callee := .builtin .min, args := #[x, y], argTypes := ts }) (.int k (min a b)) :=
  ⟨by simp, by simp, fun oo ho ac w hfr _ => by
    have : (if b < a then b else a) = min a b := by omega
    simp [execOp, ho, resolve, invoke, builtin, hfr.eval hx, hfr.eval hy, Builtin.min_, Builtin.min2, this]⟩
theorem maxI {x y : Operand} {a b : Int} {k : IntKind} {ts : Array TypeId} (hx : ev l x = some (.int k a) := by exact rfl) (hy : ev l y = some (.int k b) := by exact rfl) : Yd P n D l w0 L (.call { callee := .builtin .max, args := #[x, y], argTypes := ts }) (.int k (max a b)) :=
  ⟨by simp, by simp, fun oo ho ac w hfr _ => by
    have : (if a < b then b else a) = max a b := by omega
    simp [execOp, ho, resolve, invoke, builtin, hfr.eval hx, hfr.eval hy, Builtin.max_, Builtin.max2, this]⟩
theorem lenS {x : Operand} {A : Option Addr} {m c : Nat} {t e : TypeId} (hT : SliceTy P t e := by infer_instance) (hx : ev l x = some (.slice A m c) := by exact rfl) : Yd P n D l w0 L (.call { callee := .builtin .len, args := #[x], argTypes := #[t] }) (.int .i64 m) :=
  ⟨by simp, by simp, fun oo ho ac w hfr _ => by
    simp [execOp, ho, resolve, invoke, builtin, hfr.eval hx, Builtin.len_, run_underlying hT.und, goInt]⟩

end rules
/-! #### short names of side goals -/
theorem rdz_ {L : List Ent} {A : Option Addr} {size n : Nat} {es : List (List Value)} (h : Rds L A size n es := by repeat (first | exact Rds.ro | exact Rds.own | apply Rds.there)) : Rds L A size n es := h
theorem atz_ {L M : List Ent} {e : Ent} (h : At L e M := by repeat (first | exact At.here | apply At.there)) : At L e M := h
theorem slz_ {L M : List Ent} (h : SubL L M := by repeat (first | exact SubL.nil | (apply SubL.cons; (repeat (first | exact At.here | apply At.there))) | exact SubL.refl _ | apply SubL.skip)) : SubL L M := h
theorem sbz_ {l l' : Env} (h : Sub l l' := by repeat (first | exact trivial | refine ⟨rfl, ?_⟩)) : Sub l l' := h
theorem wy {F : Fence} {P : Program} {ops : Array Oper} {Q : Exit → Act → World → Prop} {rest : List Oper} {n : Nat} {D : List Deferred} {l : Env} {w0 : World} {L : List Ent} {d : Nat} {ty : TypeId} {pos : String} {aft : Array Edge} {op : Op} {v : Value} (hy : Yd P n D l w0 L op v)
    (h : WL F P ops Q rest n D ((d, v) :: l) w0 L) (hd : Nat.blt d n = true := by rfl) : WL F P ops Q (⟨some d, op, ty, pos, aft, none⟩ :: rest) n D l w0 L := WL.y hy hd h
end Go.Proofs.YtmlhnajgiopfgaaGreat

namespace Go.Proofs.YtmlhnajgiopfgaaGreat
open Go Go.RowKit

def pe (A : Option Addr) (size k j : Nat) : Value := .pointer (some ((A.getD ⟨0, 0, none⟩).add (k * size + j)))

inductive Tk {α : Type} : List α → Nat → Nat → List α → Prop
  | nil {l : List α} : Tk l 0 0 []
  | cons {x : α} {l : List α} {m : Nat} {r : List α} (h : Tk l 0 m r) : Tk (x :: l) 0 (m + 1) (x :: r)
  | skip {x : α} {l : List α} {o m : Nat} {r : List α} (h : Tk l o m r) : Tk (x :: l) (o + 1) m r

theorem Tk.out {α : Type} {l : List α} {o m : Nat} {r : List α} (h : Tk l o m r) : r.length = m ∧ ∀ j v, r[j]? = some v → l[o + j]? = some v := by
  induction h with
  | nil => simp
  | cons _ ih =>
    refine ⟨by simp [ih.1], fun j v hj => ?_⟩
    cases j with
    | zero => simpa using hj
    | succ j => have := ih.2 j v (by simpa using hj); simpa using this
  | skip _ ih =>
    refine ⟨ih.1, fun j v hj => ?_⟩
    rw [Nat.add_right_comm]
    simpa using ih.2 j v hj

inductive PutR {α : Type} : List α → Nat → List α → List α → Prop
  | nil {l : List α} {o : Nat} : PutR l o [] l
  | put {x v : α} {l vs l' : List α} (h : PutR l 0 vs l') : PutR (x :: l) 0 (v :: vs) (v :: l')
  | skip {x : α} {l vs l' : List α} {o : Nat} (h : PutR l o vs l') : PutR (x :: l) (o + 1) vs (x :: l')

def putAll {α : Type} (l : List α) (o : Nat) : List α → List α
  | [] => l
  | v :: vs => putAll (l.set o v) (o + 1) vs

theorem putAll_cons {α : Type} (x : α) : ∀ (vs l : List α) (o : Nat), putAll (x :: l) (o + 1) vs = x :: putAll l o vs
  | [], _, _ => rfl
  | v :: vs, l, o => by simp only [putAll, List.set_cons_succ]; exact putAll_cons x vs _ _

theorem PutR.out {α : Type} {l vs l' : List α} {o : Nat} (h : PutR l o vs l') : l' = putAll l o vs ∧ (vs ≠ [] → o + vs.length ≤ l.length) := by
  induction h with
  | nil => exact ⟨rfl, fun h => absurd rfl h⟩
  | @put x v l vs l' h ih =>
    refine ⟨?_, fun _ => ?_⟩
    · simp only [putAll, List.set_cons_zero]; rw [putAll_cons, ih.1]
    · cases vs with
      | nil => simp
      | cons u vs => have := ih.2 (by simp); simp at this ⊢; omega
  | skip h ih =>
    refine ⟨by rw [putAll_cons, ih.1], fun hv => ?_⟩
    have := ih.2 hv
    simp; omega

theorem add_lit (b o i : Nat) : (⟨b, o, none⟩ : Addr).add i = ⟨b, o + i, none⟩ := Addr.add_lit b o i

section
variable {P : Program}

theorem run_storeCells {w0 : World} {M : List Ent} {b : Nat} {T : TypeId} : ∀ (vs cs : List Value) (o i : Nat) (w : World), St w0 w (.blk b T cs :: M) → (vs ≠ [] → o + i + vs.length ≤ cs.length) → (∀ v ∈ vs, v.oneCell' = true) →
    ∃ w', (storeCells ⟨b, o, none⟩ vs i).run P w = .ok () w' ∧ St w0 w' (.blk b T (putAll cs (o + i) vs) :: M)
  | [], cs, o, i, w, h, _, _ => ⟨w, by simp [storeCells], h⟩
  | v :: vs, cs, o, i, w, h, hl, h1 => by
    have hl' : o + i + (vs.length + 1) ≤ cs.length := by simpa using hl (by simp)
    have hc : w.cell? ⟨b, o + i, none⟩ = some (cs[o + i]'(by omega)) := by rw [h.cell .here, List.getElem?_eq_getElem (by omega)]
    have hf := h.notFrozen .here (o + i)
    obtain ⟨w', hr, hs⟩ := run_storeCells vs (cs.set (o + i) v) o (i + 1) (w.setCell ⟨b, o + i, none⟩ v) (h.setCell (o + i) v) (fun _ => by simp; omega) (fun u hu => h1 u (by simp [hu]))
    refine ⟨w', ?_, hs⟩
    unfold storeCells
    rw [Sem.run_bind, add_lit, run_store P w _ v _ (h1 v (by simp)), hc]
    simp only [hf, Bool.false_eq_true, if_false, Result.andThen_ok]
    exact hr

theorem run_fieldAt {s k off : Nat} {ft : TypeId} {size : Nat} (h : FieldTy P s k off ft size) (a : Addr) (w : World) : (Instr.fieldAt s (.pointer (some a)) k).run P w = .ok (.pointer (some (a.add off))) w := by
  have hu := h.und
  have hz := h.nz
  cases hq : P.underlying s with
  | none => simp [hq] at hu
  | some d =>
    cases d <;> simp [hq, fldD] at hu
    rename_i fs
    obtain ⟨f, hf, h1, h2⟩ := hu
    cases hi : P.info? ft with
    | none => simp [hi] at hz
    | some i =>
      simp [hi] at hz
      subst h1 h2
      simp [Instr.fieldAt, run_underlying hq, hf, Instr.sureAddr, fieldPlace, sizeOf, typeInfo, hi, hz]

end

section rules
variable {F : Fence} {P : Program} {ops : Array Oper} {Q : Exit → Act → World → Prop} {rest : List Oper} {n : Nat} {D : List Deferred} {l : Env} {w0 : World} {L M : List Ent}
variable {d : Nat} {ty : TypeId} {pos : String} {aft : Array Edge}

theorem fa {x : Operand} {s k off : Nat} {ft : TypeId} {size : Nat} (hT : FieldTy P s k off ft size := by infer_instance) {b o : Nat} (hx : ev l x = some (.pointer (some ⟨b, o, none⟩)) := by exact rfl) : Yd P n D l w0 L (.fieldAddr s x k) (.pointer (some ⟨b, o + off, none⟩)) :=
  ⟨by simp, by simp, fun oo ho ac w hfr _ => by simp [execOp, ho, hfr.eval hx, run_fieldAt hT, add_lit]⟩

theorem faE {x : Operand} {s k off : Nat} {ft : TypeId} {size : Nat} (hT : FieldTy P s k off ft size := by infer_instance) {A : Option Addr} {sz i j : Nat} (hx : ev l x = some (pe A sz i j) := by exact rfl) : Yd P n D l w0 L (.fieldAddr s x k) (pe A sz i (j + off)) :=
  ⟨by simp, by simp, fun oo ho ac w hfr _ => by
    have he := hfr.eval hx
    simp [execOp, ho, he, pe, run_fieldAt hT, add_add', Nat.add_assoc]⟩

theorem ix {x i : Operand} {t e : TypeId} (hT : SliceTy P t e := by infer_instance) {agg : Bool} {size bytes : Nat} {z : Value} {zl : List Value} (hE : Ty P e agg size bytes z zl := by infer_instance) {A : Option Addr} {m c : Nat} {k : IntKind} {j : Int} {es : List (List Value)}
    (hx : ev l x = some (.slice A m c) := by exact rfl) (hi : ev l i = some (.int k j) := by exact rfl)
    (hr : Rds L A size m es := by repeat (first | exact Rds.ro | exact Rds.own | apply Rds.there)) (hb : 0 ≤ j ∧ j < m := by omega) : Yd P n D l w0 L (.indexAddr t x i) (pe A size j.toNat 0) :=
  ⟨by simp, by simp, fun oo ho ac w hfr hst => by
    obtain ⟨ad, rfl⟩ := (hst.get hr).some_ (by omega)
    simp [execOp, ho, hfr.eval hx, hfr.eval hi, Instr.indexAt, asIntOf, run_underlying hT.und, hb, run_sizeOf hE, pe]⟩

theorem ld {x : Operand} {t : TypeId} {size bytes : Nat} {z : Value} {zl : List Value} (hT : Ty P t false size bytes z zl := by infer_instance) {b o : Nat} {T : TypeId} {cs : List Value} {v : Value}
    (hx : ev l x = some (.pointer (some ⟨b, o, none⟩)) := by exact rfl) (ha : At L (.blk b T cs) M := by repeat (first | exact At.here | apply At.there)) (hc : cs[o]? = some v := by exact rfl) : Yd P n D l w0 L (.load t x) (v) :=
  ⟨by simp, by simp, fun oo ho ac w hfr hst => by
    have hcell : w.cell? ⟨b, o, none⟩ = some v := by rw [hst.cell ha, hc]
    simp [execOp, ho, hfr.eval hx, Instr.loadAt, Instr.sureAddr, run_loadVar1 hT hcell]⟩

theorem ldA {x : Operand} {t : TypeId} {size bytes : Nat} {z : Value} {zl : List Value} (hT : Ty P t true size bytes z zl := by infer_instance) {b o : Nat} {T : TypeId} {cs vs : List Value}
    (hx : ev l x = some (.pointer (some ⟨b, o, none⟩)) := by exact rfl) (ha : At L (.blk b T cs) M := by repeat (first | exact At.here | apply At.there))
    (hc : Tk cs o size vs := by repeat (first | exact Tk.nil | apply Tk.cons | apply Tk.skip)) : Yd P n D l w0 L (.load t x) (.agg vs.toArray) :=
  ⟨by simp, by simp, fun oo ho ac w hfr hst => by
    have hcell : ∀ j v, vs[j]? = some v → w.cell? ((⟨b, o, none⟩ : Addr).add j) = some v := fun j v hj => by
      rw [add_lit, hst.cell ha]; exact hc.out.2 j v hj
    simp [execOp, ho, hfr.eval hx, Instr.loadAt, Instr.sureAddr, run_loadVarA hT hc.out.1 hcell]⟩

theorem gm {α : Type} (f : α → List Value) (xs : List α) (k : Nat) (h : k < xs.length) : (xs.map f)[k]? = some (f xs[k]) := by simp [h]

theorem ldE {x : Operand} {t : TypeId} {size bytes : Nat} {z : Value} {zl : List Value} (hT : Ty P t false size bytes z zl := by infer_instance) {A : Option Addr} {sz k j m : Nat} {es : List (List Value)} {cs : List Value} {v : Value}
    (hx : ev l x = some (pe A sz k j) := by exact rfl) (hr : Rds L A sz m es := by repeat (first | exact Rds.ro | exact Rds.own | apply Rds.there))
    (hk : es[k]? = some cs := by first | exact rfl | exact gm _ _ _ (by omega)) (hc : cs[j]? = some v := by exact rfl) : Yd P n D l w0 L (.load t x) (v) :=
  ⟨by simp, by simp, fun oo ho ac w hfr hst => by
    have hrd := hst.get hr
    obtain ⟨ad, rfl⟩ := hrd.some_ (by have := (List.getElem?_eq_some_iff.1 hk).1; have := hrd.len; omega)
    have hcell := hrd.cell ad rfl k cs hk j v hc
    have he := hfr.eval hx
    simp [execOp, ho, he, pe, Instr.loadAt, Instr.sureAddr, run_loadVar1 hT hcell]⟩

theorem ldEA {x : Operand} {t : TypeId} {size bytes : Nat} {z : Value} {zl : List Value} (hT : Ty P t true size bytes z zl := by infer_instance) {A : Option Addr} {sz k j m : Nat} {es : List (List Value)} {cs vs : List Value}
    (hx : ev l x = some (pe A sz k j) := by exact rfl) (hr : Rds L A sz m es := by repeat (first | exact Rds.ro | exact Rds.own | apply Rds.there))
    (hk : es[k]? = some cs := by first | exact rfl | exact gm _ _ _ (by omega)) (hc : Tk cs j size vs := by repeat (first | exact Tk.nil | apply Tk.cons | apply Tk.skip)) : Yd P n D l w0 L (.load t x) (.agg vs.toArray) :=
  ⟨by simp, by simp, fun oo ho ac w hfr hst => by
    have hrd := hst.get hr
    obtain ⟨ad, rfl⟩ := hrd.some_ (by have := (List.getElem?_eq_some_iff.1 hk).1; have := hrd.len; omega)
    have hcell : ∀ i v, vs[i]? = some v → w.cell? ((ad.add (k * sz + j)).add i) = some v := fun i v hi => by
      rw [add_add', Nat.add_assoc]; exact hrd.cell ad rfl k cs hk (j + i) v (hc.out.2 i v hi)
    have he := hfr.eval hx
    simp [execOp, ho, he, pe, Instr.loadAt, Instr.sureAddr, run_loadVarA hT hc.out.1 hcell]⟩

theorem bx {x : Operand} {t : TypeId} {v : Value} (hx : ev l x = some v := by exact rfl) (h1 : v.oneCell' = true := by rfl) (hd : Nat.blt d n = true := by rfl)
    (h : ∀ b, WL F P ops Q rest n D ((d, .pointer (some ⟨b, 0, none⟩)) :: l) w0 (.blk b t [v] :: L)) : WL F P ops Q (⟨some d, .box t x, ty, pos, aft, none⟩ :: rest) n D l w0 L :=
  WL.value (X := Nat) (φ := fun _ => True) (val := fun b => .pointer (some ⟨b, 0, none⟩)) (L' := fun b => .blk b t [v] :: L) (by simp) hd (fun ac w hfr hst => by
    have hc : v.cells = #[v] := by cases v <;> simp [Value.oneCell'] at h1 <;> rfl
    refine ⟨w.heap.size, w.alloc (.cells #[v] t), trivial, ?_, hst.alloc t #[v]⟩
    simp [execOp, hfr.eval hx, Instr.box, newVar, newRow, hc]) (fun b _ => h b)

theorem bxA {x : Operand} {t : TypeId} {vs : List Value} (hx : ev l x = some (.agg vs.toArray) := by exact rfl) (hd : Nat.blt d n = true := by rfl)
    (h : ∀ b, WL F P ops Q rest n D ((d, .pointer (some ⟨b, 0, none⟩)) :: l) w0 (.blk b t vs :: L)) : WL F P ops Q (⟨some d, .box t x, ty, pos, aft, none⟩ :: rest) n D l w0 L :=
  WL.value (X := Nat) (φ := fun _ => True) (val := fun b => .pointer (some ⟨b, 0, none⟩)) (L' := fun b => .blk b t vs :: L) (by simp) hd (fun ac w hfr hst => by
    refine ⟨w.heap.size, w.alloc (.cells vs.toArray t), trivial, ?_, by simpa using hst.alloc t vs.toArray⟩
    simp [execOp, hfr.eval hx, Instr.box, newVar, newRow, Value.cells]) (fun b _ => h b)

theorem al {t : TypeId} {agg : Bool} {size bytes : Nat} {z : Value} {zl : List Value} (hT : Ty P t agg size bytes z zl := by infer_instance) (hd : Nat.blt d n = true := by rfl)
    (h : ∀ b, WL F P ops Q rest n D ((d, .pointer (some ⟨b, 0, none⟩)) :: l) w0 (.blk b t zl :: L)) : WL F P ops Q (⟨some d, .alloc t, ty, pos, aft, none⟩ :: rest) n D l w0 L :=
  WL.value (X := Nat) (φ := fun _ => True) (val := fun b => .pointer (some ⟨b, 0, none⟩)) (L' := fun b => .blk b t zl :: L) (by simp) hd (fun ac w hfr hst => by
    refine ⟨w.heap.size, w.alloc (.cells zl.toArray t), trivial, ?_, by simpa using hst.alloc t zl.toArray⟩
    simp [execOp, Instr.alloc, run_zeroValue hT, newVar, newRow, hT.zc]) (fun b _ => h b)

theorem st {x y : Operand} {t : TypeId} {size bytes : Nat} {z : Value} {zl : List Value} (hT : Ty P t false size bytes z zl := by infer_instance) {b o : Nat} {T : TypeId} {cs cs' : List Value} {v : Value}
    (hx : ev l x = some (.pointer (some ⟨b, o, none⟩)) := by exact rfl) (hy : ev l y = some v := by exact rfl) (h1 : v.oneCell' = true := by rfl) (hsz : size = 1 := by rfl)
    (ha : At L (.blk b T cs) M := by repeat (first | exact At.here | apply At.there)) (hp : PutR cs o [v] cs' := by repeat (first | exact PutR.nil | apply PutR.put | apply PutR.skip))
    (h : WL F P ops Q rest n D l w0 (.blk b T cs' :: M)) : WL F P ops Q (⟨none, .store t x y, ty, pos, aft, none⟩ :: rest) n D l w0 L :=
  WL.skipop (by simp) (fun ac w hfr hst => by
    have hc : v.cells = #[v] := by cases v <;> simp [Value.oneCell'] at h1 <;> rfl
    obtain ⟨w', hr, hs⟩ := run_storeCells (P := P) [v] cs o 0 w (hst.pull ha) (fun _ => by have := hp.out.2 (by simp); simpa using this) (by simpa using h1)
    rw [Nat.add_zero, ← hp.out.1] at hs
    refine ⟨w', ?_, hs⟩
    simp [execOp, hfr.eval hx, hfr.eval hy, Instr.storeAt, Instr.sureAddr, storeVar, run_sizeOf hT, hc, hsz, hr]) h

theorem stA {x y : Operand} {t : TypeId} {size bytes : Nat} {z : Value} {zl : List Value} (hT : Ty P t true size bytes z zl := by infer_instance) {b o : Nat} {T : TypeId} {cs cs' vs : List Value}
    (hx : ev l x = some (.pointer (some ⟨b, o, none⟩)) := by exact rfl) (hy : ev l y = some (.agg vs.toArray) := by exact rfl) (h1 : vs.all (·.oneCell') = true := by rfl) (hsz : vs.length = size := by rfl)
    (ha : At L (.blk b T cs) M := by repeat (first | exact At.here | apply At.there)) (hp : PutR cs o vs cs' := by repeat (first | exact PutR.nil | apply PutR.put | apply PutR.skip))
    (h : WL F P ops Q rest n D l w0 (.blk b T cs' :: M)) : WL F P ops Q (⟨none, .store t x y, ty, pos, aft, none⟩ :: rest) n D l w0 L :=
  WL.skipop (by simp) (fun ac w hfr hst => by
    obtain ⟨w', hr, hs⟩ := run_storeCells (P := P) vs cs o 0 w (hst.pull ha) (fun hv => by have := hp.out.2 hv; simpa using this) (by simpa using h1)
    rw [Nat.add_zero, ← hp.out.1] at hs
    refine ⟨w', ?_, hs⟩
    simp [execOp, hfr.eval hx, hfr.eval hy, Instr.storeAt, Instr.sureAddr, storeVar, run_sizeOf hT, Value.cells, hsz, hr]) h

end rules
end Go.Proofs.YtmlhnajgiopfgaaGreat

namespace Go.Proofs.YtmlhnajgiopfgaaGreat
open Go Go.RowKit

class BuildTy (P : Program) (t : TypeId) (pl : outParam (List (Nat × Nat))) (zl : outParam (List Value)) : Prop where
  eq : ∀ parts, P.built t parts = Instr.fill (fun i => pl.toArray[i]?) zl.toArray parts

theorem foldl_put (vs : List Value) : ∀ (k off : Nat) (cells : Array Value), ((vs.zipIdx k).foldl (fun cs (x : Value × Nat) => cs.setIfInBounds (off + x.2) x.1) cells) = (putAll cells.toList (off + k) vs).toArray := by
  induction vs with
  | nil => intro k off cells; simp [putAll]
  | cons v vs ih =>
    intro k off cells
    simp only [List.zipIdx_cons, List.foldl_cons, putAll]
    rw [ih]
    simp [Nat.add_assoc]

theorem fill_step (place : Nat → Option (Nat × Nat)) (cs vs : List Value) (i off size : Nat) (v : Value) (rest : List (Nat × Value)) (hp : place i = some (off, size)) (hv : v.cells = vs.toArray) (hl : vs.length = size) (hfit : off + size ≤ cs.length) :
    Instr.fill place cs.toArray ((i, v) :: rest) = Instr.fill place (putAll cs off vs).toArray rest := by
  have h1 : ¬ (off + size > cs.length) := by omega
  have hf := foldl_put vs 0 off cs.toArray
  simp only [Nat.add_zero] at hf
  simp only [Instr.fill, hp, hv, List.size_toArray, hl, ne_eq, not_true_eq_false, decide_false, Bool.false_or, decide_eq_true_eq, if_neg h1]
  rw [← Array.foldl_toList, Array.toList_zipIdx, hf]

inductive Bld (l : Env) (pl : List (Nat × Nat)) : List (Nat × Operand) → List Value → List Value → Prop
  | nil {cs : List Value} : Bld l pl [] cs cs
  | one {i off : Nat} {x : Operand} {v : Value} {parts : List (Nat × Operand)} {cs cs' r : List Value} (hp : pl[i]? = some (off, 1)) (hx : ev l x = some v) (h1 : v.oneCell' = true) (hput : PutR cs off [v] cs') (h : Bld l pl parts cs' r) : Bld l pl ((i, x) :: parts) cs r
  | agg {i off size : Nat} {x : Operand} {vs : List Value} {parts : List (Nat × Operand)} {cs cs' r : List Value} (hp : pl[i]? = some (off, size)) (h0 : 0 < size) (hx : ev l x = some (.agg vs.toArray)) (hl : vs.length = size) (hput : PutR cs off vs cs') (h : Bld l pl parts cs' r) : Bld l pl ((i, x) :: parts) cs r

theorem cells_one {v : Value} (h : v.oneCell' = true) : v.cells = [v].toArray := by cases v <;> simp [Value.oneCell'] at h <;> rfl

theorem Bld.out {a : Act} {n : Nat} {D : List Deferred} {l : Env} (hfr : Fr a n D l) {pl : List (Nat × Nat)} {parts : List (Nat × Operand)} {cs r : List Value} (h : Bld l pl parts cs r) :
    Instr.fill (fun i => pl[i]?) cs.toArray (parts.map fun p => (p.1, a.eval p.2)) = some r.toArray := by
  induction h with
  | nil => simp [Instr.fill]
  | one hp hx h1 hput _ ih =>
    simp only [List.map_cons]
    rw [fill_step _ _ [_] _ _ 1 _ _ hp (by rw [hfr.eval hx]; exact cells_one h1) rfl (by simpa using hput.out.2 (by simp)), ← hput.out.1]
    exact ih
  | @agg i off size x vs parts cs cs' r hp h0 hx hl hput _ ih =>
    simp only [List.map_cons]
    have hv : vs ≠ [] := by rintro rfl; simp at hl; omega
    rw [fill_step _ _ vs _ _ size _ _ hp (by rw [hfr.eval hx]; rfl) hl (by have := hput.out.2 hv; omega), ← hput.out.1]
    exact ih

inductive Els (l : Env) (size : Nat) : List (Nat × Operand) → Nat → List (List Value) → Prop
  | nil {k : Nat} : Els l size [] k []
  | one {k : Nat} {x : Operand} {v : Value} {parts : List (Nat × Operand)} {es : List (List Value)} (hx : ev l x = some v) (h1 : v.oneCell' = true) (hs : size = 1) (h : Els l size parts (k + 1) es) : Els l size ((k, x) :: parts) k ([v] :: es)
  | agg {k : Nat} {x : Operand} {vs : List Value} {parts : List (Nat × Operand)} {es : List (List Value)} (hx : ev l x = some (.agg vs.toArray)) (h1 : vs.all (·.oneCell') = true) (hs : vs.length = size) (h : Els l size parts (k + 1) es) : Els l size ((k, x) :: parts) k (vs :: es)

theorem putAll_mid {α : Type} : ∀ (vs pre old post : List α), old.length = vs.length → putAll (pre ++ (old ++ post)) pre.length vs = pre ++ (vs ++ post)
  | [], pre, old, post, h => by
    have : old = [] := List.eq_nil_of_length_eq_zero (by simpa using h)
    subst this; rfl
  | v :: vs, pre, o :: old, post, h => by
    have ih := putAll_mid vs (pre ++ [v]) old post (by simpa using h)
    simp only [List.length_append, List.length_singleton, List.append_assoc, List.singleton_append] at ih
    simp only [putAll, List.cons_append]
    rw [List.set_append_right _ _ (Nat.le_refl _)]
    simpa using ih

theorem Els.out {a : Act} {n : Nat} {D : List Deferred} {l : Env} (hfr : Fr a n D l) {size : Nat} {parts : List (Nat × Operand)} {k : Nat} {es : List (List Value)} (h : Els l size parts k es) :
    es.length = parts.length ∧ (∀ c ∈ es, c.length = size) ∧ (∀ c ∈ es, ∀ v ∈ c, v.oneCell' = true) ∧
    ∀ (pre old : List Value), pre.length = k * size → old.length = parts.length * size → Instr.fill (fun i => some (i * size, size)) (pre ++ old).toArray (parts.map fun p => (p.1, a.eval p.2)) = some (pre ++ es.flatten).toArray := by
  induction h with
  | nil =>
    refine ⟨rfl, by simp, by simp, fun pre old _ ho => ?_⟩
    have : old = [] := List.eq_nil_of_length_eq_zero (by simpa using ho)
    subst this; simp [Instr.fill]
  | @one k x v parts es hx h1 hs _ ih =>
    subst hs
    obtain ⟨i1, i2, i3, i4⟩ := ih
    refine ⟨by simp [i1], by simpa using i2, by simpa [h1] using i3, fun pre old hp ho => ?_⟩
    obtain ⟨u, old, rfl⟩ : ∃ u o, old = u :: o := by cases old with | nil => simp at ho | cons u o => exact ⟨u, o, rfl⟩
    simp only [List.map_cons]
    rw [fill_step _ _ [v] _ (k * 1) 1 _ _ rfl (by rw [hfr.eval hx]; exact cells_one h1) rfl (by simp [hp])]
    have hm := putAll_mid [v] pre [u] old rfl
    simp only [List.singleton_append] at hm
    rw [← hp, hm]
    have := i4 (pre ++ [v]) old (by simp [hp]) (by simpa using ho)
    simpa using this
  | @agg k x vs parts es hx h1 hs _ ih =>
    obtain ⟨i1, i2, i3, i4⟩ := ih
    refine ⟨by simp [i1], by simpa [hs] using i2, fun c hc v hv => ?_, fun pre old hp ho => ?_⟩
    · rcases List.mem_cons.1 hc with rfl | hc
      · exact List.all_eq_true.1 h1 v hv
      · exact i3 c hc v hv
    · have hlen : old.length = size + parts.length * size := by rw [ho]; simp [Nat.add_mul, Nat.add_comm]
      simp only [List.map_cons]
      rw [fill_step _ _ vs _ (k * size) size _ _ rfl (by rw [hfr.eval hx]; rfl) hs (by simp [hp]; omega)]
      have hm := putAll_mid vs pre (old.take size) (old.drop size) (by simp [hs]; omega)
      rw [List.take_append_drop] at hm
      rw [← hp, hm]
      have := i4 (pre ++ vs) (old.drop size) (by simp [hp, hs, Nat.add_mul]) (by simp; omega)
      simpa using this

section rules
variable {F : Fence} {P : Program} {ops : Array Oper} {Q : Exit → Act → World → Prop} {rest : List Oper} {n : Nat} {D : List Deferred} {l : Env} {w0 : World} {L M : List Ent}
variable {d : Nat} {ty : TypeId} {pos : String} {aft : Array Edge}

theorem bd {t : TypeId} {pl : List (Nat × Nat)} {zl : List Value} (hT : BuildTy P t pl zl := by infer_instance) {parts : List (Nat × Operand)} {r : List Value}
    (hb : Bld l pl parts zl r := by repeat (first | exact Bld.nil | (apply Bld.one; exact rfl; exact rfl; exact rfl; (repeat (first | exact PutR.nil | apply PutR.put | apply PutR.skip))) | (apply Bld.agg; exact rfl; exact Nat.succ_pos _; exact rfl; exact rfl; (repeat (first | exact PutR.nil | apply PutR.put | apply PutR.skip))))) : Yd P n D l w0 L (.build t parts.toArray) (.agg r.toArray) :=
  ⟨by simp, by simp, fun oo ho ac w hfr _ => by
    have hbuilt := hb.out hfr
    rw [show (fun i => pl[i]?) = (fun i => pl.toArray[i]?) from by funext i; simp, ← hT.eq] at hbuilt
    have hrun := run_build (P := P) w t (parts.toArray.map fun p => (p.1, ac.eval p.2)) r.toArray (by simpa using hbuilt)
    simp only [List.map_toArray] at hrun
    simp [execOp, ho, hrun]⟩

theorem flatten_get {es : List (List Value)} {size : Nat} (hs : ∀ c ∈ es, c.length = size) : ∀ {k : Nat} {cs : List Value} {j : Nat} {v : Value}, es[k]? = some cs → cs[j]? = some v → es.flatten[k * size + j]? = some v := by
  induction es with
  | nil => intro k cs j v hk; simp at hk
  | cons c es ih =>
    intro k cs j v hk hj
    have hc := hs c (by simp)
    simp only [List.flatten_cons]
    cases k with
    | zero =>
      simp at hk; subst hk
      have hjl : j < c.length := (List.getElem?_eq_some_iff.1 hj).1
      rw [Nat.zero_mul, Nat.zero_add, List.getElem?_append_left hjl]; exact hj
    | succ k =>
      simp at hk
      rw [List.getElem?_append_right (by rw [hc, Nat.add_mul]; omega)]
      have := ih (fun c' h' => hs c' (by simp [h'])) hk hj
      rw [show (k + 1) * size + j - c.length = k * size + j by rw [hc, Nat.add_mul]; omega]
      exact this

theorem flatten_len {es : List (List Value)} {size : Nat} (hs : ∀ c ∈ es, c.length = size) : es.flatten.length = es.length * size := by
  induction es with
  | nil => simp
  | cons c es ih => simp [ih fun c' h' => hs c' (by simp [h']), hs c (by simp), Nat.add_mul, Nat.add_comm]

theorem rd_own {w : World} {A : Option Addr} {cap : Nat} {T : TypeId} {size m : Nat} {es : List (List Value)} (ho : w.ownsRow 0 T size (.slice A m cap) m es.flatten) (hl : es.length = m) (hs : ∀ c ∈ es, c.length = size) (h1 : ∀ c ∈ es, ∀ v ∈ c, v.oneCell' = true) : Rd w A size m es := by
  refine ⟨hl, hs, fun hm => ?_, fun ad hA k cs hk j v hj => ?_, h1⟩
  · rcases ho.2 with ⟨_, h0⟩ | ⟨g, cap', cur, hv, _⟩
    · omega
    · injection hv with hv; exact ⟨_, hv⟩
  · subst hA
    rcases ho.2 with ⟨hv, _⟩ | ⟨g, cap', cur, hv, _⟩
    · cases hv
    · injection hv with hv; injection hv with hv; subst hv
      exact ho.cells (g := g) rfl _ v (flatten_get hs hk hj)

theorem bs {t T : TypeId} (hT : SliceTy P t T := by infer_instance) {agg : Bool} {size bytes : Nat} {z : Value} {zl : List Value} (hE : Ty P T agg size bytes z zl := by infer_instance) {len : Nat} {parts : List (Nat × Operand)} {es : List (List Value)}
    (hb : Els l size parts 0 es := by repeat (first | exact Els.nil | (apply Els.one; exact rfl; exact rfl; exact rfl) | (apply Els.agg; exact rfl; exact rfl; exact rfl))) (hlen : parts.length = len := by rfl) (hbig : len * size ≤ 16777216 := by omega) (hpos : 0 < size := by omega)
    (hd : Nat.blt d n = true := by rfl) (h : ∀ b, WL F P ops Q rest n D ((d, .slice (some ⟨b, 0, none⟩) len len) :: l) w0 (.own (some ⟨b, 0, none⟩) len T size len es :: L)) :
    WL F P ops Q (⟨some d, .buildSlice t len parts.toArray, ty, pos, aft, none⟩ :: rest) n D l w0 L :=
  WL.value (X := Nat) (φ := fun _ => True) (val := fun b => .slice (some ⟨b, 0, none⟩) len len) (L' := fun b => .own (some ⟨b, 0, none⟩) len T size len es :: L) (by simp) hd (fun ac w hfr hst => by
    obtain ⟨h1, h2, h3, h4⟩ := hb.out hfr
    have hfl := flatten_len h2
    have hf := h4 [] ((Array.range (len * size)).map (zl.toArray[· % zl.length]!)).toList (by simp) (by simp [hlen])
    simp only [List.nil_append, Array.toArray_toList] at hf
    refine ⟨w.heap.size, w.alloc (.cells es.flatten.toArray T), trivial, ?_, ?_⟩
    · have hsz : ¬ (2 ^ 24 < len * size) := by omega
      by_cases h0 : len * size = 0
      · have hf0 : Instr.fill (fun i => some (i * size, size)) #[] (parts.map fun p => (p.1, ac.eval p.2)) = some es.flatten.toArray := by
          rw [h0, Array.range_zero'] at hf; simpa using hf
        simp [execOp, Instr.buildSlice, run_underlying hT.und, run_sizeOf hE, h0, Array.range_zero', hf0, newRow]
      · simp [execOp, Instr.buildSlice, run_underlying hT.und, run_sizeOf hE, run_zeroValue hE, hE.zc, hsz, h0, newRow] 
        simp at hf
        rw [hf]
        simp
    · have hml : len ≤ maxLen := by
        have : len ≤ len * size := Nat.le_mul_of_pos_right _ hpos
        simp only [maxLen]; omega
      have hown : (w.alloc (.cells es.flatten.toArray T)).ownsRow 0 T size (.slice (some ⟨w.heap.size, 0, none⟩) len len) len es.flatten :=
        ⟨by rw [hfl, h1, hlen], .inr ⟨w.heap.size, len, es.flatten.toArray, rfl, Nat.zero_le _, heap_alloc_new w _, Nat.le_refl _, hml, by simp [hfl, h1, hlen], by
          rw [← hlen, ← h1, ← hfl]; exact List.take_length⟩⟩
      refine St.add (M := [_]) hst ((Blw.refl _ w).alloc (Nat.le_refl _) _) (fun e he => ?_) (fun e he b hb' => ?_) (List.pairwise_singleton _ _)
      · simp only [List.mem_singleton] at he; subst he
        exact ⟨hown, rd_own hown (by rw [h1, hlen]) h2 h3⟩
      · simp only [List.mem_singleton] at he; subst he
        obtain ⟨ad, had, rfl⟩ := hb'
        injection had with had; subst had; exact Nat.le_refl _) (fun b _ => h b)

end rules
end Go.Proofs.YtmlhnajgiopfgaaGreat

namespace Go.Proofs.YtmlhnajgiopfgaaGreat
open Go Go.RowKit

theorem flatten_at {es : List (List Value)} {size : Nat} (hpos : 0 < size) (hs : ∀ c ∈ es, c.length = size) : ∀ {j : Nat} {v : Value}, es.flatten[j]? = some v → ∃ cs, es[j / size]? = some cs ∧ cs[j % size]? = some v := by
  induction es with
  | nil => intro j v h; simp at h
  | cons c es ih =>
    intro j v h
    have hc := hs c (by simp)
    simp only [List.flatten_cons] at h
    by_cases hj : j < size
    · rw [List.getElem?_append_left (by omega)] at h
      exact ⟨c, by rw [Nat.div_eq_of_lt hj]; rfl, by rw [Nat.mod_eq_of_lt hj]; exact h⟩
    · rw [List.getElem?_append_right (by omega), hc] at h
      obtain ⟨cs, h1, h2⟩ := ih (fun c' h' => hs c' (by simp [h'])) h
      refine ⟨cs, ?_, ?_⟩
      · rw [show j / size = (j - size) / size + 1 by rw [Nat.div_eq_sub_div hpos (by omega)]]
        simpa using h1
      · rw [Nat.mod_eq_sub_mod (by omega)]; exact h2

theorem Rd.flat {w : World} {ad : Addr} {size n : Nat} {es : List (List Value)} (h : Rd w (some ad) size n es) (hpos : 0 < size) {j : Nat} {v : Value} (hj : es.flatten[j]? = some v) : w.cell? (ad.add j) = some v := by
  obtain ⟨cs, h1, h2⟩ := flatten_at hpos h.each hj
  have := h.cell ad rfl _ cs h1 _ v h2
  rwa [Nat.mul_comm, Nat.div_add_mod] at this

section
variable {P : Program}

theorem run_append_none (w : World) (t ty e : TypeId) {agg : Bool} {size bytes : Nat} {z : Value} {zl : List Value} (ht : P.underlying t = some (.slice e)) (hE : Ty P e agg size bytes z zl)
    {A : Option Addr} {cap n : Nat} {xs : List Value} (hown : w.ownsRow 0 e size (.slice A n cap) n xs) (c : Nat) : (Builtin.append_ #[t, t] ty #[.slice A n cap, .slice none 0 c]).run P w = .ok (.slice A n cap) w := by
  rcases hown.2 with ⟨hv, h0⟩ | ⟨g, cap', cur, hv, _, _, hnc, _⟩
  · injection hv with h1 h2 h3; subst h1 h2 h3
    simp [Builtin.append_, run_underlying ht, run_sizeOf hE, Builtin.lenOf, Builtin.firstCells]
  · injection hv with h1 h2 h3; subst h1 h3
    simp [Builtin.append_, run_underlying ht, run_sizeOf hE, Builtin.lenOf, Builtin.firstCells, hnc, storeCells]

theorem run_append {w0 w : World} {M : List Ent} (t ty e : TypeId) {agg : Bool} {size bytes : Nat} {z : Value} {zl : List Value} (ht : P.underlying t = some (.slice e)) (hE : Ty P e agg size bytes z zl)
    {A A2 : Option Addr} {cap m k c : Nat} {es es2 : List (List Value)} (hst : St w0 w (.own A cap e size m es :: M)) (hr : Rd w A2 size k es2) (hpos : 0 < size) (hb : m + k ≤ 100000000) (hby : bytes ≤ 1000000) :
    ∃ A' c' w', (Builtin.append_ #[t, t] ty #[.slice A m cap, .slice A2 k c]).run P w = .ok (.slice A' (m + k) c') w' ∧ St w0 w' (.own A' c' e size (m + k) (es ++ es2) :: M) := by
  obtain ⟨hown, hrd⟩ := hst.ok (.own A cap e size m es) (by simp)
  cases A2 with
  | none =>
    have hk : k = 0 := by
      rcases Nat.eq_zero_or_pos k with h | h
      · exact h
      · obtain ⟨ad, h⟩ := hr.some_ h; cases h
    subst hk
    have he2 : es2 = [] := List.eq_nil_of_length_eq_zero hr.len
    subst he2
    exact ⟨A, cap, w, run_append_none w t ty e ht hE hown c, by simpa using hst⟩
  | some ad =>
    obtain ⟨i, hi, h1, h2, h3⟩ := ty_info hE
    have hzs : z.cells.size = size := by rw [hE.zc]; simpa using hE.zs
    have hbytes : (m + k) * bytes ≤ 140737488355328 := Nat.le_trans (Nat.mul_le_mul hb hby) (by decide)
    obtain ⟨v', w', hrun, hown', hgrow, _, hat⟩ := run_append_own_at (P := P) w 0 t ty e i z size bytes ht hi h3 h1 h2 hzs hpos (.slice A m cap) m es.flatten hown ad k c es2.flatten
      (by rw [flatten_len hr.each, hr.len]) (fun j u hj => hr.flat hpos hj) (fun u hu => by
        obtain ⟨c', hc', hu'⟩ := List.mem_flatten.1 hu
        exact hr.one c' hc' u hu') (by simp only [maxLen]; omega) hbytes (Nat.zero_le _)
    have hform : ∃ A' c', v' = .slice A' (m + k) c' := by
      rcases hown'.2 with ⟨hv, h0⟩ | ⟨g, cap', cur, hv, _⟩
      · exact ⟨none, 0, by rw [hv, h0]⟩
      · exact ⟨_, _, hv⟩
    obtain ⟨A', c', rfl⟩ := hform
    rw [← List.flatten_append] at hown'
    refine ⟨A', c', w', hrun, hst.turn rfl (fun q hq hnf => hgrow.block q hq fun he => hnf ?_) hgrow.os hgrow.tape hgrow.output hgrow.size ⟨hown', rd_own hown' (by simp [hrd.len, hr.len]) (fun c hc => ?_) (fun c hc => ?_)⟩ (fun q hq => ?_) (sem_drawn _ hrun)⟩
    · cases A with
      | none => simp [Value.ownBlock] at he
      | some a => simp [Value.ownBlock] at he; exact ⟨a, rfl, he.symm⟩
    · rcases List.mem_append.1 hc with hc | hc
      · exact hrd.each c hc
      · exact hr.each c hc
    · rcases List.mem_append.1 hc with hc | hc
      · exact hrd.one c hc
      · exact hr.one c hc
    · obtain ⟨a', rfl, rfl⟩ := hq
      rcases hat with he | he
      · left
        cases A with
        | none => simp [Value.ownBlock] at he
        | some a => simp [Value.ownBlock] at he; exact ⟨a, rfl, he.symm⟩
      · right; simp [Value.ownBlock] at he; omega

class FnOk (P : Program) (f : FuncId) : Prop where
  ok : (P.funcs[f]?).map (fun fn => (fn.name == "runtime.NumGoroutine", fn.body.isNone)) = some (false, false)

theorem run_callFunc {f : FuncId} (h : FnOk P f) (args : Array Value) (w : World) : (callFunc f args).run P w = .ok (.enter f args) w := by
  have hk := h.ok
  cases hq : P.funcs[f]? with
  | none => simp [hq] at hk
  | some fn =>
    simp only [hq, Option.map_some, Option.some.injEq, Prod.mk.injEq] at hk
    unfold callFunc
    simp only [Sem.run_bind, run_program, Result.andThen_ok, hq, hk.1, hk.2, Bool.false_eq_true, if_false]
    rfl

theorem FreeF.calls {F : Fence} (hF : FreeF F) {f : FuncId} {args : Array Value} {w : World} {R : Ending → World → Prop} (h : Calls P f args w R) : CallsIn F 0 P f args w R := by
  refine ⟨hF.fn f, fun cs _ => ?_⟩
  obtain ⟨e, w', fr, r, s, x⟩ := h cs
  have hall : ∀ m : Machine, m.fenced P F := fun m g _ => ⟨fun h => (by rw [hF.alive] at h; cases h), Or.inl (hF.fn _), fun f _ => hF.fn f, fun d hd => (by rw [hF.depth] at hd; cases hd)⟩
  refine ⟨e, w', fr, r, ?_, x⟩
  cases e with
  | returned v => exact (StepsIn.of_steps s).mono fun m _ => hall m
  | panicked c => exact (StepsIn.of_steps s).mono fun m _ => hall m
  | outgrown => exact s
end

structure CR (P : Program) (f : FuncId) (vs : List Value) (w : World) {X : Type} (φ : X → Prop) (val : X → Value) (post : X → List Ent) : Prop where
  out : Calls P f vs.toArray w fun e w' => ∃ x, φ x ∧ e = .returned (val x) ∧ St w w' (post x)

structure C0 (P : Program) (f : FuncId) (vs : List Value) (w : World) (v : Value) : Prop where
  out : Calls P f vs.toArray w fun e w' => e = .returned v ∧ St w w' []

structure Tr (P : Program) (f : FuncId) (vs : List Value) (Lpre : List Ent) {X : Type} (φ : X → Prop) (val : X → Value) (post : X → List Ent) : Prop where
  out : ∀ (w0 w : World) (R : List Ent), St w0 w (Lpre ++ R) → Calls P f vs.toArray w fun e w' => ∃ x, φ x ∧ e = .returned (val x) ∧ St w0 w' (post x ++ R)

inductive Spl : List Ent → List Ent → List Ent → Prop
  | nil {L : List Ent} : Spl L [] L
  | cons {L M Lp R : List Ent} {e : Ent} (h : At L e M) (hs : Spl M Lp R) : Spl L (e :: Lp) R

theorem Spl.sub {L Lp R : List Ent} (h : Spl L Lp R) : SubL (Lp ++ R) L := by
  induction h with
  | nil => exact SubL.refl _
  | cons h _ ih => exact .cons h ih

section rules
variable {F : Fence} {P : Program} {ops : Array Oper} {Q : Exit → Act → World → Prop} {rest : List Oper} {n : Nat} {D : List Deferred} {l : Env} {w0 : World} {L M : List Ent}
variable {d : Nat} {ty : TypeId} {pos : String} {aft : Array Edge}

theorem ap {s x : Operand} {t T : TypeId} (hT : SliceTy P t T := by infer_instance) {agg : Bool} {size bytes : Nat} {z : Value} {zl : List Value} (hE : Ty P T agg size bytes z zl := by infer_instance) {A A2 : Option Addr} {c c2 m k : Nat} {es es2 : List (List Value)}
    (hs : ev l s = some (.slice A m c) := by exact rfl) (hx : ev l x = some (.slice A2 k c2) := by exact rfl)
    (ha : At L (.own A c T size m es) M := by repeat (first | exact At.here | apply At.there)) (hr : Rds M A2 size k es2 := by repeat (first | exact Rds.ro | exact Rds.own | apply Rds.there))
    (hb : m + k ≤ 100000000 := by omega) (hpos : 0 < size := by omega) (hby : bytes ≤ 1000000 := by omega) (hd : Nat.blt d n = true := by rfl)
    (h : ∀ A' c', WL F P ops Q rest n D ((d, .slice A' (m + k) c') :: l) w0 (.own A' c' T size (m + k) (es ++ es2) :: M)) :
    WL F P ops Q (⟨some d, .call { callee := .builtin .append, args := #[s, x], argTypes := #[t, t] }, ty, pos, aft, none⟩ :: rest) n D l w0 L :=
  WL.value (X := Option Addr × Nat) (φ := fun _ => True) (val := fun p => .slice p.1 (m + k) p.2) (L' := fun p => .own p.1 p.2 T size (m + k) (es ++ es2) :: M) (by simp) hd (fun ac w hfr hst => by
    have hp := hst.pull ha
    obtain ⟨A', c', w', hrun, hst'⟩ := run_append (P := P) t ty T hT.und hE (c := c2) hp (hp.tail.get hr) hpos hb hby
    refine ⟨(A', c'), w', trivial, ?_, hst'⟩
    simp [execOp, resolve, invoke, builtin, hfr.eval hs, hfr.eval hx, hrun]) (fun p _ => h p.1 p.2)

theorem ap0 {s x : Operand} {t T : TypeId} (hT : SliceTy P t T := by infer_instance) {agg : Bool} {size bytes : Nat} {z : Value} {zl : List Value} (hE : Ty P T agg size bytes z zl := by infer_instance) {A2 : Option Addr} {c2 k : Nat} {es2 : List (List Value)}
    (hs : ev l s = some (.slice none 0 0) := by exact rfl) (hx : ev l x = some (.slice A2 k c2) := by exact rfl) (hr : Rds L A2 size k es2 := by repeat (first | exact Rds.ro | exact Rds.own | apply Rds.there))
    (hb : k ≤ 100000000 := by omega) (hpos : 0 < size := by omega) (hby : bytes ≤ 1000000 := by omega) (hd : Nat.blt d n = true := by rfl)
    (h : ∀ A' c', WL F P ops Q rest n D ((d, .slice A' (0 + k) c') :: l) w0 (.own A' c' T size (0 + k) ([] ++ es2) :: L)) :
    WL F P ops Q (⟨some d, .call { callee := .builtin .append, args := #[s, x], argTypes := #[t, t] }, ty, pos, aft, none⟩ :: rest) n D l w0 L :=
  WL.value (X := Option Addr × Nat) (φ := fun _ => True) (val := fun p => .slice p.1 (0 + k) p.2) (L' := fun p => .own p.1 p.2 T size (0 + k) ([] ++ es2) :: L) (by simp) hd (fun ac w hfr hst => by
    have hp : St w0 w (.own none 0 T size 0 [] :: L) := by
      refine St.add (M := [_]) hst (Blw.refl _ _) (fun e he => ?_) (fun e he b hb' => ?_) (List.pairwise_singleton _ _)
      · simp only [List.mem_singleton] at he; subst he; exact ⟨World.ownsRow_nil w 0 T size, Rd.nil w none size⟩
      · simp only [List.mem_singleton] at he; subst he; obtain ⟨ad, had, _⟩ := hb'; cases had
    obtain ⟨A', c', w', hrun, hst'⟩ := run_append (P := P) t ty T hT.und hE (c := c2) hp (hst.get hr) hpos (by omega) hby
    refine ⟨(A', c'), w', trivial, ?_, hst'⟩
    simp [execOp, resolve, invoke, builtin, hfr.eval hs, hfr.eval hx, hrun]) (fun p _ => h p.1 p.2)

theorem WL.nilOwn (T : TypeId) (size : Nat) (h : WL F P ops Q rest n D l w0 (.own none 0 T size 0 [] :: L)) : WL F P ops Q rest n D l w0 L := fun hF a w hfr hst => h hF a w hfr (by
  refine St.add (M := [_]) hst (Blw.refl _ _) (fun e he => ?_) (fun e he b hb' => ?_) (List.pairwise_singleton _ _)
  · simp only [List.mem_singleton] at he; subst he; exact ⟨World.ownsRow_nil w 0 T size, Rd.nil w none size⟩
  · simp only [List.mem_singleton] at he; subst he; obtain ⟨ad, had, _⟩ := hb'; cases had)

theorem St.toRo {w0 w : World} {M : List Ent} {A : Option Addr} {cap : Nat} {T : TypeId} {size m : Nat} {es : List (List Value)} (h : St w0 w (.own A cap T size m es :: M)) : St w0 w (.ro A size m es :: M) := by
  refine ⟨h.below, fun x hx => ?_, fun x hx hxf => ?_, List.pairwise_cons.2 ⟨fun x hx hor b hb hb' => ?_, (List.pairwise_cons.1 h.sep).2⟩⟩
  · rcases List.mem_cons.1 hx with rfl | hx
    · exact (h.ok (.own A cap T size m es) (by simp)).2
    · exact h.ok x (by simp [hx])
  · rcases List.mem_cons.1 hx with rfl | hx
    · cases hxf
    · exact h.new x (by simp [hx]) hxf
  · obtain ⟨ad, h1, h2, _⟩ := hb
    exact (List.pairwise_cons.1 h.sep).1 x hx (.inl rfl) b ⟨ad, h1, h2⟩ hb'

theorem WL.toRo {A : Option Addr} {cap : Nat} {T : TypeId} {size m : Nat} {es : List (List Value)} (ha : At L (.own A cap T size m es) M) (h : WL F P ops Q rest n D l w0 (.ro A size m es :: M)) : WL F P ops Q rest n D l w0 L :=
  fun hF a w hfr hst => h hF a w hfr (hst.pull ha).toRo

theorem St.dupRo {w0 w : World} {M : List Ent} {A : Option Addr} {size m : Nat} {es : List (List Value)} (h : St w0 w (.ro A size m es :: M)) {A' : Option Addr} {m' : Nat} {es' : List (List Value)} (hr : Rd w A' size m' es')
    (hA : ∀ ad', A' = some ad' → 0 < m' → ∃ ad, A = some ad ∧ ad.block = ad'.block ∧ 0 < m) : St w0 w (.ro A' size m' es' :: .ro A size m es :: M) := by
  have hsep := List.pairwise_cons.1 h.sep
  refine ⟨h.below, fun x hx => ?_, fun x hx hxf => ?_, List.pairwise_cons.2 ⟨fun x hx hor b hb hb' => ?_, h.sep⟩⟩
  · rcases List.mem_cons.1 hx with rfl | hx
    · exact hr
    · exact h.ok x hx
  · rcases List.mem_cons.1 hx with rfl | hx
    · cases hxf
    · exact h.new x hx hxf
  · obtain ⟨ad', h1, h2, h3, h4⟩ := hb
    obtain ⟨ad, h5, h6, h7⟩ := hA ad' h1 h3
    rcases List.mem_cons.1 hx with rfl | hx
    · simp [Ent.excl] at hor
    · exact hsep.1 x hx (by simpa [Ent.excl] using hor) b ⟨ad, h5, by omega, h7, h4⟩ hb'

theorem Rd.part {w : World} {A : Option Addr} {size m : Nat} {es : List (List Value)} (h : Rd w A size m es) (cap lo hi : Nat) (hlo : lo ≤ hi) (hhi : hi ≤ m) (hcap : m ≤ cap) :
    Rd w (if cap = lo then A else A.map (·.add (lo * size))) size (hi - lo) ((es.drop lo).take (hi - lo)) := by
  have hl := h.len
  refine ⟨by simp; omega, fun c hc => h.each c (List.mem_of_mem_drop (List.mem_of_mem_take hc)), fun hn => ?_, fun ad hA k cs hk j v hj => ?_, fun c hc => h.one c (List.mem_of_mem_drop (List.mem_of_mem_take hc))⟩
  · obtain ⟨ad, rfl⟩ := h.some_ (by omega)
    rw [if_neg (by omega)]; exact ⟨_, rfl⟩
  · have hkl : k < hi - lo := by
      have := (List.getElem?_eq_some_iff.1 hk).1
      simp at this; omega
    rw [if_neg (by omega)] at hA
    cases A with
    | none => cases hA
    | some a =>
      simp at hA; subst hA
      rw [List.getElem?_take, if_pos hkl, List.getElem?_drop] at hk
      have := h.cell a rfl (lo + k) cs hk j v hj
      rw [add_add', ← Nat.add_assoc, ← Nat.add_mul]
      exact this

theorem sliceBound_ok {P : Program} {k : IntKind} {i : Int} {y : Nat} {code : BoundsCode} (h : 0 ≤ i ∧ i ≤ y) (w : World) : (Instr.sliceBound (.int k i) y code).run P w = .ok i.toNat w := by
  simp [Instr.sliceBound, asIntOf, h]

theorem run_slice {t T : TypeId} (hT : SliceTy P t T) {agg : Bool} {size bytes : Nat} {z : Value} {zl : List Value} (hE : Ty P T agg size bytes z zl) {A : Option Addr} {m cap : Nat} {lo hi : Option Value} {lo' hi' : Nat} {w : World}
    (hh : hi = none ∧ hi' = m ∨ ∃ k i, hi = some (.int k i) ∧ 0 ≤ i ∧ i ≤ cap ∧ hi' = i.toNat) (hl : lo = none ∧ lo' = 0 ∨ ∃ k i, lo = some (.int k i) ∧ 0 ≤ i ∧ i ≤ hi' ∧ lo' = i.toNat) :
    (Instr.sliceAt t (.slice A m cap) lo hi none).run P w = .ok (.slice (if cap = lo' then A else A.map (·.add (lo' * size))) (hi' - lo') (cap - lo')) w := by
  rcases hh with ⟨rfl, rfl⟩ | ⟨kh, ih, rfl, h1, h2, rfl⟩ <;> rcases hl with ⟨rfl, rfl⟩ | ⟨kl, il, rfl, h3, h4, rfl⟩
  · simp [Instr.sliceAt, run_underlying hT.und, Instr.slice, Instr.sliceBounds, run_sizeOf hE]
  · simp [Instr.sliceAt, run_underlying hT.und, Instr.slice, Instr.sliceBounds, run_sizeOf hE, sliceBound_ok (P := P) ⟨h3, h4⟩]
  · simp [Instr.sliceAt, run_underlying hT.und, Instr.slice, Instr.sliceBounds, run_sizeOf hE, sliceBound_ok (P := P) ⟨h1, h2⟩]
  · simp [Instr.sliceAt, run_underlying hT.und, Instr.slice, Instr.sliceBounds, run_sizeOf hE, sliceBound_ok (P := P) ⟨h1, h2⟩, sliceBound_ok (P := P) ⟨h3, h4⟩]

theorem WL.slice {x : Operand} {t T : TypeId} (hT : SliceTy P t T) {agg : Bool} {size bytes : Nat} {z : Value} {zl : List Value} (hE : Ty P T agg size bytes z zl) {A : Option Addr} {m cap : Nat} {es : List (List Value)} {lo hi : Option Operand} {lo' hi' : Nat}
    (hx : ev l x = some (.slice A m cap)) (ha : At L (.ro A size m es) M) (hcap : m ≤ cap) (hle : hi' ≤ m)
    (hh : hi = none ∧ hi' = m ∨ ∃ o k i, hi = some o ∧ ev l o = some (.int k i) ∧ 0 ≤ i ∧ i ≤ m ∧ hi' = i.toNat) (hl : lo = none ∧ lo' = 0 ∨ ∃ o k i, lo = some o ∧ ev l o = some (.int k i) ∧ 0 ≤ i ∧ i ≤ hi' ∧ lo' = i.toNat) (hd : Nat.blt d n = true)
    (h : ∀ A' c', hi' - lo' ≤ c' → WL F P ops Q rest n D ((d, .slice A' (hi' - lo') c') :: l) w0 (.ro A' size (hi' - lo') ((es.drop lo').take (hi' - lo')) :: .ro A size m es :: M)) :
    WL F P ops Q (⟨some d, .slice t x lo hi none, ty, pos, aft, none⟩ :: rest) n D l w0 L := by
  have hlo : lo' ≤ hi' := by
    rcases hl with ⟨_, rfl⟩ | ⟨o, k, i, _, _, h1, h2, rfl⟩ <;> omega
  refine WL.value (X := Unit) (φ := fun _ => True) (val := fun _ => .slice (if cap = lo' then A else A.map (·.add (lo' * size))) (hi' - lo') (cap - lo'))
    (L' := fun _ => .ro (if cap = lo' then A else A.map (·.add (lo' * size))) size (hi' - lo') ((es.drop lo').take (hi' - lo')) :: .ro A size m es :: M) (by simp) hd (fun ac w hfr hst => ?_) (fun _ _ => h _ _ (by omega))
  have hp := hst.pull ha
  have hr := hp.ok (.ro A size m es) (by simp)
  refine ⟨(), w, trivial, ?_, hp.dupRo (hr.part cap lo' hi' hlo hle hcap) fun ad' hA' hm' => ?_⟩
  · have hrun := run_slice (P := P) hT hE (A := A) (m := m) (cap := cap) (lo := lo.map ac.eval) (hi := hi.map ac.eval) (lo' := lo') (hi' := hi') (w := w)
      (by rcases hh with ⟨rfl, h1⟩ | ⟨o, k, i, rfl, h1, h2, h3, h4⟩
          · exact .inl ⟨rfl, h1⟩
          · exact .inr ⟨k, i, by simp [hfr.eval h1], h2, by omega, h4⟩)
      (by rcases hl with ⟨rfl, h1⟩ | ⟨o, k, i, rfl, h1, h2, h3, h4⟩
          · exact .inl ⟨rfl, h1⟩
          · exact .inr ⟨k, i, by simp [hfr.eval h1], h2, h3, h4⟩)
    simp [execOp, hfr.eval hx, hrun]
  · obtain ⟨ad, rfl⟩ := Rd.some_ hr (by omega)
    split at hA'
    · injection hA' with hA'; subst hA'; exact ⟨ad, rfl, rfl, by omega⟩
    · simp at hA'; subst hA'; exact ⟨ad, rfl, (block_add ad _).symm, by omega⟩

theorem WL.enter {op : Op} {f : FuncId} {args : List Value} (hnd : ∀ c, op ≠ .defer c) (hd : Nat.blt d n = true)
    (hrun : ∀ a w, Fr a n D l → St w0 w L → (execOp a.eval ⟨some d, op, ty, pos, aft, none⟩).run P w = .ok (.enter f args.toArray) w ∧ Calls P f args.toArray w fun e w' => ∃ v, e = .returned v ∧ ∃ L', St w0 w' L' ∧ WL F P ops Q rest n D ((d, v) :: l) w0 L') :
    WL F P ops Q (⟨some d, op, ty, pos, aft, none⟩ :: rest) n D l w0 L := by
  intro hF a w hfr hst
  obtain ⟨hr, hc⟩ := hrun a w hfr hst
  show (if _ then _ else _)
  rw [if_pos (by simp [Region.wanted])]
  refine ⟨fun f _ => hF.fn f, ?_⟩
  rw [semAt_plain hnd, hr]
  refine ⟨fun hds => (by rw [hF.depth] at hds; cases hds), ?_⟩
  refine (hF.calls hc).mono fun e w' he => ?_
  obtain ⟨v, rfl, L', hst', hk⟩ := he
  exact hk hF _ w' (hfr.put hd v) hst'


theorem run_call {f : FuncId} (hf : FnOk P f) {xs : List Operand} {vs : List Value} (hargs : Evs l xs vs) {ts : Array TypeId} {a : Act} (hfr : Fr a n D l) (w : World) :
    (execOp a.eval ⟨some d, .call { callee := .value (.func f), args := xs.toArray, argTypes := ts }, ty, pos, aft, none⟩).run P w = .ok (.enter f vs.toArray) w := by
  have he := hfr.evals hargs
  simp [execOp, resolve, Deferred.ofValue, Act.eval, invoke, he, run_callFunc hf]

theorem cl0 {f : FuncId} (hf : FnOk P f := by infer_instance) {xs : List Operand} {vs : List Value} {ts : Array TypeId} {v : Value} (hargs : Evs l xs vs := by repeat (first | exact Evs.nil | (apply Evs.cons; exact rfl))) (hd : Nat.blt d n = true := by rfl)
    (hc : ∀ w, St w0 w L → C0 P f vs w v) (h : WL F P ops Q rest n D ((d, v) :: l) w0 L) : WL F P ops Q (⟨some d, .call { callee := .value (.func f), args := xs.toArray, argTypes := ts }, ty, pos, aft, none⟩ :: rest) n D l w0 L :=
  WL.enter (by simp) hd fun a w hfr hst => ⟨run_call hf hargs hfr w, Calls.mono (hc w hst).out fun e w' ⟨he, hs⟩ => ⟨v, he, L, by simpa using hst.join hs rfl, h⟩⟩

theorem cl {f : FuncId} (hf : FnOk P f := by infer_instance) {xs : List Operand} {vs : List Value} {ts : Array TypeId} {X : Type} {φ : X → Prop} {val : X → Value} {post : X → List Ent} (hargs : Evs l xs vs := by repeat (first | exact Evs.nil | (apply Evs.cons; exact rfl))) (hd : Nat.blt d n = true := by rfl)
    (hfresh : ∀ x, (post x).all Ent.fresh = true := by intro _; rfl) (hc : ∀ w, St w0 w L → CR P f vs w φ val post) (h : ∀ x, φ x → WL F P ops Q rest n D ((d, val x) :: l) w0 (post x ++ L)) :
    WL F P ops Q (⟨some d, .call { callee := .value (.func f), args := xs.toArray, argTypes := ts }, ty, pos, aft, none⟩ :: rest) n D l w0 L :=
  WL.enter (by simp) hd fun a w hfr hst => ⟨run_call hf hargs hfr w, Calls.mono (hc w hst).out fun e w' ⟨x, hx, he, hs⟩ => ⟨val x, he, _, hst.join hs (hfresh x), h x hx⟩⟩

theorem clT {f : FuncId} (hf : FnOk P f := by infer_instance) {xs : List Operand} {vs : List Value} {ts : Array TypeId} {X : Type} {φ : X → Prop} {val : X → Value} {Lp R : List Ent} {post : X → List Ent} (hc : Tr P f vs Lp φ val post) (hargs : Evs l xs vs := by repeat (first | exact Evs.nil | (apply Evs.cons; exact rfl))) (hd : Nat.blt d n = true := by rfl)
    (hs : Spl L Lp R := by repeat (first | exact Spl.nil | (apply Spl.cons; (repeat (first | exact At.here | apply At.there))))) (h : ∀ x, φ x → WL F P ops Q rest n D ((d, val x) :: l) w0 (post x ++ R)) :
    WL F P ops Q (⟨some d, .call { callee := .value (.func f), args := xs.toArray, argTypes := ts }, ty, pos, aft, none⟩ :: rest) n D l w0 L :=
  WL.enter (by simp) hd fun a w hfr hst => ⟨run_call hf hargs hfr w, Calls.mono (hc.out w0 w R (hst.sub hs.sub)) fun e w' ⟨x, hx, he, hs⟩ => ⟨val x, he, _, hs, h x hx⟩⟩

theorem run_callF {f : FuncId} (hf : FnOk P f) {x : Operand} {fi cap : List Value} (hx : ev l x = some (.func (.func f) fi.toArray cap.toArray)) {xs : List Operand} {vs : List Value} (hargs : Evs l xs vs) {ts : Array TypeId} {a : Act} (hfr : Fr a n D l) (w : World) :
    (execOp a.eval ⟨some d, .call { callee := .value x, args := xs.toArray, argTypes := ts }, ty, pos, aft, none⟩).run P w = .ok (.enter f (fi ++ vs ++ cap).toArray) w := by
  have he := hfr.evals hargs
  simp [execOp, resolve, Deferred.ofValue, hfr.eval hx, invoke, he, run_callFunc hf]

theorem clfT {f : FuncId} (hf : FnOk P f) {x : Operand} {fi cap : List Value} {xs : List Operand} {vs : List Value} {ts : Array TypeId} {X : Type} {φ : X → Prop} {val : X → Value} {Lp R : List Ent} {post : X → List Ent}
    (hx : ev l x = some (.func (.func f) fi.toArray cap.toArray)) (hargs : Evs l xs vs) (hc : Tr P f (fi ++ vs ++ cap) Lp φ val post) (hd : Nat.blt d n = true)
    (hs : Spl L Lp R) (h : ∀ x, φ x → WL F P ops Q rest n D ((d, val x) :: l) w0 (post x ++ R)) :
    WL F P ops Q (⟨some d, .call { callee := .value x, args := xs.toArray, argTypes := ts }, ty, pos, aft, none⟩ :: rest) n D l w0 L :=
  WL.enter (by simp) hd fun a w hfr hst => ⟨run_callF hf hx hargs hfr w, Calls.mono (hc.out w0 w R (hst.sub hs.sub)) fun e w' ⟨x, hx, he, hs⟩ => ⟨val x, he, _, hs, h x hx⟩⟩

def gsl (ops : Array Oper) (j : Nat) : Option Nat := (ops[j]?).bind (·.dst)

theorem yielded_eq {a : Act} (hfr : Fr a n D l) {j g : Nat} {v : Value} (hg : gsl ops j = some g) (hv : look l g = some v) : yielded ops a.tmps j = (match v with | .bool b => some b | _ => none) := by
  unfold yielded
  unfold gsl at hg
  rw [hg]
  simp only [Option.bind_some, hfr.slot g v hv]
  cases v <;> rfl

theorem un {dst : Option Nat} {op : Op} {j g : Nat} {b : Bool} (hg : gsl ops j = some g := by exact rfl) (hv : look l g = some (.bool b) := by exact rfl)
    (h : WL F P ops Q (⟨dst, op, ty, pos, aft, none⟩ :: rest) n D l w0 L) : WL F P ops Q (⟨dst, op, ty, pos, aft, some (j, b)⟩ :: rest) n D l w0 L := by
  intro hF a w hfr hst
  have hk := h hF a w hfr hst
  have hy := yielded_eq (ops := ops) hfr hg hv
  change (if _ then _ else _) at hk
  rw [if_pos (by simp [Region.wanted])] at hk
  show (if _ then _ else _)
  rw [if_pos (by simp [Region.wanted, hy])]
  exact hk

def noB (b : Bool) : Value → Bool
  | .bool c => c != b
  | _ => true

theorem sk {op : Op} {j g : Nat} {b : Bool} {v : Value} (hg : gsl ops j = some g := by exact rfl) (hv : look l g = some v := by exact rfl) (hn : noB b v = true := by exact rfl) (hd : Nat.blt d n = true := by rfl)
    (h : WL F P ops Q rest n D ((d, undef) :: l) w0 L) : WL F P ops Q (⟨some d, op, ty, pos, aft, some (j, b)⟩ :: rest) n D l w0 L := by
  intro hF a w hfr hst
  have hy := yielded_eq (ops := ops) hfr hg hv
  show (if _ then _ else _)
  rw [if_neg]
  · exact ⟨fun f _ => hF.fn f, h hF _ w (hfr.put hd undef) hst⟩
  · simp only [Region.wanted, hy]
    cases v <;> simp [noB] at hn ⊢
    exact hn

def Mg (n : Nat) (D : List Deferred) (l : Env) (w0 : World) (L : List Ent) : Exit → Act → World → Prop
  | .normal, a, w => Fr a n D l ∧ St w0 w L
  | _, _, _ => False

theorem uponIn_mono {F : Fence} {o : Oper} {a : Act} {next next' : Act → World → Prop} {Q Q' : Exit → Act → World → Prop} {r : Result Next} (h : o.uponIn F 0 P a next Q r) (hn : ∀ a w, next a w → next' a w) (hQ : ∀ c a w, Q (.panic c) a w → Q' (.panic c) a w) (hL : LetsOut Q → LetsOut Q') :
    o.uponIn F 0 P a next' Q' r := by
  cases r with
  | ok nx w =>
    cases nx <;> first
      | exact hn _ _ h
      | exact h
      | (refine ⟨h.1, h.2.mono fun e w' he => ?_⟩; cases e <;> first | exact hn _ _ he | exact hQ _ _ _ he | exact hL he)
      | exact ⟨h.1, h.2.mono fun v w' he => hn _ _ he⟩
  | halt x w => cases x <;> first | exact hQ _ _ _ h | exact h

theorem wpListIn_app {F : Fence} (ys : List Oper) {Q' : Exit → Act → World → Prop} (hN : ∀ a w, Q' .normal a w → wpListIn F 0 P ops Q ys a w) (hP : ∀ c a w, ¬ Q' (.panic c) a w) (hO : ¬ LetsOut Q') : ∀ (xs : List Oper) (a : Act) (w : World), wpListIn F 0 P ops Q' xs a w → wpListIn F 0 P ops Q (xs ++ ys) a w
  | [], a, w, h => hN a w h
  | o :: xs, a, w, h => by
    change (if _ then _ else _) at h
    show (if _ then _ else _)
    split
    · rename_i hw
      rw [if_pos hw] at h
      exact ⟨h.1, uponIn_mono h.2 (fun a w hk => wpListIn_app ys hN hP hO xs a w hk) (fun c a w hk => absurd hk (hP c a w)) (fun hk => absurd hk hO)⟩
    · rename_i hw
      rw [if_neg hw] at h
      exact ⟨h.1, wpListIn_app ys hN hP hO xs _ w h.2⟩

theorem br (k : Nat) (g : Nat) {b : Bool} {os : List Oper} (l' : Bool → Env) (L' : Bool → List Ent) (hv : look l g = some (.bool b))
    (ht : b = true → WL F P ops (Mg n D (l' true) w0 (L' true)) (os.take k) n D ((g, .bool true) :: l) w0 L) (hf : b = false → WL F P ops (Mg n D (l' false) w0 (L' false)) (os.take k) n D ((g, .bool false) :: l) w0 L)
    (h : WL F P ops Q (os.drop k) n D (l' b) w0 (L' b)) : WL F P ops Q os n D l w0 L := by
  intro hF a w hfr hst
  have hput : ∀ c, b = c → Fr a n D ((g, .bool c) :: l) := fun c hc => ⟨hfr.size, fun k v hk => by
    rw [look_cons] at hk
    by_cases e : g = k
    · subst e; simp at hk; subst hk; exact hfr.slot g _ (by rw [hv, hc])
    · rw [if_neg e] at hk; exact hfr.slot k v hk, hfr.defers⟩
  rw [← List.take_append_drop k os]
  refine wpListIn_app (Q' := Mg n D (l' b) w0 (L' b)) (os.drop k) (fun a w hm => h hF a w hm.1 hm.2) (fun c a w hm => hm) (fun ⟨a, w, hm⟩ => hm) (os.take k) a w ?_
  cases hb : b with
  | true => exact ht hb hF a w (hput true hb) hst
  | false => exact hf hb hF a w (hput false hb) hst

theorem brAnd (k g d : Nat) {b q : Bool} {os : List Oper} (hv : look l g = some (.bool b))
    (ht : b = true → WL F P ops (Mg n D ((d, .bool q) :: l) w0 L) (os.take k) n D ((g, .bool true) :: l) w0 L) (hf : b = false → WL F P ops (Mg n D ((d, .bool false) :: l) w0 L) (os.take k) n D ((g, .bool false) :: l) w0 L)
    (h : WL F P ops Q (os.drop k) n D ((d, .bool (b && q)) :: l) w0 L) : WL F P ops Q os n D l w0 L :=
  br k g (fun b => (d, .bool (b && q)) :: l) (fun _ => L) hv ht hf h

theorem brOr (k g d : Nat) {b q : Bool} {os : List Oper} (hv : look l g = some (.bool b))
    (hf : b = false → WL F P ops (Mg n D ((d, .bool q) :: l) w0 L) (os.take k) n D ((g, .bool false) :: l) w0 L) (ht : b = true → WL F P ops (Mg n D ((d, .bool true) :: l) w0 L) (os.take k) n D ((g, .bool true) :: l) w0 L)
    (h : WL F P ops Q (os.drop k) n D ((d, .bool (b || q)) :: l) w0 L) : WL F P ops Q os n D l w0 L :=
  br k g (fun b => (d, .bool (b || q)) :: l) (fun _ => L) hv ht hf h

theorem mg {l' : Env} {L' : List Ent} (hs : Sub l' l) (hl : SubL L' L) : WL F P ops (Mg n D l' w0 L') [] n D l w0 L := fun _ _ _ hfr hst => ⟨hfr.sub hs, hst.sub hl⟩

end rules
end Go.Proofs.YtmlhnajgiopfgaaGreat

namespace Go.Proofs.YtmlhnajgiopfgaaGreat
open Go Go.RowKit

def WC (F : Fence) (P : Program) (c : Code) (Q : Exit → Act → World → Prop) (n : Nat) (D : List Deferred) (l : Env) (w0 : World) (L : List Ent) : Prop :=
  FreeF F → ∀ a w, Fr a n D l → St w0 w L → c.wpIn F 0 P Q a w

def WQ (F : Fence) (_P : Program) (Q : Exit → Act → World → Prop) (e : Exit) (n : Nat) (D : List Deferred) (l : Env) (w0 : World) (L : List Ent) : Prop :=
  FreeF F → ∀ a w, Fr a n D l → St w0 w L → Q e a w

section rules
variable {F : Fence} {P : Program} {ops : Array Oper} {Q : Exit → Act → World → Prop} {n : Nat} {D : List Deferred} {l : Env} {w0 : World} {L M : List Ent}

theorem WC.sub {c : Code} {l' : Env} (hs : Sub l' l) (h : WC F P c Q n D l' w0 L) : WC F P c Q n D l w0 L := fun hF a w hfr hst => h hF a w (hfr.sub hs) hst
theorem WC.subL {c : Code} {L' : List Ent} (hs : SubL L' L) (h : WC F P c Q n D l w0 L') : WC F P c Q n D l w0 L := fun hF a w hfr hst => h hF a w hfr (hst.sub hs)
theorem WC.know {c : Code} {p : Prop} (hp : ∀ w, St w0 w L → p) (h : p → WC F P c Q n D l w0 L) : WC F P c Q n D l w0 L := fun hF a w hfr hst => h (hp w hst) hF a w hfr hst
theorem WC.nilOwn {c : Code} (T : TypeId) (size : Nat) (h : WC F P c Q n D l w0 (.own none 0 T size 0 [] :: L)) : WC F P c Q n D l w0 L := fun hF a w hfr hst => h hF a w hfr (by
  refine St.add (M := [_]) hst (Blw.refl _ _) (fun e he => ?_) (fun e he b hb' => ?_) (List.pairwise_singleton _ _)
  · simp only [List.mem_singleton] at he; subst he; exact ⟨World.ownsRow_nil w 0 T size, Rd.nil w none size⟩
  · simp only [List.mem_singleton] at he; subst he; obtain ⟨ad, had, _⟩ := hb'; cases had)
theorem WC.toRo {c : Code} {A : Option Addr} {cap : Nat} {T : TypeId} {size m : Nat} {es : List (List Value)} (ha : At L (.own A cap T size m es) M) (h : WC F P c Q n D l w0 (.ro A size m es :: M)) : WC F P c Q n D l w0 L :=
  fun hF a w hfr hst => h hF a w hfr (hst.pull ha).toRo

theorem sq {x y : Code} (h : WC F P x (Exit.then (y.wpIn F 0 P Q) Q) n D l w0 L) : WC F P (.seq x y) Q n D l w0 L := fun hF a w hfr hst => wpIn_seq (h hF a w hfr hst)
theorem rg {id : Nat} {os : List Oper} (h : WL F P os.toArray Q os n D l w0 L) : WC F P (.region id os.toArray false) Q n D l w0 L := fun hF a w hfr hst => wpIn_region_lit (h hF a w hfr hst)
theorem nl (h : WQ F P Q .normal n D l w0 L) : WL F P ops Q [] n D l w0 L := fun hF a w hfr hst => h hF a w hfr hst
theorem skp (h : WQ F P Q .normal n D l w0 L) : WC F P .skip Q n D l w0 L := fun hF a w hfr hst => wpIn_skip (h hF a w hfr hst)
theorem cd {c : Operand} {x y : Code} {b : Bool} (hc : ev l c = some (.bool b)) (ht : b = true → WC F P x Q n D l w0 L) (hf : b = false → WC F P y Q n D l w0 L) : WC F P (.cond c x y) Q n D l w0 L :=
  fun hF a w hfr hst => wpIn_cond_split (hfr.eval hc) (fun h => ht h hF a w hfr hst) (fun h => hf h hF a w hfr hst)
theorem cdT {c : Operand} {x y : Code} (hc : ev l c = some (.bool true) := by exact rfl) (h : WC F P x Q n D l w0 L) : WC F P (.cond c x y) Q n D l w0 L :=
  fun hF a w hfr hst => wpIn_cond_true (hfr.eval hc) (h hF a w hfr hst)
theorem cdF {c : Operand} {x y : Code} (hc : ev l c = some (.bool false) := by exact rfl) (h : WC F P y Q n D l w0 L) : WC F P (.cond c x y) Q n D l w0 L :=
  fun hF a w hfr hst => wpIn_cond_false (hfr.eval hc) (h hF a w hfr hst)
theorem bk {id : Nat} {c : Code} (h : WC F P c (Exit.inBlock id Q) n D l w0 L) : WC F P (.block id c) Q n D l w0 L := fun hF a w hfr hst => wpIn_block (h hF a w hfr hst)
theorem et {id : Nat} (h : WQ F P Q (.exit id) n D l w0 L) : WC F P (.exit id) Q n D l w0 L := fun hF a w hfr hst => wpIn_exit (h hF a w hfr hst)
theorem rtn (h : WQ F P Q .ret n D l w0 L) : WC F P .ret Q n D l w0 L := fun hF a w hfr hst => wpIn_ret (h hF a w hfr hst)

theorem q_seq {y : Code} (h : WC F P y Q n D l w0 L) : WQ F P (Exit.then (y.wpIn F 0 P Q) Q) .normal n D l w0 L := h
theorem q_then_exit {N : Act → World → Prop} {id : Nat} (h : WQ F P Q (.exit id) n D l w0 L) : WQ F P (Exit.then N Q) (.exit id) n D l w0 L := h
theorem q_then_ret {N : Act → World → Prop} (h : WQ F P Q .ret n D l w0 L) : WQ F P (Exit.then N Q) .ret n D l w0 L := h
theorem q_blk_hit {id : Nat} (h : WQ F P Q .normal n D l w0 L) : WQ F P (Exit.inBlock id Q) (.exit id) n D l w0 L := fun hF a w hfr hst => by
  show (if id = id then Q .normal a w else Q (.exit id) a w)
  rw [if_pos rfl]; exact h hF a w hfr hst
theorem q_blk_miss {id id' : Nat} (hne : Nat.beq id' id = false := by rfl) (h : WQ F P Q (.exit id') n D l w0 L) : WQ F P (Exit.inBlock id Q) (.exit id') n D l w0 L := fun hF a w hfr hst => by
  show (if id' = id then Q .normal a w else Q (.exit id') a w)
  rw [if_neg (by rintro rfl; simp at hne)]; exact h hF a w hfr hst
theorem q_blk_norm {id : Nat} (h : WQ F P Q .normal n D l w0 L) : WQ F P (Exit.inBlock id Q) .normal n D l w0 L := h
theorem q_blk_ret {id : Nat} (h : WQ F P Q .ret n D l w0 L) : WQ F P (Exit.inBlock id Q) .ret n D l w0 L := h

def LI {X : Type} (I : X → Prop) (le : X → Env) (Le : X → List Ent) (μ : X → Nat) (n : Nat) (D : List Deferred) (w0 : World) (x : X) : Act → World → Prop :=
  fun a w => ∃ x', I x' ∧ μ x' < μ x ∧ Fr a n D (le x') ∧ St w0 w (Le x')

theorem lp {X : Type} (I : X → Prop) (le : X → Env) (Le : X → List Ent) (μ : X → Nat) (x0 : X) {body : Code} (h0 : I x0) (hs : Sub (le x0) l) (hL : SubL (Le x0) L)
    (round : ∀ x, I x → WC F P body (Exit.then (LI I le Le μ n D w0 x) Q) n D (le x) w0 (Le x)) : WC F P (.loop body) Q n D l w0 L := by
  intro hF a w hfr hst b k cs hro hb hr
  have key : ∀ j x a w, μ x = j → I x → Fr a n D (le x) → St w0 w (Le x) →
      ∃ e a' w', Q e a' w' ∧ ArrivesIn (Machine.fenced P F) P (lone (b.atR a (.code body :: .inLoop body :: k)) cs w) b k cs e a' w' := by
    intro j
    induction j using Nat.strongRecOn with
    | _ j ih =>
      intro x a w hn hI hfr hst
      obtain ⟨e, a₁, w₁, hq, harr⟩ := round x hI hF a w hfr hst b (.inLoop body :: k) cs hro hb hr
      cases e with
      | normal =>
        obtain ⟨x', hI₁, hlt, hfr', hst'⟩ := hq
        obtain ⟨e₂, a₂, w₂, hq₂, harr₂⟩ := ih (μ x') (hn ▸ hlt) x' a₁ w₁ rfl hI₁ hfr' hst'
        exact ⟨e₂, a₂, w₂, hq₂, .of_steps (StepsIn.trans harr (.one (fenced_calm hb hr rfl) stepR_inLoop)) harr₂⟩
      | exit id => exact ⟨_, a₁, w₁, hq, .pass (x := .inLoop body) rfl (fun _ _ => .inl (by simp)) harr⟩
      | goto l => exact ⟨_, a₁, w₁, hq, .pass (x := .inLoop body) rfl (fun _ _ => .inl (by simp)) harr⟩
      | ret => exact ⟨_, a₁, w₁, hq, .pass (x := .inLoop body) rfl (fun _ _ => .inl (by simp)) harr⟩
      | panic ch => exact ⟨_, a₁, w₁, hq, .pass (x := .inLoop body) rfl (fun _ _ => .inl (by simp)) harr⟩
      | outgrown => exact ⟨_, a₁, w₁, hq, .pass (x := .inLoop body) rfl (fun _ _ => .inl (by simp)) harr⟩
  obtain ⟨e, a', w', hq, harr⟩ := key _ x0 a w rfl h0 (hfr.sub hs) (hst.sub hL)
  exact ⟨e, a', w', hq, .of_steps (.one (fenced_calm hb hr rfl) stepR_loop) harr⟩

theorem rn {X : Type} {I : X → Prop} {le : X → Env} {Le : X → List Ent} {μ : X → Nat} {x : X} (x' : X) (hI : I x') (hμ : μ x' < μ x) (hs : Sub (le x') l) (hL : SubL (Le x') L) :
    WQ F P (Exit.then (LI I le Le μ n D w0 x) Q) .normal n D l w0 L := fun _ _ _ hfr hst => ⟨x', hI, hμ, hfr.sub hs, hst.sub hL⟩

def MI {X : Type} (I : X → Prop) (le : X → Env) (Le : X → List Ent) (n : Nat) (D : List Deferred) (w0 : World) : Act → World → Prop :=
  fun a w => ∃ x, I x ∧ Fr a n D (le x) ∧ St w0 w (Le x)

theorem ct {X : Type} (I : X → Prop) (le : X → Env) (Le : X → List Ent) {x y : Code} (h1 : WC F P x (Exit.then (MI I le Le n D w0) Q) n D l w0 L) (h2 : ∀ z, I z → WC F P y Q n D (le z) w0 (Le z)) : WC F P (.seq x y) Q n D l w0 L :=
  fun hF a w hfr hst => wpIn_seq (wpIn_mono (h1 hF a w hfr hst) fun e a w hq => by
    cases e <;> first
      | exact hq
      | (obtain ⟨z, hz, hfr', hst'⟩ := hq; exact h2 z hz hF a w hfr' hst'))

theorem ctn {X : Type} {I : X → Prop} {le : X → Env} {Le : X → List Ent} (x : X) (hI : I x) (hs : Sub (le x) l) (hL : SubL (Le x) L) : WQ F P (Exit.then (MI I le Le n D w0) Q) .normal n D l w0 L := fun _ _ _ hfr hst => ⟨x, hI, hfr.sub hs, hst.sub hL⟩

def argE : Nat → List Value → Env
  | _, [] => []
  | k, v :: vs => (k, v) :: argE (k + 1) vs

theorem look_argE : ∀ (vs : List Value) (k i : Nat) (v : Value), look (argE k vs) i = some v → ∃ j, i = k + j ∧ vs[j]? = some v
  | [], _, _, _, h => by simp [argE, look] at h
  | u :: vs, k, i, v, h => by
    rw [argE, look_cons] at h
    by_cases e : k = i
    · subst e; simp at h; exact ⟨0, rfl, by simpa using h⟩
    · rw [if_neg e] at h
      obtain ⟨j, rfl, hj⟩ := look_argE vs (k + 1) i v h
      exact ⟨j + 1, by omega, by simpa using hj⟩

theorem freeWide : FreeF Fence.wide := ⟨fun _ => trivial, rfl, rfl⟩

theorem en {f : FuncId} {fn : Func} {c : Code} {vs : List Value} {w : World} {R : Ending → World → Prop} (hf : P.funcs[f]? = some fn) (hn : fn.ntmps = n) (hst : St w0 w L) (hb : fn.body = some c := by exact rfl) (hle : Nat.ble vs.length n = true := by rfl)
    (h : ∀ F, WC F P c (bodyPost P fn R) n [] (argE 0 vs) w0 L) : Calls P f vs.toArray w R := by
  have hle' : vs.length ≤ n := Nat.le_of_ble_eq_true hle
  refine callsIn_wide.1 (callsIn_of_wp (n := 0) hf hb trivial ?_ rfl)
  refine h Fence.wide freeWide _ w ⟨?_, fun k v hk => ?_, rfl⟩ hst
  · simp [hn]; omega
  · obtain ⟨j, rfl, hj⟩ := look_argE vs 0 k v hk
    have hl : j < vs.length := (List.getElem?_eq_some_iff.1 hj).1
    simp only [Nat.zero_add]
    rw [Array.getElem?_append_left (by simpa using hl)]
    simpa using hj

inductive Res (P : Program) (l : Env) (L : List Ent) : List ResultVar → List Value → Prop
  | nil : Res P l L [] []
  | tmp {t : Nat} {rs : List ResultVar} {v : Value} {vs : List Value} (h : look l t = some v) (hs : Res P l L rs vs) : Res P l L (.tmp t :: rs) (v :: vs)
  | cellA {t : Nat} {ty : TypeId} {rs : List ResultVar} {size bytes : Nat} {z : Value} {zl us : List Value} {vs : List Value} {b o : Nat} {T : TypeId} {cs : List Value} {M : List Ent} (hT : Ty P ty true size bytes z zl) (h : look l t = some (.pointer (some ⟨b, o, none⟩)))
      (ha : At L (.blk b T cs) M) (hc : Tk cs o size us) (hs : Res P l L rs vs) : Res P l L (.cell t ty :: rs) (.agg us.toArray :: vs)
  | cell1 {t : Nat} {ty : TypeId} {rs : List ResultVar} {size bytes : Nat} {z v : Value} {zl : List Value} {vs : List Value} {b o : Nat} {T : TypeId} {cs : List Value} {M : List Ent} (hT : Ty P ty false size bytes z zl) (h : look l t = some (.pointer (some ⟨b, o, none⟩)))
      (ha : At L (.blk b T cs) M) (hc : cs[o]? = some v) (hs : Res P l L rs vs) : Res P l L (.cell t ty :: rs) (v :: vs)

def readR (tmps : Array Value) : ResultVar → Sem Value
  | .tmp t => pure (tmps.getD t undef)
  | .cell a t => do loadVar t (← asAddr (tmps.getD a undef))

theorem Res.run {a : Act} (hfr : Fr a n D l) {w : World} (hst : St w0 w L) {rs : List ResultVar} {vs : List Value} (h : Res P l L rs vs) : (rs.mapM (readR a.tmps)).run P w = .ok vs w := by
  induction h with
  | nil => simp
  | @tmp t rs v vs h _ ih =>
    have := hfr.slot _ _ h
    have e : (readR a.tmps (.tmp t)).run P w = .ok v w := by simp [readR, this]
    simp [List.mapM_cons, e, ih]
  | @cellA t ty rs size bytes z zl us vs b o T cs M hT h ha hc _ ih =>
    have hs := hfr.slot _ _ h
    have hcell : ∀ j v, us[j]? = some v → w.cell? ((⟨b, o, none⟩ : Addr).add j) = some v := fun j v hj => by
      rw [add_lit, hst.cell ha]; exact hc.out.2 j v hj
    have hl := run_loadVarA hT hc.out.1 hcell
    have e : (readR a.tmps (.cell t ty)).run P w = .ok (.agg us.toArray) w := by simp [readR, hs, asAddr, hl]
    simp [List.mapM_cons, e, ih]
  | @cell1 t ty rs size bytes z v zl vs b o T cs M hT h ha hc _ ih =>
    have hs := hfr.slot _ _ h
    have hcell : w.cell? ⟨b, o, none⟩ = some v := by rw [hst.cell ha, hc]
    have hl := run_loadVar1 hT hcell
    have e : (readR a.tmps (.cell t ty)).run P w = .ok v w := by simp [readR, hs, asAddr, hl]
    simp [List.mapM_cons, e, ih]

def resV : List Value → Value
  | [v] => v
  | vs => .tuple vs.toArray

theorem Res.results {a : Act} (hfr : Fr a n D l) {w : World} (hst : St w0 w L) {fn : Func} {rs : List ResultVar} {vs : List Value} (hr : fn.results = rs.toArray) (h : Res P l L rs vs) : (results fn a.tmps).run P w = .ok (resV vs) w := by
  have hrun := h.run hfr hst
  have e : Go.results fn a.tmps = (do let vs ← fn.results.mapM (readR a.tmps); pure (if h : vs.size = 1 then vs[0] else .tuple vs)) := by
    unfold Go.results
    congr 1
  rw [e, Sem.run_bind, hr, Array.mapM_eq_mapM_toList]
  simp only [Sem.run_map, hrun, Result.andThen_ok, Sem.run_pure]
  congr 1
  match vs with
  | [] => rfl
  | [v] => rfl
  | _ :: _ :: _ => rfl

theorem q_ret {fn : Func} {R : Ending → World → Prop} {rs : List ResultVar} {vs : List Value} (hr : fn.results = rs.toArray := by exact rfl)
    (h : Res P l L rs vs := by repeat (first | exact Res.nil | (apply Res.tmp; exact rfl) | (apply Res.cellA; infer_instance; exact rfl; (repeat (first | exact At.here | apply At.there)); (repeat (first | exact Tk.nil | apply Tk.cons | apply Tk.skip))) | (apply Res.cell1; infer_instance; exact rfl; (repeat (first | exact At.here | apply At.there)); exact rfl))) (hR : ∀ w, St w0 w L → R (.returned (resV vs)) w) : WQ F P (bodyPost P fn R) .ret n [] l w0 L :=
  fun _ _ w hfr hst => ⟨hfr.defers, _, h.results hfr hst hr, hR w hst⟩
theorem q_end {fn : Func} {R : Ending → World → Prop} {rs : List ResultVar} {vs : List Value} (hr : fn.results = rs.toArray := by exact rfl)
    (h : Res P l L rs vs := by repeat (first | exact Res.nil | (apply Res.tmp; exact rfl) | (apply Res.cellA; infer_instance; exact rfl; (repeat (first | exact At.here | apply At.there)); (repeat (first | exact Tk.nil | apply Tk.cons | apply Tk.skip))) | (apply Res.cell1; infer_instance; exact rfl; (repeat (first | exact At.here | apply At.there)); exact rfl))) (hR : ∀ w, St w0 w L → R (.returned (resV vs)) w) : WQ F P (bodyPost P fn R) .normal n [] l w0 L :=
  fun _ _ w hfr hst => ⟨hfr.defers, _, h.results hfr hst hr, hR w hst⟩

end rules
end Go.Proofs.YtmlhnajgiopfgaaGreat

namespace Go.Proofs.YtmlhnajgiopfgaaGreat
open Go Go.RowKit

def waits (ops : Array Oper) (k i : Nat) : Bool :=
  match ops[k]? with
  | none => true
  | some o => o.after.toList.any fun e => Region.binds .any e && Nat.beq e.on i

def Sh (held : List (Nat × Ent)) (listed : Array Bool) (w : World) : Prop := ∀ p ∈ held, listed.getD p.1 false = false → p.2.ok w

def wpAnyS (F : Fence) (P : Program) (ops : Array Oper) (Q : Exit → Act → World → Prop) (held : List (Nat × Ent)) : Nat → Array Bool → Act → World → Prop
  | 0, listed, a, w => Region.ready .any ops listed = [] ∧ Q .normal a w
  | fuel + 1, listed, a, w =>
    (Region.ready .any ops listed = [] → Q .normal a w) ∧
    ∀ i ∈ Region.ready .any ops listed, wpOpIn F 0 P ops Q i (fun a' w' => Sh held (listed.setIfInBounds i true) w' ∧ wpAnyS F P ops Q held fuel (listed.setIfInBounds i true) a' w') a w

section
variable {F : Fence} {P : Program} {ops : Array Oper} {Q : Exit → Act → World → Prop} {held : List (Nat × Ent)}

theorem any_of_S : ∀ (fuel : Nat) (listed : Array Bool) (a : Act) (w : World), wpAnyS F P ops Q held fuel listed a w → wpAnyIn F 0 P .any ops Q fuel listed a w
  | 0, _, _, _, h => h
  | fuel + 1, _, _, _, h => ⟨h.1, fun i hi => wpOpIn_mono (fun a' w' h' => any_of_S fuel _ a' w' h'.2) (h.2 i hi)⟩

def YI (P : Program) (ops : Array Oper) (E : List Ent) (o : Oper) (v : Value) (a : Act) : Prop :=
  (Region.wanted o (yielded ops a.tmps) = true ∧ ∀ w, OkL w E → (execOp a.eval o).run P w = .ok (.value v) w) ∨ (Region.wanted o (yielded ops a.tmps) = false ∧ v = undef)

theorem YI.of_same {E : List Ent} {o : Oper} {v : Value} {a a' : Act} (hy : YI P ops E o v a) (he : execOp a'.eval o = execOp a.eval o) (hw : Region.wanted o (yielded ops a'.tmps) = Region.wanted o (yielded ops a.tmps)) : YI P ops E o v a' := by
  unfold YI at *
  rw [he, hw]
  exact hy

theorem YI.wpOp {i : Nat} {o : Oper} {E : List Ent} {v : Value} {a : Act} (hF : FreeF F) (hnd : ∀ c, o.op ≠ .defer c) (hi : ops[i]? = some o) (hy : YI P ops E o v a) {K : Act → World → Prop} {w : World} (hE : OkL w E) (h : K (a.put o.dst v) w) : wpOpIn F 0 P ops Q i K a w := by
  unfold wpOpIn
  simp only [hi]
  rcases hy with ⟨hw, hv⟩ | ⟨hw, rfl⟩
  · simp only [hw, if_true, Oper.wpIn, semAt_plain hnd, hv w hE, Oper.uponIn]; exact ⟨fun f _ => hF.fn f, h⟩
  · simp only [hw, Bool.false_eq_true, if_false]; exact ⟨fun f _ => hF.fn f, h⟩

theorem wpOp_putS {j : Nat} {oi oj : Oper} {E : List Ent} {v : Value} (hndj : ∀ c, oj.op ≠ .defer c) (hj : ops[j]? = some oj) (hap : oi.apart ops oj = true) (hsi : ∀ cs b, oi.op ≠ .select cs b) (hsj : ∀ cs b, oj.op ≠ .select cs b)
    (hQ : ∀ c a w, ¬ Q (.panic c) a w) {K : Act → World → Prop} {a : Act} {w : World} (hy : YI P ops E oi v a) (h : wpOpIn F 0 P ops Q j K (a.put oi.dst v) w) :
    wpOpIn F 0 P ops Q j (fun a' w' => YI P ops E oi v a' ∧ K (a'.put oi.dst v) w') a w := by
  obtain ⟨h1, h2, h3⟩ := Oper.apart_spec hap
  have keep : ∀ (a : Act), YI P ops E oi v a → ∀ u, YI P ops E oi v (a.put oj.dst u) := fun a hy u => hy.of_same (execOp_put oi hsi a oj.dst u h3) (wanted_put oi a oj.dst u h3)
  unfold wpOpIn at *
  simp only [hj] at *
  rw [wanted_put oj a oi.dst v h1, about_put oj w a oi.dst v h1] at h
  split
  · rename_i hw
    simp only [hw, if_true] at h
    unfold Oper.wpIn at *
    rw [about_put oj w a oi.dst v h1] at h
    refine ⟨h.1, ?_⟩
    have h := h.2
    rw [semAt_plain hndj, execOp_put oj hsj a oi.dst v h1] at h
    rw [semAt_plain hndj]
    generalize hr : (execOp a.eval oj).run P w = r at *
    cases r with
    | ok x w' =>
      cases x <;> simp only [Oper.uponIn] at h ⊢
      case value u => exact ⟨keep a hy u, by rw [← Act.put_comm a v u h2]; exact h⟩
      case skip => exact ⟨keep a hy _, by rw [← Act.put_comm a v undef h2]; exact h⟩
      case defer d =>
        refine ⟨(hy.of_same rfl rfl : YI P ops E oi v { a with defers := d :: a.defers }).of_same (execOp_put oi hsi _ oj.dst undef h3) (wanted_put oi _ oj.dst undef h3), ?_⟩
        rw [← Act.put_comm _ v undef h2, ← Act.put_defers]
        exact h
      case enter f args =>
        refine ⟨h.1, CallsIn.mono h.2 fun e w'' he => ?_⟩
        cases e with
        | returned u => exact ⟨keep a hy u, by rw [← Act.put_comm a v u h2]; exact he⟩
        | panicked c => exact absurd he (hQ _ _ _)
        | outgrown => exact he
      case row row args => exact ⟨h.1, RowsIn.mono h.2 fun u w'' he => ⟨keep a hy u, by rw [← Act.put_comm a v u h2]; exact he⟩⟩
      case round l f tmps assign body =>
        refine ⟨h.1, RoundIn.mono h.2 fun e w'' he => ?_⟩
        cases e with
        | returned u => exact ⟨keep a hy u, by rw [← Act.put_comm a v u h2]; exact he⟩
        | panicked c => exact absurd he (hQ _ _ _)
        | outgrown => exact he
    | halt x w' =>
      cases x <;> simp only [Oper.uponIn] at h ⊢
      case panic u => exact absurd h (hQ _ _ _)
  · rename_i hw
    simp only [hw] at h
    exact ⟨h.1, keep a hy _, by rw [← Act.put_comm a v undef h2]; exact h.2⟩

theorem first {i : Nat} {oi : Oper} {v : Value} {E : List Ent} (hF : FreeF F) (hi : ops[i]? = some oi) (hnd : ∀ (j : Nat) (o : Oper) c, ops[j]? = some o → o.op ≠ .defer c) (hsel : ∀ (j : Nat) (o : Oper) cs b, ops[j]? = some o → o.op ≠ .select cs b)
    (hQ : ∀ c a w, ¬ Q (.panic c) a w) (hE : ∀ e ∈ E, ∃ k, (k, e) ∈ held ∧ waits ops k i = true) (hne : ∀ p ∈ held, p.1 ≠ i) :
    ∀ (fuel : Nat) (listed : Array Bool) (a : Act) (w : World),
      (∀ j oj, ops[j]? = some oj → j ≠ i → listed.getD j true = false → (∀ e ∈ oj.after, Region.binds .any e = true → e.on ≠ i) → oi.apart ops oj = true) →
      i ∈ Region.ready .any ops listed → (∀ p ∈ held, waits ops p.1 i = true → listed.getD p.1 false = false) → YI P ops E oi v a → Sh held listed w →
      wpAnyS F P ops Q held fuel (listed.setIfInBounds i true) (a.put oi.dst v) w → wpAnyS F P ops Q held (fuel + 1) listed a w := by
  have hok : ∀ (listed : Array Bool) (w : World), (∀ p ∈ held, waits ops p.1 i = true → listed.getD p.1 false = false) → Sh held listed w → OkL w E := fun listed w hl hs e he => by
    obtain ⟨k, hk, hw⟩ := hE e he
    exact hs (k, e) hk (hl (k, e) hk hw)
  have hset : ∀ (listed : Array Bool) (w : World), Sh held listed w → Sh held (listed.setIfInBounds i true) w := fun listed w hs p hp hl => by
    rw [getD_set_ne false (Ne.symm (hne p hp))] at hl; exact hs p hp hl
  intro fuel
  induction fuel with
  | zero =>
    intro listed a w _ hr hl hy hS H
    refine ⟨fun h => (by rw [h] at hr; cases hr), fun j hj => ?_⟩
    by_cases hji : j = i
    · subst hji; exact hy.wpOp hF (fun c => hnd j oi c hi) hi (hok listed w hl hS) ⟨hset listed w hS, H⟩
    · have := ready_mono hj hji
      rw [H.1] at this
      cases this
  | succ fuel ih =>
    intro listed a w hfree hr hl hy hS H
    refine ⟨fun h => (by rw [h] at hr; cases hr), fun j hj => ?_⟩
    by_cases hji : j = i
    · subst hji; exact hy.wpOp hF (fun c => hnd j oi c hi) hi (hok listed w hl hS) ⟨hset listed w hS, H⟩
    · have h1 := H.2 j (ready_mono hj hji)
      obtain ⟨hjun, oj, hoj, hall⟩ := mem_ready.1 hj
      have hnot : ∀ e ∈ oj.after, Region.binds .any e = true → e.on ≠ i := fun e he hb heq => by
        have h1 := hall e he hb
        have h0 := (mem_ready.1 hr).1
        rw [heq] at h1
        rcases Nat.lt_or_ge i listed.size with h' | h'
        · simp [h'] at h0 h1; rw [h0] at h1; cases h1
        · simp [Array.getElem?_eq_none h'] at h1
      have h2 := wpOp_putS (fun c => hnd j oj c hoj) hoj (hfree j oj hoj hji hjun hnot) (fun cs b => hsel i oi cs b hi) (fun cs b => hsel j oj cs b hoj) hQ hy h1
      have hfree' : ∀ k ok, ops[k]? = some ok → k ≠ i → (listed.setIfInBounds j true).getD k true = false →
          (∀ e ∈ ok.after, Region.binds .any e = true → e.on ≠ i) → oi.apart ops ok = true := fun k ok hk hki hun hno => by
        refine hfree k ok hk hki ?_ hno
        by_cases hjk : j = k
        · subst hjk; exact hjun
        · rw [getD_set_ne true hjk] at hun; exact hun
      have hl' : ∀ p ∈ held, waits ops p.1 i = true → (listed.setIfInBounds j true).getD p.1 false = false := fun p hp hw => by
        by_cases hjp : j = p.1
        · exfalso
          subst hjp
          unfold waits at hw
          rw [hoj] at hw
          obtain ⟨e, he, hb⟩ := List.any_eq_true.1 hw
          rw [Bool.and_eq_true] at hb
          exact hnot e (by simpa using he) hb.1 (Nat.eq_of_beq_eq_true hb.2)
        · rw [getD_set_ne false hjp]; exact hl p hp hw
      refine wpOpIn_mono (fun a' w' h3 => ?_) h2
      obtain ⟨hy', hS', hrest⟩ := h3
      have hS2 : Sh held (listed.setIfInBounds j true) w' := fun p hp hlp => hS' p hp (by
        rw [Array.setIfInBounds_comm _ _ (Ne.symm hji), getD_set_ne false (Ne.symm (hne p hp))]; exact hlp)
      refine ⟨hS2, ih (listed.setIfInBounds j true) a' w' hfree' (ready_mono hr (Ne.symm hji)) hl' hy' hS2 ?_⟩
      rw [Array.setIfInBounds_comm _ _ hji]
      exact hrest
end

def NP (Q : Exit → Act → World → Prop) : Exit → Act → World → Prop
  | .panic _, _, _ => False
  | .outgrown, _, _ => False
  | e, a, w => Q e a w

def WH (F : Fence) (P : Program) (ops : Array Oper) (Q : Exit → Act → World → Prop) (held : List (Nat × Ent)) (fuel : Nat) (listed : Array Bool) (n : Nat) (D : List Deferred) (l : Env) (w0 : World) (L : List Ent) : Prop :=
  FreeF F → ∀ a w, Fr a n D l → St w0 w L → Sh held listed w → wpAnyS F P ops (NP Q) held fuel listed a w

def NX (F : Fence) (P : Program) (ops : Array Oper) (Q : Exit → Act → World → Prop) (held : List (Nat × Ent)) (fuel : Nat) (listed : Array Bool) : Exit → Act → World → Prop
  | .normal, a, w => Sh held listed w ∧ wpAnyS F P ops (NP Q) held fuel listed a w
  | _, _, _ => False

def plainOps (ops : Array Oper) : Bool := ops.toList.all fun o => match o.op with | .defer _ => false | .select _ _ => false | _ => true

inductive HE (ops : Array Oper) (i : Nat) : List (Nat × Ent) → List Ent → Prop
  | nil : HE ops i [] []
  | keep {k : Nat} {e : Ent} {held : List (Nat × Ent)} {E : List Ent} (hw : waits ops k i = true) (h : HE ops i held E) : HE ops i ((k, e) :: held) (e :: E)
  | drop {k : Nat} {e : Ent} {held : List (Nat × Ent)} {E : List Ent} (h : HE ops i held E) : HE ops i ((k, e) :: held) E

theorem HE.out {ops : Array Oper} {i : Nat} {held : List (Nat × Ent)} {E : List Ent} (h : HE ops i held E) : ∀ e ∈ E, ∃ k, (k, e) ∈ held ∧ waits ops k i = true := by
  induction h with
  | nil => intro e he; cases he
  | keep hw _ ih =>
    intro e he
    rcases List.mem_cons.1 he with rfl | he
    · exact ⟨_, by simp, hw⟩
    · obtain ⟨k, hk, hw⟩ := ih e he; exact ⟨k, by simp [hk], hw⟩
  | drop _ ih => intro e he; obtain ⟨k, hk, hw⟩ := ih e he; exact ⟨k, by simp [hk], hw⟩

inductive HS (listed : Array Bool) (L : List Ent) : List (Nat × Ent) → Prop
  | nil : HS listed L []
  | keep {k : Nat} {e : Ent} {held : List (Nat × Ent)} {M : List Ent} (ha : At L e M) (h : HS listed L held) : HS listed L ((k, e) :: held)
  | ro {k : Nat} {A : Option Addr} {size n : Nat} {es : List (List Value)} {held : List (Nat × Ent)} (ha : Rds L A size n es) (h : HS listed L held) : HS listed L ((k, .ro A size n es) :: held)
  | gone {k : Nat} {e : Ent} {held : List (Nat × Ent)} (hk : listed.getD k false = true) (h : HS listed L held) : HS listed L ((k, e) :: held)

theorem HS.out {listed : Array Bool} {L : List Ent} {held : List (Nat × Ent)} (h : HS listed L held) {w : World} (hw : OkL w L) : Sh held listed w := by
  induction h with
  | nil => intro p hp; cases hp
  | keep ha _ ih =>
    intro p hp hl
    rcases List.mem_cons.1 hp with rfl | hp
    · exact hw _ ha.mem
    · exact ih p hp hl
  | ro ha _ ih =>
    intro p hp hl
    rcases List.mem_cons.1 hp with rfl | hp
    · exact hw.get ha
    · exact ih p hp hl
  | gone hk _ ih =>
    intro p hp hl
    rcases List.mem_cons.1 hp with rfl | hp
    · rw [hk] at hl; cases hl
    · exact ih p hp hl

section rules
variable {F : Fence} {P : Program} {ops : Array Oper} {Q : Exit → Act → World → Prop} {held : List (Nat × Ent)} {fuel : Nat} {listed : Array Bool} {n : Nat} {D : List Deferred} {l : Env} {w0 : World} {L M : List Ent}

theorem rgD {id : Nat} {os : List Oper} (hm : P.follows .mixedOrders = true) (held : List (Nat × Ent)) (hs : HS (Array.replicate os.toArray.size false) L held)
    (h : WH F P os.toArray Q held os.toArray.size (Array.replicate os.toArray.size false) n D l w0 L) : WC F P (.region id os.toArray true) Q n D l w0 L := by
  intro hF a w hfr hst
  refine wpIn_mono (Q := NP Q) (wpIn_region_any hm (any_of_S _ _ a _ (h hF a _ hfr hst.drew (hs.out hst.drew.ok)))) fun e a w hq => ?_
  cases e <;> first
    | exact hq
    | exact hq.elim

theorem HS.all (listed : Array Bool) (r : Ent → Nat × Ent) (hr : ∀ e, (r e).2 = e) : ∀ (L' L : List Ent), (∀ e ∈ L', ∃ M, At L e M) → HS listed L (L'.map r)
  | [], _, _ => .nil
  | e :: L', L, h => by
    obtain ⟨M, hM⟩ := h e (by simp)
    have := HS.all listed r hr L' L fun x hx => h x (by simp [hx])
    have he := hr e
    rw [List.map_cons]
    cases hre : r e with
    | mk k e' => rw [hre] at he; simp at he; subst he; exact .keep hM this

theorem At.of_mem {e : Ent} : ∀ {L : List Ent}, e ∈ L → ∃ M, At L e M
  | x :: L, h => by
    rcases List.mem_cons.1 h with rfl | h
    · exact ⟨_, .here⟩
    · obtain ⟨M, hM⟩ := At.of_mem h; exact ⟨_, .there hM⟩

theorem rgD0 {id : Nat} {os : List Oper} (hm : P.follows .mixedOrders = true)
    (h : WH F P os.toArray Q (L.map fun e => (1000000, e)) os.toArray.size (Array.replicate os.toArray.size false) n D l w0 L) : WC F P (.region id os.toArray true) Q n D l w0 L :=
  rgD hm _ (HS.all _ _ (fun _ => rfl) L L fun e he => At.of_mem he) h

theorem WH.sub {l' : Env} (hs : Sub l' l) (h : WH F P ops Q held fuel listed n D l' w0 L) : WH F P ops Q held fuel listed n D l w0 L := fun hF a w hfr hst => h hF a w (hfr.sub hs) hst
theorem WH.subL {L' : List Ent} (hs : SubL L' L) (h : WH F P ops Q held fuel listed n D l w0 L') : WH F P ops Q held fuel listed n D l w0 L := fun hF a w hfr hst => h hF a w hfr (hst.sub hs)

theorem tk (i : Nat) {d : Nat} {op : Op} {ty : TypeId} {pos : String} {aft : Array Edge} {gd : Option (Nat × Bool)} {E : List Ent} {v : Value}
    (hi : ops[i]? = some ⟨some d, op, ty, pos, aft, gd⟩ := by exact rfl) (hg : gd = none ∨ ∃ j b g, gd = some (j, b) ∧ gsl ops j = some g ∧ look l g = some (.bool b) := by first | exact .inl rfl | exact .inr ⟨_, _, _, rfl, rfl, rfl⟩)
    (hE : HE ops i held E := by repeat (first | exact HE.nil | (apply HE.keep; exact rfl) | apply HE.drop)) (hy : Yd P n D l w0 E op v)
    (hc : (plainOps ops && Region.free .any ops listed i && (Region.ready .any ops listed).contains i) = true := by kernel_rfl) (hne : (held.map (·.1)).all (fun k => !Nat.beq k i) = true := by exact rfl)
    (hl : ((held.map (·.1)).all fun k => !waits ops k i || !listed.getD k false) = true := by exact rfl) (hd : Nat.blt d n = true := by rfl)
    (h : WH F P ops Q held fuel (listed.setIfInBounds i true) n D ((d, v) :: l) w0 L) : WH F P ops Q held (fuel + 1) listed n D l w0 L := by
  intro hF a w hfr hst hsh
  simp only [Bool.and_eq_true] at hc
  obtain ⟨⟨hp, hf⟩, hr⟩ := hc
  have hplain : ∀ (j : Nat) (o : Oper), ops[j]? = some o → (∀ c, o.op ≠ .defer c) ∧ ∀ cs b, o.op ≠ .select cs b := fun j o hj => by
    have hm : o ∈ ops.toList := by
      have := List.mem_of_getElem? (l := ops.toList) (i := j) (a := o) (by simpa using hj)
      exact this
    have := List.all_eq_true.1 hp o hm
    refine ⟨fun c hc => ?_, fun cs b hc => ?_⟩ <;> simp [hc] at this
  have hwanted : Region.wanted ⟨some d, op, ty, pos, aft, gd⟩ (yielded ops a.tmps) = true := by
    rcases hg with rfl | ⟨j, b, g, rfl, hgs, hv⟩
    · simp [Region.wanted]
    · simp [Region.wanted, yielded_eq hfr hgs hv]
  refine first hF hi (fun j o c hj => (hplain j o hj).1 c) (fun j o cs b hj => (hplain j o hj).2 cs b) (fun c a w hq => hq) hE.out (fun p hp he => ?_) fuel listed a w (Region.free_spec hi hf) (by simpa using hr) (fun p hp hw => ?_)
    (.inl ⟨hwanted, fun w hE => hy.run _ rfl a w hfr hE⟩) hsh (h hF _ w (hfr.put hd v) hst fun p hp hlp => ?_)
  · have := List.all_eq_true.1 hne p.1 (List.mem_map_of_mem hp)
    rw [he] at this
    simp at this
  · have := List.all_eq_true.1 hl p.1 (List.mem_map_of_mem hp)
    rw [hw] at this
    simpa using this
  · have := List.all_eq_true.1 hne p.1 (List.mem_map_of_mem hp)
    have hpi : p.1 ≠ i := by rintro rfl; simp at this
    rw [getD_set_ne false (Ne.symm hpi)] at hlp
    exact hsh p hp hlp

theorem tkS (i : Nat) {d : Nat} {op : Op} {ty : TypeId} {pos : String} {aft : Array Edge} {j g : Nat} {b : Bool} {v : Value}
    (hi : ops[i]? = some ⟨some d, op, ty, pos, aft, some (j, b)⟩ := by exact rfl) (hgs : gsl ops j = some g := by exact rfl) (hv : look l g = some v := by exact rfl) (hn : noB b v = true := by exact rfl)
    (hc : (plainOps ops && Region.free .any ops listed i && (Region.ready .any ops listed).contains i) = true := by kernel_rfl) (hne : (held.map (·.1)).all (fun k => !Nat.beq k i) = true := by exact rfl)
    (hl : ((held.map (·.1)).all fun k => !waits ops k i || !listed.getD k false) = true := by exact rfl) (hd : Nat.blt d n = true := by rfl)
    (h : WH F P ops Q held fuel (listed.setIfInBounds i true) n D ((d, undef) :: l) w0 L) : WH F P ops Q held (fuel + 1) listed n D l w0 L := by
  intro hF a w hfr hst hsh
  simp only [Bool.and_eq_true] at hc
  obtain ⟨⟨hp, hf⟩, hr⟩ := hc
  have hplain : ∀ (j : Nat) (o : Oper), ops[j]? = some o → (∀ c, o.op ≠ .defer c) ∧ ∀ cs b, o.op ≠ .select cs b := fun j o hj => by
    have hm : o ∈ ops.toList := by
      have := List.mem_of_getElem? (l := ops.toList) (i := j) (a := o) (by simpa using hj)
      exact this
    have := List.all_eq_true.1 hp o hm
    refine ⟨fun c hc => ?_, fun cs b hc => ?_⟩ <;> simp [hc] at this
  have hwanted : Region.wanted ⟨some d, op, ty, pos, aft, some (j, b)⟩ (yielded ops a.tmps) = false := by
    simp only [Region.wanted, yielded_eq hfr hgs hv]
    cases v <;> simp [noB] at hn ⊢
    exact hn
  refine first (E := []) hF hi (fun j o c hj => (hplain j o hj).1 c) (fun j o cs b hj => (hplain j o hj).2 cs b) (fun c a w hq => hq) (fun e he => by cases he) (fun p hp he => ?_) fuel listed a w (Region.free_spec hi hf) (by simpa using hr) (fun p hp hw => ?_)
    (.inr ⟨hwanted, rfl⟩) hsh (h hF _ w (hfr.put hd undef) hst fun p hp hlp => ?_)
  · have := List.all_eq_true.1 hne p.1 (List.mem_map_of_mem hp)
    rw [he] at this
    simp at this
  · have := List.all_eq_true.1 hl p.1 (List.mem_map_of_mem hp)
    rw [hw] at this
    simpa using this
  · have := List.all_eq_true.1 hne p.1 (List.mem_map_of_mem hp)
    have hpi : p.1 ≠ i := by rintro rfl; simp at this
    rw [getD_set_ne false (Ne.symm hpi)] at hlp
    exact hsh p hp hlp

theorem wpOp_of_list {i : Nat} {o : Oper} {a : Act} {w : World} {Q' : Exit → Act → World → Prop} {K : Act → World → Prop} (ho : ops[i]? = some o) (hK : ∀ a w, Q' .normal a w → K a w) (hP : ∀ c a w, ¬ Q' (.panic c) a w) (hO : ¬ LetsOut Q')
    (h : wpListIn F 0 P ops Q' [o] a w) : wpOpIn F 0 P ops Q i K a w := by
  unfold wpOpIn
  simp only [ho]
  change (if _ then _ else _) at h
  split
  · rename_i hw
    rw [if_pos hw] at h
    exact ⟨h.1, uponIn_mono h.2 (fun a w hk => hK a w hk) (fun c a w hk => absurd hk (hP c a w)) (fun hk => absurd hk hO)⟩
  · rename_i hw
    rw [if_neg hw] at h
    exact ⟨h.1, hK _ _ h.2⟩

theorem one (i : Nat) {o : Oper} (hr : Region.ready .any ops listed = [i] := by kernel_rfl) (ho : ops[i]? = some o := by exact rfl)
    (h : WL F P ops (NX F P ops Q held fuel (listed.setIfInBounds i true)) [o] n D l w0 L) : WH F P ops Q held (fuel + 1) listed n D l w0 L := by
  intro hF a w hfr hst _
  refine ⟨fun h0 => absurd (h0.symm.trans hr) (by simp), fun j hj => ?_⟩
  rw [hr] at hj
  simp only [List.mem_singleton] at hj
  subst hj
  exact wpOp_of_list ho (fun a w hk => hk) (fun c a w hk => hk) (fun ⟨a, w, hk⟩ => hk) (h hF a w hfr hst)

theorem two (i j : Nat) {o u : Oper} (hr : Region.ready .any ops listed = [i, j] := by kernel_rfl) (ho : ops[i]? = some o := by exact rfl) (hu : ops[j]? = some u := by exact rfl)
    (h1 : WL F P ops (NX F P ops Q held fuel (listed.setIfInBounds i true)) [o] n D l w0 L) (h2 : WL F P ops (NX F P ops Q held fuel (listed.setIfInBounds j true)) [u] n D l w0 L) : WH F P ops Q held (fuel + 1) listed n D l w0 L := by
  intro hF a w hfr hst _
  refine ⟨fun h0 => absurd (h0.symm.trans hr) (by simp), fun k hk => ?_⟩
  rw [hr] at hk
  simp only [List.mem_cons, List.not_mem_nil, or_false] at hk
  rcases hk with rfl | rfl
  · exact wpOp_of_list ho (fun a w hk => hk) (fun c a w hk => hk) (fun ⟨a, w, hk⟩ => hk) (h1 hF a w hfr hst)
  · exact wpOp_of_list hu (fun a w hk => hk) (fun c a w hk => hk) (fun ⟨a, w, hk⟩ => hk) (h2 hF a w hfr hst)

theorem nx (hs : HS listed L held := by repeat (first | exact HS.nil | (apply HS.gone; exact rfl) | (apply HS.keep; (repeat (first | exact At.here | apply At.there))) | (apply HS.ro; (repeat (first | exact Rds.ro | exact Rds.own | apply Rds.there)))))
    (h : WH F P ops Q held fuel listed n D l w0 L) : WL F P ops (NX F P ops Q held fuel listed) [] n D l w0 L := fun hF a w hfr hst => ⟨hs.out hst.ok, h hF a w hfr hst (hs.out hst.ok)⟩

theorem dn (hr : Region.ready .any ops listed = [] := by kernel_rfl) (h : WQ F P Q .normal n D l w0 L) : WH F P ops Q held fuel listed n D l w0 L := by
  intro hF a w hfr hst _
  cases fuel with
  | zero => exact ⟨hr, h hF a w hfr hst⟩
  | succ m => exact ⟨fun _ => h hF a w hfr hst, fun i hi => by rw [hr] at hi; cases hi⟩

theorem brH {g : Nat} {b : Bool} (hv : look l g = some (.bool b)) (ht : b = true → WH F P ops Q held fuel listed n D ((g, .bool true) :: l) w0 L) (hf : b = false → WH F P ops Q held fuel listed n D ((g, .bool false) :: l) w0 L) : WH F P ops Q held fuel listed n D l w0 L := by
  intro hF a w hfr hst
  have hput : ∀ c, b = c → Fr a n D ((g, .bool c) :: l) := fun c hc => ⟨hfr.size, fun k v hk => by
    rw [look_cons] at hk
    by_cases e : g = k
    · subst e; simp at hk; subst hk; exact hfr.slot g _ (by rw [hv, hc])
    · rw [if_neg e] at hk; exact hfr.slot k v hk, hfr.defers⟩
  cases hb : b with
  | true => exact ht hb hF a w (hput true hb) hst
  | false => exact hf hb hF a w (hput false hb) hst

end rules
end Go.Proofs.YtmlhnajgiopfgaaGreat

namespace Go.Proofs.YtmlhnajgiopfgaaGreat
open Go Go.RowKit

theorem St.allocObj {w0 w : World} {L : List Ent} (h : St w0 w L) (o : Obj) : St w0 (w.alloc o) (.obj w.heap.size o :: L) := by
  refine St.add (M := [_]) h ((Blw.refl _ w).alloc (Nat.le_refl _) _) (fun e he => ?_) (fun e he b hb => ?_) (List.pairwise_singleton _ _)
  · simp only [List.mem_singleton] at he; subst he
    exact heap_alloc_new w o
  · simp only [List.mem_singleton] at he; subst he
    have : b = w.heap.size := hb
    omega

theorem St.putObj {w0 w : World} {M : List Ent} {b : Nat} {o : Obj} (h : St w0 w (.obj b o :: M)) (o' : Obj) : St w0 (w.putObj b o') (.obj b o' :: M) := by
  have hb := h.ok (.obj b o) (by simp)
  refine h.turn rfl (fun k _ hk => World.putObj_heap_other fun e => hk e) rfl rfl rfl (by simp) (World.putObj_heap_same (heap_lt hb)) (fun k hk => .inl hk)

theorem St.objAt {w0 w : World} {M : List Ent} {b : Nat} {o : Obj} (h : St w0 w (.obj b o :: M)) : w.heap[b]? = some o := h.ok (.obj b o) (by simp)

def recd (fn : FuncId) (tmps : Array Value) (ps : Array Tmp) (assign body : Code) (rb : Nat) (st : LoopState) (pend : Option Code) : Loop := { state := st, pending := pend, fn, tmps, params := ps, assign, body, defers := rb }

def mark (rb : Nat) : Deferred := { target := .collected rb, args := #[] }

def RoundOf (P : Program) (lb : Nat) (ys : List Value) (w : World) (R : Ending → World → Prop) : Prop :=
  ∃ fn tmps assign body, (Instr.yield lb ys.toArray).run P w = .ok (.round lb fn tmps assign body) w ∧ RoundIn Fence.wide 0 P lb fn tmps assign body w R

def RR {Y : Type} (ψ : Nat → Y → Prop) (J : Nat → Y → List Ent) (ψx : Y → Prop) (Jx : Y → List Ent) (Lp : List Ent) (w0 : World) (k : Nat) : Ending → World → Prop :=
  fun e w' => (e = .returned (.bool true) ∧ ∃ y, ψ (k + 1) y ∧ St w0 w' (Lp ++ J (k + 1) y)) ∨ (e = .returned (.bool false) ∧ ∃ y, ψx y ∧ St w0 w' (Lp ++ Jx y))

structure It (P : Program) (f : FuncId) (mk : Value → List Value) (Lp : List Ent) (N : Nat) {X : Type} (φ : Nat → X → Prop) (ya : Nat → X → List Value) (yL : Nat → X → List Ent) : Prop where
  out : ∀ {Y : Type} (ψ : Nat → Y → Prop) (J : Nat → Y → List Ent) (ψx : Y → Prop) (Jx : Y → List Ent) (w0 w : World) (lb : Nat) (y0 : Y), ψ 0 y0 → St w0 w (Lp ++ J 0 y0) →
    (∀ k x y w, k < N → φ k x → ψ k y → St w0 w (yL k x ++ (Lp ++ J k y)) → RoundOf P lb (ya k x) w (RR ψ J ψx Jx Lp w0 k)) →
    Calls P f (mk (.func (.yield lb) #[] #[])).toArray w fun e w' => ∃ v, e = .returned v ∧ ((∃ y, ψ N y ∧ St w0 w' (Lp ++ J N y)) ∨ ∃ y, ψx y ∧ St w0 w' (Lp ++ Jx y))

theorem freeRound (lb : Nat) : FreeF (Fence.wide.inRound lb) := ⟨fun _ => trivial, rfl, rfl⟩

def zipE : List Nat → List Value → Env → Env
  | p :: ps, v :: vs, l => zipE ps vs ((p, v) :: l)
  | _, _, l => l

theorem Fr.params {n : Nat} : ∀ (ps : List Nat) (vs : List Value) (tmps : Array Value) (l : Env), Fr ⟨tmps, []⟩ n [] l → ps.all (fun p => Nat.blt p n) = true →
    Fr ⟨(ps.zip vs).foldl (fun t (x : Nat × Value) => t.setIfInBounds x.1 x.2) tmps, []⟩ n [] (zipE ps vs l)
  | [], _, _, _, h, _ => h
  | _ :: _, [], _, _, h, _ => h
  | p :: ps, v :: vs, tmps, l, h, hp => by
    have hp' : Nat.blt p n = true ∧ ps.all (fun p => Nat.blt p n) = true := by simpa using hp
    exact Fr.params ps vs _ _ (h.put (d := p) hp'.1 v) hp'.2

def BR (P : Program) (lb : Nat) (body : Code) (Qb : Exit → Act → World → Prop) : Act → World → Prop :=
  fun a w => ∃ w2, (Instr.beginRound lb).run P w = .ok () w2 ∧ body.wpIn (Fence.wide.inRound lb) 0 P Qb a w2

def NoQ : Exit → Act → World → Prop := fun _ _ _ => False

section rules
variable {P : Program} {ops : Array Oper} {Q : Exit → Act → World → Prop} {rest : List Oper} {n : Nat} {D : List Deferred} {l : Env} {w0 : World} {L M : List Ent}

theorem yl {d : Nat} {ty : TypeId} {pos : String} {aft : Array Edge} {x : Operand} {xs : List Operand} {vs : List Value} {ts : Array TypeId} {lb : Nat} {Z : Type} {Φ : Z → Prop} {val : Z → Value} {post : Z → List Ent}
    (hx : ev l x = some (.func (.yield lb) #[] #[])) (hargs : Evs l xs vs) (hd : Nat.blt d n = true) (hR : ∀ w, St w0 w L → RoundOf P lb vs w fun e w' => ∃ z, Φ z ∧ e = .returned (val z) ∧ St w0 w' (post z))
    (h : ∀ z, Φ z → WL Fence.wide P ops Q rest n D ((d, val z) :: l) w0 (post z)) : WL Fence.wide P ops Q (⟨some d, .call { callee := .value x, args := xs.toArray, argTypes := ts }, ty, pos, aft, none⟩ :: rest) n D l w0 L := by
  intro hF a w hfr hst
  obtain ⟨fn, tmps, assign, body, hy, hround⟩ := hR w hst
  have he := hfr.evals hargs
  show (if _ then _ else _)
  rw [if_pos (by simp [Region.wanted])]
  refine ⟨fun f _ => hF.fn f, ?_⟩
  rw [semAt_plain (by simp)]
  have hr : (execOp a.eval ⟨some d, .call { callee := .value x, args := xs.toArray, argTypes := ts }, ty, pos, aft, none⟩).run P w = .ok (.round lb fn tmps assign body) w := by
    simp [execOp, resolve, Deferred.ofValue, hfr.eval hx, invoke, he, hy]
  rw [hr]
  refine ⟨fun hds => (by cases hds), hround.mono fun e w' he => ?_⟩
  obtain ⟨z, hz, rfl, hst'⟩ := he
  exact h z hz hF _ w' (hfr.put hd _) hst'

theorem bgn {lb : Nat} {body : Code} {Qb : Exit → Act → World → Prop} {fn : FuncId} {tmps : Array Value} {ps : Array Tmp} {asc bo : Code} {rb : Nat} {pend : Option Code}
    (ha : At L (.obj lb (.loop (recd fn tmps ps asc bo rb .ready pend))) M := by repeat (first | exact At.here | apply At.there))
    (h : WC (Fence.wide.inRound lb) P body Qb n D l w0 (.obj lb (.loop (recd fn tmps ps asc bo rb .busy pend)) :: M)) : WQ (Fence.wide.inRound lb) P (Exit.then (BR P lb body Qb) NoQ) .normal n D l w0 L := by
  intro hF a w hfr hst
  have hp := hst.pull ha
  exact ⟨_, run_beginRound hp.objAt rfl, h hF a _ hfr (hp.putObj _)⟩

theorem rdN {Y : Type} {ψ : Nat → Y → Prop} {J : Nat → Y → List Ent} {ψx : Y → Prop} {Jx : Y → List Ent} {Lp : List Ent} {k : Nat} {F : Fence} {lb : Nat} {fn : FuncId} {tmps : Array Value} {ps : Array Tmp} {asc bo : Code} {rb : Nat} {st : LoopState} {pend : Option Code} (y : Y) (hψ : ψ (k + 1) y)
    (ha : At L (.obj lb (.loop (recd fn tmps ps asc bo rb st pend))) M := by repeat (first | exact At.here | apply At.there))
    (hs : SubL (Lp ++ J (k + 1) y) (.obj lb (.loop (recd fn tmps ps asc bo rb .ready none)) :: M)) : WQ F P (roundPost P lb (RR ψ J ψx Jx Lp w0 k)) .normal n D l w0 L := by
  intro _ a w hfr hst
  have hp := hst.pull ha
  exact ⟨_, _, run_endRound none hp.objAt, .inl ⟨rfl, y, hψ, (hp.putObj _).sub hs⟩⟩

theorem rdRet {Y : Type} {ψ : Nat → Y → Prop} {J : Nat → Y → List Ent} {ψx : Y → Prop} {Jx : Y → List Ent} {Lp : List Ent} {k : Nat} {F : Fence} {lb : Nat} {fn : FuncId} {tmps : Array Value} {ps : Array Tmp} {asc bo : Code} {rb : Nat} {st : LoopState} {pend : Option Code} (y : Y) (hψ : ψx y)
    (ha : At L (.obj lb (.loop (recd fn tmps ps asc bo rb st pend))) M := by repeat (first | exact At.here | apply At.there))
    (hs : SubL (Lp ++ Jx y) (.obj lb (.loop (recd fn tmps ps asc bo rb .done (some .ret))) :: M)) : WQ F P (roundPost P lb (RR ψ J ψx Jx Lp w0 k)) .ret n D l w0 L := by
  intro _ a w hfr hst
  have hp := hst.pull ha
  exact ⟨_, _, run_endRound (some .ret) hp.objAt, .inr ⟨rfl, y, hψ, (hp.putObj _).sub hs⟩⟩

theorem rf {f : FuncId} (hf : FnOk P f) {g : Operand} {ps : List Nat} {assign body : Code} {fi cap : List Value} {Lp : List Ent} {N : Nat} {X Y : Type} {φ : Nat → X → Prop} {ya : Nat → X → List Value} {yL : Nat → X → List Ent}
    (ψ : Nat → Y → Prop) (J : Nat → Y → List Ent) (ψx : Y → Prop) (jx : Y → Code) (Jx : Y → List Ent) (y0 : Y)
    (hit : It P f (fun v => fi ++ [v] ++ cap) Lp N φ ya yL) (hx : ev l g = some (.func (.func f) fi.toArray cap.toArray)) (hlen : ∀ k x, (ya k x).length = ps.length) (hps : ps.all (fun p => Nat.blt p n) = true)
    (h0 : ψ 0 y0) (hL : SubL (Lp ++ J 0 y0) L)
    (hround : ∀ (fn : FuncId) (tmps : Array Value) (lb rb : Nat) (k : Nat) (x : X) (y : Y), k < N → φ k x → ψ k y →
      WC (Fence.wide.inRound lb) P assign (Exit.then (BR P lb body (roundPost P lb (RR ψ (fun k y => .obj lb (.loop (recd fn tmps ps.toArray assign body rb .ready none)) :: .obj rb (.deferred (some [])) :: J k y) ψx
          (fun y => .obj lb (.loop (recd fn tmps ps.toArray assign body rb .done (some (jx y)))) :: .obj rb (.deferred (some [])) :: Jx y) Lp w0 k))) NoQ) n [] (zipE ps (ya k x) l) w0
        (yL k x ++ (Lp ++ (.obj lb (.loop (recd fn tmps ps.toArray assign body rb .ready none)) :: .obj rb (.deferred (some [])) :: J k y))))
    (hdone : ∀ rb y, ψ N y → WQ Fence.wide P Q .normal n (mark rb :: D) l w0 (.obj rb (.deferred (some [])) :: (Lp ++ J N y)))
    (hjump : ∀ rb y, ψx y → WC Fence.wide P (jx y) Q n (mark rb :: D) l w0 (.obj rb (.deferred (some [])) :: (Lp ++ Jx y))) : WC Fence.wide P (.rangeFunc g ps.toArray assign body) Q n D l w0 L := by
  intro hF a w hfr hst
  have hst0 := hst.sub hL
  refine wpIn_rangeFunc fun fn _ => ?_
  obtain ⟨W, hW⟩ : ∃ W, (w.alloc (.deferred (some []))).alloc (.loop { state := .ready, pending := none, fn, tmps := a.tmps, params := ps.toArray, assign, body, defers := w.heap.size }) = W := ⟨_, rfl⟩
  refine ⟨w.heap.size + 1, [{ target := .collected w.heap.size, args := #[] }], W, { target := .fn (.func f) cap.toArray, args := fi.toArray ++ #[Value.func (.yield (w.heap.size + 1)) #[] #[]] }, W, f, (fi ++ [Value.func (.yield (w.heap.size + 1)) #[] #[]] ++ cap).toArray, W,
    by rw [← hW]; exact run_enterLoop_outer fn a.tmps ps.toArray assign body, ?_, fun _ _ => trivial, ?_, fun h => (by cases h), ?_⟩
  · simp [resolve, Deferred.ofValue, hfr.eval hx]
    rfl
  · have := run_callFunc hf (fi ++ [Value.func (.yield (w.heap.size + 1)) #[] #[]] ++ cap).toArray W
    simpa [invoke] using this
  · subst hW
    have hst1 := (hst0.allocObj (.deferred (some []))).allocObj (.loop (recd fn a.tmps ps.toArray assign body w.heap.size .ready none))
    rw [World.size_alloc] at hst1
    have hsub : SubL (Lp ++ (.obj (w.heap.size + 1) (.loop (recd fn a.tmps ps.toArray assign body w.heap.size .ready none)) :: .obj w.heap.size (.deferred (some [])) :: J 0 y0))
        (.obj (w.heap.size + 1) (.loop (recd fn a.tmps ps.toArray assign body w.heap.size .ready none)) :: .obj w.heap.size (.deferred (some [])) :: (Lp ++ J 0 y0)) := by
      have : ∀ (A B : List Ent) (e e' : Ent), SubL (A ++ (e :: e' :: B)) (e :: e' :: (A ++ B)) := by
        intro A B e e'
        induction A with
        | nil => exact SubL.refl _
        | cons x A ih => exact .cons (.there (.there .here)) ih
      exact this ..
    refine callsIn_wide.2 (Calls.mono (hit.out ψ (fun k y => .obj (w.heap.size + 1) (.loop (recd fn a.tmps ps.toArray assign body w.heap.size .ready none)) :: .obj w.heap.size (.deferred (some [])) :: J k y) ψx (fun y => .obj (w.heap.size + 1) (.loop (recd fn a.tmps ps.toArray assign body w.heap.size .done (some (jx y)))) :: .obj w.heap.size (.deferred (some [])) :: Jx y) w0 _ (w.heap.size + 1) y0 h0 (hst1.sub hsub) ?_) ?_)
    · intro k x y w1 hk hφ hψ hs1
      have hrec : w1.heap[w.heap.size + 1]? = some (.loop (recd fn a.tmps ps.toArray assign body w.heap.size .ready none)) := hs1.ok (.obj (w.heap.size + 1) (.loop (recd fn a.tmps ps.toArray assign body w.heap.size .ready none))) (by simp)
      refine ⟨_, _, _, _, run_yield hrec (by simp [recd, hlen]), ?_⟩
      refine roundIn_of_wpIn trivial ?_
      have hfr1 : Fr ⟨a.tmps, []⟩ n [] l := ⟨hfr.size, hfr.slot, rfl⟩
      have hfr2 := Fr.params ps (ya k x) a.tmps l hfr1 hps
      have := hround fn a.tmps (w.heap.size + 1) w.heap.size k x y hk hφ hψ (freeRound _) _ w1 hfr2 hs1
      unfold BR NoQ at this
      simpa [recd] using this
    · rintro e w' ⟨v, rfl, hend⟩
      rcases hend with ⟨y, hψ, hs⟩ | ⟨y, hψ, hs⟩
      · have hp := hs.pull (e := .obj (w.heap.size + 1) (.loop (recd fn a.tmps ps.toArray assign body w.heap.size .ready none))) (M := Lp ++ (.obj w.heap.size (.deferred (some [])) :: J N y)) (by
          have : ∀ (A B : List Ent) (e : Ent), At (A ++ (e :: B)) e (A ++ B) := by
            intro A B e
            induction A with
            | nil => exact .here
            | cons x A ih => exact .there ih
          exact this ..)
        refine ⟨_, _, run_endLoop hp.objAt (by simp [recd]), ?_⟩
        have hs2 := (hp.putObj (.loop (recd fn a.tmps ps.toArray assign body w.heap.size .exhausted none))).tail
        have hs3 := hs2.pull (e := .obj w.heap.size (.deferred (some []))) (M := Lp ++ J N y) (by
          have : ∀ (A B : List Ent) (e : Ent), At (A ++ (e :: B)) e (A ++ B) := by
            intro A B e
            induction A with
            | nil => exact .here
            | cons x A ih => exact .there ih
          exact this ..)
        exact hdone w.heap.size y hψ hF _ _ ⟨hfr.size, hfr.slot, by simp [mark, hfr.defers]⟩ hs3
      · have hp := hs.pull (e := .obj (w.heap.size + 1) (.loop (recd fn a.tmps ps.toArray assign body w.heap.size .done (some (jx y))))) (M := Lp ++ (.obj w.heap.size (.deferred (some [])) :: Jx y)) (by
          have : ∀ (A B : List Ent) (e : Ent), At (A ++ (e :: B)) e (A ++ B) := by
            intro A B e
            induction A with
            | nil => exact .here
            | cons x A ih => exact .there ih
          exact this ..)
        refine ⟨_, _, run_endLoop hp.objAt (by simp [recd]), ?_⟩
        have hs2 := (hp.putObj (.loop (recd fn a.tmps ps.toArray assign body w.heap.size .exhausted (some (jx y))))).tail
        have hs3 := hs2.pull (e := .obj w.heap.size (.deferred (some []))) (M := Lp ++ Jx y) (by
          have : ∀ (A B : List Ent) (e : Ent), At (A ++ (e :: B)) e (A ++ B) := by
            intro A B e
            induction A with
            | nil => exact .here
            | cons x A ih => exact .there ih
          exact this ..)
        exact hjump w.heap.size y hψ hF _ _ ⟨hfr.size, hfr.slot, by simp [mark, hfr.defers]⟩ hs3

theorem enM {f : FuncId} {fn : Func} {c : Code} {vs : List Value} {w : World} {R : Ending → World → Prop} (hf : P.funcs[f]? = some fn) (hn : fn.ntmps = n) (hst : St w0 w L) (hb : fn.body = some c := by exact rfl) (hle : Nat.ble vs.length n = true := by rfl)
    (h : WC Fence.wide P c (bodyPostM Fence.wide 0 P fn R) n [] (argE 0 vs) w0 L) : Calls P f vs.toArray w R := by
  have hle' : vs.length ≤ n := Nat.le_of_ble_eq_true hle
  refine callsIn_wide.1 (callsIn_of_wp_marks (n := 0) hf hb trivial ?_ rfl)
  refine h freeWide _ w ⟨?_, fun k v hk => ?_, rfl⟩ hst
  · simp [hn]; omega
  · obtain ⟨j, rfl, hj⟩ := look_argE vs 0 k v hk
    have hl : j < vs.length := (List.getElem?_eq_some_iff.1 hj).1
    simp only [Nat.zero_add]
    rw [Array.getElem?_append_left (by simpa using hl)]
    simpa using hj

theorem q_retM0 {fn : Func} {R : Ending → World → Prop} {rs : List ResultVar} {vs : List Value} (hr : fn.results = rs.toArray := by exact rfl)
    (h : Res P l L rs vs := by repeat (first | exact Res.nil | (apply Res.tmp; exact rfl) | (apply Res.cellA; infer_instance; exact rfl; (repeat (first | exact At.here | apply At.there)); (repeat (first | exact Tk.nil | apply Tk.cons | apply Tk.skip))) | (apply Res.cell1; infer_instance; exact rfl; (repeat (first | exact At.here | apply At.there)); exact rfl))) (hR : ∀ w, St w0 w L → R (.returned (resV vs)) w) :
    WQ Fence.wide P (bodyPostM Fence.wide 0 P fn R) .ret n [] l w0 L := fun _ a w hfr hst => by
  show LeavesInM Fence.wide 0 P fn a.tmps R a.defers .returning w
  rw [hfr.defers]
  exact ⟨_, h.results hfr hst hr, hR w hst⟩

theorem q_retM {rb : Nat} {fn : Func} {R : Ending → World → Prop} {rs : List ResultVar} {vs : List Value} (ha : At L (.obj rb (.deferred (some []))) M := by repeat (first | exact At.here | apply At.there)) (hr : fn.results = rs.toArray := by exact rfl)
    (h : Res P l M rs vs := by repeat (first | exact Res.nil | (apply Res.tmp; exact rfl) | (apply Res.cellA; infer_instance; exact rfl; (repeat (first | exact At.here | apply At.there)); (repeat (first | exact Tk.nil | apply Tk.cons | apply Tk.skip))) | (apply Res.cell1; infer_instance; exact rfl; (repeat (first | exact At.here | apply At.there)); exact rfl))) (hR : ∀ w, St w0 w M → R (.returned (resV vs)) w) :
    WQ Fence.wide P (bodyPostM Fence.wide 0 P fn R) .ret n [mark rb] l w0 L := fun _ a w hfr hst => by
  have hp := hst.pull ha
  show LeavesInM Fence.wide 0 P fn a.tmps R a.defers .returning w
  rw [hfr.defers]
  refine ⟨by simp, .inl ⟨rb, _, rfl, run_takeDeferred hp.objAt, ?_⟩⟩
  have hs2 := (hp.putObj (.deferred none)).tail
  exact ⟨_, h.results hfr hs2 hr, hR _ hs2⟩

theorem q_endM0 {fn : Func} {R : Ending → World → Prop} {rs : List ResultVar} {vs : List Value} (hr : fn.results = rs.toArray := by exact rfl)
    (h : Res P l L rs vs := by repeat (first | exact Res.nil | (apply Res.tmp; exact rfl) | (apply Res.cellA; infer_instance; exact rfl; (repeat (first | exact At.here | apply At.there)); (repeat (first | exact Tk.nil | apply Tk.cons | apply Tk.skip))) | (apply Res.cell1; infer_instance; exact rfl; (repeat (first | exact At.here | apply At.there)); exact rfl))) (hR : ∀ w, St w0 w L → R (.returned (resV vs)) w) :
    WQ Fence.wide P (bodyPostM Fence.wide 0 P fn R) .normal n [] l w0 L := fun _ a w hfr hst => by
  show LeavesInM Fence.wide 0 P fn a.tmps R a.defers .returning w
  rw [hfr.defers]
  exact ⟨_, h.results hfr hst hr, hR w hst⟩

end rules
end Go.Proofs.YtmlhnajgiopfgaaGreat

namespace Go.Proofs.YtmlhnajgiopfgaaGreat
open Go Go.RowKit

theorem Rds.cons {x : Ent} {L : List Ent} {A : Option Addr} {size n : Nat} {es : List (List Value)} (h : Rds L A size n es) : Rds (x :: L) A size n es := .there h

theorem Spl.app : ∀ (A R : List Ent), Spl (A ++ R) A R
  | [], _ => .nil
  | _ :: A, R => .cons .here (Spl.app A R)

section rules
variable {F : Fence} {P : Program} {ops : Array Oper} {Q : Exit → Act → World → Prop} {rest : List Oper} {n : Nat} {D : List Deferred} {l : Env} {w0 : World} {L M : List Ent}
variable {d : Nat} {ty : TypeId} {pos : String} {aft : Array Edge}

theorem ldEW {x : Operand} {t : TypeId} {sz bytes : Nat} {z : Value} {zl : List Value} {A : Option Addr} {k m : Nat} {es : List (List Value)} {cs : List Value} (hx : ev l x = some (pe A sz k 0) := by exact rfl) (hT : Ty P t true sz bytes z zl := by infer_instance)
    (hr : Rds L A sz m es := by repeat (first | exact Rds.ro | exact Rds.own | apply Rds.there)) (hk : es[k]? = some cs := by first | assumption | exact gm _ _ _ (by omega)) : Yd P n D l w0 L (.load t x) (.agg cs.toArray) :=
  ⟨by simp, by simp, fun oo ho ac w hfr hst => by
    have hrd := hst.get hr
    obtain ⟨ad, rfl⟩ := hrd.some_ (by have := (List.getElem?_eq_some_iff.1 hk).1; have := hrd.len; omega)
    have hl := hrd.each cs (List.mem_of_getElem? hk)
    have hcell : ∀ i v, cs[i]? = some v → w.cell? ((ad.add (k * sz + 0)).add i) = some v := fun i v hi => by
      rw [add_add', Nat.add_assoc]; exact hrd.cell ad rfl k cs hk (0 + i) v (by simpa using hi)
    have he := hfr.eval hx
    have hlv := run_loadVarA hT hl hcell
    simp only [Nat.add_zero] at hlv
    simp [execOp, ho, he, pe, Instr.loadAt, Instr.sureAddr, hlv]⟩

theorem flatten_set {es : List (List Value)} {size : Nat} (hs : ∀ c ∈ es, c.length = size) : ∀ {k j : Nat} {cs : List Value} {v : Value}, es[k]? = some cs → j < size → es.flatten.set (k * size + j) v = (es.set k (cs.set j v)).flatten := by
  induction es with
  | nil => intro k j cs v hk; simp at hk
  | cons c es ih =>
    intro k j cs v hk hj
    have hc := hs c (by simp)
    cases k with
    | zero =>
      simp at hk; subst hk
      simp only [List.flatten_cons, Nat.zero_mul, Nat.zero_add, List.set_cons_zero]
      rw [List.set_append_left _ _ (by omega)]
    | succ k =>
      simp at hk
      simp only [List.flatten_cons, List.set_cons_succ]
      rw [List.set_append_right _ _ (by rw [hc, Nat.add_mul]; omega), ← ih (fun c' h' => hs c' (by simp [h'])) hk hj]
      congr 2
      rw [hc, Nat.add_mul]; omega

theorem own_set {w : World} {M : List Ent} {A : Option Addr} {cap : Nat} {T : TypeId} {size m : Nat} {es : List (List Value)} (h : St w0 w (.own A cap T size m es :: M)) {k j : Nat} {cs : List Value} {v : Value} (hk : es[k]? = some cs) (hj : j < size) (h1 : v.oneCell' = true) :
    ∃ ad, A = some ad ∧ (∃ u, w.cell? (ad.add (k * size + j)) = some u) ∧ w.frozen? (ad.add (k * size + j)) = false ∧ St w0 (w.setCell (ad.add (k * size + j)) v) (.own A cap T size m (es.set k (cs.set j v)) :: M) := by
  obtain ⟨hown, hrd⟩ := h.ok (.own A cap T size m es) (by simp)
  have hkl : k < es.length := (List.getElem?_eq_some_iff.1 hk).1
  obtain ⟨ad, rfl⟩ := hrd.some_ (by have := hrd.len; omega)
  have hl := hrd.each cs (List.mem_of_getElem? hk)
  have hc := hrd.cell ad rfl k cs hk j cs[j] (List.getElem?_eq_getElem (by omega))
  rcases hown.2 with ⟨hv, _⟩ | ⟨g, cap', cur, hv, _⟩
  · cases hv
  · injection hv with hv1 hv2 hv3; injection hv1 with hv1; subst hv1 hv3
    have hst := hown.stored (w := w) (g := g) (k * size + j) v
    rw [flatten_set hrd.each hk hj] at hst
    have hadd : (⟨g, 0, none⟩ : Addr).add (k * size + j) = ⟨g, k * size + j, none⟩ := by rw [add_lit]; simp
    refine ⟨_, rfl, ⟨_, hc⟩, by rw [hadd]; exact hown.frozenAt _, ?_⟩
    rw [hadd]
    have hmem : ∀ c ∈ es.set k (cs.set j v), c.length = size ∧ ∀ u ∈ c, u.oneCell' = true := fun c hc => by
      rcases List.mem_or_eq_of_mem_set hc with hc | rfl
      · exact ⟨hrd.each c hc, hrd.one c hc⟩
      · refine ⟨by simpa using hl, fun u hu => ?_⟩
        rcases List.mem_or_eq_of_mem_set hu with hu | rfl
        · exact hrd.one cs (List.mem_of_getElem? hk) u hu
        · exact h1
    refine h.turn rfl (fun q hq hnf => hst.2.block q hq fun he => hnf ⟨_, rfl, by injection he with he; exact he.symm⟩) hst.2.os hst.2.tape hst.2.output hst.2.size ⟨hst.1, rd_own hst.1 (by simp [hrd.len]) (fun c hc => (hmem c hc).1) (fun c hc => (hmem c hc).2)⟩ (fun q hq => .inl hq)

theorem stE {x y : Operand} {t T : TypeId} {size bytes sz cap m k j : Nat} {z : Value} {zl : List Value} {A : Option Addr} {es : List (List Value)} {cs : List Value} {v : Value} (hx : ev l x = some (pe A sz k j) := by exact rfl) (hy : ev l y = some v := by exact rfl)
    (hT : Ty P t false size bytes z zl := by infer_instance) (h1 : v.oneCell' = true := by rfl) (hsz : size = 1 := by rfl)
    (ha : At L (.own A cap T sz m es) M := by repeat (first | exact At.here | apply At.there)) (hk : es[k]? = some cs := by first | assumption | exact rfl | exact gm _ _ _ (by omega)) (hj : Nat.blt j sz = true := by rfl)
    (h : WL F P ops Q rest n D l w0 (.own A cap T sz m (es.set k (cs.set j v)) :: M)) : WL F P ops Q (⟨none, .store t x y, ty, pos, aft, none⟩ :: rest) n D l w0 L :=
  WL.skipop (by simp) (fun ac w hfr hst => by
    have hc : v.cells = #[v] := by cases v <;> simp [Value.oneCell'] at h1 <;> rfl
    obtain ⟨ad, rfl, ⟨u, hu⟩, hf, hs⟩ := own_set (hst.pull ha) hk (by simpa [Nat.blt_eq] using hj) h1
    have hr := run_storeCells1 (P := P) h1 hu hf
    have he := hfr.eval hx
    refine ⟨_, ?_, hs⟩
    simp [execOp, he, pe, hfr.eval hy, Instr.storeAt, Instr.sureAddr, storeVar, run_sizeOf hT, hc, hsz, hr]) h

theorem ixA {x i : Operand} {t e : TypeId} {len sz bytes b o : Nat} {agg : Bool} {z : Value} {zl : List Value} {k : IntKind} {j : Int} (hT : ArrayTy P t len e := by infer_instance) (hE : Ty P e agg sz bytes z zl := by infer_instance)
    (hx : ev l x = some (.pointer (some ⟨b, o, none⟩)) := by exact rfl) (hi : ev l i = some (.int k j) := by exact rfl) (hb : 0 ≤ j ∧ j < len := by omega) : Yd P n D l w0 L (.indexAddr t x i) (.pointer (some ⟨b, o + j.toNat * sz, none⟩)) :=
  ⟨by simp, by simp, fun oo ho ac w hfr hst => by
    simp [execOp, ho, hfr.eval hx, hfr.eval hi, Instr.indexAt, asIntOf, run_underlying hT.und, hb, run_sizeOf hE, Instr.sureAddr, add_lit]⟩

def intD : Option TypeDesc → Bool
  | some (.int _) => true
  | _ => false

def fieldsI (P : Program) : Option TypeDesc → Option (List (Bool × Nat × Bool))
  | some (.struct fs) => some (fs.toList.map fun f => (f.name == "_", f.offset, intD (P.underlying f.type)))
  | _ => none

class EqS (P : Program) (t : TypeId) (m : outParam Nat) : Prop where
  und : fieldsI P (P.underlying t) = some ((List.range m).map fun i => (false, i, true))
  stood : P.stoodInHeld t = false
  grd : P.eqGuardType P.depth t = false

class EqA (P : Program) (t : TypeId) (m : outParam Nat) : Prop where
  und : P.underlying t = some (.array m (P.elem t))
  int : intD (P.underlying (P.elem t)) = true
  sz : (P.info? (P.elem t)).map (·.size) = some 1
  grd : P.eqGuardType P.depth t = false

theorem run_part_int {t : TypeId} (h : intD (P.underlying t) = true) {cs : Array Value} {o : Nat} {v : Value} (hv : cs[o]? = some v) (w : World) : (part t cs o).run P w = .ok v w := by
  cases hq : P.underlying t with
  | none => simp [hq, intD] at h
  | some dd =>
    cases dd <;> simp [hq, intD] at h
    simp [part, isAgg, run_underlying hq, hv]

theorem run_eqInt {t : TypeId} (h : intD (P.underlying t) = true) (d : Nat) (k : IntKind) (a b : Int) (w : World) : (Op.equalIn (d + 1) t (.int k a) (.int k b)).run P w = .ok (decide (a = b)) w := by
  cases hq : P.underlying t with
  | none => simp [hq, intD] at h
  | some dd =>
    cases dd <;> simp [hq, intD] at h
    simp [Op.equalIn, run_underlying hq]
    rfl

def vI (x : Int) : Value := .int .i64 x

theorem run_eqFields (d : Nat) (w : World) (xs ys : List Int) (hl : xs.length = ys.length) : ∀ (fs : List Field) (o : Nat), fs.map (fun f => (f.name == "_", f.offset, intD (P.underlying f.type))) = (List.range' o (xs.length - o)).map (fun i => (false, i, true)) → o ≤ xs.length →
    (Op.eqFields (d + 1) (xs.map vI).toArray (ys.map vI).toArray fs).run P w = .ok (decide (xs.drop o = ys.drop o)) w
  | [], o, h, ho => by
    have h0 : xs.length - o = 0 := by simpa using (congrArg List.length h).symm
    have e1 : xs.drop o = [] := List.drop_eq_nil_of_le (by omega)
    have e2 : ys.drop o = [] := List.drop_eq_nil_of_le (by omega)
    simp [Op.eqFields, e1, e2]
  | f :: fs, o, h, ho => by
    obtain ⟨r, hr⟩ : ∃ r, xs.length - o = r + 1 := by
      have := congrArg List.length h
      simp at this
      exact ⟨fs.length, by omega⟩
    rw [hr, List.range'_succ] at h
    simp only [List.map_cons, List.cons.injEq, Prod.mk.injEq] at h
    obtain ⟨⟨hn, hof, hin⟩, hrest⟩ := h
    have hx : (xs.map vI).toArray[f.offset]? = some (.int .i64 (xs[o]'(by omega))) := by rw [hof]; simp [vI, show o < xs.length by omega]
    have hy : (ys.map vI).toArray[f.offset]? = some (.int .i64 (ys[o]'(by omega))) := by rw [hof]; simp [vI, show o < ys.length by omega]
    have hne : f.name ≠ "_" := by simpa using hn
    have ih := run_eqFields d w xs ys hl fs (o + 1) (by rw [show xs.length - (o + 1) = r by omega]; exact hrest) (by omega)
    have dx : xs.drop o = xs[o]'(by omega) :: xs.drop (o + 1) := List.drop_eq_getElem_cons (by omega)
    have dy : ys.drop o = ys[o]'(by omega) :: ys.drop (o + 1) := List.drop_eq_getElem_cons (by omega)
    simp only [Op.eqFields, if_pos hne, Sem.run_bind, run_part_int hin hx, run_part_int hin hy, Result.andThen_ok, run_eqInt hin]
    rw [dx, dy]
    by_cases he : xs[o]'(by omega) = ys[o]'(by omega)
    · rw [decide_eq_true he]
      refine Eq.trans ih ?_
      congr 1
      simp only [List.cons.injEq, he, true_and]
    · rw [decide_eq_false he]
      refine Eq.trans (Sem.run_pure ..) ?_
      simp only [List.cons.injEq, he, false_and, decide_false]

theorem run_equalS {t : TypeId} {m : Nat} (h : EqS P t m) (xs ys : List Int) (hx : xs.length = m) (hy : ys.length = m) (w : World) : (Op.equal t (.agg (xs.map vI).toArray) (.agg (ys.map vI).toArray)).run P w = .ok (decide (xs = ys)) w := by
  have hu := h.und
  cases hq : P.underlying t with
  | none => simp [hq, fieldsI] at hu
  | some dd =>
    cases dd <;> simp only [hq, fieldsI, Option.some.injEq, reduceCtorEq] at hu
    rename_i fs
    have hf : P.underlying t = some (.struct (P.fieldsOf t)) := by simp [Program.fieldsOf, hq]
    have hfs : P.fieldsOf t = fs := by simp [Program.fieldsOf, hq]
    have h1 : ∀ d : Nat, (Op.equalIn (d + 1 + 1) t (.agg (xs.map vI).toArray) (.agg (ys.map vI).toArray)).run P w = .ok (decide (xs = ys)) w := fun d => by
      rw [run_equalIn_struct w (d + 1) t _ _ hf h.stood, hfs]
      have := run_eqFields (P := P) d w xs ys (by omega) fs.toList 0 (by rw [hu, hx, List.range_eq_range']; simp) (by omega)
      simpa using this
    exact h1 9998

inductive IntL : List Value → List Int → Prop
  | nil : IntL [] []
  | cons {x : Int} {cs : List Value} {xs : List Int} (h : IntL cs xs) : IntL (.int .i64 x :: cs) (x :: xs)
theorem IntL.out {cs : List Value} {xs : List Int} (h : IntL cs xs) : cs = xs.map vI := by
  induction h with
  | nil => rfl
  | cons _ ih => simp [vI, ih]

theorem eqlT {x y : Operand} {t u : TypeId} {m : Nat} (hE : EqS P t m := by infer_instance) {cs ds : List Value} {as' bs' : List Int} (hx : ev l x = some (.agg cs.toArray) := by exact rfl) (hy : ev l y = some (.agg ds.toArray) := by exact rfl)
    (ha : IntL cs as' := by repeat (first | exact IntL.nil | apply IntL.cons)) (hb : IntL ds bs' := by repeat (first | exact IntL.nil | apply IntL.cons)) (h1 : as'.length = m := by rfl) (h2 : bs'.length = m := by rfl) : Yd P n D l w0 L (.binOp .eql t x y u) (.bool (decide (as' = bs'))) :=
  ⟨by simp, by simp, fun oo ho ac w hfr _ => by
    have h := run_equalS hE as' bs' h1 h2 w
    rw [← ha.out, ← hb.out] at h
    simp [execOp, ho, hfr.eval hx, hfr.eval hy, binOp, h, eqGuard, hE.grd]⟩
theorem neqT {x y : Operand} {t u : TypeId} {m : Nat} (hE : EqS P t m := by infer_instance) {cs ds : List Value} {as' bs' : List Int} (hx : ev l x = some (.agg cs.toArray) := by exact rfl) (hy : ev l y = some (.agg ds.toArray) := by exact rfl)
    (ha : IntL cs as' := by repeat (first | exact IntL.nil | apply IntL.cons)) (hb : IntL ds bs' := by repeat (first | exact IntL.nil | apply IntL.cons)) (h1 : as'.length = m := by rfl) (h2 : bs'.length = m := by rfl) : Yd P n D l w0 L (.binOp .neq t x y u) (.bool (!decide (as' = bs'))) :=
  ⟨by simp, by simp, fun oo ho ac w hfr _ => by
    have h := run_equalS hE as' bs' h1 h2 w
    rw [← ha.out, ← hb.out] at h
    simp [execOp, ho, hfr.eval hx, hfr.eval hy, binOp, h, eqGuard, hE.grd]⟩
theorem eqlN {x y : Operand} {t u e : TypeId} (hT : SliceTy P t e := by infer_instance) {A : Option Addr} {m c : Nat} (hx : ev l x = some (.slice A m c) := by exact rfl) (hy : ev l y = some (.slice none 0 0) := by exact rfl) : Yd P n D l w0 L (.binOp .eql t x y u) (.bool A.isNone) :=
  ⟨by simp, by simp, fun oo ho ac w hfr _ => by
    have h := run_equal_slice_nil (P := P) w t e A m c hT.und
    simp only [execOp, ho, hfr.eval hx, hfr.eval hy, binOp, Sem.run_bind, eqGuard]
    simp [h]⟩

end rules
end Go.Proofs.YtmlhnajgiopfgaaGreat

namespace Go.Proofs.YtmlhnajgiopfgaaGreat
open Go Go.RowKit

theorem St.room {w0 w : World} {M : List Ent} {A : Option Addr} {cap : Nat} {T : TypeId} {size n : Nat} {es : List (List Value)} (h : St w0 w (.own A cap T size n es :: M)) : n ≤ cap ∧ cap ≤ 9223372036854775807 := by
  obtain ⟨hown, _⟩ := h.ok (.own A cap T size n es) (by simp)
  rcases hown.2 with ⟨hv, hn⟩ | ⟨g, cap', cur, hv, _, _, h1, h2, _⟩
  · injection hv with h1 h2 h3; subst h2 h3; omega
  · injection hv with h3 h4 h5; subst h5
    exact ⟨h1, by simpa [maxLen] using h2⟩

section rules
variable {F : Fence} {P : Program} {ops : Array Oper} {Q : Exit → Act → World → Prop} {rest : List Oper} {n : Nat} {D : List Deferred} {l : Env} {w0 : World} {L M : List Ent}
variable {d : Nat} {ty : TypeId} {pos : String} {aft : Array Edge}

theorem slV {x : Operand} {t T : TypeId} (hT : SliceTy P t T := by infer_instance) {agg : Bool} {size bytes : Nat} {z : Value} {zl : List Value} (hE : Ty P T agg size bytes z zl := by infer_instance) {A : Option Addr} {m cap : Nat} {lo hi : Option Operand} (lo' hi' : Nat)
    (hx : ev l x = some (.slice A m cap) := by exact rfl) (hh : hi = none ∧ hi' = m ∨ ∃ o k i, hi = some o ∧ ev l o = some (.int k i) ∧ 0 ≤ i ∧ i ≤ cap ∧ hi' = i.toNat)
    (hl : lo = none ∧ lo' = 0 ∨ ∃ o k i, lo = some o ∧ ev l o = some (.int k i) ∧ 0 ≤ i ∧ i ≤ hi' ∧ lo' = i.toNat) :
    Yd P n D l w0 L (.slice t x lo hi none) (.slice (if cap = lo' then A else A.map (·.add (lo' * size))) (hi' - lo') (cap - lo')) :=
  ⟨by simp, by simp, fun oo ho ac w hfr _ => by
    have hrun := run_slice (P := P) hT hE (A := A) (m := m) (cap := cap) (lo := lo.map ac.eval) (hi := hi.map ac.eval) (lo' := lo') (hi' := hi') (w := w)
      (by rcases hh with ⟨rfl, h1⟩ | ⟨o, k, i, rfl, h1, h2, h3, h4⟩
          · exact .inl ⟨rfl, h1⟩
          · exact .inr ⟨k, i, by simp [hfr.eval h1], h2, h3, h4⟩)
      (by rcases hl with ⟨rfl, h1⟩ | ⟨o, k, i, rfl, h1, h2, h3, h4⟩
          · exact .inl ⟨rfl, h1⟩
          · exact .inr ⟨k, i, by simp [hfr.eval h1], h2, h3, h4⟩)
    simp [execOp, ho, hfr.eval hx, hrun]⟩

theorem St.part {A : Option Addr} {size m cap : Nat} {es : List (List Value)} {w : World} (h : St w0 w (.ro A size m es :: M)) (lo hi : Nat) (hlo : lo ≤ hi) (hhi : hi ≤ m) (hcap : m ≤ cap) :
    St w0 w (.ro (if cap = lo then A else A.map (·.add (lo * size))) size (hi - lo) ((es.drop lo).take (hi - lo)) :: .ro A size m es :: M) := by
  have hr := h.ok (.ro A size m es) (by simp)
  refine h.dupRo (hr.part cap lo hi hlo hhi hcap) fun ad' hA' hm' => ?_
  obtain ⟨ad, rfl⟩ := Rd.some_ hr (by omega)
  split at hA'
  · injection hA' with hA'; subst hA'; exact ⟨ad, rfl, rfl, by omega⟩
  · simp at hA'; subst hA'; exact ⟨ad, rfl, (block_add ad _).symm, by omega⟩
theorem WC.part {c : Code} {A : Option Addr} {size m cap : Nat} {es : List (List Value)} (ha : At L (.ro A size m es) M) (lo hi : Nat) (hlo : lo ≤ hi) (hhi : hi ≤ m) (hcap : m ≤ cap)
    (h : WC F P c Q n D l w0 (.ro (if cap = lo then A else A.map (·.add (lo * size))) size (hi - lo) ((es.drop lo).take (hi - lo)) :: .ro A size m es :: M)) : WC F P c Q n D l w0 L :=
  fun hF a w hfr hst => h hF a w hfr ((hst.pull ha).part lo hi hlo hhi hcap)
theorem WC.room {c : Code} {A : Option Addr} {cap : Nat} {T : TypeId} {size k : Nat} {es : List (List Value)} (ha : At L (.own A cap T size k es) M) (h : k ≤ cap ∧ cap ≤ 9223372036854775807 → WC F P c Q n D l w0 L) : WC F P c Q n D l w0 L :=
  fun hF a w hfr hst => h (hst.pull ha).room hF a w hfr hst
end rules
end Go.Proofs.YtmlhnajgiopfgaaGreat

namespace Go.Proofs.YtmlhnajgiopfgaaGreat
open Go Go.RowKit

theorem St.clear {w0 : World} {M : List Ent} {g cap : Nat} {T : TypeId} {n : Nat} {z : Value} (h1 : z.oneCell' = true) : ∀ (r k : Nat) (w : World) (es : List (List Value)), k + r = n → St w0 w (.own (some ⟨g, 0, none⟩) cap T 1 n es :: M) →
    ∃ es', St w0 (w.setCells g k (List.replicate r z)) (.own (some ⟨g, 0, none⟩) cap T 1 n es' :: M) ∧ es'.take k = es.take k
  | 0, k, w, es, _, h => ⟨es, h, rfl⟩
  | r + 1, k, w, es, hk, h => by
    have hlen : es.length = n := (h.ok (.own (some ⟨g, 0, none⟩) cap T 1 n es) (by simp)).2.len
    have he : es[k]? = some (es[k]'(by omega)) := List.getElem?_eq_getElem (by omega)
    obtain ⟨ad, had, _, _, hs⟩ := own_set h he (j := 0) (v := z) (by omega) h1
    injection had with had; subst had
    have e : (⟨g, 0, none⟩ : Addr).add (k * 1 + 0) = ⟨g, k, none⟩ := by rw [add_lit]; simp
    rw [e] at hs
    obtain ⟨es', hs', ht⟩ := St.clear h1 r (k + 1) _ _ (by omega) hs
    refine ⟨es', hs', ?_⟩
    have := congrArg (List.take k) ht
    rw [List.take_take, List.take_take, Nat.min_eq_left (by omega)] at this
    rw [this, List.take_set_of_le (Nat.le_refl k)]

section rules
variable {F : Fence} {P : Program} {ops : Array Oper} {Q : Exit → Act → World → Prop} {rest : List Oper} {n : Nat} {D : List Deferred} {l : Env} {w0 : World} {L M : List Ent}
variable {d : Nat} {ty : TypeId} {pos : String} {aft : Array Edge}
theorem slP {x : Operand} {t T : TypeId} (hT : SliceTy P t T := by infer_instance) {agg : Bool} {size bytes : Nat} {z : Value} {zl : List Value} (hE : Ty P T agg size bytes z zl := by infer_instance) {A : Option Addr} {m cap : Nat} {hi : Operand} {k : IntKind} (hi' : Nat)
    (hx : ev l x = some (.slice A m cap) := by exact rfl) (hh : ev l hi = some (.int k hi') := by exact rfl) (hc : hi' ≤ cap := by omega) : Yd P n D l w0 L (.slice t x none (some hi) none) (.slice A hi' cap) := by
  have h := slV (P := P) (n := n) (D := D) (w0 := w0) (L := L) hT hE (A := A) (m := m) (cap := cap) (lo := none) (hi := some hi) 0 hi' hx (.inr ⟨hi, k, hi', rfl, hh, by omega, by omega, by omega⟩) (.inl ⟨rfl, rfl⟩)
  have e : (if cap = 0 then A else A.map (·.add (0 * size))) = A := by
    split
    · rfl
    · cases A <;> simp [Addr.add_zero']
  rw [e] at h
  simpa using h
end rules
theorem WC.pre {F : Fence} {P : Program} {Q : Exit → Act → World → Prop} {n : Nat} {D : List Deferred} {l : Env} {w0 : World} {L M : List Ent} {c : Code} {A : Option Addr} {size m : Nat} {es : List (List Value)} (ha : At L (.ro A size m es) M) (k : Nat) (hk : k ≤ m) (h : WC F P c Q n D l w0 (.ro A size k (es.take k) :: .ro A size m es :: M)) : WC F P c Q n D l w0 L := by
  refine WC.part (cap := m + 1) ha 0 k (Nat.zero_le _) hk (by omega) ?_
  have e : (if m + 1 = 0 then A else A.map (·.add (0 * size))) = A := by
    rw [if_neg (by omega)]
    cases A <;> simp [Addr.add_zero']
  rw [e]
  simpa using h
theorem SubL.skip {x : Ent} : ∀ {L' L : List Ent}, SubL L' L → SubL L' (x :: L)
  | [], _, _ => .nil
  | _ :: _, _, .cons h hs => .cons (.there h) hs.skip
theorem At.app {e : Ent} : ∀ (A R : List Ent), At (A ++ e :: R) e (A ++ R)
  | [], _ => .here
  | _ :: A, R => .there (At.app A R)
theorem SubL.mid {e : Ent} : ∀ (A R : List Ent), SubL (A ++ e :: R) (e :: (A ++ R))
  | [], R => SubL.refl _
  | a :: A, R => .cons (.there .here) (SubL.mid A R)
end Go.Proofs.YtmlhnajgiopfgaaGreat

namespace Go.Proofs.YtmlhnajgiopfgaaGreat
open Go Go.RowKit

section rules
variable {F : Fence} {P : Program} {ops : Array Oper} {Q : Exit → Act → World → Prop} {rest : List Oper} {n : Nat} {D : List Deferred} {l : Env} {w0 : World} {L M : List Ent}
variable {d : Nat} {ty : TypeId} {pos : String} {aft : Array Edge}

theorem WC.some_ {c : Code} {A : Option Addr} {cap : Nat} {T : TypeId} {size k : Nat} {es : List (List Value)} (ha : At L (.own A cap T size k es) M) (hk : 0 < k) (h : A.isSome = true → WC F P c Q n D l w0 L) : WC F P c Q n D l w0 L :=
  WC.know (fun w hst => by
    obtain ⟨ad, rfl⟩ := (hst.ok _ ha.mem).2.some_ hk
    rfl) h

theorem ixS {x i : Operand} {t e : TypeId} (hT : SliceTy P t e := by infer_instance) {agg : Bool} {size bytes : Nat} {z : Value} {zl : List Value} (hE : Ty P e agg size bytes z zl := by infer_instance) {A : Option Addr} {m c : Nat} {k : IntKind} {j : Int}
    (hx : ev l x = some (.slice A m c) := by exact rfl) (hi : ev l i = some (.int k j) := by exact rfl)
    (hs : A.isSome = true := by assumption) (hb : 0 ≤ j ∧ j < m := by omega) : Yd P n D l w0 L (.indexAddr t x i) (pe A size j.toNat 0) :=
  ⟨by simp, by simp, fun oo ho ac w hfr hst => by
    obtain ⟨ad, rfl⟩ := Option.isSome_iff_exists.1 hs
    simp [execOp, ho, hfr.eval hx, hfr.eval hi, Instr.indexAt, asIntOf, run_underlying hT.und, hb, run_sizeOf hE, pe]⟩

class BuildArr (P : Program) (t : TypeId) (size : outParam Nat) (zl : outParam (List Value)) : Prop where
  eq : ∀ parts, P.built t parts = Instr.fill (fun i => some (i * size, size)) zl.toArray parts
inductive BldA (l : Env) (size : Nat) : List (Nat × Operand) → List Value → List Value → Prop
  | nil {cs : List Value} : BldA l size [] cs cs
  | one {i : Nat} {x : Operand} {v : Value} {parts : List (Nat × Operand)} {cs cs' r : List Value} (hs : size = 1) (hx : ev l x = some v) (h1 : v.oneCell' = true) (hput : PutR cs (i * size) [v] cs') (h : BldA l size parts cs' r) : BldA l size ((i, x) :: parts) cs r
  | agg {i : Nat} {x : Operand} {vs : List Value} {parts : List (Nat × Operand)} {cs cs' r : List Value} (h0 : 0 < size) (hx : ev l x = some (.agg vs.toArray)) (hl : vs.length = size) (hput : PutR cs (i * size) vs cs') (h : BldA l size parts cs' r) : BldA l size ((i, x) :: parts) cs r
theorem BldA.out {a : Act} {n : Nat} {D : List Deferred} {l : Env} (hfr : Fr a n D l) {size : Nat} {parts : List (Nat × Operand)} {cs r : List Value} (h : BldA l size parts cs r) :
    Instr.fill (fun i => some (i * size, size)) cs.toArray (parts.map fun p => (p.1, a.eval p.2)) = some r.toArray := by
  induction h with
  | nil => simp [Instr.fill]
  | one hs hx h1 hput _ ih =>
    subst hs
    simp only [List.map_cons]
    rw [fill_step _ _ [_] _ _ 1 _ _ rfl (by rw [hfr.eval hx]; exact cells_one h1) rfl (by simpa using hput.out.2 (by simp)), ← hput.out.1]
    exact ih
  | @agg i x vs parts cs cs' r h0 hx hl hput _ ih =>
    simp only [List.map_cons]
    have hv : vs ≠ [] := by rintro rfl; simp at hl; omega
    rw [fill_step _ _ vs _ _ size _ _ rfl (by rw [hfr.eval hx]; rfl) hl (by have := hput.out.2 hv; omega), ← hput.out.1]
    exact ih
theorem stI {x y : Operand} {t : TypeId} {size bytes : Nat} {z : Value} {zl : List Value} (hT : Ty P t false size bytes z zl := by infer_instance) {b o : Nat} {T : TypeId} {cs : List Value} {v : Value}
    (hx : ev l x = some (.pointer (some ⟨b, o, none⟩)) := by exact rfl) (hy : ev l y = some v := by exact rfl) (h1 : v.oneCell' = true := by rfl) (hsz : size = 1 := by rfl)
    (ha : At L (.blk b T cs) M := by repeat (first | exact At.here | apply At.there)) (ho : o < cs.length)
    (h : WL F P ops Q rest n D l w0 (.blk b T (cs.set o v) :: M)) : WL F P ops Q (⟨none, .store t x y, ty, pos, aft, none⟩ :: rest) n D l w0 L :=
  WL.skipop (by simp) (fun ac w hfr hst => by
    have hc : v.cells = #[v] := by cases v <;> simp [Value.oneCell'] at h1 <;> rfl
    obtain ⟨w', hr, hs⟩ := run_storeCells (P := P) [v] cs o 0 w (hst.pull ha) (fun _ => by simp; omega) (by simpa using h1)
    refine ⟨w', ?_, by simpa [putAll] using hs⟩
    simp [execOp, hfr.eval hx, hfr.eval hy, Instr.storeAt, Instr.sureAddr, storeVar, run_sizeOf hT, hc, hsz, hr]) h

theorem St.old {w : World} (h : St w0 w L) {A : Option Addr} {size m : Nat} {es : List (List Value)} (hr : Rd w0 A size m es) : St w0 w (.ro A size m es :: L) := by
  have hlt : ∀ b, (Ent.ro A size m es).fp b → b < w0.heap.size := fun b hb => Ent.ok_lt (e := .ro A size m es) hr hb
  refine ⟨h.below, fun x hx => ?_, fun x hx hf b hb => ?_, List.pairwise_cons.2 ⟨fun x hx hor b hb hb' => ?_, h.sep⟩⟩
  · rcases List.mem_cons.1 hx with rfl | hx
    · exact Ent.ok_frame (e := .ro A size m es) hr fun b hb => h.below.b.block b (hlt b hb)
    · exact h.ok x hx
  · rcases List.mem_cons.1 hx with rfl | hx
    · cases hf
    · exact h.new x hx hf b hb
  · rcases hor with hor | hor
    · cases hor
    · have h1 := h.new x hx (Ent.fresh_of_excl hor) b hb'
      have h2 := hlt b hb
      omega
theorem WC.old {c : Code} {A : Option Addr} {size m : Nat} {es : List (List Value)} (hr : Rd w0 A size m es) (h : WC F P c Q n D l w0 (.ro A size m es :: L)) : WC F P c Q n D l w0 L := fun hF a w hfr hst => h hF a w hfr (hst.old hr)
theorem WL.old {A : Option Addr} {size m : Nat} {es : List (List Value)} (hr : Rd w0 A size m es) (h : WL F P ops Q rest n D l w0 (.ro A size m es :: L)) : WL F P ops Q rest n D l w0 L := fun hF a w hfr hst => h hF a w hfr (hst.old hr)

def Fan (F : Fence) (P : Program) (ops : Array Oper) (Q : Exit → Act → World → Prop) (held : List (Nat × Ent)) (fuel : Nat) (listed : Array Bool) (n : Nat) (D : List Deferred) (l : Env) (w0 : World) (L : List Ent) : List Nat → Prop
  | [] => True
  | i :: is => (∃ o, ops[i]? = some o ∧ WL F P ops (NX F P ops Q held fuel (listed.setIfInBounds i true)) [o] n D l w0 L) ∧ Fan F P ops Q held fuel listed n D l w0 L is
theorem Fan.at {held : List (Nat × Ent)} {fuel : Nat} {listed : Array Bool} : ∀ {is : List Nat}, Fan F P ops Q held fuel listed n D l w0 L is → ∀ i ∈ is, ∃ o, ops[i]? = some o ∧ WL F P ops (NX F P ops Q held fuel (listed.setIfInBounds i true)) [o] n D l w0 L
  | i :: is, h, j, hj => by
    rcases List.mem_cons.1 hj with rfl | hj
    · exact h.1
    · exact Fan.at h.2 j hj
structure Row where
  (A : Option Addr) (size n : Nat) (es : List (List Value))
def manyE (fresh : Bool) (rs : List Row) : Ent := .gen fresh false (fun b => ∃ r ∈ rs, (Ent.ro r.A r.size r.n r.es).fp b) (fun w => ∀ r ∈ rs, Rd w r.A r.size r.n r.es)
  (fun w w' hb hok r hr => Ent.ok_frame (e := .ro r.A r.size r.n r.es) (hok r hr) fun b hf => hb b ⟨r, hr, hf⟩) (fun w b hok ⟨r, hr, hf⟩ => Ent.ok_lt (e := .ro r.A r.size r.n r.es) (hok r hr) hf)
theorem St.many0 {w : World} (h : St w0 w L) : St w0 w (manyE true [] :: L) := by
  refine ⟨h.below, fun x hx => ?_, fun x hx hf b hb => ?_, List.pairwise_cons.2 ⟨fun x hx hor b hb hb' => ?_, h.sep⟩⟩
  · rcases List.mem_cons.1 hx with rfl | hx
    · intro r hr; cases hr
    · exact h.ok x hx
  · rcases List.mem_cons.1 hx with rfl | hx
    · obtain ⟨r, hr, _⟩ := hb; cases hr
    · exact h.new x hx hf b hb
  · obtain ⟨r, hr, _⟩ := hb; cases hr
theorem St.manyAdd {w : World} {rs : List Row} {A : Option Addr} {cap : Nat} {T : TypeId} {size m : Nat} {es : List (List Value)} (h : St w0 w (.own A cap T size m es :: manyE true rs :: L)) : St w0 w (manyE true (rs ++ [⟨A, size, m, es⟩]) :: L) := by
  have hp := List.pairwise_cons.1 h.sep
  have hp2 := List.pairwise_cons.1 hp.2
  refine ⟨h.below, fun x hx => ?_, fun x hx hf b hb => ?_, List.pairwise_cons.2 ⟨fun x hx hor b hb hb' => ?_, hp2.2⟩⟩
  · rcases List.mem_cons.1 hx with rfl | hx
    · intro r hr
      rcases List.mem_append.1 hr with hr | hr
      · exact h.ok (manyE true rs) (by simp) r hr
      · simp only [List.mem_singleton] at hr; subst hr
        exact (h.ok (.own A cap T size m es) (by simp)).2
    · exact h.ok x (by simp [hx])
  · rcases List.mem_cons.1 hx with rfl | hx
    · obtain ⟨r, hr, hfp⟩ := hb
      rcases List.mem_append.1 hr with hr | hr
      · exact h.new (manyE true rs) (by simp) rfl b ⟨r, hr, hfp⟩
      · simp only [List.mem_singleton] at hr; subst hr
        obtain ⟨ad, ha, hbl, _, _⟩ := hfp
        exact h.new (.own A cap T size m es) (by simp) rfl b ⟨ad, ha, hbl⟩
    · exact h.new x (by simp [hx]) hf b hb
  · obtain ⟨r, hr, hfp⟩ := hb
    rcases List.mem_append.1 hr with hr | hr
    · refine hp2.1 x hx (hor.imp (fun h => by cases h) id) b ⟨r, hr, hfp⟩ hb'
    · simp only [List.mem_singleton] at hr; subst hr
      obtain ⟨ad, ha, hbl, _, _⟩ := hfp
      exact hp.1 x (by simp [hx]) (.inl rfl) b ⟨ad, ha, hbl⟩ hb'
theorem WC.many0 {c : Code} (h : WC F P c Q n D l w0 (manyE true [] :: L)) : WC F P c Q n D l w0 L := fun hF a w hfr hst => h hF a w hfr hst.many0
theorem WC.manyAdd {c : Code} {rs : List Row} {A : Option Addr} {cap : Nat} {T : TypeId} {size m : Nat} {es : List (List Value)} (ha : At L (.own A cap T size m es) M) {M' : List Ent} (hb : At M (manyE true rs) M')
    (h : WC F P c Q n D l w0 (manyE true (rs ++ [⟨A, size, m, es⟩]) :: M')) : WC F P c Q n D l w0 L := fun hF a w hfr hst => h hF a w hfr (by
  have h1 := hst.pull ha
  have h2 : St w0 w (.own A cap T size m es :: manyE true rs :: M') := h1.sub (.cons .here (.cons hb (SubL.refl _)))
  exact h2.manyAdd)
theorem St.many {w : World} {fr : Bool} {rs : List Row} (h : St w0 w L) (ha : At L (manyE fr rs) M) {r : Row} (hr : r ∈ rs) : Rd w r.A r.size r.n r.es := h.ok _ ha.mem r hr
end rules

end Go.Proofs.YtmlhnajgiopfgaaGreat

namespace Go.Proofs.YtmlhnajgiopfgaaGreat
open Go Go.RowKit

inductive Fl where
  | i (n : Int)
  | b (t : Bool)
deriving DecidableEq
def Fl.v : Fl → Value
  | .i n => .int .i64 n
  | .b t => .bool t
def Fl.isB : Fl → Bool
  | .i _ => false
  | .b _ => true
def fv (xs : List Fl) : List Value := xs.map Fl.v
def isAggD : Option TypeDesc → Bool
  | some (.struct _) => true
  | some (.array _ _) => true
  | _ => false
def szOk (P : Program) (t : TypeId) (n : Nat) : Bool := match P.info? t with
  | some i => Nat.beq i.size n
  | none => false
def fltF (P : Program) (r : TypeId → Option (List Bool)) : Nat → List Field → Option (List Bool)
  | _, [] => some []
  | off, f :: fs => bif f.name == "_" then none else bif Nat.beq f.offset off then
      (match r f.type with
      | none => none
      | some s => bif szOk P f.type s.length then (match fltF P r (off + s.length) fs with | none => none | some ss => some (s ++ ss)) else none) else none
def flt (P : Program) : Nat → TypeId → Option (List Bool)
  | 0, _ => none
  | d + 1, t => match P.underlying t with
    | some .bool => some [true]
    | some (.int .i64) => some [false]
    | some (.struct fs) => bif P.stoodInHeld t then none else fltF P (flt P d) 0 fs.toList
    | some (.array n e) => match flt P d e with
      | none => none
      | some s => bif szOk P e s.length then some (List.replicate n s).flatten else none
    | _ => none
def fval (P : Program) (t : TypeId) (xs : List Fl) : Value := bif isAggD (P.underlying t) then .agg (fv xs).toArray else (xs.headD (.i 0)).v
def shapeOf (xs : List Fl) : List Bool := xs.map Fl.isB

section
variable {P : Program}

theorem run_isAggD {t : TypeId} {dd : TypeDesc} (h : P.underlying t = some dd) (w : World) : (isAgg t).run P w = .ok (isAggD (some dd)) w := by
  cases dd <;> simp [isAgg, run_underlying h, isAggD]

theorem flt_und {h : Nat} {t : TypeId} {ks : List Bool} (hf : flt P h t = some ks) : ∃ dd, P.underlying t = some dd := by
  cases h with
  | zero => simp [flt] at hf
  | succ h =>
    rw [flt] at hf
    cases hq : P.underlying t with
    | none => simp [hq] at hf
    | some dd => exact ⟨dd, rfl⟩

theorem shape_one {xs : List Fl} {b : Bool} (h : shapeOf xs = [b]) : ∃ x, xs = [x] ∧ x.isB = b := by
  cases xs with
  | nil => simp [shapeOf] at h
  | cons x xs =>
    simp only [shapeOf, List.map_cons, List.cons.injEq, List.map_eq_nil_iff] at h
    obtain ⟨h1, rfl⟩ := h
    exact ⟨x, rfl, h1⟩

theorem flt_scalar {h : Nat} {t : TypeId} {ks : List Bool} (hf : flt P h t = some ks) (ha : isAggD (P.underlying t) = false) : ks.length = 1 := by
  cases h with
  | zero => simp [flt] at hf
  | succ h =>
    rw [flt] at hf
    cases hq : P.underlying t with
    | none => simp [hq] at hf
    | some dd =>
      rw [hq] at hf ha
      cases dd <;> (try simp only [reduceCtorEq] at hf) <;> first
        | (simp only [Option.some.injEq] at hf; subst hf; rfl)
        | (rename_i k; cases k <;> (try simp only [reduceCtorEq] at hf) <;> (simp only [Option.some.injEq] at hf; subst hf; rfl))
        | (simp only [isAggD, reduceCtorEq, Bool.true_eq_false] at ha; done)

theorem run_partF {h : Nat} {t : TypeId} {s : List Bool} (hf : flt P h t = some s) (hz : szOk P t s.length = true) (xs : List Fl) (o : Nat) (hl : o + s.length ≤ xs.length) (w : World) :
    (part t (fv xs).toArray o).run P w = .ok (fval P t ((xs.drop o).take s.length)) w := by
  obtain ⟨dd, hu⟩ := flt_und hf
  unfold part
  rw [Sem.run_bind, run_isAggD hu, Result.andThen_ok]
  cases ha : isAggD (some dd) with
  | true =>
    simp only [if_true]
    cases hi : P.info? t with
    | none => simp [szOk, hi] at hz
    | some i =>
      have hsz : i.size = s.length := by
        simp only [szOk, hi] at hz
        exact Nat.eq_of_beq_eq_true hz
      have hso : (sizeOf t).run P w = .ok s.length w := by simp [sizeOf, typeInfo, hi, hsz]
      rw [Sem.run_bind, hso, Result.andThen_ok, Sem.run_pure, fval, hu, ha, cond_true]
      congr 2
      simp [fv, List.extract_toArray, List.map_take, List.map_drop]
  | false =>
    have h1 := flt_scalar hf (by rw [hu]; exact ha)
    have hx : xs[o]? = some (xs[o]'(by omega)) := List.getElem?_eq_getElem (by omega)
    have hc : (fv xs).toArray[o]? = some (xs[o]'(by omega)).v := by simp [fv, hx]
    simp only [Bool.false_eq_true, if_false, hc, Sem.run_pure]
    rw [fval, hu, ha, cond_false, h1, List.drop_eq_getElem_cons (by omega)]
    rfl

theorem eqFieldsF {h d : Nat} (ih : ∀ (t : TypeId) (ks : List Bool), flt P h t = some ks → ∀ (xs ys : List Fl) (w : World), shapeOf xs = ks → shapeOf ys = ks → (Op.equalIn (d + h) t (fval P t xs) (fval P t ys)).run P w = .ok (decide (xs = ys)) w) (xs ys : List Fl) :
    ∀ (fs : List Field) (o : Nat) (ss : List Bool), fltF P (flt P h) o fs = some ss → shapeOf (xs.drop o) = ss → shapeOf (ys.drop o) = ss → o ≤ xs.length → o ≤ ys.length → ∀ w : World,
    (Op.eqFields (d + h) (fv xs).toArray (fv ys).toArray fs).run P w = .ok (decide (xs.drop o = ys.drop o)) w
  | [], o, ss, hf, hx, hy, _, _, w => by
    simp only [fltF, Option.some.injEq] at hf
    subst hf
    have e1 : xs.drop o = [] := by simpa [shapeOf] using hx
    have e2 : ys.drop o = [] := by simpa [shapeOf] using hy
    rw [e1, e2]
    simp [Op.eqFields]
  | f :: fs, o, ss, hf, hx, hy, hlx, hly, w => by
    rw [fltF] at hf
    cases hn : f.name == "_" with
    | true => rw [hn] at hf; simp at hf
    | false =>
      rw [hn] at hf
      simp only [cond_false] at hf
      cases ho : Nat.beq f.offset o with
      | false => rw [ho] at hf; cases hf
      | true =>
        rw [ho] at hf
        simp only [cond_true] at hf
        cases hs : flt P h f.type with
        | none => rw [hs] at hf; cases hf
        | some s =>
          rw [hs] at hf
          simp only at hf
          cases hz : szOk P f.type s.length with
          | false => rw [hz] at hf; cases hf
          | true =>
            rw [hz] at hf
            simp only [cond_true] at hf
            cases hr : fltF P (flt P h) (o + s.length) fs with
            | none => rw [hr] at hf; cases hf
            | some rr =>
              rw [hr] at hf
              simp only [Option.some.injEq] at hf
              subst hf
              have ho' := Nat.eq_of_beq_eq_true ho
              have hne : f.name ≠ "_" := by simpa using hn
              have lx : xs.length - o = s.length + rr.length := by have := congrArg List.length hx; simpa [shapeOf] using this
              have ly : ys.length - o = s.length + rr.length := by have := congrArg List.length hy; simpa [shapeOf] using this
              have sx : shapeOf ((xs.drop o).take s.length) = s := by
                have := congrArg (List.take s.length) hx
                simpa [shapeOf, List.map_take] using this
              have sy : shapeOf ((ys.drop o).take s.length) = s := by
                have := congrArg (List.take s.length) hy
                simpa [shapeOf, List.map_take] using this
              have rx : shapeOf (xs.drop (o + s.length)) = rr := by
                have := congrArg (List.drop s.length) hx
                simpa [shapeOf, List.map_drop, List.drop_drop] using this
              have ry : shapeOf (ys.drop (o + s.length)) = rr := by
                have := congrArg (List.drop s.length) hy
                simpa [shapeOf, List.map_drop, List.drop_drop] using this
              have hrest := eqFieldsF ih xs ys fs (o + s.length) rr hr rx ry (by omega) (by omega) w
              simp only [Op.eqFields, if_pos hne, Sem.run_bind, ho', run_partF hs hz xs o (by omega), run_partF hs hz ys o (by omega), Result.andThen_ok, ih f.type s hs _ _ _ sx sy]
              by_cases he : (xs.drop o).take s.length = (ys.drop o).take s.length
              · rw [decide_eq_true he]
                simp only [Bool.not_true, Bool.false_eq_true, if_false]
                rw [hrest]
                congr 1
                have dx : xs.drop o = (xs.drop o).take s.length ++ xs.drop (o + s.length) := by rw [← List.drop_drop, List.take_append_drop]
                have dy : ys.drop o = (ys.drop o).take s.length ++ ys.drop (o + s.length) := by rw [← List.drop_drop, List.take_append_drop]
                rw [decide_eq_decide, dx, dy, he]
                simp
              · rw [decide_eq_false he]
                simp only [Bool.not_false, if_true, Sem.run_pure]
                congr 1
                symm
                rw [decide_eq_false_iff_not]
                exact fun e => he (by rw [e])

theorem szOk_at {t : TypeId} {n : Nat} (h : szOk P t n = true) : ∃ i, P.info? t = some i ∧ i.size = n := by
  unfold szOk at h
  cases hi : P.info? t with
  | none => rw [hi] at h; cases h
  | some i => rw [hi] at h; exact ⟨i, rfl, Nat.eq_of_beq_eq_true h⟩
theorem rep_split {xs : List Fl} {s : List Bool} {m o : Nat} (h : shapeOf (xs.drop o) = (List.replicate (m + 1) s).flatten) : o + s.length ≤ xs.length + (if s.length = 0 then o else 0) ∧ shapeOf ((xs.drop o).take s.length) = s ∧ shapeOf (xs.drop (o + s.length)) = (List.replicate m s).flatten := by
  rw [List.replicate_succ, List.flatten_cons] at h
  have lx : xs.length - o = s.length + ((List.replicate m s).flatten).length := by have := congrArg List.length h; simpa [shapeOf] using this
  refine ⟨?_, ?_, ?_⟩
  · by_cases e : s.length = 0
    · rw [if_pos e]; omega
    · rw [if_neg e]; omega
  · have := congrArg (List.take s.length) h
    simpa [shapeOf, List.map_take] using this
  · have := congrArg (List.drop s.length) h
    simpa [shapeOf, List.map_drop, List.drop_drop] using this
theorem eqItemsF {h d : Nat} (ih : ∀ (t : TypeId) (ks : List Bool), flt P h t = some ks → ∀ (xs ys : List Fl) (w : World), shapeOf xs = ks → shapeOf ys = ks → (Op.equalIn (d + h) t (fval P t xs) (fval P t ys)).run P w = .ok (decide (xs = ys)) w) {e : TypeId} {s : List Bool} (hs : flt P h e = some s) (hz : szOk P e s.length = true) (xs ys : List Fl) :
    ∀ (m j : Nat), j * s.length ≤ xs.length → j * s.length ≤ ys.length → shapeOf (xs.drop (j * s.length)) = (List.replicate m s).flatten → shapeOf (ys.drop (j * s.length)) = (List.replicate m s).flatten → ∀ w : World,
    (Op.eqItems (d + h) e s.length (fv xs).toArray (fv ys).toArray (List.range' j m)).run P w = .ok (decide (xs.drop (j * s.length) = ys.drop (j * s.length))) w
  | 0, j, _, _, hx, hy, w => by
    have e1 : xs.drop (j * s.length) = [] := by simpa [shapeOf] using hx
    have e2 : ys.drop (j * s.length) = [] := by simpa [shapeOf] using hy
    rw [e1, e2]
    simp [Op.eqItems]
  | m + 1, j, hlx, hly, hx, hy, w => by
    obtain ⟨lx, sx, rx⟩ := rep_split hx
    obtain ⟨ly, sy, ry⟩ := rep_split hy
    have hj : j * s.length + s.length = (j + 1) * s.length := by rw [Nat.succ_mul]
    have lx' : j * s.length + s.length ≤ xs.length := by split at lx <;> omega
    have ly' : j * s.length + s.length ≤ ys.length := by split at ly <;> omega
    rw [hj] at rx ry
    have hrest := eqItemsF ih hs hz xs ys m (j + 1) (by omega) (by omega) rx ry w
    rw [List.range'_succ]
    simp only [Op.eqItems, Sem.run_bind, run_partF hs hz xs _ lx', run_partF hs hz ys _ ly', Result.andThen_ok, ih e s hs _ _ _ sx sy]
    by_cases he : (xs.drop (j * s.length)).take s.length = (ys.drop (j * s.length)).take s.length
    · rw [decide_eq_true he]
      simp only [Bool.not_true, Bool.false_eq_true, if_false]
      rw [hrest]
      congr 1
      have dx : xs.drop (j * s.length) = (xs.drop (j * s.length)).take s.length ++ xs.drop ((j + 1) * s.length) := by rw [← hj, ← List.drop_drop, List.take_append_drop]
      have dy : ys.drop (j * s.length) = (ys.drop (j * s.length)).take s.length ++ ys.drop ((j + 1) * s.length) := by rw [← hj, ← List.drop_drop, List.take_append_drop]
      rw [decide_eq_decide, dx, dy, he]
      simp
    · rw [decide_eq_false he]
      simp only [Bool.not_false, if_true, Sem.run_pure]
      congr 1
      symm
      rw [decide_eq_false_iff_not]
      exact fun e => he (by rw [e])

theorem equalF : ∀ (h : Nat) (t : TypeId) (ks : List Bool), flt P h t = some ks → ∀ (d : Nat) (xs ys : List Fl) (w : World), shapeOf xs = ks → shapeOf ys = ks →
    (Op.equalIn (d + h) t (fval P t xs) (fval P t ys)).run P w = .ok (decide (xs = ys)) w
  | 0, t, ks, hf, _, _, _, _, _, _ => by simp [flt] at hf
  | h + 1, t, ks, hf, d, xs, ys, w, hx, hy => by
    rw [flt] at hf
    cases hu : P.underlying t with
    | none => simp [hu] at hf
    | some dd =>
      rw [hu] at hf
      cases dd <;> (try simp only [reduceCtorEq] at hf)
      case bool =>
        simp only [Option.some.injEq] at hf; subst hf
        obtain ⟨x, rfl, bx⟩ := shape_one hx
        obtain ⟨y, rfl, by'⟩ := shape_one hy
        cases x <;> simp [Fl.isB] at bx
        cases y <;> simp [Fl.isB] at by'
        rename_i a b
        simp only [fval, hu, isAggD, cond_false, List.headD_cons, Fl.v]
        rw [← Nat.add_assoc]
        simp only [Op.equalIn, Sem.run_bind, run_underlying hu, Result.andThen_ok, Sem.run_pure]
        cases a <;> cases b <;> rfl
      case int k =>
        cases k <;> (try simp only [reduceCtorEq] at hf)
        simp only [Option.some.injEq] at hf
        subst hf
        obtain ⟨x, rfl, bx⟩ := shape_one hx
        obtain ⟨y, rfl, by'⟩ := shape_one hy
        cases x <;> simp [Fl.isB] at bx
        cases y <;> simp [Fl.isB] at by'
        rename_i a b
        simp only [fval, hu, isAggD, cond_false, List.headD_cons, Fl.v]
        rw [← Nat.add_assoc]
        simp only [Op.equalIn, Sem.run_bind, run_underlying hu, Result.andThen_ok, if_true, Sem.run_pure]
        congr 1
        by_cases e : a = b <;> simp [e]
      case struct fs =>
        cases hs : P.stoodInHeld t with
        | true => rw [hs] at hf; simp at hf
        | false =>
          rw [hs] at hf
          simp only [cond_false] at hf
          have hff : P.fieldsOf t = fs := by simp [Program.fieldsOf, hu]
          have hu' : P.underlying t = some (.struct (P.fieldsOf t)) := by rw [hff]; exact hu
          simp only [fval, hu, isAggD, cond_true]
          rw [← Nat.add_assoc, run_equalIn_struct w (d + h) t _ _ hu' hs, hff]
          have := eqFieldsF (d := d) (fun t ks hk xs ys w hx hy => equalF h t ks hk d xs ys w hx hy) xs ys fs.toList 0 ks hf (by simpa using hx) (by simpa using hy) (Nat.zero_le _) (Nat.zero_le _) w
          simpa using this
      case array n e =>
        cases hs : flt P h e with
        | none => rw [hs] at hf; cases hf
        | some s =>
          rw [hs] at hf
          simp only at hf
          cases hz : szOk P e s.length with
          | false => rw [hz] at hf; cases hf
          | true =>
            rw [hz] at hf
            simp only [cond_true, Option.some.injEq] at hf
            subst hf
            obtain ⟨i, hi, hsz⟩ := szOk_at hz
            have hce : P.cellsOf e = s.length := by simp [Program.cellsOf, hi, hsz]
            simp only [fval, hu, isAggD, cond_true]
            rw [← Nat.add_assoc, run_equalIn_array w (d + h) _ _ hu hi, hce, List.range_eq_range']
            have := eqItemsF (d := d) (fun t ks hk xs ys w hx hy => equalF h t ks hk d xs ys w hx hy) hs hz xs ys n 0 (by simp) (by simp) (by simpa using hx) (by simpa using hy) w
            simpa using this

theorem run_equalF {h : Nat} {t : TypeId} {ks : List Bool} (hf : flt P h t = some ks) (hh : h ≤ 10000) {xs ys : List Fl} (hx : shapeOf xs = ks) (hy : shapeOf ys = ks) (w : World) : (Op.equal t (fval P t xs) (fval P t ys)).run P w = .ok (decide (xs = ys)) w := by
  have := equalF h t ks hf (10000 - h) xs ys w hx hy
  rw [Nat.sub_add_cancel hh] at this
  exact this

theorem checkKeyF (em : Bool) : ∀ (h : Nat) (t : TypeId) (ks : List Bool), flt P h t = some ks → ∀ (d : Nat) (xs : List Fl) (w : World), shapeOf xs = ks → (Instr.checkKey em (d + h) t (fval P t xs)).run P w = .ok () w
  | 0, t, ks, hf, _, _, _, _ => by simp [flt] at hf
  | h + 1, t, ks, hf, d, xs, w, hx => by
    rw [flt] at hf
    cases hu : P.underlying t with
    | none => simp [hu] at hf
    | some dd =>
      rw [hu] at hf
      cases dd <;> (try simp only [reduceCtorEq] at hf)
      case bool =>
        simp only [Option.some.injEq] at hf; subst hf
        obtain ⟨x, rfl, bx⟩ := shape_one hx
        rw [← Nat.add_assoc]
        simp [Instr.checkKey, run_underlying hu]
      case int k =>
        rw [← Nat.add_assoc]
        simp [Instr.checkKey, run_underlying hu]
      case struct fs =>
        cases hs : P.stoodInHeld t with
        | true => rw [hs] at hf; simp at hf
        | false =>
          rw [hs] at hf
          simp only [cond_false] at hf
          simp only [fval, hu, isAggD, cond_true]
          rw [← Nat.add_assoc]
          simp only [Instr.checkKey, Sem.run_bind, run_underlying hu, Result.andThen_ok]
          rw [← Array.forIn_toList]
          have key : ∀ (l : List Field) (o : Nat) (ss : List Bool), fltF P (flt P h) o l = some ss → shapeOf (xs.drop o) = ss → o ≤ xs.length → ∀ w : World,
              Sem.run P (forIn l PUnit.unit fun f _ => if f.name ≠ "_" then (do
                let v ← part f.type (fv xs).toArray f.offset
                Instr.checkKey em (d + h) f.type v
                pure (ForInStep.yield PUnit.unit)) else pure (ForInStep.yield PUnit.unit)) w = .ok PUnit.unit w := by
            intro l
            induction l with
            | nil => intro o ss _ _ _ w; simp
            | cons f l ih =>
              intro o ss hf hx hl w
              rw [fltF] at hf
              cases hn : f.name == "_" with
              | true => rw [hn] at hf; simp at hf
              | false =>
                rw [hn] at hf
                simp only [cond_false] at hf
                cases ho : Nat.beq f.offset o with
                | false => rw [ho] at hf; cases hf
                | true =>
                  rw [ho] at hf
                  simp only [cond_true] at hf
                  cases hs : flt P h f.type with
                  | none => rw [hs] at hf; cases hf
                  | some s =>
                    rw [hs] at hf
                    simp only at hf
                    cases hz : szOk P f.type s.length with
                    | false => rw [hz] at hf; cases hf
                    | true =>
                      rw [hz] at hf
                      simp only [cond_true] at hf
                      cases hr : fltF P (flt P h) (o + s.length) l with
                      | none => rw [hr] at hf; cases hf
                      | some rr =>
                        rw [hr] at hf
                        simp only [Option.some.injEq] at hf
                        subst hf
                        have ho' := Nat.eq_of_beq_eq_true ho
                        have hne : f.name ≠ "_" := by simpa using hn
                        have lx : xs.length - o = s.length + rr.length := by have := congrArg List.length hx; simpa [shapeOf] using this
                        have sx : shapeOf ((xs.drop o).take s.length) = s := by
                          have := congrArg (List.take s.length) hx
                          simpa [shapeOf, List.map_take] using this
                        have rx : shapeOf (xs.drop (o + s.length)) = rr := by
                          have := congrArg (List.drop s.length) hx
                          simpa [shapeOf, List.map_drop, List.drop_drop] using this
                        have h1 := checkKeyF em h f.type s hs d _ w sx
                        have h2 := ih (o + s.length) rr hr rx (by omega) w
                        rw [List.forIn_cons]
                        simp only [if_pos hne, Sem.run_bind, ho', run_partF hs hz xs o (by omega), Result.andThen_ok, h1, Sem.run_pure]
                        exact h2
          rw [key fs.toList 0 ks hf (by simpa using hx) (Nat.zero_le _) w]
          simp
      case array n e =>
        cases hs : flt P h e with
        | none => rw [hs] at hf; cases hf
        | some s =>
          rw [hs] at hf
          simp only at hf
          cases hz : szOk P e s.length with
          | false => rw [hz] at hf; cases hf
          | true =>
            rw [hz] at hf
            simp only [cond_true, Option.some.injEq] at hf
            subst hf
            obtain ⟨i, hi, hsz⟩ := szOk_at hz
            have hso : ∀ w, (sizeOf e).run P w = .ok s.length w := fun w => by simp [sizeOf, typeInfo, hi, hsz]
            simp only [fval, hu, isAggD, cond_true]
            rw [← Nat.add_assoc]
            simp only [Instr.checkKey, Sem.run_bind, run_underlying hu, Result.andThen_ok]
            simp only [Std.Legacy.Range.forIn_eq_forIn_range', Std.Legacy.Range.size, Nat.sub_zero, Nat.add_one_sub_one, Nat.div_one]
            have key : ∀ (m j : Nat), j * s.length ≤ xs.length → shapeOf (xs.drop (j * s.length)) = (List.replicate m s).flatten → ∀ w : World,
                Sem.run P (forIn (List.range' j m) PUnit.unit fun i _ => (do
                  let v ← part e (fv xs).toArray (i * (← sizeOf e))
                  Instr.checkKey em (d + h) e v
                  pure (ForInStep.yield PUnit.unit))) w = .ok PUnit.unit w := by
              intro m
              induction m with
              | zero => intro j _ _ w; simp
              | succ m ih =>
                intro j hl hx w
                obtain ⟨lx, sx, rx⟩ := rep_split hx
                have hj : j * s.length + s.length = (j + 1) * s.length := by rw [Nat.succ_mul]
                have lx' : j * s.length + s.length ≤ xs.length := by split at lx <;> omega
                rw [hj] at rx
                have h1 := checkKeyF em h e s hs d _ w sx
                have h2 := ih (j + 1) (by omega) rx w
                rw [List.range'_succ, List.forIn_cons]
                simp only [Sem.run_bind, hso, run_partF hs hz xs _ lx', Result.andThen_ok, h1, Sem.run_pure]
                exact h2
            rw [key n 0 (by simp) (by simpa using hx) w]
            simp
end

def isStrD : Option TypeDesc → Bool
  | some (.struct _) => true
  | _ => false
class FlatTy (P : Program) (t : TypeId) (ks : outParam (List Bool)) : Prop where
  flt : flt P 8 t = some ks
  str : isStrD (P.underlying t) = true
  grd : P.eqGuardType P.depth t = false
theorem FlatTy.agg {P : Program} {t : TypeId} {ks : List Bool} (h : FlatTy P t ks) : isAggD (P.underlying t) = true := by
  have := h.str
  cases hu : P.underlying t with
  | none => rw [hu] at this; cases this
  | some dd => rw [hu] at this; cases dd <;> first | rfl | cases this
class MapTy (P : Program) (t : TypeId) (k e : outParam TypeId) : Prop where
  und : P.underlying t = some (.map k e)

inductive FlL : List Value → List Fl → Prop
  | nil : FlL [] []
  | int {x : Int} {cs : List Value} {xs : List Fl} (h : FlL cs xs) : FlL (.int .i64 x :: cs) (.i x :: xs)
  | bool {x : Bool} {cs : List Value} {xs : List Fl} (h : FlL cs xs) : FlL (.bool x :: cs) (.b x :: xs)
theorem FlL.out {cs : List Value} {xs : List Fl} (h : FlL cs xs) : cs = fv xs := by
  induction h with
  | nil => rfl
  | int _ ih => simp [fv, Fl.v] at ih ⊢; exact ih
  | bool _ ih => simp [fv, Fl.v] at ih ⊢; exact ih

section rules
variable {F : Fence} {P : Program} {ops : Array Oper} {Q : Exit → Act → World → Prop} {rest : List Oper} {n : Nat} {D : List Deferred} {l : Env} {w0 : World} {L M : List Ent}
variable {d : Nat} {ty : TypeId} {pos : String} {aft : Array Edge}

theorem nck {x : Operand} {a : Addr} (hx : ev l x = some (.pointer (some a)) := by exact rfl) : Yd P n D l w0 L (.nilCheck x) (.pointer (some a)) :=
  ⟨by simp, by simp, fun oo ho ac w hfr _ => by simp [execOp, ho, hfr.eval hx]⟩

def MapIs (es : Array MapEntry) (kv : List (List Fl × Value)) : Prop := es.toList.map (fun e => (e.key, e.val)) = kv.map fun p => (.agg (fv p.1).toArray, p.2)
def lkp (kv : List (List Fl × Value)) (k : List Fl) : Option Value := (kv.find? fun p => decide (k = p.1)).map (·.2)
def updM (kv : List (List Fl × Value)) (k : List Fl) (v : Value) : List (List Fl × Value) := match kv with
  | [] => [(k, v)]
  | p :: kv => if k = p.1 then (k, v) :: kv else p :: updM kv k v

theorem run_findAsking {t : TypeId} {ks : List Bool} (hE : FlatTy P t ks) {k : List Fl} (hk : shapeOf k = ks) : ∀ (es : List MapEntry) (kv : List (List Fl × Value)) (i : Nat) (w : World), es.map (fun e => (e.key, e.val)) = kv.map (fun p => (.agg (fv p.1).toArray, p.2)) → (∀ p ∈ kv, shapeOf p.1 = ks) →
    ∃ r, (Instr.findAsking t (.agg (fv k).toArray) es i).run P w = .ok r w ∧ ((r = none ∧ lkp kv k = none ∧ updM kv k = fun v => kv ++ [(k, v)]) ∨ ∃ j v e, r = some (i + j, v) ∧ lkp kv k = some v ∧ es[j]? = some e ∧ e.key = .agg (fv k).toArray ∧ ∀ u, (es.set j { e with val := u }).map (fun e => (e.key, e.val)) = (updM kv k u).map (fun p => (.agg (fv p.1).toArray, p.2)))
  | [], [], i, w, _, _ => ⟨none, by simp [Instr.findAsking], .inl ⟨rfl, rfl, rfl⟩⟩
  | [], _ :: _, _, _, h, _ => by simp at h
  | _ :: _, [], _, _, h, _ => by simp at h
  | e :: es, p :: kv, i, w, h, hs => by
    simp only [List.map_cons, List.cons.injEq, Prod.mk.injEq] at h
    obtain ⟨⟨h1, h2⟩, h3⟩ := h
    have heq := run_equalF hE.flt (by decide) hk (hs p (by simp)) w
    simp only [fval, hE.agg, cond_true] at heq
    by_cases e0 : k = p.1
    · refine ⟨some (i, e.val), ?_, .inr ⟨0, p.2, e, by rw [h2]; rfl, by simp [lkp, e0], rfl, by rw [h1, e0], fun u => ?_⟩⟩
      · rw [Instr.findAsking, Sem.run_bind, h1, heq, Result.andThen_ok, decide_eq_true e0]
        simp
      · obtain ⟨pk, pv⟩ := p
        simp only at e0 h1; subst e0
        simp [List.set_cons_zero, h3, updM, h1]
    · obtain ⟨r, hr, hc⟩ := run_findAsking hE hk es kv (i + 1) w h3 fun q hq => hs q (by simp [hq])
      refine ⟨r, ?_, ?_⟩
      · rw [Instr.findAsking, Sem.run_bind, h1, heq, Result.andThen_ok, decide_eq_false e0]
        simpa using hr
      · rcases hc with ⟨rfl, c1, c2⟩ | ⟨j, v, e', rfl, c1, c2, c3, c4⟩
        · refine .inl ⟨rfl, by simpa [lkp, e0] using c1, ?_⟩
          funext v
          simp only [updM, if_neg e0, c2, List.cons_append]
        · refine .inr ⟨j + 1, v, e', by rw [Nat.add_assoc, Nat.add_comm 1 j], by simpa [lkp, e0] using c1, by simpa using c2, c3, fun u => ?_⟩
          simp only [List.set_cons_succ, List.map_cons, updM, if_neg e0, c4 u, h1, h2]

theorem findNow_struct {fs : Array Field} {k : Value} : ∀ (es : List MapEntry) (i : Nat), Instr.findNow (.struct fs) k es i = none ∨ (es = [] ∧ Instr.findNow (.struct fs) k es i = some none)
  | [], i => .inr ⟨rfl, rfl⟩
  | e :: es, i => .inl (by simp [Instr.findNow, Instr.sameNow])

theorem agg_struct {t : TypeId} {ks : List Bool} (hE : FlatTy P t ks) : ∃ fs, P.underlying t = some (.struct fs) := by
  have ha := hE.str
  cases hu : P.underlying t with
  | none => rw [hu] at ha; cases ha
  | some dd =>
    rw [hu] at ha
    cases dd <;> first | exact ⟨_, rfl⟩ | cases ha

theorem run_findKey {t : TypeId} {ks : List Bool} (hE : FlatTy P t ks) {k : List Fl} (hk : shapeOf k = ks) (es : List MapEntry) (kv : List (List Fl × Value)) (w : World) (h : es.map (fun e => (e.key, e.val)) = kv.map (fun p => (.agg (fv p.1).toArray, p.2))) (hs : ∀ p ∈ kv, shapeOf p.1 = ks) :
    ∃ r, (Instr.findKey t (.agg (fv k).toArray) es).run P w = .ok r w ∧ ((r = none ∧ lkp kv k = none ∧ updM kv k = fun v => kv ++ [(k, v)]) ∨ ∃ j v e, r = some (j, v) ∧ lkp kv k = some v ∧ es[j]? = some e ∧ e.key = .agg (fv k).toArray ∧ ∀ u, (es.set j { e with val := u }).map (fun e => (e.key, e.val)) = (updM kv k u).map (fun p => (.agg (fv p.1).toArray, p.2))) := by
  obtain ⟨fs, hu⟩ := agg_struct hE
  obtain ⟨r, hr, hc⟩ := run_findAsking hE hk es kv 0 w h hs
  refine ⟨r, ?_, by simpa using hc⟩
  unfold Instr.findKey
  rw [Sem.run_bind, run_underlying hu, Result.andThen_ok]
  rcases findNow_struct (fs := fs) (k := .agg (fv k).toArray) es 0 with h1 | ⟨rfl, h1⟩
  · rw [h1]; exact hr
  · rw [h1]
    have : r = none := by
      simp [Instr.findAsking] at hr
      exact hr.symm
    subst this
    simp
end rules
end Go.Proofs.YtmlhnajgiopfgaaGreat

namespace Go.Proofs.YtmlhnajgiopfgaaGreat
open Go Go.RowKit

section rules
variable {F : Fence} {P : Program} {ops : Array Oper} {Q : Exit → Act → World → Prop} {rest : List Oper} {n : Nat} {D : List Deferred} {l : Env} {w0 : World} {L M : List Ent}
variable {d : Nat} {ty : TypeId} {pos : String} {aft : Array Edge}

theorem getMap {w : World} {r : Nat} {es : Array MapEntry} {c : Nat} (h : w.heap[r]? = some (.map es c)) : (getObj r).run P w = .ok (.map es c) w := by simp [getObj, Sem.run, h]
theorem putMap {w : World} {r : Nat} {es : Array MapEntry} {c : Nat} (o : Obj) (h : w.heap[r]? = some (.map es c)) : (setObj r o).run P w = .ok () (w.putObj r o) := by simp [setObj, Sem.run, h, World.putObj]

theorem mkm {t : TypeId} (hd : Nat.blt d n = true := by rfl) (h : ∀ b, WL F P ops Q rest n D ((d, .map (some b)) :: l) w0 (.obj b (.map #[] 0) :: L)) : WL F P ops Q (⟨some d, .makeMap t none, ty, pos, aft, none⟩ :: rest) n D l w0 L :=
  WL.value (X := Nat) (φ := fun _ => True) (val := fun b => .map (some b)) (L' := fun b => .obj b (.map #[] 0) :: L) (by simp) hd (fun a w hfr hst => ⟨w.heap.size, _, trivial, by simp [execOp, Instr.makeMap], hst.allocObj _⟩) (fun b _ => h b)

theorem run_lookupF {t kt e : TypeId} {ks : List Bool} {agg : Bool} {size bytes : Nat} {z : Value} {zl : List Value} (hT : MapTy P t kt e) (hK : FlatTy P kt ks) (hE : Ty P e agg size bytes z zl) {w : World} {b : Nat} {es : Array MapEntry} {c : Nat} (hb : w.heap[b]? = some (.map es c)) {kv : List (List Fl × Value)} (hm : MapIs es kv) (hs : ∀ p ∈ kv, shapeOf p.1 = ks) {k : List Fl} (hk : shapeOf k = ks) (ok : Bool) :
    (Instr.lookup t (.map (some b)) (.agg (fv k).toArray) ok).run P w = .ok (bif ok then .tuple #[(lkp kv k).getD z, .bool (lkp kv k).isSome] else (lkp kv k).getD z) w := by
  obtain ⟨r, hr, hc⟩ := run_findKey hK hk es.toList kv w hm hs
  have hck := fun em => checkKeyF em 8 kt ks hK.flt 9992 k w hk
  simp only [fval, hK.agg, cond_true] at hck
  have hck' : ∀ em, (Instr.checkKey em 10000 kt (.agg (fv k).toArray)).run P w = .ok () w := hck
  unfold Instr.lookup
  simp only [Sem.run_bind, run_underlying hT.und, Result.andThen_ok, getMap hb, Sem.run_pure, hck', hr]
  rcases hc with ⟨rfl, h1, _⟩ | ⟨j, v, e', rfl, h1, _⟩
  · simp only [Sem.run_bind, run_zeroValue hE, Result.andThen_ok, Sem.run_pure, h1]
    cases ok <;> rfl
  · simp only [Sem.run_pure, Result.andThen_ok, h1]
    cases ok <;> rfl

theorem lkC {m x : Operand} {t kt e : TypeId} {ks : List Bool} {agg : Bool} {size bytes : Nat} {z : Value} {zl : List Value} (hT : MapTy P t kt e := by infer_instance) (hK : FlatTy P kt ks := by infer_instance) (hE : Ty P e agg size bytes z zl := by infer_instance) {b : Nat} {es : Array MapEntry} {c : Nat} {kv : List (List Fl × Value)} {cs : List Value} {k : List Fl}
    (hm : MapIs es kv) (hs : ∀ p ∈ kv, shapeOf p.1 = ks) (hx : ev l m = some (.map (some b)) := by exact rfl) (hy : ev l x = some (.agg cs.toArray) := by exact rfl) (hl : FlL cs k := by repeat (first | exact FlL.nil | apply FlL.int | apply FlL.bool)) (hk : shapeOf k = ks := by rfl)
    (ha : At L (.obj b (.map es c)) M := by repeat (first | exact At.here | apply At.there)) : Yd P n D l w0 L (.lookup t m x true) (.tuple #[(lkp kv k).getD z, .bool (lkp kv k).isSome]) :=
  ⟨by simp, by simp, fun oo ho ac w hfr hst => by
    have hr := run_lookupF hT hK hE (hst _ ha.mem) hm hs hk true
    rw [← hl.out] at hr
    simp [execOp, ho, hfr.eval hx, hfr.eval hy, hr]⟩
theorem lkN {m x : Operand} {t kt e : TypeId} {ks : List Bool} {agg : Bool} {size bytes : Nat} {z : Value} {zl : List Value} (hT : MapTy P t kt e := by infer_instance) (hK : FlatTy P kt ks := by infer_instance) (hE : Ty P e agg size bytes z zl := by infer_instance) {b : Nat} {es : Array MapEntry} {c : Nat} {kv : List (List Fl × Value)} {cs : List Value} {k : List Fl}
    (hm : MapIs es kv) (hs : ∀ p ∈ kv, shapeOf p.1 = ks) (hx : ev l m = some (.map (some b)) := by exact rfl) (hy : ev l x = some (.agg cs.toArray) := by exact rfl) (hl : FlL cs k := by repeat (first | exact FlL.nil | apply FlL.int | apply FlL.bool)) (hk : shapeOf k = ks := by rfl)
    (ha : At L (.obj b (.map es c)) M := by repeat (first | exact At.here | apply At.there)) : Yd P n D l w0 L (.lookup t m x false) ((lkp kv k).getD z) :=
  ⟨by simp, by simp, fun oo ho ac w hfr hst => by
    have hr := run_lookupF hT hK hE (hst _ ha.mem) hm hs hk false
    rw [← hl.out] at hr
    simp [execOp, ho, hfr.eval hx, hfr.eval hy, hr]⟩

theorem sameBits_flat (k : List Fl) : Instr.sameBits 10000 (.agg (fv k).toArray) (.agg (fv k).toArray) = true := by
  have h1 : ∀ (m : Nat) (x : Fl), Instr.sameBits m x.v x.v = true := fun m x => by cases x <;> cases m <;> simp [Fl.v, Instr.sameBits]
  show Instr.sameBits (9999 + 1) _ _ = true
  simp only [Instr.sameBits, List.size_toArray, beq_self_eq_true, Bool.true_and, List.all_eq_true]
  intro p hp
  have : ∃ x : Fl, p = (x.v, x.v) := by
    have hz : (fv k).zip (fv k) = k.map fun x => (x.v, x.v) := by
      simp only [fv, List.zip_map']
    have hp' : p ∈ (fv k).zip (fv k) := by simpa using hp
    rw [hz] at hp'
    obtain ⟨x, _, rfl⟩ := List.mem_map.1 hp'
    exact ⟨x, rfl⟩
  obtain ⟨x, rfl⟩ := this
  exact h1 _ x

end rules
theorem updM_shape {ks : List Bool} : ∀ {kv : List (List Fl × Value)} {k : List Fl} {v : Value}, (∀ p ∈ kv, shapeOf p.1 = ks) → shapeOf k = ks → ∀ p ∈ updM kv k v, shapeOf p.1 = ks
  | [], k, v, _, hk, p, hp => by simp only [updM, List.mem_singleton] at hp; subst hp; exact hk
  | q :: kv, k, v, hs, hk, p, hp => by
    rw [updM] at hp
    split at hp
    · rcases List.mem_cons.1 hp with rfl | hp
      · exact hk
      · exact hs p (by simp [hp])
    · rcases List.mem_cons.1 hp with rfl | hp
      · exact hs _ (by simp)
      · exact updM_shape (kv := kv) (fun p hp => hs p (by simp [hp])) hk p hp
theorem lkp_upd : ∀ (kv : List (List Fl × Value)) (k k' : List Fl) (v : Value), lkp (updM kv k v) k' = if k' = k then some v else lkp kv k'
  | [], k, k', v => by
    by_cases e : k' = k <;> simp [updM, lkp, e]
  | p :: kv, k, k', v => by
    have ih := lkp_upd kv k k' v
    by_cases e : k = p.1
    · rw [updM, if_pos e]
      by_cases e' : k' = k
      · simp [lkp, e']
      · have : ¬ k' = p.1 := fun h => e' (h.trans e.symm)
        simp [lkp, e', this]
    · rw [updM, if_neg e]
      by_cases e1 : k' = p.1
      · have : ¬ k' = k := fun h => e (h.symm.trans e1)
        simp [lkp, e1]
        exact fun h => absurd h.symm e
      · simpa [lkp, e1] using ih
end Go.Proofs.YtmlhnajgiopfgaaGreat

namespace Go.Proofs.YtmlhnajgiopfgaaGreat
open Go Go.RowKit

section
variable {P : Program} {n : Nat} {D : List Deferred} {l : Env} {w0 : World} {L : List Ent} {op : Op}
theorem Yd.tr {b : Bool} (h : Yd P n D l w0 L op (.bool b)) (hb : b = true) : Yd P n D l w0 L op (.bool true) := hb ▸ h
theorem Yd.fl {b : Bool} (h : Yd P n D l w0 L op (.bool b)) (hb : b = false) : Yd P n D l w0 L op (.bool false) := hb ▸ h
theorem Yd.to {v v' : Value} (h : Yd P n D l w0 L op v) (hb : v = v') : Yd P n D l w0 L op v' := hb ▸ h
end

section
variable {P : Program}
end
section rules
variable {F : Fence} {P : Program} {ops : Array Oper} {Q : Exit → Act → World → Prop} {rest : List Oper} {n : Nat} {D : List Deferred} {l : Env} {w0 : World} {L M : List Ent}
variable {d : Nat} {ty : TypeId} {pos : String} {aft : Array Edge}
end rules
end Go.Proofs.YtmlhnajgiopfgaaGreat

namespace Go.Proofs.YtmlhnajgiopfgaaGreat
open Go Go.RowKit

theorem made_flat (zl : List Value) (hpos : 0 < zl.length) (n : Nat) : (madeCells zl.toArray (n * zl.length)).toList = (List.replicate n zl).flatten := by
  refine List.ext_getElem? fun i => ?_
  have hes : ∀ c ∈ List.replicate n zl, c.length = zl.length := fun c hc => by rw [(List.mem_replicate.1 hc).2]
  have hfl : (List.replicate n zl).flatten.length = n * zl.length := by rw [flatten_len hes, List.length_replicate]
  by_cases hi : i < n * zl.length
  · have hk : i / zl.length < n := (Nat.div_lt_iff_lt_mul hpos).2 hi
    have hj : i % zl.length < zl.length := Nat.mod_lt _ hpos
    have h1 := flatten_get hes (k := i / zl.length) (cs := zl) (j := i % zl.length) (v := zl[i % zl.length]) (by simp [hk]) (List.getElem?_eq_getElem hj)
    rw [Nat.div_add_mod'] at h1
    rw [h1]
    simp [madeCells, hi, hj]
  · have h2 : (madeCells zl.toArray (n * zl.length)).toList.length = n * zl.length := by simp [madeCells]
    rw [List.getElem?_eq_none (by rw [h2]; omega), List.getElem?_eq_none (by rw [hfl]; omega)]

section rules
variable {F : Fence} {P : Program} {ops : Array Oper} {Q : Exit → Act → World → Prop} {rest : List Oper} {n : Nat} {D : List Deferred} {l : Env} {w0 : World} {L M : List Ent}
variable {d : Nat} {ty : TypeId} {pos : String} {aft : Array Edge}

theorem mks {x y : Operand} {t T : TypeId} (m : Nat) (hT : SliceTy P t T := by infer_instance) {agg : Bool} {size bytes : Nat} {z : Value} {zl : List Value} (hE : Ty P T agg size bytes z zl := by infer_instance) {kl kc : IntKind} (hx : ev l x = some (.int kl (m : Int)) := by exact rfl) (hy : ev l y = some (.int kc (m : Int)) := by exact rfl)
    (hb : bytes * m ≤ 281474976710656 := by omega) (hlm : m ≤ 9223372036854775807 := by omega) (hpos : 0 < size := by omega) (h1 : zl.all (·.oneCell') = true := by rfl) (hd : Nat.blt d n = true := by rfl)
    (h : ∀ b, WL F P ops Q rest n D ((d, .slice (some ⟨b, 0, none⟩) m m) :: l) w0 (.own (some ⟨b, 0, none⟩) m T size m (List.replicate m zl) :: L)) : WL F P ops Q (⟨some d, .makeSlice t x y, ty, pos, aft, none⟩ :: rest) n D l w0 L :=
  WL.value (X := Nat) (φ := fun _ => True) (val := fun b => .slice (some ⟨b, 0, none⟩) m m) (L' := fun b => .own (some ⟨b, 0, none⟩) m T size m (List.replicate m zl) :: L) (by simp) hd (fun ac w hfr hst => by
    obtain ⟨i, hi, hi1, hi2, h3⟩ := ty_info hE
    have hzl : zl.length = size := hE.zs
    have hes : ∀ c ∈ List.replicate m zl, c.length = size := fun c hc => by rw [(List.mem_replicate.1 hc).2, hzl]
    have hfl := flatten_len hes
    rw [List.length_replicate] at hfl
    have hmade : madeCells z.cells (m * i.size) = (List.replicate m zl).flatten.toArray := by
      rw [hi1, hE.zc, ← hzl]
      exact Array.toList_inj.1 (by rw [made_flat zl (by omega) m])
    have hrun := run_make (P := P) (w := w) t T i z hT.und hi h3 kl kc (m : Int) (m : Int) (by omega) (Int.le_refl _) (by rw [hi2, ← Int.natCast_mul]; omega) (by omega)
    rw [Int.toNat_natCast, hmade] at hrun
    refine ⟨w.heap.size, w.alloc (.cells (List.replicate m zl).flatten.toArray T), trivial, ?_, ?_⟩
    · simp [execOp, hfr.eval hx, hfr.eval hy, hrun]
    · have hone : ∀ c ∈ List.replicate m zl, ∀ v ∈ c, v.oneCell' = true := fun c hc v hv => by
        rw [(List.mem_replicate.1 hc).2] at hv
        exact List.all_eq_true.1 h1 v hv
      have hown : (w.alloc (.cells (List.replicate m zl).flatten.toArray T)).ownsRow 0 T size (.slice (some ⟨w.heap.size, 0, none⟩) m m) m (List.replicate m zl).flatten :=
        ⟨by rw [hfl], .inr ⟨w.heap.size, m, (List.replicate m zl).flatten.toArray, rfl, Nat.zero_le _, heap_alloc_new w _, Nat.le_refl _, by simp only [maxLen]; omega, by simp [hfl], by rw [← hfl]; exact List.take_length⟩⟩
      refine St.add (M := [_]) hst ((Blw.refl _ w).alloc (Nat.le_refl _) _) (fun e he => ?_) (fun e he b hb' => ?_) (List.pairwise_singleton _ _)
      · simp only [List.mem_singleton] at he; subst he
        exact ⟨hown, rd_own hown (by simp) hes hone⟩
      · simp only [List.mem_singleton] at he; subst he
        obtain ⟨ad, had, rfl⟩ := hb'
        injection had with had; subst had; exact Nat.le_refl _) (fun b _ => h b)
end rules
end Go.Proofs.YtmlhnajgiopfgaaGreat

namespace Go.Proofs.YtmlhnajgiopfgaaGreat
open Go Go.RowKit

def enI (xs : List Int) : List (List Value) := xs.map fun x => [vI x]
theorem enI_len (xs : List Int) : (enI xs).length = xs.length := by simp [enI]
theorem enI_at {xs : List Int} {k : Nat} {x : Int} (h : xs[k]? = some x) : (enI xs)[k]? = some [.int .i64 x] := by simp [enI, h, vI]
theorem enI_app (xs : List Int) (x : Int) : enI xs ++ [[.int .i64 x]] = enI (xs ++ [x]) := by simp [enI, vI]
theorem enI_set (xs : List Int) (k : Nat) (x : Int) : (enI xs).set k [.int .i64 x] = enI (xs.set k x) := by simp [enI, vI, List.map_set]
def wtFp (A : Option Addr) (b : Nat) : Prop := ∃ ad, A = some ad ∧ ad.block = b
def wtOk (T : TypeId) (A : Option Addr) (n cap : Nat) (ws : List Int) (w : World) : Prop :=
  ws.length = n ∧ ((A = none ∧ n = 0 ∧ cap = 0) ∨ ∃ (g : Nat) (pre sp : List Value), A = some ⟨g, pre.length, none⟩ ∧ w.heap[g]? = some (.cells (pre ++ (ws.map vI ++ sp)).toArray T (0, 0)) ∧ n ≤ cap ∧ cap ≤ n + sp.length ∧ cap ≤ 9223372036854775807)
theorem wtOk_frame {T : TypeId} {A : Option Addr} {n cap : Nat} {ws : List Int} (w w' : World) (hf : ∀ b, wtFp A b → w'.heap[b]? = w.heap[b]?) (h : wtOk T A n cap ws w) : wtOk T A n cap ws w' := by
  obtain ⟨h1, h2⟩ := h
  refine ⟨h1, ?_⟩
  rcases h2 with h2 | ⟨g, pre, sp, rfl, hg, r⟩
  · exact .inl h2
  · exact .inr ⟨g, pre, sp, rfl, by rw [hf g ⟨_, rfl, rfl⟩]; exact hg, r⟩
theorem wtOk_lt {T : TypeId} {A : Option Addr} {n cap : Nat} {ws : List Int} (w : World) (b : Nat) (h : wtOk T A n cap ws w) (hb : wtFp A b) : b < w.heap.size := by
  obtain ⟨ad, rfl, rfl⟩ := hb
  rcases h.2 with ⟨h0, _⟩ | ⟨g, pre, sp, h0, hg, _⟩
  · cases h0
  · injection h0 with h0; subst h0; exact heap_lt hg
def wtE (T : TypeId) (A : Option Addr) (n cap : Nat) (ws : List Int) : Ent := .gen true true (wtFp A) (wtOk T A n cap ws) wtOk_frame wtOk_lt

theorem rd_wt {T : TypeId} {A : Option Addr} {n cap : Nat} {ws : List Int} (w : World) (h : (wtE T A n cap ws).ok w) : Rd w A 1 n (enI ws) := by
  obtain ⟨h1, h2⟩ := h
  refine ⟨by rw [enI_len]; exact h1, fun c hc => ?_, fun hn => ?_, fun ad ha k cs hk j v hj => ?_, fun c hc v hv => ?_⟩
  · obtain ⟨x, _, rfl⟩ := List.mem_map.1 hc; rfl
  · rcases h2 with ⟨_, h0, _⟩ | ⟨g, pre, sp, rfl, _⟩
    · omega
    · exact ⟨_, rfl⟩
  · rcases h2 with ⟨h0, _⟩ | ⟨g, pre, sp, h0, hg, _⟩
    · rw [ha] at h0; cases h0
    · rw [ha] at h0
      injection h0 with h0; subst h0
      have hk' : (ws.map fun x => [vI x])[k]? = some cs := hk
      rw [List.getElem?_map] at hk'
      cases hw : ws[k]? with
      | none => rw [hw] at hk'; cases hk'
      | some x =>
        rw [hw] at hk'
        simp only [Option.map_some, Option.some.injEq] at hk'
        subst hk'
        have hj0 : j = 0 := by
          have := (List.getElem?_eq_some_iff.1 hj).1
          simp at this; exact this
        subst hj0
        simp only [List.getElem?_cons_zero, Option.some.injEq] at hj
        subst hj
        have hkl : k < ws.length := (List.getElem?_eq_some_iff.1 hw).1
        rw [add_lit, cell_of_row w g _ _ T (0, 0) hg]
        have e : pre.length + (k * 1 + 0) = pre.length + k := by omega
        rw [e]
        simp only [List.getElem?_toArray]
        rw [List.getElem?_append_right (by omega), Nat.add_sub_cancel_left, List.getElem?_append_left (by simpa using hkl), List.getElem?_map, hw]
        rfl
  · obtain ⟨x, _, rfl⟩ := List.mem_map.1 hc
    simp only [List.mem_singleton] at hv
    subst hv; rfl

section
variable {w0 w : World} {M : List Ent} {T : TypeId} {A : Option Addr} {n cap : Nat} {ws : List Int}
end

section
variable {P : Program}
end

section rules
variable {F : Fence} {P : Program} {ops : Array Oper} {Q : Exit → Act → World → Prop} {rest : List Oper} {n : Nat} {D : List Deferred} {l : Env} {w0 : World} {L M : List Ent}
variable {d : Nat} {ty : TypeId} {pos : String} {aft : Array Edge}
end rules
end Go.Proofs.YtmlhnajgiopfgaaGreat

namespace Go.Proofs.YtmlhnajgiopfgaaGreat
open Go Go.RowKit

section rules
variable {P : Program} {n : Nat} {D : List Deferred} {l : Env} {w0 : World} {L : List Ent}
theorem cvI {x : Operand} {s t : TypeId} {k k' : IntKind} {a : Int} (hx : ev l x = some (.int k' a) := by exact rfl) (hs : (P.underlying s).isSome = true := by kernel_rfl) (hd : P.underlying t = some (.int k) := by kernel_rfl) (hw : k.wrap a = a) : Yd P n D l w0 L (.convert s t x) (.int k a) :=
  ⟨by simp, by simp, fun oo ho ac w hfr _ => by
    obtain ⟨dd, hdd⟩ := Option.isSome_iff_exists.1 hs
    have hrun : (Go.convert s t (.int k' a)).run P w = .ok (.int k a) w := by
      unfold Go.convert
      simp only [Sem.run_bind, run_underlying hdd, run_underlying hd, Result.andThen_ok]
      cases dd <;> simp [Conv.intToInt, hw]
    simp [execOp, ho, hfr.eval hx, hrun]⟩
theorem ixT {x y : Operand} {t : TypeId} {k : IntKind} {s : ByteArray} {i : Int} {b : UInt8} (hi0 : 0 ≤ i) (hb : s[i.toNat]? = some b) (hx : ev l x = some (.string s) := by exact rfl) (hy : ev l y = some (.int k i) := by exact rfl) (hT : P.underlying t = some .string := by kernel_rfl) : Yd P n D l w0 L (.index t x y) (.int .u8 b.toNat) :=
  ⟨by simp, by simp, fun oo ho ac w hfr _ => by
    simp [execOp, ho, hfr.eval hx, hfr.eval hy, Instr.index, asIntOf, run_underlying hT, hi0, hb]⟩
end rules
section rules2
variable {F : Fence} {P : Program} {ops : Array Oper} {Q : Exit → Act → World → Prop} {rest : List Oper} {n : Nat} {D : List Deferred} {l : Env} {w0 : World} {L : List Ent}
variable {d : Nat} {ty : TypeId} {pos : String} {aft : Array Edge}
theorem WL.byte {x y : Operand} {t : TypeId} {k : IntKind} {s : ByteArray} {i : Int} (hi : 0 ≤ i ∧ i < 256) (hx : ev l x = some (.string s) := by exact rfl) (hs : s.size = 256 := by kernel_rfl) (hy : ev l y = some (.int k i) := by exact rfl) (hT : P.underlying t = some .string := by kernel_rfl) (hd : Nat.blt d n = true := by rfl)
    (h : ∀ b : Nat, b ≤ 255 → WL F P ops Q rest n D ((d, .int .u8 (b : Int)) :: l) w0 L) : WL F P ops Q (⟨some d, .index t x y, ty, pos, aft, none⟩ :: rest) n D l w0 L := by
  have hb : s[i.toNat]? = some (s[i.toNat]'(by omega)) := getElem?_pos s i.toNat (by omega)
  exact WL.y (hy := ixT hi.1 hb hx hy hT) (hd := hd) (h := h _ (by have := UInt8.toNat_lt (s[i.toNat]'(by omega)); omega))
end rules2
end Go.Proofs.YtmlhnajgiopfgaaGreat

namespace Go.Proofs.YtmlhnajgiopfgaaGreat
open Go Go.RowKit

section
variable {P : Program}
end

section rules
variable {F : Fence} {P : Program} {ops : Array Oper} {Q : Exit → Act → World → Prop} {rest : List Oper} {n : Nat} {D : List Deferred} {l : Env} {w0 : World} {L M : List Ent}
variable {d : Nat} {ty : TypeId} {pos : String} {aft : Array Edge}
end rules
end Go.Proofs.YtmlhnajgiopfgaaGreat

namespace Go.Proofs.YtmlhnajgiopfgaaGreat
open Go Go.RowKit Go.ChangeShapes Go.WideShapes Go.ChangeAt Go.Deep

inductive Sp where
  | int (k : IntKind)
  | bool
  | str
  | sl (es : List Sp)

def shpF (P : Program) (r : TypeId → Option (List Sp)) : Nat → List Field → Option (List Sp)
  | _, [] => some []
  | off, f :: fs => bif Nat.beq f.offset off then
      (match r f.type with
      | none => none
      | some s => bif Nat.beq s.length (P.cellsOf f.type) then (match shpF P r (off + s.length) fs with | none => none | some ss => some (s ++ ss)) else none) else none

def shp (P : Program) : Nat → TypeId → Option (List Sp)
  | 0, _ => none
  | d + 1, t => match P.underlying t with
    | some .bool => some [.bool]
    | some (.int k) => some [.int k]
    | some .string => some [.str]
    | some (.slice e) => (match shp P d e with
      | none => none
      | some s => bif Nat.beq s.length (P.cellsOf e) then some [.sl s] else none)
    | some (.struct fs) => (match shpF P (shp P d) 0 fs.toList with
      | none => none
      | some s => bif Nat.beq s.length (P.cellsOf t) then some s else none)
    | _ => none

inductive Mts (w : World) : List Sp → List Value → Prop
  | nil : Mts w [] []
  | int {k : IntKind} {n : Int} {ss : List Sp} {cs : List Value} (h : (Lit.int k n).wf = true) (t : Mts w ss cs) : Mts w (.int k :: ss) (.int k n :: cs)
  | bool {b : Bool} {ss : List Sp} {cs : List Value} (t : Mts w ss cs) : Mts w (.bool :: ss) (.bool b :: cs)
  | str {s : ByteArray} {ss : List Sp} {cs : List Value} (t : Mts w ss cs) : Mts w (.str :: ss) (.string s :: cs)
  | sl {es : List Sp} {A : Option Addr} {n c : Nat} {xs : List (List Value)} {ss : List Sp} {cs : List Value} (hr : Rd w A es.length n xs) (hn : n ≤ c ∧ c ≤ 9223372036854775807) (hx : ∀ x ∈ xs, Mts w es x) (t : Mts w ss cs) : Mts w (.sl es :: ss) (.slice A n c :: cs)

theorem Mts.len {w : World} {ss : List Sp} {cs : List Value} (h : Mts w ss cs) : cs.length = ss.length := by
  induction h <;> simp_all
theorem Mts.one {w : World} {ss : List Sp} {cs : List Value} (h : Mts w ss cs) : ∀ v ∈ cs, v.oneCell' = true := by
  induction h with
  | nil => intro v hv; cases hv
  | int _ _ ih => intro v hv; rcases List.mem_cons.1 hv with rfl | hv; exact rfl; exact ih v hv
  | bool _ ih => intro v hv; rcases List.mem_cons.1 hv with rfl | hv; exact rfl; exact ih v hv
  | str _ ih => intro v hv; rcases List.mem_cons.1 hv with rfl | hv; exact rfl; exact ih v hv
  | sl _ _ _ _ _ ih => intro v hv; rcases List.mem_cons.1 hv with rfl | hv; exact rfl; exact ih v hv
theorem Mts.app {w : World} {ss ss' : List Sp} {cs cs' : List Value} (h : Mts w ss cs) (h' : Mts w ss' cs') : Mts w (ss ++ ss') (cs ++ cs') := by
  induction h with
  | nil => exact h'
  | int h _ ih => exact .int h ih
  | bool _ ih => exact .bool ih
  | str _ ih => exact .str ih
  | sl hr hn hx _ _ ih => exact .sl hr hn hx ih

section
variable {H : Type} {enc : TypeId × Value → H} {P : Program} {w : World} {base : Nat} {spare : Nat → Bool} {held : Bool}

theorem shpF_Mts {r : TypeId → Option (List Sp)} {n : Nat} {cs : List Value} (hr : ∀ t cs x ss, DataW.trod enc P w base spare held n t cs = some x → r t = some ss → Mts w ss cs) : ∀ (fs : List Field) (off : Nat) (ss : List Sp), shpF P r off fs = some ss →
    (∀ f ∈ fs, ∃ x, DataW.trod enc P w base spare held n f.type ((cs.drop f.offset).take (P.cellsOf f.type)) = some x) → Mts w ss ((cs.drop off).take ss.length)
  | [], off, ss, h, _ => by
    simp [shpF] at h; subst h; simp; exact .nil
  | f :: fs, off, ss, h, hx => by
    rw [shpF] at h
    cases ho : Nat.beq f.offset off with
    | false => rw [ho] at h; cases h
    | true =>
      rw [ho] at h
      simp only [cond_true] at h
      cases hs : r f.type with
      | none => rw [hs] at h; cases h
      | some s =>
        rw [hs] at h
        simp only at h
        cases hl : Nat.beq s.length (P.cellsOf f.type) with
        | false => rw [hl] at h; cases h
        | true =>
          rw [hl] at h
          simp only [cond_true] at h
          cases hF : shpF P r (off + s.length) fs with
          | none => rw [hF] at h; cases h
          | some ss' =>
            rw [hF] at h
            simp only [Option.some.injEq] at h
            subst h
            obtain ⟨x, hx1⟩ := hx f (by simp)
            have e1 := Nat.eq_of_beq_eq_true ho
            have e2 := Nat.eq_of_beq_eq_true hl
            have h1 := hr _ _ _ _ hx1 hs
            have h2 := shpF_Mts hr fs (off + s.length) ss' hF fun f' hf' => hx f' (by simp [hf'])
            rw [e1, ← e2] at h1
            have h3 := h1.app h2
            have : (List.take s.length (List.drop off cs) ++ List.take ss'.length (List.drop (off + s.length) cs)) = List.take (s ++ ss').length (List.drop off cs) := by
              rw [List.length_append, List.take_add, List.drop_drop]
            rwa [this] at h3

theorem trod_Mts : ∀ (d : Nat) (fuel : Nat) (t : TypeId) (cs : List Value) (x : DataW H × List MemPlace) (ss : List Sp), DataW.trod enc P w base spare held fuel t cs = some x → shp P d t = some ss → Mts w ss cs
  | 0, _, _, _, _, _, _, hs => by simp [shp] at hs
  | d + 1, fuel, t, cs, x, ss, h, hs => by
    cases fuel with
    | zero => simp [DataW.trod] at h
    | succ n =>
      rw [shp] at hs
      cases hu : P.underlying t with
      | none => simp [hu] at hs
      | some dd =>
        cases dd <;> simp only [hu, reduceCtorEq] at hs
        case bool =>
          simp only [Option.some.injEq] at hs; subst hs
          unfold DataW.trod at h
          rw [hu] at h
          split at h <;> simp_all
          exact .bool .nil
        case int k =>
          simp only [Option.some.injEq] at hs; subst hs
          unfold DataW.trod at h
          rw [hu] at h
          split at h <;> simp_all
          obtain ⟨⟨rfl, hw⟩, _⟩ := h
          exact .int hw .nil
        case string =>
          simp only [Option.some.injEq] at hs; subst hs
          unfold DataW.trod at h
          rw [hu] at h
          split at h <;> simp_all
          exact .str .nil
        case slice e =>
          cases he : shp P d e with
          | none => rw [he] at hs; cases hs
          | some s =>
            rw [he] at hs
            simp only at hs
            cases hl : Nat.beq s.length (P.cellsOf e) with
            | false => rw [hl] at hs; cases hs
            | true =>
              rw [hl] at hs
              simp only [cond_true, Option.some.injEq] at hs
              subst hs
              have hl' := Nat.eq_of_beq_eq_true hl
              rcases open_slice hu h with ⟨rfl, _⟩ | ⟨a, len, cap, m, n', D, Pl, rfl, _, hlc, hcm, hm, _, hi⟩
              · exact .sl (Rd.nil w none _) (by omega) (fun x hx => by cases hx) .nil
              · have hlm : len ≤ m := by rw [hm]; split <;> omega
                have hcmx : cap ≤ 9223372036854775807 := by simpa [maxLen] using hcm
                have hex : ∀ i : Fin len, ∃ cs', w.cells? base (a.add (i * P.cellsOf e)) (P.cellsOf e) = some cs' ∧ Mts w s cs' := fun i => by
                  obtain ⟨cs', h1, h2⟩ := hi i (by have := i.2; omega)
                  exact ⟨cs', h1, trod_Mts d n' e cs' _ s h2 he⟩
                let g : Fin len → List Value := fun i => (hex i).choose
                have hg : ∀ i : Fin len, w.cells? base (a.add (i * P.cellsOf e)) (P.cellsOf e) = some (g i) ∧ Mts w s (g i) := fun i => (hex i).choose_spec
                refine .sl (xs := List.ofFn g) ⟨by simp, fun c hc => ?_, fun _ => ⟨a, rfl⟩, fun ad had k c hk j v hj => ?_, fun c hc => ?_⟩ (by omega) (fun c hc => ?_) .nil
                · obtain ⟨i, rfl⟩ := List.mem_ofFn.1 hc
                  exact (hg i).2.len
                · have hkl : k < len := by have := (List.getElem?_eq_some_iff.1 hk).1; simpa using this
                  have hc : c = g ⟨k, hkl⟩ := by
                    rw [List.getElem?_ofFn, dif_pos hkl] at hk
                    exact (Option.some.inj hk).symm
                  subst hc
                  injection had with had; subst had
                  obtain ⟨_, hcl, hat⟩ := World.cells?_some (hg ⟨k, hkl⟩).1
                  have hjl : j < (g ⟨k, hkl⟩).length := (List.getElem?_eq_some_iff.1 hj).1
                  have h1 := hat j (by omega)
                  rw [hj, add_add', ← hl'] at h1
                  exact h1
                · obtain ⟨i, rfl⟩ := List.mem_ofFn.1 hc
                  exact (hg i).2.one
                · obtain ⟨i, rfl⟩ := List.mem_ofFn.1 hc
                  exact (hg i).2
        case struct fs =>
          cases hF : shpF P (shp P d) 0 fs.toList with
          | none => rw [hF] at hs; cases hs
          | some s =>
            rw [hF] at hs
            simp only at hs
            cases hl : Nat.beq s.length (P.cellsOf t) with
            | false => rw [hl] at hs; cases hs
            | true =>
              rw [hl] at hs
              simp only [cond_true, Option.some.injEq] at hs
              subst hs
              have hl' := Nat.eq_of_beq_eq_true hl
              obtain ⟨xs, n', _, _, hcl, hxl, hf⟩ := DataW.trod_struct hu h
              have h1 := shpF_Mts (n := n') (cs := cs) (fun t cs x ss h1 h2 => trod_Mts d n' t cs x ss h1 h2) fs.toList 0 s hF fun f hfm => by
                obtain ⟨i, hi⟩ := List.getElem?_of_mem hfm
                have hi' : fs[i]? = some f := by simpa using hi
                have hil : i < xs.length := by have := (Array.getElem?_eq_some_iff.1 hi').1; omega
                exact ⟨xs[i], (hf i f hi').trans (List.getElem?_eq_getElem hil)⟩
              rw [List.drop_zero, List.take_of_length_le (by omega)] at h1
              exact h1
end

theorem cell_of {P : Program} {w : World} {r : Reach} {base : Nat} {t : TypeId} {v : Value} (hu : (match P.underlying t with | some .bool => true | some (.int _) => true | some .string => true | some (.slice _) => true | _ => false) = true) (h : Value.okWide P w r base t v) : v.cells = #[v] := by
  unfold Value.okWide at h
  cases hq : P.underlying t with
  | none => simp [hq] at hu
  | some dd =>
    cases dd <;> simp [hq] at hu <;> (rw [hq] at h; cases v <;> first | rfl | (simp [Cell.okWide, Cell.ok, hq] at h))

theorem Mts.int_inv {w : World} {k : IntKind} {ss : List Sp} {cs : List Value} (h : Mts w (.int k :: ss) cs) : ∃ n cs', cs = .int k n :: cs' ∧ (Lit.int k n).wf = true ∧ Mts w ss cs' := by
  cases h with
  | int h t => exact ⟨_, _, rfl, h, t⟩
theorem Mts.sl_inv {w : World} {es ss : List Sp} {cs : List Value} (h : Mts w (.sl es :: ss) cs) : ∃ A n c xs cs', cs = .slice A n c :: cs' ∧ Rd w A es.length n xs ∧ n ≤ 9223372036854775807 ∧ (∀ x ∈ xs, Mts w es x) ∧ Mts w ss cs' := by
  cases h with
  | sl hr hn hx t => exact ⟨_, _, _, _, _, rfl, hr, Nat.le_trans hn.1 hn.2, hx, t⟩
theorem Mts.sl_invc {w : World} {es ss : List Sp} {cs : List Value} (h : Mts w (.sl es :: ss) cs) : ∃ A n c xs cs', cs = .slice A n c :: cs' ∧ Rd w A es.length n xs ∧ (n ≤ c ∧ c ≤ 9223372036854775807) ∧ (∀ x ∈ xs, Mts w es x) ∧ Mts w ss cs' := by
  cases h with
  | sl hr hn hx t => exact ⟨_, _, _, _, _, rfl, hr, hn, hx, t⟩
theorem Mts.nil_inv {w : World} {cs : List Value} (h : Mts w [] cs) : cs = [] := by cases h; rfl

theorem map_of {α : Type} {f : α → List Value} : ∀ {xs : List (List Value)}, (∀ x ∈ xs, ∃ a, x = f a) → ∃ ys : List α, xs = ys.map f
  | [], _ => ⟨[], rfl⟩
  | x :: xs, h => by
    obtain ⟨a, rfl⟩ := h x (by simp)
    obtain ⟨ys, rfl⟩ := map_of (xs := xs) fun y hy => h y (by simp [hy])
    exact ⟨a :: ys, rfl⟩

section
variable {H : Type} {enc : TypeId × Value → H} {P : Program}

theorem arg_agg {w : World} {base : Nat} {spare : Nat → Bool} {held : Bool} {r : Reach} {b0 : Nat} {t : TypeId} {v : Value} {d : DataW H} {p : List MemPlace} {ss : List Sp} (k : Nat) (hu : (match P.underlying t with | some (.struct _) => true | _ => false) = true) (hs : shp P k t = some ss)
    (hv : Value.okWide P w r b0 t v) (h : DataW.Trod enc P w base spare held t v d p) : ∃ cs, v = .agg cs.toArray ∧ Mts w ss cs := by
  cases hq : P.underlying t with
  | none => simp [hq] at hu
  | some dd =>
    cases dd <;> simp [hq] at hu
    obtain ⟨cs, rfl, _⟩ := okWide_struct hq hv
    obtain ⟨fuel, hf⟩ := h
    exact ⟨cs.toList, by simp, trod_Mts k _ _ _ _ _ hf hs⟩
theorem arg_cell {w : World} {base : Nat} {spare : Nat → Bool} {held : Bool} {r : Reach} {b0 : Nat} {t : TypeId} {v : Value} {d : DataW H} {p : List MemPlace} {ss : List Sp} (k : Nat) (hu : (match P.underlying t with | some .bool => true | some (.int _) => true | some .string => true | some (.slice _) => true | _ => false) = true) (hs : shp P k t = some ss)
    (hv : Value.okWide P w r b0 t v) (h : DataW.Trod enc P w base spare held t v d p) : Mts w ss [v] := by
  obtain ⟨fuel, hf⟩ := h
  have := trod_Mts k _ _ _ _ _ hf hs
  rwa [cell_of hu hv] at this

theorem below_trodAll {W W' : World} (hl : laidOutB P = true) (hB : Below W.heap.size W W') : ∀ {ts : List TypeId} {vs : List Value} {ds : List (DataW H)} {ps : List MemPlace}, (∀ t ∈ ts, P.readableRec t = true ∧ t < P.types.size) →
    DataW.TrodAll enc P W 0 (fun _ => true) true ts vs ds ps → (∀ x ∈ ps, x.block < W.heap.size) → DataW.TrodAll enc P W' 0 (fun b => decide (b < W.heap.size)) true ts vs ds ps
  | [], [], [], _, _, h, _ => h
  | t :: ts, v :: vs, d :: ds, ps, hr, ⟨p, q, h1, h2, e⟩, hlt =>
    ⟨p, q, Below.trod hl (hr t (by simp)).1 (hr t (by simp)).2 h1 hB (fun x hx => hlt x (by rw [e]; exact List.mem_append_left _ hx)),
      below_trodAll hl hB (fun t ht => hr t (by simp [ht])) h2 (fun x hx => hlt x (by rw [e]; exact List.mem_append_right _ hx)), e⟩

theorem post_true {f : Func} {s : ChangeSpec} {fresh handsOn : Bool} {W W' : World} {args : Array Value} {ds gs : List (DataW H)} {before : List MemPlace} {bt : TypeId} (hW : DataW.Whole enc P f.params.toList s.vars false W args.toList ds gs before)
    (hsv : s.vars = []) (hres : f.resultTypes = #[bt]) (hu : P.underlying bt = some .bool) (hfr : (s.fn H (ds ++ gs)).results = [.lit (.bool true)]) (hfa : (s.fn H (ds ++ gs)).args = ds) (hfv : (s.fn H (ds ++ gs)).vars = [])
    (hB : Below W.heap.size W W') (hl : laidOutB P = true) (hok : f.params.toList.all (fun t => P.readableRec t && decide (t < P.types.size)) = true) : s.post enc P f false fresh handsOn false W args (.bool true) W' := by
  have hW' := hW
  obtain ⟨p, q, hA, hV, hpq, hfz, hnd⟩ := hW
  have hok' : ∀ t ∈ f.params.toList, P.readableRec t = true ∧ t < P.types.size := fun t ht => by
    have := List.all_eq_true.1 hok t ht
    simpa using this
  refine ⟨ds, gs, before, [], p, [], hW', ?_, ?_, ?_, hB.frame _, fun h => by cases h⟩
  · rw [hres, hfr]
    exact trodAll_cons_mk (shut_bool hu _) trodAll_mk0
  · rw [hfa]
    exact below_trodAll hl hB hok' hA (fun x hx => by simpa using hW'.lt x (by rw [hpq]; exact List.mem_append_left _ hx))
  · rw [hsv, hfv]; rfl

theorem trodAll_out {w : World} {base : Nat} {spare : Nat → Bool} {held : Bool} {t : TypeId} {ts : List TypeId} {vs : List Value} {ds : List (DataW H)} {ps : List MemPlace} (h : DataW.TrodAll enc P w base spare held (t :: ts) vs ds ps) :
    ∃ v vs' d ds' p q, vs = v :: vs' ∧ ds = d :: ds' ∧ DataW.Trod enc P w base spare held t v d p ∧ DataW.TrodAll enc P w base spare held ts vs' ds' q := by
  match vs, ds, h with
  | v :: vs', d :: ds', ⟨p, q, h1, h2, _⟩ => exact ⟨v, vs', d, ds', p, q, rfl, rfl, h1, h2⟩
theorem trodAll_end {w : World} {base : Nat} {spare : Nat → Bool} {held : Bool} {vs : List Value} {ds : List (DataW H)} {ps : List MemPlace} (h : DataW.TrodAll enc P w base spare held [] vs ds ps) : vs = [] ∧ ds = [] := by
  match vs, ds, h with
  | [], [], _ => exact ⟨rfl, rfl⟩
end
end Go.Proofs.YtmlhnajgiopfgaaGreat

namespace Go.Proofs.YtmlhnajgiopfgaaGreat
open Go Go.ChangeShapes Go.WideShapes Go.ChangeAt Go.RowKit Go.Deep

section
variable {H : Type} {enc : TypeId × Value → H} {P : Program} {w : World} {base : Nat} {held : Bool}

def fieldAt (P : Program) (t : TypeId) (i : Nat) : Option (TypeId × Nat) := match P.underlying t with
  | some (.struct fs) => (fs[i]?).map fun f => (f.type, f.offset)
  | _ => none
end
end Go.Proofs.YtmlhnajgiopfgaaGreat
