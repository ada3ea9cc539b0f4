/- Words for a walk's frame (slots) and heap (blocks), with the laws by which they are kept. No program is named here. -/
import Derived.TacticsIn
import Derived.WalkKit
import Derived.Deep.AppendLies
import Derived.RangeFuncLeaves
namespace Go.Proofs.Ytacaojifempclaa
open Go Go.RowKit

/-! ### slots -/
abbrev Env := List (Nat × Value)

def look : Env → Nat → Option Value
  | [], _ => none
  | (i, v) :: l, k => bif Nat.beq i k then some v else look l k

theorem look_cons (i : Nat) (v : Value) (l : Env) (k : Nat) : look ((i, v) :: l) k = if i = k then some v else look l k := by
  by_cases h : i = k
  · subst h; simp [look]
  · have : Nat.beq i k = false := by
      cases hb : Nat.beq i k
      · rfl
      · exact absurd (Nat.eq_of_beq_eq_true hb) h
    show (bif Nat.beq i k then some v else look l k) = _
    simp only [this, cond_false, if_neg h]

structure Fr (a : Act) (n : Nat) (D : List Deferred) (l : Env) : Prop where
  size : a.tmps.size = n
  slot : ∀ k v, look l k = some v → a.tmps[k]? = some v
  defers : a.defers = D

def Sub : Env → Env → Prop
  | [], _ => True
  | (i, v) :: t, l => look l i = some v ∧ Sub t l

theorem Sub.out : ∀ {l' l : Env}, Sub l' l → ∀ k v, look l' k = some v → look l k = some v
  | [], _, _, _, _, h => by simp [look] at h
  | (i, u) :: t, l, ⟨h1, h2⟩, k, v, h => by
    rw [look_cons] at h
    by_cases e : i = k
    · subst e; simp at h; subst h; exact h1
    · rw [if_neg e] at h; exact Sub.out h2 k v h

theorem Fr.sub {a : Act} {n : Nat} {D : List Deferred} {l l' : Env} (h : Fr a n D l) (hs : Sub l' l) : Fr a n D l' :=
  ⟨h.size, fun k v hk => h.slot k v (hs.out k v hk), h.defers⟩

theorem Fr.put {a : Act} {n : Nat} {D : List Deferred} {l : Env} (h : Fr a n D l) {d : Nat} (hd : Nat.blt d n = true) (v : Value) : Fr (a.put (some d) v) n D ((d, v) :: l) := by
  have hlt : d < a.tmps.size := by rw [h.size]; exact (by simpa [Nat.blt_eq] using hd)
  refine ⟨by simp [Act.put, h.size], fun k u hk => ?_, h.defers⟩
  rw [look_cons] at hk
  by_cases e : d = k
  · subst e; simp at hk; subst hk; simp [Act.put, hlt]
  · rw [if_neg e] at hk
    have := h.slot k u hk
    simp only [Act.put]
    rw [Array.getElem?_setIfInBounds_ne e]
    exact this

theorem Fr.put_none {a : Act} {n : Nat} {D : List Deferred} {l : Env} (h : Fr a n D l) (v : Value) : Fr (a.put none v) n D l := h

def ev (l : Env) : Operand → Option Value
  | .tmp t => look l t
  | .const v => some v
  | .func f => some (.func (.func f) #[] #[])
  | .global g => some (.pointer (some ⟨g, 0, none⟩))

theorem Fr.eval {a : Act} {n : Nat} {D : List Deferred} {l : Env} (h : Fr a n D l) {x : Operand} {v : Value} (hx : ev l x = some v) : a.eval x = v := by
  cases x with
  | tmp t =>
    have := h.slot t v hx
    simp [Act.eval, this]
  | const c => simpa [ev, Act.eval] using hx
  | func f => simpa [ev, Act.eval] using hx
  | global g => simpa [ev, Act.eval] using hx

def evs (l : Env) : List Operand → Option (List Value)
  | [] => some []
  | x :: xs => match ev l x, evs l xs with
    | some v, some vs => some (v :: vs)
    | _, _ => none

inductive Evs (l : Env) : List Operand → List Value → Prop
  | nil : Evs l [] []
  | cons {x : Operand} {xs : List Operand} {v : Value} {vs : List Value} (h : ev l x = some v) (hs : Evs l xs vs) : Evs l (x :: xs) (v :: vs)

theorem Fr.evals {a : Act} {n : Nat} {D : List Deferred} {l : Env} (h : Fr a n D l) {xs : List Operand} {vs : List Value} (hx : Evs l xs vs) : xs.map a.eval = vs := by
  induction hx with
  | nil => rfl
  | cons h1 _ ih => simp [h.eval h1, ih]

/-! ### memory that reads -/
theorem block_add (a : Addr) (n : Nat) : (a.add n).block = a.block := by unfold Addr.add; split <;> rfl
theorem add_add' (a : Addr) (i j : Nat) : (a.add i).add j = a.add (i + j) := by
  unfold Addr.add
  by_cases hi : i = 0 <;> by_cases hj : j = 0 <;> simp [hi, hj, Nat.add_assoc]

/-- The slice value '.slice A n _' reads as the elements es, each of 'size' cells. -/
structure Rd (w : World) (A : Option Addr) (size n : Nat) (es : List (List Value)) : Prop where
  len : es.length = n
  each : ∀ c ∈ es, c.length = size
  some_ : 0 < n → ∃ ad, A = some ad
  cell : ∀ ad, A = some ad → ∀ k cs, es[k]? = some cs → ∀ j v, cs[j]? = some v → w.cell? (ad.add (k * size + j)) = some v
  one : ∀ c ∈ es, ∀ v ∈ c, v.oneCell' = true

theorem Rd.frame {w w' : World} {A : Option Addr} {size n : Nat} {es : List (List Value)} (h : Rd w A size n es)
    (hf : ∀ ad, A = some ad → 0 < n → 0 < size → w'.heap[ad.block]? = w.heap[ad.block]?) : Rd w' A size n es := by
  refine ⟨h.len, h.each, h.some_, fun ad ha k cs hk j v hj => ?_, h.one⟩
  have hkl : k < es.length := (List.getElem?_eq_some_iff.1 hk).1
  have hjl : j < cs.length := (List.getElem?_eq_some_iff.1 hj).1
  have hmem : cs ∈ es := List.mem_of_getElem? hk
  have h1 := h.each cs hmem
  rw [World.cell?_of_block (w := w)]
  · exact h.cell ad ha k cs hk j v hj
  · rw [block_add]; exact hf ad ha (by have := h.len; omega) (by omega)

theorem Rd.lt {w : World} {A : Option Addr} {size n : Nat} {es : List (List Value)} (h : Rd w A size n es) {ad : Addr} (ha : A = some ad) (hn : 0 < n) (hs : 0 < size) : ad.block < w.heap.size := by
  have hl : 0 < es.length := by have := h.len; omega
  have hc := h.each es[0] (List.getElem_mem hl)
  have := h.cell ad ha 0 es[0] (List.getElem?_eq_getElem hl) 0 (es[0][0]'(by omega)) (List.getElem?_eq_getElem _)
  have := World.block_lt_of_cell? w _ this
  rwa [block_add] at this

theorem Rd.nil (w : World) (A : Option Addr) (size : Nat) : Rd w A size 0 [] := by
  refine ⟨rfl, ?_, ?_, ?_, ?_⟩
  · intro c h; cases h
  · intro h; omega
  · intro _ _ k cs h; simp at h
  · intro c h; cases h

/-! ### entries of the symbolic heap -/
inductive Ent where
  | blk (b : Nat) (T : TypeId) (cs : List Value)
  | own (A : Option Addr) (cap : Nat) (T : TypeId) (size n : Nat) (es : List (List Value))
  | ro (A : Option Addr) (size n : Nat) (es : List (List Value))
  | obj (b : Nat) (o : Obj)
  | gen (fresh ex : Bool) (fp : Nat → Prop) (ok : World → Prop) (hf : ∀ w w' : World, (∀ b, fp b → w'.heap[b]? = w.heap[b]?) → ok w → ok w') (hlt : ∀ w b, ok w → fp b → b < w.heap.size)

def Ent.fp : Ent → Nat → Prop
  | .blk b _ _ => fun k => k = b
  | .own A _ _ _ _ _ => fun k => ∃ ad, A = some ad ∧ ad.block = k
  | .ro A size n _ => fun k => ∃ ad, A = some ad ∧ ad.block = k ∧ 0 < n ∧ 0 < size
  | .obj b _ => fun k => k = b
  | .gen _ _ fp _ _ _ => fp

def Ent.excl : Ent → Bool
  | .blk .. | .own .. | .obj .. => true
  | .gen _ x _ _ _ _ => x
  | _ => false

def Ent.fresh : Ent → Bool
  | .ro .. => false
  | .gen f x _ _ _ _ => f || x
  | _ => true

theorem Ent.fresh_of_excl {e : Ent} (h : e.excl = true) : e.fresh = true := by cases e <;> simp_all [Ent.excl, Ent.fresh]

def Ent.ok : Ent → World → Prop
  | .blk b T cs, w => w.heap[b]? = some (.cells cs.toArray T (0, 0))
  | .own A cap T size n es, w => w.ownsRow 0 T size (.slice A n cap) n es.flatten ∧ Rd w A size n es
  | .ro A size n es, w => Rd w A size n es
  | .obj b o, w => w.heap[b]? = some o
  | .gen _ _ _ ok _ _, w => ok w

theorem heap_lt {w : World} {b : Nat} {o : Obj} (h : w.heap[b]? = some o) : b < w.heap.size := (Array.getElem?_eq_some_iff.1 h).1

theorem Ent.ok_lt {e : Ent} {w : World} (h : e.ok w) {b : Nat} (hb : e.fp b) : b < w.heap.size := by
  cases e with
  | blk b' T cs => simp only [Ent.fp] at hb; subst hb; exact heap_lt h
  | own A cap T size n es =>
    obtain ⟨ad, rfl, rfl⟩ := hb
    exact (h.1.lt _ (by simp [Value.ownBlock])).2
  | ro A size n es => obtain ⟨ad, ha, rfl, hn, hs⟩ := hb; exact Rd.lt h ha hn hs
  | obj b' o => simp only [Ent.fp] at hb; subst hb; exact heap_lt h
  | gen fr ex fp ok hf hlt => exact hlt w b h hb

theorem Ent.ok_frame {e : Ent} {w w' : World} (h : e.ok w) (hf : ∀ b, e.fp b → w'.heap[b]? = w.heap[b]?) : e.ok w' := by
  cases e with
  | blk b' T cs => exact (hf b' rfl).trans h
  | own A cap T size n es =>
    refine ⟨⟨h.1.1, ?_⟩, h.2.frame fun ad ha _ _ => hf _ ⟨ad, ha, rfl⟩⟩
    rcases h.1.2 with hn | ⟨g, cap', cur, hv, hg, hh, r⟩
    · exact .inl hn
    · refine .inr ⟨g, cap', cur, hv, hg, ?_, r⟩
      rw [hf g ⟨⟨g, 0, none⟩, by injection hv, rfl⟩]
      exact hh
  | ro A size n es => exact Rd.frame h fun ad ha hn hs => hf _ ⟨ad, ha, rfl, hn, hs⟩
  | obj b' o => exact (hf b' rfl).trans h
  | gen fr ex fp ok hf' hlt => exact hf' w w' hf h

def Ent.apart (e e' : Ent) : Prop := (e.excl = true ∨ e'.excl = true) → ∀ b, e.fp b → e'.fp b → False
theorem Ent.apart.symm {e e' : Ent} (h : e.apart e') : e'.apart e := fun hx b hb hb' => h hx.symm b hb' hb

structure St (w0 w : World) (L : List Ent) : Prop where
  below : Below w0.heap.size w0 w
  ok : ∀ e ∈ L, e.ok w
  new : ∀ e ∈ L, e.fresh = true → ∀ b, e.fp b → w0.heap.size ≤ b
  sep : L.Pairwise Ent.apart

/-- At L e M: e stands in L; M is what else stands there. -/
inductive At : List Ent → Ent → List Ent → Prop
  | here {e : Ent} {L : List Ent} : At (e :: L) e L
  | there {x e : Ent} {L M : List Ent} (h : At L e M) : At (x :: L) e (x :: M)

theorem At.mem {L M : List Ent} {e : Ent} (h : At L e M) : e ∈ L := by
  induction h with
  | here => simp
  | there _ ih => simp [ih]

theorem At.rest {L M : List Ent} {e : Ent} (h : At L e M) : ∀ x ∈ M, x ∈ L := by
  induction h with
  | here => intro x hx; simp [hx]
  | there _ ih =>
    intro x hx
    rcases List.mem_cons.1 hx with rfl | hx
    · simp
    · simp [ih x hx]

theorem At.cases {L M : List Ent} {e : Ent} (h : At L e M) : ∀ x ∈ L, x = e ∨ x ∈ M := by
  induction h with
  | here => intro x hx; simpa using hx
  | there _ ih =>
    intro x hx
    rcases List.mem_cons.1 hx with rfl | hx
    · simp
    · rcases ih x hx with h | h
      · exact .inl h
      · simp [h]

theorem At.pw {L M : List Ent} {e : Ent} (h : At L e M) (hs : L.Pairwise Ent.apart) : M.Pairwise Ent.apart ∧ ∀ x ∈ M, e.apart x := by
  induction h with
  | here => rw [List.pairwise_cons] at hs; exact ⟨hs.2, hs.1⟩
  | there h ih =>
    rw [List.pairwise_cons] at hs
    obtain ⟨i1, i2⟩ := ih hs.2
    refine ⟨List.pairwise_cons.2 ⟨fun y hy => hs.1 y (h.rest y hy), i1⟩, fun y hy => ?_⟩
    rcases List.mem_cons.1 hy with rfl | hy
    · exact (hs.1 _ h.mem).symm
    · exact i2 y hy

theorem St.pull {w0 w : World} {L M : List Ent} {e : Ent} (h : St w0 w L) (ha : At L e M) : St w0 w (e :: M) :=
  ⟨h.below, fun x hx => by
    rcases List.mem_cons.1 hx with rfl | hx
    · exact h.ok _ ha.mem
    · exact h.ok _ (ha.rest x hx),
   fun x hx => by
    rcases List.mem_cons.1 hx with rfl | hx
    · exact h.new _ ha.mem
    · exact h.new _ (ha.rest x hx),
   List.pairwise_cons.2 ⟨(ha.pw h.sep).2, (ha.pw h.sep).1⟩⟩

theorem St.tail {w0 w : World} {M : List Ent} {e : Ent} (h : St w0 w (e :: M)) : St w0 w M :=
  ⟨h.below, fun x hx => h.ok x (by simp [hx]), fun x hx => h.new x (by simp [hx]), (List.pairwise_cons.1 h.sep).2⟩

/-- SubL L' L: each entry of L' stands in L, at a place of its own. -/
inductive SubL : List Ent → List Ent → Prop
  | nil {L : List Ent} : SubL [] L
  | cons {e : Ent} {L' L M : List Ent} (h : At L e M) (hs : SubL L' M) : SubL (e :: L') L

theorem SubL.mem {L' L : List Ent} (h : SubL L' L) : ∀ x ∈ L', x ∈ L := by
  induction h with
  | nil => intro x hx; cases hx
  | cons h _ ih =>
    intro x hx
    rcases List.mem_cons.1 hx with rfl | hx
    · exact h.mem
    · exact h.rest x (ih x hx)

theorem St.sub {w0 w : World} {L L' : List Ent} (h : St w0 w L) (hs : SubL L' L) : St w0 w L' := by
  refine ⟨h.below, fun e he => h.ok e (hs.mem e he), fun e he => h.new e (hs.mem e he), ?_⟩
  have hp := h.sep
  clear h
  induction hs with
  | nil => exact List.Pairwise.nil
  | cons ha hs ih => exact List.pairwise_cons.2 ⟨fun y hy => (ha.pw hp).2 y (hs.mem y hy), ih (ha.pw hp).1⟩

theorem SubL.refl : ∀ L : List Ent, SubL L L
  | [] => .nil
  | _ :: L => .cons .here (SubL.refl L)

theorem St.rd {w0 w : World} {L M : List Ent} {A : Option Addr} {size n : Nat} {es : List (List Value)} (h : St w0 w L) (ha : At L (.ro A size n es) M) : Rd w A size n es := h.ok _ ha.mem
theorem St.rdo {w0 w : World} {L M : List Ent} {A : Option Addr} {cap : Nat} {T : TypeId} {size n : Nat} {es : List (List Value)} (h : St w0 w L) (ha : At L (.own A cap T size n es) M) : Rd w A size n es := (h.ok _ ha.mem).2

/-- Rds L A size n es: an entry of L makes the slice readable. -/
inductive Rds : List Ent → Option Addr → Nat → Nat → List (List Value) → Prop
  | ro {A : Option Addr} {size n : Nat} {es : List (List Value)} {L : List Ent} : Rds (.ro A size n es :: L) A size n es
  | own {A : Option Addr} {cap : Nat} {T : TypeId} {size n : Nat} {es : List (List Value)} {L : List Ent} : Rds (.own A cap T size n es :: L) A size n es
  | any {e : Ent} {A : Option Addr} {size n : Nat} {es : List (List Value)} {L : List Ent} (hr : ∀ w, e.ok w → Rd w A size n es) : Rds (e :: L) A size n es
  | there {x : Ent} {A : Option Addr} {size n : Nat} {es : List (List Value)} {L : List Ent} (h : Rds L A size n es) : Rds (x :: L) A size n es

theorem Rds.at_ {L : List Ent} {A : Option Addr} {size n : Nat} {es : List (List Value)} (h : Rds L A size n es) {w : World} (ho : ∀ e ∈ L, e.ok w) : Rd w A size n es := by
  induction h with
  | ro => exact ho (.ro ..) (by simp)
  | own => exact (ho _ (List.mem_cons_self ..)).2
  | any hr => exact hr _ (ho _ (List.mem_cons_self ..))
  | there _ ih => exact ih fun e he => ho e (by simp [he])

theorem St.get {w0 w : World} {L : List Ent} (h : St w0 w L) {A : Option Addr} {size n : Nat} {es : List (List Value)}
    (hr : Rds L A size n es := by repeat (first | exact Rds.ro | exact Rds.own | apply Rds.there)) : Rd w A size n es := hr.at_ h.ok

/-! ### steps of the world -/
/-- Nothing that stood has turned: new blocks alone, and draws. -/
theorem St.ext {w0 w w' : World} {L : List Ent} (h : St w0 w L) (hb : Below w.heap.size w w') : St w0 w' L :=
  ⟨h.below.trans ⟨hb.os, hb.tape, hb.output, hb.size, fun k hk => hb.block k (Nat.lt_of_lt_of_le hk h.below.size)⟩,
   fun e he => Ent.ok_frame (h.ok e he) fun b hbf => hb.block b (Ent.ok_lt (h.ok e he) hbf), h.new, h.sep⟩

theorem St.drew {w0 w : World} {L : List Ent} (h : St w0 w L) : St w0 { w with drawn := w.drawn + 1 } L := h.ext (Below.refl _ w).drew

/-- Beside what stood, entries whose blocks are new. -/
theorem St.add {w0 w w' : World} {L M : List Ent} (h : St w0 w L) (hb : Below w.heap.size w w') (hok : ∀ e ∈ M, e.ok w') (hnew : ∀ e ∈ M, ∀ b, e.fp b → w.heap.size ≤ b) (hsep : M.Pairwise Ent.apart) : St w0 w' (M ++ L) := by
  have h' := h.ext hb
  refine ⟨h'.below, fun e he => ?_, fun e he hx b hbf => ?_, List.pairwise_append.2 ⟨hsep, h'.sep, fun e he e' he' _ b hb1 hb2 => ?_⟩⟩
  · rcases List.mem_append.1 he with he | he
    · exact hok e he
    · exact h'.ok e he
  · rcases List.mem_append.1 he with he | he
    · exact Nat.le_trans h.below.size (hnew e he b hbf)
    · exact h'.new e he hx b hbf
  · have := hnew e he b hb1
    have := Ent.ok_lt (h.ok e' he') hb2
    omega

/-- One exclusive entry is turned into another over its own blocks and new ones. -/
theorem St.turn {w0 w w' : World} {M : List Ent} {e e' : Ent} (h : St w0 w (e :: M)) (hx : e.excl = true) (hbl : ∀ k, k < w.heap.size → ¬ e.fp k → w'.heap[k]? = w.heap[k]?)
    (hos : w'.os = w.os) (htape : w'.tape = w.tape) (hout : w'.output = w.output) (hsz : w.heap.size ≤ w'.heap.size) (hok : e'.ok w') (hfp : ∀ k, e'.fp k → e.fp k ∨ w.heap.size ≤ k) : St w0 w' (e' :: M) := by
  have hap := (List.pairwise_cons.1 h.sep).1
  have hfr : ∀ x ∈ M, x.ok w' := fun x hxm => Ent.ok_frame (h.ok x (by simp [hxm])) fun b hb =>
    hbl b (Ent.ok_lt (h.ok x (by simp [hxm])) hb) fun hb' => hap x hxm (.inl hx) b hb' hb
  refine ⟨h.below.trans ⟨hos, htape, hout, hsz, fun k hk => hbl k (Nat.lt_of_lt_of_le hk h.below.size) fun hk' => ?_⟩, fun x hxm => ?_, fun x hxm hxx b hb => ?_, List.pairwise_cons.2 ⟨fun x hxm _ b hb hb' => ?_, (List.pairwise_cons.1 h.sep).2⟩⟩
  · have := h.new e (by simp) (Ent.fresh_of_excl hx) k hk'
    omega
  · rcases List.mem_cons.1 hxm with rfl | hxm
    · exact hok
    · exact hfr x hxm
  · rcases List.mem_cons.1 hxm with rfl | hxm
    · rcases hfp b hb with hb | hb
      · exact h.new e (by simp) (Ent.fresh_of_excl hx) b hb
      · exact Nat.le_trans h.below.size hb
    · exact h.new x (by simp [hxm]) hxx b hb
  · rcases hfp b hb with hb | hb
    · exact hap x hxm (.inl hx) b hb hb'
    · have := Ent.ok_lt (h.ok x (by simp [hxm])) hb'
      omega

theorem St.alloc {w0 w : World} {L : List Ent} (h : St w0 w L) (T : TypeId) (cs : Array Value) : St w0 (w.alloc (.cells cs T)) (.blk w.heap.size T cs.toList :: L) := by
  refine St.add (M := [_]) h ((Below.refl _ w).alloc (Nat.le_refl _) _) (fun e he => ?_) (fun e he b hb => ?_) (List.pairwise_singleton _ _)
  · simp only [List.mem_singleton] at he; subst he
    show (w.alloc _).heap[w.heap.size]? = _
    rw [heap_alloc_new]
  · simp only [List.mem_singleton] at he; subst he
    have : b = w.heap.size := hb
    omega

theorem St.cell {w0 w : World} {L M : List Ent} {b : Nat} {T : TypeId} {cs : List Value} (h : St w0 w L) (ha : At L (.blk b T cs) M) (i : Nat) : w.cell? ⟨b, i, none⟩ = cs[i]? := by
  rw [cell_of_row w b i _ T (0, 0) (h.ok _ ha.mem)]; simp

theorem St.notFrozen {w0 w : World} {L M : List Ent} {b : Nat} {T : TypeId} {cs : List Value} (h : St w0 w L) (ha : At L (.blk b T cs) M) (i : Nat) : w.frozen? ⟨b, i, none⟩ = false :=
  frozen_of_row w b i _ T (h.ok _ ha.mem)

theorem St.setCell {w0 w : World} {M : List Ent} {b : Nat} {T : TypeId} {cs : List Value} (h : St w0 w (.blk b T cs :: M)) (i : Nat) (v : Value) : St w0 (w.setCell ⟨b, i, none⟩ v) (.blk b T (cs.set i v) :: M) := by
  have hb := h.ok (.blk b T cs) (by simp)
  refine h.turn rfl (fun k _ hk => heap_setCell_other w _ k v fun e => hk e) rfl rfl rfl (by simp) ?_ (fun k hk => .inl hk)
  show (w.setCell _ v).heap[b]? = _
  rw [heap_setCell_same w b i cs.toArray T v hb]
  simp

theorem St.init (w : World) : St w w [] := ⟨Below.refl _ w, fun e he => (by cases he), fun e he => (by cases he), List.Pairwise.nil⟩

/-- An entry that nobody owns, and that may lie anywhere, beside entries that nobody owns. -/
theorem St.share {w0 w : World} {L : List Ent} (h : St w0 w L) {e : Ent} (ho : e.ok w) (hx : e.excl = false) (hf : e.fresh = false) (hl : L.all (fun x => !x.excl) = true) : St w0 w (e :: L) := by
  refine ⟨h.below, fun x hxm => ?_, fun x hxm hxx b hb => ?_, List.pairwise_cons.2 ⟨fun x hxm hor => ?_, h.sep⟩⟩
  · rcases List.mem_cons.1 hxm with rfl | hxm
    · exact ho
    · exact h.ok x hxm
  · rcases List.mem_cons.1 hxm with rfl | hxm
    · rw [hf] at hxx; cases hxx
    · exact h.new x hxm hxx b hb
  · have := List.all_eq_true.1 hl x hxm
    rcases hor with hor | hor
    · rw [hx] at hor; cases hor
    · rw [hor] at this; cases this

theorem St.join {w0 w w' : World} {L M : List Ent} (h : St w0 w L) (h' : St w w' M) (hf : M.all Ent.fresh = true) : St w0 w' (M ++ L) :=
  h.add h'.below h'.ok (fun e he b hb => h'.new e he (List.all_eq_true.1 hf e he) b hb) h'.sep

/-- Each entry holds, whatever lies beside. -/
def OkL (w : World) (L : List Ent) : Prop := ∀ e ∈ L, e.ok w
theorem OkL.get {w : World} {L : List Ent} (h : OkL w L) {A : Option Addr} {size n : Nat} {es : List (List Value)} (hr : Rds L A size n es) : Rd w A size n es := hr.at_ h
theorem OkL.cell {w : World} {L M : List Ent} {b : Nat} {T : TypeId} {cs : List Value} (h : OkL w L) (ha : At L (.blk b T cs) M) (i : Nat) : w.cell? ⟨b, i, none⟩ = cs[i]? := by
  rw [cell_of_row w b i _ T (0, 0) (h _ ha.mem)]; simp

end Go.Proofs.Ytacaojifempclaa
