/- Slices of numbers that begin anywhere in a row of one's own; plain laws, no program is named here. -/
import Derived.Test.YtjkoaifjmcgpfaaWJ
import Derived.ArgAppend
namespace Go.Proofs.Ytjkoaifjmcgpfaa
open Go Go.RowKit

def enI (xs : List Int) : List (List Value) := xs.map fun x => [vI x]
theorem enI_len (xs : List Int) : (enI xs).length = xs.length := by simp [enI]
theorem enI_at {xs : List Int} {k : Nat} {x : Int} (h : xs[k]? = some x) : (enI xs)[k]? = some [.int .i64 x] := by simp [enI, h, vI]
theorem enI_app (xs : List Int) (x : Int) : enI xs ++ [[.int .i64 x]] = enI (xs ++ [x]) := by simp [enI, vI]
theorem enI_app2 (xs ys : List Int) : enI xs ++ enI ys = enI (xs ++ ys) := by simp [enI]
theorem enI_set (xs : List Int) (k : Nat) (x : Int) : (enI xs).set k [.int .i64 x] = enI (xs.set k x) := by simp [enI, vI, List.map_set]
theorem enI_rep (n : Nat) (x : Int) : List.replicate n [Value.int .i64 x] = enI (List.replicate n x) := by simp [enI, vI]

theorem enI_flat : ∀ ws : List Int, (enI ws).flatten = ws.map vI
  | [] => rfl
  | x :: xs => by
    have := enI_flat xs
    simp only [enI, List.map_cons, List.flatten_cons] at this ⊢
    rw [this]; rfl

def wtFp (A : Option Addr) (b : Nat) : Prop := ∃ ad, A = some ad ∧ ad.block = b
def wtOk (T : TypeId) (A : Option Addr) (n cap : Nat) (ws : List Int) (w : World) : Prop :=
  ws.length = n ∧ ((A = none ∧ n = 0 ∧ cap = 0) ∨ ∃ (g : Nat) (pre sp : List Value), A = some ⟨g, pre.length, none⟩ ∧ w.heap[g]? = some (.cells (pre ++ (ws.map vI ++ sp)).toArray T (0, 0)) ∧ n ≤ cap ∧ cap ≤ n + sp.length ∧ cap ≤ 9223372036854775807)
theorem wtOk_frame {T : TypeId} {A : Option Addr} {n cap : Nat} {ws : List Int} (w w' : World) (hf : ∀ b, wtFp A b → w'.heap[b]? = w.heap[b]?) (h : wtOk T A n cap ws w) : wtOk T A n cap ws w' := by
  obtain ⟨h1, h2⟩ := h
  refine ⟨h1, ?_⟩
  rcases h2 with h2 | ⟨g, pre, sp, rfl, hg, r⟩
  · exact .inl h2
  · exact .inr ⟨g, pre, sp, rfl, by rw [hf g ⟨_, rfl, rfl⟩]; exact hg, r⟩
theorem wtOk_lt {T : TypeId} {A : Option Addr} {n cap : Nat} {ws : List Int} (w : World) (b : Nat) (h : wtOk T A n cap ws w) (hb : wtFp A b) : b < w.heap.size := by
  obtain ⟨ad, rfl, rfl⟩ := hb
  rcases h.2 with ⟨h0, _⟩ | ⟨g, pre, sp, h0, hg, _⟩
  · cases h0
  · injection h0 with h0; subst h0; exact heap_lt hg
/-- A slice of numbers whose row is one's own, wherever it begins in it. -/
def wtE (T : TypeId) (A : Option Addr) (n cap : Nat) (ws : List Int) : Ent := .gen true true (wtFp A) (wtOk T A n cap ws) wtOk_frame wtOk_lt

theorem rd_wt {T : TypeId} {A : Option Addr} {n cap : Nat} {ws : List Int} (w : World) (h : (wtE T A n cap ws).ok w) : Rd w A 1 n (enI ws) := by
  obtain ⟨h1, h2⟩ := h
  refine ⟨by rw [enI_len]; exact h1, fun c hc => ?_, fun hn => ?_, fun ad ha k cs hk j v hj => ?_, fun c hc v hv => ?_⟩
  · obtain ⟨x, _, rfl⟩ := List.mem_map.1 hc; rfl
  · rcases h2 with ⟨_, h0, _⟩ | ⟨g, pre, sp, rfl, _⟩
    · omega
    · exact ⟨_, rfl⟩
  · rcases h2 with ⟨h0, _⟩ | ⟨g, pre, sp, h0, hg, _⟩
    · rw [ha] at h0; cases h0
    · rw [ha] at h0
      injection h0 with h0; subst h0
      have hk' : (ws.map fun x => [vI x])[k]? = some cs := hk
      rw [List.getElem?_map] at hk'
      cases hw : ws[k]? with
      | none => rw [hw] at hk'; cases hk'
      | some x =>
        rw [hw] at hk'
        simp only [Option.map_some, Option.some.injEq] at hk'
        subst hk'
        have hj0 : j = 0 := by
          have := (List.getElem?_eq_some_iff.1 hj).1
          simp at this; exact this
        subst hj0
        simp only [List.getElem?_cons_zero, Option.some.injEq] at hj
        subst hj
        have hkl : k < ws.length := (List.getElem?_eq_some_iff.1 hw).1
        rw [add_lit, cell_of_row w g _ _ T (0, 0) hg]
        have e : pre.length + (k * 1 + 0) = pre.length + k := by omega
        rw [e]
        simp only [List.getElem?_toArray]
        rw [List.getElem?_append_right (by omega), Nat.add_sub_cancel_left, List.getElem?_append_left (by simpa using hkl), List.getElem?_map, hw]
        rfl
  · obtain ⟨x, _, rfl⟩ := List.mem_map.1 hc
    simp only [List.mem_singleton] at hv
    subst hv; rfl

section
variable {w0 w : World} {M : List Ent} {T : TypeId} {A : Option Addr} {n cap : Nat} {ws : List Int}
theorem St.wtNil {L : List Ent} (h : St w0 w L) (T : TypeId) : St w0 w (wtE T none 0 0 [] :: L) := by
  refine St.add (M := [_]) h (Below.refl _ _) (fun e he => ?_) (fun e he b hb' => ?_) (List.pairwise_singleton _ _)
  · simp only [List.mem_singleton] at he; subst he; exact ⟨rfl, .inl ⟨rfl, rfl, rfl⟩⟩
  · simp only [List.mem_singleton] at he; subst he; obtain ⟨ad, had, _⟩ := hb'; cases had
/-- One entry says another thing of the same blocks, or of fewer. -/
theorem St.alike {e e' : Ent} (h : St w0 w (e :: M)) (hx : e.excl = true) (hok : e'.ok w) (hfp : ∀ k, e'.fp k → e.fp k) : St w0 w (e' :: M) :=
  h.turn hx (fun _ _ _ => rfl) rfl rfl rfl (Nat.le_refl _) hok (fun k hk => .inl (hfp k hk))
theorem St.wtShut {g : Nat} {pre sp : List Value} (h : St w0 w (.blk g T (pre ++ (ws.map vI ++ sp)) :: M)) (hn : ws.length = n) (h1 : n ≤ cap) (h2 : cap ≤ n + sp.length) (h3 : cap ≤ 9223372036854775807) : St w0 w (wtE T (some ⟨g, pre.length, none⟩) n cap ws :: M) :=
  h.alike rfl ⟨hn, .inr ⟨g, pre, sp, rfl, h.ok (.blk g T _) (by simp), h1, h2, h3⟩⟩ (fun k hk => by obtain ⟨ad, had, rfl⟩ := hk; injection had with had; subst had; rfl)
theorem St.wtOpen (h : St w0 w (wtE T A n cap ws :: M)) : (A = none ∧ n = 0 ∧ cap = 0 ∧ ws = []) ∨ ∃ (g : Nat) (pre sp : List Value), A = some ⟨g, pre.length, none⟩ ∧ ws.length = n ∧ n ≤ cap ∧ cap ≤ n + sp.length ∧ cap ≤ 9223372036854775807 ∧ St w0 w (.blk g T (pre ++ (ws.map vI ++ sp)) :: M) := by
  obtain ⟨h1, h2⟩ := h.ok (wtE T A n cap ws) (by simp)
  rcases h2 with ⟨rfl, h2, h3⟩ | ⟨g, pre, sp, rfl, hg, h3, h4, h5⟩
  · exact .inl ⟨rfl, h2, h3, List.eq_nil_of_length_eq_zero (by omega)⟩
  · exact .inr ⟨g, pre, sp, rfl, h1, h3, h4, h5, h.alike rfl hg (fun k hk => ⟨_, rfl, (show k = g from hk).symm⟩)⟩
/-- A row of numbers of one's own is such a slice. -/
theorem St.ownWt (h : St w0 w (.own A cap T 1 n (enI ws) :: M)) : St w0 w (wtE T A n cap ws :: M) := by
  have hroom := h.room
  obtain ⟨hown, hrd⟩ := h.ok (.own A cap T 1 n (enI ws)) (by simp)
  have hlen : ws.length = n := by have := hrd.len; rwa [enI_len] at this
  rw [enI_flat] at hown
  refine h.alike rfl ⟨hlen, ?_⟩ (fun k hk => hk)
  rcases hown.2 with ⟨hv, h0⟩ | ⟨g, cap', cur, hv, _, hg, g1, g2, g3, g4⟩
  · injection hv with e1 e2 e3; exact .inl ⟨e1, h0, e3⟩
  · injection hv with e1 e2 e3
    subst e1 e3
    right
    rw [Nat.mul_one] at g3 g4
    have hcur : cur = ([] ++ (ws.map vI ++ cur.toList.drop n)).toArray := by
      rw [List.nil_append, ← g4, List.take_append_drop]
    refine ⟨g, [], cur.toList.drop n, rfl, by rw [hg, ← hcur], hroom.1, ?_, hroom.2⟩
    rw [List.length_drop]
    have : cur.toList.length = cap := by simpa using g3
    omega
/-- The slice behind its first elements. -/
theorem St.wtDrop (h : St w0 w (wtE T A n cap ws :: M)) (lo : Nat) (hlo : lo ≤ n) : St w0 w (wtE T (if cap = lo then A else A.map (·.add (lo * 1))) (n - lo) (cap - lo) (ws.drop lo) :: M) := by
  obtain ⟨h1, h2⟩ := h.ok (wtE T A n cap ws) (by simp)
  rcases h2 with ⟨rfl, h2, h3⟩ | ⟨g, pre, sp, rfl, hg, h3, h4, h5⟩
  · refine h.alike rfl ⟨by simp [h1], .inl ⟨by split <;> rfl, by omega, by omega⟩⟩ (fun k hk => ?_)
    obtain ⟨ad, had, _⟩ := hk
    split at had <;> cases had
  · by_cases hc : cap = lo
    · rw [if_pos hc]
      have hl0 : lo = n := by omega
      refine h.alike rfl ⟨by simp [h1], .inr ⟨g, pre, ws.map vI ++ sp, rfl, ?_, by omega, by omega, by omega⟩⟩ (fun k hk => hk)
      rw [List.drop_of_length_le (by omega)]
      simpa using hg
    · rw [if_neg hc]
      have e : (some (⟨g, pre.length, none⟩ : Addr)).map (·.add (lo * 1)) = some ⟨g, (pre ++ (ws.take lo).map vI).length, none⟩ := by
        rw [Option.map_some, add_lit, Nat.mul_one, List.length_append, List.length_map, List.length_take, Nat.min_eq_left (by omega)]
      rw [e]
      refine h.alike rfl ⟨by simp [h1], .inr ⟨g, pre ++ (ws.take lo).map vI, sp, rfl, ?_, by omega, by omega, by omega⟩⟩ (fun k hk => by
        obtain ⟨ad, had, rfl⟩ := hk
        injection had with had; subst had
        exact ⟨_, rfl, rfl⟩)
      have hd : (ws.drop lo).map vI ++ sp = (ws.drop lo).map vI ++ sp := rfl
      rw [hg]
      congr 2
      rw [List.append_assoc, ← List.append_assoc ((ws.take lo).map vI), ← List.map_append, List.take_append_drop]
end

section
variable {P : Program}
theorem run_appendW {w0 w : World} {M : List Ent} (t ty T : TypeId) {agg : Bool} {size bytes : Nat} {z : Value} {zl : List Value} (ht : P.underlying t = some (.slice T)) (hE : Ty P T agg size bytes z zl) (hs1 : size = 1)
    {A A2 : Option Addr} {cap m k c : Nat} {ws xs : List Int} (hst : St w0 w (wtE T A m cap ws :: M)) (hr : Rd w A2 1 k (enI xs)) (hb : (m + k) * bytes ≤ 140737488355328) (hlm : m + k ≤ 9223372036854775807) :
    ∃ A' c' w', (Builtin.append_ #[t, t] ty #[.slice A m cap, .slice A2 k c]).run P w = .ok (.slice A' (m + k) c') w' ∧ St w0 w' (wtE T A' (m + k) c' (ws ++ xs) :: M) := by
  subst hs1
  have hxl : xs.length = k := by have := hr.len; rwa [enI_len] at this
  cases A2 with
  | none =>
    have hk : k = 0 := by
      rcases Nat.eq_zero_or_pos k with h | h
      · exact h
      · obtain ⟨ad, h⟩ := hr.some_ h; cases h
    subst hk
    have hx0 : xs = [] := List.eq_nil_of_length_eq_zero hxl
    subst hx0
    refine ⟨A, cap, w, ?_, by simpa using hst⟩
    rcases hst.wtOpen with ⟨rfl, rfl, rfl, rfl⟩ | ⟨g, pre, sp, rfl, _, h3, _, _, _⟩
    · simp [Builtin.append_, run_underlying ht, run_sizeOf hE, Builtin.lenOf, Builtin.firstCells]
    · simp [Builtin.append_, run_underlying ht, run_sizeOf hE, Builtin.lenOf, Builtin.firstCells, h3, storeCells]
  | some a =>
    obtain ⟨i, hi, h1, h2, h3⟩ := ty_info hE
    have hnews : ∀ j u, (xs.map vI)[j]? = some u → w.cell? (a.add j) = some u := fun j u hj => by
      rw [List.getElem?_map] at hj
      cases hx : xs[j]? with
      | none => rw [hx] at hj; cases hj
      | some x =>
        rw [hx] at hj
        simp only [Option.map_some, Option.some.injEq] at hj
        subst hj
        have := hr.cell a rfl j [vI x] (by simp [enI, hx]) 0 (vI x) rfl
        simpa using this
    have hone : ∀ u ∈ xs.map vI, u.oneCell' = true := fun u hu => by
      obtain ⟨x, _, rfl⟩ := List.mem_map.1 hu; rfl
    rcases hst.wtOpen with ⟨rfl, rfl, rfl, rfl⟩ | ⟨g, pre, sp, rfl, hwl, q3, q4, q5, hblk⟩
    · have hown : St w0 w (.own none 0 T 1 0 [] :: M) := by
        refine St.add (M := [_]) hst.tail (Below.refl _ _) (fun e he => ?_) (fun e he b hb' => ?_) (List.pairwise_singleton _ _)
        · simp only [List.mem_singleton] at he; subst he; exact ⟨World.ownsRow_nil w 0 T 1, Rd.nil w none 1⟩
        · simp only [List.mem_singleton] at he; subst he; obtain ⟨ad, had, _⟩ := hb'; cases had
      obtain ⟨A', c', w', hrun, hs⟩ := run_appendB (P := P) t ty T ht hE (c := c) hown hr (by omega) hb hlm
      refine ⟨A', c', w', hrun, ?_⟩
      rw [List.nil_append] at hs ⊢
      exact hs.ownWt
    · by_cases hroom : m + k ≤ cap
      · have hfc := run_firstCells_some (P := P) w 1 k a k c (xs.map vI) (by simp [hxl]) hnews
        obtain ⟨w', hrs, hs⟩ := run_storeCells (P := P) (xs.map vI) (pre ++ (ws.map vI ++ sp)) (pre.length + m) 0 w hblk (fun _ => by simp; omega) hone
        rw [Nat.add_zero] at hs
        have hput : putAll (pre ++ (ws.map vI ++ sp)) (pre.length + m) (xs.map vI) = pre ++ ((ws ++ xs).map vI ++ sp.drop k) := by
          have hsp : sp = sp.take k ++ sp.drop k := (List.take_append_drop ..).symm
          have hmid := putAll_mid (xs.map vI) (pre ++ ws.map vI) (sp.take k) (sp.drop k) (by simp; omega)
          rw [List.length_append, List.length_map, hwl] at hmid
          calc putAll (pre ++ (ws.map vI ++ sp)) (pre.length + m) (xs.map vI) = putAll (pre ++ ws.map vI ++ (sp.take k ++ sp.drop k)) (pre.length + m) (xs.map vI) := by rw [← hsp, List.append_assoc]
            _ = _ := by rw [hmid]; simp
        rw [hput] at hs
        refine ⟨some ⟨g, pre.length, none⟩, cap, w', ?_, hs.wtShut (by simp [hwl, hxl]) hroom (by rw [List.length_drop]; omega) q5⟩
        have hle : m + k ≤ cap := hroom
        simp [Builtin.append_, run_underlying ht, run_sizeOf hE, Builtin.lenOf, hle, hfc, Addr.add_lit, hrs]
      · have hheap := hblk.ok (.blk g T (pre ++ (ws.map vI ++ sp))) (by simp)
        have hzs : z.cells.size = 1 := by rw [hE.zc]; simpa using hE.zs
        obtain ⟨v', w', hrun, hown', hgrow⟩ := run_append_arg_grows (P := P) w t ty T i z 1 bytes ht hi h3 h1 h2 hzs (by omega) ⟨g, pre.length, none⟩ m cap (ws.map vI) (by simp [hwl]) (fun j u hj => by
            rw [add_lit, cell_of_row w g _ _ T (0, 0) hheap]
            simp only [List.getElem?_toArray]
            have hjl := (List.getElem?_eq_some_iff.1 hj).1
            rw [List.getElem?_append_right (by omega), Nat.add_sub_cancel_left, List.getElem?_append_left hjl]
            exact hj) a k c (xs.map vI) (by simp [hxl]) hnews (by omega) (by simp only [maxLen]; omega) hb
        rw [← List.map_append] at hown'
        rcases hown'.2 with ⟨hv, h0⟩ | ⟨g', cap', cur, hv, hbase, hg', g1, g2, g3, g4⟩
        · refine ⟨none, 0, w', by rw [hrun, hv, h0], ?_⟩
          have hm0 : m = 0 := by omega
          refine hst.turn rfl (fun q hq _ => hgrow.block q hq (by simp)) hgrow.os hgrow.tape hgrow.output hgrow.size ⟨by simp [hwl, hxl], .inl ⟨rfl, h0, rfl⟩⟩ (fun q hq => ?_)
          obtain ⟨ad, had, _⟩ := hq; cases had
        · refine ⟨some ⟨g', 0, none⟩, cap', w', by rw [hrun, hv], ?_⟩
          rw [Nat.mul_one] at g3 g4
          have hcur : cur = ([] ++ ((ws ++ xs).map vI ++ cur.toList.drop (m + k))).toArray := by
            rw [List.nil_append, ← g4, List.take_append_drop]
          refine hst.turn rfl (fun q hq _ => hgrow.block q hq (by simp)) hgrow.os hgrow.tape hgrow.output hgrow.size ⟨by simp [hwl, hxl], .inr ⟨g', [], cur.toList.drop (m + k), rfl, by rw [hg', ← hcur], g1, ?_, by simpa [maxLen] using g2⟩⟩ (fun q hq => ?_)
          · rw [List.length_drop]
            have : cur.toList.length = cap' := by simpa using g3
            omega
          · obtain ⟨ad, had, rfl⟩ := hq
            injection had with had; subst had
            exact .inr hbase
end

section rules
variable {F : Fence} {P : Program} {ops : Array Oper} {Q : Exit → Act → World → Prop} {rest : List Oper} {n : Nat} {D : List Deferred} {l : Env} {w0 : World} {L M : List Ent}
variable {d : Nat} {ty : TypeId} {pos : String} {aft : Array Edge}
theorem apW {s x : Operand} {t T : TypeId} (hT : SliceTy P t T := by infer_instance) {agg : Bool} {size bytes : Nat} {z : Value} {zl : List Value} (hE : Ty P T agg size bytes z zl := by infer_instance) (hs1 : size = 1 := by rfl) {A A2 : Option Addr} {c c2 m k : Nat} {ws xs : List Int}
    (ha : At L (wtE T A m c ws) M) (hr : Rds M A2 1 k (enI xs)) (hs : ev l s = some (.slice A m c) := by exact rfl) (hx : ev l x = some (.slice A2 k c2) := by exact rfl)
    (hb : (m + k) * bytes ≤ 140737488355328 := by omega) (hlm : m + k ≤ 9223372036854775807 := by omega) (hd : Nat.blt d n = true := by rfl)
    (h : ∀ A' c', WL F P ops Q rest n D ((d, .slice A' (m + k) c') :: l) w0 (wtE T A' (m + k) c' (ws ++ xs) :: M)) :
    WL F P ops Q (⟨some d, .call { callee := .builtin .append, args := #[s, x], argTypes := #[t, t] }, ty, pos, aft, none⟩ :: rest) n D l w0 L :=
  WL.value (X := Option Addr × Nat) (φ := fun _ => True) (val := fun p => .slice p.1 (m + k) p.2) (L' := fun p => wtE T p.1 (m + k) p.2 (ws ++ xs) :: M) (by simp) hd (fun ac w hfr hst => by
    have hp := hst.pull ha
    obtain ⟨A', c', w', hrun, hst'⟩ := run_appendW (P := P) t ty T hT.und hE hs1 (c := c2) hp (hp.tail.get hr) hb hlm
    refine ⟨(A', c'), w', trivial, ?_, hst'⟩
    simp [execOp, resolve, invoke, builtin, hfr.eval hs, hfr.eval hx, hrun]) (fun p _ => h p.1 p.2)
/-- What is laid over itself stays. -/
theorem putAll_self : ∀ (vs cs : List Value) (o : Nat), (∀ j v, vs[j]? = some v → cs[o + j]? = some v) → putAll cs o vs = cs
  | [], _, _, _ => rfl
  | v :: vs, cs, o, h => by
    have h0 := h 0 v rfl
    have hset : cs.set o v = cs := by
      refine List.ext_getElem? fun i => ?_
      rw [List.getElem?_set]
      by_cases e : o = i
      · subst e
        have hl := (List.getElem?_eq_some_iff.1 h0).1
        simp only [if_true, Nat.add_zero] at h0 hl ⊢
        rw [if_pos hl, h0]
      · rw [if_neg e]
    rw [putAll, hset]
    exact putAll_self vs cs (o + 1) fun j u hj => by
      have := h (j + 1) u (by simpa using hj)
      rwa [show o + (j + 1) = o + 1 + j by omega] at this
/-- 'append(s[:k], s[k:m]...)' changes nothing: the cells are laid over themselves. -/
theorem apSelf {s x : Operand} {t T : TypeId} (hT : SliceTy P t T := by infer_instance) {agg : Bool} {size bytes : Nat} {z : Value} {zl : List Value} (hE : Ty P T agg size bytes z zl := by infer_instance) (hs1 : size = 1 := by rfl) {A2 : Option Addr} {g o c c2 m k : Nat} {cs news : List Value}
    (ha : At L (.blk g T cs) M) (hA2 : k = 0 ∨ A2 = some ⟨g, o + m, none⟩) (hl : news.length = k) (hnews : ∀ j v, news[j]? = some v → cs[o + m + j]? = some v) (hone : ∀ v ∈ news, v.oneCell' = true) (hroom : m + k ≤ c) (hs : ev l s = some (.slice (some ⟨g, o, none⟩) m c) := by exact rfl) (hx : ev l x = some (.slice A2 k c2) := by exact rfl)
    (hd : Nat.blt d n = true := by rfl)
    (h : WL F P ops Q rest n D ((d, .slice (some ⟨g, o, none⟩) (m + k) c) :: l) w0 (.blk g T cs :: M)) :
    WL F P ops Q (⟨some d, .call { callee := .builtin .append, args := #[s, x], argTypes := #[t, t] }, ty, pos, aft, none⟩ :: rest) n D l w0 L :=
  WL.value (X := Unit) (φ := fun _ => True) (val := fun _ => .slice (some ⟨g, o, none⟩) (m + k) c) (L' := fun _ => .blk g T cs :: M) (by simp) hd (fun ac w hfr hst => by
    have hp := hst.pull ha
    subst hs1
    rcases hA2 with rfl | rfl
    · refine ⟨(), w, trivial, ?_, hp⟩
      have hm : m ≤ c := by omega
      have hfc : (Builtin.firstCells 1 0 (.slice A2 0 c2)).run P w = .ok #[] w := by
        cases A2 with
        | none => simp [Builtin.firstCells]
        | some a => exact run_firstCells_some (P := P) w 1 0 a 0 c2 [] rfl (fun j v hj => by simp at hj)
      simp [execOp, resolve, invoke, builtin, hfr.eval hs, hfr.eval hx, Builtin.append_, run_underlying hT.und, run_sizeOf hE, Builtin.lenOf, hm, hfc, storeCells]
    · have hcell : ∀ j v, news[j]? = some v → w.cell? ((⟨g, o + m, none⟩ : Addr).add j) = some v := fun j v hj => by
        rw [add_lit, hp.cell .here]; exact hnews j v hj
      have hfc := run_firstCells_some (P := P) w 1 k ⟨g, o + m, none⟩ k c2 news (by simpa using hl) hcell
      have hlen : news ≠ [] → o + m + 0 + news.length ≤ cs.length := fun hne => by
        have hpos : 0 < news.length := List.length_pos_iff.2 hne
        have := hnews (news.length - 1) news[news.length - 1] (List.getElem?_eq_getElem (by omega))
        have := (List.getElem?_eq_some_iff.1 this).1
        omega
      obtain ⟨w', hrs, hs'⟩ := run_storeCells (P := P) news cs (o + m) 0 w hp hlen hone
      rw [Nat.add_zero, putAll_self news cs (o + m) hnews] at hs'
      refine ⟨(), w', trivial, ?_, hs'⟩
      simp [execOp, resolve, invoke, builtin, hfr.eval hs, hfr.eval hx, Builtin.append_, run_underlying hT.und, run_sizeOf hE, Builtin.lenOf, hroom, hfc, Addr.add_lit, hrs]) (fun _ _ => h)
/-- clear of a part of a row. -/
theorem clrB {x : Operand} {t T : TypeId} (hT : SliceTy P t T := by infer_instance) {bytes : Nat} {z : Value} {zl : List Value} (hE : Ty P T false 1 bytes z zl := by infer_instance) (h1 : z.oneCell' = true := by rfl) {g o m c : Nat} {cs : List Value}
    (ha : At L (.blk g T cs) M) (hm : 0 < m) (hl : o + m ≤ cs.length) (hx : ev l x = some (.slice (some ⟨g, o, none⟩) m c) := by exact rfl)
    (h : WL F P ops Q rest n D l w0 (.blk g T (putAll cs o (List.replicate m z)) :: M)) : WL F P ops Q (⟨none, .call { callee := .builtin .clear, args := #[x], argTypes := #[t] }, ty, pos, aft, none⟩ :: rest) n D l w0 L := by
  intro hF a w hfr hst
  have hp := hst.pull ha
  have hc : z.cells = #[z] := by cases z <;> simp [Value.oneCell'] at h1 <;> rfl
  have hcell : ∀ j, j < m → (w.cell? ⟨g, o + j, none⟩).isSome = true := fun j hj => by
    rw [hp.cell .here, List.getElem?_eq_getElem (by omega)]; rfl
  have hrun := Lib.run_clear_slice (P := P) w t T ty z hT.und (fun w => run_zeroValue hE w) hc h1 g o m c hm hcell (fun j _ => hp.notFrozen .here (o + j))
  have hset : ∀ (r k : Nat) (w : World) (cs : List Value), St w0 w (.blk g T cs :: M) → St w0 (w.setCells g k (List.replicate r z)) (.blk g T (putAll cs k (List.replicate r z)) :: M) := by
    intro r
    induction r with
    | zero => intro k w cs h; exact h
    | succ r ih => intro k w cs h; exact ih (k + 1) _ _ (h.setCell k z)
  show (if _ then _ else _)
  rw [if_pos (by simp [Region.wanted])]
  refine ⟨fun f _ => hF.fn f, ?_⟩
  have hr : (execOp a.eval ⟨none, .call { callee := .builtin .clear, args := #[x], argTypes := #[t] }, ty, pos, aft, none⟩).run P w = .ok (.value (.tuple #[])) (w.setCells g o (List.replicate m z)) := by
    simp [execOp, resolve, invoke, builtin, hfr.eval hx, hrun]
  rw [semAt_plain (by simp), hr]
  exact h hF _ _ (hfr.put_none _) (hset m o w cs hp)
/-- clear of nothing. -/
theorem clr0 {x : Operand} {t T : TypeId} (hT : SliceTy P t T := by infer_instance) {bytes : Nat} {z : Value} {zl : List Value} (hE : Ty P T false 1 bytes z zl := by infer_instance) {A : Option Addr} {c : Nat}
    (hx : ev l x = some (.slice A 0 c) := by exact rfl) (h : WL F P ops Q rest n D l w0 L) : WL F P ops Q (⟨none, .call { callee := .builtin .clear, args := #[x], argTypes := #[t] }, ty, pos, aft, none⟩ :: rest) n D l w0 L := by
  intro hF a w hfr hst
  show (if _ then _ else _)
  rw [if_pos (by simp [Region.wanted])]
  refine ⟨fun f _ => hF.fn f, ?_⟩
  have hr : (execOp a.eval ⟨none, .call { callee := .builtin .clear, args := #[x], argTypes := #[t] }, ty, pos, aft, none⟩).run P w = .ok (.value (.tuple #[])) w := by
    have hcl : (Builtin.clear_ #[t] ty #[.slice A 0 c]).run P w = .ok (.tuple #[]) w := by
      cases A <;> simp [Builtin.clear_, run_underlying hT.und]
    simp [execOp, resolve, invoke, builtin, hfr.eval hx, hcl]
  rw [semAt_plain (by simp), hr]
  exact h hF _ _ (hfr.put_none _) hst
theorem WC.wtDrop {c : Code} {T : TypeId} {A : Option Addr} {m cap : Nat} {ws : List Int} (ha : At L (wtE T A m cap ws) M) (lo : Nat) (hlo : lo ≤ m) (h : WC F P c Q n D l w0 (wtE T (if cap = lo then A else A.map (·.add (lo * 1))) (m - lo) (cap - lo) (ws.drop lo) :: M)) : WC F P c Q n D l w0 L :=
  fun hF a w hfr hst => h hF a w hfr ((hst.pull ha).wtDrop lo hlo)
theorem WL.wtDrop {T : TypeId} {A : Option Addr} {m cap : Nat} {ws : List Int} (ha : At L (wtE T A m cap ws) M) (lo : Nat) (hlo : lo ≤ m) (h : WL F P ops Q rest n D l w0 (wtE T (if cap = lo then A else A.map (·.add (lo * 1))) (m - lo) (cap - lo) (ws.drop lo) :: M)) : WL F P ops Q rest n D l w0 L :=
  fun hF a w hfr hst => h hF a w hfr ((hst.pull ha).wtDrop lo hlo)
theorem WC.wtNil {c : Code} (T : TypeId) (h : WC F P c Q n D l w0 (wtE T none 0 0 [] :: L)) : WC F P c Q n D l w0 L := fun hF a w hfr hst => h hF a w hfr (hst.wtNil T)
theorem WL.wtNil (T : TypeId) (h : WL F P ops Q rest n D l w0 (wtE T none 0 0 [] :: L)) : WL F P ops Q rest n D l w0 L := fun hF a w hfr hst => h hF a w hfr (hst.wtNil T)
theorem WC.wtOpen {c : Code} {T : TypeId} {A : Option Addr} {m cap : Nat} {ws : List Int} (ha : At L (wtE T A m cap ws) M) (h0 : A = none → m = 0 → cap = 0 → ws = [] → WC F P c Q n D l w0 M)
    (h1 : ∀ (g : Nat) (pre sp : List Value), A = some ⟨g, pre.length, none⟩ → ws.length = m → m ≤ cap → cap ≤ m + sp.length → cap ≤ 9223372036854775807 → WC F P c Q n D l w0 (.blk g T (pre ++ (ws.map vI ++ sp)) :: M)) : WC F P c Q n D l w0 L := fun hF a w hfr hst => by
  have hp := hst.pull ha
  rcases hp.wtOpen with ⟨e1, e2, e3, e4⟩ | ⟨g, pre, sp, e1, e2, e3, e4, e5, hs⟩
  · exact h0 e1 e2 e3 e4 hF a w hfr hp.tail
  · exact h1 g pre sp e1 e2 e3 e4 e5 hF a w hfr hs
theorem WC.wtShut {c : Code} {T : TypeId} {m cap : Nat} {ws : List Int} {g : Nat} {pre sp : List Value} (ha : At L (.blk g T (pre ++ (ws.map vI ++ sp))) M) (hn : ws.length = m) (h1 : m ≤ cap) (h2 : cap ≤ m + sp.length) (h3 : cap ≤ 9223372036854775807)
    (h : WC F P c Q n D l w0 (wtE T (some ⟨g, pre.length, none⟩) m cap ws :: M)) : WC F P c Q n D l w0 L := fun hF a w hfr hst => h hF a w hfr ((hst.pull ha).wtShut hn h1 h2 h3)
theorem WC.ownWt {c : Code} {T : TypeId} {A : Option Addr} {m cap : Nat} {ws : List Int} (ha : At L (.own A cap T 1 m (enI ws)) M) (h : WC F P c Q n D l w0 (wtE T A m cap ws :: M)) : WC F P c Q n D l w0 L := fun hF a w hfr hst => h hF a w hfr (hst.pull ha).ownWt
end rules
end Go.Proofs.Ytjkoaifjmcgpfaa
