/- The texts of the walk, part 5. -/
import Derived.Test.YtpejgebcmhmpaaaGreatJ4
import Derived.Shelf.SlSortCmp.WholeK
import Derived.Test.YtpejgebcmhmpaaaGreatProg
namespace Go.Proofs.YtpejgebcmhmpaaaGreat
open Go Go.RowKit

theorem St.clearN {w0 : World} {M : List Ent} {g cap : Nat} {T : TypeId} {n size : Nat} (h0 : 0 < size) : ∀ (vs : List Value) (i : Nat) (w : World) (es : List (List Value)), i + vs.length = n * size → (∀ v ∈ vs, v.oneCell' = true) → St w0 w (.own (some ⟨g, 0, none⟩) cap T size n es :: M) →
    ∃ es', St w0 (w.setCells g i vs) (.own (some ⟨g, 0, none⟩) cap T size n es' :: M) ∧ ∀ lo, lo * size ≤ i → es'.take lo = es.take lo
  | [], i, w, es, _, _, h => ⟨es, h, fun _ _ => rfl⟩
  | v :: vs, i, w, es, hi, h1, h => by
    have hlen : es.length = n := (h.ok (.own (some ⟨g, 0, none⟩) cap T size n es) (by simp)).2.len
    rw [List.length_cons] at hi
    have hk : i / size < n := by rw [Nat.div_lt_iff_lt_mul h0]; omega
    have he : es[i / size]? = some (es[i / size]'(by omega)) := List.getElem?_eq_getElem (by omega)
    obtain ⟨ad, had, _, _, hs⟩ := own_set h he (j := i % size) (v := v) (Nat.mod_lt _ h0) (h1 v (by simp))
    injection had with had; subst had
    have e : (⟨g, 0, none⟩ : Addr).add (i / size * size + i % size) = ⟨g, i, none⟩ := by
      rw [add_lit, Nat.mul_comm, Nat.div_add_mod]; simp
    rw [e] at hs
    obtain ⟨es', hs', ht⟩ := St.clearN h0 vs (i + 1) _ _ (by omega) (fun u hu => h1 u (by simp [hu])) hs
    refine ⟨es', hs', fun lo hlo => ?_⟩
    rw [ht lo (by omega), List.take_set_of_le]
    exact (Nat.le_div_iff_mul_le h0).2 hlo
theorem zeroCells_mem {zl : List Value} {n : Nat} (h0 : 0 < zl.length) {v : Value} (h : v ∈ (Builtin.zeroCells zl.toArray n).toList) : v ∈ zl := by
  simp only [Builtin.zeroCells, Array.toList_map, List.mem_map] at h
  obtain ⟨i, _, rfl⟩ := h
  have hm : i % zl.length < zl.length := Nat.mod_lt _ h0
  simp only [List.size_toArray]
  rw [getElem!_pos zl.toArray (i % zl.length) (by simpa using hm)]
  simp
theorem zeroCells_len (zl : List Value) (n : Nat) : (Builtin.zeroCells zl.toArray n).toList.length = n * zl.length := by
  simp [Builtin.zeroCells]
section rules
variable {F : Fence} {P : Program} {ops : Array Oper} {Q : Exit → Act → World → Prop} {rest : List Oper} {n : Nat} {D : List Deferred} {l : Env} {w0 : World} {L M : List Ent}
variable {d : Nat} {ty : TypeId} {pos : String} {aft : Array Edge}
theorem clrS {x : Operand} {t T : TypeId} (hT : SliceTy P t T := by infer_instance) {agg : Bool} {size bytes : Nat} {z : Value} {zl : List Value} (hE : Ty P T agg size bytes z zl := by infer_instance) (h1 : zl.all (·.oneCell') = true := by rfl) (h0 : 0 < size := by decide) {A : Option Addr} {m cap : Nat} (lo : Nat) {es : List (List Value)}
    (hx : ev l x = some (.slice (if cap = lo then A else A.map (·.add (lo * size))) (m - lo) (cap - lo)) := by exact rfl) (ha : At L (.own A cap T size m es) M := by repeat (first | exact At.here | apply At.there)) (hlo : lo < m)
    (h : ∀ es', es'.take lo = es.take lo → WL F P ops Q rest n D l w0 (.own A cap T size m es' :: M)) : WL F P ops Q (⟨none, .call { callee := .builtin .clear, args := #[x], argTypes := #[t] }, ty, pos, aft, none⟩ :: rest) n D l w0 L := by
  intro hF a w hfr hst
  have hst1 := hst.pull ha
  obtain ⟨hown, hrd⟩ := hst1.ok (.own A cap T size m es) (by simp)
  rcases hown.2 with ⟨hv, h0'⟩ | ⟨g, cap', cur, hv, hb, hg, g1, g2, g3, g4⟩
  · injection hv with e1 e2 e3
    have := hrd.len; have := hrd.some_ (by omega)
    obtain ⟨_, h⟩ := this
    rw [e1] at h; cases h
  injection hv with e1 e2 e3; subst e1 e3
  have hne : ¬ (cap = lo) := by
    have := hst1.room; omega
  have hzl : zl.length = size := hE.zs
  have hsum : lo * size + (Builtin.zeroCells zl.toArray (m - lo)).toList.length = m * size := by
    rw [zeroCells_len, hzl, ← Nat.add_mul]; congr 1; omega
  have hone : ∀ v ∈ (Builtin.zeroCells zl.toArray (m - lo)).toList, v.oneCell' = true := fun v hv => List.all_eq_true.1 h1 v (zeroCells_mem (by omega) hv)
  obtain ⟨es', hs', ht⟩ := St.clearN h0 _ (lo * size) w es hsum hone hst1
  have he := hfr.eval hx
  rw [if_neg hne] at he
  have hadd : (⟨g, 0, none⟩ : Addr).add (lo * size) = ⟨g, lo * size, none⟩ := by rw [add_lit]; simp
  have hst := run_storeCells_cells (P := P) g (lo * size) _ 0 w (fun j hj => by
      rw [zeroCells_len, hzl] at hj
      have hlt : lo * size + j < m * size := by rw [zeroCells_len, hzl] at hsum; omega
      have hk' : (lo * size + j) / size < m := by rw [Nat.div_lt_iff_lt_mul h0]; exact hlt
      have hk : es[(lo * size + j) / size]? = some (es[(lo * size + j) / size]'(by rw [hrd.len]; exact hk')) := List.getElem?_eq_getElem _
      have hl := hrd.each _ (List.mem_of_getElem? hk)
      have := hrd.cell _ rfl _ _ hk ((lo * size + j) % size) _ (List.getElem?_eq_getElem (by rw [hl]; exact Nat.mod_lt _ h0))
      rw [add_lit, Nat.mul_comm _ size, Nat.div_add_mod] at this
      simp at this
      simp [this]) (fun j hj => hown.frozenAt _) hone
  rw [Nat.add_zero] at hst
  have hrun : (Builtin.clear_ #[t] ty #[.slice (some ⟨g, lo * size, none⟩) (m - lo) (cap - lo)]).run P w = .ok (.tuple #[]) (w.setCells g (lo * size) (Builtin.zeroCells zl.toArray (m - lo)).toList) := by
    have hzv : (zeroValue T).run P w = .ok z w := run_zeroValue hE w
    obtain ⟨q, hq⟩ : ∃ q, m - lo = q + 1 := ⟨m - lo - 1, by omega⟩
    rw [hq] at hst ⊢
    simp [Builtin.clear_, run_underlying hT.und, hzv, hE.zc, hst]
  show (if _ then _ else _)
  rw [if_pos (by simp [Region.wanted])]
  refine ⟨fun f _ => hF.fn f, ?_⟩
  have hr : (execOp a.eval ⟨none, .call { callee := .builtin .clear, args := #[x], argTypes := #[t] }, ty, pos, aft, none⟩).run P w = .ok (.value (.tuple #[])) (w.setCells g (lo * size) (Builtin.zeroCells zl.toArray (m - lo)).toList) := by
    simp only [Option.map_some, hadd] at he
    simp [execOp, resolve, invoke, builtin, he, hrun]
  rw [semAt_plain (by simp), hr]
  exact h es' (ht lo (Nat.le_refl _)) hF _ _ (hfr.put_none _) hs'
end rules

section
variable {F : Fence} {P : Program} {Q : Exit → Act → World → Prop} {n : Nat} {D : List Deferred} {l : Env} {w0 : World} {L M M' M'' : List Ent}
end
end Go.Proofs.YtpejgebcmhmpaaaGreat

namespace Go.Proofs.YtpejgebcmhmpaaaGreat
open Go Go.RowKit

structure BA where
  (b : Brd) (A : Option Addr) (c : Nat)
abbrev BA.cells (x : BA) : List Value := x.b.cells x.A x.b.st.length x.c
abbrev BA.val (x : BA) : Value := x.b.val x.A x.b.st.length x.c
def encX (xs : List BA) : List (List Value) := xs.map BA.cells
theorem encX_len (xs : List BA) : (encX xs).length = xs.length := List.length_map _
theorem encX_at {xs : List BA} {k : Nat} {x : BA} (h : xs[k]? = some x) : (encX xs)[k]? = some x.cells := by unfold encX; rw [List.getElem?_map, h]; rfl
theorem encX_set (xs : List BA) (k : Nat) (x : BA) : (encX xs).set k x.cells = encX (xs.set k x) := by unfold encX; rw [List.map_set]
theorem encX_take (xs : List BA) (k : Nat) : (encX xs).take k = encX (xs.take k) := by unfold encX; rw [List.map_take]
def kpX : BA → List BA → List BA
  | _, [] => []
  | p, x :: l => if x.b = p.b then kpX x l else x :: kpX x l
def cptX : List BA → List BA
  | [] => []
  | x :: l => x :: kpX x l
theorem cpt_kp : ∀ (l : List BA) (p : BA), cptB ((p :: l).map (·.b)) = p.b :: (kpX p l).map (·.b)
  | [], p => rfl
  | x :: l, p => by
    have ih := cpt_kp l x
    show cptB (p.b :: x.b :: l.map (·.b)) = _
    rw [List.map_cons] at ih
    rw [cptB, kpX]
    by_cases h : p.b = x.b
    · rw [if_pos h, if_pos h.symm, ih, h]
    · rw [if_neg h, if_neg (fun e => h e.symm), ih, List.map_cons]
theorem cptX_b (l : List BA) : (cptX l).map (·.b) = cptB (l.map (·.b)) := by
  cases l with
  | nil => rfl
  | cons x l => exact (cpt_kp l x).symm
theorem kpX_mem : ∀ {l : List BA} {p y : BA}, y ∈ kpX p l → y ∈ l
  | x :: l, p, y, h => by
    rw [kpX] at h
    by_cases e : x.b = p.b
    · rw [if_pos e] at h; exact List.mem_cons_of_mem _ (kpX_mem h)
    · rw [if_neg e] at h
      rcases List.mem_cons.1 h with rfl | h
      · exact List.mem_cons_self
      · exact List.mem_cons_of_mem _ (kpX_mem h)
theorem cptX_mem {l : List BA} {y : BA} (h : y ∈ cptX l) : y ∈ l := by
  cases l with
  | nil => cases h
  | cons x l =>
    rcases List.mem_cons.1 h with rfl | h
    · exact List.mem_cons_self
    · exact List.mem_cons_of_mem _ (kpX_mem h)
def PfX (xs : List BA) (k : Nat) : Prop := ∃ p, xs[k - 1]? = some p ∧ cptX xs = xs.take k ++ kpX p (xs.drop k)
theorem pf_start {xs : List BA} (h : 0 < xs.length) : PfX xs 1 := by
  cases xs with
  | nil => cases h
  | cons x l => exact ⟨x, rfl, rfl⟩
theorem pf_step {xs : List BA} {k : Nat} {x p : BA} (hk : 1 ≤ k) (h : PfX xs k) (hx : xs[k]? = some x) (hp : xs[k - 1]? = some p) (hne : ¬ x.b = p.b) : PfX xs (k + 1) := by
  obtain ⟨p', h1, h2⟩ := h
  rw [hp] at h1
  cases h1
  refine ⟨x, by rw [Nat.add_sub_cancel]; exact hx, ?_⟩
  rw [h2, drop_at hx, kpX, if_neg hne, List.take_add_one, hx]
  simp
theorem pf_end {xs : List BA} (h : PfX xs xs.length) : cptX xs = xs := by
  obtain ⟨p, _, h2⟩ := h
  rw [h2, List.take_length, List.drop_length, kpX, List.append_nil]
structure CP2 where
  (k k2 : Nat) (zs : List BA)
structure CP2.Ok (xs : List BA) (k0 : Nat) (z : CP2) : Prop where
  lt : z.k + 1 ≤ k0 + z.k2
  k2 : 1 ≤ z.k2
  le : k0 + z.k2 ≤ xs.length
  len : z.zs.length = xs.length
  dr : ∀ i, k0 + z.k2 ≤ i + 1 → z.zs[i]? = xs[i]?
  tk : ∃ p, xs[k0 + z.k2 - 1]? = some p ∧ cptX xs = z.zs.take z.k ++ kpX p (xs.drop (k0 + z.k2))
theorem CP2.start {xs : List BA} {k0 : Nat} {x p : BA} (hk : 1 ≤ k0) (h : PfX xs k0) (hx : xs[k0]? = some x) (hp : xs[k0 - 1]? = some p) (he : x.b = p.b) : CP2.Ok xs k0 ⟨k0, 1, xs⟩ := by
  have hlt := (List.getElem?_eq_some_iff.1 hx).1
  obtain ⟨p', h1, h2⟩ := h
  rw [hp] at h1
  cases h1
  refine ⟨by dsimp only; omega, Nat.le_refl _, by dsimp only; omega, rfl, fun i _ => rfl, x, by dsimp only; rw [Nat.add_sub_cancel]; exact hx, ?_⟩
  rw [h2, drop_at hx, kpX, if_pos he]
theorem CP2.skip {xs : List BA} {k0 : Nat} {z : CP2} (h : z.Ok xs k0) {x p : BA} (hx : xs[k0 + z.k2]? = some x) (hp : xs[k0 + z.k2 - 1]? = some p) (he : x.b = p.b) : CP2.Ok xs k0 ⟨z.k, z.k2 + 1, z.zs⟩ := by
  have hlt := (List.getElem?_eq_some_iff.1 hx).1
  have h0 := h.lt; have h1 := h.k2; have h2 := h.le
  obtain ⟨p', h3, h4⟩ := h.tk
  rw [hp] at h3
  cases h3
  refine ⟨by dsimp only; omega, by dsimp only; omega, by dsimp only; omega, h.len, fun i hi => h.dr i (by dsimp only at hi; omega), x, by dsimp only; rw [show k0 + (z.k2 + 1) - 1 = k0 + z.k2 by omega]; exact hx, ?_⟩
  rw [h4, drop_at hx, kpX, if_pos he]; rfl
theorem CP2.keep {xs : List BA} {k0 : Nat} {z : CP2} (h : z.Ok xs k0) {x p : BA} (hx : xs[k0 + z.k2]? = some x) (hp : xs[k0 + z.k2 - 1]? = some p) (he : ¬ x.b = p.b) : CP2.Ok xs k0 ⟨z.k + 1, z.k2 + 1, z.zs.set z.k x⟩ := by
  have hlt := (List.getElem?_eq_some_iff.1 hx).1
  have h0 := h.lt; have h1 := h.k2; have h2 := h.le; have hl := h.len
  obtain ⟨p', h3, h4⟩ := h.tk
  rw [hp] at h3
  cases h3
  refine ⟨by dsimp only; omega, by dsimp only; omega, by dsimp only; omega, by simp [hl], fun i hi => ?_, x, by dsimp only; rw [show k0 + (z.k2 + 1) - 1 = k0 + z.k2 by omega]; exact hx, ?_⟩
  · dsimp only at hi ⊢
    rw [List.getElem?_set_ne (by omega)]
    exact h.dr i (by omega)
  · dsimp only
    rw [h4, drop_at hx, kpX, if_neg he, List.take_add_one, List.take_set, List.getElem?_set_self (by omega)]
    rw [List.set_eq_of_length_le (by rw [List.length_take]; omega)]
    simp [Nat.add_assoc]
theorem CP2.fin {xs : List BA} {k0 : Nat} {z : CP2} (h : z.Ok xs k0) (he : k0 + z.k2 = xs.length) : cptX xs = z.zs.take z.k := by
  obtain ⟨p, _, h2⟩ := h.tk
  rw [h2, he, List.drop_length, kpX, List.append_nil]
set_option maxRecDepth 100000 in
theorem T_Boards2 (E : Ent) (x y : BA) (b : Nat) (T : TypeId) (hx : ∀ w, E.ok w → Rd w x.A 2 x.b.st.length (encP x.b.st)) (hy : ∀ w, E.ok w → Rd w y.A 2 y.b.st.length (encP y.b.st)) (sx : BrdSm x.b) (sy : BrdSm y.b) :
    Tr Tryz.prog 47 [x.val, y.val, .pointer (some ⟨b, 0, none⟩)] [E, .blk b T [.func (.func 41) #[] #[]]] (fun _ : Unit => True) (fun _ => .bool (decide (x.b = y.b))) (fun _ => [E, .blk b T [.func (.func 41) #[] #[]]]) := by
  refine ⟨fun w0 w R hst => ?_⟩
  have hd : decide (cmpB x.b y.b = 0) = decide (x.b = y.b) := decide_eq_decide.2 cmpB_zero
  refine en Tryz.func47 Tryz.ntmps47 hst (h := fun F => ?_)
  refine sq (h := ?_)
  refine rg (h := ?_)
  refine bxA (h := fun b0 => ?_)
  refine bxA (h := fun b1 => ?_)
  refine WL.y (hy := asg) (h := ?_)
  refine nl (h := ?_)
  refine q_seq (h := ?_)
  refine sq (h := ?_)
  refine rg (h := ?_)
  refine WL.y (hy := (by first | exact ld | exact ldE)) (h := ?_)
  refine WL.y (hy := (by first | exact ldA | exact ldEA)) (h := ?_)
  refine WL.y (hy := (by first | exact ldA | exact ldEA)) (h := ?_)
  refine clf0 (f := 41) (fi := []) (cap := []) (hx := by exact rfl) (hc := fun w hS => C_Boards1 x.b y.b x.A y.A x.c y.c sx sy w (hx w (hS.ok E (by simp))) (hy w (hS.ok E (by simp)))) (h := ?_)
  refine WL.y (hy := eql) (h := ?_)
  refine WL.y (hy := asg) (h := ?_)
  refine nl (h := ?_)
  refine q_seq (h := ?_)
  refine rtn (h := ?_)
  refine q_ret (hR := ?_)
  rw [hd]
  exact fun w hS => ⟨(), trivial, rfl, hS.sub (by repeat (first | exact SubL.nil | (apply SubL.cons; (repeat (first | exact At.here | apply At.there))) | exact SubL.refl _ | apply SubL.skip))⟩
end Go.Proofs.YtpejgebcmhmpaaaGreat

namespace Go.Proofs.YtpejgebcmhmpaaaGreat
open Go Go.RowKit

theorem rd_from {w : World} {A : Option Addr} {c n k0 : Nat} {T : TypeId} {es : List (List Value)} (hc : n ≤ c) (hk : k0 ≤ n) (h : (Ent.own A c T 5 n es).ok w) : Rd w (if c = k0 then A else A.map (·.add (k0 * 5))) 5 (n - k0) ((es.drop k0).take (n - k0)) := h.2.part c k0 n hk (Nat.le_refl _) hc
theorem from_at {xs : List BA} {n k0 k2 : Nat} {x : BA} (hl : xs.length = n) (hx : xs[k0 + k2]? = some x) : (((encX xs).drop k0).take (n - k0))[k2]? = some x.cells := by
  have hlt := (List.getElem?_eq_some_iff.1 hx).1
  rw [List.getElem?_take, if_pos (by omega), List.getElem?_drop]
  exact encX_at hx
set_option maxRecDepth 100000 in
set_option maxHeartbeats 4194304 in
theorem T_Compact (E : Ent) (xs : List BA) (A : Option Addr) (n c b : Nat) (T : TypeId) (hl : xs.length = n) (hn : n ≤ 4194304) (hE : ∀ x ∈ xs, ∀ w, E.ok w → Rd w x.A 2 x.b.st.length (encP x.b.st)) (hS : ∀ x ∈ xs, BrdSm x.b) :
    Tr Tryz.prog 46 [.slice A n c, .func (.func 47) #[] #[.pointer (some ⟨b, 0, none⟩)]] [.own A c 52 5 n (encX xs), E, .blk b T [.func (.func 41) #[] #[]]] (fun _ : Unit => True) (fun _ => .slice A (cptX xs).length c) (fun _ => [.own A c 52 5 (cptX xs).length (encX (cptX xs)), E]) := by
  refine ⟨fun w0 w R hst => ?_⟩
  refine en Tryz.func46 Tryz.ntmps46 hst (h := fun F => ?_)
  refine WC.room .here (fun hroom => ?_)
  refine sq (h := ?_)
  refine rg (h := ?_)
  refine WL.y (hy := asg) (h := ?_)
  refine nl (h := ?_)
  refine q_seq (h := ?_)
  refine sq (h := ?_)
  refine sq (h := ?_)
  refine rg (h := ?_)
  refine WL.y (hy := mv) (h := ?_)
  refine WL.y (hy := lenS) (h := ?_)
  refine WL.y (hy := lss) (h := ?_)
  refine nl (h := ?_)
  refine q_seq (h := ?_)
  refine cd (by exact rfl) (fun h0 => ?_) (fun h0 => ?_)
  · skip
    have hE1 : cptX xs = xs := by
      have h9 : (n : Int) < 2 := of_decide_eq_true h0
      match xs, hl with
      | [], _ => rfl
      | [x], _ => rfl
      | _ :: _ :: _, hl => simp at hl; omega
    refine sq (h := ?_)
    refine rg (h := ?_)
    refine WL.y (hy := mv) (h := ?_)
    refine WL.y (hy := asg) (h := ?_)
    refine nl (h := ?_)
    refine q_seq (h := ?_)
    refine rtn (h := ?_)
    refine q_then_ret (h := ?_)
    refine q_ret (hR := ?_)
    exact fun w hS => ⟨(), trivial, by rw [hE1, hl]; rfl, by rw [hE1, hl]; exact hS.sub (by repeat (first | exact SubL.nil | (apply SubL.cons; (repeat (first | exact At.here | apply At.there))) | exact SubL.refl _ | apply SubL.skip))⟩
  · skip
    have hn2 : 2 ≤ n := by have h9 : ¬ (n : Int) < 2 := of_decide_eq_false h0; omega
    refine skp (h := ?_)
    refine q_seq (h := ?_)
    refine sq (h := ?_)
    refine sq (h := ?_)
    refine rg (h := ?_)
    refine WL.y (hy := asg) (h := ?_)
    refine WL.cut (by repeat (first | exact Cut.nil | apply Cut.hit | apply Cut.miss (by exact rfl))) ?_
    refine nl (h := ?_)
    refine q_seq (h := ?_)
    refine bk (h := ?_)
    refine lp (X := Nat) (I := fun k => 1 ≤ k ∧ k ≤ n ∧ PfX xs k) (le := fun k => [(0, .slice A n c), (1, .func (.func 47) #[] #[.pointer (some ⟨b, 0, none⟩)]), (5, .int .i64 k)]) (Le := fun _ => .own A c 52 5 n (encX xs) :: E :: .blk b T [.func (.func 41) #[] #[]] :: R) (μ := fun k => n - k) 1 ⟨Nat.le_refl _, by omega, pf_start (by omega)⟩ (by repeat (first | exact trivial | refine ⟨rfl, ?_⟩)) (by repeat (first | exact SubL.nil | (apply SubL.cons; (repeat (first | exact At.here | apply At.there))) | exact SubL.refl _ | apply SubL.skip)) (fun k hk => ?_)
    obtain ⟨hk1, hk2, hkp⟩ := hk
    refine sq (h := ?_)
    refine sq (h := ?_)
    refine rg (h := ?_)
    refine WL.y (hy := mv) (h := ?_)
    refine WL.y (hy := mv) (h := ?_)
    refine WL.y (hy := lenS) (h := ?_)
    refine WL.y (hy := lss) (h := ?_)
    refine nl (h := ?_)
    refine q_seq (h := ?_)
    refine cd (by exact rfl) (fun h1 => ?_) (fun h1 => ?_)
    · skip
      have hkn : k < n := by simp only [decide_eq_true_eq] at h1; omega
      obtain ⟨x, hx⟩ : ∃ x, xs[k]? = some x := ⟨_, List.getElem?_eq_getElem (by omega)⟩
      obtain ⟨p, hp⟩ : ∃ p, xs[k - 1]? = some p := ⟨_, List.getElem?_eq_getElem (by omega)⟩
      have hxm := List.mem_of_getElem? hx
      have hpm := List.mem_of_getElem? hp
      have hxe := encX_at hx
      have hpe : (encX xs)[((k : Int) - 1).toNat]? = some p.cells := by rw [show ((k : Int) - 1).toNat = k - 1 by omega]; exact encX_at hp
      refine skp (h := ?_)
      refine q_seq (h := ?_)
      refine sq (h := ?_)
      refine bk (h := ?_)
      refine sq (h := ?_)
      refine rgD (by kernel_rfl) [(4194304, .own A c 52 5 n (encX xs))] (by repeat (first | exact HS.nil | (apply HS.keep; (repeat (first | exact At.here | apply At.there))) | (apply HS.ro; (repeat (first | exact Rds.ro | exact Rds.own | apply Rds.there))))) (h := ?_)
      refine tk 0 (hy := mv) (h := ?_)
      refine tk 1 (hy := mv) (h := ?_)
      refine tk 2 (hy := mv) (h := ?_)
      refine tk 3 (hy := ix (A := A) (m := n)) (h := ?_)
      refine tk 4 (hy := ldEA (A := A) (hk := hxe)) (h := ?_)
      refine tk 5 (hy := mv) (h := ?_)
      refine tk 6 (hy := mv) (h := ?_)
      refine tk 7 (hy := subI) (h := ?_)
      refine tk 8 (hy := ix (A := A) (m := n)) (h := ?_)
      refine tk 9 (hy := ldEA (A := A) (hk := hpe)) (h := ?_)
      refine one 10 (h := ?_)
      refine clfT inferInstance (fi := []) (cap := [.pointer (some ⟨b, 0, none⟩)]) (by exact rfl) (by repeat (first | exact Evs.nil | (apply Evs.cons; exact rfl))) (T_Boards2 E x p b T (hE x hxm) (hE p hpm) (hS x hxm) (hS p hpm)) rfl (by repeat (first | exact Spl.nil | (apply Spl.cons; (repeat (first | exact At.here | apply At.there))))) (h := fun _ _ => ?_)
      refine nx (h := ?_)
      refine dn (h := ?_)
      refine q_seq (h := ?_)
      refine cd (by exact rfl) (fun h2 => ?_) (fun h2 => ?_)
      · skip
        have hxp : x.b = p.b := of_decide_eq_true h2
        have hs0 := CP2.start hk1 hkp hx hp hxp
        refine sq (h := ?_)
        refine rg (h := ?_)
        refine WL.y (hy := mv) (h := ?_)
        refine WL.y (hy := mv) (h := ?_)
        refine WL.y (hy := slV (A := A) (m := n) (cap := c) (lo' := k) (hi' := n) (hh := .inl ⟨rfl, rfl⟩) (hl := .inr ⟨_, _, _, rfl, rfl, by omega, by omega, by omega⟩)) (h := ?_)
        refine WL.y (hy := asg) (h := ?_)
        refine nl (h := ?_)
        refine q_seq (h := ?_)
        refine sq (h := ?_)
        refine sq (h := ?_)
        refine rg (h := ?_)
        refine WL.y (hy := asg) (h := ?_)
        refine WL.cut (by repeat (first | exact Cut.nil | apply Cut.hit | apply Cut.miss (by exact rfl))) ?_
        refine nl (h := ?_)
        refine q_seq (h := ?_)
        refine bk (h := ?_)
        refine lp (X := CP2) (I := fun z => z.Ok xs k) (le := fun z => [(0, .slice A n c), (1, .func (.func 47) #[] #[.pointer (some ⟨b, 0, none⟩)]), (5, .int .i64 z.k), (6, .slice (if c = k then A else A.map (·.add (k * 5))) (n - k) (c - k)), (7, .int .i64 z.k2)]) (Le := fun z => .own A c 52 5 n (encX z.zs) :: E :: .blk b T [.func (.func 41) #[] #[]] :: R) (μ := fun z => n - z.k2) ⟨k, 1, xs⟩ hs0 (by repeat (first | exact trivial | refine ⟨rfl, ?_⟩)) (by repeat (first | exact SubL.nil | (apply SubL.cons; (repeat (first | exact At.here | apply At.there))) | exact SubL.refl _ | apply SubL.skip)) (fun z hzo => ?_)
        have hzl : z.zs.length = n := hzo.len.trans hl
        have hzlt := hzo.lt
        have hzle := hzo.le
        have hzk2 := hzo.k2
        refine sq (h := ?_)
        refine sq (h := ?_)
        refine rg (h := ?_)
        refine WL.y (hy := mv) (h := ?_)
        refine WL.y (hy := mv) (h := ?_)
        refine WL.y (hy := lenS) (h := ?_)
        refine WL.y (hy := lss) (h := ?_)
        refine nl (h := ?_)
        refine q_seq (h := ?_)
        refine cd (by exact rfl) (fun h3 => ?_) (fun h3 => ?_)
        · skip
          have hjn : k + z.k2 < n := by simp only [decide_eq_true_eq] at h3; omega
          obtain ⟨y, hy⟩ : ∃ y, xs[k + z.k2]? = some y := ⟨_, List.getElem?_eq_getElem (by omega)⟩
          obtain ⟨q, hq⟩ : ∃ q, xs[k + z.k2 - 1]? = some q := ⟨_, List.getElem?_eq_getElem (by omega)⟩
          have hym := List.mem_of_getElem? hy
          have hqm := List.mem_of_getElem? hq
          have hyz : z.zs[k + z.k2]? = some y := by rw [hzo.dr _ (by omega)]; exact hy
          have hqz : z.zs[k + z.k2 - 1]? = some q := by rw [hzo.dr _ (by omega)]; exact hq
          have hye := from_at (k0 := k) hzl hyz
          have hqe : (((encX z.zs).drop k).take (n - k))[((z.k2 : Int) - 1).toNat]? = some q.cells := by
            rw [show ((z.k2 : Int) - 1).toNat = z.k2 - 1 by omega]
            exact from_at (k0 := k) hzl (by rw [show k + (z.k2 - 1) = k + z.k2 - 1 by omega]; exact hqz)
          refine skp (h := ?_)
          refine q_seq (h := ?_)
          refine sq (h := ?_)
          refine bk (h := ?_)
          refine sq (h := ?_)
          refine rgD (by kernel_rfl) [(4194304, .own A c 52 5 n (encX z.zs))] (by repeat (first | exact HS.nil | (apply HS.keep; (repeat (first | exact At.here | apply At.there))) | (apply HS.ro; (repeat (first | exact Rds.ro | exact Rds.own | apply Rds.there))))) (h := ?_)
          refine tk 0 (hy := mv) (h := ?_)
          refine tk 1 (hy := mv) (h := ?_)
          refine tk 2 (hy := mv) (h := ?_)
          refine tk 3 (hy := ix (A := if c = k then A else A.map (·.add (k * 5))) (m := n - k) (hr := Rds.any fun w hw => rd_from hroom.1 (by omega) hw)) (h := ?_)
          refine tk 4 (hy := ldEA (A := if c = k then A else A.map (·.add (k * 5))) (hr := Rds.any fun w hw => rd_from hroom.1 (by omega) hw) (hk := hye)) (h := ?_)
          refine tk 5 (hy := mv) (h := ?_)
          refine tk 6 (hy := mv) (h := ?_)
          refine tk 7 (hy := subI) (h := ?_)
          refine tk 8 (hy := ix (A := if c = k then A else A.map (·.add (k * 5))) (m := n - k) (hr := Rds.any fun w hw => rd_from hroom.1 (by omega) hw)) (h := ?_)
          refine tk 9 (hy := ldEA (A := if c = k then A else A.map (·.add (k * 5))) (hr := Rds.any fun w hw => rd_from hroom.1 (by omega) hw) (hk := hqe)) (h := ?_)
          refine one 10 (h := ?_)
          refine clfT inferInstance (fi := []) (cap := [.pointer (some ⟨b, 0, none⟩)]) (by exact rfl) (by repeat (first | exact Evs.nil | (apply Evs.cons; exact rfl))) (T_Boards2 E y q b T (hE y hym) (hE q hqm) (hS y hym) (hS q hqm)) rfl (by repeat (first | exact Spl.nil | (apply Spl.cons; (repeat (first | exact At.here | apply At.there))))) (h := fun _ _ => ?_)
          refine WL.subL (SubL.cons (.there (.there .here)) (SubL.refl _)) ?_
          refine nx (h := ?_)
          refine tk 11 (hy := notB) (h := ?_)
          refine dn (h := ?_)
          refine q_seq (h := ?_)
          refine cd (by exact rfl) (fun h4 => ?_) (fun h4 => ?_)
          · skip
            have hyq : ¬ y.b = q.b := by
              have h9 : (!decide (y.b = q.b)) = true := h4
              simpa using h9
            have hnz := CP2.keep hzo hy hq hyq
            refine sq (h := ?_)
            refine rg (h := ?_)
            refine WL.y (hy := mv) (h := ?_)
            refine WL.y (hy := mv) (h := ?_)
            refine WL.y (hy := mv) (h := ?_)
            refine WL.y (hy := mv) (h := ?_)
            refine WL.y (hy := ix (A := if c = k then A else A.map (·.add (k * 5))) (m := n - k) (hr := Rds.any fun w hw => rd_from hroom.1 (by omega) hw)) (h := ?_)
            refine WL.y (hy := ldEA (A := if c = k then A else A.map (·.add (k * 5))) (hr := Rds.any fun w hw => rd_from hroom.1 (by omega) hw) (hk := hye)) (h := ?_)
            refine WL.y (hy := ix (A := A) (m := n)) (h := ?_)
            refine stEW (k := z.k) (vs := y.cells) (h := ?_)
            rw [encX_set]
            refine nl (h := ?_)
            refine q_seq (h := ?_)
            refine rg (h := ?_)
            refine WL.y (hy := mv) (h := ?_)
            refine WL.y (hy := addI) (h := ?_)
            refine WL.y (hy := asg) (h := ?_)
            refine WL.cut (by repeat (first | exact Cut.nil | apply Cut.hit | apply Cut.miss (by exact rfl))) ?_
            refine nl (h := ?_)
            refine q_blk_norm (h := ?_)
            refine q_seq (h := ?_)
            refine rg (h := ?_)
            refine WL.y (hy := mv) (h := ?_)
            refine WL.y (hy := addI) (h := ?_)
            refine WL.y (hy := asg) (h := ?_)
            refine WL.cut (by repeat (first | exact Cut.nil | apply Cut.hit | apply Cut.miss (by exact rfl))) ?_
            refine nl (h := ?_)
            first
              | refine rn (x := z) ⟨z.k + 1, z.k2 + 1, z.zs.set z.k y⟩ hnz (by dsimp only; omega) (by repeat (first | exact trivial | refine ⟨rfl, ?_⟩)) (by repeat (first | exact SubL.nil | (apply SubL.cons; (repeat (first | exact At.here | apply At.there))) | exact SubL.refl _ | apply SubL.skip))
              | refine rn (x := z) ⟨z.k, z.k2 + 1, z.zs⟩ hnz (by dsimp only; omega) (by repeat (first | exact trivial | refine ⟨rfl, ?_⟩)) (by repeat (first | exact SubL.nil | (apply SubL.cons; (repeat (first | exact At.here | apply At.there))) | exact SubL.refl _ | apply SubL.skip))
          · skip
            have hyq : y.b = q.b := by
              have h9 : (!decide (y.b = q.b)) = false := h4
              simpa using h9
            have hnz := CP2.skip hzo hy hq hyq
            refine skp (h := ?_)
            refine q_blk_norm (h := ?_)
            refine q_seq (h := ?_)
            refine rg (h := ?_)
            refine WL.y (hy := mv) (h := ?_)
            refine WL.y (hy := addI) (h := ?_)
            refine WL.y (hy := asg) (h := ?_)
            refine WL.cut (by repeat (first | exact Cut.nil | apply Cut.hit | apply Cut.miss (by exact rfl))) ?_
            refine nl (h := ?_)
            first
              | refine rn (x := z) ⟨z.k + 1, z.k2 + 1, z.zs.set z.k y⟩ hnz (by dsimp only; omega) (by repeat (first | exact trivial | refine ⟨rfl, ?_⟩)) (by repeat (first | exact SubL.nil | (apply SubL.cons; (repeat (first | exact At.here | apply At.there))) | exact SubL.refl _ | apply SubL.skip))
              | refine rn (x := z) ⟨z.k, z.k2 + 1, z.zs⟩ hnz (by dsimp only; omega) (by repeat (first | exact trivial | refine ⟨rfl, ?_⟩)) (by repeat (first | exact SubL.nil | (apply SubL.cons; (repeat (first | exact At.here | apply At.there))) | exact SubL.refl _ | apply SubL.skip))
        · skip
          have hjn : k + z.k2 = xs.length := by simp only [decide_eq_false_iff_not] at h3; omega
          have hfin := CP2.fin hzo hjn
          refine et (h := ?_)
          refine q_then_exit (h := ?_)
          refine q_then_exit (h := ?_)
          refine q_blk_hit (h := ?_)
          refine q_seq (h := ?_)
          refine sq (h := ?_)
          refine rg (h := ?_)
          refine WL.y (hy := mv) (h := ?_)
          refine WL.y (hy := mv) (h := ?_)
          refine WL.y (hy := slV (A := A) (m := n) (cap := c) (lo' := z.k) (hi' := n) (hh := .inl ⟨rfl, rfl⟩) (hl := .inr ⟨_, _, _, rfl, rfl, by omega, by omega, by omega⟩)) (h := ?_)
          refine clrS (lo := z.k) (hlo := by omega) (h := fun es' hes' => ?_)
          refine nl (h := ?_)
          refine q_seq (h := ?_)
          refine sq (h := ?_)
          refine WC.shrink .here (m := z.k) (by omega) ?_
          refine rg (h := ?_)
          refine WL.y (hy := mv) (h := ?_)
          refine WL.y (hy := mv) (h := ?_)
          refine WL.y (hy := slP (A := A) (m := n) (cap := c) (hi' := z.k) (hc := by omega)) (h := ?_)
          refine WL.y (hy := asg) (h := ?_)
          refine nl (h := ?_)
          refine q_seq (h := ?_)
          refine rtn (h := ?_)
          refine q_blk_ret (h := ?_)
          refine q_then_ret (h := ?_)
          refine q_then_ret (h := ?_)
          refine q_blk_ret (h := ?_)
          refine q_then_ret (h := ?_)
          refine q_ret (hR := ?_)
          have hlk : (cptX xs).length = z.k := by rw [hfin, List.length_take]; omega
          rw [hes', encX_take, ← hfin]
          exact fun w hS => ⟨(), trivial, by rw [hlk]; rfl, by rw [hlk]; exact hS.sub (by repeat (first | exact SubL.nil | (apply SubL.cons; (repeat (first | exact At.here | apply At.there))) | exact SubL.refl _ | apply SubL.skip))⟩
      · skip
        have hxp : ¬ x.b = p.b := of_decide_eq_false h2
        have hnx := pf_step hk1 hkp hx hp hxp
        refine skp (h := ?_)
        refine q_blk_norm (h := ?_)
        refine q_seq (h := ?_)
        refine rg (h := ?_)
        refine WL.y (hy := mv) (h := ?_)
        refine WL.y (hy := addI) (h := ?_)
        refine WL.y (hy := asg) (h := ?_)
        refine WL.cut (by repeat (first | exact Cut.nil | apply Cut.hit | apply Cut.miss (by exact rfl))) ?_
        refine nl (h := ?_)
        refine rn (x := k) (k + 1) ⟨by omega, by omega, hnx⟩ (by omega) (by repeat (first | exact trivial | refine ⟨rfl, ?_⟩)) (by repeat (first | exact SubL.nil | (apply SubL.cons; (repeat (first | exact At.here | apply At.there))) | exact SubL.refl _ | apply SubL.skip))
    · skip
      have hkn : k = xs.length := by simp only [decide_eq_false_iff_not] at h1; omega
      have hE1 : cptX xs = xs := pf_end (hkn ▸ hkp)
      refine et (h := ?_)
      refine q_then_exit (h := ?_)
      refine q_then_exit (h := ?_)
      refine q_blk_hit (h := ?_)
      refine q_seq (h := ?_)
      refine sq (h := ?_)
      refine rg (h := ?_)
      refine WL.y (hy := mv) (h := ?_)
      refine WL.y (hy := asg) (h := ?_)
      refine nl (h := ?_)
      refine q_seq (h := ?_)
      refine rtn (h := ?_)
      refine q_ret (hR := ?_)
      exact fun w hS => ⟨(), trivial, by rw [hE1, hl]; rfl, by rw [hE1, hl]; exact hS.sub (by repeat (first | exact SubL.nil | (apply SubL.cons; (repeat (first | exact At.here | apply At.there))) | exact SubL.refl _ | apply SubL.skip))⟩
end Go.Proofs.YtpejgebcmhmpaaaGreat

namespace Go.Proofs.YtpejgebcmhmpaaaGreat
open Go Go.RowKit

def rowX (x : BA) : Row := ⟨x.A, 2, x.b.st.length, encP x.b.st⟩
theorem St.manySub {w0 w : World} {M : List Ent} {rs rs' : List Row} (h : St w0 w (manyE true rs :: M)) (hs : ∀ r ∈ rs', r ∈ rs) : St w0 w (manyE true rs' :: M) := by
  have hp := List.pairwise_cons.1 h.sep
  have hok := h.ok (manyE true rs) (by simp)
  refine ⟨h.below, fun x hx => ?_, fun x hx hf k hk => ?_, List.pairwise_cons.2 ⟨fun x hx ho k hk hk' => ?_, hp.2⟩⟩
  · rcases List.mem_cons.1 hx with rfl | hx
    · exact fun r hr => hok r (hs r hr)
    · exact h.ok x (by simp [hx])
  · rcases List.mem_cons.1 hx with rfl | hx
    · obtain ⟨r, hr, hf2⟩ := hk
      exact h.new (manyE true rs) (by simp) rfl k ⟨r, hs r hr, hf2⟩
    · exact h.new x (by simp [hx]) hf k hk
  · obtain ⟨r, hr, hf2⟩ := hk
    exact hp.1 x hx (ho.imp (fun h => h) id) k ⟨r, hs r hr, hf2⟩ hk'
theorem many_ok {zs : List BA} {x : BA} (hx : x ∈ zs) : ∀ w, (manyE true (zs.map rowX)).ok w → Rd w x.A 2 x.b.st.length (encP x.b.st) := fun w hw => hw (rowX x) (List.mem_map.2 ⟨x, hx, rfl⟩)
theorem brd_sm {f : Fmt} {s : Spot} {K : Int} (h : SpBd f s K) (hf : f.Ok) (hK : K ≤ 100000) : BrdSm (brdOf s) :=
  ⟨fun p hp => by have := h.st p hp; exact ⟨by omega, by omega⟩, ⟨by have := h.g; show 0 ≤ s.g.1 ∧ s.g.1 ≤ 100000; omega, by have := h.g; show 0 ≤ s.g.2 ∧ s.g.2 ≤ 100000; omega⟩, ⟨by have := h.p; show 0 ≤ s.p.1 ∧ s.p.1 ≤ 100000; omega, by have := h.p; show 0 ≤ s.p.2 ∧ s.p.2 ≤ 100000; omega⟩, by have := h.len hf; show s.st.length ≤ 100000; omega⟩
structure BDR where
  (zs : List BA) (A : Option Addr) (c : Nat)
def bdS (o : Option BDR) : Value := match o with
  | none => .slice none 0 0
  | some s => .slice s.A s.zs.length s.c
def bdV (e : Int) (o : Option BDR) : Value := .tuple #[bdS o, .int .i64 e]
def bdE (T : TypeId) (o : Option BDR) : List Ent := match o with
  | none => []
  | some s => [.own s.A s.c T 5 s.zs.length (encX s.zs), manyE true (s.zs.map rowX)]
def BdOk (f : Fmt) (cf : Int) (xs : List Nt) (o : Option BDR) : Prop := match o with
  | none => posE f cf xs ≠ 0
  | some s => posE f cf xs = 0 ∧ s.zs.map (·.b) = boardsC (keyC (crowdC f cf xs)) ∧ (∀ x ∈ s.zs, BrdSm x.b) ∧ s.zs.length ≤ 4194304
def SrtX (zs bs : List BA) : Prop := zs.Perm bs ∧ (zs.map (·.b)).Pairwise fun a b => cmpB a b ≤ 0
def SortOk (P : Program) (T : TypeId) (fs g : FuncId) : Prop := ∀ (E : Ent) (bs : List BA) (A : Option Addr) (n c : Nat), bs.length = n → 0 < n → n ≤ 4194304 → (∀ x ∈ bs, ∀ w, E.ok w → Rd w x.A 2 x.b.st.length (encP x.b.st)) → (∀ x ∈ bs, BrdSm x.b) →
  Tr P fs [.slice A n c, .func (.func g) #[] #[]] [.own A c T 5 n (encX bs), E] (fun zs : List BA => SrtX zs bs) (fun _ => .tuple #[]) (fun zs => [.own A c T 5 n (encX zs), E])
theorem kpX_len : ∀ (l : List BA) (p : BA), (kpX p l).length ≤ l.length
  | [], _ => Nat.le_refl _
  | x :: l, p => by
    rw [kpX]
    by_cases e : x.b = p.b
    · rw [if_pos e]; exact Nat.le_trans (kpX_len l x) (Nat.le_succ _)
    · rw [if_neg e]; exact Nat.succ_le_succ (kpX_len l x)
theorem cptX_len (l : List BA) : (cptX l).length ≤ l.length := by
  cases l with
  | nil => exact Nat.le_refl _
  | cons x l => exact Nat.succ_le_succ (kpX_len l x)
theorem fin_boards {w0 w : World} {bs zs : List BA} {e : Ent} (h : St w0 w [manyE true (bs.map rowX), e]) (hs : ∀ x ∈ zs, x ∈ bs) : St w0 w [e, manyE true (zs.map rowX)] := by
  have h2 := h.manySub (rs' := zs.map rowX) fun r hr => by
    obtain ⟨x, hx, rfl⟩ := List.mem_map.1 hr
    exact List.mem_map.2 ⟨x, hs x hx, rfl⟩
  exact h2.sub (.cons (.there .here) (.cons .here .nil))
section rules
variable {F : Fence} {P : Program} {ops : Array Oper} {Q : Exit → Act → World → Prop} {rest : List Oper} {n : Nat} {D : List Deferred} {l : Env} {w0 : World} {L M : List Ent}
theorem WL.manyX {bs : List BA} (p : Option Addr × Nat) (x : BA) (hA : x.A = p.1) (hc : x.c = p.2) {T : TypeId} (ha : At L (.own p.1 p.2 T 2 x.b.st.length (encP x.b.st)) M) {M' : List Ent} (hb : At M (manyE true (bs.map rowX)) M') (h : WL F P ops Q rest n D l w0 (manyE true ((bs ++ [x]).map rowX) :: M')) : WL F P ops Q rest n D l w0 L := fun hF a w hfr hst => h hF a w hfr (by
  have := (hst.sub (L' := .own p.1 p.2 T 2 x.b.st.length (encP x.b.st) :: manyE true (bs.map rowX) :: M') (.cons ha (.cons hb (SubL.refl _)))).manyAdd
  rw [List.map_append]
  show St w0 w (manyE true (bs.map rowX ++ [⟨x.A, 2, x.b.st.length, encP x.b.st⟩]) :: M')
  rw [hA]; exact this)
end rules
structure BZ8 where
  (dn ts : List Nd) (tk : List KV) (o : Option KV) (bs : List BA) (A : Option Addr) (c : Nat)
theorem C_card_Boards' (hsort : SortOk Tryz.prog 52 45 41) (f : Fmt) (cf : Int) (xs : List Nt) (A : Option Addr) (n c : Nat) (w : World) (h : Rd w A 4 n (encN xs)) (hn : n ≤ 9223372036854775807) (hsm : chkC f cf xs = 0 → mostS xs ≤ 400) (hbig : chkC f cf xs = 0 → (crowdC f cf xs).length ≤ 4194304) :
    CR Tryz.prog 14 [.agg (cardC f cf A n c).toArray] w (BdOk f cf xs) (bdV (posE f cf xs)) (bdE 52) := by
  refine ⟨en Tryz.func14 Tryz.ntmps14 ((St.init w).share (e := .ro A 4 n (encN xs)) h rfl rfl rfl) (h := fun F => ?_)⟩
  refine sq (h := ?_)
  refine rg (h := ?_)
  refine bxA (h := fun b0 => ?_)
  refine WL.y (hy := asg) (h := ?_)
  refine WL.cut (by repeat (first | exact Cut.nil | apply Cut.hit | apply Cut.miss (by exact rfl))) ?_
  refine WL.y (hy := asg) (h := ?_)
  refine WL.cut (by repeat (first | exact Cut.nil | apply Cut.hit | apply Cut.miss (by exact rfl))) ?_
  refine nl (h := ?_)
  refine q_seq (h := ?_)
  refine sq (h := ?_)
  refine rg (h := ?_)
  refine WL.y (hy := (by first | exact ldA | exact ldEA)) (h := ?_)
  refine cl (hfresh := fun o => by cases o <;> rfl) (hc := fun w hS => C_card_possible f cf xs A n c w (hS.get (by repeat (first | exact Rds.ro | exact Rds.own | apply Rds.there))) hn hsm) (h := fun o ho => ?_)
  refine WL.y (hy := mv) (h := ?_)
  refine WL.y (hy := ex) (h := ?_)
  refine WL.y (hy := ex) (h := ?_)
  refine WL.y (hy := asg) (h := ?_)
  refine WL.y (hy := asg) (h := ?_)
  refine nl (h := ?_)
  refine q_seq (h := ?_)
  refine sq (h := ?_)
  refine sq (h := ?_)
  refine rg (h := ?_)
  refine WL.y (hy := mv) (h := ?_)
  refine WL.y (hy := neq) (h := ?_)
  refine nl (h := ?_)
  refine q_seq (h := ?_)
  refine cd (by exact rfl) (fun h0 => ?_) (fun h0 => ?_)
  · skip
    have he : posE f cf xs ≠ 0 := by simpa using h0
    obtain rfl := all_none ho he
    refine sq (h := ?_)
    refine rg (h := ?_)
    refine WL.y (hy := mv) (h := ?_)
    refine WL.y (hy := asg) (h := ?_)
    refine WL.cut (by repeat (first | exact Cut.nil | apply Cut.hit | apply Cut.miss (by exact rfl))) ?_
    refine WL.y (hy := asg) (h := ?_)
    refine WL.cut (by repeat (first | exact Cut.nil | apply Cut.hit | apply Cut.miss (by exact rfl))) ?_
    refine nl (h := ?_)
    refine q_seq (h := ?_)
    refine rtn (h := ?_)
    refine q_then_ret (h := ?_)
    refine q_ret (hR := ?_)
    exact fun w hS => ⟨none, he, rfl, hS.sub .nil⟩
  · skip
    have he : posE f cf xs = 0 := by simpa using h0
    obtain ⟨q, rfl, hq, hqn, hck⟩ := all_some ho he
    obtain ⟨hc0, hf, _, hl30, _, _⟩ := chk_facts hck
    have hms := hsm hck
    have hbig := hbig hck
    have hqe := hq.eqC
    have hqok := hq.ok
    rw [List.take_length] at hqe hqok
    have hnl : q.ns.length ≤ 4194304 := by
      have h9 := hqe.length_eq
      unfold toC at h9
      rw [List.length_map] at h9
      omega
    refine WC.subL (L' := [poolE 94 q.N q.mn none, roM q.b q.es q.c]) (by repeat (first | exact SubL.nil | (apply SubL.cons; (repeat (first | exact At.here | apply At.there))) | exact SubL.refl _ | apply SubL.skip)) ?_
    refine skp (h := ?_)
    refine q_seq (h := ?_)
    refine sq (h := ?_)
    refine rg (h := ?_)
    refine WL.y (hy := asg) (h := ?_)
    refine WL.cut (by repeat (first | exact Cut.nil | apply Cut.hit | apply Cut.miss (by exact rfl))) ?_
    refine nl (h := ?_)
    refine q_seq (h := ?_)
    refine sq (h := ?_)
    refine sq (h := ?_)
    refine WC.nilOwn 52 5 (h := ?_)
    refine WC.many0 (h := ?_)
    refine rg (h := ?_)
    refine WL.y (hy := mv) (h := ?_)
    refine rngM (b := q.b) (es := q.es) (c := q.c) (h := fun r1 => ?_)
    rw [cr_kv hq.cr]
    refine nl (h := ?_)
    refine q_seq (h := ?_)
    refine bk (h := ?_)
    refine lp (X := BZ8) (I := fun z => (z.dn ++ z.ts).Perm q.ns ∧ z.tk.Perm (z.ts.map ndKV) ∧ z.bs.map (·.b) = z.dn.map (fun y => brdOf y.s) ∧ ∀ x ∈ z.bs, BrdSm x.b) (le := fun z => [(6, .slice z.A z.bs.length z.c), (18, .pointer (some ⟨r1, 0, none⟩))]) (Le := fun z => [itE r1 q.b q.es q.c z.tk z.o, .own z.A z.c 52 5 z.bs.length (encX z.bs), manyE true (z.bs.map rowX), poolE 94 q.N q.mn none, roM q.b q.es q.c]) (μ := fun z => z.ts.length) ⟨[], q.ns, q.ns.map ndKV, none, [], none, 0⟩ ⟨.refl _, .refl _, rfl, fun x hx => (by cases hx)⟩ (by repeat (first | exact trivial | refine ⟨rfl, ?_⟩)) (by repeat (first | exact SubL.nil | (apply SubL.cons; (repeat (first | exact At.here | apply At.there))) | exact SubL.refl _ | apply SubL.skip)) (fun z hz => ?_)
    obtain ⟨hzd, hzt, hzb, hzs⟩ := hz
    refine sq (h := ?_)
    refine rg (h := ?_)
    refine nxtM (b := q.b) (es := q.es) (c := q.c) (hs := hq.cr.s) (h := fun o2 tk2 ho2 => ?_)
    refine WL.y (hy := exN) (h := ?_)
    refine nl (h := ?_)
    refine q_seq (h := ?_)
    refine sq (h := ?_)
    refine cd (by exact rfl) (fun h1 => ?_) (fun h1 => ?_)
    · skip
      obtain ⟨kv, rfl⟩ := Option.isSome_iff_exists.1 h1
      rcases todo_nd hzt ho2 with ⟨e, _⟩ | ⟨y, ts', e, hts, htk⟩
      · cases e
      obtain rfl := Option.some.inj e
      have hyn : y ∈ q.ns := hzd.subset (List.mem_append.2 (.inr (hts.symm.subset List.mem_cons_self)))
      have hyo := hqok.ok y (hq.cr.sub y hyn)
      have hlen9 : z.bs.length ≤ 4194304 := by
        have h8 := congrArg List.length hzb
        have h9 := hzd.length_eq
        rw [List.length_map, List.length_map] at h8
        rw [List.length_append] at h9
        omega
      refine skp (h := ?_)
      refine q_seq (h := ?_)
      refine bk (h := ?_)
      refine sq (h := ?_)
      refine rg (h := ?_)
      refine WL.y (hy := entM (b := q.b) (es := q.es) (c := q.c) (hs := hq.cr.s)) (h := ?_)
      refine WL.y (hy := ex) (h := ?_)
      refine al (h := fun b1 => ?_)
      first | refine stA (h := ?_) | refine stEA (h := ?_)
      refine nl (h := ?_)
      refine q_seq (h := ?_)
      refine rg (h := ?_)
      refine WL.y (hy := mv) (h := ?_)
      refine WL.y (hy := (by first | exact ldA | exact ldEA)) (h := ?_)
      refine cl (hc := fun w hS => C_spot_board y.s (hyo.len hf) w) (h := fun p1 _ => ?_)
      refine bs (h := fun b2 => ?_)
      refine ap (es := encX z.bs) (m := z.bs.length) (A := z.A) (c := z.c) (h := fun A1 c1 => ?_)
      refine WL.y (hy := asg) (h := ?_)
      refine WL.cut (by repeat (first | exact Cut.nil | apply Cut.hit | apply Cut.miss (by exact rfl))) ?_
      refine WL.manyX p1 ⟨brdOf y.s, p1.1, p1.2⟩ rfl rfl (by repeat (first | exact At.here | apply At.there)) (by repeat (first | exact At.here | apply At.there)) ?_
      refine nl (h := ?_)
      refine q_blk_norm (h := ?_)
      refine rn (x := z) ⟨z.dn ++ [y], ts', tk2, some (ndKV y), z.bs ++ [⟨brdOf y.s, p1.1, p1.2⟩], A1, c1⟩ ⟨by rw [List.append_assoc]; exact ((List.Perm.append_left z.dn hts.symm)).trans hzd, htk, by rw [List.map_append, List.map_append, hzb]; rfl, fun x hx => by
          rcases List.mem_append.1 hx with h9 | h9
          · exact hzs x h9
          · rw [List.mem_singleton.1 h9]; exact brd_sm (hyo.bd hf) hf (by omega)⟩ (by have := hts.length_eq; rw [List.length_cons] at this; dsimp only; omega) (by rw [List.length_append]; exact (by repeat (first | exact trivial | refine ⟨rfl, ?_⟩))) (by rw [List.length_append, List.map_append, show encX (z.bs ++ [⟨brdOf y.s, p1.1, p1.2⟩]) = encX z.bs ++ [(⟨brdOf y.s, p1.1, p1.2⟩ : BA).cells] from List.map_append]; exact (by repeat (first | exact SubL.nil | (apply SubL.cons; (repeat (first | exact At.here | apply At.there))) | exact SubL.refl _ | apply SubL.skip)))
    · skip
      have ho3 : o2 = none := by simpa using h1
      have hts : z.ts = [] := by
        rcases todo_nd hzt ho2 with ⟨_, h9, _⟩ | ⟨y, ts', e, _⟩
        · exact h9
        · rw [ho3] at e; cases e
      rw [hts, List.append_nil] at hzd
      have hlen9 : z.bs.length = q.ns.length := by
        have h8 := congrArg List.length hzb
        have h9 := hzd.length_eq
        rw [List.length_map, List.length_map] at h8
        omega
      have hpos : 0 < q.ns.length := List.length_pos_iff.2 hqn
      refine et (h := ?_)
      refine q_then_exit (h := ?_)
      refine q_then_exit (h := ?_)
      refine q_blk_hit (h := ?_)
      refine q_seq (h := ?_)
      refine sq (h := ?_)
      refine rg (h := ?_)
      refine al (h := fun b3 => ?_)
      first | refine st (h := ?_) | refine stE (h := ?_)
      refine nl (h := ?_)
      refine q_seq (h := ?_)
      refine sq (h := ?_)
      refine rg (h := ?_)
      refine WL.y (hy := mv) (h := ?_)
      refine WL.y (hy := (by first | exact ld | exact ldE)) (h := ?_)
      refine clT (hc := hsort (manyE true (z.bs.map rowX)) z.bs z.A z.bs.length z.c rfl (by omega) (by omega) (fun x hx => many_ok hx) hzs) (h := fun zs hzs2 => ?_)
      have hzl := hzs2.1.length_eq
      refine nl (h := ?_)
      refine q_seq (h := ?_)
      refine sq (h := ?_)
      refine rg (h := ?_)
      refine WL.y (hy := mv) (h := ?_)
      refine WL.y (hy := mkf) (h := ?_)
      refine clT (hc := T_Compact (manyE true (z.bs.map rowX)) zs z.A z.bs.length z.c _ _ hzl (by omega) (fun x hx => many_ok (hzs2.1.subset hx)) (fun x hx => hzs x (hzs2.1.subset hx))) (h := fun _ _ => ?_)
      refine WL.y (hy := asg) (h := ?_)
      refine WL.cut (by repeat (first | exact Cut.nil | apply Cut.hit | apply Cut.miss (by exact rfl))) ?_
      refine WL.y (hy := asg) (h := ?_)
      refine WL.cut (by repeat (first | exact Cut.nil | apply Cut.hit | apply Cut.miss (by exact rfl))) ?_
      refine nl (h := ?_)
      refine q_seq (h := ?_)
      refine rtn (h := ?_)
      refine q_ret (hR := ?_)
      rw [he]
      have hB : (cptX zs).map (·.b) = boardsC (keyC (crowdC f cf xs)) := by
        rw [cptX_b]
        refine cpt_boards hzs2.2 fun b => ?_
        rw [((hzs2.1.map _).mem_iff), hzb]
        constructor
        · intro hb
          obtain ⟨y, hy, rfl⟩ := List.mem_map.1 hb
          exact ⟨y.s, hq.keys (hzd.subset hy), rfl⟩
        · rintro ⟨s, hs, rfl⟩
          have h8 : s ∈ keyC (toC q.mn q.ns) := (hqe.map _).symm.subset hs
          rw [toC_keys] at h8
          obtain ⟨y, hy, rfl⟩ := List.mem_map.1 h8
          exact List.mem_map.2 ⟨y, hzd.symm.subset hy, rfl⟩
      have hL : (cptX zs).length ≤ 4194304 := by
        have h1 : (cptX zs).length ≤ zs.length := cptX_len zs
        omega
      exact fun w hS => ⟨some ⟨cptX zs, z.A, z.c⟩, ⟨he, hB, fun x hx => hzs x (hzs2.1.subset (cptX_mem hx)), hL⟩, rfl, fin_boards (hS.sub (L' := [manyE true (z.bs.map rowX), .own z.A z.c 52 5 (cptX zs).length (encX (cptX zs))]) (by repeat (first | exact SubL.nil | (apply SubL.cons; (repeat (first | exact At.here | apply At.there))) | exact SubL.refl _ | apply SubL.skip))) (fun x hx => hzs2.1.subset (cptX_mem hx))⟩
end Go.Proofs.YtpejgebcmhmpaaaGreat

namespace Go.Proofs.YtpejgebcmhmpaaaGreat
open Go Go.RowKit Go.Sort

theorem blw_grow {w w' : World} (h : Blw w.heap.size w w') : ∃ q os, w' = grow (w.drewN q) os := by
  refine ⟨w'.drawn - w.drawn, w'.heap.extract w.heap.size w'.heap.size, ?_⟩
  have hd := h.dr
  have hh : w'.heap = w.heap ++ w'.heap.extract w.heap.size w'.heap.size := by
    refine Array.ext_getElem? fun i => ?_
    by_cases hi : i < w.heap.size
    · rw [h.b.block i hi, Array.getElem?_append_left hi]
    · rw [Array.getElem?_append_right (by omega), Array.getElem?_extract]
      have hs := h.b.size
      by_cases h2 : i < w'.heap.size
      · rw [if_pos (by omega)]; congr 1; omega
      · rw [if_neg (by omega), Array.getElem?_eq_none (by omega)]
  obtain ⟨h1, h2, h3, h4, h5⟩ := w'
  simp only [grow, World.drewN, World.mk.injEq]
  exact ⟨hh, h.b.tape, by dsimp only at hd ⊢; omega, h.b.os, h.b.output⟩
section
variable {k : Nat} {enc : Nat → List Value}
theorem flatK_toList (hk : ∀ i, (enc i).length = k) (d : Array Nat) : (flatK enc k d).toList = (d.toList.map enc).flatten := by
  have hs : ∀ c ∈ d.toList.map enc, c.length = k := fun c hc => by
    obtain ⟨i, _, rfl⟩ := List.mem_map.1 hc; exact hk i
  have hl : ((d.toList.map enc).flatten).length = d.size * k := by rw [flatten_len hs]; simp
  refine List.ext_getElem? fun t => ?_
  by_cases ht : t < d.size * k
  · have hk0 : 0 < k := Nat.pos_of_mul_pos_left (Nat.lt_of_le_of_lt (Nat.zero_le _) ht)
    have hq : t / k < d.size := (Nat.div_lt_iff_lt_mul hk0).2 ht
    have hm : t % k < k := Nat.mod_lt _ hk0
    have h1 : (d.toList.map enc)[t / k]? = some (enc d[t / k]!) := by
      rw [List.getElem?_map, List.getElem?_eq_getElem (by simpa using hq)]
      simp [getElem!_pos d (t / k) hq]
    have h2 : (enc d[t / k]!)[t % k]? = some ((enc d[t / k]!)[t % k]!) := by
      have : t % k < (enc d[t / k]!).length := by rw [hk]; exact hm
      rw [List.getElem?_eq_getElem this, getElem!_pos (enc d[t / k]!) (t % k) this]
    have h3 := flatten_get hs h1 h2
    rw [show t / k * k + t % k = t by rw [Nat.mul_comm]; exact Nat.div_add_mod t k] at h3
    rw [h3, ← get_flatK enc k d t ht, Array.getElem?_toList, getElem!_pos _ t (by rw [size_flatK]; exact ht), Array.getElem?_eq_getElem (by rw [size_flatK]; exact ht)]
  · rw [List.getElem?_eq_none (by rw [Array.length_toList, size_flatK]; omega), List.getElem?_eq_none (by rw [hl]; omega)]
theorem sortSt {w0 w : World} {M : List Ent} {g cap n : Nat} {T : TypeId} (hk : ∀ i, (enc i).length = k) (h1 : ∀ i, ∀ v ∈ enc i, v.oneCell' = true) (d : Array Nat) (hd : d.size = n) (hst : St w0 w (.own (some ⟨g, 0, none⟩) cap T k n (d.toList.map enc) :: M)) (hn : 0 < n) :
    HoldsK enc k w g 0 d ∧ g < w.heap.size ∧ ∀ (d' : Array Nat) (m : Nat) (os : Array Obj), d'.size = n → St w0 (sortWorldK enc k w g 0 m d' os) (.own (some ⟨g, 0, none⟩) cap T k n (d'.toList.map enc) :: M) := by
  obtain ⟨hown, hrd⟩ := hst.ok (.own (some ⟨g, 0, none⟩) cap T k n (d.toList.map enc)) (by simp)
  have hlt : g < w.heap.size := Ent.ok_lt (hst.ok (.own (some ⟨g, 0, none⟩) cap T k n (d.toList.map enc)) (by simp)) ⟨_, rfl, rfl⟩
  have hfl := flatK_toList hk d
  obtain ⟨hol, hor⟩ := hown
  rcases hor with ⟨hv, _⟩ | ⟨g', cap', cur, hv, hbase, hheap, h2, h3, h4, h5⟩
  · cases hv
  · injection hv with hv1 hv2 hv3
    injection hv1 with hv1
    injection hv1 with hv1
    subst hv1 hv3
    refine ⟨fun j hj => ?_, hlt, fun d' m os hd' => ?_⟩
    · rw [size_flatK, hd] at hj
      have hjc : j < cur.size := by rw [h4]; exact Nat.lt_of_lt_of_le hj (Nat.mul_le_mul_right _ h2)
      have hget : (flatK enc k d)[j]! = cur[j] := by
        have h6 : cur.toList[j]? = (flatK enc k d).toList[j]? := by
          rw [hfl, ← h5, List.getElem?_take, if_pos hj]
        rw [Array.getElem?_toList, Array.getElem?_toList, Array.getElem?_eq_getElem hjc, Array.getElem?_eq_getElem (by rw [size_flatK, hd]; exact hj)] at h6
        rw [getElem!_pos _ j (by rw [size_flatK, hd]; exact hj)]
        exact (Option.some.inj h6).symm
      rw [hget, Nat.zero_add]
      constructor
      · rw [cell_of_row w g j _ T (0, 0) hheap, Array.getElem?_eq_getElem hjc]; rfl
      · exact frozen_of_row w g j _ T hheap
    · have hfl' := flatK_toList hk d'
      have hheap' : (sortWorldK enc k w g 0 m d' os).heap[g]? = some (.cells (putCells id 0 (flatK enc k d') cur) T (0, 0)) := by
        unfold sortWorldK grow putRowK putRow
        dsimp only
        have hsz : g < (mapBlock (Sort.ahead w m) g (putCells id 0 (flatK enc k d'))).heap.size := by
          unfold mapBlock; simp [Sort.ahead]; exact hlt
        rw [Array.getElem?_append_left hsz]
        unfold mapBlock
        simp only [Array.getElem?_modify, if_pos]
        rw [show (Sort.ahead w m).heap = w.heap from rfl, hheap]
        rfl
      have hother : ∀ q, q < w.heap.size → q ≠ g → (sortWorldK enc k w g 0 m d' os).heap[q]? = w.heap[q]? := fun q hq hne => by
        unfold sortWorldK grow putRowK putRow
        dsimp only
        have hsz : q < (mapBlock (Sort.ahead w m) g (putCells id 0 (flatK enc k d'))).heap.size := by
          unfold mapBlock; simp [Sort.ahead]; exact hq
        rw [Array.getElem?_append_left hsz]
        unfold mapBlock
        simp only [Array.getElem?_modify]
        rw [if_neg (fun e => hne e.symm)]; rfl
      have hs : ∀ c ∈ d'.toList.map enc, c.length = k := fun c hc => by
        obtain ⟨i, _, rfl⟩ := List.mem_map.1 hc; exact hk i
      have ho : ∀ c ∈ d'.toList.map enc, ∀ v ∈ c, v.oneCell' = true := fun c hc v hv => by
        obtain ⟨i, _, rfl⟩ := List.mem_map.1 hc; exact h1 i v hv
      have hflen : (flatK enc k d').toList.length = n * k := by rw [Array.length_toList, size_flatK, hd']
      have hown' : (sortWorldK enc k w g 0 m d' os).ownsRow 0 T k (.slice (some ⟨g, 0, none⟩) n cap) n (d'.toList.map enc).flatten := by
        refine ⟨by rw [← hfl', hflen], .inr ⟨g, cap, _, rfl, hbase, hheap', h2, h3, by simp [putCells, h4], ?_⟩⟩
        rw [← hfl']
        refine List.ext_getElem? fun t => ?_
        rw [List.getElem?_take]
        by_cases ht : t < n * k
        · rw [if_pos ht, Array.getElem?_toList, Array.getElem?_toList]
          have htc : t < cur.size := by rw [h4]; exact Nat.lt_of_lt_of_le ht (Nat.mul_le_mul_right _ h2)
          have hts : t < (flatK enc k d').size := by rw [size_flatK, hd']; exact ht
          unfold putCells
          rw [Array.getElem?_mapIdx, Array.getElem?_eq_getElem htc, Option.map_some, if_pos ⟨Nat.zero_le _, by omega⟩, Array.getElem?_eq_getElem hts, Nat.sub_zero, getElem!_pos _ t hts]
          rfl
        · rw [if_neg ht, List.getElem?_eq_none (by rw [hflen]; omega)]
      refine hst.turn rfl (fun q hq hnf => hother q hq fun e => hnf ⟨_, rfl, e.symm⟩) rfl rfl rfl ?_ ⟨hown', rd_own hown' (by simp [hd']) hs ho⟩ (fun q hq => .inl hq) (by
        show w.drawn ≤ w.drawn + m
        omega)
      unfold sortWorldK grow putRowK putRow mapBlock
      simp [Sort.ahead]
end
end Go.Proofs.YtpejgebcmhmpaaaGreat

namespace Go.Proofs.YtpejgebcmhmpaaaGreat
open Go Go.Shelf
def sortB_ren : Go.Shelf.Ren := ⟨fun | 6 => 45 | 15 => 75 | 14 => 74 | 28 => 99 | 29 => 100 | 20 => 91 | 21 => 92 | 22 => 93 | 23 => 94 | 24 => 95 | 25 => 96 | 26 => 97 | 27 => 98 | 46 => 114 | 47 => 115 | 48 => 116 | 49 => 117 | 50 => 118 | 57 => 123 | n => n, fun | 22 => 34 | 24 => 52 | 25 => 82 | 3 => 3 | 39 => 130 | 0 => 0 | 53 => 159 | 55 => 161 | 4 => 4 | 46 => 152 | 45 => 151 | 50 => 156 | 5 => 5 | 9 => 9 | 66 => 174 | 70 => 178 | 76 => 182 | 77 => 162 | n => n, fun | n => n⟩
theorem sortB : Go.Proofs.SlLaysF0.n6 Tryz.prog sortB_ren := {
  mixed := by kernel_rfl
  f6 := ⟨Tryz.f45.name, by decide, Tryz.func45.trans (congrArg some (by kernel_rfl))⟩
  f14 := ⟨Tryz.f74.name, by decide, Tryz.func74.trans (congrArg some (by kernel_rfl))⟩
  f15 := Tryz.func75.trans (congrArg some (by kernel_rfl))
  f20 := ⟨Tryz.f91.name, by decide, Tryz.func91.trans (congrArg some (by kernel_rfl))⟩
  f21 := ⟨Tryz.f92.name, by decide, Tryz.func92.trans (congrArg some (by kernel_rfl))⟩
  f22 := ⟨Tryz.f93.name, by decide, Tryz.func93.trans (congrArg some (by kernel_rfl))⟩
  f23 := ⟨Tryz.f94.name, by decide, Tryz.func94.trans (congrArg some (by kernel_rfl))⟩
  f24 := ⟨Tryz.f95.name, by decide, Tryz.func95.trans (congrArg some (by kernel_rfl))⟩
  f25 := ⟨Tryz.f96.name, by decide, Tryz.func96.trans (congrArg some (by kernel_rfl))⟩
  f26 := ⟨Tryz.f97.name, by decide, Tryz.func97.trans (congrArg some (by kernel_rfl))⟩
  f27 := ⟨Tryz.f98.name, by decide, Tryz.func98.trans (congrArg some (by kernel_rfl))⟩
  f28 := Tryz.func99.trans (congrArg some (by kernel_rfl))
  f29 := Tryz.func100.trans (congrArg some (by kernel_rfl))
  f46 := ⟨Tryz.f114.name, by decide, Tryz.func114.trans (congrArg some (by kernel_rfl))⟩
  f47 := Tryz.func115.trans (congrArg some (by kernel_rfl))
  f48 := Tryz.func116.trans (congrArg some (by kernel_rfl))
  f49 := ⟨Tryz.f117.name, by decide, Tryz.func117.trans (congrArg some (by kernel_rfl))⟩
  f50 := ⟨Tryz.f118.name, by decide, Tryz.func118.trans (congrArg some (by kernel_rfl))⟩
  f57 := ⟨Tryz.f123.name, by decide, Tryz.func123.trans (congrArg some (by kernel_rfl))⟩
  t0 := Tryz.underlying0
  a0 := Tryz.isAgg0
  z0 := Tryz.sizeOf0
  v0 := Tryz.zeroValue0
  t3 := Tryz.underlying3
  a3 := Tryz.isAgg3
  z3 := Tryz.sizeOf3
  v3 := Tryz.zeroValue3
  t4 := Tryz.underlying4
  a4 := Tryz.isAgg4
  z4 := Tryz.sizeOf4
  v4 := Tryz.zeroValue4
  t5 := Tryz.underlying5
  a5 := Tryz.isAgg5
  z5 := Tryz.sizeOf5
  v5 := Tryz.zeroValue5
  t9 := Tryz.underlying9
  a9 := Tryz.isAgg9
  z9 := Tryz.sizeOf9
  v9 := Tryz.zeroValue9
  t22 := Tryz.underlying34
  a22 := Tryz.isAgg34
  z22 := Tryz.sizeOf34
  v22 := Tryz.zeroValue34
  t25 := Tryz.underlying82
  a25 := Tryz.isAgg82
  z25 := Tryz.sizeOf82
  v25 := Tryz.zeroValue82
  t39 := Tryz.underlying130
  a39 := Tryz.isAgg130
  z39 := Tryz.sizeOf130
  v39 := Tryz.zeroValue130
  t45 := Tryz.underlying151
  a45 := Tryz.isAgg151
  z45 := Tryz.sizeOf151
  v45 := Tryz.zeroValue151
  t46 := Tryz.underlying152
  a46 := Tryz.isAgg152
  z46 := Tryz.sizeOf152
  v46 := Tryz.zeroValue152
  t50 := Tryz.underlying156
  a50 := Tryz.isAgg156
  z50 := Tryz.sizeOf156
  v50 := Tryz.zeroValue156
  t53 := Tryz.underlying159
  a53 := Tryz.isAgg159
  z53 := Tryz.sizeOf159
  v53 := Tryz.zeroValue159
  t55 := Tryz.underlying161
  a55 := Tryz.isAgg161
  z55 := Tryz.sizeOf161
  v55 := Tryz.zeroValue161
  t66 := Tryz.underlying174
  a66 := Tryz.isAgg174
  z66 := Tryz.sizeOf174
  v66 := Tryz.zeroValue174
  t70 := Tryz.underlying178
  a70 := Tryz.isAgg178
  z70 := Tryz.sizeOf178
  v70 := Tryz.zeroValue178
  t76 := Tryz.underlying182
  a76 := Tryz.isAgg182
  z76 := Tryz.sizeOf182
  v76 := Tryz.zeroValue182
  t77 := Tryz.underlying162
  a77 := Tryz.isAgg162
  z77 := Tryz.sizeOf162
  v77 := Tryz.zeroValue162 }
end Go.Proofs.YtpejgebcmhmpaaaGreat

namespace Go.Proofs.YtpejgebcmhmpaaaGreat
open Go Go.RowKit Go.Sort

def atX (bs : List BA) (i : Nat) : BA := bs.getD i ⟨⟨[], (0, 0), (0, 0)⟩, none, 0⟩
theorem atX_all {bs : List BA} {p : BA → Prop} (h : ∀ x ∈ bs, p x) (h0 : p ⟨⟨[], (0, 0), (0, 0)⟩, none, 0⟩) (i : Nat) : p (atX bs i) := by
  unfold atX
  rw [List.getD_eq_getElem?_getD]
  cases hb : bs[i]? with
  | none => exact h0
  | some x => exact h x (List.mem_of_getElem? hb)
theorem atX_range (bs : List BA) : (List.range bs.length).map (atX bs) = bs := by
  refine List.ext_getElem? fun i => ?_
  rw [List.getElem?_map]
  by_cases h : i < bs.length
  · rw [List.getElem?_range h, Option.map_some, atX, List.getD_eq_getElem?_getD, List.getElem?_eq_getElem h]; rfl
  · rw [List.getElem?_eq_none (by simpa using h), List.getElem?_eq_none (by omega)]; rfl
abbrev cfX (bs : List BA) (i j : Nat) : Int := cmpB (atX bs i).b (atX bs j).b
theorem swoX (bs : List BA) : SWO (ltOf (cfX bs)) where
  irrefl i := by unfold ltOf; exact decide_eq_false (by rw [show cfX bs i i = 0 from cmpB_zero.2 rfl]; decide)
  trans i j k h1 h2 := by
    unfold ltOf at *
    exact decide_eq_true (cmpB_trans (of_decide_eq_true h1) (of_decide_eq_true h2))
  ntrans i j k h1 h2 := by
    unfold ltOf at *
    have n1 := of_decide_eq_false h1
    have n2 := of_decide_eq_false h2
    refine decide_eq_false fun h3 => ?_
    by_cases e1 : (atX bs i).b = (atX bs j).b
    · rw [show cfX bs i k = cfX bs j k by unfold cfX; rw [e1]] at h3; exact n2 h3
    · have h4 := cmpB_pos n1 e1
      exact n2 (cmpB_trans h4 h3)
theorem sort_ok : SortOk Tryz.prog 52 45 41 := by
  intro E bs A n c hl hn hn2 hE hS
  refine ⟨fun w0 w R hst => ?_⟩
  have hE0 : ∀ i w, E.ok w → Rd w (atX bs i).A 2 (atX bs i).b.st.length (encP (atX bs i).b.st) := fun i w hw => atX_all (bs := bs) (p := fun x => Rd w x.A 2 x.b.st.length (encP x.b.st)) (fun x hx => hE x hx w hw) (Rd.nil w none 2) i
  have hS0 : ∀ i, BrdSm (atX bs i).b := fun i => atX_all (bs := bs) (p := fun x => BrdSm x.b) hS ⟨fun p hp => (by cases hp), ⟨by decide, by decide⟩, ⟨by decide, by decide⟩, by decide⟩ i
  have henc : ((Array.range n).toList.map fun i => (atX bs i).cells) = encX bs := by
    rw [Array.toList_range, ← hl]
    show (List.range bs.length).map (BA.cells ∘ atX bs) = _
    rw [← List.map_map, atX_range]; rfl
  have hrd := (hst.ok (.own A c 52 5 n (encX bs)) (by simp)).2
  obtain ⟨ad, rfl⟩ := hrd.some_ hn
  obtain ⟨g, rfl⟩ : ∃ g, ad = ⟨g, 0, none⟩ := by
    have hown := (hst.ok (.own (some ad) c 52 5 n (encX bs)) (by simp)).1
    rcases hown.2 with ⟨hv, _⟩ | ⟨g, cap', cur, hv, _⟩
    · cases hv
    · injection hv with h1; injection h1 with h1; exact ⟨g, h1⟩
  have hst2 : St w0 w (.own (some ⟨g, 0, none⟩) c 52 5 n ((Array.range n).toList.map fun i => (atX bs i).cells) :: E :: R) := by rw [henc]; exact hst
  obtain ⟨hH, hlt, hfin⟩ := sortSt (enc := fun i => (atX bs i).cells) (fun i => rfl) (fun i v hv => by
    simp only [BA.cells, Brd.cells, List.mem_cons, List.mem_nil_iff, or_false] at hv
    rcases hv with rfl | rfl | rfl | rfl | rfl <;> rfl) (Array.range n) (by simp) hst2 hn
  have hcmp : CmpLays Tryz.prog 41 #[] (fun i => (atX bs i).cells) 5 (cfX bs) g 0 n w := fun m os dk hdk x y => by
    have hW := hfin dk m os hdk
    have hEW := hW.ok E (by simp)
    have hc := C_Boards1 (atX bs x).b (atX bs y).b (atX bs x).A (atX bs y).A (atX bs x).c (atX bs y).c (hS0 x) (hS0 y) _ (hE0 x _ hEW) (hE0 y _ hEW)
    exact Calls.mono hc.out fun e w' ⟨he, hs⟩ => ⟨he, blw_grow hs.below⟩
  have hcon := AnyQ.slices_SortFunc sortB 5 (fun w => run_isAgg (P := Tryz.prog) (t := 52) inferInstance w) (fun w => run_sizeOf (P := Tryz.prog) (t := 52) inferInstance w) (fun i => (atX bs i).cells) (fun i => rfl) (fun i v hv => by
    simp only [BA.cells, Brd.cells, List.mem_cons, List.mem_nil_iff, or_false] at hv
    rcases hv with rfl | rfl | rfl | rfl | rfl <;> rfl) (cfX bs) (swoX bs) 41 #[] g 0 c (Array.range n) w (run_callFunc inferInstance) (by simpa using hcmp) hH hlt (by simp; omega)
  simp only [Array.size_range] at hcon
  refine Calls.mono hcon fun e w' ⟨he, d', m, os, hp, hs, hw⟩ => ?_
  subst hw
  have hd' : d'.size = n := by have := hp.1; simpa using this
  have hperm : d'.toList.Perm (List.range n) := by
    have h1 := hp.2.2
    rw [show d'.extract 0 n = d' by rw [← hd']; simp, show (Array.range n).extract 0 n = Array.range n by simp, Array.toList_range] at h1
    exact h1
  refine ⟨d'.toList.map (atX bs), ⟨?_, ?_⟩, he, ?_⟩
  · have h1 := hperm.map (atX bs)
    rwa [← hl, atX_range] at h1
  · rw [List.map_map]
    refine List.pairwise_iff_getElem.2 fun i j hi hj hij => ?_
    simp only [List.length_map, Array.length_toList] at hi hj
    have h1 := hs i j (Nat.zero_le _) hij (by omega)
    unfold ltOf at h1
    have h2 := of_decide_eq_false h1
    rw [getElem!_pos d' i (by omega), getElem!_pos d' j (by omega)] at h2
    simp only [List.getElem_map, Function.comp, Array.getElem_toList]
    by_cases e : cmpB (atX bs d'[i]).b (atX bs d'[j]).b ≤ 0
    · exact e
    · exact absurd (cmpB_neg.2 (by omega)) h2
  · have h1 := hfin d' m os hd'
    rw [show encX (d'.toList.map (atX bs)) = d'.toList.map fun i => (atX bs i).cells by unfold encX; rw [List.map_map]; rfl]
    exact h1
theorem C_card_Boards (f : Fmt) (cf : Int) (xs : List Nt) (A : Option Addr) (n c : Nat) (w : World) (h : Rd w A 4 n (encN xs)) (hn : n ≤ 9223372036854775807) (hsm : chkC f cf xs = 0 → mostS xs ≤ 400) (hbig : (crowdC f cf xs).length ≤ 4194304) :
    CR Tryz.prog 14 [.agg (cardC f cf A n c).toArray] w (BdOk f cf xs) (bdV (posE f cf xs)) (bdE 52) := C_card_Boards' sort_ok f cf xs A n c w h hn hsm (fun _ => hbig)
theorem C_card_BoardsC (f : Fmt) (cf : Int) (xs : List Nt) (A : Option Addr) (n c : Nat) (w : World) (h : Rd w A 4 n (encN xs)) (hn : n ≤ 9223372036854775807) (hsm : chkC f cf xs = 0 → mostS xs ≤ 400) (hbig : chkC f cf xs = 0 → (crowdC f cf xs).length ≤ 4194304) :
    CR Tryz.prog 14 [.agg (cardC f cf A n c).toArray] w (BdOk f cf xs) (bdV (posE f cf xs)) (bdE 52) := C_card_Boards' sort_ok f cf xs A n c w h hn hsm hbig
end Go.Proofs.YtpejgebcmhmpaaaGreat

namespace Go.Proofs.YtpejgebcmhmpaaaGreat
open Go Go.RowKit

theorem C_ref3_within (n lo hi : Int) (w : World) : C0 Tryz.prog 34 [.int .i64 n, .int .i64 lo, .int .i64 hi] w (.bool (wi n lo hi)) := by
  refine ⟨en Tryz.func34 Tryz.ntmps34 (St.init w) (h := fun F => ?_)⟩
  refine sq (h := ?_)
  refine rg (h := ?_)
  refine WL.y (hy := asg) (h := ?_)
  refine nl (h := ?_)
  refine q_seq (h := ?_)
  refine sq (h := ?_)
  refine rg (h := ?_)
  refine WL.y (hy := mv) (h := ?_)
  refine WL.y (hy := mv) (h := ?_)
  refine WL.y (hy := geq) (h := ?_)
  refine WL.y (hy := mv) (h := ?_)
  apply brAnd 4 10 14 (by exact rfl)
  · intro hb0
    refine un (h := ?_)
    refine WL.y (hy := mv) (h := ?_)
    refine un (h := ?_)
    refine WL.y (hy := mv) (h := ?_)
    refine un (h := ?_)
    refine WL.y (hy := leq) (h := ?_)
    refine WL.y (hy := (by first | exact pkT | exact pkF)) (h := ?_)
    exact mg (by repeat (first | exact trivial | refine ⟨rfl, ?_⟩ | refine ⟨by rw [hb0]; rfl, ?_⟩)) (by repeat (first | exact SubL.nil | (apply SubL.cons; (repeat (first | exact At.here | apply At.there))) | exact SubL.refl _ | apply SubL.skip))
  · intro hb0
    repeat (first | refine un (h := ?_) | refine sk (h := ?_) | refine WL.y (hy := pkF) (h := ?_) | refine WL.y (hy := pkT) (h := ?_))
    exact mg (by repeat (first | exact trivial | refine ⟨rfl, ?_⟩ | refine ⟨by rw [hb0]; rfl, ?_⟩)) (by repeat (first | exact SubL.nil | (apply SubL.cons; (repeat (first | exact At.here | apply At.there))) | exact SubL.refl _ | apply SubL.skip))
  refine WL.y (hy := asg) (h := ?_)
  refine nl (h := ?_)
  refine q_seq (h := ?_)
  refine rtn (h := ?_)
  refine q_ret (hR := ?_)
  exact fun w hS => ⟨rfl, hS.sub (by repeat (first | exact SubL.nil | (apply SubL.cons; (repeat (first | exact At.here | apply At.there))) | exact SubL.refl _ | apply SubL.skip))⟩
theorem mk_two {x : Nt} (h : x.kind = 2) : mkV x = (decide (x.side = 0) && wi x.pair.2 0 30 && wi x.pair.1 0 x.pair.2) := by
  rw [mkV, decide_eq_false (show ¬ x.kind = 1 by omega), decide_eq_true h, cond_false, cond_true, prV]
  rw [Bool.eq_iff_iff]
  simp only [Bool.and_eq_true, wi_iff, decide_eq_true_eq]
  omega
set_option maxRecDepth 100000 in
theorem C_ref3_IsMark (x : Nt) (w : World) : C0 Tryz.prog 35 [x.val] w (.bool (mkV x)) := by
  have zP : decide ([x.pair.1, x.pair.2] = [(0 : Int), 0]) = decide (x.pair = (0, 0)) := by rw [pair_eq2]; exact dec_pr x.pair (0, 0)
  refine ⟨en Tryz.func35 Tryz.ntmps35 (St.init w) (h := fun F => ?_)⟩
  refine sq (h := ?_)
  refine rg (h := ?_)
  refine bxA (h := fun b0 => ?_)
  refine WL.y (hy := asg) (h := ?_)
  refine nl (h := ?_)
  refine q_seq (h := ?_)
  refine sq (h := ?_)
  refine rg (h := ?_)
  refine WL.y (hy := (by first | exact fa | exact faE)) (h := ?_)
  refine WL.y (hy := (by first | exact fa | exact faE)) (h := ?_)
  refine WL.y (hy := (by first | exact ld | exact ldE)) (h := ?_)
  refine cl0 (hc := fun w hS => C_ref3_within ..) (h := ?_)
  refine WL.y (hy := mv) (h := ?_)
  apply brAnd 5 9 14 (by exact rfl)
  · intro hb0
    refine un (h := ?_)
    refine WL.y (hy := (by first | exact fa | exact faE)) (h := ?_)
    refine un (h := ?_)
    refine WL.y (hy := (by first | exact fa | exact faE)) (h := ?_)
    refine un (h := ?_)
    refine WL.y (hy := (by first | exact ld | exact ldE)) (h := ?_)
    refine un (h := ?_)
    refine cl0 (hc := fun w hS => C_ref3_within ..) (h := ?_)
    refine WL.y (hy := (by first | exact pkT | exact pkF)) (h := ?_)
    exact mg (by repeat (first | exact trivial | refine ⟨rfl, ?_⟩ | refine ⟨by rw [hb0]; rfl, ?_⟩)) (by repeat (first | exact SubL.nil | (apply SubL.cons; (repeat (first | exact At.here | apply At.there))) | exact SubL.refl _ | apply SubL.skip))
  · intro hb0
    repeat (first | refine un (h := ?_) | refine sk (h := ?_) | refine WL.y (hy := pkF) (h := ?_) | refine WL.y (hy := pkT) (h := ?_))
    exact mg (by repeat (first | exact trivial | refine ⟨rfl, ?_⟩ | refine ⟨by rw [hb0]; rfl, ?_⟩)) (by repeat (first | exact SubL.nil | (apply SubL.cons; (repeat (first | exact At.here | apply At.there))) | exact SubL.refl _ | apply SubL.skip))
  refine WL.y (hy := asg) (h := ?_)
  refine nl (h := ?_)
  refine q_seq (h := ?_)
  refine sq (h := ?_)
  refine rg (h := ?_)
  refine WL.y (hy := (by first | exact fa | exact faE)) (h := ?_)
  refine WL.y (hy := (by first | exact ldA | exact ldEA)) (h := ?_)
  refine WL.y (hy := bd) (h := ?_)
  refine WL.y (hy := eqlT) (h := ?_)
  rw [zP]
  refine WL.y (hy := asg) (h := ?_)
  refine nl (h := ?_)
  refine q_seq (h := ?_)
  refine sq (h := ?_)
  refine sq (h := ?_)
  refine rg (h := ?_)
  refine WL.y (hy := (by first | exact fa | exact faE)) (h := ?_)
  refine WL.y (hy := (by first | exact ld | exact ldE)) (h := ?_)
  refine nl (h := ?_)
  refine q_seq (h := ?_)
  refine bk (h := ?_)
  refine sq (h := ?_)
  refine rg (h := ?_)
  refine WL.y (hy := eql) (h := ?_)
  refine WL.y (hy := asg) (h := ?_)
  refine nl (h := ?_)
  refine q_seq (h := ?_)
  refine cd (by exact rfl) (fun h1 => ?_) (fun h1 => ?_)
  · skip
    refine sq (h := ?_)
    refine rg (h := ?_)
    refine WL.y (hy := mv) (h := ?_)
    refine WL.y (hy := mv) (h := ?_)
    apply brAnd 4 24 28 (by exact rfl)
    · intro hb2
      refine un (h := ?_)
      refine WL.y (hy := (by first | exact fa | exact faE)) (h := ?_)
      refine un (h := ?_)
      refine WL.y (hy := (by first | exact ld | exact ldE)) (h := ?_)
      refine un (h := ?_)
      refine cl0 (hc := fun w hS => C_ref3_within ..) (h := ?_)
      refine WL.y (hy := (by first | exact pkT | exact pkF)) (h := ?_)
      exact mg (by repeat (first | exact trivial | refine ⟨rfl, ?_⟩ | refine ⟨by rw [hb2]; rfl, ?_⟩)) (by repeat (first | exact SubL.nil | (apply SubL.cons; (repeat (first | exact At.here | apply At.there))) | exact SubL.refl _ | apply SubL.skip))
    · intro hb2
      repeat (first | refine un (h := ?_) | refine sk (h := ?_) | refine WL.y (hy := pkF) (h := ?_) | refine WL.y (hy := pkT) (h := ?_))
      exact mg (by repeat (first | exact trivial | refine ⟨rfl, ?_⟩ | refine ⟨by rw [hb2]; rfl, ?_⟩)) (by repeat (first | exact SubL.nil | (apply SubL.cons; (repeat (first | exact At.here | apply At.there))) | exact SubL.refl _ | apply SubL.skip))
    refine WL.y (hy := asg) (h := ?_)
    refine nl (h := ?_)
    refine q_seq (h := ?_)
    refine rtn (h := ?_)
    refine q_blk_ret (h := ?_)
    refine q_then_ret (h := ?_)
    refine q_ret (hR := ?_)
    refine fun w hS => ⟨?_, hS.sub (by repeat (first | exact SubL.nil | (apply SubL.cons; (repeat (first | exact At.here | apply At.there))) | exact SubL.refl _ | apply SubL.skip))⟩
    clear hS
    first
      | (rw [hm]; rfl)
      | (simp_all [mkV, sdV, prV, resV, Bool.and_assoc, Bool.and_comm])
  · skip
    refine sq (h := ?_)
    refine rg (h := ?_)
    refine WL.y (hy := eql) (h := ?_)
    refine WL.y (hy := asg) (h := ?_)
    refine nl (h := ?_)
    refine q_seq (h := ?_)
    refine cd (by exact rfl) (fun h3 => ?_) (fun h3 => ?_)
    · skip
      have hm := mk_two (of_decide_eq_true h3)
      refine sq (h := ?_)
      refine rg (h := ?_)
      refine WL.y (hy := (by first | exact fa | exact faE)) (h := ?_)
      refine WL.y (hy := (by first | exact ld | exact ldE)) (h := ?_)
      refine WL.y (hy := eql) (h := ?_)
      refine WL.y (hy := mv) (h := ?_)
      apply brAnd 5 34 39 (by exact rfl)
      · intro hb4
        refine un (h := ?_)
        refine WL.y (hy := (by first | exact fa | exact faE)) (h := ?_)
        refine un (h := ?_)
        refine WL.y (hy := (by first | exact fa | exact faE)) (h := ?_)
        refine un (h := ?_)
        refine WL.y (hy := (by first | exact ld | exact ldE)) (h := ?_)
        refine un (h := ?_)
        refine cl0 (hc := fun w hS => C_ref3_within ..) (h := ?_)
        refine WL.y (hy := (by first | exact pkT | exact pkF)) (h := ?_)
        exact mg (by repeat (first | exact trivial | refine ⟨rfl, ?_⟩ | refine ⟨by rw [hb4]; rfl, ?_⟩)) (by repeat (first | exact SubL.nil | (apply SubL.cons; (repeat (first | exact At.here | apply At.there))) | exact SubL.refl _ | apply SubL.skip))
      · intro hb4
        repeat (first | refine un (h := ?_) | refine sk (h := ?_) | refine WL.y (hy := pkF) (h := ?_) | refine WL.y (hy := pkT) (h := ?_))
        exact mg (by repeat (first | exact trivial | refine ⟨rfl, ?_⟩ | refine ⟨by rw [hb4]; rfl, ?_⟩)) (by repeat (first | exact SubL.nil | (apply SubL.cons; (repeat (first | exact At.here | apply At.there))) | exact SubL.refl _ | apply SubL.skip))
      refine WL.y (hy := mv) (h := ?_)
      apply brAnd 8 40 48 (by exact rfl)
      · intro hb5
        refine un (h := ?_)
        refine WL.y (hy := (by first | exact fa | exact faE)) (h := ?_)
        refine un (h := ?_)
        refine WL.y (hy := (by first | exact fa | exact faE)) (h := ?_)
        refine un (h := ?_)
        refine WL.y (hy := (by first | exact ld | exact ldE)) (h := ?_)
        refine un (h := ?_)
        refine WL.y (hy := (by first | exact fa | exact faE)) (h := ?_)
        refine un (h := ?_)
        refine WL.y (hy := (by first | exact fa | exact faE)) (h := ?_)
        refine un (h := ?_)
        refine WL.y (hy := (by first | exact ld | exact ldE)) (h := ?_)
        refine un (h := ?_)
        refine cl0 (hc := fun w hS => C_ref3_within ..) (h := ?_)
        refine WL.y (hy := (by first | exact pkT | exact pkF)) (h := ?_)
        exact mg (by repeat (first | exact trivial | refine ⟨rfl, ?_⟩ | refine ⟨by rw [hb5]; rfl, ?_⟩)) (by repeat (first | exact SubL.nil | (apply SubL.cons; (repeat (first | exact At.here | apply At.there))) | exact SubL.refl _ | apply SubL.skip))
      · intro hb5
        repeat (first | refine un (h := ?_) | refine sk (h := ?_) | refine WL.y (hy := pkF) (h := ?_) | refine WL.y (hy := pkT) (h := ?_))
        exact mg (by repeat (first | exact trivial | refine ⟨rfl, ?_⟩ | refine ⟨by rw [hb5]; rfl, ?_⟩)) (by repeat (first | exact SubL.nil | (apply SubL.cons; (repeat (first | exact At.here | apply At.there))) | exact SubL.refl _ | apply SubL.skip))
      refine WL.y (hy := asg) (h := ?_)
      refine nl (h := ?_)
      refine q_seq (h := ?_)
      refine rtn (h := ?_)
      refine q_blk_ret (h := ?_)
      refine q_then_ret (h := ?_)
      refine q_ret (hR := ?_)
      refine fun w hS => ⟨?_, hS.sub (by repeat (first | exact SubL.nil | (apply SubL.cons; (repeat (first | exact At.here | apply At.there))) | exact SubL.refl _ | apply SubL.skip))⟩
      clear hS
      first
        | (rw [hm]; rfl)
        | (simp_all [mkV, sdV, prV, resV, Bool.and_assoc, Bool.and_comm])
    · skip
      refine sq (h := ?_)
      refine sq (h := ?_)
      refine rg (h := ?_)
      refine WL.y (hy := eql) (h := ?_)
      refine WL.y (hy := asg) (h := ?_)
      refine WL.cut (by repeat (first | exact Cut.nil | apply Cut.hit | apply Cut.miss (by exact rfl))) ?_
      refine nl (h := ?_)
      refine q_seq (h := ?_)
      refine cd (by exact rfl) (fun h6 => ?_) (fun h6 => ?_)
      · skip
        refine skp (h := ?_)
        refine q_seq (h := ?_)
        refine cd (by exact rfl) (fun h7 => ?_) (fun h7 => ?_)
        · skip
          refine sq (h := ?_)
          refine rg (h := ?_)
          refine WL.y (hy := (by first | exact fa | exact faE)) (h := ?_)
          refine WL.y (hy := (by first | exact ld | exact ldE)) (h := ?_)
          refine WL.y (hy := eql) (h := ?_)
          refine WL.y (hy := mv) (h := ?_)
          apply brAnd 2 56 58 (by exact rfl)
          · intro hb8
            refine un (h := ?_)
            refine WL.y (hy := mv) (h := ?_)
            refine WL.y (hy := (by first | exact pkT | exact pkF)) (h := ?_)
            exact mg (by repeat (first | exact trivial | refine ⟨rfl, ?_⟩ | refine ⟨by rw [hb8]; rfl, ?_⟩)) (by repeat (first | exact SubL.nil | (apply SubL.cons; (repeat (first | exact At.here | apply At.there))) | exact SubL.refl _ | apply SubL.skip))
          · intro hb8
            repeat (first | refine un (h := ?_) | refine sk (h := ?_) | refine WL.y (hy := pkF) (h := ?_) | refine WL.y (hy := pkT) (h := ?_))
            exact mg (by repeat (first | exact trivial | refine ⟨rfl, ?_⟩ | refine ⟨by rw [hb8]; rfl, ?_⟩)) (by repeat (first | exact SubL.nil | (apply SubL.cons; (repeat (first | exact At.here | apply At.there))) | exact SubL.refl _ | apply SubL.skip))
          refine WL.y (hy := asg) (h := ?_)
          refine nl (h := ?_)
          refine q_seq (h := ?_)
          refine rtn (h := ?_)
          refine q_blk_ret (h := ?_)
          refine q_then_ret (h := ?_)
          refine q_ret (hR := ?_)
          refine fun w hS => ⟨?_, hS.sub (by repeat (first | exact SubL.nil | (apply SubL.cons; (repeat (first | exact At.here | apply At.there))) | exact SubL.refl _ | apply SubL.skip))⟩
          clear hS
          first
            | (rw [hm]; rfl)
            | (simp_all [mkV, sdV, prV, resV, Bool.and_assoc, Bool.and_comm])
        · skip
          refine sq (h := ?_)
          refine sq (h := ?_)
          refine rg (h := ?_)
          refine WL.y (hy := eql) (h := ?_)
          refine WL.y (hy := asg) (h := ?_)
          refine WL.cut (by repeat (first | exact Cut.nil | apply Cut.hit | apply Cut.miss (by exact rfl))) ?_
          refine nl (h := ?_)
          refine q_seq (h := ?_)
          refine cd (by exact rfl) (fun h9 => ?_) (fun h9 => ?_)
          · skip
            refine skp (h := ?_)
            refine q_seq (h := ?_)
            refine cd (by exact rfl) (fun h10 => ?_) (fun h10 => ?_)
            · skip
              refine sq (h := ?_)
              refine rg (h := ?_)
              refine WL.y (hy := mv) (h := ?_)
              refine WL.y (hy := mv) (h := ?_)
              apply brAnd 4 63 67 (by exact rfl)
              · intro hb11
                refine un (h := ?_)
                refine WL.y (hy := (by first | exact fa | exact faE)) (h := ?_)
                refine un (h := ?_)
                refine WL.y (hy := (by first | exact ld | exact ldE)) (h := ?_)
                refine un (h := ?_)
                refine cl0 (hc := fun w hS => C_ref3_within ..) (h := ?_)
                refine WL.y (hy := (by first | exact pkT | exact pkF)) (h := ?_)
                exact mg (by repeat (first | exact trivial | refine ⟨rfl, ?_⟩ | refine ⟨by rw [hb11]; rfl, ?_⟩)) (by repeat (first | exact SubL.nil | (apply SubL.cons; (repeat (first | exact At.here | apply At.there))) | exact SubL.refl _ | apply SubL.skip))
              · intro hb11
                repeat (first | refine un (h := ?_) | refine sk (h := ?_) | refine WL.y (hy := pkF) (h := ?_) | refine WL.y (hy := pkT) (h := ?_))
                exact mg (by repeat (first | exact trivial | refine ⟨rfl, ?_⟩ | refine ⟨by rw [hb11]; rfl, ?_⟩)) (by repeat (first | exact SubL.nil | (apply SubL.cons; (repeat (first | exact At.here | apply At.there))) | exact SubL.refl _ | apply SubL.skip))
              refine WL.y (hy := asg) (h := ?_)
              refine nl (h := ?_)
              refine q_seq (h := ?_)
              refine rtn (h := ?_)
              refine q_blk_ret (h := ?_)
              refine q_then_ret (h := ?_)
              refine q_ret (hR := ?_)
              refine fun w hS => ⟨?_, hS.sub (by repeat (first | exact SubL.nil | (apply SubL.cons; (repeat (first | exact At.here | apply At.there))) | exact SubL.refl _ | apply SubL.skip))⟩
              clear hS
              first
                | (rw [hm]; rfl)
                | (simp_all [mkV, sdV, prV, resV, Bool.and_assoc, Bool.and_comm])
            · skip
              refine skp (h := ?_)
              refine q_blk_norm (h := ?_)
              refine q_seq (h := ?_)
              refine sq (h := ?_)
              refine rg (h := ?_)
              refine WL.y (hy := asg) (h := ?_)
              refine nl (h := ?_)
              refine q_seq (h := ?_)
              refine rtn (h := ?_)
              refine q_ret (hR := ?_)
              refine fun w hS => ⟨?_, hS.sub (by repeat (first | exact SubL.nil | (apply SubL.cons; (repeat (first | exact At.here | apply At.there))) | exact SubL.refl _ | apply SubL.skip))⟩
              clear hS
              first
                | (rw [hm]; rfl)
                | (simp_all [mkV, sdV, prV, resV, Bool.and_assoc, Bool.and_comm])
          · skip
            refine rg (h := ?_)
            refine WL.y (hy := eql) (h := ?_)
            refine WL.y (hy := asg) (h := ?_)
            refine WL.cut (by repeat (first | exact Cut.nil | apply Cut.hit | apply Cut.miss (by exact rfl))) ?_
            refine nl (h := ?_)
            refine q_seq (h := ?_)
            refine cd (by exact rfl) (fun h12 => ?_) (fun h12 => ?_)
            · skip
              refine sq (h := ?_)
              refine rg (h := ?_)
              refine WL.y (hy := mv) (h := ?_)
              refine WL.y (hy := mv) (h := ?_)
              apply brAnd 4 63 67 (by exact rfl)
              · intro hb13
                refine un (h := ?_)
                refine WL.y (hy := (by first | exact fa | exact faE)) (h := ?_)
                refine un (h := ?_)
                refine WL.y (hy := (by first | exact ld | exact ldE)) (h := ?_)
                refine un (h := ?_)
                refine cl0 (hc := fun w hS => C_ref3_within ..) (h := ?_)
                refine WL.y (hy := (by first | exact pkT | exact pkF)) (h := ?_)
                exact mg (by repeat (first | exact trivial | refine ⟨rfl, ?_⟩ | refine ⟨by rw [hb13]; rfl, ?_⟩)) (by repeat (first | exact SubL.nil | (apply SubL.cons; (repeat (first | exact At.here | apply At.there))) | exact SubL.refl _ | apply SubL.skip))
              · intro hb13
                repeat (first | refine un (h := ?_) | refine sk (h := ?_) | refine WL.y (hy := pkF) (h := ?_) | refine WL.y (hy := pkT) (h := ?_))
                exact mg (by repeat (first | exact trivial | refine ⟨rfl, ?_⟩ | refine ⟨by rw [hb13]; rfl, ?_⟩)) (by repeat (first | exact SubL.nil | (apply SubL.cons; (repeat (first | exact At.here | apply At.there))) | exact SubL.refl _ | apply SubL.skip))
              refine WL.y (hy := asg) (h := ?_)
              refine nl (h := ?_)
              refine q_seq (h := ?_)
              refine rtn (h := ?_)
              refine q_blk_ret (h := ?_)
              refine q_then_ret (h := ?_)
              refine q_ret (hR := ?_)
              refine fun w hS => ⟨?_, hS.sub (by repeat (first | exact SubL.nil | (apply SubL.cons; (repeat (first | exact At.here | apply At.there))) | exact SubL.refl _ | apply SubL.skip))⟩
              clear hS
              first
                | (rw [hm]; rfl)
                | (simp_all [mkV, sdV, prV, resV, Bool.and_assoc, Bool.and_comm])
            · skip
              refine skp (h := ?_)
              refine q_blk_norm (h := ?_)
              refine q_seq (h := ?_)
              refine sq (h := ?_)
              refine rg (h := ?_)
              refine WL.y (hy := asg) (h := ?_)
              refine nl (h := ?_)
              refine q_seq (h := ?_)
              refine rtn (h := ?_)
              refine q_ret (hR := ?_)
              refine fun w hS => ⟨?_, hS.sub (by repeat (first | exact SubL.nil | (apply SubL.cons; (repeat (first | exact At.here | apply At.there))) | exact SubL.refl _ | apply SubL.skip))⟩
              clear hS
              first
                | (rw [hm]; rfl)
                | (simp_all [mkV, sdV, prV, resV, Bool.and_assoc, Bool.and_comm])
      · skip
        refine sq (h := ?_)
        refine rg (h := ?_)
        refine WL.y (hy := eql) (h := ?_)
        refine WL.y (hy := asg) (h := ?_)
        refine WL.cut (by repeat (first | exact Cut.nil | apply Cut.hit | apply Cut.miss (by exact rfl))) ?_
        refine nl (h := ?_)
        refine q_seq (h := ?_)
        refine cd (by exact rfl) (fun h14 => ?_) (fun h14 => ?_)
        · skip
          refine skp (h := ?_)
          refine q_seq (h := ?_)
          refine cd (by exact rfl) (fun h15 => ?_) (fun h15 => ?_)
          · skip
            refine sq (h := ?_)
            refine rg (h := ?_)
            refine WL.y (hy := (by first | exact fa | exact faE)) (h := ?_)
            refine WL.y (hy := (by first | exact ld | exact ldE)) (h := ?_)
            refine WL.y (hy := eql) (h := ?_)
            refine WL.y (hy := mv) (h := ?_)
            apply brAnd 2 56 58 (by exact rfl)
            · intro hb16
              refine un (h := ?_)
              refine WL.y (hy := mv) (h := ?_)
              refine WL.y (hy := (by first | exact pkT | exact pkF)) (h := ?_)
              exact mg (by repeat (first | exact trivial | refine ⟨rfl, ?_⟩ | refine ⟨by rw [hb16]; rfl, ?_⟩)) (by repeat (first | exact SubL.nil | (apply SubL.cons; (repeat (first | exact At.here | apply At.there))) | exact SubL.refl _ | apply SubL.skip))
            · intro hb16
              repeat (first | refine un (h := ?_) | refine sk (h := ?_) | refine WL.y (hy := pkF) (h := ?_) | refine WL.y (hy := pkT) (h := ?_))
              exact mg (by repeat (first | exact trivial | refine ⟨rfl, ?_⟩ | refine ⟨by rw [hb16]; rfl, ?_⟩)) (by repeat (first | exact SubL.nil | (apply SubL.cons; (repeat (first | exact At.here | apply At.there))) | exact SubL.refl _ | apply SubL.skip))
            refine WL.y (hy := asg) (h := ?_)
            refine nl (h := ?_)
            refine q_seq (h := ?_)
            refine rtn (h := ?_)
            refine q_blk_ret (h := ?_)
            refine q_then_ret (h := ?_)
            refine q_ret (hR := ?_)
            refine fun w hS => ⟨?_, hS.sub (by repeat (first | exact SubL.nil | (apply SubL.cons; (repeat (first | exact At.here | apply At.there))) | exact SubL.refl _ | apply SubL.skip))⟩
            clear hS
            first
              | (rw [hm]; rfl)
              | (simp_all [mkV, sdV, prV, resV, Bool.and_assoc, Bool.and_comm])
          · skip
            refine sq (h := ?_)
            refine sq (h := ?_)
            refine rg (h := ?_)
            refine WL.y (hy := eql) (h := ?_)
            refine WL.y (hy := asg) (h := ?_)
            refine WL.cut (by repeat (first | exact Cut.nil | apply Cut.hit | apply Cut.miss (by exact rfl))) ?_
            refine nl (h := ?_)
            refine q_seq (h := ?_)
            refine cd (by exact rfl) (fun h17 => ?_) (fun h17 => ?_)
            · skip
              refine skp (h := ?_)
              refine q_seq (h := ?_)
              refine cd (by exact rfl) (fun h18 => ?_) (fun h18 => ?_)
              · skip
                refine sq (h := ?_)
                refine rg (h := ?_)
                refine WL.y (hy := mv) (h := ?_)
                refine WL.y (hy := mv) (h := ?_)
                apply brAnd 4 63 67 (by exact rfl)
                · intro hb19
                  refine un (h := ?_)
                  refine WL.y (hy := (by first | exact fa | exact faE)) (h := ?_)
                  refine un (h := ?_)
                  refine WL.y (hy := (by first | exact ld | exact ldE)) (h := ?_)
                  refine un (h := ?_)
                  refine cl0 (hc := fun w hS => C_ref3_within ..) (h := ?_)
                  refine WL.y (hy := (by first | exact pkT | exact pkF)) (h := ?_)
                  exact mg (by repeat (first | exact trivial | refine ⟨rfl, ?_⟩ | refine ⟨by rw [hb19]; rfl, ?_⟩)) (by repeat (first | exact SubL.nil | (apply SubL.cons; (repeat (first | exact At.here | apply At.there))) | exact SubL.refl _ | apply SubL.skip))
                · intro hb19
                  repeat (first | refine un (h := ?_) | refine sk (h := ?_) | refine WL.y (hy := pkF) (h := ?_) | refine WL.y (hy := pkT) (h := ?_))
                  exact mg (by repeat (first | exact trivial | refine ⟨rfl, ?_⟩ | refine ⟨by rw [hb19]; rfl, ?_⟩)) (by repeat (first | exact SubL.nil | (apply SubL.cons; (repeat (first | exact At.here | apply At.there))) | exact SubL.refl _ | apply SubL.skip))
                refine WL.y (hy := asg) (h := ?_)
                refine nl (h := ?_)
                refine q_seq (h := ?_)
                refine rtn (h := ?_)
                refine q_blk_ret (h := ?_)
                refine q_then_ret (h := ?_)
                refine q_ret (hR := ?_)
                refine fun w hS => ⟨?_, hS.sub (by repeat (first | exact SubL.nil | (apply SubL.cons; (repeat (first | exact At.here | apply At.there))) | exact SubL.refl _ | apply SubL.skip))⟩
                clear hS
                first
                  | (rw [hm]; rfl)
                  | (simp_all [mkV, sdV, prV, resV, Bool.and_assoc, Bool.and_comm])
              · skip
                refine skp (h := ?_)
                refine q_blk_norm (h := ?_)
                refine q_seq (h := ?_)
                refine sq (h := ?_)
                refine rg (h := ?_)
                refine WL.y (hy := asg) (h := ?_)
                refine nl (h := ?_)
                refine q_seq (h := ?_)
                refine rtn (h := ?_)
                refine q_ret (hR := ?_)
                refine fun w hS => ⟨?_, hS.sub (by repeat (first | exact SubL.nil | (apply SubL.cons; (repeat (first | exact At.here | apply At.there))) | exact SubL.refl _ | apply SubL.skip))⟩
                clear hS
                first
                  | (rw [hm]; rfl)
                  | (simp_all [mkV, sdV, prV, resV, Bool.and_assoc, Bool.and_comm])
            · skip
              refine rg (h := ?_)
              refine WL.y (hy := eql) (h := ?_)
              refine WL.y (hy := asg) (h := ?_)
              refine WL.cut (by repeat (first | exact Cut.nil | apply Cut.hit | apply Cut.miss (by exact rfl))) ?_
              refine nl (h := ?_)
              refine q_seq (h := ?_)
              refine cd (by exact rfl) (fun h20 => ?_) (fun h20 => ?_)
              · skip
                refine sq (h := ?_)
                refine rg (h := ?_)
                refine WL.y (hy := mv) (h := ?_)
                refine WL.y (hy := mv) (h := ?_)
                apply brAnd 4 63 67 (by exact rfl)
                · intro hb21
                  refine un (h := ?_)
                  refine WL.y (hy := (by first | exact fa | exact faE)) (h := ?_)
                  refine un (h := ?_)
                  refine WL.y (hy := (by first | exact ld | exact ldE)) (h := ?_)
                  refine un (h := ?_)
                  refine cl0 (hc := fun w hS => C_ref3_within ..) (h := ?_)
                  refine WL.y (hy := (by first | exact pkT | exact pkF)) (h := ?_)
                  exact mg (by repeat (first | exact trivial | refine ⟨rfl, ?_⟩ | refine ⟨by rw [hb21]; rfl, ?_⟩)) (by repeat (first | exact SubL.nil | (apply SubL.cons; (repeat (first | exact At.here | apply At.there))) | exact SubL.refl _ | apply SubL.skip))
                · intro hb21
                  repeat (first | refine un (h := ?_) | refine sk (h := ?_) | refine WL.y (hy := pkF) (h := ?_) | refine WL.y (hy := pkT) (h := ?_))
                  exact mg (by repeat (first | exact trivial | refine ⟨rfl, ?_⟩ | refine ⟨by rw [hb21]; rfl, ?_⟩)) (by repeat (first | exact SubL.nil | (apply SubL.cons; (repeat (first | exact At.here | apply At.there))) | exact SubL.refl _ | apply SubL.skip))
                refine WL.y (hy := asg) (h := ?_)
                refine nl (h := ?_)
                refine q_seq (h := ?_)
                refine rtn (h := ?_)
                refine q_blk_ret (h := ?_)
                refine q_then_ret (h := ?_)
                refine q_ret (hR := ?_)
                refine fun w hS => ⟨?_, hS.sub (by repeat (first | exact SubL.nil | (apply SubL.cons; (repeat (first | exact At.here | apply At.there))) | exact SubL.refl _ | apply SubL.skip))⟩
                clear hS
                first
                  | (rw [hm]; rfl)
                  | (simp_all [mkV, sdV, prV, resV, Bool.and_assoc, Bool.and_comm])
              · skip
                refine skp (h := ?_)
                refine q_blk_norm (h := ?_)
                refine q_seq (h := ?_)
                refine sq (h := ?_)
                refine rg (h := ?_)
                refine WL.y (hy := asg) (h := ?_)
                refine nl (h := ?_)
                refine q_seq (h := ?_)
                refine rtn (h := ?_)
                refine q_ret (hR := ?_)
                refine fun w hS => ⟨?_, hS.sub (by repeat (first | exact SubL.nil | (apply SubL.cons; (repeat (first | exact At.here | apply At.there))) | exact SubL.refl _ | apply SubL.skip))⟩
                clear hS
                first
                  | (rw [hm]; rfl)
                  | (simp_all [mkV, sdV, prV, resV, Bool.and_assoc, Bool.and_comm])
        · skip
          refine rg (h := ?_)
          refine WL.y (hy := eql) (h := ?_)
          refine WL.y (hy := asg) (h := ?_)
          refine WL.cut (by repeat (first | exact Cut.nil | apply Cut.hit | apply Cut.miss (by exact rfl))) ?_
          refine nl (h := ?_)
          refine q_seq (h := ?_)
          refine cd (by exact rfl) (fun h22 => ?_) (fun h22 => ?_)
          · skip
            refine sq (h := ?_)
            refine rg (h := ?_)
            refine WL.y (hy := (by first | exact fa | exact faE)) (h := ?_)
            refine WL.y (hy := (by first | exact ld | exact ldE)) (h := ?_)
            refine WL.y (hy := eql) (h := ?_)
            refine WL.y (hy := mv) (h := ?_)
            apply brAnd 2 56 58 (by exact rfl)
            · intro hb23
              refine un (h := ?_)
              refine WL.y (hy := mv) (h := ?_)
              refine WL.y (hy := (by first | exact pkT | exact pkF)) (h := ?_)
              exact mg (by repeat (first | exact trivial | refine ⟨rfl, ?_⟩ | refine ⟨by rw [hb23]; rfl, ?_⟩)) (by repeat (first | exact SubL.nil | (apply SubL.cons; (repeat (first | exact At.here | apply At.there))) | exact SubL.refl _ | apply SubL.skip))
            · intro hb23
              repeat (first | refine un (h := ?_) | refine sk (h := ?_) | refine WL.y (hy := pkF) (h := ?_) | refine WL.y (hy := pkT) (h := ?_))
              exact mg (by repeat (first | exact trivial | refine ⟨rfl, ?_⟩ | refine ⟨by rw [hb23]; rfl, ?_⟩)) (by repeat (first | exact SubL.nil | (apply SubL.cons; (repeat (first | exact At.here | apply At.there))) | exact SubL.refl _ | apply SubL.skip))
            refine WL.y (hy := asg) (h := ?_)
            refine nl (h := ?_)
            refine q_seq (h := ?_)
            refine rtn (h := ?_)
            refine q_blk_ret (h := ?_)
            refine q_then_ret (h := ?_)
            refine q_ret (hR := ?_)
            refine fun w hS => ⟨?_, hS.sub (by repeat (first | exact SubL.nil | (apply SubL.cons; (repeat (first | exact At.here | apply At.there))) | exact SubL.refl _ | apply SubL.skip))⟩
            clear hS
            first
              | (rw [hm]; rfl)
              | (simp_all [mkV, sdV, prV, resV, Bool.and_assoc, Bool.and_comm])
          · skip
            refine sq (h := ?_)
            refine sq (h := ?_)
            refine rg (h := ?_)
            refine WL.y (hy := eql) (h := ?_)
            refine WL.y (hy := asg) (h := ?_)
            refine WL.cut (by repeat (first | exact Cut.nil | apply Cut.hit | apply Cut.miss (by exact rfl))) ?_
            refine nl (h := ?_)
            refine q_seq (h := ?_)
            refine cd (by exact rfl) (fun h24 => ?_) (fun h24 => ?_)
            · skip
              refine skp (h := ?_)
              refine q_seq (h := ?_)
              refine cd (by exact rfl) (fun h25 => ?_) (fun h25 => ?_)
              · skip
                refine sq (h := ?_)
                refine rg (h := ?_)
                refine WL.y (hy := mv) (h := ?_)
                refine WL.y (hy := mv) (h := ?_)
                apply brAnd 4 63 67 (by exact rfl)
                · intro hb26
                  refine un (h := ?_)
                  refine WL.y (hy := (by first | exact fa | exact faE)) (h := ?_)
                  refine un (h := ?_)
                  refine WL.y (hy := (by first | exact ld | exact ldE)) (h := ?_)
                  refine un (h := ?_)
                  refine cl0 (hc := fun w hS => C_ref3_within ..) (h := ?_)
                  refine WL.y (hy := (by first | exact pkT | exact pkF)) (h := ?_)
                  exact mg (by repeat (first | exact trivial | refine ⟨rfl, ?_⟩ | refine ⟨by rw [hb26]; rfl, ?_⟩)) (by repeat (first | exact SubL.nil | (apply SubL.cons; (repeat (first | exact At.here | apply At.there))) | exact SubL.refl _ | apply SubL.skip))
                · intro hb26
                  repeat (first | refine un (h := ?_) | refine sk (h := ?_) | refine WL.y (hy := pkF) (h := ?_) | refine WL.y (hy := pkT) (h := ?_))
                  exact mg (by repeat (first | exact trivial | refine ⟨rfl, ?_⟩ | refine ⟨by rw [hb26]; rfl, ?_⟩)) (by repeat (first | exact SubL.nil | (apply SubL.cons; (repeat (first | exact At.here | apply At.there))) | exact SubL.refl _ | apply SubL.skip))
                refine WL.y (hy := asg) (h := ?_)
                refine nl (h := ?_)
                refine q_seq (h := ?_)
                refine rtn (h := ?_)
                refine q_blk_ret (h := ?_)
                refine q_then_ret (h := ?_)
                refine q_ret (hR := ?_)
                refine fun w hS => ⟨?_, hS.sub (by repeat (first | exact SubL.nil | (apply SubL.cons; (repeat (first | exact At.here | apply At.there))) | exact SubL.refl _ | apply SubL.skip))⟩
                clear hS
                first
                  | (rw [hm]; rfl)
                  | (simp_all [mkV, sdV, prV, resV, Bool.and_assoc, Bool.and_comm])
              · skip
                refine skp (h := ?_)
                refine q_blk_norm (h := ?_)
                refine q_seq (h := ?_)
                refine sq (h := ?_)
                refine rg (h := ?_)
                refine WL.y (hy := asg) (h := ?_)
                refine nl (h := ?_)
                refine q_seq (h := ?_)
                refine rtn (h := ?_)
                refine q_ret (hR := ?_)
                refine fun w hS => ⟨?_, hS.sub (by repeat (first | exact SubL.nil | (apply SubL.cons; (repeat (first | exact At.here | apply At.there))) | exact SubL.refl _ | apply SubL.skip))⟩
                clear hS
                first
                  | (rw [hm]; rfl)
                  | (simp_all [mkV, sdV, prV, resV, Bool.and_assoc, Bool.and_comm])
            · skip
              refine rg (h := ?_)
              refine WL.y (hy := eql) (h := ?_)
              refine WL.y (hy := asg) (h := ?_)
              refine WL.cut (by repeat (first | exact Cut.nil | apply Cut.hit | apply Cut.miss (by exact rfl))) ?_
              refine nl (h := ?_)
              refine q_seq (h := ?_)
              refine cd (by exact rfl) (fun h27 => ?_) (fun h27 => ?_)
              · skip
                refine sq (h := ?_)
                refine rg (h := ?_)
                refine WL.y (hy := mv) (h := ?_)
                refine WL.y (hy := mv) (h := ?_)
                apply brAnd 4 63 67 (by exact rfl)
                · intro hb28
                  refine un (h := ?_)
                  refine WL.y (hy := (by first | exact fa | exact faE)) (h := ?_)
                  refine un (h := ?_)
                  refine WL.y (hy := (by first | exact ld | exact ldE)) (h := ?_)
                  refine un (h := ?_)
                  refine cl0 (hc := fun w hS => C_ref3_within ..) (h := ?_)
                  refine WL.y (hy := (by first | exact pkT | exact pkF)) (h := ?_)
                  exact mg (by repeat (first | exact trivial | refine ⟨rfl, ?_⟩ | refine ⟨by rw [hb28]; rfl, ?_⟩)) (by repeat (first | exact SubL.nil | (apply SubL.cons; (repeat (first | exact At.here | apply At.there))) | exact SubL.refl _ | apply SubL.skip))
                · intro hb28
                  repeat (first | refine un (h := ?_) | refine sk (h := ?_) | refine WL.y (hy := pkF) (h := ?_) | refine WL.y (hy := pkT) (h := ?_))
                  exact mg (by repeat (first | exact trivial | refine ⟨rfl, ?_⟩ | refine ⟨by rw [hb28]; rfl, ?_⟩)) (by repeat (first | exact SubL.nil | (apply SubL.cons; (repeat (first | exact At.here | apply At.there))) | exact SubL.refl _ | apply SubL.skip))
                refine WL.y (hy := asg) (h := ?_)
                refine nl (h := ?_)
                refine q_seq (h := ?_)
                refine rtn (h := ?_)
                refine q_blk_ret (h := ?_)
                refine q_then_ret (h := ?_)
                refine q_ret (hR := ?_)
                refine fun w hS => ⟨?_, hS.sub (by repeat (first | exact SubL.nil | (apply SubL.cons; (repeat (first | exact At.here | apply At.there))) | exact SubL.refl _ | apply SubL.skip))⟩
                clear hS
                first
                  | (rw [hm]; rfl)
                  | (simp_all [mkV, sdV, prV, resV, Bool.and_assoc, Bool.and_comm])
              · skip
                refine skp (h := ?_)
                refine q_blk_norm (h := ?_)
                refine q_seq (h := ?_)
                refine sq (h := ?_)
                refine rg (h := ?_)
                refine WL.y (hy := asg) (h := ?_)
                refine nl (h := ?_)
                refine q_seq (h := ?_)
                refine rtn (h := ?_)
                refine q_ret (hR := ?_)
                refine fun w hS => ⟨?_, hS.sub (by repeat (first | exact SubL.nil | (apply SubL.cons; (repeat (first | exact At.here | apply At.there))) | exact SubL.refl _ | apply SubL.skip))⟩
                clear hS
                first
                  | (rw [hm]; rfl)
                  | (simp_all [mkV, sdV, prV, resV, Bool.and_assoc, Bool.and_comm])
theorem C_ref3_Most (x : Nt) (w : World) : C0 Tryz.prog 36 [x.val] w (.int .i64 (mostN x)) := by
  refine ⟨en Tryz.func36 Tryz.ntmps36 (St.init w) (h := fun F => ?_)⟩
  refine sq (h := ?_)
  refine rg (h := ?_)
  refine bxA (h := fun b0 => ?_)
  refine WL.y (hy := asg) (h := ?_)
  refine nl (h := ?_)
  refine q_seq (h := ?_)
  refine sq (h := ?_)
  refine sq (h := ?_)
  refine rg (h := ?_)
  refine WL.y (hy := (by first | exact fa | exact faE)) (h := ?_)
  refine WL.y (hy := (by first | exact ld | exact ldE)) (h := ?_)
  refine nl (h := ?_)
  refine q_seq (h := ?_)
  refine bk (h := ?_)
  refine sq (h := ?_)
  refine rg (h := ?_)
  refine WL.y (hy := eql) (h := ?_)
  refine WL.y (hy := asg) (h := ?_)
  refine nl (h := ?_)
  refine q_seq (h := ?_)
  refine cd (by exact rfl) (fun h0 => ?_) (fun h0 => ?_)
  · skip
    have hm : mostN x = 1 := by unfold mostN; rw [if_pos (of_decide_eq_true h0)]
    refine sq (h := ?_)
    refine rg (h := ?_)
    refine WL.y (hy := asg) (h := ?_)
    refine nl (h := ?_)
    refine q_seq (h := ?_)
    refine rtn (h := ?_)
    refine q_blk_ret (h := ?_)
    refine q_then_ret (h := ?_)
    refine q_ret (hR := ?_)
    rw [hm]
    exact fun w hS => ⟨rfl, hS.sub (by repeat (first | exact SubL.nil | (apply SubL.cons; (repeat (first | exact At.here | apply At.there))) | exact SubL.refl _ | apply SubL.skip))⟩
  · skip
    have n1 := of_decide_eq_false h0
    refine sq (h := ?_)
    refine rg (h := ?_)
    refine WL.y (hy := eql) (h := ?_)
    refine WL.y (hy := asg) (h := ?_)
    refine nl (h := ?_)
    refine q_seq (h := ?_)
    refine cd (by exact rfl) (fun h1 => ?_) (fun h1 => ?_)
    · skip
      have hm : mostN x = x.pair.2 := by unfold mostN; rw [if_neg n1, if_pos (of_decide_eq_true h1)]
      refine sq (h := ?_)
      refine rg (h := ?_)
      refine WL.y (hy := (by first | exact fa | exact faE)) (h := ?_)
      refine WL.y (hy := (by first | exact fa | exact faE)) (h := ?_)
      refine WL.y (hy := (by first | exact ld | exact ldE)) (h := ?_)
      refine WL.y (hy := asg) (h := ?_)
      refine nl (h := ?_)
      refine q_seq (h := ?_)
      refine rtn (h := ?_)
      refine q_blk_ret (h := ?_)
      refine q_then_ret (h := ?_)
      refine q_ret (hR := ?_)
      rw [hm]
      exact fun w hS => ⟨rfl, hS.sub (by repeat (first | exact SubL.nil | (apply SubL.cons; (repeat (first | exact At.here | apply At.there))) | exact SubL.refl _ | apply SubL.skip))⟩
    · skip
      have hm : mostN x = 0 := by unfold mostN; rw [if_neg n1, if_neg (of_decide_eq_false h1)]
      refine skp (h := ?_)
      refine q_blk_norm (h := ?_)
      refine q_seq (h := ?_)
      refine sq (h := ?_)
      refine rg (h := ?_)
      refine WL.y (hy := asg) (h := ?_)
      refine nl (h := ?_)
      refine q_seq (h := ?_)
      refine rtn (h := ?_)
      refine q_ret (hR := ?_)
      rw [hm]
      exact fun w hS => ⟨rfl, hS.sub (by repeat (first | exact SubL.nil | (apply SubL.cons; (repeat (first | exact At.here | apply At.there))) | exact SubL.refl _ | apply SubL.skip))⟩
theorem C_ref3_Check (f : Fmt) (first : Int) (xs : List Nt) (A : Option Addr) (n c : Nat) (w : World) (h : Rd w A 4 n (encN xs)) (hn : n ≤ 9223372036854775807) : C0 Tryz.prog 11 [.agg (cardC f first A n c).toArray] w (.int .i64 (chkC f first xs)) := by
  have hlen : xs.length = n := by have := h.len; rwa [encN_len] at this
  refine ⟨en Tryz.func11 Tryz.ntmps11 ((St.init w).share (e := .ro A 4 n (encN xs)) h rfl rfl rfl) (h := fun F => ?_)⟩
  refine sq (h := ?_)
  refine rg (h := ?_)
  refine bxA (h := fun b0 => ?_)
  refine WL.y (hy := asg) (h := ?_)
  refine nl (h := ?_)
  refine q_seq (h := ?_)
  refine sq (h := ?_)
  refine sq (h := ?_)
  refine rg (h := ?_)
  refine WL.y (hy := (by first | exact fa | exact faE)) (h := ?_)
  refine WL.y (hy := (by first | exact ldA | exact ldEA)) (h := ?_)
  refine cl0 (hc := fun w hS => C_ref1_Check f w) (h := ?_)
  refine WL.y (hy := neq) (h := ?_)
  refine WL.y (hy := mv) (h := ?_)
  apply brOr 5 9 14 (by exact rfl)
  · intro hb0
    refine un (h := ?_)
    refine WL.y (hy := (by first | exact fa | exact faE)) (h := ?_)
    refine un (h := ?_)
    refine WL.y (hy := (by first | exact ld | exact ldE)) (h := ?_)
    refine un (h := ?_)
    refine cl0 (hc := fun w hS => C_ref3_within ..) (h := ?_)
    refine un (h := ?_)
    refine WL.y (hy := notB) (h := ?_)
    refine WL.y (hy := (by first | exact pkT | exact pkF)) (h := ?_)
    exact mg (by repeat (first | exact trivial | refine ⟨rfl, ?_⟩ | refine ⟨by rw [hb0]; rfl, ?_⟩)) (by repeat (first | exact SubL.nil | (apply SubL.cons; (repeat (first | exact At.here | apply At.there))) | exact SubL.refl _ | apply SubL.skip))
  · intro hb0
    repeat (first | refine un (h := ?_) | refine sk (h := ?_) | refine WL.y (hy := pkF) (h := ?_) | refine WL.y (hy := pkT) (h := ?_))
    exact mg (by repeat (first | exact trivial | refine ⟨rfl, ?_⟩ | refine ⟨by rw [hb0]; rfl, ?_⟩)) (by repeat (first | exact SubL.nil | (apply SubL.cons; (repeat (first | exact At.here | apply At.there))) | exact SubL.refl _ | apply SubL.skip))
  refine WL.y (hy := mv) (h := ?_)
  apply brOr 5 15 20 (by exact rfl)
  · intro hb1
    refine un (h := ?_)
    refine WL.y (hy := (by first | exact fa | exact faE)) (h := ?_)
    refine un (h := ?_)
    refine WL.y (hy := (by first | exact ld | exact ldE)) (h := ?_)
    refine un (h := ?_)
    refine WL.y (hy := lenS) (h := ?_)
    refine un (h := ?_)
    refine WL.y (hy := gtr) (h := ?_)
    refine WL.y (hy := (by first | exact pkT | exact pkF)) (h := ?_)
    exact mg (by repeat (first | exact trivial | refine ⟨rfl, ?_⟩ | refine ⟨by rw [hb1]; rfl, ?_⟩)) (by repeat (first | exact SubL.nil | (apply SubL.cons; (repeat (first | exact At.here | apply At.there))) | exact SubL.refl _ | apply SubL.skip))
  · intro hb1
    repeat (first | refine un (h := ?_) | refine sk (h := ?_) | refine WL.y (hy := pkF) (h := ?_) | refine WL.y (hy := pkT) (h := ?_))
    exact mg (by repeat (first | exact trivial | refine ⟨rfl, ?_⟩ | refine ⟨by rw [hb1]; rfl, ?_⟩)) (by repeat (first | exact SubL.nil | (apply SubL.cons; (repeat (first | exact At.here | apply At.there))) | exact SubL.refl _ | apply SubL.skip))
  refine nl (h := ?_)
  refine q_seq (h := ?_)
  refine cd (by exact rfl) (fun h2 => ?_) (fun h2 => ?_)
  · skip
    have hE : chkC f first xs = 30 := by
      have h' : headB f first xs.length = true := by rw [hlen]; exact h2
      rw [chkC, h']; rfl
    refine sq (h := ?_)
    refine rg (h := ?_)
    refine WL.y (hy := asg) (h := ?_)
    refine nl (h := ?_)
    refine q_seq (h := ?_)
    refine rtn (h := ?_)
    refine q_then_ret (h := ?_)
    refine q_ret (hR := ?_)
    rw [hE]
    exact fun w hS => ⟨rfl, hS.sub (by repeat (first | exact SubL.nil | (apply SubL.cons; (repeat (first | exact At.here | apply At.there))) | exact SubL.refl _ | apply SubL.skip))⟩
  · skip
    have hH : headB f first xs.length = false := by rw [hlen]; exact h2
    have hn30 : n ≤ 30 := by
      have h' := hH
      unfold headB at h'
      simp only [Bool.or_eq_false_iff, decide_eq_false_iff_not] at h'
      omega
    refine skp (h := ?_)
    refine q_seq (h := ?_)
    refine sq (h := ?_)
    refine rg (h := ?_)
    refine WL.y (hy := asg) (h := ?_)
    refine WL.cut (by repeat (first | exact Cut.nil | apply Cut.hit | apply Cut.miss (by exact rfl))) ?_
    refine nl (h := ?_)
    refine q_seq (h := ?_)
    refine sq (h := ?_)
    refine sq (h := ?_)
    refine rg (h := ?_)
    refine WL.y (hy := asg) (h := ?_)
    refine WL.cut (by repeat (first | exact Cut.nil | apply Cut.hit | apply Cut.miss (by exact rfl))) ?_
    refine nl (h := ?_)
    refine q_seq (h := ?_)
    refine bk (h := ?_)
    refine lp (X := CKZ) (I := fun z => z.k ≤ n ∧ (xs.take z.k).all mkV = true ∧ 0 ≤ mostS (xs.take z.k) ∧ mostS (xs.take z.k) ≤ 30 * (z.k : Int)) (le := fun z => [(1, .pointer (some ⟨b0, 0, none⟩)), (3, .int .i64 (mostS (xs.take z.k))), (4, .int .i64 z.k)]) (Le := fun z => [.blk b0 26 (cardC f first A n c), .ro A 4 n (encN xs)]) (μ := fun z => n - z.k) ⟨0⟩ ⟨Nat.zero_le _, rfl, by exact Int.le_refl _, by exact Int.le_refl _⟩ (by repeat (first | exact trivial | refine ⟨rfl, ?_⟩)) (by repeat (first | exact SubL.nil | (apply SubL.cons; (repeat (first | exact At.here | apply At.there))) | exact SubL.refl _ | apply SubL.skip)) (fun z hz => ?_)
    obtain ⟨hzk, hza, hz0, hzm⟩ := hz
    refine sq (h := ?_)
    refine sq (h := ?_)
    refine rg (h := ?_)
    refine WL.y (hy := mv) (h := ?_)
    refine WL.y (hy := (by first | exact fa | exact faE)) (h := ?_)
    refine WL.y (hy := (by first | exact ld | exact ldE)) (h := ?_)
    refine WL.y (hy := lenS) (h := ?_)
    refine WL.y (hy := lss) (h := ?_)
    refine nl (h := ?_)
    refine q_seq (h := ?_)
    refine cd (by exact rfl) (fun h3 => ?_) (fun h3 => ?_)
    · skip
      have hkn : z.k < n := by simp only [decide_eq_true_eq] at h3; omega
      obtain ⟨x, hx⟩ : ∃ x, xs[z.k]? = some x := ⟨_, List.getElem?_eq_getElem (by omega)⟩
      have hxe := encN_at hx
      have hms := mostS_succ hx
      have hal := all_take hx
      refine skp (h := ?_)
      refine q_seq (h := ?_)
      refine sq (h := ?_)
      refine bk (h := ?_)
      refine sq (h := ?_)
      refine sq (h := ?_)
      refine rg (h := ?_)
      refine WL.y (hy := (by first | exact fa | exact faE)) (h := ?_)
      refine WL.y (hy := (by first | exact ld | exact ldE)) (h := ?_)
      refine WL.y (hy := mv) (h := ?_)
      refine WL.y (hy := ix (hb := by omega)) (h := ?_)
      refine WL.y (hy := ldEA (hk := hxe)) (h := ?_)
      refine cl0 (hc := fun w hS => C_ref3_IsMark _ w) (h := ?_)
      refine WL.y (hy := notB) (h := ?_)
      refine nl (h := ?_)
      refine q_seq (h := ?_)
      refine cd (by exact rfl) (fun h4 => ?_) (fun h4 => ?_)
      · skip
        have hE : chkC f first xs = 30 := by
          have h1 : (!mkV x) = true := h4
          have h2 : xs.all mkV = false := all_bad (k := z.k + 1) (by rw [hal, show mkV x = false by simpa using h1, Bool.and_false])
          rw [chkC, hH, h2]; rfl
        refine sq (h := ?_)
        refine rg (h := ?_)
        refine WL.y (hy := asg) (h := ?_)
        refine nl (h := ?_)
        refine q_seq (h := ?_)
        refine rtn (h := ?_)
        refine q_then_ret (h := ?_)
        refine q_blk_ret (h := ?_)
        refine q_then_ret (h := ?_)
        refine q_then_ret (h := ?_)
        refine q_blk_ret (h := ?_)
        refine q_then_ret (h := ?_)
        refine q_ret (hR := ?_)
        rw [hE]
        exact fun w hS => ⟨rfl, hS.sub (by repeat (first | exact SubL.nil | (apply SubL.cons; (repeat (first | exact At.here | apply At.there))) | exact SubL.refl _ | apply SubL.skip))⟩
      · skip
        have hmk : mkV x = true := by simpa using h4
        have hmb := most_bd hmk
        have hal2 : (xs.take (z.k + 1)).all mkV = true := by rw [hal, hza, hmk]; rfl
        refine skp (h := ?_)
        refine q_seq (h := ?_)
        refine rg (h := ?_)
        refine WL.y (hy := mv) (h := ?_)
        refine WL.y (hy := (by first | exact fa | exact faE)) (h := ?_)
        refine WL.y (hy := (by first | exact ld | exact ldE)) (h := ?_)
        refine WL.y (hy := mv) (h := ?_)
        refine WL.y (hy := ix (hb := by omega)) (h := ?_)
        refine WL.y (hy := ldEA (hk := hxe)) (h := ?_)
        refine cl0 (hc := fun w hS => C_ref3_Most _ w) (h := ?_)
        refine WL.y (hy := addI (hb := by omega)) (h := ?_)
        refine WL.y (hy := asg) (h := ?_)
        refine WL.cut (by repeat (first | exact Cut.nil | apply Cut.hit | apply Cut.miss (by exact rfl))) ?_
        refine nl (h := ?_)
        refine q_blk_norm (h := ?_)
        refine q_seq (h := ?_)
        refine rg (h := ?_)
        refine WL.y (hy := mv) (h := ?_)
        refine WL.y (hy := addI) (h := ?_)
        refine WL.y (hy := asg) (h := ?_)
        refine WL.cut (by repeat (first | exact Cut.nil | apply Cut.hit | apply Cut.miss (by exact rfl))) ?_
        refine nl (h := ?_)
        refine rn (x := z) ⟨z.k + 1⟩ ⟨by dsimp only; omega, hal2, by dsimp only; omega, by dsimp only; omega⟩ (by dsimp only; omega) (by dsimp only; rw [hms]; repeat (first | exact trivial | refine ⟨rfl, ?_⟩)) (by repeat (first | exact SubL.nil | (apply SubL.cons; (repeat (first | exact At.here | apply At.there))) | exact SubL.refl _ | apply SubL.skip))
    · skip
      have hkn : z.k = n := by simp only [decide_eq_false_iff_not] at h3; omega
      have htk : xs.take z.k = xs := by rw [hkn, ← hlen, List.take_length]
      rw [htk] at hza hzm
      refine et (h := ?_)
      refine q_then_exit (h := ?_)
      refine q_then_exit (h := ?_)
      refine q_blk_hit (h := ?_)
      refine q_seq (h := ?_)
      refine sq (h := ?_)
      refine sq (h := ?_)
      refine rg (h := ?_)
      refine WL.y (hy := mv) (h := ?_)
      refine WL.y (hy := gtr) (h := ?_)
      refine nl (h := ?_)
      refine q_seq (h := ?_)
      refine cd (by exact rfl) (fun h5 => ?_) (fun h5 => ?_)
      · skip
        have h8 := h5
        rw [htk] at h8
        have hE : chkC f first xs = 30 := by rw [chkC, hH, hza, show decide (600 < mostS xs) = true from h8]; rfl
        refine sq (h := ?_)
        refine rg (h := ?_)
        refine WL.y (hy := asg) (h := ?_)
        refine nl (h := ?_)
        refine q_seq (h := ?_)
        refine rtn (h := ?_)
        refine q_then_ret (h := ?_)
        refine q_ret (hR := ?_)
        rw [hE]
        exact fun w hS => ⟨rfl, hS.sub (by repeat (first | exact SubL.nil | (apply SubL.cons; (repeat (first | exact At.here | apply At.there))) | exact SubL.refl _ | apply SubL.skip))⟩
      · skip
        have h8 := h5
        rw [htk] at h8
        have hE : chkC f first xs = 0 := by rw [chkC, hH, hza, show decide (600 < mostS xs) = false from h8]; rfl
        refine skp (h := ?_)
        refine q_seq (h := ?_)
        refine sq (h := ?_)
        refine rg (h := ?_)
        refine WL.y (hy := asg) (h := ?_)
        refine nl (h := ?_)
        refine q_seq (h := ?_)
        refine rtn (h := ?_)
        refine q_ret (hR := ?_)
        rw [hE]
        exact fun w hS => ⟨rfl, hS.sub (by repeat (first | exact SubL.nil | (apply SubL.cons; (repeat (first | exact At.here | apply At.there))) | exact SubL.refl _ | apply SubL.skip))⟩
theorem C_ref3_Copy (f : Fmt) (first : Int) (xs : List Nt) (A : Option Addr) (n c : Nat) (w : World) (h : Rd w A 4 n (encN xs)) (hn : n ≤ 1000000) : CR Tryz.prog 9 [.agg (cardC f first A n c).toArray] w (fun _ : Option Addr × Nat => True) (fun p => .agg (cardC f first p.1 n p.2).toArray) (fun p => [.own p.1 p.2 45 4 n (encN xs)]) := by
  refine ⟨en Tryz.func9 Tryz.ntmps9 ((St.init w).share (e := .ro A 4 n (encN xs)) h rfl rfl rfl) (h := fun F => ?_)⟩
  refine sq (h := ?_)
  refine rg (h := ?_)
  refine bxA (h := fun b0 => ?_)
  refine al (h := fun b1 => ?_)
  refine nl (h := ?_)
  refine q_seq (h := ?_)
  refine sq (h := ?_)
  refine rg (h := ?_)
  refine WL.y (hy := (by first | exact ldA | exact ldEA)) (h := ?_)
  refine al (h := fun b2 => ?_)
  first | refine stA (h := ?_) | refine stEA (h := ?_)
  skip
  refine nl (h := ?_)
  refine q_seq (h := ?_)
  refine sq (h := ?_)
  refine rg (h := ?_)
  refine bs (h := fun b3 => ?_)
  refine WL.y (hy := (by first | exact fa | exact faE)) (h := ?_)
  refine WL.y (hy := (by first | exact ld | exact ldE)) (h := ?_)
  refine ap (es := []) (es2 := encN xs) (m := 0) (k := n) (A := some ⟨b3, 0, none⟩) (A2 := A) (h := fun A1 c1 => ?_)
  simp only [Nat.zero_add, List.nil_append]
  refine WL.y (hy := (by first | exact fa | exact faE)) (h := ?_)
  first | refine st (h := ?_) | refine stE (h := ?_)
  refine nl (h := ?_)
  refine q_seq (h := ?_)
  refine sq (h := ?_)
  refine rg (h := ?_)
  refine WL.y (hy := (by first | exact ldA | exact ldEA)) (h := ?_)
  first | refine stA (h := ?_) | refine stEA (h := ?_)
  refine nl (h := ?_)
  refine q_seq (h := ?_)
  refine rtn (h := ?_)
  refine q_ret (hR := ?_)
  exact fun w hS => ⟨(A1, c1), trivial, rfl, hS.sub (by repeat (first | exact SubL.nil | (apply SubL.cons; (repeat (first | exact At.here | apply At.there))) | exact SubL.refl _ | apply SubL.skip))⟩
end Go.Proofs.YtpejgebcmhmpaaaGreat

namespace Go.Proofs.YtpejgebcmhmpaaaGreat
open Go Go.RowKit

def misN (x : Nt) : Int := bif decide (x.kind = 2) then x.pair.2 else 0
def misS (xs : List Nt) : Int := (xs.map misN).sum
theorem put_len (l : List En) (e : En) : (putC l e).length ≤ l.length + 1 := by
  induction l with
  | nil => exact Nat.le_refl _
  | cons x l ih =>
    rw [putC]
    by_cases h : x.1 = e.1
    · rw [if_pos h]; simp
    · rw [if_neg h]; simp only [List.length_cons]; omega
theorem norm_len (l : List En) : (normC l).length ≤ l.length := by
  have : ∀ (l acc : List En), (l.foldl putC acc).length ≤ acc.length + l.length := fun l => by
    induction l with
    | nil => intro acc; exact Nat.le_refl _
    | cons e l ih =>
      intro acc
      have h1 := ih (putC acc e)
      have h2 := put_len acc e
      rw [List.foldl_cons, List.length_cons]; omega
  have := this l []
  rw [normC]; simpa using this
theorem go_len (f : Fmt) (side : Int) (e : En) (p : Int) : (goE f side e p).length ≤ 1 := by
  unfold goE
  by_cases h : side = -1 ∨ side = p
  · rw [if_pos h]; cases nxtS f e.1 p <;> simp
  · rw [if_neg h]; simp
theorem step_len (f : Fmt) (l : List En) (side : Int) : (stepC f l side).length ≤ 2 * l.length := by
  refine Nat.le_trans (norm_len _) ?_
  unfold stepI
  induction l with
  | nil => simp
  | cons e l ih =>
    have h0 := go_len f side e 0
    have h1 := go_len f side e 1
    rw [List.flatMap_cons, List.length_append, List.length_append, List.length_cons]; omega
theorem iter_len (f : Fmt) (l : List En) : ∀ k, (iterC f l k).length ≤ 2 ^ k * l.length
  | 0 => by simp [iterC]
  | k + 1 => by
    have h1 := step_len f (iterC f l k) (-1)
    have h2 := iter_len f l k
    show (stepC f (iterC f l k) (-1)).length ≤ _
    rw [Nat.pow_succ, Nat.mul_comm (2 ^ k) 2, Nat.mul_assoc]
    omega
theorem missI_len (f : Fmt) (l : List En) (a : Int) : ∀ k, (missI f l a k).length + l.length ≤ 2 ^ k * l.length
  | 0 => by simp [missI]
  | k + 1 => by
    have h1 := missI_len f l a k
    have h2 := iter_len f l k
    have h3 : (if a ≤ (k : Int) then iterC f l k else []).length ≤ (iterC f l k).length := by
      by_cases h : a ≤ (k : Int)
      · rw [if_pos h]; exact Nat.le_refl _
      · rw [if_neg h]; exact Nat.zero_le _
    rw [missI, List.length_append, Nat.pow_succ, Nat.mul_comm (2 ^ k) 2, Nat.mul_assoc]
    omega
def expN (x : Nt) : Nat := 1 + (misN x).toNat
theorem after_len (f : Fmt) (l : List En) (x : Nt) : (afterC f l x).length ≤ 2 ^ expN x * l.length := by
  unfold afterC
  by_cases h1 : x.kind = 1
  · rw [if_pos h1]
    have := step_len f l x.side
    have e : expN x = 1 := by unfold expN misN; rw [decide_eq_false (by omega)]; rfl
    rw [e]; omega
  · rw [if_neg h1]
    by_cases h2 : x.kind = 2
    · rw [if_pos h2]
      have e : expN x = x.pair.2.toNat + 1 := by unfold expN misN; rw [decide_eq_true h2]; show 1 + x.pair.2.toNat = _; omega
      have h3 := missI_len f l x.pair.1 (x.pair.2.toNat + 1)
      have h4 := norm_len (missI f l x.pair.1 (x.pair.2.toNat + 1))
      rw [e]
      show (normC _).length ≤ _
      omega
    · rw [if_neg h2]
      have h3 : (testC f x l).length ≤ l.length := List.length_filter_le ..
      have h4 : 1 ≤ 2 ^ expN x := Nat.one_le_two_pow
      exact Nat.le_trans h3 (Nat.le_mul_of_pos_left _ h4)
def expS (xs : List Nt) : Nat := (xs.map expN).sum
theorem crowd_len (f : Fmt) (cf : Int) (xs : List Nt) : (crowdC f cf xs).length ≤ 2 ^ expS xs * 2 := by
  have key : ∀ (xs : List Nt) (l : List En), (xs.foldl (afterC f) l).length ≤ 2 ^ expS xs * l.length := fun xs => by
    induction xs with
    | nil => intro l; simp [expS]
    | cons x xs ih =>
      intro l
      rw [List.foldl_cons]
      refine Nat.le_trans (ih _) ?_
      have h1 := after_len f l x
      have : expS (x :: xs) = expN x + expS xs := by unfold expS; rw [List.map_cons, List.sum_cons]
      rw [this, Nat.pow_add, Nat.mul_comm (2 ^ expN x), Nat.mul_assoc]
      exact Nat.mul_le_mul_left _ h1
  refine Nat.le_trans (key xs (begC cf)) (Nat.mul_le_mul_left _ ?_)
  unfold begC
  rw [List.length_append]
  have : ∀ (p : Prop) [Decidable p] (e : En), (if p then [e] else []).length ≤ 1 := fun p _ e => by
    by_cases h : p
    · rw [if_pos h]; exact Nat.le_refl _
    · rw [if_neg h]; exact Nat.zero_le _
  have h1 := this (cf = -1 ∨ cf = 0) (⟨0, [], (0, 0), (0, 0)⟩, (0, 0, 0))
  have h2 := this (cf = -1 ∨ cf = 1) (⟨1, [], (0, 0), (0, 0)⟩, (0, 0, 0))
  omega
theorem exp_mis {xs : List Nt} (h : ∀ x ∈ xs, mkV x = true) : (expS xs : Int) = xs.length + misS xs ∧ mostS xs ≤ xs.length + misS xs ∧ 0 ≤ misS xs := by
  induction xs with
  | nil => exact ⟨rfl, Int.le_refl _, Int.le_refl _⟩
  | cons x xs ih =>
    obtain ⟨h1, h2, h3⟩ := ih fun y hy => h y (by simp [hy])
    have hk := mk_kind (h x (by simp))
    have h4 : 0 ≤ misN x ∧ mostN x ≤ 1 + misN x := by
      unfold misN mostN
      by_cases e1 : x.kind = 1
      · rw [decide_eq_false (by omega), if_pos e1]; exact ⟨Int.le_refl _, by show (1 : Int) ≤ 1 + 0; omega⟩
      · rw [if_neg e1]
        by_cases e2 : x.kind = 2
        · have := hk.2.2.1 e2
          rw [decide_eq_true e2, if_pos e2]
          show 0 ≤ x.pair.2 ∧ x.pair.2 ≤ 1 + x.pair.2
          omega
        · rw [decide_eq_false e2, if_neg e2]; exact ⟨Int.le_refl _, by show (0 : Int) ≤ 1 + 0; omega⟩
    have e1 : expS (x :: xs) = expN x + expS xs := by unfold expS; rw [List.map_cons, List.sum_cons]
    have e2 : misS (x :: xs) = misN x + misS xs := by unfold misS; rw [List.map_cons, List.sum_cons]
    have e3 : mostS (x :: xs) = mostN x + mostS xs := by unfold mostS; rw [List.map_cons, List.sum_cons]
    rw [e1, e2, e3, List.length_cons]
    unfold expN
    omega
def farC (f : Fmt) (cf : Int) (xs : List Nt) : Bool := decide ((60 : Int) < xs.length) || (decide (chkC f cf xs = 0) && (decide (8 < misS xs) || decide ((12 : Int) < xs.length)))
structure Rdy (f : Fmt) (cf : Int) (xs : List Nt) : Prop where
  c : chkC f cf xs = 0
  n : xs.length ≤ 12
  m : mostS xs ≤ 20
  b : (crowdC f cf xs).length ≤ 4194304
  mks : ∀ x ∈ xs, mkV x = true
  ok : f.Ok
  cf : -1 ≤ cf ∧ cf ≤ 1
  mis : misS xs ≤ 8
theorem rdy_of {f : Fmt} {cf : Int} {xs : List Nt} (h1 : chkC f cf xs = 0) (hn : xs.length ≤ 12) (hm : misS xs ≤ 8) : Rdy f cf xs := by
  obtain ⟨h2, h3, h4, h5, h6, h7⟩ := chk_facts h1
  obtain ⟨e1, e2, e3⟩ := exp_mis h6
  have hl := crowd_len f cf xs
  have he : expS xs ≤ 20 := by omega
  have hp : 2 ^ expS xs ≤ 2 ^ 20 := Nat.pow_le_pow_right (by omega) he
  exact ⟨h1, hn, by omega, by omega, h6, h3, h4, hm⟩
theorem misS_succ {xs : List Nt} {k : Nat} {x : Nt} (h : xs[k]? = some x) : misS (xs.take (k + 1)) = misS (xs.take k) + misN x := by
  unfold misS
  rw [List.take_add_one, h, List.map_append, List.sum_append]
  show _ + (misN x + 0) = _
  omega
theorem C_law3_Far (f : Fmt) (first : Int) (xs : List Nt) (A : Option Addr) (n c : Nat) (w : World) (h : Rd w A 4 n (encN xs)) (hn : n ≤ 9223372036854775807) : C0 Tryz.prog 7 [.agg (cardC f first A n c).toArray] w (.bool (farC f first xs)) := by
  have hlen : xs.length = n := by have := h.len; rwa [encN_len] at this
  refine ⟨en Tryz.func7 Tryz.ntmps7 ((St.init w).share (e := .ro A 4 n (encN xs)) h rfl rfl rfl) (h := fun F => ?_)⟩
  refine sq (h := ?_)
  refine rg (h := ?_)
  refine bxA (h := fun b0 => ?_)
  refine WL.y (hy := asg) (h := ?_)
  refine nl (h := ?_)
  refine q_seq (h := ?_)
  refine sq (h := ?_)
  refine sq (h := ?_)
  refine rg (h := ?_)
  refine WL.y (hy := (by first | exact fa | exact faE)) (h := ?_)
  refine WL.y (hy := (by first | exact ld | exact ldE)) (h := ?_)
  refine WL.y (hy := lenS) (h := ?_)
  refine WL.y (hy := gtr) (h := ?_)
  refine nl (h := ?_)
  refine q_seq (h := ?_)
  refine cd (by exact rfl) (fun h0 => ?_) (fun h0 => ?_)
  · skip
    have hE : farC f first xs = true := by rw [farC, hlen, show decide ((60 : Int) < n) = true from h0]; rfl
    refine sq (h := ?_)
    refine rg (h := ?_)
    refine WL.y (hy := asg) (h := ?_)
    refine nl (h := ?_)
    refine q_seq (h := ?_)
    refine rtn (h := ?_)
    refine q_then_ret (h := ?_)
    refine q_ret (hR := ?_)
    rw [hE]
    exact fun w hS => ⟨rfl, hS.sub (by repeat (first | exact SubL.nil | (apply SubL.cons; (repeat (first | exact At.here | apply At.there))) | exact SubL.refl _ | apply SubL.skip))⟩
  · skip
    have h60 : decide ((60 : Int) < n) = false := h0
    refine skp (h := ?_)
    refine q_seq (h := ?_)
    refine sq (h := ?_)
    refine sq (h := ?_)
    refine rg (h := ?_)
    refine WL.y (hy := (by first | exact ldA | exact ldEA)) (h := ?_)
    refine cl0 (hc := fun w hS => C_ref3_Check f first xs A n c w (hS.get (by repeat (first | exact Rds.ro | exact Rds.own | apply Rds.there))) hn) (h := ?_)
    refine WL.y (hy := neq) (h := ?_)
    refine nl (h := ?_)
    refine q_seq (h := ?_)
    refine cd (by exact rfl) (fun h1 => ?_) (fun h1 => ?_)
    · skip
      have hcn : chkC f first xs ≠ 0 := by simpa using h1
      have hE : farC f first xs = false := by rw [farC, hlen, h60, decide_eq_false hcn]; rfl
      refine sq (h := ?_)
      refine rg (h := ?_)
      refine WL.y (hy := asg) (h := ?_)
      refine nl (h := ?_)
      refine q_seq (h := ?_)
      refine rtn (h := ?_)
      refine q_then_ret (h := ?_)
      refine q_ret (hR := ?_)
      rw [hE]
      exact fun w hS => ⟨rfl, hS.sub (by repeat (first | exact SubL.nil | (apply SubL.cons; (repeat (first | exact At.here | apply At.there))) | exact SubL.refl _ | apply SubL.skip))⟩
    · skip
      have hcn : chkC f first xs = 0 := by simpa using h1
      obtain ⟨_, _, _, hl30, hmk, _⟩ := chk_facts hcn
      refine skp (h := ?_)
      refine q_seq (h := ?_)
      refine sq (h := ?_)
      refine rg (h := ?_)
      refine WL.y (hy := asg) (h := ?_)
      refine WL.cut (by repeat (first | exact Cut.nil | apply Cut.hit | apply Cut.miss (by exact rfl))) ?_
      refine nl (h := ?_)
      refine q_seq (h := ?_)
      refine sq (h := ?_)
      refine sq (h := ?_)
      refine rg (h := ?_)
      refine WL.y (hy := asg) (h := ?_)
      refine WL.cut (by repeat (first | exact Cut.nil | apply Cut.hit | apply Cut.miss (by exact rfl))) ?_
      refine nl (h := ?_)
      refine q_seq (h := ?_)
      refine bk (h := ?_)
      refine lp (X := CKZ) (I := fun z => z.k ≤ n ∧ 0 ≤ misS (xs.take z.k) ∧ misS (xs.take z.k) ≤ 30 * (z.k : Int)) (le := fun z => [(1, .pointer (some ⟨b0, 0, none⟩)), (3, .int .i64 (misS (xs.take z.k))), (4, .int .i64 z.k)]) (Le := fun z => [.blk b0 26 (cardC f first A n c), .ro A 4 n (encN xs)]) (μ := fun z => n - z.k) ⟨0⟩ ⟨Nat.zero_le _, by exact Int.le_refl _, by exact Int.le_refl _⟩ (by repeat (first | exact trivial | refine ⟨rfl, ?_⟩)) (by repeat (first | exact SubL.nil | (apply SubL.cons; (repeat (first | exact At.here | apply At.there))) | exact SubL.refl _ | apply SubL.skip)) (fun z hz => ?_)
      obtain ⟨hzk, hz0, hzm⟩ := hz
      refine sq (h := ?_)
      refine sq (h := ?_)
      refine rg (h := ?_)
      refine WL.y (hy := mv) (h := ?_)
      refine WL.y (hy := (by first | exact fa | exact faE)) (h := ?_)
      refine WL.y (hy := (by first | exact ld | exact ldE)) (h := ?_)
      refine WL.y (hy := lenS) (h := ?_)
      refine WL.y (hy := lss) (h := ?_)
      refine nl (h := ?_)
      refine q_seq (h := ?_)
      refine cd (by exact rfl) (fun h2 => ?_) (fun h2 => ?_)
      · skip
        have hkn : z.k < n := by simp only [decide_eq_true_eq] at h2; omega
        obtain ⟨x, hx⟩ : ∃ x, xs[z.k]? = some x := ⟨_, List.getElem?_eq_getElem (by omega)⟩
        have hxe := encN_at hx
        have hms := misS_succ hx
        have hxm := mk_kind (hmk x (List.mem_of_getElem? hx))
        refine skp (h := ?_)
        refine q_seq (h := ?_)
        refine sq (h := ?_)
        refine bk (h := ?_)
        refine sq (h := ?_)
        refine rg (h := ?_)
        refine WL.y (hy := (by first | exact fa | exact faE)) (h := ?_)
        refine WL.y (hy := (by first | exact ld | exact ldE)) (h := ?_)
        refine WL.y (hy := mv) (h := ?_)
        refine WL.y (hy := ix (hb := by omega)) (h := ?_)
        refine WL.y (hy := (by first | exact fa | exact faE)) (h := ?_)
        refine WL.y (hy := ldE (hk := hxe)) (h := ?_)
        refine WL.y (hy := eql) (h := ?_)
        refine nl (h := ?_)
        refine q_seq (h := ?_)
        refine cd (by exact rfl) (fun h3 => ?_) (fun h3 => ?_)
        · skip
          have hk2 : x.kind = 2 := of_decide_eq_true h3
          have hmi : misN x = x.pair.2 := by unfold misN; rw [decide_eq_true hk2]; rfl
          have hpb := hxm.2.2.1 hk2
          refine rg (h := ?_)
          refine WL.y (hy := mv) (h := ?_)
          refine WL.y (hy := (by first | exact fa | exact faE)) (h := ?_)
          refine WL.y (hy := (by first | exact ld | exact ldE)) (h := ?_)
          refine WL.y (hy := mv) (h := ?_)
          refine WL.y (hy := ix (hb := by omega)) (h := ?_)
          refine WL.y (hy := (by first | exact fa | exact faE)) (h := ?_)
          refine WL.y (hy := faE) (h := ?_)
          refine WL.y (hy := ldE (hk := hxe)) (h := ?_)
          refine WL.y (hy := addI (hb := by omega)) (h := ?_)
          refine WL.y (hy := asg) (h := ?_)
          refine WL.cut (by repeat (first | exact Cut.nil | apply Cut.hit | apply Cut.miss (by exact rfl))) ?_
          refine nl (h := ?_)
          refine q_blk_norm (h := ?_)
          refine q_seq (h := ?_)
          refine rg (h := ?_)
          refine WL.y (hy := mv) (h := ?_)
          refine WL.y (hy := addI) (h := ?_)
          refine WL.y (hy := asg) (h := ?_)
          refine WL.cut (by repeat (first | exact Cut.nil | apply Cut.hit | apply Cut.miss (by exact rfl))) ?_
          refine nl (h := ?_)
          refine rn (x := z) ⟨z.k + 1⟩ ⟨by dsimp only; omega, by dsimp only; omega, by dsimp only; omega⟩ (by dsimp only; omega) (by dsimp only; rw [hms, hmi]; (try rw [Int.add_zero]); repeat (first | exact trivial | refine ⟨rfl, ?_⟩)) (by repeat (first | exact SubL.nil | (apply SubL.cons; (repeat (first | exact At.here | apply At.there))) | exact SubL.refl _ | apply SubL.skip))
        · skip
          have hmi : misN x = 0 := by unfold misN; rw [h3]; rfl
          refine skp (h := ?_)
          refine q_blk_norm (h := ?_)
          refine q_seq (h := ?_)
          refine rg (h := ?_)
          refine WL.y (hy := mv) (h := ?_)
          refine WL.y (hy := addI) (h := ?_)
          refine WL.y (hy := asg) (h := ?_)
          refine WL.cut (by repeat (first | exact Cut.nil | apply Cut.hit | apply Cut.miss (by exact rfl))) ?_
          refine nl (h := ?_)
          refine rn (x := z) ⟨z.k + 1⟩ ⟨by dsimp only; omega, by dsimp only; omega, by dsimp only; omega⟩ (by dsimp only; omega) (by dsimp only; rw [hms, hmi]; (try rw [Int.add_zero]); repeat (first | exact trivial | refine ⟨rfl, ?_⟩)) (by repeat (first | exact SubL.nil | (apply SubL.cons; (repeat (first | exact At.here | apply At.there))) | exact SubL.refl _ | apply SubL.skip))
      · skip
        have hkn : z.k = n := by simp only [decide_eq_false_iff_not] at h2; omega
        have htk : xs.take z.k = xs := by rw [hkn, ← hlen, List.take_length]
        have hE : farC f first xs = (decide (8 < misS (xs.take z.k)) || decide ((12 : Int) < n)) := by rw [farC, hlen, h60, decide_eq_true hcn, htk]; rfl
        refine et (h := ?_)
        refine q_then_exit (h := ?_)
        refine q_then_exit (h := ?_)
        refine q_blk_hit (h := ?_)
        refine q_seq (h := ?_)
        refine sq (h := ?_)
        refine rg (h := ?_)
        refine WL.y (hy := mv) (h := ?_)
        refine WL.y (hy := gtr) (h := ?_)
        refine WL.y (hy := mv) (h := ?_)
        apply brOr 5 37 42 (by exact rfl)
        · intro hb4
          refine un (h := ?_)
          refine WL.y (hy := (by first | exact fa | exact faE)) (h := ?_)
          refine un (h := ?_)
          refine WL.y (hy := (by first | exact ld | exact ldE)) (h := ?_)
          refine un (h := ?_)
          refine WL.y (hy := lenS) (h := ?_)
          refine un (h := ?_)
          refine WL.y (hy := gtr) (h := ?_)
          refine WL.y (hy := (by first | exact pkT | exact pkF)) (h := ?_)
          exact mg (by repeat (first | exact trivial | refine ⟨rfl, ?_⟩ | refine ⟨by rw [hb4]; rfl, ?_⟩)) (by repeat (first | exact SubL.nil | (apply SubL.cons; (repeat (first | exact At.here | apply At.there))) | exact SubL.refl _ | apply SubL.skip))
        · intro hb4
          repeat (first | refine un (h := ?_) | refine sk (h := ?_) | refine WL.y (hy := pkF) (h := ?_) | refine WL.y (hy := pkT) (h := ?_))
          exact mg (by repeat (first | exact trivial | refine ⟨rfl, ?_⟩ | refine ⟨by rw [hb4]; rfl, ?_⟩)) (by repeat (first | exact SubL.nil | (apply SubL.cons; (repeat (first | exact At.here | apply At.there))) | exact SubL.refl _ | apply SubL.skip))
        refine WL.y (hy := asg) (h := ?_)
        refine nl (h := ?_)
        refine q_seq (h := ?_)
        refine rtn (h := ?_)
        refine q_ret (hR := ?_)
        rw [hE]
        exact fun w hS => ⟨rfl, hS.sub (by repeat (first | exact SubL.nil | (apply SubL.cons; (repeat (first | exact At.here | apply At.there))) | exact SubL.refl _ | apply SubL.skip))⟩
end Go.Proofs.YtpejgebcmhmpaaaGreat

namespace Go.Proofs.YtpejgebcmhmpaaaGreat
open Go Go.RowKit

theorem same_fin {a b : Brd} {n m k : Nat} (hla : a.st.length = n) (hlb : b.st.length = m) (hk : k ≤ n ∧ k ≤ m) (htk : a.st.take k = b.st.take k) (hk2 : ¬ ((k : Int) < n ∧ (k : Int) < m)) : decide (a = b) = (decide ((n : Int) = m) && decide ([a.g.1, a.g.2] = [b.g.1, b.g.2]) && decide ([a.p.1, a.p.2] = [b.p.1, b.p.2])) := by
  rw [Bool.eq_iff_iff, Bool.and_eq_true, Bool.and_eq_true, decide_eq_true_eq, decide_eq_true_eq, decide_eq_true_eq, decide_eq_true_eq, pr_list, pr_list]
  constructor
  · intro e; subst e; exact ⟨⟨by omega, rfl⟩, rfl⟩
  · rintro ⟨⟨h1, h2⟩, h3⟩
    have hkn : k = n := by omega
    have hst : a.st = b.st := by
      rw [List.take_of_length_le (by omega), List.take_of_length_le (by omega)] at htk; exact htk
    cases a; cases b
    simp only at hst h2 h3
    rw [hst, h2, h3]
set_option maxRecDepth 100000 in
theorem C_ref3_SameBoard (a b : Brd) (A B : Option Addr) (n c m d : Nat) (w : World) (h : Rd w A 2 n (encP a.st)) (h' : Rd w B 2 m (encP b.st)) (hn : n ≤ 9223372036854775807) (hm : m ≤ 9223372036854775807) :
    C0 Tryz.prog 23 [a.val A n c, b.val B m d] w (.bool (decide (a = b))) := by
  have hla : a.st.length = n := by have := h.len; simpa [encP] using this
  have hlb : b.st.length = m := by have := h'.len; simpa [encP] using this
  refine ⟨en Tryz.func23 Tryz.ntmps23 (((St.init w).share (e := .ro A 2 n (encP a.st)) h rfl rfl rfl).share (e := .ro B 2 m (encP b.st)) h' rfl rfl rfl) (h := fun F => ?_)⟩
  refine sq (h := ?_)
  refine rg (h := ?_)
  refine bxA (h := fun b0 => ?_)
  refine bxA (h := fun b1 => ?_)
  refine WL.y (hy := asg) (h := ?_)
  refine nl (h := ?_)
  refine q_seq (h := ?_)
  refine sq (h := ?_)
  refine sq (h := ?_)
  refine rg (h := ?_)
  refine WL.y (hy := asg) (h := ?_)
  refine WL.cut (by repeat (first | exact Cut.nil | apply Cut.hit | apply Cut.miss (by exact rfl))) ?_
  refine nl (h := ?_)
  refine q_seq (h := ?_)
  refine bk (h := ?_)
  refine lp (X := Nat) (I := fun k => (k ≤ n ∧ k ≤ m) ∧ a.st.take k = b.st.take k) (le := fun k => [(2, .pointer (some ⟨b0, 0, none⟩)), (3, .pointer (some ⟨b1, 0, none⟩)), (5, .int .i64 k)]) (Le := fun _ => [.blk b0 52 (a.cells A n c), .blk b1 52 (b.cells B m d), .ro A 2 n (encP a.st), .ro B 2 m (encP b.st)]) (μ := fun k => n - k) 0 ⟨⟨Nat.zero_le _, Nat.zero_le _⟩, rfl⟩ (by repeat (first | exact trivial | refine ⟨rfl, ?_⟩)) (by repeat (first | exact SubL.nil | (apply SubL.cons; (repeat (first | exact At.here | apply At.there))) | exact SubL.refl _ | apply SubL.skip)) (fun k hk0 => ?_)
  obtain ⟨hk, htk⟩ := hk0
  refine sq (h := ?_)
  refine sq (h := ?_)
  refine rg (h := ?_)
  refine WL.y (hy := mv) (h := ?_)
  refine WL.y (hy := (by first | exact fa | exact faE)) (h := ?_)
  refine WL.y (hy := (by first | exact ld | exact ldE)) (h := ?_)
  refine WL.y (hy := lenS) (h := ?_)
  refine WL.y (hy := lss) (h := ?_)
  refine WL.y (hy := mv) (h := ?_)
  apply brAnd 6 11 17 (by exact rfl)
  · intro hb0
    refine un (h := ?_)
    refine WL.y (hy := mv) (h := ?_)
    refine un (h := ?_)
    refine WL.y (hy := (by first | exact fa | exact faE)) (h := ?_)
    refine un (h := ?_)
    refine WL.y (hy := (by first | exact ld | exact ldE)) (h := ?_)
    refine un (h := ?_)
    refine WL.y (hy := lenS) (h := ?_)
    refine un (h := ?_)
    refine WL.y (hy := lss) (h := ?_)
    refine WL.y (hy := (by first | exact pkT | exact pkF)) (h := ?_)
    exact mg (by repeat (first | exact trivial | refine ⟨rfl, ?_⟩ | refine ⟨by rw [hb0]; rfl, ?_⟩)) (by repeat (first | exact SubL.nil | (apply SubL.cons; (repeat (first | exact At.here | apply At.there))) | exact SubL.refl _ | apply SubL.skip))
  · intro hb0
    repeat (first | refine un (h := ?_) | refine sk (h := ?_) | refine WL.y (hy := pkF) (h := ?_) | refine WL.y (hy := pkT) (h := ?_))
    exact mg (by repeat (first | exact trivial | refine ⟨rfl, ?_⟩ | refine ⟨by rw [hb0]; rfl, ?_⟩)) (by repeat (first | exact SubL.nil | (apply SubL.cons; (repeat (first | exact At.here | apply At.there))) | exact SubL.refl _ | apply SubL.skip))
  refine nl (h := ?_)
  refine q_seq (h := ?_)
  refine cd (by exact rfl) (fun h1 => ?_) (fun h1 => ?_)
  · skip
    have hk2 : (k : Int) < n ∧ (k : Int) < m := by simpa using h1
    have hkn : k < n := by omega
    have hkm : k < m := by omega
    obtain ⟨p, hp⟩ : ∃ p, a.st[k]? = some p := ⟨_, List.getElem?_eq_getElem (by omega)⟩
    obtain ⟨q, hq⟩ : ∃ q, b.st[k]? = some q := ⟨_, List.getElem?_eq_getElem (by omega)⟩
    have hpe := encP_at hp
    have hqe := encP_at hq
    refine skp (h := ?_)
    refine q_seq (h := ?_)
    refine sq (h := ?_)
    refine bk (h := ?_)
    refine sq (h := ?_)
    refine rgD0 (by kernel_rfl) (h := ?_)
    refine tk 0 (hy := (by first | exact fa | exact faE)) (h := ?_)
    refine tk 1 (hy := (by first | exact ld | exact ldE)) (h := ?_)
    refine tk 2 (hy := mv) (h := ?_)
    refine tk 3 (hy := ix (A := A) (m := n)) (h := ?_)
    refine tk 4 (hy := ldEA (A := A) (hk := hpe)) (h := ?_)
    refine tk 5 (hy := (by first | exact fa | exact faE)) (h := ?_)
    refine tk 6 (hy := (by first | exact ld | exact ldE)) (h := ?_)
    refine tk 7 (hy := mv) (h := ?_)
    refine tk 8 (hy := ix (A := B) (m := m)) (h := ?_)
    refine tk 9 (hy := ldEA (A := B) (hk := hqe)) (h := ?_)
    refine tk 10 (hy := neqT) (h := ?_)
    refine dn (h := ?_)
    refine q_seq (h := ?_)
    refine cd (by exact rfl) (fun h2 => ?_) (fun h2 => ?_)
    · skip
      have hne : ¬ a = b := fun e => by
        subst e
        rw [hp] at hq
        injection hq with hq
        subst hq
        simp at h2
      refine sq (h := ?_)
      refine rg (h := ?_)
      refine WL.y (hy := asg) (h := ?_)
      refine nl (h := ?_)
      refine q_seq (h := ?_)
      refine rtn (h := ?_)
      refine q_blk_ret (h := ?_)
      refine q_then_ret (h := ?_)
      refine q_then_ret (h := ?_)
      refine q_blk_ret (h := ?_)
      refine q_then_ret (h := ?_)
      refine q_ret (hR := ?_)
      first
        | exact fun w hS => ⟨by rw [decide_eq_false hne]; rfl, hS.sub (by repeat (first | exact SubL.nil | (apply SubL.cons; (repeat (first | exact At.here | apply At.there))) | exact SubL.refl _ | apply SubL.skip))⟩
        | (rw [hfin]; exact fun w hS => ⟨rfl, hS.sub (by repeat (first | exact SubL.nil | (apply SubL.cons; (repeat (first | exact At.here | apply At.there))) | exact SubL.refl _ | apply SubL.skip))⟩)
    · skip
      have hpq : p = q := by
        have : [p.1, p.2] = [q.1, q.2] := by simpa using h2
        exact pr_list.1 this
      refine skp (h := ?_)
      refine q_blk_norm (h := ?_)
      refine q_seq (h := ?_)
      refine rg (h := ?_)
      refine WL.y (hy := mv) (h := ?_)
      refine WL.y (hy := addI) (h := ?_)
      refine WL.y (hy := asg) (h := ?_)
      refine WL.cut (by repeat (first | exact Cut.nil | apply Cut.hit | apply Cut.miss (by exact rfl))) ?_
      refine nl (h := ?_)
      refine rn (x := k) (k + 1) ⟨⟨by omega, by omega⟩, by rw [List.take_add_one, List.take_add_one, hp, hq, htk, hpq]⟩ (by omega) (by repeat (first | exact trivial | refine ⟨rfl, ?_⟩)) (by repeat (first | exact SubL.nil | (apply SubL.cons; (repeat (first | exact At.here | apply At.there))) | exact SubL.refl _ | apply SubL.skip))
  · skip
    have hk2 : ¬ ((k : Int) < n ∧ (k : Int) < m) := by simpa using h1
    have hfin : decide (a = b) = (decide ((n : Int) = m) && decide ([a.g.1, a.g.2] = [b.g.1, b.g.2]) && decide ([a.p.1, a.p.2] = [b.p.1, b.p.2])) := same_fin hla hlb hk htk hk2
    refine et (h := ?_)
    refine q_then_exit (h := ?_)
    refine q_then_exit (h := ?_)
    refine q_blk_hit (h := ?_)
    refine q_seq (h := ?_)
    refine sq (h := ?_)
    refine rg (h := ?_)
    refine WL.y (hy := (by first | exact fa | exact faE)) (h := ?_)
    refine WL.y (hy := (by first | exact ld | exact ldE)) (h := ?_)
    refine WL.y (hy := lenS) (h := ?_)
    refine WL.y (hy := (by first | exact fa | exact faE)) (h := ?_)
    refine WL.y (hy := (by first | exact ld | exact ldE)) (h := ?_)
    refine WL.y (hy := lenS) (h := ?_)
    refine WL.y (hy := eql) (h := ?_)
    refine WL.y (hy := mv) (h := ?_)
    apply brAnd 6 38 44 (by exact rfl)
    · intro hb3
      refine un (h := ?_)
      refine WL.y (hy := (by first | exact fa | exact faE)) (h := ?_)
      refine un (h := ?_)
      refine WL.y (hy := (by first | exact ldA | exact ldEA)) (h := ?_)
      refine un (h := ?_)
      refine WL.y (hy := (by first | exact fa | exact faE)) (h := ?_)
      refine un (h := ?_)
      refine WL.y (hy := (by first | exact ldA | exact ldEA)) (h := ?_)
      refine un (h := ?_)
      refine WL.y (hy := eqlT) (h := ?_)
      refine WL.y (hy := (by first | exact pkT | exact pkF)) (h := ?_)
      exact mg (by repeat (first | exact trivial | refine ⟨rfl, ?_⟩ | refine ⟨by rw [hb3]; rfl, ?_⟩)) (by repeat (first | exact SubL.nil | (apply SubL.cons; (repeat (first | exact At.here | apply At.there))) | exact SubL.refl _ | apply SubL.skip))
    · intro hb3
      repeat (first | refine un (h := ?_) | refine sk (h := ?_) | refine WL.y (hy := pkF) (h := ?_) | refine WL.y (hy := pkT) (h := ?_))
      exact mg (by repeat (first | exact trivial | refine ⟨rfl, ?_⟩ | refine ⟨by rw [hb3]; rfl, ?_⟩)) (by repeat (first | exact SubL.nil | (apply SubL.cons; (repeat (first | exact At.here | apply At.there))) | exact SubL.refl _ | apply SubL.skip))
    refine WL.y (hy := mv) (h := ?_)
    apply brAnd 6 45 51 (by exact rfl)
    · intro hb4
      refine un (h := ?_)
      refine WL.y (hy := (by first | exact fa | exact faE)) (h := ?_)
      refine un (h := ?_)
      refine WL.y (hy := (by first | exact ldA | exact ldEA)) (h := ?_)
      refine un (h := ?_)
      refine WL.y (hy := (by first | exact fa | exact faE)) (h := ?_)
      refine un (h := ?_)
      refine WL.y (hy := (by first | exact ldA | exact ldEA)) (h := ?_)
      refine un (h := ?_)
      refine WL.y (hy := eqlT) (h := ?_)
      refine WL.y (hy := (by first | exact pkT | exact pkF)) (h := ?_)
      exact mg (by repeat (first | exact trivial | refine ⟨rfl, ?_⟩ | refine ⟨by rw [hb4]; rfl, ?_⟩)) (by repeat (first | exact SubL.nil | (apply SubL.cons; (repeat (first | exact At.here | apply At.there))) | exact SubL.refl _ | apply SubL.skip))
    · intro hb4
      repeat (first | refine un (h := ?_) | refine sk (h := ?_) | refine WL.y (hy := pkF) (h := ?_) | refine WL.y (hy := pkT) (h := ?_))
      exact mg (by repeat (first | exact trivial | refine ⟨rfl, ?_⟩ | refine ⟨by rw [hb4]; rfl, ?_⟩)) (by repeat (first | exact SubL.nil | (apply SubL.cons; (repeat (first | exact At.here | apply At.there))) | exact SubL.refl _ | apply SubL.skip))
    refine WL.y (hy := asg) (h := ?_)
    refine nl (h := ?_)
    refine q_seq (h := ?_)
    refine rtn (h := ?_)
    refine q_ret (hR := ?_)
    first
      | exact fun w hS => ⟨by rw [decide_eq_false hne]; rfl, hS.sub (by repeat (first | exact SubL.nil | (apply SubL.cons; (repeat (first | exact At.here | apply At.there))) | exact SubL.refl _ | apply SubL.skip))⟩
      | (rw [hfin]; exact fun w hS => ⟨rfl, hS.sub (by repeat (first | exact SubL.nil | (apply SubL.cons; (repeat (first | exact At.here | apply At.there))) | exact SubL.refl _ | apply SubL.skip))⟩)
def exX : List Nt := [⟨1, 0, (0, 0)⟩, ⟨2, 0, (2, 4)⟩, ⟨3, 0, (3, 1)⟩, ⟨2, 0, (1, 1)⟩, ⟨4, 0, (1, 0)⟩]
theorem C_law3_Example (w : World) : CR Tryz.prog 29 [] w (fun _ : Nat => True) (fun b => .agg (cardC exF 0 (some ⟨b, 0, none⟩) 5 5).toArray) (fun b => [.own (some ⟨b, 0, none⟩) 5 45 4 5 (encN exX)]) := by
  refine ⟨en Tryz.func29 Tryz.ntmps29 (St.init w) (h := fun F => ?_)⟩
  refine sq (h := ?_)
  refine rg (h := ?_)
  refine al (h := fun b0 => ?_)
  refine nl (h := ?_)
  refine q_seq (h := ?_)
  refine sq (h := ?_)
  refine rg (h := ?_)
  refine cl (hc := fun w hS => C_law1_Example w) (h := fun x0 _ => ?_)
  refine WL.y (hy := mv) (h := ?_)
  refine WL.y (hy := ex) (h := ?_)
  refine WL.y (hy := ex) (h := ?_)
  refine al (h := fun b1 => ?_)
  first | refine stA (h := ?_) | refine stEA (h := ?_)
  refine WL.y (hy := asg) (h := ?_)
  refine nl (h := ?_)
  refine q_seq (h := ?_)
  refine sq (h := ?_)
  refine rg (h := ?_)
  refine WL.y (hy := (by first | exact ldA | exact ldEA)) (h := ?_)
  refine WL.y (hy := bd) (h := ?_)
  refine WL.y (hy := bd) (h := ?_)
  refine WL.y (hy := bd) (h := ?_)
  refine WL.y (hy := bd) (h := ?_)
  refine WL.y (hy := bd) (h := ?_)
  refine WL.y (hy := bd) (h := ?_)
  refine WL.y (hy := bd) (h := ?_)
  refine WL.y (hy := bd) (h := ?_)
  refine WL.y (hy := bd) (h := ?_)
  refine bs (h := fun b2 => ?_)
  refine WL.y (hy := bd) (h := ?_)
  first | refine stA (h := ?_) | refine stEA (h := ?_)
  refine nl (h := ?_)
  refine q_seq (h := ?_)
  refine rtn (h := ?_)
  refine q_ret (hR := ?_)
  exact fun w hS => ⟨_, trivial, rfl, hS.sub (by repeat (first | exact SubL.nil | (apply SubL.cons; (repeat (first | exact At.here | apply At.there))) | exact SubL.refl _ | apply SubL.skip))⟩
theorem ex_chk : chkC exF 0 exX = 0 := by kernel_rfl
theorem ex_bad : badC exF 0 exX = -1 := by kernel_rfl
theorem ex_most : mostS exX = 6 := by kernel_rfl
theorem ex_boards : boardsC (keyC (crowdC exF 0 exX)) = [⟨[], (1, 0), (0, 0)⟩] := by kernel_rfl
theorem ex_cnt : cntC exF 0 exX = (5, 5) := by kernel_rfl
theorem ex_sure : sureB exF 0 exX ⟨6, 1, (0, 0)⟩ = true := by kernel_rfl
theorem ex_len : (crowdC exF 0 exX).length = 1 := by kernel_rfl
end Go.Proofs.YtpejgebcmhmpaaaGreat

namespace Go.Proofs.YtpejgebcmhmpaaaGreat
open Go Go.RowKit

theorem ex_all : allB exF 0 exX = -1 := by rw [allB, ex_chk, ex_bad]; rfl
theorem ex_pos : posE exF 0 exX = 0 := by rw [posE, ex_chk, ex_bad]; rfl
theorem ex_cntV : cntV exF 0 exX = (5, 5) := by rw [cntV, ex_pos, ex_cnt]; rfl
theorem ex_sureE : sureE exF 0 exX ⟨6, 1, (0, 0)⟩ = 0 := by rw [sureE, ex_chk, ex_pos]; rfl
theorem ex_sureV : sureV exF 0 exX ⟨6, 1, (0, 0)⟩ = true := by rw [sureV, ex_sureE, ex_sure]; rfl
theorem ex_bd {o : Option BDR} (h : BdOk exF 0 exX o) : ∃ A A' c c', o = some ⟨[⟨⟨[], (1, 0), (0, 0)⟩, A', c'⟩], A, c⟩ := by
  cases o with
  | none => exact absurd ex_pos h
  | some s =>
    obtain ⟨zs, A, c⟩ := s
    have h2 := h.2.1
    rw [ex_boards] at h2
    dsimp only at h2
    cases zs with
    | nil => simp at h2
    | cons x l =>
      cases l with
      | cons _ _ => simp at h2
      | nil =>
        obtain ⟨b, A', c'⟩ := x
        simp only [List.map_cons, List.map_nil, List.cons.injEq, and_true] at h2
        subst h2
        exact ⟨A, A', c, c', rfl⟩
set_option maxRecDepth 100000 in
theorem C_law3_works (w : World) : C0 Tryz.prog 8 [] w (.bool true) := by
  refine ⟨en Tryz.func8 Tryz.ntmps8 (St.init w) (h := fun F => ?_)⟩
  refine sq (h := ?_)
  refine rg (h := ?_)
  refine WL.y (hy := asg) (h := ?_)
  refine nl (h := ?_)
  refine q_seq (h := ?_)
  refine sq (h := ?_)
  refine rg (h := ?_)
  refine cl (hc := fun w hS => C_law3_Example w) (h := fun x0 _ => ?_)
  refine al (h := fun b0 => ?_)
  first | refine stA (h := ?_) | refine stEA (h := ?_)
  refine nl (h := ?_)
  refine q_seq (h := ?_)
  refine sq (h := ?_)
  refine rg (h := ?_)
  refine WL.y (hy := (by first | exact ldA | exact ldEA)) (h := ?_)
  refine cl0 (hc := fun w hS => C_card_First exF 0 exX (some ⟨x0, 0, none⟩) 5 5 w (hS.get (by repeat (first | exact Rds.ro | exact Rds.own | apply Rds.there))) (by omega) (fun _ => by rw [ex_most]; decide)) (h := ?_)
  rw [ex_all, ex_chk]
  refine WL.y (hy := mv) (h := ?_)
  refine WL.y (hy := ex) (h := ?_)
  refine WL.y (hy := ex) (h := ?_)
  refine WL.y (hy := asg) (h := ?_)
  refine WL.y (hy := asg) (h := ?_)
  refine nl (h := ?_)
  refine q_seq (h := ?_)
  refine sq (h := ?_)
  refine rg (h := ?_)
  refine WL.y (hy := (by first | exact ldA | exact ldEA)) (h := ?_)
  refine cl (hfresh := fun o => by cases o <;> rfl) (hc := fun w hS => C_card_Boards exF 0 exX (some ⟨x0, 0, none⟩) 5 5 w (hS.get (by repeat (first | exact Rds.ro | exact Rds.own | apply Rds.there))) (by omega) (fun _ => by rw [ex_most]; decide) (by rw [ex_len]; decide)) (h := fun o ho => ?_)
  obtain ⟨A1, A2, c1, c2, rfl⟩ := ex_bd ho
  rw [ex_pos]
  refine WL.subL (L' := [.own A1 c1 52 5 1 (encX [⟨⟨[], (1, 0), (0, 0)⟩, A2, c2⟩]), .blk b0 26 (cardC exF 0 (some ⟨x0, 0, none⟩) 5 5), .own (some ⟨x0, 0, none⟩) 5 45 4 5 (encN exX)]) (by repeat (first | exact SubL.nil | (apply SubL.cons; (repeat (first | exact At.here | apply At.there))) | exact SubL.refl _ | apply SubL.skip)) ?_
  refine WL.y (hy := mv) (h := ?_)
  refine WL.y (hy := ex) (h := ?_)
  refine WL.y (hy := ex) (h := ?_)
  refine WL.y (hy := asg) (h := ?_)
  refine WL.y (hy := asg) (h := ?_)
  refine nl (h := ?_)
  refine q_seq (h := ?_)
  refine sq (h := ?_)
  refine rg (h := ?_)
  refine WL.y (hy := (by first | exact ldA | exact ldEA)) (h := ?_)
  refine cl0 (hc := fun w hS => C_card_Count exF 0 exX (some ⟨x0, 0, none⟩) 5 5 w (hS.get (by repeat (first | exact Rds.ro | exact Rds.own | apply Rds.there))) (by omega) (fun _ => by rw [ex_most]; decide)) (h := ?_)
  rw [ex_cntV, ex_pos]
  refine WL.y (hy := mv) (h := ?_)
  refine WL.y (hy := ex) (h := ?_)
  refine WL.y (hy := ex) (h := ?_)
  refine al (h := fun b1 => ?_)
  first | refine stA (h := ?_) | refine stEA (h := ?_)
  refine WL.y (hy := asg) (h := ?_)
  refine nl (h := ?_)
  refine q_seq (h := ?_)
  refine sq (h := ?_)
  refine rg (h := ?_)
  refine WL.y (hy := (by first | exact ldA | exact ldEA)) (h := ?_)
  refine WL.y (hy := bd) (h := ?_)
  refine cl0 (hc := fun w hS => C_card_Sure exF 0 exX ⟨6, 1, (0, 0)⟩ (some ⟨x0, 0, none⟩) 5 5 w (hS.get (by repeat (first | exact Rds.ro | exact Rds.own | apply Rds.there))) (by omega) (fun _ => by rw [ex_most]; decide)) (h := ?_)
  rw [ex_sureV, ex_sureE]
  refine WL.y (hy := mv) (h := ?_)
  refine WL.y (hy := ex) (h := ?_)
  refine WL.y (hy := ex) (h := ?_)
  refine WL.y (hy := asg) (h := ?_)
  refine WL.y (hy := asg) (h := ?_)
  refine nl (h := ?_)
  refine q_seq (h := ?_)
  refine sq (h := ?_)
  refine rg (h := ?_)
  refine WL.y (hy := mv) (h := ?_)
  refine WL.y (hy := eql) (h := ?_)
  refine WL.y (hy := mv) (h := ?_)
  apply brAnd 3 34 37 (by exact rfl)
  · intro hb0
    refine un (h := ?_)
    refine WL.y (hy := mv) (h := ?_)
    refine un (h := ?_)
    refine WL.y (hy := eql) (h := ?_)
    refine WL.y (hy := (by first | exact pkT | exact pkF)) (h := ?_)
    exact mg (by repeat (first | exact trivial | refine ⟨rfl, ?_⟩ | refine ⟨by rw [hb0]; rfl, ?_⟩)) (by repeat (first | exact SubL.nil | (apply SubL.cons; (repeat (first | exact At.here | apply At.there))) | exact SubL.refl _ | apply SubL.skip))
  · intro hb0
    repeat (first | refine un (h := ?_) | refine sk (h := ?_) | refine WL.y (hy := pkF) (h := ?_) | refine WL.y (hy := pkT) (h := ?_))
    exact mg (by repeat (first | exact trivial | refine ⟨rfl, ?_⟩ | refine ⟨by rw [hb0]; rfl, ?_⟩)) (by repeat (first | exact SubL.nil | (apply SubL.cons; (repeat (first | exact At.here | apply At.there))) | exact SubL.refl _ | apply SubL.skip))
  refine WL.y (hy := mv) (h := ?_)
  apply brAnd 3 38 41 (by exact rfl)
  · intro hb1
    refine un (h := ?_)
    refine WL.y (hy := mv) (h := ?_)
    refine un (h := ?_)
    refine WL.y (hy := eql) (h := ?_)
    refine WL.y (hy := (by first | exact pkT | exact pkF)) (h := ?_)
    exact mg (by repeat (first | exact trivial | refine ⟨rfl, ?_⟩ | refine ⟨by rw [hb1]; rfl, ?_⟩)) (by repeat (first | exact SubL.nil | (apply SubL.cons; (repeat (first | exact At.here | apply At.there))) | exact SubL.refl _ | apply SubL.skip))
  · intro hb1
    repeat (first | refine un (h := ?_) | refine sk (h := ?_) | refine WL.y (hy := pkF) (h := ?_) | refine WL.y (hy := pkT) (h := ?_))
    exact mg (by repeat (first | exact trivial | refine ⟨rfl, ?_⟩ | refine ⟨by rw [hb1]; rfl, ?_⟩)) (by repeat (first | exact SubL.nil | (apply SubL.cons; (repeat (first | exact At.here | apply At.there))) | exact SubL.refl _ | apply SubL.skip))
  refine WL.y (hy := mv) (h := ?_)
  apply brAnd 3 42 45 (by exact rfl)
  · intro hb2
    refine un (h := ?_)
    refine WL.y (hy := mv) (h := ?_)
    refine un (h := ?_)
    refine WL.y (hy := eql) (h := ?_)
    refine WL.y (hy := (by first | exact pkT | exact pkF)) (h := ?_)
    exact mg (by repeat (first | exact trivial | refine ⟨rfl, ?_⟩ | refine ⟨by rw [hb2]; rfl, ?_⟩)) (by repeat (first | exact SubL.nil | (apply SubL.cons; (repeat (first | exact At.here | apply At.there))) | exact SubL.refl _ | apply SubL.skip))
  · intro hb2
    repeat (first | refine un (h := ?_) | refine sk (h := ?_) | refine WL.y (hy := pkF) (h := ?_) | refine WL.y (hy := pkT) (h := ?_))
    exact mg (by repeat (first | exact trivial | refine ⟨rfl, ?_⟩ | refine ⟨by rw [hb2]; rfl, ?_⟩)) (by repeat (first | exact SubL.nil | (apply SubL.cons; (repeat (first | exact At.here | apply At.there))) | exact SubL.refl _ | apply SubL.skip))
  refine WL.y (hy := mv) (h := ?_)
  apply brAnd 3 46 49 (by exact rfl)
  · intro hb3
    refine un (h := ?_)
    refine WL.y (hy := mv) (h := ?_)
    refine un (h := ?_)
    refine WL.y (hy := eql) (h := ?_)
    refine WL.y (hy := (by first | exact pkT | exact pkF)) (h := ?_)
    exact mg (by repeat (first | exact trivial | refine ⟨rfl, ?_⟩ | refine ⟨by rw [hb3]; rfl, ?_⟩)) (by repeat (first | exact SubL.nil | (apply SubL.cons; (repeat (first | exact At.here | apply At.there))) | exact SubL.refl _ | apply SubL.skip))
  · intro hb3
    repeat (first | refine un (h := ?_) | refine sk (h := ?_) | refine WL.y (hy := pkF) (h := ?_) | refine WL.y (hy := pkT) (h := ?_))
    exact mg (by repeat (first | exact trivial | refine ⟨rfl, ?_⟩ | refine ⟨by rw [hb3]; rfl, ?_⟩)) (by repeat (first | exact SubL.nil | (apply SubL.cons; (repeat (first | exact At.here | apply At.there))) | exact SubL.refl _ | apply SubL.skip))
  refine WL.y (hy := mv) (h := ?_)
  apply brAnd 4 50 54 (by exact rfl)
  · intro hb4
    refine un (h := ?_)
    refine WL.y (hy := mv) (h := ?_)
    refine un (h := ?_)
    refine WL.y (hy := lenS) (h := ?_)
    refine un (h := ?_)
    refine WL.y (hy := eql) (h := ?_)
    refine WL.y (hy := (by first | exact pkT | exact pkF)) (h := ?_)
    exact mg (by repeat (first | exact trivial | refine ⟨rfl, ?_⟩ | refine ⟨by rw [hb4]; rfl, ?_⟩)) (by repeat (first | exact SubL.nil | (apply SubL.cons; (repeat (first | exact At.here | apply At.there))) | exact SubL.refl _ | apply SubL.skip))
  · intro hb4
    repeat (first | refine un (h := ?_) | refine sk (h := ?_) | refine WL.y (hy := pkF) (h := ?_) | refine WL.y (hy := pkT) (h := ?_))
    exact mg (by repeat (first | exact trivial | refine ⟨rfl, ?_⟩ | refine ⟨by rw [hb4]; rfl, ?_⟩)) (by repeat (first | exact SubL.nil | (apply SubL.cons; (repeat (first | exact At.here | apply At.there))) | exact SubL.refl _ | apply SubL.skip))
  refine WL.y (hy := mv) (h := ?_)
  apply brAnd 7 55 62 (by exact rfl)
  · intro hb5
    refine un (h := ?_)
    refine WL.y (hy := mv) (h := ?_)
    refine un (h := ?_)
    refine WL.y (hy := ix (A := A1) (m := 1)) (h := ?_)
    refine un (h := ?_)
    refine WL.y (hy := (by first | exact fa | exact faE)) (h := ?_)
    refine un (h := ?_)
    refine WL.y (hy := ldEA (A := A1) (k := 0) (hk := rfl)) (h := ?_)
    refine un (h := ?_)
    refine WL.y (hy := bd) (h := ?_)
    refine un (h := ?_)
    refine WL.y (hy := eqlT) (h := ?_)
    refine WL.y (hy := (by first | exact pkT | exact pkF)) (h := ?_)
    exact mg (by repeat (first | exact trivial | refine ⟨rfl, ?_⟩ | refine ⟨by rw [hb5]; rfl, ?_⟩)) (by repeat (first | exact SubL.nil | (apply SubL.cons; (repeat (first | exact At.here | apply At.there))) | exact SubL.refl _ | apply SubL.skip))
  · intro hb5
    repeat (first | refine un (h := ?_) | refine sk (h := ?_) | refine WL.y (hy := pkF) (h := ?_) | refine WL.y (hy := pkT) (h := ?_))
    exact mg (by repeat (first | exact trivial | refine ⟨rfl, ?_⟩ | refine ⟨by rw [hb5]; rfl, ?_⟩)) (by repeat (first | exact SubL.nil | (apply SubL.cons; (repeat (first | exact At.here | apply At.there))) | exact SubL.refl _ | apply SubL.skip))
  refine WL.y (hy := mv) (h := ?_)
  apply brAnd 4 63 67 (by exact rfl)
  · intro hb6
    refine un (h := ?_)
    refine WL.y (hy := (by first | exact ldA | exact ldEA)) (h := ?_)
    refine un (h := ?_)
    refine WL.y (hy := bd) (h := ?_)
    refine un (h := ?_)
    refine WL.y (hy := eqlT) (h := ?_)
    refine WL.y (hy := (by first | exact pkT | exact pkF)) (h := ?_)
    exact mg (by repeat (first | exact trivial | refine ⟨rfl, ?_⟩ | refine ⟨by rw [hb6]; rfl, ?_⟩)) (by repeat (first | exact SubL.nil | (apply SubL.cons; (repeat (first | exact At.here | apply At.there))) | exact SubL.refl _ | apply SubL.skip))
  · intro hb6
    repeat (first | refine un (h := ?_) | refine sk (h := ?_) | refine WL.y (hy := pkF) (h := ?_) | refine WL.y (hy := pkT) (h := ?_))
    exact mg (by repeat (first | exact trivial | refine ⟨rfl, ?_⟩ | refine ⟨by rw [hb6]; rfl, ?_⟩)) (by repeat (first | exact SubL.nil | (apply SubL.cons; (repeat (first | exact At.here | apply At.there))) | exact SubL.refl _ | apply SubL.skip))
  refine WL.y (hy := mv) (h := ?_)
  apply brAnd 2 68 70 (by exact rfl)
  · intro hb7
    refine un (h := ?_)
    refine WL.y (hy := mv) (h := ?_)
    refine WL.y (hy := (by first | exact pkT | exact pkF)) (h := ?_)
    exact mg (by repeat (first | exact trivial | refine ⟨rfl, ?_⟩ | refine ⟨by rw [hb7]; rfl, ?_⟩)) (by repeat (first | exact SubL.nil | (apply SubL.cons; (repeat (first | exact At.here | apply At.there))) | exact SubL.refl _ | apply SubL.skip))
  · intro hb7
    repeat (first | refine un (h := ?_) | refine sk (h := ?_) | refine WL.y (hy := pkF) (h := ?_) | refine WL.y (hy := pkT) (h := ?_))
    exact mg (by repeat (first | exact trivial | refine ⟨rfl, ?_⟩ | refine ⟨by rw [hb7]; rfl, ?_⟩)) (by repeat (first | exact SubL.nil | (apply SubL.cons; (repeat (first | exact At.here | apply At.there))) | exact SubL.refl _ | apply SubL.skip))
  refine WL.y (hy := asg) (h := ?_)
  refine nl (h := ?_)
  refine q_seq (h := ?_)
  refine rtn (h := ?_)
  refine q_ret (hR := ?_)
  exact fun w hS => ⟨rfl, hS.sub .nil⟩
end Go.Proofs.YtpejgebcmhmpaaaGreat

namespace Go.Proofs.YtpejgebcmhmpaaaGreat
open Go Go.RowKit

theorem chk_of {f : Fmt} {cf : Int} {xs : List Nt} (h1 : chkF f = 0) (h2 : -1 ≤ cf ∧ cf ≤ 1) (h3 : xs.length ≤ 30) (h4 : ∀ x ∈ xs, mkV x = true) (h5 : mostS xs ≤ 600) : chkC f cf xs = 0 := by
  have e1 : headB f cf xs.length = false := by
    unfold headB
    rw [decide_eq_true h1, show wi cf (-1) 1 = true from wi_iff.2 h2, decide_eq_false (by omega)]; rfl
  rw [chkC, e1, List.all_eq_true.2 h4, decide_eq_false (by omega)]; rfl
theorem misN_nn {x : Nt} (h : mkV x = true) : 0 ≤ misN x ∧ 0 ≤ mostN x := by
  have h1 := (exp_mis (xs := [x]) (by simpa using h)).2.2
  have h2 := most_bd h
  exact ⟨by simpa [misS] using h1, by omega⟩
theorem sub_sums {ys xs : List Nt} (hs : ys.Sublist xs) (h : ∀ x ∈ xs, mkV x = true) : misS ys ≤ misS xs ∧ mostS ys ≤ mostS xs := by
  induction hs with
  | slnil => exact ⟨Int.le_refl _, Int.le_refl _⟩
  | @cons l1 l2 a hs ih =>
    obtain ⟨h1, h2⟩ := ih fun x hx => h x (by simp [hx])
    obtain ⟨h3, h4⟩ := misN_nn (h a (by simp))
    have e2 : misS (a :: l2) = misN a + misS l2 := by unfold misS; rw [List.map_cons, List.sum_cons]
    have e3 : mostS (a :: l2) = mostN a + mostS l2 := by unfold mostS; rw [List.map_cons, List.sum_cons]
    omega
  | @cons_cons l1 l2 a hs ih =>
    obtain ⟨h1, h2⟩ := ih fun x hx => h x (by simp [hx])
    have e : ∀ l : List Nt, misS (a :: l) = misN a + misS l ∧ mostS (a :: l) = mostN a + mostS l := fun l => by unfold misS mostS; rw [List.map_cons, List.sum_cons, List.map_cons, List.sum_cons]; exact ⟨rfl, rfl⟩
    have e1 := e l1
    have e2 := e l2
    omega
theorem Rdy.sub {f : Fmt} {cf : Int} {ys xs : List Nt} (h : Rdy f cf xs) (hs : ys.Sublist xs) : Rdy f cf ys := by
  obtain ⟨h1, h2⟩ := sub_sums hs h.mks
  obtain ⟨c1, c2, c3, c4, c5, c6⟩ := chk_facts h.c
  have hn := h.n
  have hm := h.m
  have hi := h.mis
  have hl := hs.length_le
  exact rdy_of (chk_of c1 c3 (by omega) (fun x hx => c5 x (hs.subset hx)) (by omega)) (by omega) (by omega)
theorem Rdy.take {f : Fmt} {cf : Int} {xs : List Nt} (h : Rdy f cf xs) (k : Nat) : Rdy f cf (xs.take k) := h.sub (List.take_sublist _ _)
theorem bad_rng (f : Fmt) (cf : Int) (xs : List Nt) : -1 ≤ badC f cf xs ∧ badC f cf xs < xs.length := by
  unfold badC
  rcases fstC_spec (fun i => (crowdC f cf (xs.take (i + 1))).isEmpty) xs.length with ⟨h1, _⟩ | ⟨k, hk, h1, _⟩ <;> rw [h1] <;> omega
theorem Rdy.pos {f : Fmt} {cf : Int} {xs : List Nt} (h : Rdy f cf xs) : posE f cf xs = if badC f cf xs = -1 then 0 else 3 := by
  have hb := bad_rng f cf xs
  rw [posE, decide_eq_true h.c, cond_true]
  by_cases e : badC f cf xs = -1
  · rw [if_pos e, e]; rfl
  · rw [if_neg e, decide_eq_true (show 0 ≤ badC f cf xs by omega)]; rfl
theorem Rdy.all {f : Fmt} {cf : Int} {xs : List Nt} (h : Rdy f cf xs) : allB f cf xs = badC f cf xs := by rw [allB, decide_eq_true h.c]; rfl

section rules
variable {F : Fence} {P : Program} {ops : Array Oper} {Q : Exit → Act → World → Prop} {rest : List Oper} {n : Nat} {D : List Deferred} {l : Env} {w0 : World} {L M : List Ent}
variable {d : Nat} {ty : TypeId} {pos : String} {aft : Array Edge}
end rules
structure Lsr (f : Fmt) (cf : Int) (xs : List Nt) (cf' : Int) (xs' : List Nt) : Prop where
  len : xs'.length = xs.length
  sub : ∀ s, s ∈ keyC (crowdC f cf xs) → s ∈ keyC (crowdC f cf' xs')
theorem Rdy.bad_key {f : Fmt} {cf : Int} {xs : List Nt} (h : Rdy f cf xs) : badC f cf xs = -1 ↔ ∃ s, s ∈ keyC (crowdC f cf xs) := by
  rw [bad_none h.cf]
  cases hc : crowdC f cf xs with
  | nil => exact ⟨fun e => absurd rfl e, fun ⟨s, hs⟩ => by cases hs⟩
  | cons e l => exact ⟨fun _ => ⟨e.1, by simp [keyC]⟩, fun _ => by simp⟩
theorem Lsr.pos {f : Fmt} {cf cf' : Int} {xs xs' : List Nt} (h : Lsr f cf xs cf' xs') (hR : Rdy f cf xs) (hR' : Rdy f cf' xs') (h0 : posE f cf xs = 0) : posE f cf' xs' = 0 := by
  rw [hR.pos] at h0
  by_cases e : badC f cf xs = -1
  · obtain ⟨s, hs⟩ := hR.bad_key.1 e
    rw [hR'.pos, if_pos (hR'.bad_key.2 ⟨s, h.sub s hs⟩)]
  · rw [if_neg e] at h0; cases h0
theorem BdOk.some_ {f : Fmt} {cf : Int} {xs : List Nt} {o : Option BDR} (h : BdOk f cf xs o) (h0 : posE f cf xs = 0) : ∃ q, o = some q := by
  cases o with
  | none => exact absurd h0 h
  | some q => exact ⟨q, rfl⟩
theorem BdOk.mem {f : Fmt} {cf : Int} {xs : List Nt} {q : BDR} (h : BdOk f cf xs (some q)) (b : Brd) : b ∈ q.zs.map (·.b) ↔ ∃ s ∈ keyC (crowdC f cf xs), brdOf s = b := by
  rw [h.2.1]; exact (boards_facts _).2 b
end Go.Proofs.YtpejgebcmhmpaaaGreat

namespace Go.Proofs.YtpejgebcmhmpaaaGreat
open Go Go.RowKit

structure CW where
  (b : Nat) (ns : List Nd) (es : Array MapEntry) (c : Nat)
section
variable {w0 w : World} {M : List Ent}
end
section rules
variable {F : Fence} {P : Program} {Q : Exit → Act → World → Prop} {n : Nat} {D : List Deferred} {l : Env} {w0 : World} {L M : List Ent}
end rules
section rules2
variable {F : Fence} {P : Program} {ops : Array Oper} {Q : Exit → Act → World → Prop} {rest : List Oper} {n : Nat} {D : List Deferred} {l : Env} {w0 : World} {L M : List Ent}
end rules2
abbrev CW.v (q : CW) : List Value := [.map (some q.b)]
end Go.Proofs.YtpejgebcmhmpaaaGreat

namespace Go.Proofs.YtpejgebcmhmpaaaGreat
open Go Go.RowKit

theorem putNs_key {ns : List Nd} {x : Nd} {s : Spot} : s ∈ spotKs (putNs ns x) ↔ s ∈ spotKs ns ∨ s = x.s := by
  unfold putNs
  cases hg : getN ns x.s with
  | some o =>
    obtain ⟨h1, h2⟩ := getN_some hg
    refine ⟨.inl, fun h => h.elim id fun e => ?_⟩
    subst e
    exact List.mem_map.2 ⟨o, h1, h2⟩
  | none =>
    unfold spotKs
    rw [List.map_append, List.mem_append]
    simp
structure FwI (f : Fmt) (cf : Int) (xs : List Nt) (j : Nat) (N : List Nd) (mn : Nat → Pr) (ms : List CW) : Prop where
  len : ms.length = j + 1
  ok : PoolOk f N mn (15 * (mostS (xs.take j) + (j : Int)))
  cr : ∀ k q, ms[k]? = some q → CrIs N q.ns q.es q.c ∧ ∀ s, s ∈ spotKs q.ns ↔ Lft f cf xs j k s
theorem FwI.start {f : Fmt} {cf : Int} {xs : List Nt} {q : PR} (h : BgI f cf 2 q.N q.mn q.ns q.es q.c) : FwI f cf xs 0 q.N q.mn [⟨q.b, q.ns, q.es, q.c⟩] := by
  refine ⟨rfl, h.ok.up (by exact Int.le_refl _), fun k p hk => ?_⟩
  cases k with
  | succ k => simp at hk
  | zero =>
    obtain rfl : (⟨q.b, q.ns, q.es, q.c⟩ : CW) = p := by simpa using hk
    refine ⟨h.cr, fun s => ?_⟩
    have e := h.eqC
    rw [begTo_two] at e
    rw [← toC_keys q.mn q.ns, e]
    exact ⟨fun hs => ⟨rfl, hs⟩, fun hs => hs.2⟩
structure FnI (f : Fmt) (cf : Int) (xs : List Nt) (j : Nat) (m : Int) (N0 : List Nd) (k : Nat) (N : List Nd) (mn : Nat → Pr) (nx : List CW) : Prop where
  len : nx.length = k
  ok : PoolOk f N mn (15 * (mostS (xs.take j) + (j : Int)) + (k : Int) * m)
  sub : ∀ y ∈ N0, y ∈ N
  cr : ∀ i q, nx[i]? = some q → CrIs N q.ns q.es q.c ∧ ∀ s, s ∈ spotKs q.ns ↔ Lft f cf xs (j + 1) i s
theorem FwI.first {f : Fmt} {cf : Int} {xs : List Nt} {j : Nat} {N : List Nd} {mn : Nat → Pr} {ms : List CW} (h : FwI f cf xs j N mn ms) (m : Int) : FnI f cf xs j m N 0 N mn [] :=
  ⟨rfl, h.ok.up (by rw [show ((0 : Nat) : Int) * m = 0 from Int.zero_mul m]; omega), fun _ h => h, fun i q hq => by simp at hq⟩
structure FmI (f : Fmt) (cf : Int) (xs : List Nt) (j : Nat) (x : Nt) (m : Int) (N0 : List Nd) (k : Nat) (nx : List CW) (N : List Nd) (mn : Nat → Pr) (q : CW) : Prop where
  ok : PoolOk f N mn (15 * (mostS (xs.take j) + (j : Int)) + ((k + 1 : Nat) : Int) * m)
  sub : ∀ y ∈ N0, y ∈ N
  old : ∀ i p, nx[i]? = some p → CrIs N p.ns p.es p.c ∧ ∀ s, s ∈ spotKs p.ns ↔ Lft f cf xs (j + 1) i s
  cr : CrIs N q.ns q.es q.c
  keys : ∀ s, s ∈ spotKs q.ns ↔ ∃ t, Lft f cf xs j k t ∧ Rel f x t s
theorem FnI.read {f : Fmt} {cf : Int} {xs : List Nt} {j : Nat} {x : Nt} {m : Int} {N0 : List Nd} {k : Nat} {N : List Nd} {mn : Nat → Pr} {nx ms : List CW} {p : CW} {mn0 : Nat → Pr} (h : FnI f cf xs j m N0 k N mn nx) (hm : m = mostN x + 1) (h0 : FwI f cf xs j N0 mn0 ms) (hp : ms[k]? = some p) {q : PR} (hr : RdOk f N mn p.ns x (15 * (mostS (xs.take j) + (j : Int)) + (k : Int) * m) q) : FmI f cf xs j x m N0 k nx q.N q.mn ⟨q.b, q.ns, q.es, q.c⟩ := by
  refine ⟨hr.ok.up ?_, fun y hy => hr.sub y (h.sub y hy), fun i p hp => ⟨(h.cr i p hp).1.up hr.sub, (h.cr i p hp).2⟩, hr.cr, fun s => ?_⟩
  · rw [show ((k + 1 : Nat) : Int) * m = (k : Int) * m + m by rw [Int.natCast_succ, Int.add_mul, Int.one_mul]]; omega
  · have h1 : s ∈ spotKs q.ns ↔ s ∈ keyC (afterC f (toC mn p.ns) x) := by
      rw [← toC_keys q.mn q.ns]; exact (hr.eqC.map _).mem_iff
    rw [h1, after_mem]
    refine ⟨fun ⟨t, ht, hx⟩ => ⟨t, ?_, hx⟩, fun ⟨t, ht, hx⟩ => ⟨t, ?_, hx⟩⟩
    · rw [toC_keys] at ht; exact ((h0.cr k p hp).2 t).1 ht
    · rw [toC_keys]; exact ((h0.cr k p hp).2 t).2 ht
theorem FnI.none {f : Fmt} {cf : Int} {xs : List Nt} {j : Nat} {x : Nt} {m : Int} {N0 : List Nd} {k : Nat} {N : List Nd} {mn : Nat → Pr} {nx : List CW} (h : FnI f cf xs j m N0 k N mn nx) (hm : 0 ≤ m) (hk : j < k) (b : Nat) : FmI f cf xs j x m N0 k nx N mn ⟨b, [], #[], 0⟩ := by
  refine ⟨h.ok.up ?_, h.sub, h.cr, CrIs.nil N, fun s => ⟨fun hs => (by cases hs), fun ⟨t, ht, _⟩ => ?_⟩⟩
  · rw [show ((k + 1 : Nat) : Int) * m = (k : Int) * m + m by rw [Int.natCast_succ, Int.add_mul, Int.one_mul]]; omega
  · have := lft_le ht; omega
structure FpI (f : Fmt) (K : Int) (N1 : List Nd) (q : CW) (N : List Nd) (mn : Nat → Pr) (ns : List Nd) (es : Array MapEntry) (c : Nat) (dn : List Nd) : Prop where
  ok : PoolOk f N mn K
  sub : ∀ y ∈ N1, y ∈ N
  cr : CrIs N ns es c
  keys : ∀ s, s ∈ spotKs ns ↔ s ∈ spotKs q.ns ∨ s ∈ spotKs dn
theorem FpI.put {f : Fmt} {K : Int} {N1 : List Nd} {q : CW} {N : List Nd} {mn : Nat → Pr} {ns : List Nd} {es : Array MapEntry} {c : Nat} {dn : List Nd} (h : FpI f K N1 q N mn ns es c dn) {x : Nd} {b : Nat} (hcp : PoolOk f (⟨b, x.s, x.bf, x.sd⟩ :: N) (upN mn b (mn x.b)) K) {es2 : Array MapEntry} {c2 : Nat} (hm : MapIs es2 (crE (putNs ns ⟨b, x.s, x.bf, x.sd⟩)) ∧ Stm es2 c2) : FpI f K N1 q (⟨b, x.s, x.bf, x.sd⟩ :: N) (putM ns (upN mn b (mn x.b)) ⟨b, x.s, x.bf, x.sd⟩) (putNs ns ⟨b, x.s, x.bf, x.sd⟩) es2 c2 (dn ++ [x]) := by
  have hup : CrIs (⟨b, x.s, x.bf, x.sd⟩ :: N) ns es c := h.cr.up fun y hy => List.mem_cons_of_mem _ hy
  refine ⟨putM_ok hcp hup.sub List.mem_cons_self, fun y hy => List.mem_cons_of_mem _ (h.sub y hy), hup.put List.mem_cons_self hm, fun s => ?_⟩
  rw [putNs_key, h.keys s]
  unfold spotKs
  rw [List.map_append, List.mem_append]
  simp only [List.map_cons, List.map_nil, List.mem_singleton, or_assoc]
theorem FnI.next {f : Fmt} {cf : Int} {xs : List Nt} {j : Nat} {x : Nt} {m : Int} {N0 : List Nd} {k : Nat} {nx : List CW} {N N1 : List Nd} {mn mn1 : Nat → Pr} {q q' : CW} (hl : nx.length = k) (hx : xs[j]? = some x) (h : FmI f cf xs j x m N0 k nx N1 mn1 q) (ok : PoolOk f N mn (15 * (mostS (xs.take j) + (j : Int)) + ((k + 1 : Nat) : Int) * m)) (sub : ∀ y ∈ N1, y ∈ N) (cr : CrIs N q'.ns q'.es q'.c) (keys : ∀ s, s ∈ spotKs q'.ns ↔ s ∈ spotKs q.ns ∨ ∃ k', k = k' + 1 ∧ Lft f cf xs j k' s) : FnI f cf xs j m N0 (k + 1) N mn (nx ++ [q']) := by
  refine ⟨by rw [List.length_append, hl]; rfl, ok, fun y hy => sub y (h.sub y hy), fun i p hp => ?_⟩
  by_cases e : i < k
  · rw [List.getElem?_append_left (by omega)] at hp
    exact ⟨(h.old i p hp).1.up sub, (h.old i p hp).2⟩
  · rw [List.getElem?_append_right (by omega)] at hp
    obtain ⟨rfl, hk⟩ : q' = p ∧ i = k := by
      cases hd : i - nx.length with
      | zero => rw [hd] at hp; exact ⟨by simpa using hp, by omega⟩
      | succ d => rw [hd] at hp; simp at hp
    subst hk
    refine ⟨cr, fun s => ?_⟩
    rw [keys s, h.keys s]
    constructor
    · rintro (⟨t, ht, hr⟩ | ⟨k', e, hs⟩)
      · exact .inl ⟨x, t, hx, ht, hr⟩
      · exact .inr ⟨k', e, hs⟩
    · rintro (⟨y, t, hy, ht, hr⟩ | ⟨k', e, hs⟩)
      · rw [hx] at hy; cases hy
        exact .inl ⟨t, ht, hr⟩
      · exact .inr ⟨k', e, hs⟩
theorem FnI.done {f : Fmt} {cf : Int} {xs : List Nt} {j : Nat} {x : Nt} {m : Int} {N0 N : List Nd} {mn : Nat → Pr} {nx : List CW} {k : Nat} (h : FnI f cf xs j m N0 k N mn nx) (hk : k = j + 2) (hx : xs[j]? = some x) (hm : m = mostN x + 1) (hm0 : 0 ≤ m) (hj : j ≤ 12) : FwI f cf xs (j + 1) N mn nx := by
  subst hk
  refine ⟨h.len, h.ok.up ?_, h.cr⟩
  rw [mostS_succ hx]
  have : ((j + 2 : Nat) : Int) * m ≤ 15 * m := Int.mul_le_mul_of_nonneg_right (by omega) hm0
  have e : 15 * (mostS (xs.take j) + mostN x + ((j + 1 : Nat) : Int)) = 15 * (mostS (xs.take j) + (j : Int)) + 15 * m := by rw [hm]; omega
  omega
end Go.Proofs.YtpejgebcmhmpaaaGreat

namespace Go.Proofs.YtpejgebcmhmpaaaGreat
open Go Go.RowKit

theorem Rdy.sm {f : Fmt} {cf : Int} {xs : List Nt} (h : Rdy f cf xs) : chkC f cf xs = 0 → xs.length ≤ 12 ∧ mostS xs ≤ 20 := fun _ => ⟨h.n, h.m⟩
section rules
variable {F : Fence} {P : Program} {n : Nat} {D : List Deferred} {l : Env} {w0 : World} {L : List Ent}
end rules
end Go.Proofs.YtpejgebcmhmpaaaGreat

namespace Go.Proofs.YtpejgebcmhmpaaaGreat
open Go Go.RowKit

section
variable {f : Fmt} {cf : Int} {xs : List Nt}
end
end Go.Proofs.YtpejgebcmhmpaaaGreat

namespace Go.Proofs.YtpejgebcmhmpaaaGreat
open Go Go.RowKit

structure BtOk (f : Fmt) (cf : Int) (xs : List Nt) (q : BDR) : Prop where
  no : posE f cf xs ≠ 0 → q.zs = []
  yes : posE f cf xs = 0 → q.zs.map (·.b) = boardsC (keyC (crowdC f cf xs))
  sm : ∀ x ∈ q.zs, BrdSm x.b
  len : q.zs.length ≤ 4194304
theorem St.nilOwn {w0 w : World} {L : List Ent} (h : St w0 w L) (T : TypeId) (size : Nat) : St w0 w (.own none 0 T size 0 [] :: L) := by
  refine St.add (M := [_]) h (Blw.refl _ _) (fun e he => ?_) (fun e he b hb' => ?_) (List.pairwise_singleton _ _)
  · simp only [List.mem_singleton] at he; subst he; exact ⟨World.ownsRow_nil w 0 T size, Rd.nil w none size⟩
  · simp only [List.mem_singleton] at he; subst he; obtain ⟨ad, had, _⟩ := hb'; cases had
end Go.Proofs.YtpejgebcmhmpaaaGreat

namespace Go.Proofs.YtpejgebcmhmpaaaGreat
open Go Go.RowKit

section rules
variable {F : Fence} {P : Program} {ops : Array Oper} {Q : Exit → Act → World → Prop} {rest : List Oper} {n : Nat} {D : List Deferred} {l : Env} {w0 : World} {L M : List Ent}
theorem St.getRow {w : World} {rs : List Row} {r : Row} (h : St w0 w (manyE true rs :: M)) (hr : r ∈ rs) : St w0 w (.ro r.A r.size r.n r.es :: manyE true rs :: M) := by
  have hp := List.pairwise_cons.1 h.sep
  refine ⟨h.below, fun x hx => ?_, fun x hx hf k hk => ?_, List.pairwise_cons.2 ⟨fun x hx ho k hk hk' => ?_, h.sep⟩⟩
  · rcases List.mem_cons.1 hx with rfl | hx
    · exact h.ok (manyE true rs) (by simp) r hr
    · exact h.ok x hx
  · rcases List.mem_cons.1 hx with rfl | hx
    · exact h.new (manyE true rs) (by simp) rfl k ⟨r, hr, hk⟩
    · exact h.new x hx hf k hk
  · rcases List.mem_cons.1 hx with rfl | hx
    · rcases ho with h1 | h1 <;> cases h1
    · exact hp.1 x hx (ho.imp (fun h => h) id) k ⟨r, hr, hk⟩ hk'
theorem WC.getRow {c : Code} {rs : List Row} {r : Row} (hr : r ∈ rs) (ha : At L (manyE true rs) M) (h : WC F P c Q n D l w0 (.ro r.A r.size r.n r.es :: manyE true rs :: M)) : WC F P c Q n D l w0 L := fun hF a w hfr hst => h hF a w hfr ((hst.pull ha).getRow hr)
theorem WL.getRow {rs : List Row} {r : Row} (hr : r ∈ rs) (ha : At L (manyE true rs) M) (h : WL F P ops Q rest n D l w0 (.ro r.A r.size r.n r.es :: manyE true rs :: M)) : WL F P ops Q rest n D l w0 L := fun hF a w hfr hst => h hF a w hfr ((hst.pull ha).getRow hr)
end rules
structure RU where
  (sA gA : Option Addr) (sc gc : Nat) (U : List Row)
structure PtU (U : List Row) (r : RS) (x : RU) : Prop where
  sub : ∀ r ∈ U, r ∈ x.U
  s : (⟨x.sA, 2, r.st.length, encP r.st⟩ : Row) ∈ x.U
  g : (⟨x.gA, 7, r.gs.length, encG r.gs⟩ : Row) ∈ x.U
set_option maxRecDepth 100000 in
theorem T_ref1_PointU (f : Fmt) (r : RS) (side K : Int) (sA : Option Addr) (sc : Nat) (gA : Option Addr) (gc : Nat) (U : List Row) (hUs : (⟨sA, 2, r.st.length, encP r.st⟩ : Row) ∈ U) (hUg : (⟨gA, 7, r.gs.length, encG r.gs⟩ : Row) ∈ U) (hf : f.Ok) (hB : r.Bd K) :
    Tr Tryz.prog 51 [f.val, r.val sA sc gA gc, .int .i64 side] [manyE true U] (fun x : RU => PtU U (rPoint f r side) x) (fun x => (rPoint f r side).val x.sA x.sc x.gA x.gc) (fun x => [manyE true x.U]) := by
  refine ⟨fun w0 w R hst => ?_⟩
  obtain ⟨hk, hfst, hg, hp, he, hb, hsl, hgl⟩ := hB
  have hSp : Sm r.p := sm_of hp (by omega)
  have hSp1 : Sm (addV r.p side) := sm_of (addV_bd (side := side) hp) (by omega)
  have hSg : Sm r.g := sm_of hg (by omega)
  have hSg1 : Sm (addV r.g (rW f r side)) := sm_of (addV_bd (side := rW f r side) hg) (by omega)
  have hgb := addV_bd (side := rW f r side) hg
  have hpb := addV_bd (side := side) hp
  have hse1 := rS_ends f r side
  have hsb1 := rS_balls f r side
  have hsg1 := rS_gs f r side
  have hss1 := rS_st f r side
  have hsl1 : (r.gs ++ [rGm f r side]).length = 0 + r.gs.length + 1 := by simp
  have hsl2 : encG (r.gs ++ [rGm f r side]) = [] ++ encG r.gs ++ [(rGm f r side).enc] := by simp [encG]
  have hsl3 : (r.st ++ [addV r.g (rW f r side)]).length = 0 + r.st.length + 1 := by simp
  have hsl4 : encP (r.st ++ [addV r.g (rW f r side)]) = [] ++ encP r.st ++ [[.int .i64 (addV r.g (rW f r side)).1, .int .i64 (addV r.g (rW f r side)).2]] := by simp [encP]
  refine en Tryz.func51 Tryz.ntmps51 hst (h := fun F => ?_)
  refine sq (h := ?_)
  refine rg (h := ?_)
  refine bxA (h := fun b0 => ?_)
  refine bxA (h := fun b1 => ?_)
  refine al (h := fun b2 => ?_)
  refine nl (h := ?_)
  refine q_seq (h := ?_)
  refine sq (h := ?_)
  refine WC.getRow hUg (by repeat (first | exact At.here | apply At.there)) ?_
  refine WC.getRow hUs (by repeat (first | exact At.here | apply At.there)) ?_
  refine rg (h := ?_)
  refine WL.y (hy := (by first | exact ldA | exact ldEA)) (h := ?_)
  refine WL.y (hy := (by first | exact fa | exact faE)) (h := ?_)
  refine WL.y (hy := (by first | exact fa | exact faE)) (h := ?_)
  refine WL.y (hy := (by first | exact ldA | exact ldEA)) (h := ?_)
  refine cl0 (hc := fun w hS => C_ref1_tied f ⟨r.st, r.g, r.p⟩ sA r.st.length sc hf w (hS.get (by repeat (first | exact Rds.ro | exact Rds.own | apply Rds.there))) (by omega)) (h := ?_)
  refine WL.y (hy := mv) (h := ?_)
  refine WL.y (hy := ex) (h := ?_)
  refine WL.y (hy := ex) (h := ?_)
  refine WL.y (hy := asg) (h := ?_)
  refine WL.y (hy := asg) (h := ?_)
  refine nl (h := ?_)
  refine q_seq (h := ?_)
  refine sq (h := ?_)
  refine rg (h := ?_)
  refine WL.y (hy := (by first | exact fa | exact faE)) (h := ?_)
  refine WL.y (hy := (by first | exact fa | exact faE)) (h := ?_)
  refine WL.y (hy := (by first | exact fa | exact faE)) (h := ?_)
  refine WL.y (hy := (by first | exact ldA | exact ldEA)) (h := ?_)
  refine WL.y (hy := mv) (h := ?_)
  refine cl0 (hc := fun w hS => C_ref1_plus _ _ (by assumption) w) (h := ?_)
  refine WL.y (hy := (by first | exact fa | exact faE)) (h := ?_)
  refine WL.y (hy := (by first | exact fa | exact faE)) (h := ?_)
  refine WL.y (hy := (by first | exact fa | exact faE)) (h := ?_)
  first | refine stA (h := ?_) | refine stEA (h := ?_)
  refine nl (h := ?_)
  refine q_seq (h := ?_)
  refine sq (h := ?_)
  refine rg (h := ?_)
  refine WL.y (hy := (by first | exact fa | exact faE)) (h := ?_)
  refine WL.y (hy := (by first | exact fa | exact faE)) (h := ?_)
  refine WL.y (hy := (by first | exact fa | exact faE)) (h := ?_)
  refine WL.y (hy := (by first | exact ldA | exact ldEA)) (h := ?_)
  refine al (h := fun b3 => ?_)
  first | refine stA (h := ?_) | refine stEA (h := ?_)
  refine nl (h := ?_)
  refine q_seq (h := ?_)
  refine sq (h := ?_)
  refine rg (h := ?_)
  refine WL.y (hy := (by first | exact ldA | exact ldEA)) (h := ?_)
  refine WL.y (hy := (by first | exact ldA | exact ldEA)) (h := ?_)
  refine cl0 (hc := fun w hS => C_ref1_game _ _ (by assumption) w) (h := ?_)
  refine WL.y (hy := asg) (h := ?_)
  refine nl (h := ?_)
  refine q_seq (h := ?_)
  refine ct (X := Unit) (fun _ => True) (fun _ => [(3, .pointer (some ⟨b0, 0, none⟩)), (4, .pointer (some ⟨b1, 0, none⟩)), (6, .pointer (some ⟨b2, 0, none⟩)), (7, .bool (tiedV f r.st r.g)), (9, .pointer (some ⟨b3, 0, none⟩)), (10, .int .i64 (rW f r side))]) (fun _ => .blk b0 23 f.cells :: .blk b1 89 ((rN f r side).cells sA sc gA gc) :: .blk b2 89 [.slice none 0 0, .int .i64 0, .int .i64 0, .int .i64 0, .int .i64 0, .int .i64 0, .int .i64 0, .int .i64 0, .int .i64 0, .int .i64 0, .slice none 0 0, .bool false] :: .blk b3 43 [.int .i64 (addV r.p side).1, .int .i64 (addV r.p side).2] :: .ro sA 2 r.st.length (encP r.st) :: .ro gA 7 r.gs.length (encG r.gs) :: manyE true U :: R) (h1 := ?_) (h2 := ?_)
  · skip
    refine sq (h := ?_)
    refine rg (h := ?_)
    refine WL.y (hy := mv) (h := ?_)
    refine nl (h := ?_)
    refine q_seq (h := ?_)
    refine cd (by exact rfl) (fun h0 => ?_) (fun h0 => ?_)
    · skip
      have hti : tiedV f r.st r.g = true := h0
      have hW : rW f r side = leadsV (addV r.p side) (setV f (wonV r.st)).2 2 := by rw [rW, hti]; rfl
      refine sq (h := ?_)
      refine rg (h := ?_)
      refine WL.y (hy := (by first | exact ldA | exact ldEA)) (h := ?_)
      refine WL.y (hy := mv) (h := ?_)
      refine cl0 (hc := fun w hS => C_ref1_leads _ _ (by assumption) w) (h := ?_)
      refine WL.y (hy := asg) (h := ?_)
      refine nl (h := ?_)
      refine q_seq (h := ?_)
      refine sq (h := ?_)
      refine WC.sub (l' := [(3, .pointer (some ⟨b0, 0, none⟩)), (4, .pointer (some ⟨b1, 0, none⟩)), (6, .pointer (some ⟨b2, 0, none⟩)), (7, .bool (tiedV f r.st r.g)), (9, .pointer (some ⟨b3, 0, none⟩)), (10, .int .i64 (leadsV (addV r.p side) (setV f (wonV r.st)).2 2))]) (by repeat (first | exact trivial | refine ⟨rfl, ?_⟩)) ?_
      refine rg (h := ?_)
      refine WL.y (hy := mv) (h := ?_)
      refine WL.y (hy := lss) (h := ?_)
      refine WL.y (hy := mv) (h := ?_)
      apply brAnd 8 44 52 (by exact rfl)
      · intro hb1
        refine un (h := ?_)
        refine WL.y (hy := (by first | exact fa | exact faE)) (h := ?_)
        refine un (h := ?_)
        refine WL.y (hy := (by first | exact ld | exact ldE)) (h := ?_)
        refine un (h := ?_)
        refine WL.y (hy := (by first | exact fa | exact faE)) (h := ?_)
        refine un (h := ?_)
        refine WL.y (hy := (by first | exact ld | exact ldE)) (h := ?_)
        refine un (h := ?_)
        refine WL.y (hy := addI) (h := ?_)
        refine un (h := ?_)
        refine WL.y (hy := remI) (h := ?_)
        refine un (h := ?_)
        refine WL.y (hy := eql) (h := ?_)
        refine WL.y (hy := (by first | exact pkT | exact pkF)) (h := ?_)
        exact mg (by repeat (first | exact trivial | refine ⟨rfl, ?_⟩ | refine ⟨by rw [hb1]; rfl, ?_⟩)) (by repeat (first | exact SubL.nil | (apply SubL.cons; (repeat (first | exact At.here | apply At.there))) | exact SubL.refl _ | apply SubL.skip))
      · intro hb1
        repeat (first | refine un (h := ?_) | refine sk (h := ?_) | refine WL.y (hy := pkF) (h := ?_) | refine WL.y (hy := pkT) (h := ?_))
        exact mg (by repeat (first | exact trivial | refine ⟨rfl, ?_⟩ | refine ⟨by rw [hb1]; rfl, ?_⟩)) (by repeat (first | exact SubL.nil | (apply SubL.cons; (repeat (first | exact At.here | apply At.there))) | exact SubL.refl _ | apply SubL.skip))
      refine nl (h := ?_)
      refine q_seq (h := ?_)
      refine cd (by exact rfl) (fun h2 => ?_) (fun h2 => ?_)
      · skip
        have hE : rEnds f r side = r.ends + 1 := by
          have h' : (decide (leadsV (addV r.p side) (setV f (wonV r.st)).2 2 < 0) && decide (((addV r.p side).1 + (addV r.p side).2) % 6 = 0)) = true := h2
          rw [rEnds, hti, hW, h']; rfl
        refine rg (h := ?_)
        refine WL.y (hy := (by first | exact fa | exact faE)) (h := ?_)
        refine WL.y (hy := (by first | exact fa | exact faE)) (h := ?_)
        refine WL.y (hy := (by first | exact ld | exact ldE)) (h := ?_)
        refine WL.y (hy := addI) (h := ?_)
        refine WL.y (hy := (by first | exact fa | exact faE)) (h := ?_)
        refine WL.y (hy := (by first | exact fa | exact faE)) (h := ?_)
        first | refine st (h := ?_) | refine stE (h := ?_)
        refine nl (h := ?_)
        exact ctn () trivial (by repeat (first | exact trivial | refine ⟨rfl, ?_⟩ | refine ⟨by rw [hW]; rfl, ?_⟩)) (by dsimp only [rN, RS.cells]; rw [hE]; repeat (first | exact SubL.nil | (apply SubL.cons; (repeat (first | exact At.here | apply At.there))) | exact SubL.refl _ | apply SubL.skip))
      · skip
        have hE : rEnds f r side = r.ends := by
          have h' : (decide (leadsV (addV r.p side) (setV f (wonV r.st)).2 2 < 0) && decide (((addV r.p side).1 + (addV r.p side).2) % 6 = 0)) = false := h2
          rw [rEnds, hti, hW, h']; rfl
        refine skp (h := ?_)
        exact ctn () trivial (by repeat (first | exact trivial | refine ⟨rfl, ?_⟩ | refine ⟨by rw [hW]; rfl, ?_⟩)) (by dsimp only [rN, RS.cells]; rw [hE]; repeat (first | exact SubL.nil | (apply SubL.cons; (repeat (first | exact At.here | apply At.there))) | exact SubL.refl _ | apply SubL.skip))
    · skip
      have hti : tiedV f r.st r.g = false := h0
      have hW : rW f r side = gameR f (addV r.p side) := by rw [rW, hti]; rfl
      have hE : rEnds f r side = r.ends := by rw [rEnds, hti]; rfl
      refine skp (h := ?_)
      exact ctn () trivial (by repeat (first | exact trivial | refine ⟨rfl, ?_⟩ | refine ⟨by rw [hW]; rfl, ?_⟩)) (by dsimp only [rN, RS.cells]; rw [hE]; repeat (first | exact SubL.nil | (apply SubL.cons; (repeat (first | exact At.here | apply At.there))) | exact SubL.refl _ | apply SubL.skip))
  rintro ⟨⟩ -
  dsimp only [rN, RS.cells]
  refine sq (h := ?_)
  refine sq (h := ?_)
  refine rg (h := ?_)
  refine WL.y (hy := mv) (h := ?_)
  refine WL.y (hy := lss) (h := ?_)
  refine nl (h := ?_)
  refine q_seq (h := ?_)
  refine cd (by exact rfl) (fun h3 => ?_) (fun h3 => ?_)
  · skip
    have hlt : decide (rW f r side < 0) = true := h3
    have hP : rPoint f r side = rN f r side := by rw [rPoint, hlt]; rfl
    refine sq (h := ?_)
    refine rg (h := ?_)
    refine WL.y (hy := (by first | exact ldA | exact ldEA)) (h := ?_)
    first | refine stA (h := ?_) | refine stEA (h := ?_)
    refine nl (h := ?_)
    refine q_seq (h := ?_)
    refine rtn (h := ?_)
    refine q_then_ret (h := ?_)
    refine q_ret (hR := ?_)
    rw [hP]
    exact fun w hS => ⟨⟨sA, gA, sc, gc, U⟩, ⟨fun _ h => h, hUs, hUg⟩, rfl, hS.sub (by repeat (first | exact SubL.nil | (apply SubL.cons; (repeat (first | exact At.here | apply At.there))) | exact SubL.refl _ | apply SubL.skip))⟩
  · skip
    have hlt : decide (rW f r side < 0) = false := h3
    have hE : rEnds f r side = r.ends := by rw [rEnds, hlt, Bool.false_and, Bool.and_false]; rfl
    rw [hE]
    refine skp (h := ?_)
    refine q_seq (h := ?_)
    refine sq (h := ?_)
    refine rg (h := ?_)
    refine WL.y (hy := (by first | exact fa | exact faE)) (h := ?_)
    refine WL.y (hy := (by first | exact fa | exact faE)) (h := ?_)
    refine WL.y (hy := (by first | exact fa | exact faE)) (h := ?_)
    refine WL.y (hy := (by first | exact ld | exact ldE)) (h := ?_)
    refine WL.y (hy := lenS) (h := ?_)
    refine WL.y (hy := asg) (h := ?_)
    refine nl (h := ?_)
    refine q_seq (h := ?_)
    refine ct (X := Option Addr × Nat) (fun _ => True) (fun _ => [(3, .pointer (some ⟨b0, 0, none⟩)), (4, .pointer (some ⟨b1, 0, none⟩)), (6, .pointer (some ⟨b2, 0, none⟩)), (7, .bool (tiedV f r.st r.g)), (10, .int .i64 (rW f r side))]) (fun x => .blk b0 23 f.cells :: .blk b1 89 ({ r with p := addV r.p side, gs := r.gs ++ [rGm f r side] : RS}.cells sA sc x.1 x.2) :: .blk b2 89 [.slice none 0 0, .int .i64 0, .int .i64 0, .int .i64 0, .int .i64 0, .int .i64 0, .int .i64 0, .int .i64 0, .int .i64 0, .int .i64 0, .slice none 0 0, .bool false] :: .ro sA 2 r.st.length (encP r.st) :: .own x.1 x.2 140 7 (r.gs ++ [rGm f r side]).length (encG (r.gs ++ [rGm f r side])) :: manyE true U :: R) (h1 := ?_) (h2 := ?_)
    · skip
      refine rgD (by kernel_rfl) [(22, .blk b1 89 [.slice sA r.st.length sc, .int .i64 r.g.1, .int .i64 r.g.2, .int .i64 (addV r.p side).1, .int .i64 (addV r.p side).2, .int .i64 r.server, .int .i64 r.ends, .int .i64 r.balls, .int .i64 r.winner, .int .i64 r.first, .slice gA r.gs.length gc, .bool r.fresh]), (1000000, .blk b0 23 f.cells), (1000000, .blk b3 43 [.int .i64 (addV r.p side).1, .int .i64 (addV r.p side).2])] (by repeat (first | exact HS.nil | (apply HS.keep; (repeat (first | exact At.here | apply At.there))) | (apply HS.ro; (repeat (first | exact Rds.ro | exact Rds.own | apply Rds.there))))) (h := ?_)
      refine tk 1 (hy := (by first | exact fa | exact faE)) (h := ?_)
      refine tk 2 (hy := (by first | exact ld | exact ldE)) (h := ?_)
      refine tk 4 (hy := mv) (h := ?_)
      refine tk 5 (hy := mv) (h := ?_)
      refine tk 6 (hy := (by first | exact ldA | exact ldEA)) (h := ?_)
      refine tk 7 (hy := (by first | exact fa | exact faE)) (h := ?_)
      refine tk 8 (hy := (by first | exact ld | exact ldE)) (h := ?_)
      refine tk 9 (hy := (by first | exact fa | exact faE)) (h := ?_)
      refine tk 10 (hy := (by first | exact ld | exact ldE)) (h := ?_)
      refine tk 11 (hy := lenS) (h := ?_)
      refine tk 12 (hy := mv) (h := ?_)
      refine tk 14 (hy := mv) (h := ?_)
      refine tk 15 (hy := (by first | exact ldA | exact ldEA)) (h := ?_)
      refine tk 16 (hy := (by first | exact fa | exact faE)) (h := ?_)
      refine tk 17 (hy := (by first | exact ld | exact ldE)) (h := ?_)
      refine one 0 (h := ?_)
      refine bs (h := fun b4 => ?_)
      refine nx (h := ?_)
      refine one 3 (h := ?_)
      first | refine ap (h := fun A1 c1 => ?_) | refine ap0 (h := fun A1 c1 => ?_)
      refine nx (h := ?_)
      refine one 13 (h := ?_)
      refine cl0 (hc := fun w hS => C_ref1_Server f r.first r.gs.length (tiedV f r.st r.g) 0 hfst (by omega) (by omega) w) (h := ?_)
      refine nx (h := ?_)
      refine tk 18 (hy := bd) (h := ?_)
      refine one 19 (h := ?_)
      refine bs (h := fun b5 => ?_)
      refine nx (h := ?_)
      refine one 20 (h := ?_)
      first | refine ap (h := fun A2 c2 => ?_) | refine ap0 (h := fun A2 c2 => ?_)
      refine nx (h := ?_)
      refine tk 21 (hy := (by first | exact fa | exact faE)) (h := ?_)
      refine one 22 (h := ?_)
      first | refine st (h := ?_) | refine stE (h := ?_)
      refine nx (h := ?_)
      refine dn (h := ?_)
      exact ctn ⟨_, _⟩ trivial (by repeat (first | exact trivial | refine ⟨rfl, ?_⟩)) (by dsimp only [RS.cells]; rw [hsl1, hsl2]; repeat (first | exact SubL.nil | (apply SubL.cons; (repeat (first | exact At.here | apply At.there))) | exact SubL.refl _ | apply SubL.skip))
    rintro ⟨gA1, gc1⟩ -
    obtain ⟨U1, hU1⟩ : ∃ U1, U1 = U ++ [(⟨gA1, 7, (r.gs ++ [rGm f r side]).length, encG (r.gs ++ [rGm f r side])⟩ : Row)] := ⟨_, rfl⟩
    have hUg1 : (⟨gA1, 7, (r.gs ++ [rGm f r side]).length, encG (r.gs ++ [rGm f r side])⟩ : Row) ∈ U1 := by rw [hU1]; simp
    have hU01 : ∀ r ∈ U, r ∈ U1 := fun r hr => by rw [hU1]; exact List.mem_append_left _ hr
    refine WC.manyAdd (A := gA1) (by repeat (first | exact At.here | apply At.there)) (by repeat (first | exact At.here | apply At.there)) ?_
    rw [← hU1]
    refine WC.getRow hUg1 (by repeat (first | exact At.here | apply At.there)) ?_
    dsimp only [RS.cells]
    refine sq (h := ?_)
    refine rg (h := ?_)
    refine WL.y (hy := bd) (h := ?_)
    refine WL.y (hy := (by first | exact fa | exact faE)) (h := ?_)
    refine WL.y (hy := (by first | exact fa | exact faE)) (h := ?_)
    refine WL.y (hy := (by first | exact fa | exact faE)) (h := ?_)
    first | refine stA (h := ?_) | refine stEA (h := ?_)
    refine nl (h := ?_)
    refine q_seq (h := ?_)
    refine sq (h := ?_)
    refine rg (h := ?_)
    refine WL.y (hy := (by first | exact fa | exact faE)) (h := ?_)
    refine WL.y (hy := (by first | exact fa | exact faE)) (h := ?_)
    refine WL.y (hy := (by first | exact fa | exact faE)) (h := ?_)
    refine WL.y (hy := (by first | exact ldA | exact ldEA)) (h := ?_)
    refine WL.y (hy := mv) (h := ?_)
    refine cl0 (hc := fun w hS => C_ref1_plus _ _ (by assumption) w) (h := ?_)
    refine al (h := fun b6 => ?_)
    first | refine stA (h := ?_) | refine stEA (h := ?_)
    refine nl (h := ?_)
    refine q_seq (h := ?_)
    refine sq (h := ?_)
    refine rg (h := ?_)
    refine WL.y (hy := (by first | exact ldA | exact ldEA)) (h := ?_)
    refine WL.y (hy := (by first | exact fa | exact faE)) (h := ?_)
    refine WL.y (hy := (by first | exact fa | exact faE)) (h := ?_)
    refine WL.y (hy := (by first | exact fa | exact faE)) (h := ?_)
    first | refine stA (h := ?_) | refine stEA (h := ?_)
    refine nl (h := ?_)
    refine q_seq (h := ?_)
    refine ct (X := Option Addr × Nat × List Row) (fun x => rOver f r side = false ∧ (∀ r ∈ U1, r ∈ x.2.2) ∧ (⟨x.1, 2, (rS f r side).st.length, encP (rS f r side).st⟩ : Row) ∈ x.2.2 ∧ (⟨gA1, 7, (rS f r side).gs.length, encG (rS f r side).gs⟩ : Row) ∈ x.2.2) (fun _ => [(3, .pointer (some ⟨b0, 0, none⟩)), (4, .pointer (some ⟨b1, 0, none⟩)), (6, .pointer (some ⟨b2, 0, none⟩)), (12, .pointer (some ⟨b6, 0, none⟩))]) (fun x => .blk b0 23 f.cells :: .blk b1 89 ((rS f r side).cells x.1 x.2.1 gA1 gc1) :: .blk b2 89 [.slice none 0 0, .int .i64 0, .int .i64 0, .int .i64 0, .int .i64 0, .int .i64 0, .int .i64 0, .int .i64 0, .int .i64 0, .int .i64 0, .slice none 0 0, .bool false] :: .blk b6 43 [.int .i64 (addV r.g (rW f r side)).1, .int .i64 (addV r.g (rW f r side)).2] :: .ro x.1 2 (rS f r side).st.length (encP (rS f r side).st) :: .ro gA1 7 (rS f r side).gs.length (encG (rS f r side).gs) :: manyE true x.2.2 :: R) (h1 := ?_) (h2 := ?_)
    · skip
      refine sq (h := ?_)
      refine rg (h := ?_)
      refine WL.y (hy := mv) (h := ?_)
      refine WL.y (hy := mv) (h := ?_)
      apply brOr 6 104 110 (by exact rfl)
      · intro hb4
        refine un (h := ?_)
        refine WL.y (hy := (by first | exact ldA | exact ldEA)) (h := ?_)
        refine un (h := ?_)
        refine WL.y (hy := (by first | exact fa | exact faE)) (h := ?_)
        refine un (h := ?_)
        refine WL.y (hy := (by first | exact ld | exact ldE)) (h := ?_)
        refine un (h := ?_)
        refine cl0 (hc := fun w hS => C_ref1_leads _ _ (by assumption) w) (h := ?_)
        refine un (h := ?_)
        refine WL.y (hy := geq) (h := ?_)
        refine WL.y (hy := (by first | exact pkT | exact pkF)) (h := ?_)
        exact mg (by repeat (first | exact trivial | refine ⟨rfl, ?_⟩ | refine ⟨by rw [hb4]; rfl, ?_⟩)) (by repeat (first | exact SubL.nil | (apply SubL.cons; (repeat (first | exact At.here | apply At.there))) | exact SubL.refl _ | apply SubL.skip))
      · intro hb4
        repeat (first | refine un (h := ?_) | refine sk (h := ?_) | refine WL.y (hy := pkF) (h := ?_) | refine WL.y (hy := pkT) (h := ?_))
        exact mg (by repeat (first | exact trivial | refine ⟨rfl, ?_⟩ | refine ⟨by rw [hb4]; rfl, ?_⟩)) (by repeat (first | exact SubL.nil | (apply SubL.cons; (repeat (first | exact At.here | apply At.there))) | exact SubL.refl _ | apply SubL.skip))
      refine nl (h := ?_)
      refine q_seq (h := ?_)
      refine cd (by exact rfl) (fun h5 => ?_) (fun h5 => ?_)
      · skip
        have hse : rSet f r side = true := h5
        have hS : rS f r side = { rG f r side with st := r.st ++ [addV r.g (rW f r side)], g := (0, 0) } := by rw [rS, hse]; rfl
        refine ct (X := Option Addr × Nat) (fun _ => True) (fun _ => [(3, .pointer (some ⟨b0, 0, none⟩)), (4, .pointer (some ⟨b1, 0, none⟩)), (6, .pointer (some ⟨b2, 0, none⟩)), (10, .int .i64 (rW f r side)), (12, .pointer (some ⟨b6, 0, none⟩))]) (fun x => .blk b0 23 f.cells :: .blk b1 89 ({ rG f r side with st := r.st ++ [addV r.g (rW f r side)] : RS}.cells x.1 x.2 gA1 gc1) :: .blk b2 89 [.slice none 0 0, .int .i64 0, .int .i64 0, .int .i64 0, .int .i64 0, .int .i64 0, .int .i64 0, .int .i64 0, .int .i64 0, .int .i64 0, .slice none 0 0, .bool false] :: .blk b6 43 [.int .i64 (addV r.g (rW f r side)).1, .int .i64 (addV r.g (rW f r side)).2] :: .own x.1 x.2 43 2 (r.st ++ [addV r.g (rW f r side)]).length (encP (r.st ++ [addV r.g (rW f r side)])) :: .ro gA1 7 (r.gs ++ [rGm f r side]).length (encG (r.gs ++ [rGm f r side])) :: manyE true U1 :: R) (h1 := ?_) (h2 := ?_)
        · skip
          refine rgD (by kernel_rfl) [(12, .blk b1 89 [.slice sA r.st.length sc, .int .i64 (addV r.g (rW f r side)).1, .int .i64 (addV r.g (rW f r side)).2, .int .i64 0, .int .i64 0, .int .i64 r.server, .int .i64 r.ends, .int .i64 r.balls, .int .i64 r.winner, .int .i64 r.first, .slice gA1 (r.gs ++ [rGm f r side]).length gc1, .bool r.fresh]), (1000000, .blk b6 43 [.int .i64 (addV r.g (rW f r side)).1, .int .i64 (addV r.g (rW f r side)).2])] (by repeat (first | exact HS.nil | (apply HS.keep; (repeat (first | exact At.here | apply At.there))) | (apply HS.ro; (repeat (first | exact Rds.ro | exact Rds.own | apply Rds.there))))) (h := ?_)
          refine tk 1 (hy := (by first | exact fa | exact faE)) (h := ?_)
          refine tk 2 (hy := (by first | exact fa | exact faE)) (h := ?_)
          refine tk 3 (hy := (by first | exact fa | exact faE)) (h := ?_)
          refine tk 4 (hy := (by first | exact ld | exact ldE)) (h := ?_)
          refine tk 6 (hy := (by first | exact ldA | exact ldEA)) (h := ?_)
          refine two 0 7 (h1 := ?_) (h2 := ?_)
          · skip
            refine bs (h := fun b7 => ?_)
            refine nx (h := ?_)
            refine two 5 7 (h1 := ?_) (h2 := ?_)
            · skip
              first | refine ap (h := fun A3 c3 => ?_) | refine ap0 (h := fun A3 c3 => ?_)
              refine nx (h := ?_)
              refine one 7 (h := ?_)
              refine bs (h := fun b8 => ?_)
              refine nx (h := ?_)
              refine one 8 (h := ?_)
              first | refine ap (h := fun A4 c4 => ?_) | refine ap0 (h := fun A4 c4 => ?_)
              refine nx (h := ?_)
              refine tk 9 (hy := (by first | exact fa | exact faE)) (h := ?_)
              refine tk 10 (hy := (by first | exact fa | exact faE)) (h := ?_)
              refine tk 11 (hy := (by first | exact fa | exact faE)) (h := ?_)
              refine one 12 (h := ?_)
              first | refine st (h := ?_) | refine stE (h := ?_)
              refine nx (h := ?_)
              refine dn (h := ?_)
              exact ctn ⟨_, _⟩ trivial (by repeat (first | exact trivial | refine ⟨rfl, ?_⟩)) (by dsimp only [rG, RS.cells]; rw [hsl3, hsl4]; repeat (first | exact SubL.nil | (apply SubL.cons; (repeat (first | exact At.here | apply At.there))) | exact SubL.refl _ | apply SubL.skip))
            · skip
              refine bs (h := fun b9 => ?_)
              refine nx (h := ?_)
              refine one 5 (h := ?_)
              first | refine ap (h := fun A5 c5 => ?_) | refine ap0 (h := fun A5 c5 => ?_)
              refine nx (h := ?_)
              refine one 8 (h := ?_)
              first | refine ap (h := fun A6 c6 => ?_) | refine ap0 (h := fun A6 c6 => ?_)
              refine nx (h := ?_)
              refine tk 9 (hy := (by first | exact fa | exact faE)) (h := ?_)
              refine tk 10 (hy := (by first | exact fa | exact faE)) (h := ?_)
              refine tk 11 (hy := (by first | exact fa | exact faE)) (h := ?_)
              refine one 12 (h := ?_)
              first | refine st (h := ?_) | refine stE (h := ?_)
              refine nx (h := ?_)
              refine dn (h := ?_)
              exact ctn ⟨_, _⟩ trivial (by repeat (first | exact trivial | refine ⟨rfl, ?_⟩)) (by dsimp only [rG, RS.cells]; rw [hsl3, hsl4]; repeat (first | exact SubL.nil | (apply SubL.cons; (repeat (first | exact At.here | apply At.there))) | exact SubL.refl _ | apply SubL.skip))
          · skip
            refine bs (h := fun b10 => ?_)
            refine nx (h := ?_)
            refine one 0 (h := ?_)
            refine bs (h := fun b11 => ?_)
            refine nx (h := ?_)
            refine one 5 (h := ?_)
            first | refine ap (h := fun A7 c7 => ?_) | refine ap0 (h := fun A7 c7 => ?_)
            refine nx (h := ?_)
            refine one 8 (h := ?_)
            first | refine ap (h := fun A8 c8 => ?_) | refine ap0 (h := fun A8 c8 => ?_)
            refine nx (h := ?_)
            refine tk 9 (hy := (by first | exact fa | exact faE)) (h := ?_)
            refine tk 10 (hy := (by first | exact fa | exact faE)) (h := ?_)
            refine tk 11 (hy := (by first | exact fa | exact faE)) (h := ?_)
            refine one 12 (h := ?_)
            first | refine st (h := ?_) | refine stE (h := ?_)
            refine nx (h := ?_)
            refine dn (h := ?_)
            exact ctn ⟨_, _⟩ trivial (by repeat (first | exact trivial | refine ⟨rfl, ?_⟩)) (by dsimp only [rG, RS.cells]; rw [hsl3, hsl4]; repeat (first | exact SubL.nil | (apply SubL.cons; (repeat (first | exact At.here | apply At.there))) | exact SubL.refl _ | apply SubL.skip))
        rintro ⟨sA1, sc1⟩ -
        obtain ⟨U2, hU2⟩ : ∃ U2, U2 = U1 ++ [(⟨sA1, 2, (r.st ++ [addV r.g (rW f r side)]).length, encP (r.st ++ [addV r.g (rW f r side)])⟩ : Row)] := ⟨_, rfl⟩
        have hUs2 : (⟨sA1, 2, (r.st ++ [addV r.g (rW f r side)]).length, encP (r.st ++ [addV r.g (rW f r side)])⟩ : Row) ∈ U2 := by rw [hU2]; simp
        have hU12 : ∀ r ∈ U1, r ∈ U2 := fun r hr => by rw [hU2]; exact List.mem_append_left _ hr
        refine WC.manyAdd (A := sA1) (by repeat (first | exact At.here | apply At.there)) (by repeat (first | exact At.here | apply At.there)) ?_
        rw [← hU2]
        refine WC.getRow hUs2 (by repeat (first | exact At.here | apply At.there)) ?_
        dsimp only [rG, RS.cells]
        refine sq (h := ?_)
        refine rg (h := ?_)
        refine WL.y (hy := bd) (h := ?_)
        refine WL.y (hy := (by first | exact fa | exact faE)) (h := ?_)
        refine WL.y (hy := (by first | exact fa | exact faE)) (h := ?_)
        refine WL.y (hy := (by first | exact fa | exact faE)) (h := ?_)
        first | refine stA (h := ?_) | refine stEA (h := ?_)
        refine nl (h := ?_)
        refine q_seq (h := ?_)
        refine sq (h := ?_)
        refine rg (h := ?_)
        refine WL.y (hy := (by first | exact fa | exact faE)) (h := ?_)
        refine WL.y (hy := (by first | exact fa | exact faE)) (h := ?_)
        refine WL.y (hy := (by first | exact fa | exact faE)) (h := ?_)
        refine WL.y (hy := (by first | exact ld | exact ldE)) (h := ?_)
        refine cl0 (hc := fun w hS => C_ref1_Won (r.st ++ [addV r.g (rW f r side)]) sA1 _ sc1 w (hS.get (by repeat (first | exact Rds.ro | exact Rds.own | apply Rds.there))) (by omega)) (h := ?_)
        refine al (h := fun b12 => ?_)
        first | refine stA (h := ?_) | refine stEA (h := ?_)
        refine nl (h := ?_)
        refine q_seq (h := ?_)
        refine sq (h := ?_)
        refine rg (h := ?_)
        refine WL.y (hy := (by first | exact fa | exact faE)) (h := ?_)
        refine WL.y (hy := (by first | exact ld | exact ldE)) (h := ?_)
        refine WL.y (hy := (by first | exact fa | exact faE)) (h := ?_)
        refine WL.y (hy := (by first | exact ld | exact ldE)) (h := ?_)
        refine WL.y (hy := eql) (h := ?_)
        refine WL.y (hy := mv) (h := ?_)
        apply brOr 6 137 143 (by exact rfl)
        · intro hb6
          refine un (h := ?_)
          refine WL.y (hy := (by first | exact fa | exact faE)) (h := ?_)
          refine un (h := ?_)
          refine WL.y (hy := (by first | exact ld | exact ldE)) (h := ?_)
          refine un (h := ?_)
          refine WL.y (hy := (by first | exact fa | exact faE)) (h := ?_)
          refine un (h := ?_)
          refine WL.y (hy := (by first | exact ld | exact ldE)) (h := ?_)
          refine un (h := ?_)
          refine WL.y (hy := eql) (h := ?_)
          refine WL.y (hy := (by first | exact pkT | exact pkF)) (h := ?_)
          exact mg (by repeat (first | exact trivial | refine ⟨rfl, ?_⟩ | refine ⟨by rw [hb6]; rfl, ?_⟩)) (by repeat (first | exact SubL.nil | (apply SubL.cons; (repeat (first | exact At.here | apply At.there))) | exact SubL.refl _ | apply SubL.skip))
        · intro hb6
          repeat (first | refine un (h := ?_) | refine sk (h := ?_) | refine WL.y (hy := pkF) (h := ?_) | refine WL.y (hy := pkT) (h := ?_))
          exact mg (by repeat (first | exact trivial | refine ⟨rfl, ?_⟩ | refine ⟨by rw [hb6]; rfl, ?_⟩)) (by repeat (first | exact SubL.nil | (apply SubL.cons; (repeat (first | exact At.here | apply At.there))) | exact SubL.refl _ | apply SubL.skip))
        refine nl (h := ?_)
        refine q_seq (h := ?_)
        refine cd (by exact rfl) (fun h7 => ?_) (fun h7 => ?_)
        · skip
          have hO : rOver f r side = true := by rw [rOver, hse]; exact h7
          have hP : rPoint f r side = { rS f r side with winner := rW f r side } := by rw [rPoint, hlt, hO]; rfl
          refine sq (h := ?_)
          refine rg (h := ?_)
          refine WL.y (hy := mv) (h := ?_)
          refine WL.y (hy := (by first | exact fa | exact faE)) (h := ?_)
          refine WL.y (hy := (by first | exact fa | exact faE)) (h := ?_)
          first | refine st (h := ?_) | refine stE (h := ?_)
          refine nl (h := ?_)
          refine q_seq (h := ?_)
          refine sq (h := ?_)
          refine rg (h := ?_)
          refine WL.y (hy := (by first | exact ldA | exact ldEA)) (h := ?_)
          first | refine stA (h := ?_) | refine stEA (h := ?_)
          refine nl (h := ?_)
          refine q_seq (h := ?_)
          refine rtn (h := ?_)
          refine q_then_ret (h := ?_)
          refine q_ret (hR := ?_)
          rw [hP, hS]
          exact fun w hS => ⟨⟨sA1, gA1, sc1, gc1, U2⟩, ⟨fun r hr => hU12 r (hU01 r hr), hUs2, hU12 _ hUg1⟩, rfl, hS.sub (by repeat (first | exact SubL.nil | (apply SubL.cons; (repeat (first | exact At.here | apply At.there))) | exact SubL.refl _ | apply SubL.skip))⟩
        · skip
          have hO : rOver f r side = false := by rw [rOver, hse]; exact h7
          refine skp (h := ?_)
          first
            | exact ctn (x := (sA1, sc1, U2)) ⟨hO, hU12, by rw [hS]; exact hUs2, by rw [hS]; exact hU12 _ hUg1⟩ (by repeat (first | exact trivial | refine ⟨rfl, ?_⟩)) (by rw [hS]; dsimp only [rG, RS.cells]; repeat (first | exact SubL.nil | (apply SubL.cons; (repeat (first | exact At.here | apply At.there))) | exact SubL.refl _ | apply SubL.skip))
            | exact ctn (x := (sA, sc, U1)) ⟨hO, fun _ h => h, by rw [hS]; exact hU01 _ hUs, by rw [hS]; exact hUg1⟩ (by repeat (first | exact trivial | refine ⟨rfl, ?_⟩)) (by rw [hS]; dsimp only [rG, RS.cells]; repeat (first | exact SubL.nil | (apply SubL.cons; (repeat (first | exact At.here | apply At.there))) | exact SubL.refl _ | apply SubL.skip))
      · skip
        have hse : rSet f r side = false := h5
        have hS : rS f r side = rG f r side := by rw [rS, hse]; rfl
        have hO : rOver f r side = false := by rw [rOver, hse]; rfl
        refine skp (h := ?_)
        first
          | exact ctn (x := (sA1, sc1, U2)) ⟨hO, hU12, by rw [hS]; exact hUs2, by rw [hS]; exact hU12 _ hUg1⟩ (by repeat (first | exact trivial | refine ⟨rfl, ?_⟩)) (by rw [hS]; dsimp only [rG, RS.cells]; repeat (first | exact SubL.nil | (apply SubL.cons; (repeat (first | exact At.here | apply At.there))) | exact SubL.refl _ | apply SubL.skip))
          | exact ctn (x := (sA, sc, U1)) ⟨hO, fun _ h => h, by rw [hS]; exact hU01 _ hUs, by rw [hS]; exact hUg1⟩ (by repeat (first | exact trivial | refine ⟨rfl, ?_⟩)) (by rw [hS]; dsimp only [rG, RS.cells]; repeat (first | exact SubL.nil | (apply SubL.cons; (repeat (first | exact At.here | apply At.there))) | exact SubL.refl _ | apply SubL.skip))
    rintro ⟨sA2, sc2, U3⟩ ⟨hO, hU13, hUs3, hUg3⟩
    dsimp only [RS.cells]
    refine sq (h := ?_)
    refine sq (h := ?_)
    refine rg (h := ?_)
    refine WL.y (hy := (by first | exact fa | exact faE)) (h := ?_)
    refine WL.y (hy := (by first | exact ld | exact ldE)) (h := ?_)
    refine WL.y (hy := (by first | exact fa | exact faE)) (h := ?_)
    refine WL.y (hy := (by first | exact ld | exact ldE)) (h := ?_)
    refine WL.y (hy := addI) (h := ?_)
    refine WL.y (hy := remI) (h := ?_)
    refine WL.y (hy := eql) (h := ?_)
    refine nl (h := ?_)
    refine q_seq (h := ?_)
    refine cd (by exact rfl) (fun h8 => ?_) (fun h8 => ?_)
    · skip
      have hP : rPoint f r side = rBegin f { rS f r side with ends := (rS f r side).ends + 1 } := by
        have h' : rOdd f r side = true := h8
        rw [rPoint, hlt, hO, h']; rfl
      obtain ⟨r2, hr2⟩ : ∃ r2 : RS, r2 = { rS f r side with ends := (rS f r side).ends + 1 } := ⟨_, rfl⟩
      refine rg (h := ?_)
      refine WL.y (hy := (by first | exact fa | exact faE)) (h := ?_)
      refine WL.y (hy := (by first | exact fa | exact faE)) (h := ?_)
      refine WL.y (hy := (by first | exact ld | exact ldE)) (h := ?_)
      refine WL.y (hy := addI) (h := ?_)
      refine WL.y (hy := (by first | exact fa | exact faE)) (h := ?_)
      refine WL.y (hy := (by first | exact fa | exact faE)) (h := ?_)
      first | refine st (h := ?_) | refine stE (h := ?_)
      refine nl (h := ?_)
      refine q_seq (h := ?_)
      refine sq (h := ?_)
      refine rg (h := ?_)
      refine WL.y (hy := (by first | exact ldA | exact ldEA)) (h := ?_)
      refine WL.y (hy := (by first | exact ldA | exact ldEA)) (h := ?_)
      refine cl0 (hc := fun w hS => C_ref1_begin f r2 sA2 sc2 gA1 gc1 (rS f r side).st.length (rS f r side).gs.length hf w (hS.get (by subst hr2; repeat (first | exact Rds.ro | exact Rds.own | apply Rds.there))) (hS.get (by subst hr2; repeat (first | exact Rds.ro | exact Rds.own | apply Rds.there))) (by omega) (by omega) (by subst hr2; dsimp only; omega)) (hargs := by subst hr2; repeat (first | exact Evs.nil | (apply Evs.cons; exact rfl))) (h := ?_)
      first | refine stA (h := ?_) | refine stEA (h := ?_)
      refine nl (h := ?_)
      refine q_seq (h := ?_)
      refine rtn (h := ?_)
      refine q_ret (hR := ?_)
      rw [hP, ← hr2]
      exact fun w hS => ⟨⟨sA2, gA1, sc2, gc1, U3⟩, ⟨fun r hr => hU13 r (hU01 r hr), by subst hr2; exact hUs3, by subst hr2; exact hUg3⟩, rfl, hS.sub (by subst hr2; dsimp only [rBegin]; repeat (first | exact SubL.nil | (apply SubL.cons; (repeat (first | exact At.here | apply At.there))) | exact SubL.refl _ | apply SubL.skip))⟩
    · skip
      have hP : rPoint f r side = rBegin f { rS f r side with ends := (rS f r side).ends } := by
        have h' : rOdd f r side = false := h8
        rw [rPoint, hlt, hO, h']; rfl
      obtain ⟨r2, hr2⟩ : ∃ r2 : RS, r2 = { rS f r side with ends := (rS f r side).ends } := ⟨_, rfl⟩
      refine skp (h := ?_)
      refine q_seq (h := ?_)
      refine sq (h := ?_)
      refine rg (h := ?_)
      refine WL.y (hy := (by first | exact ldA | exact ldEA)) (h := ?_)
      refine WL.y (hy := (by first | exact ldA | exact ldEA)) (h := ?_)
      refine cl0 (hc := fun w hS => C_ref1_begin f r2 sA2 sc2 gA1 gc1 (rS f r side).st.length (rS f r side).gs.length hf w (hS.get (by subst hr2; repeat (first | exact Rds.ro | exact Rds.own | apply Rds.there))) (hS.get (by subst hr2; repeat (first | exact Rds.ro | exact Rds.own | apply Rds.there))) (by omega) (by omega) (by subst hr2; dsimp only; omega)) (hargs := by subst hr2; repeat (first | exact Evs.nil | (apply Evs.cons; exact rfl))) (h := ?_)
      first | refine stA (h := ?_) | refine stEA (h := ?_)
      refine nl (h := ?_)
      refine q_seq (h := ?_)
      refine rtn (h := ?_)
      refine q_ret (hR := ?_)
      rw [hP, ← hr2]
      exact fun w hS => ⟨⟨sA2, gA1, sc2, gc1, U3⟩, ⟨fun r hr => hU13 r (hU01 r hr), by subst hr2; exact hUs3, by subst hr2; exact hUg3⟩, rfl, hS.sub (by subst hr2; dsimp only [rBegin]; repeat (first | exact SubL.nil | (apply SubL.cons; (repeat (first | exact At.here | apply At.there))) | exact SubL.refl _ | apply SubL.skip))⟩
end Go.Proofs.YtpejgebcmhmpaaaGreat

namespace Go.Proofs.YtpejgebcmhmpaaaGreat
open Go Go.RowKit

def tstV (s : Sc) (x : Nt) : Bool := bif decide (x.kind = 3) then decide (s.p = x.pair) else bif decide (x.kind = 4) then decide (s.g = x.pair) && decide (s.p = (0, 0)) else
  bif decide (x.kind = 5) then decide (wonV s.st = x.pair) && (decide (s.g = (0, 0)) && decide (s.p = (0, 0))) else bif decide (x.kind = 6) then decide (0 ≤ s.server) && decide (s.server % 2 = x.side) else bif decide (x.kind = 7) then decide (s.winner = x.side) else false
theorem decP (p q : Pr) : decide ([p.1, p.2] = [q.1, q.2]) = decide (p = q) := decide_eq_decide.2 pr_list
set_option maxRecDepth 100000 in
theorem C_ref3_True (s : Sc) (A : Option Addr) (c : Nat) (x : Nt) (w : World) (h : Rd w A 2 s.st.length (encP s.st)) (hn : s.st.length ≤ 1000000) : C0 Tryz.prog 53 [s.val A c, x.val] w (.bool (tstV s x)) := by
  refine ⟨en Tryz.func53 Tryz.ntmps53 ((St.init w).share (e := .ro A 2 s.st.length (encP s.st)) h rfl rfl rfl) (h := fun F => ?_)⟩
  refine sq (h := ?_)
  refine rg (h := ?_)
  refine bxA (h := fun b0 => ?_)
  refine bxA (h := fun b1 => ?_)
  refine WL.y (hy := asg) (h := ?_)
  refine WL.cut (by repeat (first | exact Cut.nil | apply Cut.hit | apply Cut.miss (by exact rfl))) ?_
  refine nl (h := ?_)
  refine q_seq (h := ?_)
  refine sq (h := ?_)
  refine rg (h := ?_)
  refine WL.y (hy := (by first | exact fa | exact faE)) (h := ?_)
  refine WL.y (hy := (by first | exact ldA | exact ldEA)) (h := ?_)
  refine al (h := fun b2 => ?_)
  first | refine stA (h := ?_) | refine stEA (h := ?_)
  refine nl (h := ?_)
  refine q_seq (h := ?_)
  refine sq (h := ?_)
  refine rg (h := ?_)
  refine WL.y (hy := (by first | exact fa | exact faE)) (h := ?_)
  refine WL.y (hy := (by first | exact ldA | exact ldEA)) (h := ?_)
  refine WL.y (hy := bd) (h := ?_)
  refine WL.y (hy := eqlT) (h := ?_)
  refine WL.y (hy := asg) (h := ?_)
  refine nl (h := ?_)
  refine q_seq (h := ?_)
  refine sq (h := ?_)
  refine sq (h := ?_)
  refine rg (h := ?_)
  refine WL.y (hy := (by first | exact fa | exact faE)) (h := ?_)
  refine WL.y (hy := (by first | exact ld | exact ldE)) (h := ?_)
  refine nl (h := ?_)
  refine q_seq (h := ?_)
  refine bk (h := ?_)
  refine sq (h := ?_)
  refine rg (h := ?_)
  refine WL.y (hy := eql) (h := ?_)
  refine WL.y (hy := asg) (h := ?_)
  refine nl (h := ?_)
  refine q_seq (h := ?_)
  refine cd (by exact rfl) (fun h0 => ?_) (fun h0 => ?_)
  · skip
    have k3 : x.kind = 3 := of_decide_eq_true h0
    refine sq (h := ?_)
    refine rg (h := ?_)
    refine WL.y (hy := (by first | exact fa | exact faE)) (h := ?_)
    refine WL.y (hy := (by first | exact ldA | exact ldEA)) (h := ?_)
    refine WL.y (hy := (by first | exact fa | exact faE)) (h := ?_)
    refine WL.y (hy := (by first | exact ldA | exact ldEA)) (h := ?_)
    refine WL.y (hy := eqlT) (h := ?_)
    refine WL.y (hy := asg) (h := ?_)
    refine WL.cut (by repeat (first | exact Cut.nil | apply Cut.hit | apply Cut.miss (by exact rfl))) ?_
    refine nl (h := ?_)
    refine q_seq (h := ?_)
    refine rtn (h := ?_)
    refine q_blk_ret (h := ?_)
    refine q_then_ret (h := ?_)
    refine q_ret (hR := ?_)
    refine fun w hS => ⟨?_, hS.sub (by repeat (first | exact SubL.nil | (apply SubL.cons; (repeat (first | exact At.here | apply At.there))) | exact SubL.refl _ | apply SubL.skip))⟩
    clear hS
    clear h
    simp_all [tstV, Prod.ext_iff, resV, Bool.and_assoc]
  · skip
    have k3 : ¬ x.kind = 3 := of_decide_eq_false h0
    refine sq (h := ?_)
    refine rg (h := ?_)
    refine WL.y (hy := eql) (h := ?_)
    refine WL.y (hy := asg) (h := ?_)
    refine nl (h := ?_)
    refine q_seq (h := ?_)
    refine cd (by exact rfl) (fun h1 => ?_) (fun h1 => ?_)
    · skip
      have k4 : x.kind = 4 := of_decide_eq_true h1
      refine sq (h := ?_)
      refine rg (h := ?_)
      refine WL.y (hy := (by first | exact fa | exact faE)) (h := ?_)
      refine WL.y (hy := (by first | exact ldA | exact ldEA)) (h := ?_)
      refine WL.y (hy := (by first | exact fa | exact faE)) (h := ?_)
      refine WL.y (hy := (by first | exact ldA | exact ldEA)) (h := ?_)
      refine WL.y (hy := eqlT) (h := ?_)
      refine WL.y (hy := mv) (h := ?_)
      apply brAnd 2 29 31 (by exact rfl)
      · intro hb2
        refine un (h := ?_)
        refine WL.y (hy := mv) (h := ?_)
        refine WL.y (hy := (by first | exact pkT | exact pkF)) (h := ?_)
        exact mg (by repeat (first | exact trivial | refine ⟨rfl, ?_⟩ | refine ⟨by rw [hb2]; rfl, ?_⟩)) (by repeat (first | exact SubL.nil | (apply SubL.cons; (repeat (first | exact At.here | apply At.there))) | exact SubL.refl _ | apply SubL.skip))
      · intro hb2
        repeat (first | refine un (h := ?_) | refine sk (h := ?_) | refine WL.y (hy := pkF) (h := ?_) | refine WL.y (hy := pkT) (h := ?_))
        exact mg (by repeat (first | exact trivial | refine ⟨rfl, ?_⟩ | refine ⟨by rw [hb2]; rfl, ?_⟩)) (by repeat (first | exact SubL.nil | (apply SubL.cons; (repeat (first | exact At.here | apply At.there))) | exact SubL.refl _ | apply SubL.skip))
      refine WL.y (hy := asg) (h := ?_)
      refine WL.cut (by repeat (first | exact Cut.nil | apply Cut.hit | apply Cut.miss (by exact rfl))) ?_
      refine nl (h := ?_)
      refine q_seq (h := ?_)
      refine rtn (h := ?_)
      refine q_blk_ret (h := ?_)
      refine q_then_ret (h := ?_)
      refine q_ret (hR := ?_)
      refine fun w hS => ⟨?_, hS.sub (by repeat (first | exact SubL.nil | (apply SubL.cons; (repeat (first | exact At.here | apply At.there))) | exact SubL.refl _ | apply SubL.skip))⟩
      clear hS
      clear h
      simp_all [tstV, Prod.ext_iff, resV, Bool.and_assoc]
    · skip
      have k4 : ¬ x.kind = 4 := of_decide_eq_false h1
      refine sq (h := ?_)
      refine rg (h := ?_)
      refine WL.y (hy := eql) (h := ?_)
      refine WL.y (hy := asg) (h := ?_)
      refine nl (h := ?_)
      refine q_seq (h := ?_)
      refine cd (by exact rfl) (fun h3 => ?_) (fun h3 => ?_)
      · skip
        have k5 : x.kind = 5 := of_decide_eq_true h3
        refine sq (h := ?_)
        refine rgD (by kernel_rfl) [(1000000, .blk b0 54 (s.cells A c)), (1000000, .blk b1 45 x.cells), (1000000, .blk b2 52 [.slice A s.st.length c, .int .i64 s.g.1, .int .i64 s.g.2, .int .i64 s.p.1, .int .i64 s.p.2])] (by repeat (first | exact HS.nil | (apply HS.keep; (repeat (first | exact At.here | apply At.there))) | (apply HS.ro; (repeat (first | exact Rds.ro | exact Rds.own | apply Rds.there))))) (h := ?_)
        refine tk 0 (hy := (by first | exact fa | exact faE)) (h := ?_)
        refine tk 1 (hy := (by first | exact ld | exact ldE)) (h := ?_)
        refine tk 3 (hy := (by first | exact fa | exact faE)) (h := ?_)
        refine tk 4 (hy := (by first | exact ldA | exact ldEA)) (h := ?_)
        refine one 2 (h := ?_)
        refine cl0 (hc := fun w hS => C_ref1_Won s.st A s.st.length c w (hS.get (by repeat (first | exact Rds.ro | exact Rds.own | apply Rds.there))) hn) (h := ?_)
        refine nx (h := ?_)
        refine tk 5 (hy := eqlT) (h := ?_)
        refine tk 6 (hy := mv) (h := ?_)
        refine brH (g := 40) (by exact rfl) (fun hb4 => ?_) (fun hb4 => ?_)
        · skip
          refine tk 7 (hy := (by first | exact fa | exact faE)) (h := ?_)
          refine tk 8 (hy := (by first | exact ldA | exact ldEA)) (h := ?_)
          refine tk 9 (hy := bd) (h := ?_)
          refine tk 10 (hy := eqlT) (h := ?_)
          refine tk 11 (hy := (by first | exact pkT | exact pkF)) (h := ?_)
          refine tk 12 (hy := mv) (h := ?_)
          refine brH (g := 46) (by exact rfl) (fun hb5 => ?_) (fun hb5 => ?_)
          · skip
            refine tk 13 (hy := mv) (h := ?_)
            refine tk 14 (hy := (by first | exact pkT | exact pkF)) (h := ?_)
            refine tk 15 (hy := asg) (h := ?_)
            refine dn (h := ?_)
            refine q_seq (h := ?_)
            refine rtn (h := ?_)
            refine q_blk_ret (h := ?_)
            refine q_then_ret (h := ?_)
            refine q_ret (hR := ?_)
            refine fun w hS => ⟨?_, hS.sub (by repeat (first | exact SubL.nil | (apply SubL.cons; (repeat (first | exact At.here | apply At.there))) | exact SubL.refl _ | apply SubL.skip))⟩
            clear hS
            clear h
            simp_all [tstV, Prod.ext_iff, resV, Bool.and_assoc]
          · skip
            refine tkS 13 (h := ?_)
            refine tk 14 (hy := (by first | exact pkT | exact pkF)) (h := ?_)
            refine tk 15 (hy := asg) (h := ?_)
            refine dn (h := ?_)
            refine q_seq (h := ?_)
            refine rtn (h := ?_)
            refine q_blk_ret (h := ?_)
            refine q_then_ret (h := ?_)
            refine q_ret (hR := ?_)
            refine fun w hS => ⟨?_, hS.sub (by repeat (first | exact SubL.nil | (apply SubL.cons; (repeat (first | exact At.here | apply At.there))) | exact SubL.refl _ | apply SubL.skip))⟩
            clear hS
            clear h
            simp_all [tstV, Prod.ext_iff, resV, Bool.and_assoc]
        · skip
          refine tkS 7 (h := ?_)
          refine tkS 8 (h := ?_)
          refine tkS 9 (h := ?_)
          refine tkS 10 (h := ?_)
          refine tk 11 (hy := (by first | exact pkT | exact pkF)) (h := ?_)
          refine tk 12 (hy := mv) (h := ?_)
          refine tkS 13 (h := ?_)
          refine tk 14 (hy := (by first | exact pkT | exact pkF)) (h := ?_)
          refine tk 15 (hy := asg) (h := ?_)
          refine dn (h := ?_)
          refine q_seq (h := ?_)
          refine rtn (h := ?_)
          refine q_blk_ret (h := ?_)
          refine q_then_ret (h := ?_)
          refine q_ret (hR := ?_)
          refine fun w hS => ⟨?_, hS.sub (by repeat (first | exact SubL.nil | (apply SubL.cons; (repeat (first | exact At.here | apply At.there))) | exact SubL.refl _ | apply SubL.skip))⟩
          clear hS
          clear h
          simp_all [tstV, Prod.ext_iff, resV, Bool.and_assoc]
      · skip
        have k5 : ¬ x.kind = 5 := of_decide_eq_false h3
        refine sq (h := ?_)
        refine rg (h := ?_)
        refine WL.y (hy := eql) (h := ?_)
        refine WL.y (hy := asg) (h := ?_)
        refine nl (h := ?_)
        refine q_seq (h := ?_)
        refine cd (by exact rfl) (fun h6 => ?_) (fun h6 => ?_)
        · skip
          have k6 : x.kind = 6 := of_decide_eq_true h6
          refine sq (h := ?_)
          refine rg (h := ?_)
          refine WL.y (hy := (by first | exact fa | exact faE)) (h := ?_)
          refine WL.y (hy := (by first | exact ld | exact ldE)) (h := ?_)
          refine WL.y (hy := geq) (h := ?_)
          refine WL.y (hy := mv) (h := ?_)
          apply brAnd 7 54 61 (by exact rfl)
          · intro hb7
            have hs0 : 0 ≤ s.server := of_decide_eq_true hb7
            refine un (h := ?_)
            refine WL.y (hy := (by first | exact fa | exact faE)) (h := ?_)
            refine un (h := ?_)
            refine WL.y (hy := (by first | exact ld | exact ldE)) (h := ?_)
            refine un (h := ?_)
            refine WL.y (hy := remI) (h := ?_)
            refine un (h := ?_)
            refine WL.y (hy := (by first | exact fa | exact faE)) (h := ?_)
            refine un (h := ?_)
            refine WL.y (hy := (by first | exact ld | exact ldE)) (h := ?_)
            refine un (h := ?_)
            refine WL.y (hy := eql) (h := ?_)
            refine WL.y (hy := (by first | exact pkT | exact pkF)) (h := ?_)
            exact mg (by repeat (first | exact trivial | refine ⟨rfl, ?_⟩ | refine ⟨by rw [hb7]; rfl, ?_⟩)) (by repeat (first | exact SubL.nil | (apply SubL.cons; (repeat (first | exact At.here | apply At.there))) | exact SubL.refl _ | apply SubL.skip))
          · intro hb7
            repeat (first | refine un (h := ?_) | refine sk (h := ?_) | refine WL.y (hy := pkF) (h := ?_) | refine WL.y (hy := pkT) (h := ?_))
            exact mg (by repeat (first | exact trivial | refine ⟨rfl, ?_⟩ | refine ⟨by rw [hb7]; rfl, ?_⟩)) (by repeat (first | exact SubL.nil | (apply SubL.cons; (repeat (first | exact At.here | apply At.there))) | exact SubL.refl _ | apply SubL.skip))
          refine WL.y (hy := asg) (h := ?_)
          refine WL.cut (by repeat (first | exact Cut.nil | apply Cut.hit | apply Cut.miss (by exact rfl))) ?_
          refine nl (h := ?_)
          refine q_seq (h := ?_)
          refine rtn (h := ?_)
          refine q_blk_ret (h := ?_)
          refine q_then_ret (h := ?_)
          refine q_ret (hR := ?_)
          refine fun w hS => ⟨?_, hS.sub (by repeat (first | exact SubL.nil | (apply SubL.cons; (repeat (first | exact At.here | apply At.there))) | exact SubL.refl _ | apply SubL.skip))⟩
          clear hS
          clear h
          simp_all [tstV, Prod.ext_iff, resV, Bool.and_assoc]
        · skip
          have k6 : ¬ x.kind = 6 := of_decide_eq_false h6
          refine sq (h := ?_)
          refine rg (h := ?_)
          refine WL.y (hy := eql) (h := ?_)
          refine WL.y (hy := asg) (h := ?_)
          refine nl (h := ?_)
          refine q_seq (h := ?_)
          refine cd (by exact rfl) (fun h8 => ?_) (fun h8 => ?_)
          · skip
            have k7 : x.kind = 7 := of_decide_eq_true h8
            refine sq (h := ?_)
            refine rg (h := ?_)
            refine WL.y (hy := (by first | exact fa | exact faE)) (h := ?_)
            refine WL.y (hy := (by first | exact ld | exact ldE)) (h := ?_)
            refine WL.y (hy := (by first | exact fa | exact faE)) (h := ?_)
            refine WL.y (hy := (by first | exact ld | exact ldE)) (h := ?_)
            refine WL.y (hy := eql) (h := ?_)
            refine WL.y (hy := asg) (h := ?_)
            refine WL.cut (by repeat (first | exact Cut.nil | apply Cut.hit | apply Cut.miss (by exact rfl))) ?_
            refine nl (h := ?_)
            refine q_seq (h := ?_)
            refine rtn (h := ?_)
            refine q_blk_ret (h := ?_)
            refine q_then_ret (h := ?_)
            refine q_ret (hR := ?_)
            refine fun w hS => ⟨?_, hS.sub (by repeat (first | exact SubL.nil | (apply SubL.cons; (repeat (first | exact At.here | apply At.there))) | exact SubL.refl _ | apply SubL.skip))⟩
            clear hS
            clear h
            simp_all [tstV, Prod.ext_iff, resV, Bool.and_assoc]
          · skip
            have k7 : ¬ x.kind = 7 := of_decide_eq_false h8
            refine skp (h := ?_)
            refine q_blk_norm (h := ?_)
            refine q_seq (h := ?_)
            refine sq (h := ?_)
            refine rg (h := ?_)
            refine WL.y (hy := asg) (h := ?_)
            refine WL.cut (by repeat (first | exact Cut.nil | apply Cut.hit | apply Cut.miss (by exact rfl))) ?_
            refine nl (h := ?_)
            refine q_seq (h := ?_)
            refine rtn (h := ?_)
            refine q_ret (hR := ?_)
            refine fun w hS => ⟨?_, hS.sub (by repeat (first | exact SubL.nil | (apply SubL.cons; (repeat (first | exact At.here | apply At.there))) | exact SubL.refl _ | apply SubL.skip))⟩
            clear hS
            clear h
            simp_all [tstV, Prod.ext_iff, resV, Bool.and_assoc]
theorem tst_hold {f : Fmt} {m : MS} (hmf : m.f = f) (hr : Rch m) (hfs : 0 ≤ m.first ∧ m.first ≤ 1) {x : Nt} (h : 3 ≤ x.kind ∧ x.kind ≤ 7) : tstV m.sc x = holdS f x (spotOf m) := by
  subst hmf
  unfold tstV holdS
  rw [← rch_win hr, ← rch_srv hfs hr]
  show (bif decide (x.kind = 3) then decide (m.p = x.pair) else bif decide (x.kind = 4) then decide (m.g = x.pair) && decide (m.p = (0, 0)) else
    bif decide (x.kind = 5) then decide (wonV m.st = x.pair) && (decide (m.g = (0, 0)) && decide (m.p = (0, 0))) else bif decide (x.kind = 6) then decide (0 ≤ m.server) && decide (m.server % 2 = x.side) else bif decide (x.kind = 7) then decide (m.winner = x.side) else false) =
    (bif decide (x.kind = 3) then decide (m.p = x.pair) else bif decide (x.kind = 4) then decide (m.g = x.pair) && decide (m.p = (0, 0)) else
    bif decide (x.kind = 5) then decide (wonV m.st = x.pair) && (decide (m.g = (0, 0)) && decide (m.p = (0, 0))) else bif decide (x.kind = 6) then decide (0 ≤ m.server) && decide (m.server % 2 = x.side) else decide (m.winner = x.side))
  by_cases h7 : x.kind = 7
  · rw [h7]; rfl
  · cases h3 : decide (x.kind = 3)
    · cases h4 : decide (x.kind = 4)
      · cases h5 : decide (x.kind = 5)
        · cases h6 : decide (x.kind = 6)
          · simp only [decide_eq_false_iff_not] at h3 h4 h5 h6; omega
          · rfl
        · rfl
      · rfl
    · rfl
theorem T_ref1_PointU' (f : Fmt) (m : MS) (hmf : m.f = f) (side K : Int) (sA : Option Addr) (sc : Nat) (gA : Option Addr) (gc : Nat) (U : List Row) (hUs : (⟨sA, 2, m.st.length, encP m.st⟩ : Row) ∈ U) (hUg : (⟨gA, 7, m.gs.length, encG m.gs⟩ : Row) ∈ U) (hf : f.Ok) (hB : m.Bd K) (hK : K ≤ 990) (hi : m.Inv) (hs : side = 0 ∨ side = 1) :
    Tr Tryz.prog 51 [f.val, (refOf m).val sA sc gA gc, .int .i64 side] [manyE true U] (fun x : RU => PtU U (refOf (pointV m side)) x) (fun x => (refOf (pointV m side)).val x.sA x.sc x.gA x.gc) (fun x => [manyE true x.U]) := by
  subst hmf
  have h := T_ref1_PointU m.f (refOf m) side K sA sc gA gc U hUs hUg hf (refBd hB hK)
  rw [sim_point hf (by have := hB.fst; omega) hi hs] at h
  exact h
end Go.Proofs.YtpejgebcmhmpaaaGreat

namespace Go.Proofs.YtpejgebcmhmpaaaGreat
open Go Go.RowKit

structure MtA where
  (m : MS) (sA gA : Option Addr) (sc gc : Nat)
abbrev MtA.cells (q : MtA) : List Value := (refOf q.m).cells q.sA q.sc q.gA q.gc
theorem bset_at {l : List Bool} {i t : Nat} (v : Bool) (h : i < l.length) : (l.set i v)[t]? = some true ↔ if t = i then v = true else l[t]? = some true := by
  rw [List.getElem?_set]
  by_cases e : i = t
  · subst e; rw [if_pos rfl, if_pos h, if_pos rfl]; simp
  · rw [if_neg e, if_neg (fun h => e h.symm)]
theorem rep_no (n t : Nat) : ¬ (List.replicate n false)[t]? = some true := fun h => by
  rw [List.getElem?_replicate] at h
  split at h <;> cases h
structure MtsI (f : Fmt) (first : Int) (ps : List Int) (k : Nat) (ms : List MtA) (U : List Row) : Prop where
  len : ms.length = k + 1
  ok : ∀ i q, ms[i]? = some q → playTo f first ps i = some q.m ∧ (⟨q.sA, 2, q.m.st.length, encP q.m.st⟩ : Row) ∈ U ∧ (⟨q.gA, 7, q.m.gs.length, encG q.m.gs⟩ : Row) ∈ U
theorem MtsI.snoc {f : Fmt} {first : Int} {ps : List Int} {k : Nat} {ms : List MtA} {U : List Row} (h : MtsI f first ps k ms U) {m : MS} {x : RU} (hm : playTo f first ps (k + 1) = some m) (hx : PtU U (refOf m) x) : MtsI f first ps (k + 1) (ms ++ [⟨m, x.sA, x.gA, x.sc, x.gc⟩]) x.U := by
  refine ⟨by rw [List.length_append, h.len]; rfl, fun i q hq => ?_⟩
  by_cases e : i < ms.length
  · rw [List.getElem?_append_left e] at hq
    obtain ⟨h1, h2, h3⟩ := h.ok i q hq
    exact ⟨h1, hx.sub _ h2, hx.sub _ h3⟩
  · rw [List.getElem?_append_right (by omega)] at hq
    have hl := h.len
    cases hd : i - ms.length with
    | succ d => rw [hd] at hq; simp at hq
    | zero =>
      rw [hd] at hq
      obtain rfl : (⟨m, x.sA, x.gA, x.sc, x.gc⟩ : MtA) = q := by simpa using hq
      rw [show i = k + 1 by omega]
      exact ⟨hm, hx.s, hx.g⟩
structure MOk (f : Fmt) (cf first : Int) (xs : List Nt) (ps : List Int) : Prop where
  fs : first = 0 ∨ first = 1
  cf : cf = -1 ∨ cf = first
  n : ps.length ≤ 600
  pl : ∃ m, playTo f first ps ps.length = some m
  fit : Fit f first ps xs xs.length ps.length
structure KI (f : Fmt) (first : Int) (ps : List Int) (x : Nt) (bs : List Bool) (n i : Nat) (bt : List Bool) : Prop where
  len : bt.length = n + 1
  ok : ∀ t, bt[t]? = some true ↔ ∃ m, m < i ∧ bs[m]? = some true ∧ hitV f first ps x m t
section
variable {f : Fmt} {first : Int} {ps : List Int} {x : Nt} {bs bt : List Bool} {n i : Nat}
theorem KI.start : KI f first ps x bs n 0 (List.replicate (n + 1) false) := ⟨List.length_replicate .., fun t => ⟨fun h => absurd h (rep_no _ _), fun ⟨m, hm, _⟩ => absurd hm (Nat.not_lt_zero _)⟩⟩
theorem KI.next (h : KI f first ps x bs n i bt) {bu : List Bool} (hl : bu.length = n + 1) (hb : ∀ t, bu[t]? = some true ↔ bt[t]? = some true ∨ (bs[i]? = some true ∧ hitV f first ps x i t)) : KI f first ps x bs n (i + 1) bu := by
  refine ⟨hl, fun t => ?_⟩
  rw [hb t, h.ok t]
  constructor
  · rintro (⟨m, hm, hr⟩ | hr)
    · exact ⟨m, by omega, hr⟩
    · exact ⟨i, by omega, hr⟩
  · rintro ⟨m, hm, hr⟩
    by_cases e : m = i
    · subst e; exact .inr hr
    · exact .inl ⟨m, by omega, hr⟩
theorem KI.skip (h : KI f first ps x bs n i bt) (hn : ∀ t, ¬ (bs[i]? = some true ∧ hitV f first ps x i t)) : KI f first ps x bs n (i + 1) bt := h.next h.len fun t => ⟨.inl, fun h => h.elim id fun h => absurd h (hn t)⟩
theorem KI.one (h : KI f first ps x bs n i bt) (hk : x.kind = 1) (hbi : bs[i]? = some true) (hl : ps.length = n) (hin : i + 1 ≤ n) (hs : x.side = -1 ∨ ps[i]? = some x.side) : KI f first ps x bs n (i + 1) (bt.set (i + 1) true) := by
  refine h.next (by rw [List.length_set]; exact h.len) fun t => ?_
  rw [bset_at true (by rw [h.len]; omega)]
  unfold hitV
  rw [if_pos hk]
  by_cases e : t = i + 1
  · rw [if_pos e]; exact ⟨fun _ => .inr ⟨hbi, e, by omega, hs⟩, fun _ => rfl⟩
  · rw [if_neg e]; exact ⟨.inl, fun h => h.elim id fun h => absurd h.2.1 e⟩
theorem KI.test (h : KI f first ps x bs n i bt) (h1 : x.kind ≠ 1) (h2 : x.kind ≠ 2) (hbi : bs[i]? = some true) (hin : i ≤ n) {v : Bool} (hv : bt[i]? = some v) {u : Bool} (hu : u = holdS f x (spS f first ps i)) : KI f first ps x bs n (i + 1) (bt.set i (v || u)) := by
  refine h.next (by rw [List.length_set]; exact h.len) fun t => ?_
  rw [bset_at _ (by rw [h.len]; omega)]
  unfold hitV
  rw [if_neg h1, if_neg h2]
  by_cases e : t = i
  · subst e
    rw [if_pos rfl, hv, Bool.or_eq_true, hu, Option.some.injEq]
    exact ⟨fun h => h.imp id fun h => ⟨hbi, rfl, h⟩, fun h => h.imp id fun h => h.2.2⟩
  · rw [if_neg e]; exact ⟨.inl, fun h => h.elim id fun h => absurd h.2.1 e⟩
structure PI (x : Nt) (bt : List Bool) (n i k : Nat) (bu : List Bool) : Prop where
  len : bu.length = n + 1
  kb : x.pair.1 ≤ (k : Int) ∧ ((k : Int) = x.pair.1 ∨ ((k : Int) ≤ x.pair.2 + 1 ∧ i + k ≤ n + 1))
  ok : ∀ t, bu[t]? = some true ↔ bt[t]? = some true ∨ ∃ j : Nat, x.pair.1 ≤ (j : Int) ∧ j < k ∧ t = i + j
theorem PI.start (hl : bt.length = n + 1) {k : Nat} (hk : (k : Int) = x.pair.1) : PI x bt n i k bt := ⟨hl, ⟨by omega, .inl hk⟩, fun t => ⟨.inl, fun h => h.elim id fun ⟨j, h1, h2, _⟩ => by omega⟩⟩
theorem PI.next {k : Nat} {bu : List Bool} (h : PI x bt n i k bu) (h1 : (k : Int) ≤ x.pair.2) (h2 : i + k < n + 1) : PI x bt n i (k + 1) (bu.set (i + k) true) := by
  have hk := h.kb
  refine ⟨by rw [List.length_set]; exact h.len, ⟨by omega, .inr ⟨by omega, by omega⟩⟩, fun t => ?_⟩
  rw [bset_at true (by rw [h.len]; omega), h.ok t]
  by_cases e : t = i + k
  · rw [if_pos e]; exact ⟨fun _ => .inr ⟨k, hk.1, by omega, e⟩, fun _ => rfl⟩
  · rw [if_neg e]
    refine ⟨fun h => h.imp id fun ⟨j, a, b, c⟩ => ⟨j, a, by omega, c⟩, fun h => h.imp id fun ⟨j, a, b, c⟩ => ⟨j, a, ?_, c⟩⟩
    by_cases e2 : j = k
    · subst e2; exact absurd c e
    · omega
theorem PI.done {k : Nat} {bu : List Bool} (h : PI x bt n i k bu) (hx : x.kind = 2) (hr : 0 ≤ x.pair.1 ∧ x.pair.1 ≤ x.pair.2) (hin : i ≤ n) (hk : ¬ ((k : Int) ≤ x.pair.2 ∧ i + k < n + 1)) (hbi : bs[i]? = some true) (hl : ps.length = n) (hK : KI f first ps x bs n i bt) : KI f first ps x bs n (i + 1) bu := by
  have hkk := h.kb
  refine hK.next h.len fun t => ?_
  rw [h.ok t]
  unfold hitV
  rw [if_neg (show ¬ x.kind = 1 by omega), if_pos hx]
  constructor
  · rintro (h | ⟨j, h1, h2, rfl⟩)
    · exact .inl h
    · exact .inr ⟨hbi, ⟨by omega, by omega⟩, by omega, by omega⟩
  · rintro (h | ⟨_, ⟨h1, h2⟩, h3, h4⟩)
    · exact .inl h
    · exact .inr ⟨t - i, by omega, by omega, by omega⟩
end
end Go.Proofs.YtpejgebcmhmpaaaGreat

namespace Go.Proofs.YtpejgebcmhmpaaaGreat
open Go Go.RowKit

noncomputable def mokB (f : Fmt) (cf first : Int) (xs : List Nt) (ps : List Int) : Bool := @decide (MOk f cf first xs ps) (Classical.propDecidable _)
structure TrM (f : Fmt) (cf first : Int) (xs : List Nt) (ps : List Int) (m : MS) : Prop where
  o : playO f first ps = some m
  k : spotOf m ∈ keyC (crowdC f cf xs)
  lo : (cntC f cf xs).1 ≤ ps.length
  hi : (ps.length : Int) ≤ (cntC f cf xs).2
  f : m.f = f
  fs : m.first = first
  r : Rch m
theorem MOk.play {f : Fmt} {cf first : Int} {xs : List Nt} {ps : List Int} (h : MOk f cf first xs ps) (hR : Rdy f cf xs) : ∃ m, TrM f cf first xs ps m := by
  obtain ⟨m, hm⟩ := h.pl
  obtain ⟨h1, h2⟩ := play_can hR.ok hm
  have h3 := h.fs
  obtain ⟨e, he, e1, e2, e3⟩ := true_match h1 (beg_in h.fs h.cf) h.fit
  obtain ⟨_, _, s3⟩ := span_le (crowdC f cf xs) (600, 0)
  have s4 := s3 e he
  have hc0 := (chk_facts hR.c).1
  have hp : preE f first ps.length = 0 := by
    have hs : sideBad first = false := by rcases h3 with rfl | rfl <;> rfl
    unfold preE
    rw [hc0, hs, decide_eq_false (show ¬ (600 : Int) < ps.length by have := h.n; omega)]; rfl
  refine ⟨m, by rw [playO, hp]; exact hm, by rw [h2, ← e1]; exact List.mem_map.2 ⟨e, he, rfl⟩, ?_, ?_, (playTo_inv hR.ok hm).1, (playTo_inv hR.ok hm).2.1, playTo_rch hR.ok hm⟩
  · show (spanC _ _).1 ≤ _; omega
  · show _ ≤ (spanC _ _).2; omega
end Go.Proofs.YtpejgebcmhmpaaaGreat

namespace Go.Proofs.YtpejgebcmhmpaaaGreat
open Go Go.RowKit

theorem same_brds {xa xb : List Brd} {k : Nat} (htk : xa.take k = xb.take k) (hl : xa.length = xb.length) (hk : k = xa.length) : xa = xb := by
  rw [List.take_of_length_le (by omega), List.take_of_length_le (by omega)] at htk; exact htk
set_option maxRecDepth 100000 in
theorem C_law3_sameBoards (za zb : List BA) (A B : Option Addr) (n m c d : Nat) (w : World) (h : Rd w A 5 n (encX za)) (h' : Rd w B 5 m (encX zb)) (ha : ∀ x ∈ za, Rd w x.A 2 x.b.st.length (encP x.b.st)) (hb : ∀ x ∈ zb, Rd w x.A 2 x.b.st.length (encP x.b.st))
    (sa : ∀ x ∈ za, BrdSm x.b) (sb : ∀ x ∈ zb, BrdSm x.b) (hn : n ≤ 9223372036854775807) (hm : m ≤ 9223372036854775807) : C0 Tryz.prog 18 [.slice A n c, .slice B m d] w (.bool (decide (za.map (·.b) = zb.map (·.b)))) := by
  have hla : za.length = n := by have := h.len; rwa [encX_len] at this
  have hlb : zb.length = m := by have := h'.len; rwa [encX_len] at this
  refine ⟨en Tryz.func18 Tryz.ntmps18 (((St.init w).share (e := .ro A 5 n (encX za)) h rfl rfl rfl).share (e := .ro B 5 m (encX zb)) h' rfl rfl rfl) (h := fun F => ?_)⟩
  refine sq (h := ?_)
  refine rg (h := ?_)
  refine WL.y (hy := asg) (h := ?_)
  refine nl (h := ?_)
  refine q_seq (h := ?_)
  refine sq (h := ?_)
  refine sq (h := ?_)
  refine rg (h := ?_)
  refine WL.y (hy := mv) (h := ?_)
  refine WL.y (hy := lenS) (h := ?_)
  refine WL.y (hy := mv) (h := ?_)
  refine WL.y (hy := lenS) (h := ?_)
  refine WL.y (hy := neq) (h := ?_)
  refine nl (h := ?_)
  refine q_seq (h := ?_)
  refine cd (by exact rfl) (fun h0 => ?_) (fun h0 => ?_)
  · skip
    have hE : decide (za.map (·.b) = zb.map (·.b)) = false := decide_eq_false fun e => by
      have h1 := congrArg List.length e
      rw [List.length_map, List.length_map] at h1
      have h2 : (!decide ((n : Int) = m)) = true := h0
      simp only [Bool.not_eq_true', decide_eq_false_iff_not] at h2
      omega
    refine sq (h := ?_)
    refine rg (h := ?_)
    refine WL.y (hy := asg) (h := ?_)
    refine nl (h := ?_)
    refine q_seq (h := ?_)
    refine rtn (h := ?_)
    refine q_then_ret (h := ?_)
    refine q_ret (hR := ?_)
    rw [hE]
    exact fun w hS => ⟨rfl, hS.sub (by repeat (first | exact SubL.nil | (apply SubL.cons; (repeat (first | exact At.here | apply At.there))) | exact SubL.refl _ | apply SubL.skip))⟩
  · skip
    have hnm : n = m := by
      have h2 : (!decide ((n : Int) = m)) = false := h0
      simp only [Bool.not_eq_false', decide_eq_true_eq] at h2
      omega
    refine skp (h := ?_)
    refine q_seq (h := ?_)
    refine sq (h := ?_)
    refine sq (h := ?_)
    refine rg (h := ?_)
    refine WL.y (hy := asg) (h := ?_)
    refine WL.cut (by repeat (first | exact Cut.nil | apply Cut.hit | apply Cut.miss (by exact rfl))) ?_
    refine nl (h := ?_)
    refine q_seq (h := ?_)
    refine bk (h := ?_)
    refine lp (X := Nat) (I := fun k => k ≤ n ∧ (za.map (·.b)).take k = (zb.map (·.b)).take k) (le := fun k => [(0, .slice A n c), (1, .slice B m d), (5, .int .i64 k)]) (Le := fun _ => [.ro A 5 n (encX za), .ro B 5 m (encX zb)]) (μ := fun k => n - k) 0 ⟨Nat.zero_le _, rfl⟩ (by repeat (first | exact trivial | refine ⟨rfl, ?_⟩)) (by repeat (first | exact SubL.nil | (apply SubL.cons; (repeat (first | exact At.here | apply At.there))) | exact SubL.refl _ | apply SubL.skip)) (fun k hk0 => ?_)
    obtain ⟨hk, htk⟩ := hk0
    refine sq (h := ?_)
    refine sq (h := ?_)
    refine rg (h := ?_)
    refine WL.y (hy := mv) (h := ?_)
    refine WL.y (hy := mv) (h := ?_)
    refine WL.y (hy := lenS) (h := ?_)
    refine WL.y (hy := lss) (h := ?_)
    refine nl (h := ?_)
    refine q_seq (h := ?_)
    refine cd (by exact rfl) (fun h1 => ?_) (fun h1 => ?_)
    · skip
      have hkn : k < n := by have := of_decide_eq_true h1; omega
      obtain ⟨x, hx⟩ : ∃ x, za[k]? = some x := ⟨_, List.getElem?_eq_getElem (by omega)⟩
      obtain ⟨y, hy⟩ : ∃ x, zb[k]? = some x := ⟨_, List.getElem?_eq_getElem (by omega)⟩
      have hxm := List.mem_of_getElem? hx
      have hym := List.mem_of_getElem? hy
      have hsx := (sa x hxm).n
      have hsy := (sb y hym).n
      refine skp (h := ?_)
      refine q_seq (h := ?_)
      refine sq (h := ?_)
      refine bk (h := ?_)
      refine sq (h := ?_)
      refine rgD0 (by kernel_rfl) (h := ?_)
      refine tk 0 (hy := mv) (h := ?_)
      refine tk 1 (hy := mv) (h := ?_)
      refine tk 2 (hy := ix (A := A) (m := n) (hb := by omega)) (h := ?_)
      refine tk 3 (hy := ldEW (A := A) (k := k) (cs := x.cells) (hk := encX_at hx)) (h := ?_)
      refine tk 4 (hy := mv) (h := ?_)
      refine tk 5 (hy := mv) (h := ?_)
      refine tk 6 (hy := ix (A := B) (m := m) (hb := by omega)) (h := ?_)
      refine tk 7 (hy := ldEW (A := B) (k := k) (cs := y.cells) (hk := encX_at hy)) (h := ?_)
      refine one 8 (h := ?_)
      refine cl0 (hc := fun w hS => C_ref3_SameBoard x.b y.b x.A y.A x.b.st.length x.c y.b.st.length y.c w ((hS.old (ha x hxm)).get .ro) ((hS.old (hb y hym)).get .ro) (by omega) (by omega)) (h := ?_)
      refine nx (h := ?_)
      refine tk 9 (hy := notB) (h := ?_)
      refine dn (h := ?_)
      refine q_seq (h := ?_)
      refine cd (by exact rfl) (fun h2 => ?_) (fun h2 => ?_)
      · skip
        have hE : decide (za.map (·.b) = zb.map (·.b)) = false := decide_eq_false fun e => by
          have h1 : (za.map (·.b))[k]? = (zb.map (·.b))[k]? := by rw [e]
          rw [List.getElem?_map, List.getElem?_map, hx, hy] at h1
          have h2 : (!decide (x.b = y.b)) = true := h2
          have h3 : x.b = y.b := Option.some.inj h1
          rw [h3] at h2
          simp at h2
        refine sq (h := ?_)
        refine rg (h := ?_)
        refine WL.y (hy := asg) (h := ?_)
        refine nl (h := ?_)
        refine q_seq (h := ?_)
        refine rtn (h := ?_)
        refine q_blk_ret (h := ?_)
        refine q_then_ret (h := ?_)
        refine q_then_ret (h := ?_)
        refine q_blk_ret (h := ?_)
        refine q_then_ret (h := ?_)
        refine q_ret (hR := ?_)
        rw [hE]
        exact fun w hS => ⟨rfl, hS.sub (by repeat (first | exact SubL.nil | (apply SubL.cons; (repeat (first | exact At.here | apply At.there))) | exact SubL.refl _ | apply SubL.skip))⟩
      · skip
        have hxy : x.b = y.b := by have h2 : (!decide (x.b = y.b)) = false := h2; simpa using h2
        have hts : (za.map (·.b)).take (k + 1) = (zb.map (·.b)).take (k + 1) := by rw [List.take_add_one, List.take_add_one, htk, List.getElem?_map, List.getElem?_map, hx, hy, Option.map_some, Option.map_some, hxy]
        refine skp (h := ?_)
        refine q_blk_norm (h := ?_)
        refine q_seq (h := ?_)
        refine rg (h := ?_)
        refine WL.y (hy := mv) (h := ?_)
        refine WL.y (hy := addI) (h := ?_)
        refine WL.y (hy := asg) (h := ?_)
        refine WL.cut (by repeat (first | exact Cut.nil | apply Cut.hit | apply Cut.miss (by exact rfl))) ?_
        refine nl (h := ?_)
        refine rn (x := k) (k + 1) ⟨hkn, hts⟩ (by omega) (by repeat (first | exact trivial | refine ⟨rfl, ?_⟩)) (by repeat (first | exact SubL.nil | (apply SubL.cons; (repeat (first | exact At.here | apply At.there))) | exact SubL.refl _ | apply SubL.skip))
    · skip
      have hkn : k = n := by have := of_decide_eq_false h1; omega
      have hE : decide (za.map (·.b) = zb.map (·.b)) = true := decide_eq_true (same_brds htk (by rw [List.length_map, List.length_map]; omega) (by rw [List.length_map]; omega))
      refine et (h := ?_)
      refine q_then_exit (h := ?_)
      refine q_then_exit (h := ?_)
      refine q_blk_hit (h := ?_)
      refine q_seq (h := ?_)
      refine sq (h := ?_)
      refine rg (h := ?_)
      refine WL.y (hy := asg) (h := ?_)
      refine nl (h := ?_)
      refine q_seq (h := ?_)
      refine rtn (h := ?_)
      refine q_ret (hR := ?_)
      rw [hE]
      exact fun w hS => ⟨rfl, hS.sub (by repeat (first | exact SubL.nil | (apply SubL.cons; (repeat (first | exact At.here | apply At.there))) | exact SubL.refl _ | apply SubL.skip))⟩
theorem Rdy.sureE {f : Fmt} {cf : Int} {xs : List Nt} (h : Rdy f cf xs) {x : Nt} (hx : mkV x = true) (h3 : 3 ≤ x.kind) : sureE f cf xs x = posE f cf xs ∧ sureV f cf xs x = (decide (posE f cf xs = 0) && sureB f cf xs x) := by
  have e : Go.Proofs.YtpejgebcmhmpaaaGreat.sureE f cf xs x = posE f cf xs := by
    unfold Go.Proofs.YtpejgebcmhmpaaaGreat.sureE
    rw [decide_eq_true h.c, cond_true, decide_eq_false (show ¬ x.kind < 3 by omega), hx]; rfl
  exact ⟨e, by unfold sureV; rw [e]⟩
theorem TrM.st {f : Fmt} {cf first : Int} {xs : List Nt} {ps : List Int} {m : MS} (h : TrM f cf first xs ps m) (hM : MOk f cf first xs ps) (hf : f.Ok) : m.st.length ≤ 1000000 := by
  obtain ⟨m9, hm9⟩ := hM.pl
  have e9 : some m = some m9 := by
    have g9 := h.o
    unfold playO at g9
    rw [← hm9]
    cases hq : !decide (preE f first ps.length = 0)
    · rw [hq] at g9; exact g9.symm
    · rw [hq] at g9; cases g9
  cases e9
  have := (playTo_bd hf hM.fs (by have := hM.n; omega) hm9).s
  have := hM.n
  omega
theorem Rdy.more {f : Fmt} {cf : Int} {xs : List Nt} (h : Rdy f cf xs) {x : Nt} (hx : mkV x = true) (h3 : 3 ≤ x.kind) : chkC f cf (xs ++ [x]) = 0 ∧ mostS (xs ++ [x]) ≤ 20 ∧ (crowdC f cf (xs ++ [x])).length ≤ 4194304 := by
  obtain ⟨c1, c2, c3, c4, c5, c6⟩ := chk_facts h.c
  have hmk : ∀ y ∈ xs ++ [x], mkV y = true := fun y hy => by
    rcases List.mem_append.1 hy with hy | hy
    · exact h.mks y hy
    · rw [List.mem_singleton.1 hy]; exact hx
  have e1 : misS (xs ++ [x]) = misS xs := by
    unfold misS
    rw [List.map_append, List.sum_append]
    show _ + (misN x + 0) = _
    unfold misN
    rw [decide_eq_false (show ¬ x.kind = 2 by omega)]
    show _ + ((0 : Int) + 0) = _
    omega
  have e2 : mostS (xs ++ [x]) = mostS xs := by
    unfold mostS
    rw [List.map_append, List.sum_append]
    show _ + (mostN x + 0) = _
    unfold mostN
    rw [if_neg (by omega), if_neg (by omega)]
    omega
  have hl : (xs ++ [x]).length = xs.length + 1 := by rw [List.length_append]; rfl
  have h1 := h.n
  have h2 := h.m
  have h4 := h.mis
  obtain ⟨g1, g2, g3⟩ := exp_mis hmk
  have g4 := crowd_len f cf (xs ++ [x])
  have he : expS (xs ++ [x]) ≤ 21 := by omega
  have hp : 2 ^ expS (xs ++ [x]) ≤ 2 ^ 21 := Nat.pow_le_pow_right (by omega) he
  exact ⟨chk_of c1 c3 (by omega) hmk (by omega), by omega, by omega⟩
end Go.Proofs.YtpejgebcmhmpaaaGreat

namespace Go.Proofs.YtpejgebcmhmpaaaGreat
open Go Go.RowKit

theorem playTo_take {f : Fmt} {first : Int} {xs : List Int} {n : Nat} : ∀ {k : Nat}, k ≤ n → playTo f first (xs.take n) k = playTo f first xs k
  | 0, _ => rfl
  | k + 1, hk => by rw [playTo, playTo, playTo_take (n := n) (k := k) (by omega), List.getElem?_take, if_pos (by omega)]
theorem fit_snoc {f : Fmt} {first : Int} {ps : List Int} {xs : List Nt} {x : Nt} : ∀ {j n : Nat}, j ≤ xs.length → (Fit f first ps (xs ++ [x]) j n ↔ Fit f first ps xs j n)
  | 0, n, _ => Iff.rfl
  | j + 1, n, h => by
    show (∃ y m, (xs ++ [x])[j]? = some y ∧ Fit f first ps (xs ++ [x]) j m ∧ hitV f first ps y m n) ↔ ∃ y m, xs[j]? = some y ∧ Fit f first ps xs j m ∧ hitV f first ps y m n
    rw [List.getElem?_append_left (by omega)]
    exact ⟨fun ⟨y, m, a, b, c⟩ => ⟨y, m, a, (fit_snoc (by omega)).1 b, c⟩, fun ⟨y, m, a, b, c⟩ => ⟨y, m, a, (fit_snoc (by omega)).2 b, c⟩⟩
structure TcI (f : Fmt) (cf first : Int) (ps : List Int) (k : Nat) (ys : List Nt) (ex : Bool) : Prop where
  len : ys.length ≤ 2 * k
  fit : Fit f first ps ys ys.length k
  ex : ex = true → ∀ s ∈ keyC (crowdC f cf ys), s = spS f first ps k
section
variable {f : Fmt} {cf first : Int} {ps : List Int} {k : Nat} {ys : List Nt} {ex : Bool}
theorem TcI.start (h : ex = true → cf = first) (hf : first = 0 ∨ first = 1) : TcI f cf first ps 0 [] ex := by
  refine ⟨Nat.le_refl _, rfl, fun he s hs => ?_⟩
  have e := h he
  subst e
  obtain ⟨b, hb, hc, rfl⟩ := beg_cases hs
  have : cf = b := by omega
  subst this; rfl
theorem crowd_snoc {xs : List Nt} {x : Nt} {s : Spot} : s ∈ keyC (crowdC f cf (xs ++ [x])) ↔ ∃ t, t ∈ keyC (crowdC f cf xs) ∧ Rel f x t s := by
  unfold crowdC
  rw [List.foldl_append]
  exact after_mem
theorem TcI.add (h : TcI f cf first ps k ys ex) {x : Nt} {n : Nat} (hh : hitV f first ps x k n) (hl : ys.length + 1 ≤ 2 * n) {ey : Bool} (hx : ey = true → ex = true ∧ ∀ u, Rel f x (spS f first ps k) u → u = spS f first ps n) : TcI f cf first ps n (ys ++ [x]) ey := by
  refine ⟨by rw [List.length_append]; exact hl, ?_, fun he s hs => ?_⟩
  · rw [List.length_append]
    exact ⟨x, k, by rw [List.getElem?_append_right (Nat.le_refl _), Nat.sub_self]; rfl, (fit_snoc (Nat.le_refl _)).2 h.fit, hh⟩
  · obtain ⟨h1, h2⟩ := hx he
    obtain ⟨t, ht, hr⟩ := crowd_snoc.1 hs
    rw [h.ex h1 t ht] at hr
    exact h2 s hr
theorem TcI.point (h : TcI f cf first ps k ys ex) (hk : k < ps.length) (hc : CanP f first ps) {p : Int} (hp : ps[k]? = some p) : TcI f cf first ps (k + 1) (ys ++ [⟨1, p, (0, 0)⟩]) ex := by
  have hl := h.len
  refine h.add ?_ (by omega) fun he => ⟨he, fun u hu => ?_⟩
  · unfold hitV; rw [if_pos rfl]; exact ⟨rfl, by omega, .inr hp⟩
  · unfold Rel at hu
    rw [if_pos rfl] at hu
    obtain ⟨q, hq, hs, hn⟩ := hu
    have hpq : p = q := by
      rcases hs with hs | hs
      · have := (hc k p hp).1
        have hs : p = -1 := hs
        omega
      · exact hs
    subst hpq
    rw [can_nxt hc hp] at hn
    exact (Option.some.inj hn).symm
theorem TcI.some_ (h : TcI f cf first ps k ys ex) (hk : k < ps.length) : TcI f cf first ps (k + 1) (ys ++ [⟨1, -1, (0, 0)⟩]) false := by
  have hl := h.len
  refine h.add ?_ (by omega) fun he => by cases he
  unfold hitV; rw [if_pos rfl]; exact ⟨rfl, by omega, .inl rfl⟩
theorem TcI.miss (h : TcI f cf first ps k ys ex) (hk : k < ps.length) : TcI f cf first ps (k + 1) (ys ++ [⟨2, 0, (0, 1)⟩]) false := by
  have hl := h.len
  refine h.add ?_ (by omega) fun he => by cases he
  unfold hitV
  rw [if_neg (by decide), if_pos rfl]
  exact ⟨⟨by show (k : Int) + 0 ≤ _; omega, by show _ ≤ (k : Int) + 1; omega⟩, by omega, by omega⟩
theorem TcI.call (h : TcI f cf first ps k ys ex) (hl : ys.length + 1 ≤ 2 * k) {x : Nt} (h3 : 3 ≤ x.kind) (hh : holdS f x (spS f first ps k) = true) : TcI f cf first ps k (ys ++ [x]) ex := by
  refine h.add ?_ hl fun he => ⟨he, fun u hu => ?_⟩
  · unfold hitV; rw [if_neg (by omega), if_neg (by omega)]; exact ⟨rfl, hh⟩
  · unfold Rel at hu
    rw [if_neg (by omega), if_neg (by omega)] at hu
    exact hu.1.symm
end
end Go.Proofs.YtpejgebcmhmpaaaGreat

namespace Go.Proofs.YtpejgebcmhmpaaaGreat
open Go Go.RowKit

structure StA where
  (m : MS) (sA gA : Option Addr) (sc gc : Nat) (ps : List Int) (pA : Option Addr) (pc : Nat) (mn : Mn)
abbrev StA.cells (s : StA) : List Value := [.slice s.sA s.m.st.length s.sc, .int .i64 s.m.g.1, .int .i64 s.m.g.2, .int .i64 s.m.p.1, .int .i64 s.m.p.2, .int .i64 0, .int .i64 s.m.ends, .int .i64 s.m.balls, .int .i64 s.m.winner, .int .i64 s.m.first, .slice s.gA s.m.gs.length s.gc, .bool (freshV s.m.f s.m.ties), .slice s.pA s.ps.length s.pc, .int .i64 s.mn.1, .int .i64 s.mn.2.1, .int .i64 s.mn.2.2]
abbrev StA.val (s : StA) : Value := .agg s.cells.toArray
def encY (l : List StA) : List (List Value) := l.map StA.cells
theorem encY_at {l : List StA} {k : Nat} {s : StA} (h : l[k]? = some s) : (encY l)[k]? = some s.cells := by unfold encY; rw [List.getElem?_map, h]; rfl
theorem encY_set (l : List StA) (k : Nat) (s : StA) : (encY l).set k s.cells = encY (l.set k s) := by unfold encY; rw [List.map_set]
theorem encY_snoc (l : List StA) (s : StA) : encY l ++ [s.cells] = encY (l ++ [s]) := by unfold encY; rw [List.map_append]; rfl
def enA (s : StA) : En := (spotOf s.m, s.mn)
structure StK (f : Fmt) (K : Int) (U : List Row) (s : StA) : Prop where
  fs : s.m.first = 0 ∨ s.m.first = 1
  pl : playTo f s.m.first s.ps s.ps.length = some s.m
  n : (s.ps.length : Int) ≤ K
  us : (⟨s.sA, 2, s.m.st.length, encP s.m.st⟩ : Row) ∈ U
  ug : (⟨s.gA, 7, s.m.gs.length, encG s.m.gs⟩ : Row) ∈ U
  up : (⟨s.pA, 1, s.ps.length, encI s.ps⟩ : Row) ∈ U
  lo : 0 ≤ s.mn.1 ∧ s.mn.1 ≤ K
  hi : 0 ≤ s.mn.2.1 ∧ s.mn.2.1 ≤ K
  out : 0 ≤ s.mn.2.2 ∧ s.mn.2.2 ≤ 100
theorem StK.mono {f : Fmt} {K K' : Int} {U U' : List Row} {s : StA} (h : StK f K U s) (hK : K ≤ K') (hU : ∀ r ∈ U, r ∈ U') : StK f K' U' s :=
  ⟨h.fs, h.pl, by have := h.n; omega, hU _ h.us, hU _ h.ug, hU _ h.up, by have := h.lo; omega, by have := h.hi; omega, h.out⟩
theorem playTo_app {f : Fmt} {first : Int} {ps qs : List Int} {k : Nat} (h : k ≤ ps.length) : playTo f first (ps ++ qs) k = playTo f first ps k := by
  have := playTo_take (f := f) (first := first) (xs := ps ++ qs) (n := ps.length) h
  rw [List.take_left] at this
  exact this.symm
section
variable {f : Fmt} {K : Int} {U : List Row} {s : StA}
theorem StK.bd (hf : f.Ok) (h : StK f K U s) (hK : K ≤ 900) : s.m.Bd s.ps.length := playTo_bd hf h.fs (by have := h.n; omega) h.pl
theorem StK.inv (hf : f.Ok) (h : StK f K U s) : s.m.f = f ∧ (s.m.Inv ∨ s.m.Done) ∧ Rch s.m := ⟨(playTo_inv hf h.pl).1, (playTo_inv hf h.pl).2.2, playTo_rch hf h.pl⟩
theorem StK.go (hf : f.Ok) (h : StK f K U s) (hw : s.m.winner < 0) {p : Int} (hp : p = 0 ∨ p = 1) : s.m.Inv ∧ nxtS f (spotOf s.m) p = some (spotOf (pointV s.m p)) ∧ playTo f s.m.first (s.ps ++ [p]) (s.ps ++ [p]).length = some (pointV s.m p) ∧ (pointV s.m p).first = s.m.first := by
  obtain ⟨h1, h2, h3⟩ := h.inv hf
  have hi : s.m.Inv := h2.elim id fun hd => by have := hd.w; omega
  have h4 := (spot_step (h1 ▸ hf) hi h3.cnt hp).1
  rw [h1] at h4
  have h5 : playTo f s.m.first (s.ps ++ [p]) (s.ps ++ [p]).length = some (pointV s.m p) := by
    rw [List.length_append]
    show playTo f s.m.first (s.ps ++ [p]) (s.ps.length + 1) = _
    rw [playTo_succ (by rw [playTo_app (Nat.le_refl _)]; exact h.pl) (by rw [List.getElem?_append_right (Nat.le_refl _), Nat.sub_self]; rfl)]
    have hb : sideBad p = false := by rcases hp with rfl | rfl <;> rfl
    rw [hb, decide_eq_false (by omega)]; rfl
  exact ⟨hi, h4, h5, (playTo_inv hf h5).2.1⟩
theorem StK.stop (hf : f.Ok) (h : StK f K U s) (hw : ¬ s.m.winner < 0) (p : Int) : nxtS f (spotOf s.m) p = none := by
  obtain ⟨h1, h2, h3⟩ := h.inv hf
  rcases h3.inv with hi | ⟨_, ht, _⟩
  · have := hi.w; omega
  · have ht2 : topS (spotOf s.m) = f.sets := by rw [← h1]; exact ht
    rw [nxtS, decide_eq_true ht2]; rfl
end
def joinA (x s : StA) : StA := { x with mn := joinE x.mn s.mn }
def addS : List StA → StA → List StA
  | [], s => [s]
  | x :: l, s => if spotOf x.m = spotOf s.m then joinA x s :: l else x :: addS l s
theorem addS_en (l : List StA) (s : StA) : (addS l s).map enA = putC (l.map enA) (enA s) := by
  induction l with
  | nil => rfl
  | cons x l ih =>
    rw [addS, List.map_cons, putC]
    by_cases e : spotOf x.m = spotOf s.m
    · rw [if_pos e, if_pos (show (enA x).1 = (enA s).1 from e)]; rfl
    · rw [if_neg e, if_neg (show ¬ (enA x).1 = (enA s).1 from e), List.map_cons, ih]
theorem addS_hit {l : List StA} {s x : StA} {k : Nat} (hn : ∀ i y, i < k → l[i]? = some y → spotOf y.m ≠ spotOf s.m) (hx : l[k]? = some x) (he : spotOf x.m = spotOf s.m) : addS l s = l.set k (joinA x s) := by
  induction l generalizing k with
  | nil => simp at hx
  | cons y l ih =>
    rw [addS]
    cases k with
    | zero =>
      simp only [List.getElem?_cons_zero, Option.some.injEq] at hx
      subst hx
      rw [if_pos he]; rfl
    | succ k =>
      rw [if_neg (hn 0 y (Nat.succ_pos k) rfl), List.set_cons_succ, ih (k := k) (fun i z hi hz => hn (i + 1) z (by omega) (by simpa using hz)) (by simpa using hx)]
theorem addS_miss {l : List StA} {s : StA} (hn : ∀ y ∈ l, spotOf y.m ≠ spotOf s.m) : addS l s = l ++ [s] := by
  induction l with
  | nil => rfl
  | cons y l ih => rw [addS, if_neg (hn y (by simp)), ih fun z hz => hn z (by simp [hz])]; rfl
theorem addS_ok {f : Fmt} {K : Int} {U : List Row} {l : List StA} {s : StA} (h : ∀ x ∈ l, StK f K U x) (hs : StK f K U s) : ∀ x ∈ addS l s, StK f K U x := by
  induction l with
  | nil => exact fun x hx => by rw [List.mem_singleton.1 hx]; exact hs
  | cons y l ih =>
    intro x hx
    rw [addS] at hx
    by_cases e : spotOf y.m = spotOf s.m
    · rw [if_pos e] at hx
      rcases List.mem_cons.1 hx with rfl | hx
      · have h1 := h y (by simp)
        have a1 := h1.lo
        have a2 := h1.hi
        have a3 := h1.out
        have b1 := hs.lo
        have b2 := hs.hi
        have b3 := hs.out
        exact ⟨h1.fs, h1.pl, h1.n, h1.us, h1.ug, h1.up, by show 0 ≤ min y.mn.1 s.mn.1 ∧ min y.mn.1 s.mn.1 ≤ K; omega, by show 0 ≤ max y.mn.2.1 s.mn.2.1 ∧ max y.mn.2.1 s.mn.2.1 ≤ K; omega, by show 0 ≤ min y.mn.2.2 s.mn.2.2 ∧ min y.mn.2.2 s.mn.2.2 ≤ 100; omega⟩
      · exact h x (by simp [hx])
    · rw [if_neg e] at hx
      rcases List.mem_cons.1 hx with rfl | hx
      · exact h x (by simp)
      · exact ih (fun z hz => h z (by simp [hz])) x hx
theorem spot_eq {m m' : MS} : spotOf m = spotOf m' ↔ m.first = m'.first ∧ (⟨m.st, m.g, m.p⟩ : Brd) = ⟨m'.st, m'.g, m'.p⟩ := by
  unfold spotOf
  constructor
  · intro h
    injection h with h1 h2 h3 h4
    rw [h1, h2, h3, h4]; exact ⟨rfl, rfl⟩
  · rintro ⟨h1, h2⟩
    injection h2 with h2 h3 h4
    rw [h1, h2, h3, h4]
end Go.Proofs.YtpejgebcmhmpaaaGreat
