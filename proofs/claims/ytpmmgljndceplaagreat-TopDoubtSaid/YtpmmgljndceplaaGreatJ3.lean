/- The texts of the walk, part 3. -/
import Derived.Test.YtpmmgljndceplaaGreatJ2
import Derived.Laws.MakeOwn
import Derived.Maps.RangeRun
namespace Go.Proofs.YtpmmgljndceplaaGreat
open Go Go.RowKit

theorem C_IndexFuncP {A : Option Addr} {n c : Nat} {es : List (List Value)} {g : FuncId} (hg : FnOk Tryz.prog g) (fi cap : List Value) (Lp : List Ent) (p : Nat → Bool) (hn : n ≤ 9223372036854775807)
    (hp : ∀ k cs, es[k]? = some cs → Tr Tryz.prog g (fi ++ [.agg cs.toArray] ++ cap) (.ro A 2 n es :: Lp) (fun _ : Unit => True) (fun _ => .bool (p k)) (fun _ => .ro A 2 n es :: Lp)) :
    Tr Tryz.prog 117 [.slice A n c, .func (.func g) fi.toArray cap.toArray] (.ro A 2 n es :: Lp) (Fst p n) (fun j => .int .i64 j) (fun _ => .ro A 2 n es :: Lp) := by
  refine ⟨fun w0 w R hst => ?_⟩
  have hlen : es.length = n := (hst.ok (.ro A 2 n es) (by simp)).len
  refine en Tryz.func117 Tryz.ntmps117 hst (h := fun F => ?_)
  refine sq (h := ?_)
  refine rg (h := ?_)
  refine wy asg ?_
  refine nl (h := ?_)
  refine q_seq (h := ?_)
  refine sq (h := ?_)
  refine sq (h := ?_)
  refine rg (h := ?_)
  refine wy mv ?_
  refine wy lenS ?_
  refine wy mv ?_
  refine nl (h := ?_)
  refine q_seq (h := ?_)
  refine bk (h := ?_)
  refine lp (X := Nat) (I := fun k => k ≤ n ∧ ∀ i, i < k → p i = false) (le := fun k => [(0, .slice A n c), (1, .func (.func g) fi.toArray cap.toArray), (7, .int .i64 n), (8, .int .i64 k)]) (Le := fun _ => .ro A 2 n es :: (Lp ++ R)) (μ := fun k => n - k) 0 ⟨by omega, fun i hi => by omega⟩ sbz_ (SubL.refl _) (fun k hk => ?_)
  obtain ⟨hk, hall⟩ := hk
  refine sq (h := ?_)
  refine rg (h := ?_)
  refine wy lss ?_
  refine nl (h := ?_)
  refine q_seq (h := ?_)
  refine sq (h := ?_)
  refine cd (by exact rfl) (fun h0 => ?_) (fun h0 => ?_)
  · skip
    have hkn : k < n := by simp only [decide_eq_true_eq] at h0; omega
    have hes : es[k]? = some es[k] := List.getElem?_eq_getElem (by omega)
    refine skp (h := ?_)
    refine q_seq (h := ?_)
    refine sq (h := ?_)
    refine bk (h := ?_)
    refine sq (h := ?_)
    refine rg (h := ?_)
    refine wy mv ?_
    refine wy asg ?_
    refine nl (h := ?_)
    refine q_seq (h := ?_)
    refine sq (h := ?_)
    refine rg (h := ?_)
    refine wy mv ?_
    refine wy mv ?_
    refine wy mv ?_
    refine wy ix ?_
    refine wy (ldEW (k := k) (cs := es[k]) (hk := hes)) ?_
    refine clfT hg (fi := fi) (cap := cap) (by exact rfl) (by repeat (first | exact Evs.nil | (apply Evs.cons; exact rfl))) (hp k _ hes) rfl (Spl.cons .here (Spl.app _ _)) (h := fun _ _ => ?_)
    refine nl (h := ?_)
    refine q_seq (h := ?_)
    refine cd (by exact rfl) (fun h1 => ?_) (fun h1 => ?_)
    · skip
      refine sq (h := ?_)
      refine rg (h := ?_)
      refine wy mv ?_
      refine wy asg ?_
      refine nl (h := ?_)
      refine q_seq (h := ?_)
      refine rtn (h := ?_)
      refine q_blk_ret (h := ?_)
      refine q_then_ret (h := ?_)
      refine q_then_ret (h := ?_)
      refine q_blk_ret (h := ?_)
      refine q_then_ret (h := ?_)
      refine q_ret (hR := ?_)
      exact fun w hS => ⟨_, .inl ⟨k, hkn, rfl, by assumption, hall⟩, rfl, hS⟩
    · skip
      refine skp (h := ?_)
      refine q_blk_norm (h := ?_)
      refine q_seq (h := ?_)
      refine rg (h := ?_)
      refine wy addI ?_
      refine wy mv ?_
      refine nl (h := ?_)
      refine rn (k + 1) ⟨by omega, fun i hi => ?_⟩ (by omega) sbz_ (SubL.refl _)
      rcases Nat.lt_succ_iff_lt_or_eq.1 hi with h | rfl
      · exact hall i h
      · assumption
  · skip
    have hkn : k = n := by simp only [decide_eq_false_iff_not] at h0; omega
    refine et (h := ?_)
    refine q_then_exit (h := ?_)
    refine q_then_exit (h := ?_)
    refine q_blk_hit (h := ?_)
    refine q_seq (h := ?_)
    refine sq (h := ?_)
    refine rg (h := ?_)
    refine wy asg ?_
    refine nl (h := ?_)
    refine q_seq (h := ?_)
    refine rtn (h := ?_)
    refine q_ret (hR := ?_)
    exact fun w hS => ⟨_, .inr ⟨rfl, by subst hkn; exact hall⟩, rfl, hS⟩

theorem C_ContainsFuncP {A : Option Addr} {n c : Nat} {es : List (List Value)} {g : FuncId} (hg : FnOk Tryz.prog g) (fi cap : List Value) (Lp : List Ent) (p : Nat → Bool) (hn : n ≤ 9223372036854775807)
    (hp : ∀ k cs, es[k]? = some cs → Tr Tryz.prog g (fi ++ [.agg cs.toArray] ++ cap) (.ro A 2 n es :: Lp) (fun _ : Unit => True) (fun _ => .bool (p k)) (fun _ => .ro A 2 n es :: Lp)) :
    Tr Tryz.prog 75 [.slice A n c, .func (.func g) fi.toArray cap.toArray] (.ro A 2 n es :: Lp) (fun _ : Unit => True) (fun _ => .bool ((List.range n).any p)) (fun _ => .ro A 2 n es :: Lp) := by
  refine ⟨fun w0 w R hst => ?_⟩
  refine en Tryz.func75 Tryz.ntmps75 hst (h := fun F => ?_)
  refine sq (h := ?_)
  refine rg (h := ?_)
  refine wy asg ?_
  refine nl (h := ?_)
  refine q_seq (h := ?_)
  refine sq (h := ?_)
  refine rg (h := ?_)
  refine wy mv ?_
  refine wy mv ?_
  refine clT (hc := C_IndexFuncP hg fi cap Lp p hn hp) (hs := Spl.cons .here (Spl.app _ _)) (h := fun x0 hx0 => ?_)
  refine wy geq ?_
  refine wy asg ?_
  refine nl (h := ?_)
  refine q_seq (h := ?_)
  refine rtn (h := ?_)
  refine q_ret (hR := ?_)
  exact fun w hS => ⟨(), trivial, by simp only [resV, hx0.any], hS⟩

theorem C_ClonePairs (A : Option Addr) (n c : Nat) (es : List (List Value)) (w : World) (h : Rd w A 2 n es) (hn : n ≤ 100000000) :
    CR Tryz.prog 68 [.slice A n c] w (fun _ : Option Addr × Nat => True) (fun p => .slice p.1 n p.2) (fun p => [.own p.1 p.2 38 2 n es]) := by
  refine ⟨en Tryz.func68 Tryz.ntmps68 ((St.init w).share (e := .ro A 2 n es) h rfl rfl rfl) (h := fun F => ?_)⟩
  refine sq (h := ?_)
  refine rg (h := ?_)
  refine wy asg ?_
  refine WL.nilOwn 38 2 (h := ?_)
  refine nl (h := ?_)
  refine q_seq (h := ?_)
  refine sq (h := ?_)
  refine sq (h := ?_)
  refine rg (h := ?_)
  refine wy mv ?_
  refine wy eqlN ?_
  refine nl (h := ?_)
  refine q_seq (h := ?_)
  refine cd (by exact rfl) (fun h0 => ?_) (fun h0 => ?_)
  · skip
    refine sq (h := ?_)
    refine rg (h := ?_)
    refine wy asg ?_
    refine nl (h := ?_)
    refine q_seq (h := ?_)
    refine rtn (h := ?_)
    refine q_then_ret (h := ?_)
    refine q_ret (hR := ?_)
    have hn0 : n = 0 := by
      rcases Nat.eq_zero_or_pos n with e | e
      · exact e
      · obtain ⟨ad, rfl⟩ := h.some_ e
        cases h0
    have hes : es = [] := by have := h.len; rw [hn0] at this; exact List.length_eq_zero_iff.1 this
    exact fun w hS => ⟨(none, 0), trivial, by rw [hn0]; rfl, by rw [hn0, hes]; exact hS.sub slz_⟩
  · skip
    refine skp (h := ?_)
    refine q_seq (h := ?_)
    refine sq (h := ?_)
    refine rg (h := ?_)
    refine bs (h := fun b0 => ?_)
    refine wy mv ?_
    first | refine ap (h := fun A1 c1 => ?_) | refine ap0 (h := fun A1 c1 => ?_)
    refine wy asg ?_
    refine nl (h := ?_)
    refine q_seq (h := ?_)
    refine rtn (h := ?_)
    refine q_ret (hR := ?_)
    exact fun w hS => ⟨(_, _), trivial, by simp only [Nat.zero_add]; rfl, by simp only [Nat.zero_add, List.nil_append] at hS; exact hS.sub slz_⟩

structure Brd where
  (st : List Pr) (g p : Pr)
abbrev Brd.val (b : Brd) (A : Option Addr) (n c : Nat) : Value := .agg #[.slice A n c, .int .i64 b.g.1, .int .i64 b.g.2, .int .i64 b.p.1, .int .i64 b.p.2]
abbrev Brd.cells (b : Brd) (A : Option Addr) (n c : Nat) : List Value := [.slice A n c, .int .i64 b.g.1, .int .i64 b.g.2, .int .i64 b.p.1, .int .i64 b.p.2]
def Brd.all (b : Brd) : List Pr := b.st ++ [b.g, b.p]
def fitP (p : Pr) : Bool := wi p.1 0 40 && wi p.2 0 40
def brdOk (b : Brd) : Bool := decide ((b.st.length : Int) ≤ 5) && !(b.all.any fun p => !fitP p)

theorem C_isBoard1 (p : Pr) (w : World) : C0 Tryz.prog 74 [pv p] w (.bool (fitP p)) := by
  refine ⟨en Tryz.func74 Tryz.ntmps74 (St.init w) (h := fun F => ?_)⟩
  refine sq (h := ?_)
  refine rg (h := ?_)
  refine bxA (h := fun b0 => ?_)
  refine wy asg ?_
  refine nl (h := ?_)
  refine q_seq (h := ?_)
  refine sq (h := ?_)
  refine rg (h := ?_)
  refine wy (by first | exact fa | exact faE) ?_
  refine wy (by first | exact ld | exact ldE) ?_
  refine cl0 (hc := fun w hS => C_score_within ..) (h := ?_)
  refine wy mv ?_
  apply brAnd 4 6 10 (by exact rfl)
  · intro hb0
    refine un (h := ?_)
    refine wy (by first | exact fa | exact faE) ?_
    refine un (h := ?_)
    refine wy (by first | exact ld | exact ldE) ?_
    refine un (h := ?_)
    refine cl0 (hc := fun w hS => C_score_within ..) (h := ?_)
    refine wy (by first | exact pkT | exact pkF) ?_
    exact mg (by repeat (first | exact trivial | refine ⟨rfl, ?_⟩ | refine ⟨by rw [hb0]; rfl, ?_⟩)) slz_
  · intro hb0
    repeat (first | refine un (h := ?_) | refine sk (h := ?_) | refine WL.y (hy := pkF) (h := ?_) | refine WL.y (hy := pkT) (h := ?_))
    exact mg (by repeat (first | exact trivial | refine ⟨rfl, ?_⟩ | refine ⟨by rw [hb0]; rfl, ?_⟩)) slz_
  refine wy asg ?_
  refine nl (h := ?_)
  refine q_seq (h := ?_)
  refine rtn (h := ?_)
  refine q_ret (hR := ?_)
  exact fun w hS => ⟨rfl, hS.sub slz_⟩
theorem T_isBoard2 (p : Pr) (a0 : Nat) (Le : Ent) : Tr Tryz.prog 77 [pv p, .pointer (some ⟨a0, 0, none⟩)] [Le, .blk a0 160 [.func (.func 74) #[] #[]]] (fun _ : Unit => True) (fun _ => .bool (!fitP p)) (fun _ => [Le, .blk a0 160 [.func (.func 74) #[] #[]]]) := by
  refine ⟨fun w0 w R hst => ?_⟩
  refine en Tryz.func77 Tryz.ntmps77 hst (h := fun F => ?_)
  refine sq (h := ?_)
  refine rg (h := ?_)
  refine bxA (h := fun b0 => ?_)
  refine wy asg ?_
  refine nl (h := ?_)
  refine q_seq (h := ?_)
  refine sq (h := ?_)
  refine rg (h := ?_)
  refine wy (by first | exact ld | exact ldE) ?_
  refine wy (by first | exact ldA | exact ldEA) ?_
  refine clfT inferInstance (fi := []) (cap := []) (by exact rfl) (by repeat (first | exact Evs.nil | (apply Evs.cons; exact rfl))) (C0.tr [] (C_isBoard1 p)) rfl Spl.nil (h := fun _ _ => ?_)
  refine wy notB ?_
  refine wy asg ?_
  refine nl (h := ?_)
  refine q_seq (h := ?_)
  refine rtn (h := ?_)
  refine q_ret (hR := ?_)
  exact fun w hS => ⟨(), trivial, rfl, hS.sub slz_⟩

theorem C_score_pairs (b : Brd) (A : Option Addr) (n c : Nat) (w : World) (h : Rd w A 2 n (encP b.st)) (hn : n ≤ 1000000) :
    CR Tryz.prog 76 [b.val A n c] w (fun _ : Option Addr × Nat => True) (fun p => .slice p.1 (n + 2) p.2) (fun p => [.own p.1 p.2 38 2 (n + 2) (encP b.all)]) := by
  have he : encP b.all = encP b.st ++ [[.int .i64 b.g.1, .int .i64 b.g.2], [.int .i64 b.p.1, .int .i64 b.p.2]] := by simp [encP, Brd.all]
  refine ⟨en Tryz.func76 Tryz.ntmps76 ((St.init w).share (e := .ro A 2 n (encP b.st)) h rfl rfl rfl) (h := fun F => ?_)⟩
  refine sq (h := ?_)
  refine rg (h := ?_)
  refine bxA (h := fun b0 => ?_)
  refine wy asg ?_
  refine nl (h := ?_)
  refine q_seq (h := ?_)
  refine sq (h := ?_)
  refine rgD0 (by kernel_rfl) (h := ?_)
  refine tk 0 (hy := (by first | exact fa | exact faE)) (h := ?_)
  refine tk 1 (hy := (by first | exact ld | exact ldE)) (h := ?_)
  refine tk 3 (hy := (by first | exact fa | exact faE)) (h := ?_)
  refine tk 4 (hy := (by first | exact ldA | exact ldEA)) (h := ?_)
  refine tk 5 (hy := (by first | exact fa | exact faE)) (h := ?_)
  refine tk 6 (hy := (by first | exact ldA | exact ldEA)) (h := ?_)
  refine two 2 7 (h1 := ?_) (h2 := ?_)
  · skip
    refine cl (hc := fun w hS => C_ClonePairs A n c (encP b.st) w (hS.get rdz_) (by omega)) (h := fun x0 _ => ?_)
    refine nx (h := ?_)
    refine one 7 (h := ?_)
    refine bs (h := fun b1 => ?_)
    refine nx (h := ?_)
    refine one 8 (h := ?_)
    first | refine ap (h := fun A1 c1 => ?_) | refine ap0 (h := fun A1 c1 => ?_)
    refine nx (h := ?_)
    refine tk 9 (hy := asg) (h := ?_)
    refine dn (h := ?_)
    refine q_seq (h := ?_)
    refine rtn (h := ?_)
    refine q_ret (hR := ?_)
    rw [he]
    exact fun w hS => ⟨(_, _), trivial, rfl, hS.sub slz_⟩
  · skip
    refine bs (h := fun b2 => ?_)
    refine nx (h := ?_)
    refine one 2 (h := ?_)
    refine cl (hc := fun w hS => C_ClonePairs A n c (encP b.st) w (hS.get rdz_) (by omega)) (h := fun x0 _ => ?_)
    refine nx (h := ?_)
    refine one 8 (h := ?_)
    first | refine ap (h := fun A2 c2 => ?_) | refine ap0 (h := fun A2 c2 => ?_)
    refine nx (h := ?_)
    refine tk 9 (hy := asg) (h := ?_)
    refine dn (h := ?_)
    refine q_seq (h := ?_)
    refine rtn (h := ?_)
    refine q_ret (hR := ?_)
    rw [he]
    exact fun w hS => ⟨(_, _), trivial, rfl, hS.sub slz_⟩

set_option maxRecDepth 100000 in
theorem C_isBoard (b : Brd) (A : Option Addr) (n c : Nat) (w : World) (h : Rd w A 2 n (encP b.st)) (hn : n ≤ 9223372036854775807) : C0 Tryz.prog 48 [b.val A n c] w (.bool (brdOk b)) := by
  have hlen : b.st.length = n := by have := h.len; simpa [encP] using this
  have hal : b.all.length = n + 2 := by simp [Brd.all, hlen]
  refine ⟨en Tryz.func48 Tryz.ntmps48 ((St.init w).share (e := .ro A 2 n (encP b.st)) h rfl rfl rfl) (h := fun F => ?_)⟩
  refine sq (h := ?_)
  refine rg (h := ?_)
  refine bxA (h := fun b0 => ?_)
  refine wy asg ?_
  refine nl (h := ?_)
  refine q_seq (h := ?_)
  refine sq (h := ?_)
  refine rg (h := ?_)
  refine al (h := fun b1 => ?_)
  first | refine st (h := ?_) | refine stE (h := ?_)
  refine nl (h := ?_)
  refine q_seq (h := ?_)
  refine sq (h := ?_)
  refine rg (h := ?_)
  refine wy (by first | exact fa | exact faE) ?_
  refine wy (by first | exact ld | exact ldE) ?_
  refine wy lenS ?_
  refine wy leq ?_
  refine wy mv ?_
  apply brAnd 6 8 14 (by exact rfl)
  · intro hb0
    have hn5 : n ≤ 5 := by simp only [decide_eq_true_eq] at hb0; omega
    refine un (h := ?_)
    refine wy (by first | exact ldA | exact ldEA) ?_
    refine un (h := ?_)
    refine cl (hc := fun w hS => C_score_pairs b A n c w (hS.get rdz_) (by omega)) (h := fun x0 _ => ?_)
    refine un (h := ?_)
    refine wy mkf ?_
    refine un (h := ?_)
    refine WL.toRo (A := x0.1) atz_ (h := ?_)
    refine clT (hc := C_ContainsFuncP (A := x0.1) (n := n + 2) (c := x0.2) (es := encP b.all) (g := 77) inferInstance [] [.pointer (some ⟨b1, 0, none⟩)] [.blk b1 160 [.func (.func 74) #[] #[]]] (pAt b.all fun p => !fitP p) (by omega) (fun k cs hk => by
      obtain ⟨p, hp, rfl⟩ := enc_at hk
      rw [pAt_eq hp]
      exact T_isBoard2 p b1 _)) (hs := by repeat (first | exact Spl.nil | (apply Spl.cons; (repeat (first | exact At.here | apply At.there))))) (h := fun _ _ => ?_)
    rw [← hal, pAt_any]
    refine un (h := ?_)
    refine wy notB ?_
    refine wy (by first | exact pkT | exact pkF) ?_
    exact mg (by repeat (first | exact trivial | refine ⟨rfl, ?_⟩ | refine ⟨by rw [hb0]; rfl, ?_⟩)) slz_
  · intro hb0
    repeat (first | refine un (h := ?_) | refine sk (h := ?_) | refine WL.y (hy := pkF) (h := ?_) | refine WL.y (hy := pkT) (h := ?_))
    exact mg (by repeat (first | exact trivial | refine ⟨rfl, ?_⟩ | refine ⟨by rw [hb0]; rfl, ?_⟩)) slz_
  refine wy asg ?_
  refine nl (h := ?_)
  refine q_seq (h := ?_)
  refine rtn (h := ?_)
  refine q_ret (hR := ?_)
  exact fun w hS => ⟨by rw [brdOk, hlen]; rfl, hS.sub slz_⟩
end Go.Proofs.YtpmmgljndceplaaGreat

namespace Go.Proofs.YtpmmgljndceplaaGreat
open Go Go.RowKit

abbrev i2 : List Sp := [.int .i64, .int .i64]
end Go.Proofs.YtpmmgljndceplaaGreat

namespace Go.Proofs.YtpmmgljndceplaaGreat
open Go Go.RowKit

section
variable {P : Program} {n : Nat} {D : List Deferred} {l : Env} {w0 : World} {L : List Ent} {op : Op}
theorem Yd.tr {b : Bool} (h : Yd P n D l w0 L op (.bool b)) (hb : b = true) : Yd P n D l w0 L op (.bool true) := hb ▸ h
theorem Yd.fl {b : Bool} (h : Yd P n D l w0 L op (.bool b)) (hb : b = false) : Yd P n D l w0 L op (.bool false) := hb ▸ h
theorem Yd.to {v v' : Value} (h : Yd P n D l w0 L op v) (hb : v = v') : Yd P n D l w0 L op v' := hb ▸ h
end

section
variable {P : Program}
end
section rules
variable {F : Fence} {P : Program} {ops : Array Oper} {Q : Exit → Act → World → Prop} {rest : List Oper} {n : Nat} {D : List Deferred} {l : Env} {w0 : World} {L M : List Ent}
variable {d : Nat} {ty : TypeId} {pos : String} {aft : Array Edge}
end rules
end Go.Proofs.YtpmmgljndceplaaGreat

namespace Go.Proofs.YtpmmgljndceplaaGreat
open Go Go.RowKit

theorem made_flat (zl : List Value) (hpos : 0 < zl.length) (n : Nat) : (madeCells zl.toArray (n * zl.length)).toList = (List.replicate n zl).flatten := by
  refine List.ext_getElem? fun i => ?_
  have hes : ∀ c ∈ List.replicate n zl, c.length = zl.length := fun c hc => by rw [(List.mem_replicate.1 hc).2]
  have hfl : (List.replicate n zl).flatten.length = n * zl.length := by rw [flatten_len hes, List.length_replicate]
  by_cases hi : i < n * zl.length
  · have hk : i / zl.length < n := (Nat.div_lt_iff_lt_mul hpos).2 hi
    have hj : i % zl.length < zl.length := Nat.mod_lt _ hpos
    have h1 := flatten_get hes (k := i / zl.length) (cs := zl) (j := i % zl.length) (v := zl[i % zl.length]) (by simp [hk]) (List.getElem?_eq_getElem hj)
    rw [Nat.div_add_mod'] at h1
    rw [h1]
    simp [madeCells, hi, hj]
  · have h2 : (madeCells zl.toArray (n * zl.length)).toList.length = n * zl.length := by simp [madeCells]
    rw [List.getElem?_eq_none (by rw [h2]; omega), List.getElem?_eq_none (by rw [hfl]; omega)]

section rules
variable {F : Fence} {P : Program} {ops : Array Oper} {Q : Exit → Act → World → Prop} {rest : List Oper} {n : Nat} {D : List Deferred} {l : Env} {w0 : World} {L M : List Ent}
variable {d : Nat} {ty : TypeId} {pos : String} {aft : Array Edge}

theorem mks {x y : Operand} {t T : TypeId} (m : Nat) (hT : SliceTy P t T := by infer_instance) {agg : Bool} {size bytes : Nat} {z : Value} {zl : List Value} (hE : Ty P T agg size bytes z zl := by infer_instance) {kl kc : IntKind} (hx : ev l x = some (.int kl (m : Int)) := by exact rfl) (hy : ev l y = some (.int kc (m : Int)) := by exact rfl)
    (hb : bytes * m ≤ 281474976710656 := by omega) (hlm : m ≤ 9223372036854775807 := by omega) (hpos : 0 < size := by omega) (h1 : zl.all (·.oneCell') = true := by rfl) (hd : Nat.blt d n = true := by rfl)
    (h : ∀ b, WL F P ops Q rest n D ((d, .slice (some ⟨b, 0, none⟩) m m) :: l) w0 (.own (some ⟨b, 0, none⟩) m T size m (List.replicate m zl) :: L)) : WL F P ops Q (⟨some d, .makeSlice t x y, ty, pos, aft, none⟩ :: rest) n D l w0 L :=
  WL.value (X := Nat) (φ := fun _ => True) (val := fun b => .slice (some ⟨b, 0, none⟩) m m) (L' := fun b => .own (some ⟨b, 0, none⟩) m T size m (List.replicate m zl) :: L) (by simp) hd (fun ac w hfr hst => by
    obtain ⟨i, hi, hi1, hi2, h3⟩ := ty_info hE
    have hzl : zl.length = size := hE.zs
    have hes : ∀ c ∈ List.replicate m zl, c.length = size := fun c hc => by rw [(List.mem_replicate.1 hc).2, hzl]
    have hfl := flatten_len hes
    rw [List.length_replicate] at hfl
    have hmade : madeCells z.cells (m * i.size) = (List.replicate m zl).flatten.toArray := by
      rw [hi1, hE.zc, ← hzl]
      exact Array.toList_inj.1 (by rw [made_flat zl (by omega) m])
    have hrun := run_make (P := P) (w := w) t T i z hT.und hi h3 kl kc (m : Int) (m : Int) (by omega) (Int.le_refl _) (by rw [hi2, ← Int.natCast_mul]; omega) (by omega)
    rw [Int.toNat_natCast, hmade] at hrun
    refine ⟨w.heap.size, w.alloc (.cells (List.replicate m zl).flatten.toArray T), trivial, ?_, ?_⟩
    · simp [execOp, hfr.eval hx, hfr.eval hy, hrun]
    · have hone : ∀ c ∈ List.replicate m zl, ∀ v ∈ c, v.oneCell' = true := fun c hc v hv => by
        rw [(List.mem_replicate.1 hc).2] at hv
        exact List.all_eq_true.1 h1 v hv
      have hown : (w.alloc (.cells (List.replicate m zl).flatten.toArray T)).ownsRow 0 T size (.slice (some ⟨w.heap.size, 0, none⟩) m m) m (List.replicate m zl).flatten :=
        ⟨by rw [hfl], .inr ⟨w.heap.size, m, (List.replicate m zl).flatten.toArray, rfl, Nat.zero_le _, heap_alloc_new w _, Nat.le_refl _, by simp only [maxLen]; omega, by simp [hfl], by rw [← hfl]; exact List.take_length⟩⟩
      refine St.add (M := [_]) hst ((Blw.refl _ w).alloc (Nat.le_refl _) _) (fun e he => ?_) (fun e he b hb' => ?_) (List.pairwise_singleton _ _)
      · simp only [List.mem_singleton] at he; subst he
        exact ⟨hown, rd_own hown (by simp) hes hone⟩
      · simp only [List.mem_singleton] at he; subst he
        obtain ⟨ad, had, rfl⟩ := hb'
        injection had with had; subst had; exact Nat.le_refl _) (fun b _ => h b)
end rules
end Go.Proofs.YtpmmgljndceplaaGreat

namespace Go.Proofs.YtpmmgljndceplaaGreat
open Go Go.RowKit

inductive Cut (d : Nat) : Env → Env → Prop
  | nil : Cut d [] []
  | hit {v : Value} {l l' : Env} (h : Cut d l l') : Cut d ((d, v) :: l) l'
  | miss {i : Nat} {v : Value} {l l' : Env} (hn : Nat.beq i d = false) (h : Cut d l l') : Cut d ((i, v) :: l) ((i, v) :: l')
theorem Cut.out {d : Nat} {l l' : Env} (h : Cut d l l') : ∀ k, k ≠ d → look l' k = look l k := by
  induction h with
  | nil => exact fun _ _ => rfl
  | hit _ ih => exact fun k hk => by rw [look_cons, if_neg (fun e => hk e.symm), ih k hk]
  | miss _ _ ih => exact fun k hk => by rw [look_cons, look_cons, ih k hk]
theorem Cut.fr {a : Act} {n : Nat} {D : List Deferred} {d : Nat} {v : Value} {l l' : Env} (h : Cut d l l') (hf : Fr a n D ((d, v) :: l)) : Fr a n D ((d, v) :: l') := by
  refine ⟨hf.size, fun k u hk => hf.slot k u ?_, hf.defers⟩
  rw [look_cons] at hk ⊢
  by_cases e : d = k
  · rw [if_pos e] at hk ⊢; exact hk
  · rw [if_neg e] at hk ⊢
    rw [← h.out k (fun x => e x.symm)]; exact hk
theorem WL.cut {F : Fence} {P : Program} {ops : Array Oper} {Q : Exit → Act → World → Prop} {rest : List Oper} {n : Nat} {D : List Deferred} {l l' : Env} {w0 : World} {L : List Ent} {d : Nat} {v : Value} (hc : Cut d l l') (h : WL F P ops Q rest n D ((d, v) :: l') w0 L) : WL F P ops Q rest n D ((d, v) :: l) w0 L :=
  fun hF a w hfr hst => h hF a w (hc.fr hfr) hst

theorem WC.cut {F : Fence} {P : Program} {c : Code} {Q : Exit → Act → World → Prop} {n : Nat} {D : List Deferred} {l l' : Env} {w0 : World} {L : List Ent} (d : Nat) {v : Value} (hv : look l d = some v) (hc : Cut d l l') (h : WC F P c Q n D ((d, v) :: l') w0 L) : WC F P c Q n D l w0 L :=
  fun hF a w hfr hst => h hF a w ⟨hfr.size, fun k u hk => by
    rw [look_cons] at hk
    by_cases e : d = k
    · subst e
      rw [if_pos rfl] at hk
      cases hk
      exact hfr.slot d v hv
    · rw [if_neg e, hc.out k (fun x => e x.symm)] at hk
      exact hfr.slot k u hk, hfr.defers⟩ hst
theorem clf0 {F : Fence} {P : Program} {ops : Array Oper} {Q : Exit → Act → World → Prop} {rest : List Oper} {n : Nat} {D : List Deferred} {l : Env} {w0 : World} {L : List Ent} {d : Nat} {ty : TypeId} {pos : String} {aft : Array Edge} {f : FuncId} (hf : FnOk P f := by infer_instance) {x : Operand} {fi cap : List Value} {xs : List Operand} {vs : List Value} {ts : Array TypeId} {v : Value}
    (hx : ev l x = some (.func (.func f) fi.toArray cap.toArray) := by exact rfl) (hargs : Evs l xs vs := by repeat (first | exact Evs.nil | (apply Evs.cons; exact rfl))) (hc : ∀ w, St w0 w L → C0 P f (fi ++ vs ++ cap) w v) (hd : Nat.blt d n = true := by rfl) (h : WL F P ops Q rest n D ((d, v) :: l) w0 L) :
    WL F P ops Q (⟨some d, .call { callee := .value x, args := xs.toArray, argTypes := ts }, ty, pos, aft, none⟩ :: rest) n D l w0 L :=
  WL.enter (by simp) hd fun a w hfr hst => ⟨run_callF hf hx hargs hfr w, Calls.mono (hc w hst).out fun e w' ⟨he, hs⟩ => ⟨v, he, L, by simpa using hst.join hs rfl, h⟩⟩

abbrev MR := Option Addr × Nat × List Int
def mI (l : List Int) : List (List Value) := l.map fun x => [.int .i64 x]
def mxV (hs : List MR) : List (List Value) := hs.map fun h => [.slice h.1 h.2.2.length h.2.1]
abbrev ownR (T : TypeId) (h : MR) : Ent := .own h.1 h.2.1 T 1 h.2.2.length (mI h.2.2)
def apR (T : TypeId) (h h' : MR) : Prop := ∀ b, (ownR T h).fp b → (ownR T h').fp b → False
def mxE (T : TypeId) (hs : List MR) : Ent := .gen true true (fun b => ∃ h ∈ hs, (ownR T h).fp b) (fun w => (∀ h ∈ hs, (ownR T h).ok w) ∧ hs.Pairwise (apR T))
  (fun w w' hb hok => ⟨fun h hh => Ent.ok_frame (e := ownR T h) (hok.1 h hh) fun b hf => hb b ⟨h, hh, hf⟩, hok.2⟩) (fun w b hok ⟨h, hh, hf⟩ => Ent.ok_lt (e := ownR T h) (hok.1 h hh) hf)
theorem mx_rd {T : TypeId} {hs : List MR} {i : Nat} {h : MR} (hi : hs[i]? = some h) : ∀ w, (mxE T hs).ok w → Rd w h.1 1 h.2.2.length (mI h.2.2) := fun w hw => (hw.1 h (List.mem_of_getElem? hi)).2
section
variable {w0 w : World} {L : List Ent} {T : TypeId}
end
section
variable {F : Fence} {P : Program} {ops : Array Oper} {Q : Exit → Act → World → Prop} {rest : List Oper} {n : Nat} {D : List Deferred} {l : Env} {w0 : World} {L M M' : List Ent} {T : TypeId}
end
def gv (hs : List MR) (a b : Nat) : Int := ((hs[a]?).getD (none, 0, [])).2.2.getD b 0
structure Mx (K : Nat) (hs : List MR) (V : List (List Value)) : Prop where
  v : mxV hs = V
  len : hs.length = K
  row : ∀ h ∈ hs, h.2.2.length = K
theorem Mx.at {K : Nat} {hs : List MR} {V : List (List Value)} (h : Mx K hs V) {a : Nat} (ha : a < K) : ∃ (A : Option Addr) (c : Nat) (xs : List Int), hs[a]? = some (A, c, xs) ∧ xs.length = K ∧ V[a]? = some [.slice A K c] ∧ (∀ b, gv hs a b = xs.getD b 0) ∧ ∀ (T : TypeId) (w : World), (mxE T hs).ok w → Rd w A 1 K (mI xs) := by
  obtain ⟨⟨A, c, xs⟩, hr⟩ : ∃ r, hs[a]? = some r := ⟨_, List.getElem?_eq_getElem (by rw [h.len]; exact ha)⟩
  have hl : xs.length = K := h.row _ (List.mem_of_getElem? hr)
  refine ⟨A, c, xs, hr, hl, ?_, fun b => by rw [gv, hr]; rfl, fun T w hw => by have := mx_rd hr w hw; rwa [hl] at this⟩
  rw [← h.v, mxV, List.getElem?_map, hr, Option.map_some, hl]
theorem Mx.set {K : Nat} {hs : List MR} {V : List (List Value)} (h : Mx K hs V) {a : Nat} {A : Option Addr} {c : Nat} {xs : List Int} (hr : hs[a]? = some (A, c, xs)) (b : Nat) (v : Int) : Mx K (hs.set a (A, c, xs.set b v)) V := by
  have hi := (List.getElem?_eq_some_iff.1 hr).1
  refine ⟨?_, by rw [List.length_set]; exact h.len, fun x hx => ?_⟩
  · rw [← h.v]
    unfold mxV
    rw [List.map_set]
    refine List.ext_getElem? fun i => ?_
    by_cases e : a = i
    · subst e
      rw [List.getElem?_set_self (by rw [List.length_map]; exact hi), List.getElem?_map, hr, Option.map_some, List.length_set]
    · rw [List.getElem?_set_ne e]
  · rcases List.mem_or_eq_of_mem_set hx with hx | rfl
    · exact h.row x hx
    · rw [List.length_set]; exact h.row _ (List.mem_of_getElem? hr)
end Go.Proofs.YtpmmgljndceplaaGreat

namespace Go.Proofs.YtpmmgljndceplaaGreat
open Go Go.RowKit

section
variable {F : Fence} {P : Program} {ops : Array Oper} {Q : Exit → Act → World → Prop} {rest : List Oper} {n : Nat} {D : List Deferred} {l : Env} {w0 : World} {L M : List Ent}
variable {d : Nat} {ty : TypeId} {pos : String} {aft : Array Edge}

theorem Spl.thr {L Lp R : List Ent} {e : Ent} (h : Spl L Lp R) : Spl (e :: L) Lp (e :: R) := by
  induction h with
  | nil => exact .nil
  | cons h _ ih => exact .cons (.there h) ih
theorem ldP {x : Operand} {t : TypeId} {size bytes : Nat} {z : Value} {zl : List Value} (hT : Ty P t true size bytes z zl := by infer_instance) {b o : Nat} {T : TypeId} {cs vs : List Value}
    (hx : ev l x = some (.pointer (some ⟨b, o, none⟩)) := by exact rfl) (ha : At L (.blk b T cs) M := by repeat (first | exact At.here | apply At.there))
    (hl : vs.length = size := by rfl) (hc : ∀ j v, vs[j]? = some v → cs[o + j]? = some v) : Yd P n D l w0 L (.load t x) (.agg vs.toArray) :=
  ⟨by simp, by simp, fun oo ho ac w hfr hst => by
    have hcell : ∀ j v, vs[j]? = some v → w.cell? ((⟨b, o, none⟩ : Addr).add j) = some v := fun j v hj => by
      rw [add_lit, hst.cell ha]; exact hc j v hj
    simp [execOp, ho, hfr.eval hx, Instr.loadAt, Instr.sureAddr, run_loadVarA hT hl hcell]⟩
theorem ldW {x : Operand} {t : TypeId} {size bytes : Nat} {z : Value} {zl : List Value} (hT : Ty P t true size bytes z zl := by infer_instance) {b : Nat} {T : TypeId} {cs : List Value}
    (hx : ev l x = some (.pointer (some ⟨b, 0, none⟩)) := by exact rfl) (ha : At L (.blk b T cs) M := by repeat (first | exact At.here | apply At.there))
    (hl : cs.length = size := by rfl) : Yd P n D l w0 L (.load t x) (.agg cs.toArray) :=
  ldP hT hx ha hl fun j v hj => by rw [Nat.zero_add]; exact hj
theorem stP {x y : Operand} {t : TypeId} {size bytes : Nat} {z : Value} {zl : List Value} (hT : Ty P t true size bytes z zl := by infer_instance) {b o : Nat} {T : TypeId} {cs vs : List Value}
    (hx : ev l x = some (.pointer (some ⟨b, o, none⟩)) := by exact rfl) (hy : ev l y = some (.agg vs.toArray) := by exact rfl) (h1 : ∀ v ∈ vs, v.oneCell' = true) (hsz : vs.length = size)
    (ha : At L (.blk b T cs) M := by repeat (first | exact At.here | apply At.there)) (ho : o + vs.length ≤ cs.length)
    (h : WL F P ops Q rest n D l w0 (.blk b T (putAll cs o vs) :: M)) : WL F P ops Q (⟨none, .store t x y, ty, pos, aft, none⟩ :: rest) n D l w0 L :=
  WL.skipop (by simp) (fun ac w hfr hst => by
    obtain ⟨w', hr, hs⟩ := run_storeCells (P := P) vs cs o 0 w (hst.pull ha) (fun _ => by omega) h1
    rw [Nat.add_zero] at hs
    refine ⟨w', ?_, hs⟩
    simp [execOp, hfr.eval hx, hfr.eval hy, Instr.storeAt, Instr.sureAddr, storeVar, run_sizeOf hT, Value.cells, hsz, hr]) h
theorem stW {x y : Operand} {t : TypeId} {size bytes : Nat} {z : Value} {zl : List Value} (hT : Ty P t true size bytes z zl := by infer_instance) {b : Nat} {T : TypeId} {cs vs : List Value}
    (hx : ev l x = some (.pointer (some ⟨b, 0, none⟩)) := by exact rfl) (hy : ev l y = some (.agg vs.toArray) := by exact rfl) (h1 : ∀ v ∈ vs, v.oneCell' = true) (hsz : vs.length = size)
    (ha : At L (.blk b T cs) M := by repeat (first | exact At.here | apply At.there)) (ho : cs.length = vs.length)
    (h : WL F P ops Q rest n D l w0 (.blk b T vs :: M)) : WL F P ops Q (⟨none, .store t x y, ty, pos, aft, none⟩ :: rest) n D l w0 L :=
  stP hT hx hy h1 hsz ha (by omega) (by rw [putAll_whole vs cs ho]; exact h)
def numE (N : Nat) (F : Nat → Int) : List Value := (List.range N).map fun i => .int .i64 (F i)
theorem numE_len (N : Nat) (F : Nat → Int) : (numE N F).length = N := by simp [numE]
theorem numE_at {N : Nat} {F : Nat → Int} {o : Nat} (h : o < N) : (numE N F)[o]? = some (.int .i64 (F o)) := by
  rw [numE, List.getElem?_map, List.getElem?_range h]; rfl
theorem numE_one {N : Nat} {F : Nat → Int} : ∀ v ∈ numE N F, v.oneCell' = true := fun v hv => by
  obtain ⟨i, _, rfl⟩ := List.mem_map.1 hv
  rfl
theorem numE_set {N : Nat} (F : Nat → Int) (o : Nat) (v : Int) : (numE N F).set o (.int .i64 v) = numE N (fun i => if i = o then v else F i) := by
  refine List.ext_getElem (by simp [numE_len]) fun k h1 h2 => ?_
  rw [List.getElem_set]
  simp only [numE, List.getElem_map, List.getElem_range]
  by_cases e : o = k
  · rw [if_pos e, if_pos e.symm]
  · rw [if_neg e, if_neg (fun x => e x.symm)]
theorem numE_congr {N : Nat} {F G : Nat → Int} (h : ∀ i, i < N → F i = G i) : numE N F = numE N G := by
  unfold numE
  exact List.map_congr_left fun i hi => by rw [h i (List.mem_range.1 hi)]
theorem WL.blkTo {b : Nat} {T : TypeId} {cs : List Value} (cs' : List Value) (ha : At L (.blk b T cs) M) (he : cs = cs') (h : WL F P ops Q rest n D l w0 (.blk b T cs' :: M)) : WL F P ops Q rest n D l w0 L := fun hF a w hfr hst => h hF a w hfr (by
  subst he
  exact hst.sub (.cons ha (SubL.refl _)))
theorem Tk.all {α : Type} : ∀ cs : List α, Tk cs 0 cs.length cs
  | [] => .nil
  | _ :: cs => .cons (Tk.all cs)
theorem tk_num (N : Nat) (F : Nat → Int) : Tk (numE N F) 0 N (numE N F) := by
  have := Tk.all (numE N F)
  rwa [numE_len] at this
theorem ixv {x i : Operand} {t e : TypeId} {len size bytes : Nat} {z : Value} {zl : List Value} {k : IntKind} {j : Int} {cs : List Value} (hT : ArrayTy P t len e := by infer_instance) (hE : Ty P e true size bytes z zl := by infer_instance)
    (hx : ev l x = some (.agg cs.toArray) := by exact rfl) (hi : ev l i = some (.int k j) := by exact rfl) (hb : 0 ≤ j ∧ j < len := by omega) : Yd P n D l w0 L (.index t x i) (.agg ((cs.drop (j.toNat * size)).take size).toArray) :=
  ⟨by simp, by simp, fun oo ho ac w hfr hst => by
    simp [execOp, ho, hfr.eval hx, hfr.eval hi, Instr.index, asIntOf, run_underlying hT.und, hb, run_sizeOf hE, part, run_isAgg hE, List.extract_toArray]⟩
theorem rd_blkA {w : World} {b o : Nat} {T : TypeId} {cs : List Value} (h : (Ent.blk b T cs).ok w) {size m : Nat} {es : List (List Value)} (hl : es.length = m) (he : ∀ c ∈ es, c.length = size) (ho : ∀ c ∈ es, ∀ v ∈ c, v.oneCell' = true)
    (hc : ∀ k c, es[k]? = some c → ∀ j v, c[j]? = some v → cs[o + (k * size + j)]? = some v) : Rd w (some ⟨b, o, none⟩) size m es := by
  refine ⟨hl, he, fun _ => ⟨_, rfl⟩, fun ad ha k c hk j v hj => ?_, ho⟩
  cases ha
  rw [add_lit, cell_of_row w b _ _ T (0, 0) h]
  simpa using hc k c hk j v hj
end
end Go.Proofs.YtpmmgljndceplaaGreat

namespace Go.Proofs.YtpmmgljndceplaaGreat
open Go Go.RowKit

def Stm (es : Array MapEntry) (c : Nat) : Prop := (es.toList.map (·.born)).Nodup ∧ ∀ e ∈ es.toList, e.born < c
theorem stm0 : Stm #[] 0 := ⟨List.nodup_nil, fun e he => by simp at he⟩
theorem stm_push {es : Array MapEntry} {c : Nat} (h : Stm es c) (k v : Value) : Stm (es.push { key := k, val := v, born := c }) (c + 1) := by
  constructor
  · rw [Array.toList_push, List.map_append, List.map_cons, List.map_nil, List.nodup_append]
    refine ⟨h.1, List.nodup_cons.2 ⟨by simp, List.nodup_nil⟩, fun a ha b hb => ?_⟩
    obtain ⟨e, he, rfl⟩ := List.mem_map.1 ha
    rw [List.mem_singleton] at hb
    have h3 := h.2 e he
    rw [hb]
    intro e2
    exact absurd e2 (Nat.ne_of_lt h3)
  · intro e he
    rw [Array.toList_push, List.mem_append, List.mem_singleton] at he
    rcases he with he | rfl
    · have := h.2 e he; omega
    · exact Nat.lt_succ_self _
theorem stm_mod {es : Array MapEntry} {c : Nat} (h : Stm es c) (j : Nat) (k v : Value) : Stm (es.modify j fun e => { e with key := k, val := v }) c := by
  have hb : (es.modify j fun e => { e with key := k, val := v }).toList.map (·.born) = es.toList.map (·.born) := by
    rw [Array.toList_modify]
    refine List.ext_getElem? fun i => ?_
    rw [List.getElem?_map, List.getElem?_map, List.getElem?_modify]
    by_cases e : j = i
    · subst e; simp only [if_pos]; cases es.toList[j]? <;> rfl
    · simp only [if_neg e]; cases es.toList[i]? <;> rfl
  refine ⟨by rw [hb]; exact h.1, fun e he => ?_⟩
  have : e.born ∈ es.toList.map (·.born) := hb ▸ List.mem_map.2 ⟨e, he, rfl⟩
  obtain ⟨e', he', e2⟩ := List.mem_map.1 this
  have := h.2 e' he'
  omega

section rules
variable {F : Fence} {P : Program} {ops : Array Oper} {Q : Exit → Act → World → Prop} {rest : List Oper} {n : Nat} {D : List Deferred} {l : Env} {w0 : World} {L M : List Ent}
variable {d : Nat} {ty : TypeId} {pos : String} {aft : Array Edge}

theorem run_updateS {t kt e : TypeId} {ks : List Bool} (hT : MapTy P t kt e) (hK : FlatTy P kt ks) {w : World} {b : Nat} {es : Array MapEntry} {c : Nat} (hb : w.heap[b]? = some (.map es c)) {kv : List (List Fl × Value)} (hm : MapIs es kv) (hs : ∀ p ∈ kv, shapeOf p.1 = ks) {k : List Fl} (hk : shapeOf k = ks) (v : Value) (hst0 : Stm es c) :
    ∃ es' c', (Instr.mapUpdate t (.map (some b)) (.agg (fv k).toArray) v).run P w = .ok () (w.putObj b (.map es' c')) ∧ MapIs es' (updM kv k v) ∧ Stm es' c' := by
  obtain ⟨r, hr, hc⟩ := run_findKey hK hk es.toList kv w hm hs
  have hck := fun em => checkKeyF em 8 kt ks hK.flt 9992 k w hk
  simp only [fval, hK.agg, cond_true] at hck
  have hck' : ∀ em, (Instr.checkKey em 10000 kt (.agg (fv k).toArray)).run P w = .ok () w := hck
  unfold Instr.mapUpdate
  simp only [Sem.run_bind, run_underlying hT.und, Result.andThen_ok, getMap hb, Sem.run_pure, hck', hr]
  rcases hc with ⟨rfl, h1, h2⟩ | ⟨j, u, e', rfl, h1, h3, h4, h5⟩
  · refine ⟨_, _, putMap _ hb, ?_, stm_push hst0 _ _⟩
    have hm' : es.toList.map (fun e => (e.key, e.val)) = kv.map fun p => (Value.agg (fv p.1).toArray, p.2) := hm
    simp only [MapIs, h2, Array.toList_push, List.map_append, hm', List.map_cons, List.map_nil]
  · have hj : es[j]? = some e' := by simpa using h3
    have hjl : j < es.size := (Array.getElem?_eq_some_iff.1 hj).1
    have hst : (Instr.keyThatStays (.agg (fv k).toArray) (.agg (fv k).toArray)).run P w = .ok (.agg (fv k).toArray) w := by
      simp [Instr.keyThatStays, sameBits_flat]
    simp only [hj, Option.map_some, Option.getD_some, h4, Sem.run_bind, hst, Result.andThen_ok]
    refine ⟨_, _, putMap _ hb, ?_, stm_mod hst0 _ _ _⟩
    have he : (es.modify j fun e => { e with key := .agg (fv k).toArray, val := v }).toList = es.toList.set j { e' with val := v } := by
      rw [Array.toList_modify]
      refine List.ext_getElem? fun i => ?_
      rw [List.getElem?_modify, List.getElem?_set]
      by_cases e : j = i
      · subst e
        have : es.toList[j]? = some e' := h3
        rw [this]
        simp [hjl, ← h4]
      · simp [e]
    rw [MapIs, he]
    exact h5 v
theorem mupS {m x y : Operand} {t kt e : TypeId} {ks : List Bool} (hT : MapTy P t kt e := by infer_instance) (hK : FlatTy P kt ks := by infer_instance) {b : Nat} {es : Array MapEntry} {c : Nat} {kv : List (List Fl × Value)} {cs : List Value} {k : List Fl} {v : Value}
    (hm : MapIs es kv) (hs : ∀ p ∈ kv, shapeOf p.1 = ks) (hst0 : Stm es c) (hx : ev l m = some (.map (some b)) := by exact rfl) (hy : ev l x = some (.agg cs.toArray) := by exact rfl) (hv : ev l y = some v := by exact rfl) (hl : FlL cs k := by repeat (first | exact FlL.nil | apply FlL.int | apply FlL.bool)) (hk : shapeOf k = ks := by rfl)
    (ha : At L (.obj b (.map es c)) M := by repeat (first | exact At.here | apply At.there)) (h : ∀ es' c', MapIs es' (updM kv k v) → Stm es' c' → WL F P ops Q rest n D l w0 (.obj b (.map es' c') :: M)) : WL F P ops Q (⟨none, .mapUpdate t m x y, ty, pos, aft, none⟩ :: rest) n D l w0 L := by
  intro hF a w hfr hst
  have hst1 := hst.pull ha
  obtain ⟨es', c', hr, hm', hs'⟩ := run_updateS (P := P) hT hK hst1.objAt hm hs hk v hst0
  rw [← hl.out] at hr
  have he : (execOp a.eval ⟨none, .mapUpdate t m x y, ty, pos, aft, none⟩).run P w = .ok .skip (w.putObj b (.map es' c')) := by
    simp [execOp, hfr.eval hx, hfr.eval hy, hfr.eval hv, hr]
  show (if _ then _ else _)
  rw [if_pos (by simp [Region.wanted])]
  refine ⟨fun f _ => hF.fn f, ?_⟩
  rw [semAt_plain (by simp), he]
  exact h es' c' hm' hs' hF _ _ (hfr.put_none (.bool true)) (hst1.putObj _)

abbrev KV := Value × Value
def kvOf (e : MapEntry) : KV := (e.key, e.val)
def LastIs (es : Array MapEntry) (seen : Array Nat) (last : Option KV) : Prop := ∀ kv, last = some kv → ∃ (seen' : Array Nat) (e : MapEntry), seen = seen'.push e.born ∧ e ∈ es.toList ∧ kvOf e = kv
def itE (r b : Nat) (es : Array MapEntry) (c : Nat) (todo : List KV) (last : Option KV) : Ent := .gen true true (fun k => k = r) (fun w => ∃ seen, w.heap[r]? = some (.mapIter (some b) c seen c) ∧ todo.Perm ((leftOf es seen).toList.map kvOf) ∧ LastIs es seen last)
  (fun w w' hb ⟨seen, h1, h2⟩ => ⟨seen, (hb r rfl).trans h1, h2⟩) (fun w k ⟨seen, h1, _⟩ hk => by subst hk; exact heap_lt h1)
def roM (b : Nat) (es : Array MapEntry) (c : Nat) : Ent := .gen true false (fun k => k = b) (fun w => w.heap[b]? = some (.map es c)) (fun w w' hb h => (hb b rfl).trans h) (fun w k h hk => by subst hk; exact heap_lt h)
theorem St.toRoM {w0 w : World} {M : List Ent} {b : Nat} {es : Array MapEntry} {c : Nat} (h : St w0 w (.obj b (.map es c) :: M)) : St w0 w (roM b es c :: M) := by
  have hp := List.pairwise_cons.1 h.sep
  refine ⟨h.below, fun x hx => ?_, fun x hx hf k hk => ?_, List.pairwise_cons.2 ⟨fun x hx _ k hk hk' => hp.1 x hx (.inl rfl) k hk hk', hp.2⟩⟩
  · rcases List.mem_cons.1 hx with rfl | hx
    · exact h.ok (.obj b (.map es c)) (by simp)
    · exact h.ok x (by simp [hx])
  · rcases List.mem_cons.1 hx with rfl | hx
    · exact h.new (.obj b (.map es c)) (by simp) rfl k hk
    · exact h.new x (by simp [hx]) hf k hk
theorem St.dupM {w0 w : World} {M : List Ent} {b : Nat} {es : Array MapEntry} {c : Nat} (h : St w0 w (roM b es c :: M)) : St w0 w (roM b es c :: roM b es c :: M) := by
  have hp := List.pairwise_cons.1 h.sep
  refine ⟨h.below, fun x hx => ?_, fun x hx hf k hk => ?_, List.pairwise_cons.2 ⟨fun x hx ho k hk hk' => ?_, h.sep⟩⟩
  · rcases List.mem_cons.1 hx with rfl | hx
    · exact h.ok _ (by simp)
    · exact h.ok x hx
  · rcases List.mem_cons.1 hx with rfl | hx
    · exact h.new _ (by simp) hf k hk
    · exact h.new x hx hf k hk
  · rcases List.mem_cons.1 hx with rfl | hx
    · rcases ho with h1 | h1 <;> cases h1
    · exact hp.1 x hx ho k hk hk'
theorem left_none (es : Array MapEntry) : leftOf es #[] = es := by
  unfold leftOf
  exact Array.filter_eq_self.2 fun a _ => by simp
theorem rngM {x : Operand} {t kt e : TypeId} (hT : MapTy P t kt e := by infer_instance) {b : Nat} {es : Array MapEntry} {c : Nat} (hx : ev l x = some (.map (some b)) := by exact rfl) (ha : At L (roM b es c) M := by repeat (first | exact At.here | apply At.there)) (hd : Nat.blt d n = true := by rfl)
    (h : ∀ r, WL F P ops Q rest n D ((d, .pointer (some ⟨r, 0, none⟩)) :: l) w0 (itE r b es c (es.toList.map kvOf) none :: L)) : WL F P ops Q (⟨some d, .range t x, ty, pos, aft, none⟩ :: rest) n D l w0 L :=
  WL.value (X := Nat) (φ := fun _ => True) (val := fun r => .pointer (some ⟨r, 0, none⟩)) (L' := fun r => itE r b es c (es.toList.map kvOf) none :: L) (by simp) hd (fun a w hfr hst => by
    have hb : w.heap[b]? = some (.map es c) := hst.ok (roM b es c) ha.mem
    have hr := run_range_map (P := P) w t kt e b es c hT.und hb
    have hs := hst.allocObj (.mapIter (some b) c #[] c)
    refine ⟨w.heap.size, _, trivial, by simp [execOp, hfr.eval hx, hr]; rfl, ?_⟩
    refine hs.turn (e' := itE _ b es c _ none) rfl (fun _ _ _ => rfl) rfl rfl rfl (Nat.le_refl _) ⟨#[], ?_, ?_, fun kv h => (by cases h)⟩ (fun k hk => .inl hk)
    · exact heap_alloc_new w _
    · rw [left_none]) (fun r _ => h r)
theorem WC.toRoM {c0 : Code} {b : Nat} {es : Array MapEntry} {c : Nat} (ha : At L (.obj b (.map es c)) M) (h : WC F P c0 Q n D l w0 (roM b es c :: M)) : WC F P c0 Q n D l w0 L := fun hF a w hfr hst => h hF a w hfr (hst.pull ha).toRoM
theorem WL.toRoM {b : Nat} {es : Array MapEntry} {c : Nat} (ha : At L (.obj b (.map es c)) M) (h : WL F P ops Q rest n D l w0 (roM b es c :: M)) : WL F P ops Q rest n D l w0 L := fun hF a w hfr hst => h hF a w hfr (hst.pull ha).toRoM
theorem WC.dupM {c0 : Code} {b : Nat} {es : Array MapEntry} {c : Nat} (ha : At L (roM b es c) M) (h : WC F P c0 Q n D l w0 (roM b es c :: roM b es c :: M)) : WC F P c0 Q n D l w0 L := fun hF a w hfr hst => h hF a w hfr (hst.pull ha).dupM
def nxV : Option KV → Value
  | none => .tuple #[.bool false]
  | some kv => .tuple #[.bool true, kv.1, kv.2]
def NxO (todo : List KV) (o : Option KV) (todo' : List KV) : Prop := match o with
  | none => todo = [] ∧ todo' = []
  | some kv => todo.Perm (kv :: todo')
theorem born_apart {es : List MapEntry} (h : (es.map (·.born)).Nodup) {a b : MapEntry} (ha : a ∈ es) (hb : b ∈ es) (e : a.born = b.born) : a = b := by
  induction es with
  | nil => cases ha
  | cons x es ih =>
    rw [List.map_cons, List.nodup_cons] at h
    rcases List.mem_cons.1 ha with h1 | h1
    · rcases List.mem_cons.1 hb with h2 | h2
      · rw [h1, h2]
      · exact absurd (List.mem_map.2 ⟨b, h2, by rw [← e, h1]⟩) h.1
    · rcases List.mem_cons.1 hb with h2 | h2
      · exact absurd (List.mem_map.2 ⟨a, h1, by rw [e, h2]⟩) h.1
      · exact ih h.2 h1 h2
theorem nodup_of_born {es : List MapEntry} (h : (es.map (·.born)).Nodup) : es.Nodup := by
  induction es with
  | nil => exact List.nodup_nil
  | cons x es ih =>
    rw [List.map_cons, List.nodup_cons] at h
    exact List.nodup_cons.2 ⟨fun hm => h.1 (List.mem_map.2 ⟨x, hm, rfl⟩), ih h.2⟩
theorem left_perm {es : Array MapEntry} (h : (es.toList.map (·.born)).Nodup) {seen : Array Nat} {e : MapEntry} (he : e ∈ (leftOf es seen).toList) : (leftOf es seen).toList.Perm (e :: (leftOf es (seen.push e.born)).toList) := by
  have hnd : (leftOf es seen).toList.Nodup := by
    have : es.toList.Nodup := nodup_of_born h
    unfold leftOf
    rw [Array.toList_filter]
    exact this.filter _
  obtain ⟨hem, hes⟩ := mem_left he
  have hnd2 : (leftOf es (seen.push e.born)).toList.Nodup := by
    have : es.toList.Nodup := nodup_of_born h
    unfold leftOf
    rw [Array.toList_filter]
    exact this.filter _
  have hm : ∀ x : MapEntry, x ∈ (leftOf es (seen.push e.born)).toList ↔ x ∈ es.toList ∧ seen.contains x.born = false ∧ x.born ≠ e.born := fun x => by
    unfold leftOf
    rw [Array.toList_filter, List.mem_filter, contains_push]
    simp
  have hm0 : ∀ x : MapEntry, x ∈ (leftOf es seen).toList ↔ x ∈ es.toList ∧ seen.contains x.born = false := fun x => by
    unfold leftOf
    rw [Array.toList_filter, List.mem_filter]
    simp
  refine (List.perm_ext_iff_of_nodup hnd (List.nodup_cons.2 ⟨fun h2 => ((hm e).1 h2).2.2 rfl, hnd2⟩)).2 fun x => ?_
  rw [hm0, List.mem_cons, hm]
  constructor
  · rintro ⟨h1, h2⟩
    by_cases e2 : x.born = e.born
    · exact .inl (born_apart h h1 hem e2)
    · exact .inr ⟨h1, h2, e2⟩
  · rintro (rfl | ⟨h1, h2, _⟩)
    · exact ⟨hem, hes⟩
    · exact ⟨h1, h2⟩
theorem nxtM {x : Operand} {r b : Nat} {es : Array MapEntry} {c : Nat} {todo : List KV} {last : Option KV} {M' : List Ent} (hs : Stm es c) (hx : ev l x = some (.pointer (some ⟨r, 0, none⟩)) := by exact rfl) (ha : At L (itE r b es c todo last) M := by repeat (first | exact At.here | apply At.there)) (hb : At M (roM b es c) M' := by repeat (first | exact At.here | apply At.there)) (hd : Nat.blt d n = true := by rfl)
    (h : ∀ o todo', NxO todo o todo' → WL F P ops Q rest n D ((d, nxV o) :: l) w0 (itE r b es c todo' o :: M)) : WL F P ops Q (⟨some d, .next x false, ty, pos, aft, none⟩ :: rest) n D l w0 L :=
  WL.value (X := Option KV × List KV) (φ := fun p => NxO todo p.1 p.2) (val := fun p => nxV p.1) (L' := fun p => itE r b es c p.2 p.1 :: M) (by simp) hd (fun a w hfr hst => by
    have hst1 := hst.pull ha
    obtain ⟨seen, h1, h2, h2'⟩ := hst1.ok (itE r b es c todo last) (by simp)
    have h3 : w.heap[b]? = some (.map es c) := hst1.ok (roM b es c) (by simp [hb.mem])
    rcases run_next_at (P := P) w ty r b c c seen es c h1 h3 hs.2 (Nat.le_refl _) with ⟨h0, hrun⟩ | ⟨e, he, w1, hal, hrun⟩
    · have hnil : todo = [] := by
        have : (leftOf es seen).toList = [] := by
          rw [← Array.length_toList] at h0
          exact List.eq_nil_of_length_eq_zero h0
        rw [this, List.map_nil] at h2
        exact h2.eq_nil
      subst hnil
      refine ⟨(none, []), w, ⟨rfl, rfl⟩, ?_, hst1.turn (e' := itE r b es c [] none) rfl (fun _ _ _ => rfl) rfl rfl rfl (Nat.le_refl _) ⟨seen, h1, h2, fun kv h => (by cases h)⟩ (fun k hk => .inl hk)⟩
      simp [execOp, hfr.eval hx, hrun, nxV]
    · have hp := left_perm hs.1 he
      have hem := (mem_left he).1
      have hr1 : w1.heap[r]? = some (.mapIter (some b) c seen c) := by rcases hal with rfl | rfl <;> exact h1
      refine ⟨(some (kvOf e), (leftOf es (seen.push e.born)).toList.map kvOf), _, h2.trans (hp.map kvOf), by simp [execOp, hfr.eval hx, hrun, nxV, kvOf]; rfl, ?_⟩
      have hset := MapKept.heap_set (o' := .mapIter (some b) c (seen.push e.born) c) hr1
      have hw : w1.heap = w.heap ∧ w1.os = w.os ∧ w1.tape = w.tape ∧ w1.output = w.output ∧ w.drawn ≤ w1.drawn := by
        rcases hal with rfl | rfl
        · exact ⟨rfl, rfl, rfl, rfl, Nat.le_refl _⟩
        · exact ⟨rfl, rfl, rfl, rfl, Nat.le_succ _⟩
      refine hst1.turn (w' := ChangeMaps.setBlock w1 r _) (e' := itE r b es c _ (some (kvOf e))) rfl (fun k _ hk => ?_) hw.2.1 hw.2.2.1 hw.2.2.2.1 (by show w.heap.size ≤ (w1.heap.setIfInBounds r _).size; rw [Array.size_setIfInBounds, hw.1]; exact Nat.le_refl _) ⟨seen.push e.born, hset.1, .refl _, fun kv hkv => ⟨seen, e, rfl, hem, Option.some.inj hkv⟩⟩ (fun k hk => .inl hk) hw.2.2.2.2
      rw [← hw.1]; exact hset.2 k (fun e => hk e)) (fun p hp => h p.1 p.2 hp)
theorem entM {x : Operand} {r b : Nat} {es : Array MapEntry} {c : Nat} {todo : List KV} {kv : KV} {M' : List Ent} (hs : Stm es c) (hx : ev l x = some (.pointer (some ⟨r, 0, none⟩)) := by exact rfl) (ha : At L (itE r b es c todo (some kv)) M := by repeat (first | exact At.here | apply At.there)) (hb : At L (roM b es c) M' := by repeat (first | exact At.here | apply At.there)) : Yd P n D l w0 L (.entry x) (.tuple #[kv.1, kv.2]) :=
  ⟨by simp, by simp, fun oo ho ac w hfr hst => by
    obtain ⟨seen, h1, _, h3⟩ := hst _ ha.mem
    have h4 : w.heap[b]? = some (.map es c) := hst _ hb.mem
    obtain ⟨seen', e, rfl, he, rfl⟩ := h3 kv rfl
    have hr := run_entry_at (P := P) w r b c seen' es c e h1 h4 he hs.1
    simp [execOp, ho, hfr.eval hx, hr, kvOf]⟩
theorem exN {x : Operand} {o : Option KV} (hx : ev l x = some (nxV o) := by exact rfl) : Yd P n D l w0 L (.extract x 0) (.bool o.isSome) :=
  ⟨by simp, by simp, fun oo ho ac w hfr _ => by
    cases o <;> simp [execOp, ho, hfr.eval hx, nxV] <;> rfl⟩
end rules

section
variable {w0 w : World} {M : List Ent} {e e1 e2 : Ent}
theorem St.split (h : St w0 w (e :: M)) (hx : e.excl = true) (h1 : e1.ok w) (h2 : e2.ok w) (f1 : ∀ k, e1.fp k → e.fp k) (f2 : ∀ k, e2.fp k → e.fp k) (hd : ∀ k, e1.fp k → e2.fp k → False) : St w0 w (e1 :: e2 :: M) := by
  have hp := List.pairwise_cons.1 h.sep
  refine ⟨h.below, fun x hxm => ?_, fun x hxm hf b hb => ?_, List.pairwise_cons.2 ⟨fun x hxm _ b hb hb' => ?_, List.pairwise_cons.2 ⟨fun x hxm _ b hb hb' => ?_, hp.2⟩⟩⟩
  · rcases List.mem_cons.1 hxm with rfl | hxm
    · exact h1
    rcases List.mem_cons.1 hxm with rfl | hxm
    · exact h2
    · exact h.ok x (by simp [hxm])
  · rcases List.mem_cons.1 hxm with rfl | hxm
    · exact h.new e (by simp) (Ent.fresh_of_excl hx) b (f1 b hb)
    rcases List.mem_cons.1 hxm with rfl | hxm
    · exact h.new e (by simp) (Ent.fresh_of_excl hx) b (f2 b hb)
    · exact h.new x (by simp [hxm]) hf b hb
  · rcases List.mem_cons.1 hxm with rfl | hxm
    · exact hd b hb hb'
    · exact hp.1 x hxm (.inl hx) b (f1 b hb) hb'
  · exact hp.1 x hxm (.inl hx) b (f2 b hb) hb'
theorem St.fuse (h : St w0 w (e1 :: e2 :: M)) (x1 : e1.excl = true) (x2 : e2.excl = true) (ho : e.ok w) (hf : ∀ k, e.fp k → e1.fp k ∨ e2.fp k) : St w0 w (e :: M) := by
  have hp := List.pairwise_cons.1 h.sep
  have hp2 := List.pairwise_cons.1 hp.2
  refine ⟨h.below, fun x hxm => ?_, fun x hxm hf' b hb => ?_, List.pairwise_cons.2 ⟨fun x hxm _ b hb hb' => ?_, hp2.2⟩⟩
  · rcases List.mem_cons.1 hxm with rfl | hxm
    · exact ho
    · exact h.ok x (by simp [hxm])
  · rcases List.mem_cons.1 hxm with rfl | hxm
    · rcases hf b hb with h1 | h1
      · exact h.new e1 (by simp) (Ent.fresh_of_excl x1) b h1
      · exact h.new e2 (by simp) (Ent.fresh_of_excl x2) b h1
    · exact h.new x (by simp [hxm]) hf' b hb
  · rcases hf b hb with h1 | h1
    · exact hp.1 x (by simp [hxm]) (.inl x1) b h1 hb'
    · exact hp2.1 x hxm (.inl x2) b h1 hb'
end
end Go.Proofs.YtpmmgljndceplaaGreat

namespace Go.Proofs.YtpmmgljndceplaaGreat
open Go Go.RowKit

def tPos (t : Tb) : Prop := ∀ e ∈ t, 1 ≤ e.2.1
theorem tPos_get {t : Tb} (h : tPos t) {p : Pr} (hp : (tget t p).isSome = true) : 1 ≤ (tat t p).1 := by
  unfold tat
  induction t with
  | nil => simp [tget] at hp
  | cons e t ih =>
    rw [tget] at hp ⊢
    by_cases hpe : p = e.1
    · rw [if_pos hpe]; exact h e (by simp)
    · rw [if_neg hpe] at hp ⊢; exact ih (fun x hx => h x (by simp [hx])) hp
theorem tPos_put {t : Tb} (h : tPos t) (p : Pr) (v : Stn) (hv : 1 ≤ v.1) : tPos (tput t p v) := by
  induction t with
  | nil => intro e he; simp only [tput, List.mem_singleton] at he; subst he; exact hv
  | cons e t ih =>
    intro x hx
    rw [tput] at hx
    split at hx
    · rcases List.mem_cons.1 hx with rfl | hx
      · exact hv
      · exact h x (by simp [hx])
    · rcases List.mem_cons.1 hx with rfl | hx
      · exact h _ (by simp)
      · exact ih (fun x hx => h x (by simp [hx])) x hx
theorem tPos_side {f : Fmt} {s p : Pr} {now : Stn} {t : Tb} (ho : tOk t) (h : tPos t) (hn : 1 ≤ now.1 ∧ now.1 ≤ 1000000000001) : ∀ k, tPos (sideTo f s p now t k)
  | 0 => h
  | k + 1 => by
    have ih := tPos_side (f := f) (s := s) (p := p) ho h hn k
    have ha := tOk_at (tOk_side (f := f) (s := s) (p := p) ho (now := now) (by omega) k) (addV p k)
    exact tPos_put ih _ _ (by simp only [newS]; omega)
theorem tPos_pair {f : Fmt} {s p : Pr} {t : Tb} (ho : tOk t) (h : tPos t) : tPos (pairT f s p t) := by
  unfold pairT
  cases hb : !(tget t p).isSome || (tat t p).2
  · simp only [Bool.or_eq_false_iff, Bool.not_eq_false'] at hb
    exact tPos_side ho h ⟨tPos_get h hb.1, (tOk_at ho p).2⟩ 2
  · exact h
theorem tPos_row {f : Fmt} {s : Pr} {all : Nat} {t : Tb} (ho : tOk t) (h : tPos t) : ∀ j, tPos (rowTo f s all t j)
  | 0 => h
  | j + 1 => tPos_pair (tOk_row ho j) (tPos_row ho h j)
theorem tPos_tbl (f : Fmt) (s : Pr) : ∀ k, tPos (tblTo f s k)
  | 0 => fun e he => by simp only [tblTo, List.mem_singleton] at he; subst he; decide
  | k + 1 => tPos_row (tOk_tbl f s k) (tPos_tbl f s k) _

def overV (f : Fmt) (won : Pr) : Bool := decide (max won.1 won.2 = f.sets)
structure SR where
  (won : Pr) (ord : Int) (ok : Bool)
def setSide (p : Pr) : Int := bif decide (p.1 < p.2) then 1 else 0
def setStep (tb : Pr → Tb) (f : Fmt) (r : SR) (p : Pr) : SR :=
  bif !(tget (tb (setV f r.won)) p).isSome || !(tat (tb (setV f r.won)) p).2 || overV f r.won then ⟨r.won, 0, false⟩
  else ⟨addV r.won (setSide p), bif decide (1000000000001 / r.ord < (tat (tb (setV f r.won)) p).1) then 1000000000001 else r.ord * (tat (tb (setV f r.won)) p).1, true⟩
def setsTo (tb : Pr → Tb) (f : Fmt) (l : List Pr) : Nat → SR
  | 0 => ⟨(0, 0), 1, true⟩
  | k + 1 => match l[k]? with
    | some p => bif (setsTo tb f l k).ok then setStep tb f (setsTo tb f l k) p else setsTo tb f l k
    | none => setsTo tb f l k
theorem setsTo_succ {tb : Pr → Tb} {f : Fmt} {l : List Pr} {k : Nat} {p : Pr} (hp : l[k]? = some p) (ho : (setsTo tb f l k).ok = true) : setsTo tb f l (k + 1) = setStep tb f (setsTo tb f l k) p := by rw [setsTo, hp]; simp only [ho, cond_true]
theorem setsTo_stop {tb : Pr → Tb} {f : Fmt} {l : List Pr} {j : Nat} (h : (setsTo tb f l j).ok = false) : ∀ {k : Nat}, j ≤ k → setsTo tb f l k = setsTo tb f l j
  | 0, hk => by obtain rfl : j = 0 := by omega
                rfl
  | k + 1, hk => by
    by_cases e : j = k + 1
    · subst e; rfl
    · have ih := setsTo_stop h (k := k) (by omega)
      rw [setsTo, ih]
      cases l[k]? with
      | none => rfl
      | some p => simp only [h, cond_false]
structure SZ where
  (k : Nat) (won : Pr) (ord : Int)

theorem C_rules_over (f : Fmt) (won : Pr) (w : World) : C0 Tryz.prog 79 [f.val, pv won] w (.bool (overV f won)) := by
  refine ⟨en Tryz.func79 Tryz.ntmps79 (St.init w) (h := fun F => ?_)⟩
  refine sq (h := ?_)
  refine rg (h := ?_)
  refine bxA (h := fun b0 => ?_)
  refine bxA (h := fun b1 => ?_)
  refine wy asg ?_
  refine nl (h := ?_)
  refine q_seq (h := ?_)
  refine sq (h := ?_)
  refine rg (h := ?_)
  refine wy (by first | exact fa | exact faE) ?_
  refine wy (by first | exact ld | exact ldE) ?_
  refine wy (by first | exact fa | exact faE) ?_
  refine wy (by first | exact ld | exact ldE) ?_
  refine wy maxI ?_
  refine wy (by first | exact fa | exact faE) ?_
  refine wy (by first | exact fa | exact faE) ?_
  refine wy (by first | exact ld | exact ldE) ?_
  refine wy eql ?_
  refine wy asg ?_
  refine nl (h := ?_)
  refine q_seq (h := ?_)
  refine rtn (h := ?_)
  refine q_ret (hR := ?_)
  exact fun w hS => ⟨rfl, hS.sub slz_⟩

set_option maxRecDepth 100000 in
set_option maxHeartbeats 1000000 in
theorem C_rules_sets' (tb : Pr → Tb) (f : Fmt) (l : List Pr) (hb1 : ∀ s, tOk (tb s)) (hb2 : ∀ s, tPos (tb s)) (hb3 : ∀ (s : Pr) (w : World), CR Tryz.prog 81 [f.val, pv s] w (fun x : Nat × Array MapEntry × Nat => MapIs x.2.1 (encT (tb s))) (fun x => .map (some x.1)) (fun x => [.obj x.1 (.map x.2.1 x.2.2)])) (hf : f.Ok) (A : Option Addr) (n c : Nat) (w : World) (h : Rd w A 2 n (encP l)) (hn : n ≤ 1000) :
    C0 Tryz.prog 78 [f.val, .slice A n c] w (.tuple #[pv (setsTo tb f l l.length).won, .int .i64 (setsTo tb f l l.length).ord, .bool (setsTo tb f l l.length).ok]) := by
  have hlen : l.length = n := by have := h.len; simpa [encP] using this
  refine ⟨en Tryz.func78 Tryz.ntmps78 ((St.init w).share (e := .ro A 2 n (encP l)) h rfl rfl rfl) (h := fun F => ?_)⟩
  refine sq (h := ?_)
  refine rg (h := ?_)
  refine bxA (h := fun b0 => ?_)
  refine al (h := fun b1 => ?_)
  refine wy asg ?_
  refine wy asg ?_
  refine nl (h := ?_)
  refine q_seq (h := ?_)
  refine sq (h := ?_)
  refine rg (h := ?_)
  refine wy asg ?_
  refine nl (h := ?_)
  refine q_seq (h := ?_)
  refine sq (h := ?_)
  refine sq (h := ?_)
  refine rg (h := ?_)
  refine wy mv ?_
  refine wy lenS ?_
  refine wy mv ?_
  refine nl (h := ?_)
  refine q_seq (h := ?_)
  refine bk (h := ?_)
  refine lp (X := SZ) (I := fun z => z.k ≤ n ∧ setsTo tb f l z.k = ⟨z.won, z.ord, true⟩ ∧ (1 ≤ z.ord ∧ z.ord ≤ 1000000000001) ∧ ((0 ≤ z.won.1 ∧ z.won.1 ≤ (z.k : Int)) ∧ 0 ≤ z.won.2 ∧ z.won.2 ≤ (z.k : Int))) (le := fun z => [(2, .pointer (some ⟨b0, 0, none⟩)), (4, .pointer (some ⟨b1, 0, none⟩)), (5, .int .i64 z.ord), (12, .slice A n c), (13, .int .i64 n), (14, .int .i64 z.k)]) (Le := fun z => [.blk b0 91 f.cells, .blk b1 38 [.int .i64 z.won.1, .int .i64 z.won.2], .ro A 2 n (encP l)]) (μ := fun z => n - z.k) ⟨0, (0, 0), 1⟩ ⟨Nat.zero_le _, rfl, by dsimp only; omega, by simp⟩ sbz_ slz_ (fun z hz => ?_)
  obtain ⟨hzk, hzr, hzo, hzw⟩ := hz
  refine sq (h := ?_)
  refine rg (h := ?_)
  refine wy lss ?_
  refine nl (h := ?_)
  refine q_seq (h := ?_)
  refine sq (h := ?_)
  refine cd (by exact rfl) (fun h0 => ?_) (fun h0 => ?_)
  · skip
    have hkn : z.k < n := by simp only [decide_eq_true_eq] at h0; omega
    obtain ⟨p, hp⟩ : ∃ p, l[z.k]? = some p := ⟨_, List.getElem?_eq_getElem (by omega)⟩
    have hpe := encP_at hp
    have hstep := setsTo_succ (tb := tb) (f := f) hp (by rw [hzr])
    rw [hzr] at hstep
    have hto := tOk_at (hb1 (setV f z.won)) p
    have hSw : Sm z.won := sm_of hzw (by omega)
    refine skp (h := ?_)
    refine q_seq (h := ?_)
    refine sq (h := ?_)
    refine bk (h := ?_)
    refine sq (h := ?_)
    refine rg (h := ?_)
    refine wy (ix (hb := by omega)) ?_
    refine wy (ldEW (k := z.k) (hk := hpe)) ?_
    refine al (h := fun b2 => ?_)
    first | refine stA (h := ?_) | refine stEA (h := ?_)
    refine nl (h := ?_)
    refine q_seq (h := ?_)
    refine ct (X := Nat) (fun _ => True) (fun x => [(2, .pointer (some ⟨b0, 0, none⟩)), (4, .pointer (some ⟨b1, 0, none⟩)), (8, .pointer (some ⟨b2, 0, none⟩)), (5, .int .i64 z.ord), (12, .slice A n c), (13, .int .i64 n), (14, .int .i64 z.k), (9, .pointer (some ⟨x, 0, none⟩)), (10, .bool (tget (tb (setV f z.won)) p).isSome)]) (fun x => [.blk x 167 [.int .i64 (tat (tb (setV f z.won)) p).1, .bool (tat (tb (setV f z.won)) p).2], .blk b0 91 f.cells, .blk b1 38 [.int .i64 z.won.1, .int .i64 z.won.2], .blk b2 38 [.int .i64 p.1, .int .i64 p.2], .ro A 2 n (encP l)]) (h1 := ?_) (h2 := ?_)
    · skip
      refine rgD (by kernel_rfl) [(1000000, .blk b0 91 f.cells), (1000000, .blk b1 38 [.int .i64 z.won.1, .int .i64 z.won.2]), (1000000, .blk b2 38 [.int .i64 p.1, .int .i64 p.2])] (by repeat (first | exact HS.nil | (apply HS.keep; (repeat (first | exact At.here | apply At.there))) | (apply HS.ro; (repeat (first | exact Rds.ro | exact Rds.own | apply Rds.there))))) (h := ?_)
      refine tk 0 (hy := (by first | exact ldA | exact ldEA)) (h := ?_)
      refine tk 1 (hy := (by first | exact ldA | exact ldEA)) (h := ?_)
      refine tk 2 (hy := (by first | exact ldA | exact ldEA)) (h := ?_)
      refine tk 5 (hy := (by first | exact ldA | exact ldEA)) (h := ?_)
      refine two 3 10 (h1 := ?_) (h2 := ?_)
      · skip
        refine cl0 (hc := fun w hS => C_rules_set _ _ (by assumption) w) (h := ?_)
        refine nx (h := ?_)
        refine two 4 10 (h1 := ?_) (h2 := ?_)
        · skip
          refine cl (hc := fun w hS => hb3 (setV f z.won) w) (h := fun xt hxt => ?_)
          refine nx (h := ?_)
          refine two 6 10 (h1 := ?_) (h2 := ?_)
          · skip
            refine wy (lkC (kv := encT (tb (setV f z.won))) (hm := hxt) (hs := encT_shape _)) ?_
            rw [lkp_enc (p := p), getD_tat, isSome_enc]
            refine nx (h := ?_)
            refine tk 7 (hy := mv) (h := ?_)
            refine tk 8 (hy := ex) (h := ?_)
            refine tk 9 (hy := ex) (h := ?_)
            refine one 10 (h := ?_)
            refine al (h := fun b3 => ?_)
            refine nx (h := ?_)
            refine one 11 (h := ?_)
            first | refine stA (h := ?_) | refine stEA (h := ?_)
            refine nx (h := ?_)
            refine tk 12 (hy := asg) (h := ?_)
            refine dn (h := ?_)
            exact ctn _ trivial sbz_ slz_
          · skip
            refine al (h := fun b4 => ?_)
            refine nx (h := ?_)
            refine one 6 (h := ?_)
            refine wy (lkC (kv := encT (tb (setV f z.won))) (hm := hxt) (hs := encT_shape _)) ?_
            rw [lkp_enc (p := p), getD_tat, isSome_enc]
            refine nx (h := ?_)
            refine tk 7 (hy := mv) (h := ?_)
            refine tk 8 (hy := ex) (h := ?_)
            refine tk 9 (hy := ex) (h := ?_)
            refine one 11 (h := ?_)
            first | refine stA (h := ?_) | refine stEA (h := ?_)
            refine nx (h := ?_)
            refine tk 12 (hy := asg) (h := ?_)
            refine dn (h := ?_)
            exact ctn _ trivial sbz_ slz_
        · skip
          refine al (h := fun b5 => ?_)
          refine nx (h := ?_)
          refine one 4 (h := ?_)
          refine cl (hc := fun w hS => hb3 (setV f z.won) w) (h := fun xt hxt => ?_)
          refine nx (h := ?_)
          refine one 6 (h := ?_)
          refine wy (lkC (kv := encT (tb (setV f z.won))) (hm := hxt) (hs := encT_shape _)) ?_
          rw [lkp_enc (p := p), getD_tat, isSome_enc]
          refine nx (h := ?_)
          refine tk 7 (hy := mv) (h := ?_)
          refine tk 8 (hy := ex) (h := ?_)
          refine tk 9 (hy := ex) (h := ?_)
          refine one 11 (h := ?_)
          first | refine stA (h := ?_) | refine stEA (h := ?_)
          refine nx (h := ?_)
          refine tk 12 (hy := asg) (h := ?_)
          refine dn (h := ?_)
          exact ctn _ trivial sbz_ slz_
      · skip
        refine al (h := fun b6 => ?_)
        refine nx (h := ?_)
        refine one 3 (h := ?_)
        refine cl0 (hc := fun w hS => C_rules_set _ _ (by assumption) w) (h := ?_)
        refine nx (h := ?_)
        refine one 4 (h := ?_)
        refine cl (hc := fun w hS => hb3 (setV f z.won) w) (h := fun xt hxt => ?_)
        refine nx (h := ?_)
        refine one 6 (h := ?_)
        refine wy (lkC (kv := encT (tb (setV f z.won))) (hm := hxt) (hs := encT_shape _)) ?_
        rw [lkp_enc (p := p), getD_tat, isSome_enc]
        refine nx (h := ?_)
        refine tk 7 (hy := mv) (h := ?_)
        refine tk 8 (hy := ex) (h := ?_)
        refine tk 9 (hy := ex) (h := ?_)
        refine one 11 (h := ?_)
        first | refine stA (h := ?_) | refine stEA (h := ?_)
        refine nx (h := ?_)
        refine tk 12 (hy := asg) (h := ?_)
        refine dn (h := ?_)
        exact ctn _ trivial sbz_ slz_
    rintro x9 -
    refine sq (h := ?_)
    refine sq (h := ?_)
    refine rg (h := ?_)
    refine wy mv ?_
    refine wy notB ?_
    refine wy mv ?_
    apply brOr 4 30 34 (by exact rfl)
    · intro hb1
      refine un (h := ?_)
      refine wy (by first | exact fa | exact faE) ?_
      refine un (h := ?_)
      refine wy (by first | exact ld | exact ldE) ?_
      refine un (h := ?_)
      refine wy notB ?_
      refine wy (by first | exact pkT | exact pkF) ?_
      exact mg (by repeat (first | exact trivial | refine ⟨rfl, ?_⟩ | refine ⟨by rw [hb1]; rfl, ?_⟩)) slz_
    · intro hb1
      repeat (first | refine un (h := ?_) | refine sk (h := ?_) | refine WL.y (hy := pkF) (h := ?_) | refine WL.y (hy := pkT) (h := ?_))
      exact mg (by repeat (first | exact trivial | refine ⟨rfl, ?_⟩ | refine ⟨by rw [hb1]; rfl, ?_⟩)) slz_
    refine wy mv ?_
    apply brOr 4 35 39 (by exact rfl)
    · intro hb2
      refine un (h := ?_)
      refine wy (by first | exact ldA | exact ldEA) ?_
      refine un (h := ?_)
      refine wy (by first | exact ldA | exact ldEA) ?_
      refine un (h := ?_)
      refine cl0 (hc := fun w hS => C_rules_over _ _ w) (h := ?_)
      refine wy (by first | exact pkT | exact pkF) ?_
      exact mg (by repeat (first | exact trivial | refine ⟨rfl, ?_⟩ | refine ⟨by rw [hb2]; rfl, ?_⟩)) slz_
    · intro hb2
      repeat (first | refine un (h := ?_) | refine sk (h := ?_) | refine WL.y (hy := pkF) (h := ?_) | refine WL.y (hy := pkT) (h := ?_))
      exact mg (by repeat (first | exact trivial | refine ⟨rfl, ?_⟩ | refine ⟨by rw [hb2]; rfl, ?_⟩)) slz_
    refine nl (h := ?_)
    refine q_seq (h := ?_)
    refine cd (by exact rfl) (fun h3 => ?_) (fun h3 => ?_)
    · skip
      have hfin : setsTo tb f l l.length = ⟨z.won, 0, false⟩ := by
        have h' : (!(tget (tb (setV f z.won)) p).isSome || !(tat (tb (setV f z.won)) p).2 || overV f z.won) = true := h3
        have hs : setsTo tb f l (z.k + 1) = ⟨z.won, 0, false⟩ := by rw [hstep, setStep]; dsimp only; rw [h']; rfl
        rw [setsTo_stop (j := z.k + 1) (by rw [hs]) (by omega), hs]
      refine sq (h := ?_)
      refine rg (h := ?_)
      refine wy (by first | exact ldA | exact ldEA) ?_
      first | refine stA (h := ?_) | refine stEA (h := ?_)
      refine wy asg ?_
      refine wy asg ?_
      refine nl (h := ?_)
      refine q_seq (h := ?_)
      refine rtn (h := ?_)
      refine q_then_ret (h := ?_)
      refine q_blk_ret (h := ?_)
      refine q_then_ret (h := ?_)
      refine q_then_ret (h := ?_)
      refine q_blk_ret (h := ?_)
      refine q_then_ret (h := ?_)
      refine q_ret (hR := ?_)
      rw [hfin]
      exact fun w hS => ⟨rfl, hS.sub slz_⟩
    · skip
      have h' : (!(tget (tb (setV f z.won)) p).isSome || !(tat (tb (setV f z.won)) p).2 || overV f z.won) = false := h3
      have hsome : (tget (tb (setV f z.won)) p).isSome = true := by simp only [Bool.or_eq_false_iff, Bool.not_eq_false'] at h'; exact h'.1.1
      have hpos : 1 ≤ (tat (tb (setV f z.won)) p).1 := tPos_get (hb2 _) hsome
      refine skp (h := ?_)
      refine q_seq (h := ?_)
      refine sq (h := ?_)
      refine sq (h := ?_)
      refine rgD0 (by kernel_rfl) (h := ?_)
      refine tk 0 (hy := (by first | exact fa | exact faE)) (h := ?_)
      refine tk 1 (hy := (by first | exact ld | exact ldE)) (h := ?_)
      refine tk 2 (hy := mv) (h := ?_)
      refine tk 3 (hy := quoI) (h := ?_)
      refine tk 4 (hy := gtr) (h := ?_)
      refine dn (h := ?_)
      refine q_seq (h := ?_)
      refine cd (by exact rfl) (fun h4 => ?_) (fun h4 => ?_)
      · skip
        have hord : (bif decide (1000000000001 / z.ord < (tat (tb (setV f z.won)) p).1) then 1000000000001 else z.ord * (tat (tb (setV f z.won)) p).1) = 1000000000001 := by rw [h4]; rfl
        have hob : (1 : Int) ≤ 1000000000001 ∧ (1000000000001 : Int) ≤ 1000000000001 := by omega
        refine rg (h := ?_)
        refine wy asg ?_
        refine nl (h := ?_)
        refine q_seq (h := ?_)
        refine sq (h := ?_)
        refine rg (h := ?_)
        refine wy asg ?_
        refine nl (h := ?_)
        refine q_seq (h := ?_)
        refine sq (h := ?_)
        refine sq (h := ?_)
        refine rg (h := ?_)
        refine wy (by first | exact fa | exact faE) ?_
        refine wy (by first | exact ld | exact ldE) ?_
        refine wy (by first | exact fa | exact faE) ?_
        refine wy (by first | exact ld | exact ldE) ?_
        refine wy gtr ?_
        refine nl (h := ?_)
        refine q_seq (h := ?_)
        refine cd (by exact rfl) (fun h5 => ?_) (fun h5 => ?_)
        · skip
          have hsd : setSide p = 1 := by rw [setSide, h5]; rfl
          refine rg (h := ?_)
          refine wy asg ?_
          refine nl (h := ?_)
          refine q_seq (h := ?_)
          refine rg (h := ?_)
          refine wy (by first | exact ldA | exact ldEA) ?_
          refine wy mv ?_
          refine cl0 (hc := fun w hS => C_score_add _ _ (by assumption) w) (h := ?_)
          first | refine stA (h := ?_) | refine stEA (h := ?_)
          refine nl (h := ?_)
          refine q_blk_norm (h := ?_)
          refine q_seq (h := ?_)
          refine rg (h := ?_)
          refine wy addI ?_
          refine wy mv ?_
          refine nl (h := ?_)
          refine rn (x := z) ⟨z.k + 1, addV z.won (setSide p), _⟩ ⟨by dsimp only; omega, by rw [hstep, setStep]; dsimp only; rw [h', hord]; rfl, hob, by have := addV_bd (side := setSide p) hzw; simpa using this⟩ (by dsimp only; omega) sbz_ (by (try dsimp only); rw [hsd]; repeat (first | exact SubL.nil | (apply SubL.cons; (repeat (first | exact At.here | apply At.there)))))
        · skip
          have hsd : setSide p = 0 := by rw [setSide, h5]; rfl
          refine skp (h := ?_)
          refine q_seq (h := ?_)
          refine rg (h := ?_)
          refine wy (by first | exact ldA | exact ldEA) ?_
          refine wy mv ?_
          refine cl0 (hc := fun w hS => C_score_add _ _ (by assumption) w) (h := ?_)
          first | refine stA (h := ?_) | refine stEA (h := ?_)
          refine nl (h := ?_)
          refine q_blk_norm (h := ?_)
          refine q_seq (h := ?_)
          refine rg (h := ?_)
          refine wy addI ?_
          refine wy mv ?_
          refine nl (h := ?_)
          refine rn (x := z) ⟨z.k + 1, addV z.won (setSide p), _⟩ ⟨by dsimp only; omega, by rw [hstep, setStep]; dsimp only; rw [h', hord]; rfl, hob, by have := addV_bd (side := setSide p) hzw; simpa using this⟩ (by dsimp only; omega) sbz_ (by (try dsimp only); rw [hsd]; repeat (first | exact SubL.nil | (apply SubL.cons; (repeat (first | exact At.here | apply At.there)))))
      · skip
        have hord : (bif decide (1000000000001 / z.ord < (tat (tb (setV f z.won)) p).1) then 1000000000001 else z.ord * (tat (tb (setV f z.won)) p).1) = z.ord * (tat (tb (setV f z.won)) p).1 := by rw [h4]; rfl
        have hob : 1 ≤ z.ord * (tat (tb (setV f z.won)) p).1 ∧ z.ord * (tat (tb (setV f z.won)) p).1 ≤ 1000000000001 := by
          have h1 : (tat (tb (setV f z.won)) p).1 ≤ 1000000000001 / z.ord := by simpa using h4
          have h2 := (Int.le_ediv_iff_mul_le (by omega : (0 : Int) < z.ord)).1 h1
          rw [Int.mul_comm] at h2
          exact ⟨Int.mul_pos (by omega) (by omega), h2⟩
        refine rg (h := ?_)
        refine wy mv ?_
        refine wy (by first | exact fa | exact faE) ?_
        refine wy (by first | exact ld | exact ldE) ?_
        refine wy mulI ?_
        refine wy asg ?_
        refine nl (h := ?_)
        refine q_seq (h := ?_)
        refine sq (h := ?_)
        refine rg (h := ?_)
        refine wy asg ?_
        refine nl (h := ?_)
        refine q_seq (h := ?_)
        refine sq (h := ?_)
        refine sq (h := ?_)
        refine rg (h := ?_)
        refine wy (by first | exact fa | exact faE) ?_
        refine wy (by first | exact ld | exact ldE) ?_
        refine wy (by first | exact fa | exact faE) ?_
        refine wy (by first | exact ld | exact ldE) ?_
        refine wy gtr ?_
        refine nl (h := ?_)
        refine q_seq (h := ?_)
        refine cd (by exact rfl) (fun h6 => ?_) (fun h6 => ?_)
        · skip
          have hsd : setSide p = 1 := by rw [setSide, h6]; rfl
          refine rg (h := ?_)
          refine wy asg ?_
          refine nl (h := ?_)
          refine q_seq (h := ?_)
          refine rg (h := ?_)
          refine wy (by first | exact ldA | exact ldEA) ?_
          refine wy mv ?_
          refine cl0 (hc := fun w hS => C_score_add _ _ (by assumption) w) (h := ?_)
          first | refine stA (h := ?_) | refine stEA (h := ?_)
          refine nl (h := ?_)
          refine q_blk_norm (h := ?_)
          refine q_seq (h := ?_)
          refine rg (h := ?_)
          refine wy addI ?_
          refine wy mv ?_
          refine nl (h := ?_)
          refine rn (x := z) ⟨z.k + 1, addV z.won (setSide p), _⟩ ⟨by dsimp only; omega, by rw [hstep, setStep]; dsimp only; rw [h', hord]; rfl, hob, by have := addV_bd (side := setSide p) hzw; simpa using this⟩ (by dsimp only; omega) sbz_ (by (try dsimp only); rw [hsd]; repeat (first | exact SubL.nil | (apply SubL.cons; (repeat (first | exact At.here | apply At.there)))))
        · skip
          have hsd : setSide p = 0 := by rw [setSide, h6]; rfl
          refine skp (h := ?_)
          refine q_seq (h := ?_)
          refine rg (h := ?_)
          refine wy (by first | exact ldA | exact ldEA) ?_
          refine wy mv ?_
          refine cl0 (hc := fun w hS => C_score_add _ _ (by assumption) w) (h := ?_)
          first | refine stA (h := ?_) | refine stEA (h := ?_)
          refine nl (h := ?_)
          refine q_blk_norm (h := ?_)
          refine q_seq (h := ?_)
          refine rg (h := ?_)
          refine wy addI ?_
          refine wy mv ?_
          refine nl (h := ?_)
          refine rn (x := z) ⟨z.k + 1, addV z.won (setSide p), _⟩ ⟨by dsimp only; omega, by rw [hstep, setStep]; dsimp only; rw [h', hord]; rfl, hob, by have := addV_bd (side := setSide p) hzw; simpa using this⟩ (by dsimp only; omega) sbz_ (by (try dsimp only); rw [hsd]; repeat (first | exact SubL.nil | (apply SubL.cons; (repeat (first | exact At.here | apply At.there)))))
  · skip
    have hkn : z.k = n := by simp only [decide_eq_false_iff_not] at h0; omega
    have hfin : setsTo tb f l l.length = ⟨z.won, z.ord, true⟩ := by rw [hlen, ← hkn]; exact hzr
    refine et (h := ?_)
    refine q_then_exit (h := ?_)
    refine q_then_exit (h := ?_)
    refine q_blk_hit (h := ?_)
    refine q_seq (h := ?_)
    refine sq (h := ?_)
    refine rg (h := ?_)
    refine wy (by first | exact ldA | exact ldEA) ?_
    refine wy mv ?_
    first | refine stA (h := ?_) | refine stEA (h := ?_)
    refine wy asg ?_
    refine wy asg ?_
    refine nl (h := ?_)
    refine q_seq (h := ?_)
    refine rtn (h := ?_)
    refine q_ret (hR := ?_)
    rw [hfin]
    exact fun w hS => ⟨rfl, hS.sub slz_⟩
theorem tOk_table (f : Fmt) (s : Pr) : tOk (tableV f s) := tOk_tbl f s 82
theorem tPos_table (f : Fmt) (s : Pr) : tPos (tableV f s) := tPos_tbl f s 82
end Go.Proofs.YtpmmgljndceplaaGreat

namespace Go.Proofs.YtpmmgljndceplaaGreat
open Go Go.RowKit

theorem brd_len {b : Brd} (h : brdOk b = true) : b.st.length ≤ 5 := by
  simp only [brdOk, Bool.and_eq_true, decide_eq_true_eq] at h
  omega
theorem brd_fit {b : Brd} (h : brdOk b = true) : ∀ p ∈ b.all, (0 ≤ p.1 ∧ p.1 ≤ 40) ∧ 0 ≤ p.2 ∧ p.2 ≤ 40 := fun p hp => by
  simp only [brdOk, Bool.and_eq_true, Bool.not_eq_true', List.any_eq_false] at h
  have := h.2 p hp
  have h2 : fitP p = true := by simpa using this
  simp only [fitP, Bool.and_eq_true, wi_iff] at h2
  exact h2

end Go.Proofs.YtpmmgljndceplaaGreat

namespace Go.Proofs.YtpmmgljndceplaaGreat
open Go Go.RowKit

def isZ (p : Pr) : Bool := decide ([p.1, p.2] = [(0 : Int), 0])
def befV (f : Fmt) (s : Pr) (tie : Bool) (p : Pr) : Bool := decide (0 ≤ min p.1 p.2) && decide (gameV f s tie p < 0)
def arisesT (tb : Pr → Tb) (f : Fmt) (b : Brd) : Pr × Bool :=
  bif !(setsTo tb f b.st b.st.length).ok then ((setsTo tb f b.st b.st.length).won, false)
  else bif overV f (setsTo tb f b.st b.st.length).won then ((setsTo tb f b.st b.st.length).won, isZ b.g && isZ b.p)
  else bif !(tget (tb (setV f (setsTo tb f b.st b.st.length).won)) b.g).isSome || (tat (tb (setV f (setsTo tb f b.st b.st.length).won)) b.g).2 then ((setsTo tb f b.st b.st.length).won, false)
  else bif isZ b.p then ((setsTo tb f b.st b.st.length).won, true)
  else ((setsTo tb f b.st b.st.length).won, (befV f (setV f (setsTo tb f b.st b.st.length).won) (brksV (setV f (setsTo tb f b.st b.st.length).won) b.g) (b.p.1 - 1, b.p.2) || befV f (setV f (setsTo tb f b.st b.st.length).won) (brksV (setV f (setsTo tb f b.st b.st.length).won) b.g) (b.p.1, b.p.2 - 1)) && befV f (setV f (setsTo tb f b.st b.st.length).won) (brksV (setV f (setsTo tb f b.st b.st.length).won) b.g) b.p)
def arisesV (f : Fmt) (b : Brd) : Pr × Bool := arisesT (tableV f) f b

theorem T_arises1 (f : Fmt) (s : Pr) (tie : Bool) (p : Pr) (hp : Sm p) (a0 a1 a2 : Nat) :
    Tr Tryz.prog 83 [pv p, .pointer (some ⟨a0, 0, none⟩), .pointer (some ⟨a1, 0, none⟩), .pointer (some ⟨a2, 0, none⟩)] [.blk a0 91 f.cells, .blk a1 107 [.int .i64 s.1, .int .i64 s.2], .blk a2 4 [.bool tie]] (fun _ : Unit => True) (fun _ => .bool (befV f s tie p)) (fun _ => [.blk a0 91 f.cells, .blk a1 107 [.int .i64 s.1, .int .i64 s.2], .blk a2 4 [.bool tie]]) := by
  refine ⟨fun w0 w R hst => ?_⟩
  refine en Tryz.func83 Tryz.ntmps83 hst (h := fun F => ?_)
  refine sq (h := ?_)
  refine rg (h := ?_)
  refine bxA (h := fun b0 => ?_)
  refine wy asg ?_
  refine nl (h := ?_)
  refine q_seq (h := ?_)
  refine sq (h := ?_)
  refine rg (h := ?_)
  refine wy (by first | exact fa | exact faE) ?_
  refine wy (by first | exact ld | exact ldE) ?_
  refine wy (by first | exact fa | exact faE) ?_
  refine wy (by first | exact ld | exact ldE) ?_
  refine wy minI ?_
  refine wy geq ?_
  refine wy mv ?_
  apply brAnd 7 12 19 (by exact rfl)
  · intro hb0
    refine un (h := ?_)
    refine wy (by first | exact ldA | exact ldEA) ?_
    refine un (h := ?_)
    refine wy (by first | exact ldA | exact ldEA) ?_
    refine un (h := ?_)
    refine wy (by first | exact ld | exact ldE) ?_
    refine un (h := ?_)
    refine wy (by first | exact ldA | exact ldEA) ?_
    refine un (h := ?_)
    refine cl0 (hc := fun w hS => C_rules_game f s tie p hp w) (h := ?_)
    refine un (h := ?_)
    refine wy lss ?_
    refine wy (by first | exact pkT | exact pkF) ?_
    exact mg (by repeat (first | exact trivial | refine ⟨rfl, ?_⟩ | refine ⟨by rw [hb0]; rfl, ?_⟩)) slz_
  · intro hb0
    repeat (first | refine un (h := ?_) | refine sk (h := ?_) | refine WL.y (hy := pkF) (h := ?_) | refine WL.y (hy := pkT) (h := ?_))
    exact mg (by repeat (first | exact trivial | refine ⟨rfl, ?_⟩ | refine ⟨by rw [hb0]; rfl, ?_⟩)) slz_
  refine wy asg ?_
  refine nl (h := ?_)
  refine q_seq (h := ?_)
  refine rtn (h := ?_)
  refine q_ret (hR := ?_)
  exact fun w hS => ⟨(), trivial, rfl, hS.sub slz_⟩

set_option maxRecDepth 100000 in
set_option maxHeartbeats 2000000 in
theorem C_rules_arises' (tb : Pr → Tb) (f : Fmt) (b : Brd) (hb1 : ∀ s, tOk (tb s)) (hb2 : ∀ s, tPos (tb s)) (hb3 : ∀ (s : Pr) (w : World), CR Tryz.prog 81 [f.val, pv s] w (fun x : Nat × Array MapEntry × Nat => MapIs x.2.1 (encT (tb s))) (fun x => .map (some x.1)) (fun x => [.obj x.1 (.map x.2.1 x.2.2)])) (hf : f.Ok) (hbp : (0 ≤ b.p.1 ∧ b.p.1 ≤ 1000) ∧ 0 ≤ b.p.2 ∧ b.p.2 ≤ 1000) (A : Option Addr) (n c : Nat) (w : World) (h : Rd w A 2 n (encP b.st)) (hn : n ≤ 1000) :
    C0 Tryz.prog 49 [f.val, b.val A n c] w (.tuple #[pv (arisesT tb f b).1, .bool (arisesT tb f b).2]) := by
  have hSp : Sm b.p := sm_of hbp (by omega)
  have hSp1 : Sm (b.p.1 - 1, b.p.2) := ⟨by dsimp only; omega, by dsimp only; omega⟩
  have hSp2 : Sm (b.p.1, b.p.2 - 1) := ⟨by dsimp only; omega, by dsimp only; omega⟩
  obtain ⟨r, hr⟩ : ∃ r, r = setsTo tb f b.st b.st.length := ⟨_, rfl⟩
  unfold arisesT
  rw [← hr]
  refine ⟨en Tryz.func49 Tryz.ntmps49 ((St.init w).share (e := .ro A 2 n (encP b.st)) h rfl rfl rfl) (h := fun F => ?_)⟩
  refine sq (h := ?_)
  refine rg (h := ?_)
  refine bxA (h := fun b0 => ?_)
  refine bxA (h := fun b1 => ?_)
  refine al (h := fun b2 => ?_)
  refine wy asg ?_
  refine nl (h := ?_)
  refine q_seq (h := ?_)
  refine sq (h := ?_)
  refine rg (h := ?_)
  refine wy (by first | exact ldA | exact ldEA) ?_
  refine wy (by first | exact fa | exact faE) ?_
  refine wy (by first | exact ld | exact ldE) ?_
  refine cl0 (hc := fun w hS => C_rules_sets' tb f b.st hb1 hb2 hb3 hf A n c w (hS.get rdz_) hn) (h := ?_)
  rw [← hr]
  refine wy mv ?_
  refine wy ex ?_
  refine wy ex ?_
  refine wy ex ?_
  first | refine stA (h := ?_) | refine stEA (h := ?_)
  refine wy asg ?_
  refine nl (h := ?_)
  refine q_seq (h := ?_)
  refine sq (h := ?_)
  refine sq (h := ?_)
  refine rg (h := ?_)
  refine wy mv ?_
  refine wy notB ?_
  refine nl (h := ?_)
  refine q_seq (h := ?_)
  refine cd (by exact rfl) (fun h0 => ?_) (fun h0 => ?_)
  · skip
    refine sq (h := ?_)
    refine rg (h := ?_)
    refine wy (by first | exact ldA | exact ldEA) ?_
    first | refine stA (h := ?_) | refine stEA (h := ?_)
    refine wy asg ?_
    refine nl (h := ?_)
    refine q_seq (h := ?_)
    refine rtn (h := ?_)
    refine q_then_ret (h := ?_)
    refine q_ret (hR := ?_)
    exact fun w hS => ⟨by rw [h0]; rfl, hS.sub slz_⟩
  · skip
    have kA : (!r.ok) = false := h0
    refine skp (h := ?_)
    refine q_seq (h := ?_)
    refine sq (h := ?_)
    refine sq (h := ?_)
    refine rg (h := ?_)
    refine wy (by first | exact ldA | exact ldEA) ?_
    refine wy (by first | exact ldA | exact ldEA) ?_
    refine cl0 (hc := fun w hS => C_rules_over _ _ w) (h := ?_)
    refine nl (h := ?_)
    refine q_seq (h := ?_)
    refine cd (by exact rfl) (fun h1 => ?_) (fun h1 => ?_)
    · skip
      have kB : overV f r.won = true := h1
      refine sq (h := ?_)
      refine rgD (by kernel_rfl) [(11, .blk b2 38 [.int .i64 r.won.1, .int .i64 r.won.2]), (1000000, .blk b1 40 (b.cells A n c))] (by repeat (first | exact HS.nil | (apply HS.keep; (repeat (first | exact At.here | apply At.there))) | (apply HS.ro; (repeat (first | exact Rds.ro | exact Rds.own | apply Rds.there))))) (h := ?_)
      refine tk 0 (hy := (by first | exact ldA | exact ldEA)) (h := ?_)
      refine tk 1 (hy := (by first | exact fa | exact faE)) (h := ?_)
      refine tk 2 (hy := (by first | exact ldA | exact ldEA)) (h := ?_)
      refine tk 3 (hy := bd) (h := ?_)
      refine tk 4 (hy := eqlT) (h := ?_)
      refine tk 5 (hy := mv) (h := ?_)
      refine brH (g := 32) (by exact rfl) (fun hb2 => ?_) (fun hb2 => ?_)
      · skip
        have kZ : isZ b.g = true := hb2
        refine tk 6 (hy := (by first | exact fa | exact faE)) (h := ?_)
        refine tk 7 (hy := (by first | exact ldA | exact ldEA)) (h := ?_)
        refine tk 8 (hy := bd) (h := ?_)
        refine tk 9 (hy := eqlT) (h := ?_)
        refine tk 10 (hy := (by first | exact pkT | exact pkF)) (h := ?_)
        refine one 11 (h := ?_)
        first | refine stA (h := ?_) | refine stEA (h := ?_)
        refine nx (h := ?_)
        refine tk 12 (hy := asg) (h := ?_)
        refine dn (h := ?_)
        refine q_seq (h := ?_)
        refine rtn (h := ?_)
        refine q_then_ret (h := ?_)
        refine q_ret (hR := ?_)
        first
          | (rw [kA, kB, kC, kD, kE]; exact fun w hS => ⟨rfl, hS.sub slz_⟩)
          | (rw [kA, kB, kC, kD]; exact fun w hS => ⟨rfl, hS.sub slz_⟩)
          | (rw [kA, kB, kC]; exact fun w hS => ⟨rfl, hS.sub slz_⟩)
          | (rw [kA, kB, kZ]; exact fun w hS => ⟨rfl, hS.sub slz_⟩)
      · skip
        have kZ : isZ b.g = false := hb2
        refine tkS 6 (h := ?_)
        refine tkS 7 (h := ?_)
        refine tkS 8 (h := ?_)
        refine tkS 9 (h := ?_)
        refine tk 10 (hy := (by first | exact pkT | exact pkF)) (h := ?_)
        refine one 11 (h := ?_)
        first | refine stA (h := ?_) | refine stEA (h := ?_)
        refine nx (h := ?_)
        refine tk 12 (hy := asg) (h := ?_)
        refine dn (h := ?_)
        refine q_seq (h := ?_)
        refine rtn (h := ?_)
        refine q_then_ret (h := ?_)
        refine q_ret (hR := ?_)
        first
          | (rw [kA, kB, kC, kD, kE]; exact fun w hS => ⟨rfl, hS.sub slz_⟩)
          | (rw [kA, kB, kC, kD]; exact fun w hS => ⟨rfl, hS.sub slz_⟩)
          | (rw [kA, kB, kC]; exact fun w hS => ⟨rfl, hS.sub slz_⟩)
          | (rw [kA, kB, kZ]; exact fun w hS => ⟨rfl, hS.sub slz_⟩)
    · skip
      have kB : overV f r.won = false := h1
      refine skp (h := ?_)
      refine q_seq (h := ?_)
      refine sq (h := ?_)
      refine rg (h := ?_)
      refine wy (by first | exact ldA | exact ldEA) ?_
      refine wy (by first | exact ldA | exact ldEA) ?_
      refine cl0 (hc := fun w hS => C_rules_set _ _ (by assumption) w) (h := ?_)
      refine al (h := fun b3 => ?_)
      first | refine stA (h := ?_) | refine stEA (h := ?_)
      refine nl (h := ?_)
      refine q_seq (h := ?_)
      refine ct (X := Nat) (fun _ => True) (fun x => [(2, .pointer (some ⟨b0, 0, none⟩)), (3, .pointer (some ⟨b1, 0, none⟩)), (4, .pointer (some ⟨b2, 0, none⟩)), (6, .pointer (some ⟨b3, 0, none⟩)), (7, .pointer (some ⟨x, 0, none⟩)), (8, .bool (tget (tb (setV f r.won)) b.g).isSome)]) (fun x => [.blk x 167 [.int .i64 (tat (tb (setV f r.won)) b.g).1, .bool (tat (tb (setV f r.won)) b.g).2], .blk b0 91 f.cells, .blk b1 40 (b.cells A n c), .blk b2 38 [.int .i64 r.won.1, .int .i64 r.won.2], .blk b3 107 [.int .i64 (setV f r.won).1, .int .i64 (setV f r.won).2]]) (h1 := ?_) (h2 := ?_)
      · skip
        refine rgD (by kernel_rfl) [(1000000, .blk b0 91 f.cells), (1000000, .blk b3 107 [.int .i64 (setV f r.won).1, .int .i64 (setV f r.won).2]), (1000000, .blk b1 40 (b.cells A n c))] (by repeat (first | exact HS.nil | (apply HS.keep; (repeat (first | exact At.here | apply At.there))) | (apply HS.ro; (repeat (first | exact Rds.ro | exact Rds.own | apply Rds.there))))) (h := ?_)
        refine tk 0 (hy := (by first | exact ldA | exact ldEA)) (h := ?_)
        refine tk 1 (hy := (by first | exact ldA | exact ldEA)) (h := ?_)
        refine tk 3 (hy := (by first | exact fa | exact faE)) (h := ?_)
        refine tk 4 (hy := (by first | exact ldA | exact ldEA)) (h := ?_)
        refine two 2 9 (h1 := ?_) (h2 := ?_)
        · skip
          refine cl (hc := fun w hS => hb3 (setV f r.won) w) (h := fun xt hxt => ?_)
          refine nx (h := ?_)
          refine two 5 9 (h1 := ?_) (h2 := ?_)
          · skip
            refine wy (lkC (kv := encT (tb (setV f r.won))) (hm := hxt) (hs := encT_shape _)) ?_
            rw [lkp_enc (p := b.g), getD_tat, isSome_enc]
            refine nx (h := ?_)
            refine tk 6 (hy := mv) (h := ?_)
            refine tk 7 (hy := ex) (h := ?_)
            refine tk 8 (hy := ex) (h := ?_)
            refine one 9 (h := ?_)
            refine al (h := fun b4 => ?_)
            refine nx (h := ?_)
            refine one 10 (h := ?_)
            first | refine stA (h := ?_) | refine stEA (h := ?_)
            refine nx (h := ?_)
            refine tk 11 (hy := asg) (h := ?_)
            refine dn (h := ?_)
            exact ctn _ trivial sbz_ slz_
          · skip
            refine al (h := fun b5 => ?_)
            refine nx (h := ?_)
            refine one 5 (h := ?_)
            refine wy (lkC (kv := encT (tb (setV f r.won))) (hm := hxt) (hs := encT_shape _)) ?_
            rw [lkp_enc (p := b.g), getD_tat, isSome_enc]
            refine nx (h := ?_)
            refine tk 6 (hy := mv) (h := ?_)
            refine tk 7 (hy := ex) (h := ?_)
            refine tk 8 (hy := ex) (h := ?_)
            refine one 10 (h := ?_)
            first | refine stA (h := ?_) | refine stEA (h := ?_)
            refine nx (h := ?_)
            refine tk 11 (hy := asg) (h := ?_)
            refine dn (h := ?_)
            exact ctn _ trivial sbz_ slz_
        · skip
          refine al (h := fun b6 => ?_)
          refine nx (h := ?_)
          refine one 2 (h := ?_)
          refine cl (hc := fun w hS => hb3 (setV f r.won) w) (h := fun xt hxt => ?_)
          refine nx (h := ?_)
          refine one 5 (h := ?_)
          refine wy (lkC (kv := encT (tb (setV f r.won))) (hm := hxt) (hs := encT_shape _)) ?_
          rw [lkp_enc (p := b.g), getD_tat, isSome_enc]
          refine nx (h := ?_)
          refine tk 6 (hy := mv) (h := ?_)
          refine tk 7 (hy := ex) (h := ?_)
          refine tk 8 (hy := ex) (h := ?_)
          refine one 10 (h := ?_)
          first | refine stA (h := ?_) | refine stEA (h := ?_)
          refine nx (h := ?_)
          refine tk 11 (hy := asg) (h := ?_)
          refine dn (h := ?_)
          exact ctn _ trivial sbz_ slz_
      rintro x7 -
      obtain ⟨x6, hx6⟩ : ∃ x6, x6 = b3 := ⟨_, rfl⟩
      rw [← hx6]
      refine sq (h := ?_)
      refine sq (h := ?_)
      refine rg (h := ?_)
      refine wy mv ?_
      refine wy notB ?_
      refine wy mv ?_
      apply brOr 3 52 55 (by exact rfl)
      · intro hb3
        refine un (h := ?_)
        refine wy (by first | exact fa | exact faE) ?_
        refine un (h := ?_)
        refine wy (by first | exact ld | exact ldE) ?_
        refine wy (by first | exact pkT | exact pkF) ?_
        exact mg (by repeat (first | exact trivial | refine ⟨rfl, ?_⟩ | refine ⟨by rw [hb3]; rfl, ?_⟩)) slz_
      · intro hb3
        repeat (first | refine un (h := ?_) | refine sk (h := ?_) | refine WL.y (hy := pkF) (h := ?_) | refine WL.y (hy := pkT) (h := ?_))
        exact mg (by repeat (first | exact trivial | refine ⟨rfl, ?_⟩ | refine ⟨by rw [hb3]; rfl, ?_⟩)) slz_
      refine nl (h := ?_)
      refine q_seq (h := ?_)
      refine cd (by exact rfl) (fun h4 => ?_) (fun h4 => ?_)
      · skip
        have kC : (!(tget (tb (setV f r.won)) b.g).isSome || (tat (tb (setV f r.won)) b.g).2) = true := h4
        refine sq (h := ?_)
        refine rg (h := ?_)
        refine wy (by first | exact ldA | exact ldEA) ?_
        first | refine stA (h := ?_) | refine stEA (h := ?_)
        refine wy asg ?_
        refine nl (h := ?_)
        refine q_seq (h := ?_)
        refine rtn (h := ?_)
        refine q_then_ret (h := ?_)
        refine q_ret (hR := ?_)
        first
          | (rw [kA, kB, kC, kD, kE]; exact fun w hS => ⟨rfl, hS.sub slz_⟩)
          | (rw [kA, kB, kC, kD]; exact fun w hS => ⟨rfl, hS.sub slz_⟩)
          | (rw [kA, kB, kC]; exact fun w hS => ⟨rfl, hS.sub slz_⟩)
          | (rw [kA, kB, kZ]; exact fun w hS => ⟨rfl, hS.sub slz_⟩)
      · skip
        have kC : (!(tget (tb (setV f r.won)) b.g).isSome || (tat (tb (setV f r.won)) b.g).2) = false := h4
        refine skp (h := ?_)
        refine q_seq (h := ?_)
        refine ct (X := Nat × Nat) (fun _ => True) (fun x => [(2, .pointer (some ⟨b0, 0, none⟩)), (3, .pointer (some ⟨b1, 0, none⟩)), (4, .pointer (some ⟨b2, 0, none⟩)), (6, .pointer (some ⟨x6, 0, none⟩)), (9, .pointer (some ⟨x.1, 0, none⟩)), (10, .pointer (some ⟨x.2, 0, none⟩))]) (fun x => [.blk x.1 4 [.bool (brksV (setV f r.won) b.g)], .blk x.2 38 [.int .i64 b.p.1, .int .i64 b.p.2], .blk b0 91 f.cells, .blk b1 40 (b.cells A n c), .blk b2 38 [.int .i64 r.won.1, .int .i64 r.won.2], .blk x6 107 [.int .i64 (setV f r.won).1, .int .i64 (setV f r.won).2]]) (h1 := ?_) (h2 := ?_)
        · skip
          refine rgD (by kernel_rfl) [(1000000, .blk x6 107 [.int .i64 (setV f r.won).1, .int .i64 (setV f r.won).2]), (1000000, .blk b1 40 (b.cells A n c))] (by repeat (first | exact HS.nil | (apply HS.keep; (repeat (first | exact At.here | apply At.there))) | (apply HS.ro; (repeat (first | exact Rds.ro | exact Rds.own | apply Rds.there))))) (h := ?_)
          refine tk 0 (hy := (by first | exact ldA | exact ldEA)) (h := ?_)
          refine tk 1 (hy := (by first | exact fa | exact faE)) (h := ?_)
          refine tk 2 (hy := (by first | exact ldA | exact ldEA)) (h := ?_)
          refine tk 4 (hy := (by first | exact fa | exact faE)) (h := ?_)
          refine tk 5 (hy := (by first | exact ldA | exact ldEA)) (h := ?_)
          refine fan [3, 6, 7] (h := ⟨⟨_, by exact rfl, ?_⟩, ⟨_, by exact rfl, ?_⟩, ⟨_, by exact rfl, ?_⟩, trivial⟩)
          · skip
            refine cl0 (hc := fun w hS => C_set_breaks (setV f r.won) b.g w) (h := ?_)
            refine nx (h := ?_)
            refine two 6 7 (h1 := ?_) (h2 := ?_)
            · skip
              refine al (h := fun b7 => ?_)
              refine nx (h := ?_)
              refine one 7 (h := ?_)
              refine al (h := fun b8 => ?_)
              refine nx (h := ?_)
              refine one 8 (h := ?_)
              first | refine st (h := ?_) | refine stE (h := ?_)
              refine nx (h := ?_)
              refine one 9 (h := ?_)
              first | refine stA (h := ?_) | refine stEA (h := ?_)
              refine nx (h := ?_)
              refine dn (h := ?_)
              exact ctn ⟨_, _⟩ trivial sbz_ slz_
            · skip
              refine al (h := fun b9 => ?_)
              refine nx (h := ?_)
              refine one 6 (h := ?_)
              refine al (h := fun b10 => ?_)
              refine nx (h := ?_)
              refine one 8 (h := ?_)
              first | refine st (h := ?_) | refine stE (h := ?_)
              refine nx (h := ?_)
              refine one 9 (h := ?_)
              first | refine stA (h := ?_) | refine stEA (h := ?_)
              refine nx (h := ?_)
              refine dn (h := ?_)
              exact ctn ⟨_, _⟩ trivial sbz_ slz_
          · skip
            refine al (h := fun b11 => ?_)
            refine nx (h := ?_)
            refine two 3 7 (h1 := ?_) (h2 := ?_)
            · skip
              refine cl0 (hc := fun w hS => C_set_breaks (setV f r.won) b.g w) (h := ?_)
              refine nx (h := ?_)
              refine one 7 (h := ?_)
              refine al (h := fun b12 => ?_)
              refine nx (h := ?_)
              refine one 8 (h := ?_)
              first | refine st (h := ?_) | refine stE (h := ?_)
              refine nx (h := ?_)
              refine one 9 (h := ?_)
              first | refine stA (h := ?_) | refine stEA (h := ?_)
              refine nx (h := ?_)
              refine dn (h := ?_)
              exact ctn ⟨_, _⟩ trivial sbz_ slz_
            · skip
              refine al (h := fun b13 => ?_)
              refine nx (h := ?_)
              refine one 3 (h := ?_)
              refine cl0 (hc := fun w hS => C_set_breaks (setV f r.won) b.g w) (h := ?_)
              refine nx (h := ?_)
              refine one 8 (h := ?_)
              first | refine st (h := ?_) | refine stE (h := ?_)
              refine nx (h := ?_)
              refine one 9 (h := ?_)
              first | refine stA (h := ?_) | refine stEA (h := ?_)
              refine nx (h := ?_)
              refine dn (h := ?_)
              exact ctn ⟨_, _⟩ trivial sbz_ slz_
          · skip
            refine al (h := fun b14 => ?_)
            refine nx (h := ?_)
            refine two 3 6 (h1 := ?_) (h2 := ?_)
            · skip
              refine cl0 (hc := fun w hS => C_set_breaks (setV f r.won) b.g w) (h := ?_)
              refine nx (h := ?_)
              refine one 6 (h := ?_)
              refine al (h := fun b15 => ?_)
              refine nx (h := ?_)
              refine one 8 (h := ?_)
              first | refine st (h := ?_) | refine stE (h := ?_)
              refine nx (h := ?_)
              refine one 9 (h := ?_)
              first | refine stA (h := ?_) | refine stEA (h := ?_)
              refine nx (h := ?_)
              refine dn (h := ?_)
              exact ctn ⟨_, _⟩ trivial sbz_ slz_
            · skip
              refine al (h := fun b16 => ?_)
              refine nx (h := ?_)
              refine one 3 (h := ?_)
              refine cl0 (hc := fun w hS => C_set_breaks (setV f r.won) b.g w) (h := ?_)
              refine nx (h := ?_)
              refine one 8 (h := ?_)
              first | refine st (h := ?_) | refine stE (h := ?_)
              refine nx (h := ?_)
              refine one 9 (h := ?_)
              first | refine stA (h := ?_) | refine stEA (h := ?_)
              refine nx (h := ?_)
              refine dn (h := ?_)
              exact ctn ⟨_, _⟩ trivial sbz_ slz_
        rintro ⟨x9, x10⟩ -
        refine sq (h := ?_)
        refine rg (h := ?_)
        refine wy mkf ?_
        refine wy asg ?_
        refine nl (h := ?_)
        refine q_seq (h := ?_)
        refine sq (h := ?_)
        refine sq (h := ?_)
        refine rg (h := ?_)
        refine wy (by first | exact ldA | exact ldEA) ?_
        refine wy bd ?_
        refine wy eqlT ?_
        refine nl (h := ?_)
        refine q_seq (h := ?_)
        refine cd (by exact rfl) (fun h5 => ?_) (fun h5 => ?_)
        · skip
          have kD : isZ b.p = true := h5
          refine sq (h := ?_)
          refine rg (h := ?_)
          refine wy (by first | exact ldA | exact ldEA) ?_
          first | refine stA (h := ?_) | refine stEA (h := ?_)
          refine wy asg ?_
          refine nl (h := ?_)
          refine q_seq (h := ?_)
          refine rtn (h := ?_)
          refine q_then_ret (h := ?_)
          refine q_ret (hR := ?_)
          first
            | (rw [kA, kB, kC, kD, kE]; exact fun w hS => ⟨rfl, hS.sub slz_⟩)
            | (rw [kA, kB, kC, kD]; exact fun w hS => ⟨rfl, hS.sub slz_⟩)
            | (rw [kA, kB, kC]; exact fun w hS => ⟨rfl, hS.sub slz_⟩)
            | (rw [kA, kB, kZ]; exact fun w hS => ⟨rfl, hS.sub slz_⟩)
        · skip
          have kD : isZ b.p = false := h5
          refine skp (h := ?_)
          refine q_seq (h := ?_)
          refine sq (h := ?_)
          refine rg (h := ?_)
          refine wy mv ?_
          refine wy (by first | exact fa | exact faE) ?_
          refine wy (by first | exact ld | exact ldE) ?_
          refine wy subI ?_
          refine wy (by first | exact fa | exact faE) ?_
          refine wy (by first | exact ld | exact ldE) ?_
          refine wy bd ?_
          refine clfT inferInstance (fi := []) (cap := [.pointer (some ⟨b0, 0, none⟩), .pointer (some ⟨x6, 0, none⟩), .pointer (some ⟨x9, 0, none⟩)]) (by exact rfl) (by repeat (first | exact Evs.nil | (apply Evs.cons; exact rfl))) (T_arises1 f (setV f r.won) (brksV (setV f r.won) b.g) (b.p.1 - 1, b.p.2) hSp1 b0 x6 x9) rfl (by repeat (first | exact Spl.nil | (apply Spl.cons; (repeat (first | exact At.here | apply At.there))))) (h := fun _ _ => ?_)
          refine wy mv ?_
          apply brOr 9 76 85 (by exact rfl)
          · intro hb6
            refine un (h := ?_)
            refine wy mv ?_
            refine un (h := ?_)
            refine wy (by first | exact fa | exact faE) ?_
            refine un (h := ?_)
            refine wy (by first | exact ld | exact ldE) ?_
            refine un (h := ?_)
            refine wy (by first | exact fa | exact faE) ?_
            refine un (h := ?_)
            refine wy (by first | exact ld | exact ldE) ?_
            refine un (h := ?_)
            refine wy subI ?_
            refine un (h := ?_)
            refine wy bd ?_
            refine un (h := ?_)
            refine clfT inferInstance (fi := []) (cap := [.pointer (some ⟨b0, 0, none⟩), .pointer (some ⟨x6, 0, none⟩), .pointer (some ⟨x9, 0, none⟩)]) (by exact rfl) (by repeat (first | exact Evs.nil | (apply Evs.cons; exact rfl))) (T_arises1 f (setV f r.won) (brksV (setV f r.won) b.g) (b.p.1, b.p.2 - 1) hSp2 b0 x6 x9) rfl (by repeat (first | exact Spl.nil | (apply Spl.cons; (repeat (first | exact At.here | apply At.there))))) (h := fun _ _ => ?_)
            refine wy (by first | exact pkT | exact pkF) ?_
            exact mg (by repeat (first | exact trivial | refine ⟨rfl, ?_⟩ | refine ⟨by rw [hb6]; rfl, ?_⟩)) slz_
          · intro hb6
            repeat (first | refine un (h := ?_) | refine sk (h := ?_) | refine WL.y (hy := pkF) (h := ?_) | refine WL.y (hy := pkT) (h := ?_))
            exact mg (by repeat (first | exact trivial | refine ⟨rfl, ?_⟩ | refine ⟨by rw [hb6]; rfl, ?_⟩)) slz_
          refine wy asg ?_
          refine nl (h := ?_)
          refine q_seq (h := ?_)
          refine sq (h := ?_)
          refine rgD (by kernel_rfl) [(7, .blk b2 38 [.int .i64 r.won.1, .int .i64 r.won.2]), (1000000, .blk x10 38 [.int .i64 b.p.1, .int .i64 b.p.2])] (by repeat (first | exact HS.nil | (apply HS.keep; (repeat (first | exact At.here | apply At.there))) | (apply HS.ro; (repeat (first | exact Rds.ro | exact Rds.own | apply Rds.there))))) (h := ?_)
          refine tk 0 (hy := (by first | exact ldA | exact ldEA)) (h := ?_)
          refine tk 1 (hy := mv) (h := ?_)
          refine tk 2 (hy := mv) (h := ?_)
          refine brH (g := 88) (by exact rfl) (fun hb7 => ?_) (fun hb7 => ?_)
          · skip
            have kE : (befV f (setV f r.won) (brksV (setV f r.won) b.g) (b.p.1 - 1, b.p.2) || befV f (setV f r.won) (brksV (setV f r.won) b.g) (b.p.1, b.p.2 - 1)) = true := hb7
            refine tk 3 (hy := mv) (h := ?_)
            refine tk 4 (hy := (by first | exact ldA | exact ldEA)) (h := ?_)
            refine one 5 (h := ?_)
            refine un (h := ?_)
            refine clfT inferInstance (fi := []) (cap := [.pointer (some ⟨b0, 0, none⟩), .pointer (some ⟨x6, 0, none⟩), .pointer (some ⟨x9, 0, none⟩)]) (by exact rfl) (by repeat (first | exact Evs.nil | (apply Evs.cons; exact rfl))) (T_arises1 f (setV f r.won) (brksV (setV f r.won) b.g) b.p hSp b0 x6 x9) rfl (by repeat (first | exact Spl.nil | (apply Spl.cons; (repeat (first | exact At.here | apply At.there))))) (h := fun _ _ => ?_)
            refine nx (h := ?_)
            refine tk 6 (hy := (by first | exact pkT | exact pkF)) (h := ?_)
            refine one 7 (h := ?_)
            first | refine stA (h := ?_) | refine stEA (h := ?_)
            refine nx (h := ?_)
            refine tk 8 (hy := asg) (h := ?_)
            refine dn (h := ?_)
            refine q_seq (h := ?_)
            refine rtn (h := ?_)
            refine q_ret (hR := ?_)
            first
              | (rw [kA, kB, kC, kD, kE]; exact fun w hS => ⟨rfl, hS.sub slz_⟩)
              | (rw [kA, kB, kC, kD]; exact fun w hS => ⟨rfl, hS.sub slz_⟩)
              | (rw [kA, kB, kC]; exact fun w hS => ⟨rfl, hS.sub slz_⟩)
              | (rw [kA, kB, kZ]; exact fun w hS => ⟨rfl, hS.sub slz_⟩)
          · skip
            have kE : (befV f (setV f r.won) (brksV (setV f r.won) b.g) (b.p.1 - 1, b.p.2) || befV f (setV f r.won) (brksV (setV f r.won) b.g) (b.p.1, b.p.2 - 1)) = false := hb7
            refine tkS 3 (h := ?_)
            refine tkS 4 (h := ?_)
            refine tkS 5 (h := ?_)
            refine tk 6 (hy := (by first | exact pkT | exact pkF)) (h := ?_)
            refine one 7 (h := ?_)
            first | refine stA (h := ?_) | refine stEA (h := ?_)
            refine nx (h := ?_)
            refine tk 8 (hy := asg) (h := ?_)
            refine dn (h := ?_)
            refine q_seq (h := ?_)
            refine rtn (h := ?_)
            refine q_ret (hR := ?_)
            first
              | (rw [kA, kB, kC, kD, kE]; exact fun w hS => ⟨rfl, hS.sub slz_⟩)
              | (rw [kA, kB, kC, kD]; exact fun w hS => ⟨rfl, hS.sub slz_⟩)
              | (rw [kA, kB, kC]; exact fun w hS => ⟨rfl, hS.sub slz_⟩)
              | (rw [kA, kB, kZ]; exact fun w hS => ⟨rfl, hS.sub slz_⟩)
theorem C_rules_arises (f : Fmt) (b : Brd) (hf : f.Ok) (hbp : (0 ≤ b.p.1 ∧ b.p.1 ≤ 1000) ∧ 0 ≤ b.p.2 ∧ b.p.2 ≤ 1000) (A : Option Addr) (n c : Nat) (w : World) (h : Rd w A 2 n (encP b.st)) (hn : n ≤ 1000) :
    C0 Tryz.prog 49 [f.val, b.val A n c] w (.tuple #[pv (arisesV f b).1, .bool (arisesV f b).2]) :=
  C_rules_arises' (tableV f) f b (tOk_table f) (tPos_table f) (C_rules_table f) hf hbp A n c w h hn
end Go.Proofs.YtpmmgljndceplaaGreat

namespace Go.Proofs.YtpmmgljndceplaaGreat
open Go Go.RowKit

end Go.Proofs.YtpmmgljndceplaaGreat

namespace Go.Proofs.YtpmmgljndceplaaGreat
open Go Go.RowKit

end Go.Proofs.YtpmmgljndceplaaGreat

namespace Go.Proofs.YtpmmgljndceplaaGreat
open Go Go.RowKit

def WonOk (f : Fmt) (p : Pr) : Prop := (0 ≤ p.1 ∧ p.1 ≤ f.sets) ∧ 0 ≤ p.2 ∧ p.2 ≤ f.sets
theorem setStep_won {tb : Pr → Tb} {f : Fmt} {r : SR} {p : Pr} (h : WonOk f r.won) : WonOk f (setStep tb f r p).won := by
  unfold setStep
  cases hb : !(tget (tb (setV f r.won)) p).isSome || !(tat (tb (setV f r.won)) p).2 || overV f r.won
  · simp only [cond_false]
    have ho : overV f r.won = false := by simp only [Bool.or_eq_false_iff] at hb; exact hb.2
    have hm : ¬ max r.won.1 r.won.2 = f.sets := by simpa [overV] using ho
    have := h
    unfold WonOk at this ⊢
    unfold addV
    cases decide (setSide p = 0) <;> simp only [cond_true, cond_false] <;> omega
  · exact h
theorem setsTo_won {tb : Pr → Tb} {f : Fmt} {l : List Pr} (hs : 0 ≤ f.sets) : ∀ k, WonOk f (setsTo tb f l k).won
  | 0 => by unfold WonOk; simp only [setsTo]; omega
  | k + 1 => by
    have ih := setsTo_won (tb := tb) (l := l) hs k
    rw [setsTo]
    cases l[k]? with
    | none => exact ih
    | some p =>
      dsimp only
      cases (setsTo tb f l k).ok
      · exact ih
      · exact setStep_won ih
theorem arises_won (tb : Pr → Tb) (f : Fmt) (b : Brd) : (arisesT tb f b).1 = (setsTo tb f b.st b.st.length).won := by
  unfold arisesT
  repeat (first | rfl | (cases (_ : Bool) <;> rfl) | (rw [Bool.cond_eq_ite]; split))
end Go.Proofs.YtpmmgljndceplaaGreat

namespace Go.Proofs.YtpmmgljndceplaaGreat
open Go Go.RowKit

instance : DecidableEq Brd := fun a b => by
  cases a; cases b
  simp only [Brd.mk.injEq]
  infer_instance
def exF : Fmt := ⟨2, 2, false, 2, 3, 0, 4, 2, 2, false⟩
def exP : List Int := [0, 0, 0, 0, 1, 1, 1, 1, 0, 0, 0, 0, 0, 0, 0, 0, 1, 1, 1, 1]
theorem C_law1_Example (w : World) : CR Tryz.prog 24 [] w (fun _ : Option Addr × Nat => True) (fun x => .tuple #[exF.val, .slice x.1 20 x.2]) (fun x => [.own x.1 x.2 3 1 20 (encI exP)]) := by
  refine ⟨en Tryz.func24 Tryz.ntmps24 (St.init w) (h := fun F => ?_)⟩
  refine sq (h := ?_)
  refine rg (h := ?_)
  refine al (h := fun b0 => ?_)
  refine wy asg ?_
  refine nl (h := ?_)
  refine q_seq (h := ?_)
  refine sq (h := ?_)
  refine rg (h := ?_)
  refine wy bd ?_
  refine al (h := fun b1 => ?_)
  first | refine stA (h := ?_) | refine stEA (h := ?_)
  refine nl (h := ?_)
  refine q_seq (h := ?_)
  refine sq (h := ?_)
  refine rg (h := ?_)
  refine wy (by first | exact ldA | exact ldEA) ?_
  refine bs (h := fun b2 => ?_)
  first | refine stA (h := ?_) | refine stEA (h := ?_)
  refine wy asg ?_
  refine nl (h := ?_)
  refine q_seq (h := ?_)
  refine rtn (h := ?_)
  refine q_ret (hR := ?_)
  exact fun w hS => ⟨(_, _), trivial, rfl, hS.sub slz_⟩
theorem ex_play : scO (playO exF 0 exP) = ⟨[(3, 1)], (0, 1), (0, 0), 1, 3, 2, -1⟩ := by kernel_rfl
theorem ex_playE : playE exF 0 exP = 0 := by kernel_rfl

def Stable (t : Tb) (k : Int) : Prop := ∀ e ∈ t, k ≤ e.1.1 + e.1.2 → e.2.2 = true
theorem tget_mem {t : Tb} {p : Pr} {v : Stn} (h : tget t p = some v) : (p, v) ∈ t := by
  induction t with
  | nil => simp [tget] at h
  | cons e t ih =>
    rw [tget] at h
    split at h
    · next hp => injection h with h; subst hp h; exact List.mem_cons_self
    · exact List.mem_cons_of_mem _ (ih h)
theorem pair_stable {f : Fmt} {s p : Pr} {t : Tb} {k : Int} (h : Stable t k) (hp : k ≤ p.1 + p.2) : pairT f s p t = t := by
  unfold pairT
  cases hg : tget t p with
  | none => rfl
  | some v =>
    have hv := h _ (tget_mem hg) hp
    simp only at hv
    have : tat t p = v := by rw [tat, hg]; rfl
    rw [this, hv]; simp
theorem row_stable {f : Fmt} {s : Pr} {t : Tb} {k : Int} (h : Stable t k) {all : Nat} (ha : k ≤ all) : ∀ j, rowTo f s all t j = t
  | 0 => rfl
  | j + 1 => by rw [rowTo, row_stable h ha j]; exact pair_stable h (by dsimp only; omega)
theorem tbl_stable {f : Fmt} {s : Pr} {k0 : Nat} (h : Stable (tblTo f s k0) k0) : ∀ k, k0 ≤ k → tblTo f s k = tblTo f s k0
  | 0, hk => by obtain rfl : k0 = 0 := by omega
                rfl
  | k + 1, hk => by
    by_cases e : k0 = k + 1
    · subst e; rfl
    · have ih := tbl_stable h k (by omega)
      rw [tblTo, ih]
      exact row_stable h (by omega) _
def exT : Tb := [((0, 0), (1, false)), ((1, 0), (1, false)), ((0, 1), (1, false)), ((1, 1), (2, false)), ((0, 2), (1, true)), ((2, 0), (1, true)), ((2, 1), (2, false)), ((1, 2), (2, false)), ((2, 2), (4, false)), ((1, 3), (2, true)), ((3, 1), (2, true)), ((3, 2), (4, true)), ((2, 3), (4, true))]
theorem ex_table6 : tblTo exF (2, 3) 6 = exT := by kernel_rfl
theorem ex_table : tableV exF (2, 3) = exT := by
  have h : Stable (tblTo exF (2, 3) 6) ((6 : Nat) : Int) := by
    rw [ex_table6]; unfold Stable exT; decide
  rw [tableV, tbl_stable h 82 (by omega), ex_table6]
theorem ex_arises : arisesV exF ⟨[], (0, 0), (0, 0)⟩ = ((0, 0), true) := by
  have h0 : setsTo (tableV exF) exF (Brd.mk [] (0, 0) (0, 0)).st (Brd.mk [] (0, 0) (0, 0)).st.length = ⟨(0, 0), 1, true⟩ := rfl
  have h2 : setV exF (0, 0) = (2, 3) := by decide
  rw [arisesV, arisesT, h0]
  dsimp only
  rw [h2, ex_table]
  exact (by kernel_rfl : (arisesT (fun _ => exT) exF ⟨[], (0, 0), (0, 0)⟩ = ((0, 0), true)))
end Go.Proofs.YtpmmgljndceplaaGreat

namespace Go.Proofs.YtpmmgljndceplaaGreat
open Go Go.RowKit

theorem C_ref1_within (n lo hi : Int) (w : World) : C0 Tryz.prog 26 [.int .i64 n, .int .i64 lo, .int .i64 hi] w (.bool (wi n lo hi)) := by
  refine ⟨en Tryz.func26 Tryz.ntmps26 (St.init w) (h := fun F => ?_)⟩
  refine sq (h := ?_)
  refine rg (h := ?_)
  refine wy asg ?_
  refine nl (h := ?_)
  refine q_seq (h := ?_)
  refine sq (h := ?_)
  refine rg (h := ?_)
  refine wy mv ?_
  refine wy mv ?_
  refine wy geq ?_
  refine wy mv ?_
  apply brAnd 4 10 14 (by exact rfl)
  · intro hb0
    refine un (h := ?_)
    refine wy mv ?_
    refine un (h := ?_)
    refine wy mv ?_
    refine un (h := ?_)
    refine wy leq ?_
    refine wy (by first | exact pkT | exact pkF) ?_
    exact mg (by repeat (first | exact trivial | refine ⟨rfl, ?_⟩ | refine ⟨by rw [hb0]; rfl, ?_⟩)) slz_
  · intro hb0
    repeat (first | refine un (h := ?_) | refine sk (h := ?_) | refine WL.y (hy := pkF) (h := ?_) | refine WL.y (hy := pkT) (h := ?_))
    exact mg (by repeat (first | exact trivial | refine ⟨rfl, ?_⟩ | refine ⟨by rw [hb0]; rfl, ?_⟩)) slz_
  refine wy asg ?_
  refine nl (h := ?_)
  refine q_seq (h := ?_)
  refine rtn (h := ?_)
  refine q_ret (hR := ?_)
  exact fun w hS => ⟨rfl, hS.sub slz_⟩
theorem C_ref1_isTie (f : Fmt) (n : Int) (hg : 1 ≤ f.games ∧ f.games ≤ 8) (w : World) : C0 Tryz.prog 52 [f.val, .int .i64 n] w (.bool (tieB f n)) := by
  refine ⟨en Tryz.func52 Tryz.ntmps52 (St.init w) (h := fun F => ?_)⟩
  refine sq (h := ?_)
  refine rg (h := ?_)
  refine bxA (h := fun b0 => ?_)
  refine wy asg ?_
  refine nl (h := ?_)
  refine q_seq (h := ?_)
  refine sq (h := ?_)
  refine rg (h := ?_)
  refine wy mv ?_
  refine wy eql ?_
  refine wy mv ?_
  apply brOr 3 7 10 (by exact rfl)
  · intro hb0
    refine un (h := ?_)
    refine wy mv ?_
    refine un (h := ?_)
    refine wy eql ?_
    refine wy (by first | exact pkT | exact pkF) ?_
    exact mg (by repeat (first | exact trivial | refine ⟨rfl, ?_⟩ | refine ⟨by rw [hb0]; rfl, ?_⟩)) slz_
  · intro hb0
    repeat (first | refine un (h := ?_) | refine sk (h := ?_) | refine WL.y (hy := pkF) (h := ?_) | refine WL.y (hy := pkT) (h := ?_))
    exact mg (by repeat (first | exact trivial | refine ⟨rfl, ?_⟩ | refine ⟨by rw [hb0]; rfl, ?_⟩)) slz_
  refine wy mv ?_
  apply brOr 6 11 17 (by exact rfl)
  · intro hb1
    refine un (h := ?_)
    refine wy mv ?_
    refine un (h := ?_)
    refine wy (by first | exact fa | exact faE) ?_
    refine un (h := ?_)
    refine wy (by first | exact ld | exact ldE) ?_
    refine un (h := ?_)
    refine wy subI ?_
    refine un (h := ?_)
    refine wy eql ?_
    refine wy (by first | exact pkT | exact pkF) ?_
    exact mg (by repeat (first | exact trivial | refine ⟨rfl, ?_⟩ | refine ⟨by rw [hb1]; rfl, ?_⟩)) slz_
  · intro hb1
    repeat (first | refine un (h := ?_) | refine sk (h := ?_) | refine WL.y (hy := pkF) (h := ?_) | refine WL.y (hy := pkT) (h := ?_))
    exact mg (by repeat (first | exact trivial | refine ⟨rfl, ?_⟩ | refine ⟨by rw [hb1]; rfl, ?_⟩)) slz_
  refine wy mv ?_
  apply brOr 5 18 23 (by exact rfl)
  · intro hb2
    refine un (h := ?_)
    refine wy mv ?_
    refine un (h := ?_)
    refine wy (by first | exact fa | exact faE) ?_
    refine un (h := ?_)
    refine wy (by first | exact ld | exact ldE) ?_
    refine un (h := ?_)
    refine wy eql ?_
    refine wy (by first | exact pkT | exact pkF) ?_
    exact mg (by repeat (first | exact trivial | refine ⟨rfl, ?_⟩ | refine ⟨by rw [hb2]; rfl, ?_⟩)) slz_
  · intro hb2
    repeat (first | refine un (h := ?_) | refine sk (h := ?_) | refine WL.y (hy := pkF) (h := ?_) | refine WL.y (hy := pkT) (h := ?_))
    exact mg (by repeat (first | exact trivial | refine ⟨rfl, ?_⟩ | refine ⟨by rw [hb2]; rfl, ?_⟩)) slz_
  refine wy asg ?_
  refine nl (h := ?_)
  refine q_seq (h := ?_)
  refine rtn (h := ?_)
  refine q_ret (hR := ?_)
  exact fun w hS => ⟨rfl, hS.sub slz_⟩
theorem refChk (f : Fmt) : (!wi f.sets 1 3 || !wi f.games 1 8 || !tieB f f.tie || !tieB f f.ltie || !wi f.to 1 15 || !wi f.lto 1 15 || !wi f.first 0 20 || !wi f.thn 0 20) = !fmtOk f := by
  simp only [fmtOk, Bool.not_and]
theorem C_ref1_Check (f : Fmt) (w : World) : C0 Tryz.prog 25 [f.val] w (.int .i64 (chkF f)) := by
  refine ⟨en Tryz.func25 Tryz.ntmps25 (St.init w) (h := fun F => ?_)⟩
  refine sq (h := ?_)
  refine rg (h := ?_)
  refine bxA (h := fun b0 => ?_)
  refine wy asg ?_
  refine nl (h := ?_)
  refine q_seq (h := ?_)
  refine sq (h := ?_)
  refine sq (h := ?_)
  refine rg (h := ?_)
  refine wy (by first | exact fa | exact faE) ?_
  refine wy (by first | exact ld | exact ldE) ?_
  refine cl0 (hc := fun w hS => C_ref1_within ..) (h := ?_)
  refine wy notB ?_
  refine wy mv ?_
  apply brOr 5 7 12 (by exact rfl)
  · intro hb0
    refine un (h := ?_)
    refine wy (by first | exact fa | exact faE) ?_
    refine un (h := ?_)
    refine wy (by first | exact ld | exact ldE) ?_
    refine un (h := ?_)
    refine cl0 (hc := fun w hS => C_ref1_within ..) (h := ?_)
    refine un (h := ?_)
    refine wy notB ?_
    refine wy (by first | exact pkT | exact pkF) ?_
    exact mg (by repeat (first | exact trivial | refine ⟨rfl, ?_⟩ | refine ⟨by rw [hb0]; rfl, ?_⟩)) slz_
  · intro hb0
    repeat (first | refine un (h := ?_) | refine sk (h := ?_) | refine WL.y (hy := pkF) (h := ?_) | refine WL.y (hy := pkT) (h := ?_))
    exact mg (by repeat (first | exact trivial | refine ⟨rfl, ?_⟩ | refine ⟨by rw [hb0]; rfl, ?_⟩)) slz_
  refine wy mv ?_
  apply brOr 6 13 19 (by exact rfl)
  · intro hb1
    have hg : 1 ≤ f.games ∧ f.games ≤ 8 := by simp only [Bool.or_eq_false_iff, wi_not] at hb1; omega
    refine un (h := ?_)
    refine wy (by first | exact ldA | exact ldEA) ?_
    refine un (h := ?_)
    refine wy (by first | exact fa | exact faE) ?_
    refine un (h := ?_)
    refine wy (by first | exact ld | exact ldE) ?_
    refine un (h := ?_)
    refine cl0 (hc := fun w hS => C_ref1_isTie f f.tie hg w) (h := ?_)
    refine un (h := ?_)
    refine wy notB ?_
    refine wy (by first | exact pkT | exact pkF) ?_
    exact mg (by repeat (first | exact trivial | refine ⟨rfl, ?_⟩ | refine ⟨by rw [hb1]; rfl, ?_⟩)) slz_
  · intro hb1
    repeat (first | refine un (h := ?_) | refine sk (h := ?_) | refine WL.y (hy := pkF) (h := ?_) | refine WL.y (hy := pkT) (h := ?_))
    exact mg (by repeat (first | exact trivial | refine ⟨rfl, ?_⟩ | refine ⟨by rw [hb1]; rfl, ?_⟩)) slz_
  refine wy mv ?_
  apply brOr 6 20 26 (by exact rfl)
  · intro hb2
    have hg : 1 ≤ f.games ∧ f.games ≤ 8 := by simp only [Bool.or_eq_false_iff, wi_not] at hb2; omega
    refine un (h := ?_)
    refine wy (by first | exact ldA | exact ldEA) ?_
    refine un (h := ?_)
    refine wy (by first | exact fa | exact faE) ?_
    refine un (h := ?_)
    refine wy (by first | exact ld | exact ldE) ?_
    refine un (h := ?_)
    refine cl0 (hc := fun w hS => C_ref1_isTie f f.ltie hg w) (h := ?_)
    refine un (h := ?_)
    refine wy notB ?_
    refine wy (by first | exact pkT | exact pkF) ?_
    exact mg (by repeat (first | exact trivial | refine ⟨rfl, ?_⟩ | refine ⟨by rw [hb2]; rfl, ?_⟩)) slz_
  · intro hb2
    repeat (first | refine un (h := ?_) | refine sk (h := ?_) | refine WL.y (hy := pkF) (h := ?_) | refine WL.y (hy := pkT) (h := ?_))
    exact mg (by repeat (first | exact trivial | refine ⟨rfl, ?_⟩ | refine ⟨by rw [hb2]; rfl, ?_⟩)) slz_
  refine wy mv ?_
  apply brOr 5 27 32 (by exact rfl)
  · intro hb3
    refine un (h := ?_)
    refine wy (by first | exact fa | exact faE) ?_
    refine un (h := ?_)
    refine wy (by first | exact ld | exact ldE) ?_
    refine un (h := ?_)
    refine cl0 (hc := fun w hS => C_ref1_within ..) (h := ?_)
    refine un (h := ?_)
    refine wy notB ?_
    refine wy (by first | exact pkT | exact pkF) ?_
    exact mg (by repeat (first | exact trivial | refine ⟨rfl, ?_⟩ | refine ⟨by rw [hb3]; rfl, ?_⟩)) slz_
  · intro hb3
    repeat (first | refine un (h := ?_) | refine sk (h := ?_) | refine WL.y (hy := pkF) (h := ?_) | refine WL.y (hy := pkT) (h := ?_))
    exact mg (by repeat (first | exact trivial | refine ⟨rfl, ?_⟩ | refine ⟨by rw [hb3]; rfl, ?_⟩)) slz_
  refine wy mv ?_
  apply brOr 5 33 38 (by exact rfl)
  · intro hb4
    refine un (h := ?_)
    refine wy (by first | exact fa | exact faE) ?_
    refine un (h := ?_)
    refine wy (by first | exact ld | exact ldE) ?_
    refine un (h := ?_)
    refine cl0 (hc := fun w hS => C_ref1_within ..) (h := ?_)
    refine un (h := ?_)
    refine wy notB ?_
    refine wy (by first | exact pkT | exact pkF) ?_
    exact mg (by repeat (first | exact trivial | refine ⟨rfl, ?_⟩ | refine ⟨by rw [hb4]; rfl, ?_⟩)) slz_
  · intro hb4
    repeat (first | refine un (h := ?_) | refine sk (h := ?_) | refine WL.y (hy := pkF) (h := ?_) | refine WL.y (hy := pkT) (h := ?_))
    exact mg (by repeat (first | exact trivial | refine ⟨rfl, ?_⟩ | refine ⟨by rw [hb4]; rfl, ?_⟩)) slz_
  refine wy mv ?_
  apply brOr 5 39 44 (by exact rfl)
  · intro hb5
    refine un (h := ?_)
    refine wy (by first | exact fa | exact faE) ?_
    refine un (h := ?_)
    refine wy (by first | exact ld | exact ldE) ?_
    refine un (h := ?_)
    refine cl0 (hc := fun w hS => C_ref1_within ..) (h := ?_)
    refine un (h := ?_)
    refine wy notB ?_
    refine wy (by first | exact pkT | exact pkF) ?_
    exact mg (by repeat (first | exact trivial | refine ⟨rfl, ?_⟩ | refine ⟨by rw [hb5]; rfl, ?_⟩)) slz_
  · intro hb5
    repeat (first | refine un (h := ?_) | refine sk (h := ?_) | refine WL.y (hy := pkF) (h := ?_) | refine WL.y (hy := pkT) (h := ?_))
    exact mg (by repeat (first | exact trivial | refine ⟨rfl, ?_⟩ | refine ⟨by rw [hb5]; rfl, ?_⟩)) slz_
  refine wy mv ?_
  apply brOr 5 45 50 (by exact rfl)
  · intro hb6
    refine un (h := ?_)
    refine wy (by first | exact fa | exact faE) ?_
    refine un (h := ?_)
    refine wy (by first | exact ld | exact ldE) ?_
    refine un (h := ?_)
    refine cl0 (hc := fun w hS => C_ref1_within ..) (h := ?_)
    refine un (h := ?_)
    refine wy notB ?_
    refine wy (by first | exact pkT | exact pkF) ?_
    exact mg (by repeat (first | exact trivial | refine ⟨rfl, ?_⟩ | refine ⟨by rw [hb6]; rfl, ?_⟩)) slz_
  · intro hb6
    repeat (first | refine un (h := ?_) | refine sk (h := ?_) | refine WL.y (hy := pkF) (h := ?_) | refine WL.y (hy := pkT) (h := ?_))
    exact mg (by repeat (first | exact trivial | refine ⟨rfl, ?_⟩ | refine ⟨by rw [hb6]; rfl, ?_⟩)) slz_
  refine nl (h := ?_)
  refine q_seq (h := ?_)
  refine cd (by exact rfl) (fun h7 => ?_) (fun h7 => ?_)
  · skip
    have hb : fmtOk f = false := by rw [refChk] at h7; simpa using h7
    have hc : chkF f = 10 := by rw [chkF, hb]; rfl
    refine sq (h := ?_)
    refine rg (h := ?_)
    refine wy asg ?_
    refine nl (h := ?_)
    refine q_seq (h := ?_)
    refine rtn (h := ?_)
    refine q_then_ret (h := ?_)
    refine q_ret (hR := ?_)
    rw [hc]
    exact fun w hS => ⟨rfl, hS.sub slz_⟩
  · skip
    have hb : fmtOk f = true := by rw [refChk] at h7; simpa using h7
    have hc : chkF f = 0 := by rw [chkF, hb]; rfl
    refine skp (h := ?_)
    refine q_seq (h := ?_)
    refine sq (h := ?_)
    refine rg (h := ?_)
    refine wy asg ?_
    refine nl (h := ?_)
    refine q_seq (h := ?_)
    refine rtn (h := ?_)
    refine q_ret (hR := ?_)
    rw [hc]
    exact fun w hS => ⟨rfl, hS.sub slz_⟩
end Go.Proofs.YtpmmgljndceplaaGreat

namespace Go.Proofs.YtpmmgljndceplaaGreat
open Go Go.RowKit

def wside (p : Pr) : Int := bif decide (p.2 < p.1) then 0 else 1
def wonTo (l : List Pr) : Nat → Pr
  | 0 => (0, 0)
  | k + 1 => match l[k]? with
    | some p => addV (wonTo l k) (wside p)
    | none => wonTo l k
def wonV (l : List Pr) : Pr := wonTo l l.length
theorem wonTo_succ {l : List Pr} {k : Nat} {p : Pr} (h : l[k]? = some p) : wonTo l (k + 1) = addV (wonTo l k) (wside p) := by rw [wonTo, h]
theorem wonTo_bd (l : List Pr) : ∀ k, (0 ≤ (wonTo l k).1 ∧ (wonTo l k).1 ≤ (k : Int)) ∧ 0 ≤ (wonTo l k).2 ∧ (wonTo l k).2 ≤ (k : Int)
  | 0 => by simp [wonTo]
  | k + 1 => by
    have ih := wonTo_bd l k
    rw [wonTo]
    cases l[k]? with
    | none => dsimp only; omega
    | some p => have := addV_bd (side := wside p) ih; simpa using this
theorem wonTo_app (l : List Pr) (p : Pr) : ∀ k, k ≤ l.length → wonTo (l ++ [p]) k = wonTo l k
  | 0, _ => rfl
  | k + 1, hk => by rw [wonTo, wonTo, wonTo_app l p k (by omega), List.getElem?_append_left (by omega)]
theorem wonV_app (l : List Pr) (p : Pr) : wonV (l ++ [p]) = addV (wonV l) (wside p) := by
  unfold wonV
  have hl : (l ++ [p]).length = l.length + 1 := by simp
  rw [hl, wonTo_succ (p := p) (by simp), wonTo_app l p _ (Nat.le_refl _)]
structure WZ where
  (k : Nat) (p : Pr)
def ruleV (f : Fmt) (last : Bool) : Pr := bif last then (f.ltie, f.lto) else (f.tie, f.to)
def tiedV (f : Fmt) (l : List Pr) (g : Pr) : Bool := decide (0 ≤ (setV f (wonV l)).1) && decide (g.1 = (setV f (wonV l)).1) && decide (g.2 = (setV f (wonV l)).1)
def turnR (tie : Bool) (pt : Int) : Int := bif tie then (pt + 1) / 2 else 0
def befTo (first side : Int) : Nat → Int
  | 0 => 0
  | k + 1 => bif decide ((first + (k : Int)) % 2 = side) then befTo first side k + 1 else befTo first side k
def servR (f : Fmt) (first : Int) (game : Nat) (tie : Bool) (pt : Int) : Int :=
  bif !f.dbl then (first + game + turnR tie pt) % 2 else (first + game + turnR tie pt) % 2 + 2 * ((befTo first ((first + game + turnR tie pt) % 2) game + turnR tie pt / 2) % 2)
end Go.Proofs.YtpmmgljndceplaaGreat

namespace Go.Proofs.YtpmmgljndceplaaGreat
open Go Go.RowKit

structure RS where
  (st : List Pr) (g p : Pr) (server ends balls winner first : Int) (gs : List Gm) (fresh : Bool)
abbrev RS.cells (r : RS) (sA : Option Addr) (sc : Nat) (gA : Option Addr) (gc : Nat) : List Value := [.slice sA r.st.length sc, .int .i64 r.g.1, .int .i64 r.g.2, .int .i64 r.p.1, .int .i64 r.p.2, .int .i64 r.server, .int .i64 r.ends, .int .i64 r.balls, .int .i64 r.winner, .int .i64 r.first, .slice gA r.gs.length gc, .bool r.fresh]
abbrev RS.val (r : RS) (sA : Option Addr) (sc : Nat) (gA : Option Addr) (gc : Nat) : Value := .agg #[.slice sA r.st.length sc, .int .i64 r.g.1, .int .i64 r.g.2, .int .i64 r.p.1, .int .i64 r.p.2, .int .i64 r.server, .int .i64 r.ends, .int .i64 r.balls, .int .i64 r.winner, .int .i64 r.first, .slice gA r.gs.length gc, .bool r.fresh]
structure RS.Bd (r : RS) (K : Int) : Prop where
  k : 0 ≤ K ∧ K ≤ 990
  fst : 0 ≤ r.first ∧ r.first ≤ 1
  g : (0 ≤ r.g.1 ∧ r.g.1 ≤ K) ∧ 0 ≤ r.g.2 ∧ r.g.2 ≤ K
  p : (0 ≤ r.p.1 ∧ r.p.1 ≤ K) ∧ 0 ≤ r.p.2 ∧ r.p.2 ≤ K
  e : 0 ≤ r.ends ∧ r.ends ≤ K
  b : 0 ≤ r.balls ∧ r.balls ≤ K + 1
  s : (r.st.length : Int) ≤ K
  gs : (r.gs.length : Int) ≤ K
end Go.Proofs.YtpmmgljndceplaaGreat

namespace Go.Proofs.YtpmmgljndceplaaGreat
open Go Go.RowKit

theorem leads_n {p : Pr} {l b : Int} : leadsV p l b = -1 ↔ ¬ (l ≤ p.1 ∧ b ≤ p.1 - p.2) ∧ ¬ (l ≤ p.2 ∧ b ≤ p.2 - p.1) := by
  unfold leadsV
  cases h1 : decide (l ≤ p.1) && decide (b ≤ p.1 - p.2)
  · cases h2 : decide (l ≤ p.2) && decide (b ≤ p.2 - p.1)
    · simp at h1 h2 ⊢; omega
    · simp at h1 h2 ⊢; omega
  · simp at h1 ⊢; omega
theorem leads_0 {p : Pr} {l b : Int} : leadsV p l b = 0 ↔ (l ≤ p.1 ∧ b ≤ p.1 - p.2) := by
  unfold leadsV
  cases h1 : decide (l ≤ p.1) && decide (b ≤ p.1 - p.2)
  · cases h2 : decide (l ≤ p.2) && decide (b ≤ p.2 - p.1) <;> simp at h1 h2 ⊢ <;> omega
  · simp at h1 ⊢; omega
theorem leads_1 {p : Pr} {l b : Int} (hb : 1 ≤ b) : leadsV p l b = 1 ↔ (l ≤ p.2 ∧ b ≤ p.2 - p.1) := by
  unfold leadsV
  cases h1 : decide (l ≤ p.1) && decide (b ≤ p.1 - p.2)
  · cases h2 : decide (l ≤ p.2) && decide (b ≤ p.2 - p.1) <;> simp at h1 h2 ⊢ <;> omega
  · simp at h1 ⊢; omega
theorem add_0 (p : Pr) : addV p 0 = (p.1 + 1, p.2) := rfl
theorem add_1 (p : Pr) : addV p 1 = (p.1, p.2 + 1) := rfl
theorem add_sum (p : Pr) (side : Int) : (addV p side).1 + (addV p side).2 = p.1 + p.2 + 1 := by
  unfold addV; cases decide (side = 0) <;> simp only [cond_true, cond_false] <;> omega
theorem leads_add {p : Pr} {l b side : Int} (hb : 1 ≤ b) (hs : side = 0 ∨ side = 1) (h : leadsV p l b = -1) : leadsV (addV p side) l b = -1 ∨ leadsV (addV p side) l b = side := by
  rw [leads_n] at h
  rcases hs with rfl | rfl
  · by_cases h0 : leadsV (addV p 0) l b = 0
    · exact .inr h0
    · left
      rw [leads_n]
      rw [leads_0] at h0
      rw [add_0] at h0 ⊢
      exact ⟨h0, by simp only; omega⟩
  · by_cases h0 : leadsV (addV p 1) l b = 1
    · exact .inr h0
    · left
      rw [leads_n]
      rw [leads_1 hb] at h0
      rw [add_1] at h0 ⊢
      exact ⟨by simp only; omega, h0⟩
theorem game_add {f : Fmt} {s p : Pr} {t : Bool} {side : Int} (hs : side = 0 ∨ side = 1) (h : gameV f s t p = -1) : gameV f s t (addV p side) = -1 ∨ gameV f s t (addV p side) = side := by
  unfold gameV at *
  cases t
  · cases hn : f.noAd <;> rw [hn] at h <;> exact leads_add (by omega) hs h
  · exact leads_add (by omega) hs h

theorem befTo_half (first side : Int) (hf : 0 ≤ first ∧ first ≤ 1) (hs : 0 ≤ side ∧ side ≤ 1) : ∀ k : Nat, befTo first side k = if first = side then ((k : Int) + 1) / 2 else (k : Int) / 2
  | 0 => by simp [befTo]
  | k + 1 => by
    rw [befTo, befTo_half first side hf hs k]
    by_cases h1 : (first + (k : Int)) % 2 = side
    · rw [decide_eq_true h1]
      by_cases h2 : first = side
      · simp only [if_pos h2, cond_true]; omega
      · simp only [if_neg h2, cond_true]; omega
    · rw [decide_eq_false h1]
      by_cases h2 : first = side
      · simp only [if_pos h2, cond_false]; omega
      · simp only [if_neg h2, cond_false]; omega
theorem serv_eq {f : Fmt} {first : Int} {game : Nat} {ties : List Bool} {tie : Bool} {pt : Int} (hf : 0 ≤ first ∧ first ≤ 1) (hl : ties.length = game + 1) (ht : tieI ties ((ties.length : Int) - 1) = tie) (hp : 0 ≤ pt) : servR f first game tie pt = servesV f first ties pt := by
  have hg : (ties.length : Int) - 1 = game := by omega
  have htu : turnV ties pt = turnR tie pt := by unfold turnV turnR; rw [ht]
  have ht0 : 0 ≤ turnR tie pt := by unfold turnR; cases tie <;> simp <;> omega
  unfold servR servesV
  rw [htu, hg]
  generalize turnR tie pt = t at *
  cases f.dbl
  · rfl
  · simp only [Bool.not_true, cond_false]
    rw [befTo_half first _ hf (by omega)]
    by_cases h : first = (first + (game : Int) + t) % 2
    · rw [if_pos h]; omega
    · rw [if_neg h]; omega

theorem tieI_app {l : List Bool} {b : Bool} : tieI (l ++ [b]) ((((l ++ [b]).length : Nat) : Int) - 1) = b := by
  have : ((((l ++ [b]).length : Nat) : Int) - 1).toNat = l.length := by simp
  rw [tieI, this]
  simp
structure MS.Inv (m : MS) : Prop where
  w : m.winner = -1
  won : m.won = wonV m.st
  tl : m.ties.length = m.gs.length + 1
  te : ∀ (i : Nat) g, m.gs[i]? = some g → m.ties[i]? = some g.tie
  ta : m.tie = brksV (setV m.f m.won) m.g
  g0 : 0 ≤ m.g.1 ∧ 0 ≤ m.g.2
  ld : leadsV m.g m.f.games 2 = -1
  ad : m.f.noAd = true → m.tie = false → m.p.1 < 4 ∧ m.p.2 < 4
  go : gameV m.f (setV m.f m.won) m.tie m.p = -1
  ws : m.won.1 < m.f.sets ∧ m.won.2 < m.f.sets
  p0 : 0 ≤ m.p.1 ∧ 0 ≤ m.p.2
  sv : m.server = servesV m.f m.first m.ties (m.p.1 + m.p.2)
theorem set_to (f : Fmt) (hf : f.Ok) (won : Pr) : 1 ≤ (setV f won).2 ∧ -1 ≤ (setV f won).1 := by
  have h1 := hf.o0
  have h2 := hf.l0
  have h3 := hf.t
  have h4 := hf.lt
  have h5 := hf.g0
  unfold setV
  cases decide (won.1 = f.sets - 1) && decide (won.2 = f.sets - 1) <;> simp only [cond_true, cond_false] <;> omega
theorem game_00 {f : Fmt} (hf : f.Ok) (won : Pr) (t : Bool) : gameV f (setV f won) t (0, 0) = -1 := by
  have := set_to f hf won
  unfold gameV
  cases t <;> cases f.noAd <;> simp only [cond_true, cond_false] <;> rw [leads_n] <;> simp only <;> omega
theorem tied_eq {f : Fmt} {st : List Pr} {won g : Pr} (hw : won = wonV st) (hg : 0 ≤ g.1) : tiedV f st g = brksV (setV f won) g := by
  unfold tiedV brksV
  rw [hw]
  by_cases h : g.1 = (setV f (wonV st)).1
  · have : 0 ≤ (setV f (wonV st)).1 := by omega
    simp [h, this]
  · simp [h]

structure MS.Pre (m : MS) : Prop where
  w : m.winner = -1
  won : m.won = wonV m.st
  tl : m.ties.length = m.gs.length
  te : ∀ (i : Nat) g, m.gs[i]? = some g → m.ties[i]? = some g.tie
  g0 : 0 ≤ m.g.1 ∧ 0 ≤ m.g.2
theorem next_inv {m : MS} (hf : m.f.Ok) (hp : m.Pre) (hld : leadsV m.g m.f.games 2 = -1) (hws : m.won.1 < m.f.sets ∧ m.won.2 < m.f.sets) (hp0 : m.p = (0, 0)) : (nextV m).Inv := by
  have hw : decide (0 ≤ m.winner) = false := by rw [hp.w]; rfl
  have e : nextV m = { m with ties := tiesV m, balls := bif freshV m.f (tiesV m) then m.balls + 1 else m.balls, server := servesV m.f m.first (tiesV m) 0 } := by rw [nextV, hw]; rfl
  rw [e]
  refine ⟨hp.w, hp.won, by simp [tiesV, hp.tl], fun i g hg => ?_, tieI_app, hp.g0, hld, fun _ _ => ?_, ?_, hws, ?_, ?_⟩
  · have hi : i < m.gs.length := (List.getElem?_eq_some_iff.1 hg).1
    show (tiesV m)[i]? = _
    rw [tiesV, List.getElem?_append_left (by rw [hp.tl]; exact hi)]
    exact hp.te i g hg
  · dsimp only; rw [hp0]; simp
  · dsimp only; rw [hp0]; exact game_00 hf _ _
  · dsimp only; rw [hp0]; simp
  · dsimp only; rw [hp0]; rfl

structure MS.Done (m : MS) : Prop where
  w : m.winner = 0 ∨ m.winner = 1
  sv : m.server = -1
def gameOver (m : MS) (side : Int) : MS := { m with gs := m.gs ++ [gameG m side], p := (0, 0), g := addV m.g side, ends := bif decide (((addV m.g side).1 + (addV m.g side).2) % 2 = 1) then m.ends + 1 else m.ends }
def setOver (m : MS) (side : Int) : MS := { m with gs := m.gs ++ [gameG m side], p := (0, 0), st := m.st ++ [addV m.g side], g := (0, 0), won := addV m.won side, ends := bif decide (((addV m.g side).1 + (addV m.g side).2) % 2 = 1) then m.ends + 1 else m.ends }
def matchOver (m : MS) (side : Int) : MS := { m with gs := m.gs ++ [gameG m side], p := (0, 0), st := m.st ++ [addV m.g side], g := (0, 0), won := addV m.won side, winner := side, server := -1 }
inductive Stp (m : MS) (side : Int) : MS → Prop
  | no (hw : m.w side = -1) (hi : (pointN m side).Inv) : Stp m side (pointN m side)
  | game (hw : m.w side = side) (he : setEnds m side = false) (hp : (gameOver m side).Pre) (hi : (nextV (gameOver m side)).Inv) : Stp m side (nextV (gameOver m side))
  | set (hw : m.w side = side) (he : setEnds m side = true) (hl : (addV m.g side).2 < (addV m.g side).1 ↔ side = 0) (ho : max (addV m.won side).1 (addV m.won side).2 < m.f.sets) (hp : (setOver m side).Pre) (hi : (nextV (setOver m side)).Inv) : Stp m side (nextV (setOver m side))
  | over (hw : m.w side = side) (he : setEnds m side = true) (hl : (addV m.g side).2 < (addV m.g side).1 ↔ side = 0) (ho : max (addV m.won side).1 (addV m.won side).2 = m.f.sets) : Stp m side (matchOver m side)

theorem wside_eq {p : Pr} {side : Int} (hs : side = 0 ∨ side = 1) (h : p.2 < p.1 ↔ side = 0) : wside p = side := by
  unfold wside
  by_cases h0 : p.2 < p.1
  · rw [decide_eq_true h0]; have := h.1 h0; simp [this]
  · rw [decide_eq_false h0]
    have : side ≠ 0 := fun e => h0 (h.2 e)
    simp only [cond_false]; omega
theorem set_lead {m : MS} (h : m.Inv) {side : Int} (hs : side = 0 ∨ side = 1) (he : setEnds m side = true) : (addV m.g side).2 < (addV m.g side).1 ↔ side = 0 := by
  unfold setEnds at he
  rw [Bool.or_eq_true, decide_eq_true_eq] at he
  rcases he with ht | hl
  · have hb := h.ta
    rw [ht] at hb
    have := hb.symm
    simp only [brksV, Bool.and_eq_true, decide_eq_true_eq] at this
    rcases hs with rfl | rfl
    · rw [add_0]; dsimp only; omega
    · rw [add_1]; dsimp only; omega
  · rcases leads_add (b := 2) (by omega) hs h.ld with h1 | h1
    · omega
    · rcases hs with rfl | rfl
      · rw [leads_0] at h1; rw [add_0] at h1 ⊢; dsimp only at h1 ⊢; omega
      · rw [leads_1 (by omega)] at h1; rw [add_1] at h1 ⊢; dsimp only at h1 ⊢; omega

theorem point_step {m : MS} (hf : m.f.Ok) (h : m.Inv) {side : Int} (hs : side = 0 ∨ side = 1) : Stp m side (pointV m side) := by
  have h01 : 0 ≤ (addV m.g side).1 ∧ 0 ≤ (addV m.g side).2 := by
    have := h.g0
    unfold addV; cases decide (side = 0) <;> simp only [cond_true, cond_false] <;> omega
  have tie' : ∀ (i : Nat) g, (m.gs ++ [gameG m side])[i]? = some g → m.ties[i]? = some g.tie := fun i g hg => by
    by_cases hi : i < m.gs.length
    · rw [List.getElem?_append_left hi] at hg; exact h.te i g hg
    · have hl : i < (m.gs ++ [gameG m side]).length := (List.getElem?_eq_some_iff.1 hg).1
      obtain rfl : i = m.gs.length := by simp at hl; omega
      simp at hg
      subst hg
      have hlt : m.gs.length < m.ties.length := by rw [h.tl]; omega
      show m.ties[m.gs.length]? = some m.tie
      rw [List.getElem?_eq_getElem hlt]
      have e : m.tie = m.ties.getD m.gs.length false := by
        rw [MS.tie, tieI]
        congr 1
        have := h.tl
        omega
      rw [e, List.getD_eq_getElem?_getD, List.getElem?_eq_getElem hlt]
      rfl
  have htl : m.ties.length = (m.gs ++ [gameG m side]).length := by rw [h.tl]; simp
  rcases game_add (f := m.f) (s := setV m.f m.won) (t := m.tie) hs h.go with hw | hw
  · have e : pointV m side = pointN m side := by
      have : decide (m.w side < 0) = true := by rw [MS.w, hw]; rfl
      rw [pointV, this]; rfl
    rw [e]
    refine .no hw ⟨h.w, h.won, h.tl, h.te, h.ta, h.g0, h.ld, fun hn ht => ?_, hw, h.ws, ?_, rfl⟩
    · have ht' : m.tie = false := ht
      have hp := h.ad hn ht'
      have hg : gameV m.f (setV m.f m.won) m.tie (addV m.p side) = -1 := hw
      unfold gameV at hg
      rw [ht', show m.f.noAd = true from hn] at hg
      simp only [cond_true, cond_false] at hg
      rw [leads_n] at hg
      show (addV m.p side).1 < 4 ∧ (addV m.p side).2 < 4
      rcases hs with rfl | rfl
      · rw [add_0] at hg ⊢; simp only at hg ⊢; omega
      · rw [add_1] at hg ⊢; simp only at hg ⊢; omega
    · show 0 ≤ (addV m.p side).1 ∧ 0 ≤ (addV m.p side).2
      have := h.p0
      rcases hs with rfl | rfl
      · rw [add_0]; simp only; omega
      · rw [add_1]; simp only; omega
  · have hws : m.w side = side := hw
    have hs0 : 0 ≤ side := by omega
    have hlt : decide (m.w side < 0) = false := by rw [hws]; simp; omega
    cases he : setEnds m side
    · have hG : pointG m side = { m with gs := m.gs ++ [gameG m side], p := (0, 0), g := addV m.g side } := by rw [pointG, hws, he]; rfl
      have hE : pointE m side = gameOver m side := by
        rw [pointE, hG, hws]
        have : decide (m.winner < 0) = true := by rw [h.w]; rfl
        simp only [this, Bool.and_true]
        rfl
      rw [pointV, hlt, cond_false, hE]
      have hld : leadsV (addV m.g side) m.f.games 2 = -1 := by
        have := he
        unfold setEnds at this
        rw [Bool.or_eq_false_iff, decide_eq_false_iff_not] at this
        rcases leads_add (b := 2) (by omega) hs h.ld with h1 | h1
        · exact h1
        · omega
      have hp : (gameOver m side).Pre := ⟨h.w, h.won, htl, tie', h01⟩
      exact .game hws he hp (next_inv hf hp hld h.ws rfl)
    · have hl := set_lead h hs he
      have hwn : wonV (m.st ++ [addV m.g side]) = addV m.won side := by rw [wonV_app, wside_eq hs hl, h.won]
      have hle : (addV m.won side).1 ≤ m.f.sets ∧ (addV m.won side).2 ≤ m.f.sets := by
        have := h.ws
        rcases hs with rfl | rfl
        · rw [add_0]; simp only; omega
        · rw [add_1]; simp only; omega
      by_cases ho : max (addV m.won side).1 (addV m.won side).2 = m.f.sets
      · have hG : pointG m side = { m with gs := m.gs ++ [gameG m side], p := (0, 0), st := m.st ++ [addV m.g side], g := (0, 0), won := addV m.won side, winner := side } := by rw [pointG, hws, he]; simp only [cond_true, decide_eq_true ho]
        have hE : pointE m side = { m with gs := m.gs ++ [gameG m side], p := (0, 0), st := m.st ++ [addV m.g side], g := (0, 0), won := addV m.won side, winner := side } := by
          rw [pointE, hG]
          have : decide (side < 0) = false := by simp; omega
          simp only [this, Bool.and_false, cond_false]
        have e : pointV m side = matchOver m side := by
          rw [pointV, hlt, cond_false, hE, nextV]
          simp only [decide_eq_true hs0, cond_true]
          rfl
        rw [e]
        exact .over hws he hl ho
      · have hG : pointG m side = { m with gs := m.gs ++ [gameG m side], p := (0, 0), st := m.st ++ [addV m.g side], g := (0, 0), won := addV m.won side } := by rw [pointG, hws, he]; simp only [cond_true, decide_eq_false ho, cond_false]
        have hE : pointE m side = setOver m side := by
          rw [pointE, hG, hws]
          have : decide (m.winner < 0) = true := by rw [h.w]; rfl
          simp only [this, Bool.and_true]
          rfl
        rw [pointV, hlt, cond_false, hE]
        have hp : (setOver m side).Pre := ⟨h.w, hwn.symm, htl, tie', by simp [setOver]⟩
        refine .set hws he hl (by omega) hp (next_inv hf hp ?_ ?_ rfl)
        · have := hf.g0
          show leadsV (0, 0) m.f.games 2 = -1
          rw [leads_n]; simp only; omega
        · show (addV m.won side).1 < m.f.sets ∧ (addV m.won side).2 < m.f.sets
          omega

theorem begin_pre (f : Fmt) (first : Int) : (begin0 f first).Pre := ⟨rfl, rfl, rfl, fun i g h => by simp [begin0] at h, by simp [begin0]⟩
theorem begin_inv {f : Fmt} (hf : f.Ok) (first : Int) : (beginV f first).Inv :=
  next_inv (m := begin0 f first) hf (begin_pre f first) (by have := hf.g0; rw [leads_n]; simp only [begin0]; omega) (by have := hf.s0; simp only [begin0]; omega) rfl
theorem stp_f {m m' : MS} {side : Int} (h : Stp m side m') : m'.f = m.f ∧ m'.first = m.first := by
  have hn : ∀ m0 : MS, (nextV m0).f = m0.f ∧ (nextV m0).first = m0.first := fun m0 => by unfold nextV; cases decide (0 ≤ m0.winner) <;> exact ⟨rfl, rfl⟩
  cases h with
  | no => exact ⟨rfl, rfl⟩
  | game => exact hn _
  | set => exact hn _
  | over => exact ⟨rfl, rfl⟩
theorem stp_inv {m m' : MS} {side : Int} (hs : side = 0 ∨ side = 1) (h : Stp m side m') : m'.Inv ∨ m'.Done := by
  cases h with
  | no _ hi => exact .inl hi
  | game _ _ _ hi => exact .inl hi
  | set _ _ _ _ _ hi => exact .inl hi
  | over => exact .inr ⟨hs, rfl⟩
theorem playTo_inv {f : Fmt} {first : Int} {xs : List Int} (hf : f.Ok) : ∀ {k : Nat} {m : MS}, playTo f first xs k = some m → m.f = f ∧ m.first = first ∧ (m.Inv ∨ m.Done)
  | 0, m, h => by
    simp only [playTo, Option.some.injEq] at h
    subst h
    exact ⟨rfl, rfl, .inl (begin_inv hf first)⟩
  | k + 1, m, h => by
    rw [playTo] at h
    cases h1 : playTo f first xs k with
    | none => rw [h1] at h; cases h
    | some m0 =>
      cases h2 : xs[k]? with
      | none => rw [h1, h2] at h; cases h
      | some s =>
        rw [h1, h2] at h
        simp only at h
        obtain ⟨e1, e2, hi⟩ := playTo_inv hf h1
        cases hb : sideBad s || decide (0 ≤ m0.winner)
        · rw [hb] at h
          simp only [cond_false, Option.some.injEq] at h
          subst h
          rw [Bool.or_eq_false_iff] at hb
          have hs := side_ok hb.1
          rcases hi with hi | hd
          · have hst := point_step (e1 ▸ hf) hi hs
            have := stp_f hst
            exact ⟨this.1.trans e1, this.2.trans e2, stp_inv hs hst⟩
          · have := hb.2
            rw [decide_eq_false_iff_not] at this
            have := hd.w
            omega
        · rw [hb] at h; cases h
end Go.Proofs.YtpmmgljndceplaaGreat

namespace Go.Proofs.YtpmmgljndceplaaGreat
open Go Go.RowKit

end Go.Proofs.YtpmmgljndceplaaGreat

namespace Go.Proofs.YtpmmgljndceplaaGreat
open Go Go.RowKit

structure Spot where
  (first : Int) (st : List Pr) (g p : Pr)
theorem Spot.ext' {a b : Spot} (h1 : a.first = b.first) (h2 : a.st = b.st) (h3 : a.g = b.g) (h4 : a.p = b.p) : a = b := by
  cases a; cases b; cases h1; cases h2; cases h3; cases h4; rfl
instance : DecidableEq Spot := fun a b => decidable_of_iff (a.first = b.first ∧ a.st = b.st ∧ a.g = b.g ∧ a.p = b.p) ⟨fun h => Spot.ext' h.1 h.2.1 h.2.2.1 h.2.2.2, fun h => by subst h; exact ⟨rfl, rfl, rfl, rfl⟩⟩
def spotOf (m : MS) : Spot := ⟨m.first, m.st, m.g, m.p⟩
def ldS (p : Pr) (side l b : Int) : Bool := bif decide (side = 1) then decide (l ≤ p.2) && decide (b ≤ p.2 - p.1) else decide (l ≤ p.1) && decide (b ≤ p.1 - p.2)
def topS (s : Spot) : Int := max (wonV s.st).1 (wonV s.st).2
def tieS (f : Fmt) (s : Spot) : Bool := brksV (setV f (wonV s.st)) s.g
def leastS (f : Fmt) (s : Spot) : Int := bif tieS f s then (setV f (wonV s.st)).2 else 4
def byS (f : Fmt) (s : Spot) : Int := bif tieS f s then 2 else bif f.noAd then 1 else 2
def gotS (f : Fmt) (s : Spot) (side : Int) : Bool := ldS (addV s.p side) side (leastS f s) (byS f s)
def endS' (f : Fmt) (s : Spot) (side : Int) : Bool := tieS f s || ldS (addV s.g side) side f.games 2
def stepS (f : Fmt) (s : Spot) (side : Int) : Spot :=
  bif gotS f s side then (bif endS' f s side then ⟨s.first, s.st ++ [addV s.g side], (0, 0), (0, 0)⟩ else ⟨s.first, s.st, addV s.g side, (0, 0)⟩) else ⟨s.first, s.st, s.g, addV s.p side⟩
def nxtS (f : Fmt) (s : Spot) (side : Int) : Option Spot := bif decide (topS s = f.sets) then none else some (stepS f s side)
def sumP (l : List Pr) : Int := (l.map fun p => p.1 + p.2).sum
def cntS (s : Spot) : Int := sumP s.st + (s.g.1 + s.g.2)
def winS (f : Fmt) (s : Spot) : Int := bif decide ((wonV s.st).1 = f.sets) then 0 else bif decide ((wonV s.st).2 = f.sets) then 1 else -1
def srvS (f : Fmt) (s : Spot) : Int := bif decide (topS s = f.sets) then -1 else servR f s.first (cntS s).toNat (tieS f s) (s.p.1 + s.p.2)
structure Rch (m : MS) : Prop where
  inv : m.Inv ∨ (m.Done ∧ max (wonV m.st).1 (wonV m.st).2 = m.f.sets ∧ m.winner = winS m.f (spotOf m))
  cnt : (m.gs.length : Int) = cntS (spotOf m)

theorem lds_eq {p : Pr} {side l b : Int} (hs : side = 0 ∨ side = 1) (hb : 1 ≤ b) (h : leadsV p l b = -1 ∨ leadsV p l b = side) : ldS p side l b = decide (leadsV p l b = side) := by
  rcases hs with rfl | rfl
  · rw [ldS, decide_eq_false (by decide), cond_false, Bool.eq_iff_iff, Bool.and_eq_true, decide_eq_true_eq, decide_eq_true_eq, decide_eq_true_eq, leads_0]
  · rw [ldS, decide_eq_true rfl, cond_true, Bool.eq_iff_iff, Bool.and_eq_true, decide_eq_true_eq, decide_eq_true_eq, decide_eq_true_eq, leads_1 hb]
theorem sumP_app (l : List Pr) (p : Pr) : sumP (l ++ [p]) = sumP l + (p.1 + p.2) := by
  unfold sumP; rw [List.map_append, List.sum_append]; simp
theorem next_spot (m : MS) : spotOf (nextV m) = spotOf m ∧ (nextV m).gs = m.gs ∧ (nextV m).f = m.f := by
  unfold nextV; cases decide (0 ≤ m.winner) <;> exact ⟨rfl, rfl, rfl⟩
section
variable {m : MS}
theorem got_eq (h : m.Inv) {side : Int} (hs : side = 0 ∨ side = 1) : gotS m.f (spotOf m) side = decide (m.w side = side) := by
  have hw := game_add (f := m.f) (s := setV m.f m.won) (t := m.tie) hs h.go
  have ht : tieS m.f (spotOf m) = m.tie := by rw [h.ta, h.won]; rfl
  have hv : setV m.f (wonV (spotOf m).st) = setV m.f m.won := by rw [h.won]; rfl
  rw [gotS, leastS, byS, ht, hv, MS.w]
  unfold gameV at hw ⊢
  cases htt : m.tie
  · rw [htt] at hw
    cases hn : m.f.noAd
    · rw [hn] at hw; exact lds_eq hs (by decide) hw
    · rw [hn] at hw; exact lds_eq hs (by decide) hw
  · rw [htt] at hw
    exact lds_eq (b := 2) hs (by decide) hw
theorem ends_eq (h : m.Inv) {side : Int} (hs : side = 0 ∨ side = 1) (hw : m.w side = side) : endS' m.f (spotOf m) side = setEnds m side := by
  have ht : tieS m.f (spotOf m) = m.tie := by rw [h.ta, h.won]; rfl
  have hl := leads_add (b := 2) (by decide) hs h.ld
  rw [endS', ht, setEnds]
  have e := lds_eq (p := addV m.g side) (l := m.f.games) (b := 2) hs (by decide) hl
  show (m.tie || ldS (addV m.g side) side m.f.games 2) = _
  rw [e]
  congr 1
  rw [Bool.eq_iff_iff, decide_eq_true_eq, decide_eq_true_eq]
  omega
theorem inv_top (h : m.Inv) : decide (topS (spotOf m) = m.f.sets) = false := by
  have := h.ws
  rw [h.won] at this
  apply decide_eq_false
  show ¬ max (wonV m.st).1 (wonV m.st).2 = m.f.sets
  omega
end
theorem rch_next {m : MS} (h1 : (nextV m).Inv) (h2 : (m.gs.length : Int) = cntS (spotOf m)) : Rch (nextV m) :=
  ⟨.inl h1, by rw [(next_spot m).1, (next_spot m).2.1]; exact h2⟩
theorem rch_begin {f : Fmt} (hf : f.Ok) (first : Int) : Rch (beginV f first) := rch_next (m := begin0 f first) (begin_inv hf first) rfl
theorem begin_spot (f : Fmt) (first : Int) : spotOf (beginV f first) = ⟨first, [], (0, 0), (0, 0)⟩ := (next_spot (begin0 f first)).1
theorem spot_step {m : MS} (hf : m.f.Ok) (h : m.Inv) (hc : (m.gs.length : Int) = cntS (spotOf m)) {side : Int} (hs : side = 0 ∨ side = 1) : nxtS m.f (spotOf m) side = some (spotOf (pointV m side)) ∧ Rch (pointV m side) := by
  have hst := point_step hf h hs
  have hn : nxtS m.f (spotOf m) side = some (stepS m.f (spotOf m) side) := by rw [nxtS, inv_top h]; rfl
  have hg := got_eq h hs
  rw [hn]
  unfold stepS
  generalize hm' : pointV m side = m' at hst
  have hsum := add_sum m.g side
  cases hst with
  | no hw hi =>
    rw [hg, decide_eq_false (by rw [hw]; omega)]
    exact ⟨rfl, .inl hi, hc⟩
  | game hw he hp hi =>
    rw [hg, decide_eq_true hw, ends_eq h hs hw, he]
    refine ⟨by rw [(next_spot _).1]; rfl, rch_next hi ?_⟩
    show ((m.gs ++ [gameG m side]).length : Int) = sumP m.st + ((addV m.g side).1 + (addV m.g side).2)
    rw [List.length_append, List.length_singleton, hsum]
    have : (m.gs.length : Int) = sumP m.st + (m.g.1 + m.g.2) := hc
    omega
  | set hw he hl ho hp hi =>
    rw [hg, decide_eq_true hw, ends_eq h hs hw, he]
    refine ⟨by rw [(next_spot _).1]; rfl, rch_next hi ?_⟩
    show ((m.gs ++ [gameG m side]).length : Int) = sumP (m.st ++ [addV m.g side]) + (0 + 0)
    rw [List.length_append, List.length_singleton, sumP_app, hsum]
    have : (m.gs.length : Int) = sumP m.st + (m.g.1 + m.g.2) := hc
    omega
  | over hw he hl ho =>
    rw [hg, decide_eq_true hw, ends_eq h hs hw, he]
    have hwn : wonV (m.st ++ [addV m.g side]) = addV m.won side := by rw [wonV_app, wside_eq hs hl, h.won]
    refine ⟨rfl, .inr ⟨⟨hs, rfl⟩, ?_, ?_⟩, ?_⟩
    · show max (wonV (m.st ++ [addV m.g side])).1 (wonV (m.st ++ [addV m.g side])).2 = m.f.sets
      rw [hwn]; exact ho
    · show side = winS m.f ⟨m.first, m.st ++ [addV m.g side], (0, 0), (0, 0)⟩
      have hws := h.ws
      unfold winS
      dsimp only
      rw [hwn]
      rcases hs with rfl | rfl
      · rw [add_0] at ho ⊢
        dsimp only at ho ⊢
        rw [decide_eq_true (by omega)]; rfl
      · rw [add_1] at ho ⊢
        dsimp only at ho ⊢
        rw [decide_eq_false (by omega), decide_eq_true (by omega)]; rfl
    · show ((m.gs ++ [gameG m side]).length : Int) = sumP (m.st ++ [addV m.g side]) + (0 + 0)
      rw [List.length_append, List.length_singleton, sumP_app, hsum]
      have : (m.gs.length : Int) = sumP m.st + (m.g.1 + m.g.2) := hc
      omega
theorem playTo_rch {f : Fmt} {first : Int} {xs : List Int} (hf : f.Ok) : ∀ {k : Nat} {m : MS}, playTo f first xs k = some m → Rch m
  | 0, m, h => by
    simp only [playTo, Option.some.injEq] at h
    subst h
    exact rch_begin hf first
  | k + 1, m, h => by
    rw [playTo] at h
    cases h1 : playTo f first xs k with
    | none => rw [h1] at h; cases h
    | some m0 =>
      cases h2 : xs[k]? with
      | none => rw [h1, h2] at h; cases h
      | some s =>
        rw [h1, h2] at h
        dsimp only at h
        have hr := playTo_rch hf h1
        have hmf := (playTo_inv hf h1).1
        cases hb : sideBad s || decide (0 ≤ m0.winner)
        · rw [hb] at h
          obtain rfl := Option.some.inj h
          simp only [Bool.or_eq_false_iff, decide_eq_false_iff_not] at hb
          have hs : s = 0 ∨ s = 1 := by
            have := hb.1
            unfold sideBad at this
            simp only [Bool.and_eq_false_iff, Bool.not_eq_false', decide_eq_true_eq] at this
            omega
          rcases hr.inv with hi | ⟨hd, _⟩
          · exact (spot_step (hmf ▸ hf) hi hr.cnt hs).2
          · have := hd.w; omega
        · rw [hb] at h; cases h
theorem rch_win {m : MS} (h : Rch m) : m.winner = winS m.f (spotOf m) := by
  rcases h.inv with hi | ⟨_, _, hw⟩
  · have := hi.ws
    rw [hi.won] at this
    rw [hi.w, winS, decide_eq_false (show ¬ (wonV (spotOf m).st).1 = m.f.sets by show ¬ (wonV m.st).1 = _; omega), decide_eq_false (show ¬ (wonV (spotOf m).st).2 = m.f.sets by show ¬ (wonV m.st).2 = _; omega)]; rfl
  · exact hw
theorem rch_srv {m : MS} (hfs : 0 ≤ m.first ∧ m.first ≤ 1) (h : Rch m) : m.server = srvS m.f (spotOf m) := by
  rcases h.inv with hi | ⟨hd, ht, _⟩
  · rw [srvS, inv_top hi, cond_false, hi.sv]
    have ht : tieS m.f (spotOf m) = m.tie := by rw [hi.ta, hi.won]; rfl
    have hc : (cntS (spotOf m)).toNat = m.gs.length := by rw [← h.cnt, Int.toNat_natCast]
    rw [ht, hc]
    refine (serv_eq hfs hi.tl rfl ?_).symm
    have := hi.p0
    show 0 ≤ m.p.1 + m.p.2
    omega
  · rw [srvS, decide_eq_true (show topS (spotOf m) = m.f.sets from ht), cond_true]; exact hd.sv
end Go.Proofs.YtpmmgljndceplaaGreat

namespace Go.Proofs.YtpmmgljndceplaaGreat
open Go Go.RowKit

abbrev Mn := Int × Int × Int
abbrev En := Spot × Mn
def joinE (a b : Mn) : Mn := (min a.1 b.1, max a.2.1 b.2.1, min a.2.2 b.2.2)
def putC : List En → En → List En
  | [], e => [e]
  | x :: l, e => if x.1 = e.1 then (x.1, joinE x.2 e.2) :: l else x :: putC l e
def normC (l : List En) : List En := l.foldl putC []
def getC (l : List En) (s : Spot) : Option Mn := (l.find? fun e => decide (e.1 = s)).map (·.2)
def joinO (a b : Option Mn) : Option Mn := match a, b with
  | none, b => b
  | some x, none => some x
  | some x, some y => some (joinE x y)
def denC : List En → Spot → Option Mn
  | [], _ => none
  | e :: l, s => if e.1 = s then joinO (some e.2) (denC l s) else denC l s
theorem joinE_comm (a b : Mn) : joinE a b = joinE b a := Prod.ext (by simp only [joinE]; omega) (Prod.ext (by simp only [joinE]; omega) (by simp only [joinE]; omega))
theorem joinE_assoc (a b c : Mn) : joinE (joinE a b) c = joinE a (joinE b c) := Prod.ext (by simp only [joinE]; omega) (Prod.ext (by simp only [joinE]; omega) (by simp only [joinE]; omega))
theorem joinO_none (a : Option Mn) : joinO a none = a := by cases a <;> rfl
theorem joinO_comm (a b : Option Mn) : joinO a b = joinO b a := by
  cases a <;> cases b <;> simp only [joinO, joinE_comm]
theorem joinO_assoc (a b c : Option Mn) : joinO (joinO a b) c = joinO a (joinO b c) := by
  cases a <;> cases b <;> cases c <;> simp only [joinO, joinE_assoc]
theorem den_perm {l l' : List En} (h : l.Perm l') (s : Spot) : denC l s = denC l' s := by
  induction h with
  | nil => rfl
  | cons x _ ih => rw [denC, denC, ih]
  | swap x y l =>
    simp only [denC]
    by_cases h1 : x.1 = s <;> by_cases h2 : y.1 = s
    · simp only [if_pos h1, if_pos h2]
      rw [← joinO_assoc, ← joinO_assoc, joinO_comm (some y.2)]
    · simp only [if_pos h1, if_neg h2]
    · simp only [if_neg h1, if_pos h2]
    · simp only [if_neg h1, if_neg h2]
  | trans _ _ ih1 ih2 => rw [ih1, ih2]
theorem get_nil (s : Spot) : getC [] s = none := rfl
theorem get_cons (x : En) (l : List En) (s : Spot) : getC (x :: l) s = if x.1 = s then some x.2 else getC l s := by
  unfold getC
  rw [List.find?_cons]
  by_cases h : x.1 = s
  · rw [decide_eq_true h, if_pos h]; rfl
  · rw [decide_eq_false h, if_neg h]
theorem get_put (l : List En) (e : En) (s : Spot) : getC (putC l e) s = if e.1 = s then joinO (getC l s) (some e.2) else getC l s := by
  induction l with
  | nil => rw [putC, get_cons, get_nil]; rfl
  | cons x l ih =>
    rw [putC]
    by_cases hx : x.1 = e.1
    · rw [if_pos hx, get_cons, get_cons]
      by_cases he : e.1 = s
      · rw [if_pos (hx.trans he), if_pos he, if_pos (hx.trans he)]; rfl
      · rw [if_neg (fun h => he (hx ▸ h)), if_neg he, if_neg (fun h => he (hx ▸ h))]
    · rw [if_neg hx, get_cons, get_cons, ih]
      by_cases he : e.1 = s
      · have hs : ¬ x.1 = s := fun h => hx (h.trans he.symm)
        simp only [if_pos he, if_neg hs]
      · simp only [if_neg he]
theorem get_fold (l acc : List En) (s : Spot) : getC (l.foldl putC acc) s = joinO (getC acc s) (denC l s) := by
  induction l generalizing acc with
  | nil => rw [List.foldl_nil, denC, joinO_none]
  | cons e l ih =>
    rw [List.foldl_cons, ih, get_put, denC]
    by_cases h : e.1 = s
    · rw [if_pos h, if_pos h, joinO_assoc]
    · rw [if_neg h, if_neg h]
theorem get_norm (l : List En) (s : Spot) : getC (normC l) s = denC l s := by
  rw [normC, get_fold, get_nil]; rfl
def Keys (l : List En) : Prop := (l.map (·.1)).Nodup
theorem put_keys {l : List En} (e : En) (s : Spot) : s ∈ (putC l e).map (·.1) ↔ s ∈ l.map (·.1) ∨ s = e.1 := by
  induction l with
  | nil => simp [putC]
  | cons x l ih =>
    rw [putC]
    by_cases hx : x.1 = e.1
    · rw [if_pos hx]
      simp only [List.map_cons, List.mem_cons]
      constructor
      · exact fun h => .inl h
      · rintro (h | h)
        · exact h
        · exact .inl (h.trans hx.symm)
    · rw [if_neg hx]
      simp only [List.map_cons, List.mem_cons, ih]
      constructor
      · rintro (h | h | h)
        · exact .inl (.inl h)
        · exact .inl (.inr h)
        · exact .inr h
      · rintro ((h | h) | h)
        · exact .inl h
        · exact .inr (.inl h)
        · exact .inr (.inr h)
theorem put_nodup {l : List En} (e : En) (h : Keys l) : Keys (putC l e) := by
  induction l with
  | nil => unfold Keys putC; simp
  | cons x l ih =>
    unfold Keys at h ⊢
    rw [List.map_cons, List.nodup_cons] at h
    rw [putC]
    by_cases hx : x.1 = e.1
    · rw [if_pos hx, List.map_cons, List.nodup_cons]; exact h
    · rw [if_neg hx, List.map_cons, List.nodup_cons]
      refine ⟨fun hm => ?_, ih h.2⟩
      rcases (put_keys e x.1).1 hm with h1 | h1
      · exact h.1 h1
      · exact hx h1
theorem norm_nodup (l : List En) : Keys (normC l) := by
  have : ∀ (l acc : List En), Keys acc → Keys (l.foldl putC acc) := fun l => by
    induction l with
    | nil => exact fun acc h => h
    | cons e l ih => exact fun acc h => ih _ (put_nodup e h)
  exact this l [] List.nodup_nil
theorem mem_get {l : List En} (h : Keys l) (e : En) : e ∈ l ↔ getC l e.1 = some e.2 := by
  induction l with
  | nil => simp [getC]
  | cons x l ih =>
    unfold Keys at h
    rw [List.map_cons, List.nodup_cons] at h
    rw [get_cons, List.mem_cons, ih h.2]
    by_cases hx : x.1 = e.1
    · rw [if_pos hx]
      constructor
      · rintro (h1 | h1)
        · rw [h1]
        · exfalso
          have : e ∈ l := (ih h.2).2 h1
          exact h.1 (hx ▸ List.mem_map.2 ⟨e, this, rfl⟩)
      · exact fun h1 => .inl (Prod.ext hx.symm (Option.some.inj h1).symm)
    · rw [if_neg hx]
      constructor
      · rintro (h1 | h1)
        · exact absurd (congrArg Prod.fst h1).symm hx
        · exact h1
      · exact fun h1 => .inr h1
theorem keys_nodup {l : List En} (h : Keys l) : l.Nodup := by
  induction l with
  | nil => exact List.nodup_nil
  | cons x l ih =>
    unfold Keys at h
    rw [List.map_cons, List.nodup_cons] at h
    exact List.nodup_cons.2 ⟨fun hm => h.1 (List.mem_map.2 ⟨x, hm, rfl⟩), ih h.2⟩
theorem perm_of_get {l l' : List En} (h : Keys l) (h' : Keys l') (hg : ∀ s, getC l s = getC l' s) : l.Perm l' :=
  (List.perm_ext_iff_of_nodup (keys_nodup h) (keys_nodup h')).2 fun e => by rw [mem_get h, mem_get h', hg]
theorem norm_perm {l l' : List En} (h : l.Perm l') : (normC l).Perm (normC l') :=
  perm_of_get (norm_nodup l) (norm_nodup l') fun s => by rw [get_norm, get_norm, den_perm h]

def upE (e : En) (s : Spot) : En := (s, (e.2.1 + 1, e.2.2.1 + 1, e.2.2.2))
def goE (f : Fmt) (side : Int) (e : En) (p : Int) : List En := if side = -1 ∨ side = p then (match nxtS f e.1 p with | some s => [upE e s] | none => []) else []
def stepI (f : Fmt) (l : List En) (side : Int) : List En := l.flatMap fun e => goE f side e 0 ++ goE f side e 1
def stepC (f : Fmt) (l : List En) (side : Int) : List En := normC (stepI f l side)
def iterC (f : Fmt) (l : List En) : Nat → List En
  | 0 => l
  | k + 1 => stepC f (iterC f l k) (-1)
def missI (f : Fmt) (l : List En) (a : Int) : Nat → List En
  | 0 => []
  | k + 1 => missI f l a k ++ (if a ≤ (k : Int) then iterC f l k else [])
def missC (f : Fmt) (l : List En) (a : Int) (b : Nat) : List En := normC (missI f l a (b + 1))
theorem step_perm (f : Fmt) {l l' : List En} (side : Int) (h : l.Perm l') : (stepC f l side).Perm (stepC f l' side) := norm_perm (h.flatMap_right _)
theorem iter_perm (f : Fmt) {l l' : List En} (h : l.Perm l') : ∀ k, (iterC f l k).Perm (iterC f l' k)
  | 0 => h
  | k + 1 => step_perm f (-1) (iter_perm f h k)
theorem missI_perm (f : Fmt) {l l' : List En} (a : Int) (h : l.Perm l') : ∀ k, (missI f l a k).Perm (missI f l' a k)
  | 0 => .refl _
  | k + 1 => by
    rw [missI, missI]
    refine (missI_perm f a h k).append ?_
    by_cases ha : a ≤ (k : Int)
    · rw [if_pos ha, if_pos ha]; exact iter_perm f h k
    · rw [if_neg ha, if_neg ha]
theorem miss_perm (f : Fmt) {l l' : List En} (a : Int) (b : Nat) (h : l.Perm l') : (missC f l a b).Perm (missC f l' a b) := norm_perm (missI_perm f a h _)
structure Nt where
  (kind side : Int) (pair : Pr)
def holdS (f : Fmt) (x : Nt) (s : Spot) : Bool :=
  bif decide (x.kind = 3) then decide (s.p = x.pair) else bif decide (x.kind = 4) then decide (s.g = x.pair) && decide (s.p = (0, 0)) else
  bif decide (x.kind = 5) then decide (wonV s.st = x.pair) && (decide (s.g = (0, 0)) && decide (s.p = (0, 0))) else
  bif decide (x.kind = 6) then decide (0 ≤ srvS f s) && decide (srvS f s % 2 = x.side) else decide (winS f s = x.side)
def testC (f : Fmt) (x : Nt) (l : List En) : List En := l.filter fun e => holdS f x e.1
def afterC (f : Fmt) (l : List En) (x : Nt) : List En :=
  if x.kind = 1 then stepC f l x.side else if x.kind = 2 then missC f l x.pair.1 x.pair.2.toNat else testC f x l
theorem after_perm (f : Fmt) {l l' : List En} (x : Nt) (h : l.Perm l') : (afterC f l x).Perm (afterC f l' x) := by
  unfold afterC
  by_cases h1 : x.kind = 1
  · rw [if_pos h1, if_pos h1]; exact step_perm f _ h
  · rw [if_neg h1, if_neg h1]
    by_cases h2 : x.kind = 2
    · rw [if_pos h2, if_pos h2]; exact miss_perm f _ _ h
    · rw [if_neg h2, if_neg h2]; exact h.filter _
end Go.Proofs.YtpmmgljndceplaaGreat

namespace Go.Proofs.YtpmmgljndceplaaGreat
open Go Go.RowKit

def keyC (l : List En) : List Spot := l.map (·.1)
theorem norm_mem (l : List En) (s : Spot) : s ∈ keyC (normC l) ↔ s ∈ keyC l := by
  have : ∀ (l acc : List En), s ∈ keyC (l.foldl putC acc) ↔ s ∈ keyC acc ∨ s ∈ keyC l := fun l => by
    induction l with
    | nil => intro acc; simp [keyC]
    | cons e l ih =>
      intro acc
      rw [List.foldl_cons, ih]
      show s ∈ (putC acc e).map (·.1) ∨ s ∈ keyC l ↔ s ∈ keyC acc ∨ s ∈ (e :: l).map (·.1)
      rw [put_keys, List.map_cons, List.mem_cons]
      constructor
      · rintro ((h | h) | h)
        · exact .inl h
        · exact .inr (.inl h)
        · exact .inr (.inr h)
      · rintro (h | h | h)
        · exact .inl (.inl h)
        · exact .inl (.inr h)
        · exact .inr h
  rw [normC, this]
  simp [keyC]
def Pt (f : Fmt) (side : Int) (t s : Spot) : Prop := ∃ p : Int, (p = 0 ∨ p = 1) ∧ (side = -1 ∨ side = p) ∧ nxtS f t p = some s
def Pts (f : Fmt) (t : Spot) : Nat → Spot → Prop
  | 0, s => t = s
  | k + 1, s => ∃ u, Pts f t k u ∧ Pt f (-1) u s
def Rel (f : Fmt) (x : Nt) (t s : Spot) : Prop :=
  if x.kind = 1 then Pt f x.side t s else if x.kind = 2 then ∃ k : Nat, k ≤ x.pair.2.toNat ∧ x.pair.1 ≤ (k : Int) ∧ Pts f t k s else t = s ∧ holdS f x s = true
theorem go_mem {f : Fmt} {side : Int} {e : En} {p : Int} {s : Spot} : s ∈ keyC (goE f side e p) ↔ (side = -1 ∨ side = p) ∧ nxtS f e.1 p = some s := by
  unfold goE
  by_cases h : side = -1 ∨ side = p
  · rw [if_pos h]
    cases hn : nxtS f e.1 p with
    | none => simp [keyC]
    | some t =>
      simp only [keyC, upE, List.map_cons, List.map_nil, List.mem_singleton, h, true_and, Option.some.injEq]
      exact ⟨fun h => h.symm, fun h => h.symm⟩
  · rw [if_neg h]; simp [keyC, h]
theorem step_mem {f : Fmt} {l : List En} {side : Int} {s : Spot} : s ∈ keyC (stepC f l side) ↔ ∃ t ∈ keyC l, Pt f side t s := by
  rw [stepC, norm_mem]
  unfold stepI
  simp only [keyC, List.map_flatMap, List.mem_flatMap, List.map_append, List.mem_append]
  constructor
  · rintro ⟨e, he, h | h⟩
    · exact ⟨e.1, List.mem_map.2 ⟨e, he, rfl⟩, 0, .inl rfl, go_mem.1 h⟩
    · exact ⟨e.1, List.mem_map.2 ⟨e, he, rfl⟩, 1, .inr rfl, go_mem.1 h⟩
  · rintro ⟨t, ht, p, hp, h⟩
    obtain ⟨e, he, rfl⟩ := List.mem_map.1 ht
    rcases hp with rfl | rfl
    · exact ⟨e, he, .inl (go_mem.2 h)⟩
    · exact ⟨e, he, .inr (go_mem.2 h)⟩
theorem iter_mem {f : Fmt} {l : List En} : ∀ {k : Nat} {s : Spot}, s ∈ keyC (iterC f l k) ↔ ∃ t ∈ keyC l, Pts f t k s
  | 0, s => ⟨fun h => ⟨s, h, rfl⟩, fun ⟨t, ht, h⟩ => by cases h; exact ht⟩
  | k + 1, s => by
    rw [iterC, step_mem]
    constructor
    · rintro ⟨u, hu, h⟩
      obtain ⟨t, ht, h'⟩ := iter_mem.1 hu
      exact ⟨t, ht, u, h', h⟩
    · rintro ⟨t, ht, u, h', h⟩
      exact ⟨u, iter_mem.2 ⟨t, ht, h'⟩, h⟩
theorem missI_mem {f : Fmt} {l : List En} {a : Int} {s : Spot} : ∀ {n : Nat}, s ∈ keyC (missI f l a n) ↔ ∃ k : Nat, k < n ∧ a ≤ (k : Int) ∧ ∃ t ∈ keyC l, Pts f t k s
  | 0 => ⟨fun h => by simp [keyC, missI] at h, fun ⟨k, h, _⟩ => by omega⟩
  | n + 1 => by
    have : keyC (missI f l a (n + 1)) = keyC (missI f l a n) ++ keyC (if a ≤ (n : Int) then iterC f l n else []) := by rw [missI]; simp [keyC]
    rw [this, List.mem_append, missI_mem]
    constructor
    · rintro (⟨k, h1, h2⟩ | h)
      · exact ⟨k, by omega, h2⟩
      · by_cases ha : a ≤ (n : Int)
        · rw [if_pos ha] at h
          exact ⟨n, by omega, ha, iter_mem.1 h⟩
        · rw [if_neg ha] at h; simp [keyC] at h
    · rintro ⟨k, h1, h2, h3⟩
      by_cases e : k = n
      · subst e
        rw [if_pos h2]
        exact .inr (iter_mem.2 h3)
      · exact .inl ⟨k, by omega, h2, h3⟩
theorem after_mem {f : Fmt} {l : List En} {x : Nt} {s : Spot} : s ∈ keyC (afterC f l x) ↔ ∃ t ∈ keyC l, Rel f x t s := by
  unfold afterC Rel
  by_cases h1 : x.kind = 1
  · simp only [if_pos h1]; exact step_mem
  · simp only [if_neg h1]
    by_cases h2 : x.kind = 2
    · simp only [if_pos h2]
      rw [missC, norm_mem, missI_mem]
      constructor
      · rintro ⟨k, hk, ha, t, ht, h⟩
        exact ⟨t, ht, k, by omega, ha, h⟩
      · rintro ⟨t, ht, k, hk, ha, h⟩
        exact ⟨k, by omega, ha, t, ht, h⟩
    · simp only [if_neg h2]
      constructor
      · intro h
        obtain ⟨e, he, rfl⟩ := List.mem_map.1 h
        obtain ⟨h3, h4⟩ := List.mem_filter.1 he
        exact ⟨e.1, List.mem_map.2 ⟨e, h3, rfl⟩, rfl, h4⟩
      · rintro ⟨t, ht, rfl, h⟩
        obtain ⟨e, he, rfl⟩ := List.mem_map.1 ht
        exact List.mem_map.2 ⟨e, List.mem_filter.2 ⟨he, h⟩, rfl⟩

def begC (first : Int) : List En := (if first = -1 ∨ first = 0 then [(⟨0, [], (0, 0), (0, 0)⟩, (0, 0, 0))] else []) ++ (if first = -1 ∨ first = 1 then [(⟨1, [], (0, 0), (0, 0)⟩, (0, 0, 0))] else [])
def crowdC (f : Fmt) (first : Int) (xs : List Nt) : List En := xs.foldl (afterC f) (begC first)
theorem crowd_succ (f : Fmt) (first : Int) {xs : List Nt} {k : Nat} {x : Nt} (h : xs[k]? = some x) : crowdC f first (xs.take (k + 1)) = afterC f (crowdC f first (xs.take k)) x := by
  unfold crowdC
  rw [List.take_add_one, h, List.foldl_append]; rfl
def Lft (f : Fmt) (first : Int) (xs : List Nt) : Nat → Nat → Spot → Prop
  | 0, k, s => k = 0 ∧ s ∈ keyC (begC first)
  | j + 1, k, s => (∃ x t, xs[j]? = some x ∧ Lft f first xs j k t ∧ Rel f x t s) ∨ ∃ k', k = k' + 1 ∧ Lft f first xs j k' s
theorem lft_le {f : Fmt} {first : Int} {xs : List Nt} : ∀ {j k : Nat} {s : Spot}, Lft f first xs j k s → k ≤ j
  | 0, k, s, h => by have := h.1; omega
  | j + 1, k, s, h => by
    rcases h with ⟨_, _, _, h, _⟩ | ⟨k', rfl, h⟩
    · have := lft_le h; omega
    · have := lft_le h; omega
end Go.Proofs.YtpmmgljndceplaaGreat

namespace Go.Proofs.YtpmmgljndceplaaGreat
open Go Go.RowKit

def Mo (l : List En) (R : Int → Spot → Prop) : Prop := (∀ e ∈ l, R e.2.2.2 e.1) ∧ ∀ n s, R n s → ∃ e ∈ l, e.1 = s ∧ e.2.2.2 ≤ n
theorem Mo.iff {l : List En} {R R' : Int → Spot → Prop} (h : Mo l R) (hi : ∀ n s, R n s ↔ R' n s) : Mo l R' := ⟨fun e he => (hi _ _).1 (h.1 e he), fun n s hr => h.2 n s ((hi _ _).2 hr)⟩
theorem den_out {l : List En} {s : Spot} {v : Mn} (h : denC l s = some v) : (∃ e ∈ l, e.1 = s ∧ e.2.2.2 = v.2.2) ∧ ∀ e ∈ l, e.1 = s → v.2.2 ≤ e.2.2.2 := by
  induction l generalizing v with
  | nil => cases h
  | cons e l ih =>
    rw [denC] at h
    by_cases he : e.1 = s
    · rw [if_pos he] at h
      cases hd : denC l s with
      | none =>
        rw [hd] at h
        have hv : e.2 = v := Option.some.inj h
        subst hv
        refine ⟨⟨e, List.mem_cons_self, he, rfl⟩, fun e' he' hs => ?_⟩
        rcases List.mem_cons.1 he' with rfl | hm
        · exact Int.le_refl _
        · exfalso
          have : ∀ l : List En, e' ∈ l → e'.1 = s → denC l s ≠ none := fun l => by
            induction l with
            | nil => intro h; cases h
            | cons y l ih2 =>
              intro hy hs2 hn
              rw [denC] at hn
              by_cases h3 : y.1 = s
              · rw [if_pos h3] at hn
                cases hq : denC l s <;> rw [hq] at hn <;> cases hn
              · rw [if_neg h3] at hn
                rcases List.mem_cons.1 hy with rfl | hy
                · exact h3 hs2
                · exact ih2 hy hs2 hn
          exact this l hm hs hd
      | some u =>
        rw [hd] at h
        have hv : joinE e.2 u = v := Option.some.inj h
        subst hv
        obtain ⟨⟨e1, h1, h2, h3⟩, h4⟩ := ih hd
        have hj : (joinE e.2 u).2.2 = min e.2.2.2 u.2.2 := rfl
        rw [hj]
        refine ⟨?_, fun e' he' hs => ?_⟩
        · by_cases hle : e.2.2.2 ≤ u.2.2
          · exact ⟨e, List.mem_cons_self, he, by omega⟩
          · exact ⟨e1, List.mem_cons_of_mem _ h1, h2, by omega⟩
        · rcases List.mem_cons.1 he' with rfl | hm
          · omega
          · have := h4 e' hm hs; omega
    · rw [if_neg he] at h
      obtain ⟨⟨e1, h1, h2, h3⟩, h4⟩ := ih h
      refine ⟨⟨e1, List.mem_cons_of_mem _ h1, h2, h3⟩, fun e' he' hs => ?_⟩
      rcases List.mem_cons.1 he' with rfl | hm
      · exact absurd hs he
      · exact h4 e' hm hs
theorem den_mem {l : List En} {s : Spot} (h : s ∈ keyC l) : ∃ v, denC l s = some v := by
  have := (norm_mem l s).2 h
  obtain ⟨e, he, rfl⟩ := List.mem_map.1 this
  exact ⟨e.2, by rw [← get_norm]; exact (mem_get (norm_nodup l) e).1 he⟩
theorem Mo.of_den {l l' : List En} {R : Int → Spot → Prop} (h : Mo l R) (hk : Keys l') (hg : ∀ s, getC l' s = denC l s) : Mo l' R := by
  refine ⟨fun e he => ?_, fun n s hr => ?_⟩
  · have := (mem_get hk e).1 he
    rw [hg] at this
    obtain ⟨⟨e1, h1, h2, h3⟩, _⟩ := den_out this
    have := h.1 e1 h1
    rwa [h2, h3] at this
  · obtain ⟨e, he, hs, hn⟩ := h.2 n s hr
    obtain ⟨v, hv⟩ := den_mem (List.mem_map.2 ⟨e, he, hs⟩)
    have h4 := (den_out hv).2 e he hs
    exact ⟨(s, v), (mem_get hk (s, v)).2 (by rw [hg]; exact hv), rfl, by show v.2.2 ≤ n; omega⟩
theorem Mo.norm {l : List En} {R : Int → Spot → Prop} (h : Mo l R) : Mo (normC l) R := h.of_den (norm_nodup l) (get_norm l)
theorem Mo.app {l l' : List En} {R R' : Int → Spot → Prop} (h : Mo l R) (h' : Mo l' R') : Mo (l ++ l') (fun n s => R n s ∨ R' n s) := by
  refine ⟨fun e he => ?_, fun n s hr => ?_⟩
  · rcases List.mem_append.1 he with he | he
    · exact .inl (h.1 e he)
    · exact .inr (h'.1 e he)
  · rcases hr with hr | hr
    · obtain ⟨e, he, h2⟩ := h.2 n s hr
      exact ⟨e, List.mem_append_left _ he, h2⟩
    · obtain ⟨e, he, h2⟩ := h'.2 n s hr
      exact ⟨e, List.mem_append_right _ he, h2⟩
theorem go_out {f : Fmt} {side : Int} {e : En} {p : Int} {u : En} : u ∈ goE f side e p ↔ (side = -1 ∨ side = p) ∧ nxtS f e.1 p = some u.1 ∧ u = upE e u.1 := by
  unfold goE
  by_cases h : side = -1 ∨ side = p
  · rw [if_pos h]
    cases hn : nxtS f e.1 p with
    | none => simp
    | some t =>
      simp only [List.mem_singleton, h, true_and, Option.some.injEq]
      constructor
      · rintro rfl; exact ⟨rfl, rfl⟩
      · rintro ⟨rfl, h2⟩; exact h2
  · rw [if_neg h]; simp [h]
theorem Mo.step {f : Fmt} {l : List En} {R : Int → Spot → Prop} (side : Int) (h : Mo l R) : Mo (stepC f l side) (fun n s => ∃ t, R n t ∧ Pt f side t s) := by
  refine Mo.norm ⟨fun u hu => ?_, fun n s hr => ?_⟩
  · obtain ⟨e, he, hu⟩ := List.mem_flatMap.1 hu
    rcases List.mem_append.1 hu with hu | hu
    · obtain ⟨h1, h2, h3⟩ := go_out.1 hu
      exact ⟨e.1, by rw [h3]; exact h.1 e he, 0, .inl rfl, h1, h2⟩
    · obtain ⟨h1, h2, h3⟩ := go_out.1 hu
      exact ⟨e.1, by rw [h3]; exact h.1 e he, 1, .inr rfl, h1, h2⟩
  · obtain ⟨t, ht, p, hp, hsd, hn⟩ := hr
    obtain ⟨e, he, rfl, hle⟩ := h.2 n t ht
    refine ⟨upE e s, List.mem_flatMap.2 ⟨e, he, ?_⟩, rfl, hle⟩
    rcases hp with rfl | rfl
    · exact List.mem_append_left _ (go_out.2 ⟨hsd, hn, rfl⟩)
    · exact List.mem_append_right _ (go_out.2 ⟨hsd, hn, rfl⟩)
theorem Mo.iter {f : Fmt} {l : List En} {R : Int → Spot → Prop} (h : Mo l R) : ∀ k, Mo (iterC f l k) (fun n s => ∃ t, R n t ∧ Pts f t k s)
  | 0 => h.iff fun n s => ⟨fun hr => ⟨s, hr, rfl⟩, fun ⟨t, hr, ht⟩ => by cases ht; exact hr⟩
  | k + 1 => ((h.iter k).step (-1)).iff fun n s => ⟨fun ⟨u, ⟨t, hr, hp⟩, h2⟩ => ⟨t, hr, u, hp, h2⟩, fun ⟨t, hr, u, hp, h2⟩ => ⟨u, ⟨t, hr, hp⟩, h2⟩⟩
theorem Mo.nil : Mo [] (fun _ _ => False) := ⟨fun e he => (by cases he), fun n s h => h.elim⟩
theorem Mo.missI {f : Fmt} {l : List En} {R : Int → Spot → Prop} (a : Int) (h : Mo l R) : ∀ n, Mo (missI f l a n) (fun m s => ∃ t, R m t ∧ ∃ k : Nat, k < n ∧ a ≤ (k : Int) ∧ Pts f t k s)
  | 0 => Mo.nil.iff fun m s => ⟨fun h => h.elim, fun ⟨t, _, k, hk, _⟩ => by omega⟩
  | n + 1 => by
    unfold Go.Proofs.YtpmmgljndceplaaGreat.missI
    by_cases ha : a ≤ (n : Int)
    · rw [if_pos ha]
      refine ((h.missI a n).app (h.iter (f := f) n)).iff fun m s => ⟨?_, ?_⟩
      · rintro (⟨t, hr, k, hk, h2⟩ | ⟨t, hr, hp⟩)
        · exact ⟨t, hr, k, by omega, h2⟩
        · exact ⟨t, hr, n, by omega, ha, hp⟩
      · rintro ⟨t, hr, k, hk, h2, h3⟩
        by_cases e : k = n
        · subst e; exact .inr ⟨t, hr, h3⟩
        · exact .inl ⟨t, hr, k, by omega, h2, h3⟩
    · rw [if_neg ha, List.append_nil]
      refine (h.missI a n).iff fun m s => ⟨?_, ?_⟩
      · rintro ⟨t, hr, k, hk, h2⟩
        exact ⟨t, hr, k, by omega, h2⟩
      · rintro ⟨t, hr, k, hk, h2, h3⟩
        exact ⟨t, hr, k, by by_cases e : k = n; (subst e; exact absurd h2 ha); omega, h2, h3⟩
theorem Mo.after {f : Fmt} {l : List En} {R : Int → Spot → Prop} (x : Nt) (h : Mo l R) : Mo (afterC f l x) (fun n s => ∃ t, R n t ∧ Rel f x t s) := by
  unfold afterC
  by_cases h1 : x.kind = 1
  · rw [if_pos h1]
    refine (h.step x.side).iff fun n s => ?_
    unfold Rel; simp only [if_pos h1]
  · rw [if_neg h1]
    by_cases h2 : x.kind = 2
    · rw [if_pos h2]
      refine (h.missI (f := f) x.pair.1 (x.pair.2.toNat + 1)).norm.iff fun n s => ?_
      unfold Rel
      simp only [if_neg h1, if_pos h2]
      constructor
      · rintro ⟨t, hr, k, hk, h3⟩; exact ⟨t, hr, k, by omega, h3⟩
      · rintro ⟨t, hr, k, hk, h3⟩; exact ⟨t, hr, k, by omega, h3⟩
    · rw [if_neg h2]
      refine ⟨fun e he => ?_, fun n s hr => ?_⟩
      · obtain ⟨h3, h4⟩ := List.mem_filter.1 he
        refine ⟨e.1, h.1 e h3, ?_⟩
        unfold Rel; rw [if_neg h1, if_neg h2]; exact ⟨rfl, h4⟩
      · obtain ⟨t, ht, hr⟩ := hr
        unfold Rel at hr; rw [if_neg h1, if_neg h2] at hr
        obtain ⟨rfl, hh⟩ := hr
        obtain ⟨e, he, rfl, hle⟩ := h.2 n t ht
        exact ⟨e, List.mem_filter.2 ⟨he, hh⟩, rfl, hle⟩

end Go.Proofs.YtpmmgljndceplaaGreat

namespace Go.Proofs.YtpmmgljndceplaaGreat
open Go Go.RowKit

def Run (f : Fmt) (K : Spot → Prop) : List Nt → Spot → Prop
  | [], s => K s
  | x :: xs, s => Run f (fun u => ∃ t, K t ∧ Rel f x t u) xs s
end Go.Proofs.YtpmmgljndceplaaGreat

namespace Go.Proofs.YtpmmgljndceplaaGreat
open Go Go.RowKit

def brdOf (s : Spot) : Brd := ⟨s.st, s.g, s.p⟩
theorem srt_same {α : Type} {lt : α → α → Prop} (irr : ∀ a, ¬ lt a a) (asym : ∀ a b, lt a b → ¬ lt b a) : ∀ {l l' : List α}, l.Pairwise lt → l'.Pairwise lt → (∀ a, a ∈ l ↔ a ∈ l') → l = l'
  | [], [], _, _, _ => rfl
  | [], b :: l', _, _, h => by cases (h b).2 List.mem_cons_self
  | a :: l, [], _, _, h => by cases (h a).1 List.mem_cons_self
  | a :: l, b :: l', h1, h2, h => by
    obtain ⟨ha, h3⟩ := List.pairwise_cons.1 h1
    obtain ⟨hb, h4⟩ := List.pairwise_cons.1 h2
    have hab : a = b := by
      rcases List.mem_cons.1 ((h a).1 List.mem_cons_self) with e | hm
      · exact e
      · rcases List.mem_cons.1 ((h b).2 List.mem_cons_self) with e | hm'
        · exact e.symm
        · exact absurd (ha b hm') (asym _ _ (hb a hm))
    subst hab
    refine congrArg (a :: ·) (srt_same irr asym h3 h4 fun c => ?_)
    constructor
    · intro hc
      rcases List.mem_cons.1 ((h c).1 (List.mem_cons_of_mem _ hc)) with rfl | hm
      · exact absurd (ha c hc) (irr c)
      · exact hm
    · intro hc
      rcases List.mem_cons.1 ((h c).2 (List.mem_cons_of_mem _ hc)) with rfl | hm
      · exact absurd (hb c hc) (irr c)
      · exact hm
def orI (a b : Int) : Int := if a ≠ 0 then a else b
def cmpP (a b : Pr) : Int := orI (a.1 - b.1) (a.2 - b.2)
def cmpL : List Pr → List Pr → Int
  | [], [] => 0
  | [], _ :: _ => -1
  | _ :: _, [] => 1
  | a :: l, b :: l' => orI (cmpP a b) (cmpL l l')
def cmpB (a b : Brd) : Int := orI (orI (cmpL a.st b.st) (cmpP a.g b.g)) (cmpP a.p b.p)
theorem cmpP_zero {a b : Pr} : cmpP a b = 0 ↔ a = b := by
  unfold cmpP orI
  constructor
  · intro h
    by_cases h1 : a.1 - b.1 ≠ 0
    · rw [if_pos h1] at h; exact absurd h h1
    · rw [if_neg h1] at h; exact Prod.ext (by omega) (by omega)
  · rintro rfl
    rw [if_neg (by omega)]; omega
theorem cmpL_zero : ∀ {a b : List Pr}, cmpL a b = 0 ↔ a = b
  | [], [] => ⟨fun _ => rfl, fun _ => rfl⟩
  | [], _ :: _ => ⟨fun h => absurd h (by show ¬ (-1 : Int) = 0; decide), fun h => by cases h⟩
  | _ :: _, [] => ⟨fun h => absurd h (by show ¬ (1 : Int) = 0; decide), fun h => by cases h⟩
  | a :: l, b :: l' => by
    rw [cmpL, orI]
    constructor
    · intro h
      by_cases h1 : cmpP a b ≠ 0
      · rw [if_pos h1] at h; exact absurd h h1
      · rw [if_neg h1] at h
        have e := cmpP_zero.1 (show cmpP a b = 0 by omega)
        rw [e, cmpL_zero.1 h]
    · intro h
      obtain ⟨rfl, rfl⟩ := List.cons.inj h
      rw [if_neg (by rw [cmpP_zero.2 rfl]; omega)]
      exact cmpL_zero.2 rfl
theorem orI_zero {a b : Int} : orI a b = 0 ↔ a = 0 ∧ b = 0 := by
  unfold orI
  by_cases h : a ≠ 0
  · rw [if_pos h]; omega
  · rw [if_neg h]; omega
theorem cmpB_zero {a b : Brd} : cmpB a b = 0 ↔ a = b := by
  unfold cmpB
  rw [orI_zero, orI_zero, cmpL_zero, cmpP_zero, cmpP_zero]
  constructor
  · rintro ⟨⟨h1, h2⟩, h3⟩
    cases a; cases b
    cases h1; cases h2; cases h3; rfl
  · rintro rfl; exact ⟨⟨rfl, rfl⟩, rfl⟩
theorem cmpP_neg {a b : Pr} : (cmpP a b < 0 ↔ 0 < cmpP b a) := by
  unfold cmpP orI
  by_cases h : a.1 - b.1 ≠ 0
  · rw [if_pos h, if_pos (by omega)]; omega
  · rw [if_neg h, if_neg (by omega)]; omega
theorem orI_neg {a b a' b' : Int} (h1 : a < 0 ↔ 0 < a') (h2 : 0 < a ↔ a' < 0) (h3 : b < 0 ↔ 0 < b') : orI a b < 0 ↔ 0 < orI a' b' := by
  unfold orI
  by_cases h : a ≠ 0
  · rw [if_pos h, if_pos (by omega)]; exact h1
  · rw [if_neg h, if_neg (by omega)]; exact h3
theorem cmpL_neg : ∀ {a b : List Pr}, cmpL a b < 0 ↔ 0 < cmpL b a
  | [], [] => by decide
  | [], _ :: _ => ⟨fun _ => by show (0 : Int) < 1; decide, fun _ => by show (-1 : Int) < 0; decide⟩
  | _ :: _, [] => ⟨fun h => by exact absurd h (by show ¬ (1 : Int) < 0; decide), fun h => by exact absurd h (by show ¬ (0 : Int) < -1; decide)⟩
  | a :: l, b :: l' => by
    rw [cmpL, cmpL]
    exact orI_neg cmpP_neg (cmpP_neg (a := b) (b := a)).symm cmpL_neg
theorem cmpB_neg {a b : Brd} : cmpB a b < 0 ↔ 0 < cmpB b a := by
  unfold cmpB
  exact orI_neg (orI_neg cmpL_neg (cmpL_neg (a := b.st) (b := a.st)).symm cmpP_neg) (orI_neg (cmpL_neg (a := b.st) (b := a.st)) cmpL_neg.symm (cmpP_neg (a := b.g) (b := a.g))).symm cmpP_neg
theorem cmpP_trans {a b c : Pr} (h1 : cmpP a b < 0) (h2 : cmpP b c < 0) : cmpP a c < 0 := by
  unfold cmpP orI at *
  by_cases e1 : a.1 - b.1 ≠ 0 <;> by_cases e2 : b.1 - c.1 ≠ 0
  · rw [if_pos e1] at h1; rw [if_pos e2] at h2; rw [if_pos (by omega)]; omega
  · rw [if_pos e1] at h1; rw [if_neg e2] at h2; rw [if_pos (by omega)]; omega
  · rw [if_neg e1] at h1; rw [if_pos e2] at h2; rw [if_pos (by omega)]; omega
  · rw [if_neg e1] at h1; rw [if_neg e2] at h2; rw [if_neg (by omega)]; omega
theorem cmpL_trans : ∀ {a b c : List Pr}, cmpL a b < 0 → cmpL b c < 0 → cmpL a c < 0
  | [], [], _, h1, _ => absurd h1 (by show ¬ (0 : Int) < 0; decide)
  | [], _ :: _, [], _, h2 => absurd h2 (by show ¬ (1 : Int) < 0; decide)
  | [], _ :: _, _ :: _, _, _ => by show (-1 : Int) < 0; decide
  | _ :: _, [], _, h1, _ => absurd h1 (by show ¬ (1 : Int) < 0; decide)
  | _ :: _, _ :: _, [], _, h2 => absurd h2 (by show ¬ (1 : Int) < 0; decide)
  | a :: l, b :: m, c :: n, h1, h2 => by
    rw [cmpL, orI] at h1 h2 ⊢
    by_cases e1 : cmpP a b ≠ 0 <;> by_cases e2 : cmpP b c ≠ 0
    · rw [if_pos e1] at h1; rw [if_pos e2] at h2
      have := cmpP_trans h1 h2
      rw [if_pos (by omega)]; exact this
    · rw [if_pos e1] at h1; rw [if_neg e2] at h2
      have e : b = c := cmpP_zero.1 (by omega)
      subst e
      rw [if_pos e1]; exact h1
    · rw [if_neg e1] at h1; rw [if_pos e2] at h2
      have e : a = b := cmpP_zero.1 (by omega)
      subst e
      rw [if_pos e2]; exact h2
    · rw [if_neg e1] at h1; rw [if_neg e2] at h2
      have e : a = b := cmpP_zero.1 (by omega)
      subst e
      rw [if_neg e2]; exact cmpL_trans h1 h2
theorem cmpB_trans {a b c : Brd} (h1 : cmpB a b < 0) (h2 : cmpB b c < 0) : cmpB a c < 0 := by
  unfold cmpB orI at *
  by_cases s1 : cmpL a.st b.st ≠ 0 <;> by_cases s2 : cmpL b.st c.st ≠ 0
  · simp only [if_pos s1] at h1
    simp only [if_pos s2] at h2
    have := cmpL_trans h1 h2
    rw [if_pos (show cmpL a.st c.st ≠ 0 by omega), if_pos (show cmpL a.st c.st ≠ 0 by omega)]; exact this
  · have e : b.st = c.st := cmpL_zero.1 (by omega)
    rw [← e, if_pos s1, if_pos s1]
    rw [if_pos s1, if_pos s1] at h1; exact h1
  · have e : a.st = b.st := cmpL_zero.1 (by omega)
    rw [e, if_pos s2, if_pos s2]
    rw [if_pos s2, if_pos s2] at h2; exact h2
  · have e1 : a.st = b.st := cmpL_zero.1 (by omega)
    rw [if_neg s1] at h1
    rw [if_neg s2] at h2
    rw [e1, if_neg s2]
    by_cases g1 : cmpP a.g b.g ≠ 0 <;> by_cases g2 : cmpP b.g c.g ≠ 0
    · rw [if_pos g1] at h1; rw [if_pos g2] at h2
      have := cmpP_trans h1 h2
      rw [if_pos (by omega)]; exact this
    · rw [if_pos g1] at h1
      have e : b.g = c.g := cmpP_zero.1 (by omega)
      rw [← e, if_pos g1]; exact h1
    · rw [if_pos g2] at h2
      have e : a.g = b.g := cmpP_zero.1 (by omega)
      rw [e, if_pos g2]; exact h2
    · rw [if_neg g1] at h1; rw [if_neg g2] at h2
      have e : a.g = b.g := cmpP_zero.1 (by omega)
      rw [e, if_neg g2]; exact cmpP_trans h1 h2
def SrtB (l : List Brd) : Prop := l.Pairwise fun a b => cmpB a b < 0
theorem srtB_same {l l' : List Brd} (h : SrtB l) (h' : SrtB l') (hm : ∀ b, b ∈ l ↔ b ∈ l') : l = l' :=
  srt_same (fun a h => by rw [cmpB_zero.2 rfl] at h; omega) (fun a b h1 h2 => by have := cmpB_neg.1 h1; omega) h h' hm
end Go.Proofs.YtpmmgljndceplaaGreat

namespace Go.Proofs.YtpmmgljndceplaaGreat
open Go Go.RowKit

def posB (l : List Brd) (b : Brd) : Nat := l.findIdx fun c => decide (cmpB b c < 0)
def insB (l : List Brd) (b : Brd) : List Brd := if b ∈ l then l else l.take (posB l b) ++ b :: l.drop (posB l b)
theorem cmpB_pos {a b : Brd} (h : ¬ cmpB a b < 0) (hne : a ≠ b) : cmpB b a < 0 := by
  have h0 : cmpB a b ≠ 0 := fun e => hne (cmpB_zero.1 e)
  exact cmpB_neg.2 (by omega)
theorem ins_mem {l : List Brd} {b c : Brd} : c ∈ insB l b ↔ c = b ∨ c ∈ l := by
  unfold insB
  by_cases h : b ∈ l
  · rw [if_pos h]
    exact ⟨.inr, fun hc => hc.elim (fun e => e ▸ h) id⟩
  · rw [if_neg h, List.mem_append, List.mem_cons]
    have : c ∈ l ↔ c ∈ l.take (posB l b) ∨ c ∈ l.drop (posB l b) := by rw [← List.mem_append, List.take_append_drop]
    rw [this]
    constructor
    · rintro (h | h | h)
      · exact .inr (.inl h)
      · exact .inl h
      · exact .inr (.inr h)
    · rintro (h | h | h)
      · exact .inr (.inl h)
      · exact .inl h
      · exact .inr (.inr h)
theorem ins_srt {l : List Brd} {b : Brd} (h : SrtB l) : SrtB (insB l b) := by
  unfold insB
  by_cases hb : b ∈ l
  · rw [if_pos hb]; exact h
  · rw [if_neg hb]
    have hspl : SrtB (l.take (posB l b) ++ l.drop (posB l b)) := by rw [List.take_append_drop]; exact h
    obtain ⟨h1, h2, h3⟩ := List.pairwise_append.1 hspl
    have hlo : ∀ c ∈ l.take (posB l b), cmpB c b < 0 := fun c hc => by
      obtain ⟨i, hi, rfl⟩ := List.getElem_of_mem hc
      rw [List.length_take] at hi
      rw [List.getElem_take]
      have hn := List.not_of_lt_findIdx (p := fun c => decide (cmpB b c < 0)) (xs := l) (i := i) (by unfold posB at hi; omega)
      refine cmpB_pos ?_ fun e => hb (e ▸ List.getElem_mem _)
      simpa using hn
    have hhi : ∀ c ∈ l.drop (posB l b), cmpB b c < 0 := fun c hc => by
      by_cases hp : posB l b < l.length
      · have h0 : cmpB b l[posB l b] < 0 := by
          have := List.findIdx_getElem (p := fun c => decide (cmpB b c < 0)) (xs := l) (w := hp)
          exact of_decide_eq_true this
        rw [List.drop_eq_getElem_cons hp] at hc h2
        rcases List.mem_cons.1 hc with rfl | hc
        · exact h0
        · exact cmpB_trans h0 ((List.pairwise_cons.1 h2).1 c hc)
      · rw [List.drop_eq_nil_of_le (by omega)] at hc; cases hc
    refine List.pairwise_append.2 ⟨h1, List.pairwise_cons.2 ⟨hhi, h2⟩, fun x hx y hy => ?_⟩
    rcases List.mem_cons.1 hy with rfl | hy
    · exact hlo x hx
    · exact h3 x hx y hy
def boardsC (l : List Spot) : List Brd := l.foldl (fun o s => insB o (brdOf s)) []
theorem boards_facts (l : List Spot) : SrtB (boardsC l) ∧ ∀ b, b ∈ boardsC l ↔ ∃ s ∈ l, brdOf s = b := by
  have : ∀ (l : List Spot) (o : List Brd), SrtB o → SrtB (l.foldl (fun o s => insB o (brdOf s)) o) ∧ ∀ b, b ∈ l.foldl (fun o s => insB o (brdOf s)) o ↔ b ∈ o ∨ ∃ s ∈ l, brdOf s = b := fun l => by
    induction l with
    | nil => exact fun o h => ⟨h, fun b => ⟨.inl, fun h => h.elim id fun ⟨_, h, _⟩ => by cases h⟩⟩
    | cons s l ih =>
      intro o h
      rw [List.foldl_cons]
      obtain ⟨h1, h2⟩ := ih (insB o (brdOf s)) (ins_srt h)
      refine ⟨h1, fun b => ?_⟩
      rw [h2, ins_mem]
      constructor
      · rintro ((e | h) | ⟨t, ht, h⟩)
        · exact .inr ⟨s, List.mem_cons_self, e.symm⟩
        · exact .inl h
        · exact .inr ⟨t, List.mem_cons_of_mem _ ht, h⟩
      · rintro (h | ⟨t, ht, h⟩)
        · exact .inl (.inr h)
        · rcases List.mem_cons.1 ht with rfl | ht
          · exact .inl (.inl h.symm)
          · exact .inr ⟨t, ht, h⟩
  obtain ⟨h1, h2⟩ := this l [] List.Pairwise.nil
  exact ⟨h1, fun b => by rw [boardsC, h2]; exact ⟨fun h => h.elim (fun h => by cases h) id, .inr⟩⟩
def cptB : List Brd → List Brd
  | [] => []
  | [b] => [b]
  | b :: c :: l => if b = c then cptB (c :: l) else b :: cptB (c :: l)
theorem cpt_mem : ∀ {l : List Brd} {b : Brd}, b ∈ cptB l ↔ b ∈ l
  | [], b => Iff.rfl
  | [_], b => Iff.rfl
  | a :: c :: l, b => by
    rw [cptB]
    by_cases h : a = c
    · subst h
      rw [if_pos rfl, cpt_mem, List.mem_cons, List.mem_cons, List.mem_cons]
      constructor
      · exact .inr
      · rintro (h | h)
        · exact .inl h
        · exact h
    · rw [if_neg h, List.mem_cons, cpt_mem, ← List.mem_cons]
theorem cpt_srt : ∀ {l : List Brd}, l.Pairwise (fun a b => cmpB a b ≤ 0) → SrtB (cptB l)
  | [], _ => List.Pairwise.nil
  | [_], _ => List.pairwise_singleton _ _
  | a :: c :: l, h => by
    rw [cptB]
    obtain ⟨h1, h2⟩ := List.pairwise_cons.1 h
    by_cases e : a = c
    · rw [if_pos e]; exact cpt_srt h2
    · rw [if_neg e]
      refine List.pairwise_cons.2 ⟨fun b hb => ?_, cpt_srt h2⟩
      have hac : cmpB a c < 0 := by
        have := h1 c List.mem_cons_self
        have : cmpB a c ≠ 0 := fun e' => e (cmpB_zero.1 e')
        omega
      have hb' := cpt_mem.1 hb
      rcases List.mem_cons.1 hb' with rfl | hb'
      · exact hac
      · have hcb := (List.pairwise_cons.1 h2).1 b hb'
        by_cases e2 : c = b
        · subst e2; exact hac
        · exact cmpB_trans hac (by have : cmpB c b ≠ 0 := fun e' => e2 (cmpB_zero.1 e'); omega)
theorem cpt_boards {l : List Spot} {o : List Brd} (h : o.Pairwise (fun a b => cmpB a b ≤ 0)) (hm : ∀ b, b ∈ o ↔ ∃ s ∈ l, brdOf s = b) : cptB o = boardsC l :=
  srtB_same (cpt_srt h) (boards_facts l).1 fun b => by rw [cpt_mem, hm, (boards_facts l).2]
end Go.Proofs.YtpmmgljndceplaaGreat

namespace Go.Proofs.YtpmmgljndceplaaGreat
open Go Go.RowKit

def Mm (l : List En) (R : Int → Spot → Prop) : Prop := (∀ e ∈ l, R e.2.1 e.1 ∧ R e.2.2.1 e.1) ∧ ∀ n s, R n s → ∃ e ∈ l, e.1 = s ∧ e.2.1 ≤ n ∧ n ≤ e.2.2.1
theorem Mm.iff {l : List En} {R R' : Int → Spot → Prop} (h : Mm l R) (hi : ∀ n s, R n s ↔ R' n s) : Mm l R' := ⟨fun e he => ⟨(hi _ _).1 (h.1 e he).1, (hi _ _).1 (h.1 e he).2⟩, fun n s hr => h.2 n s ((hi _ _).2 hr)⟩
theorem den_none {l : List En} {s : Spot} (h : denC l s = none) : ∀ e ∈ l, e.1 ≠ s := fun e he hs => by
  obtain ⟨v, hv⟩ := den_mem (List.mem_map.2 ⟨e, he, hs⟩)
  rw [hv] at h; cases h
theorem den_mm {l : List En} {s : Spot} {v : Mn} (h : denC l s = some v) : ((∃ e ∈ l, e.1 = s ∧ e.2.1 = v.1) ∧ ∃ e ∈ l, e.1 = s ∧ e.2.2.1 = v.2.1) ∧ ∀ e ∈ l, e.1 = s → v.1 ≤ e.2.1 ∧ e.2.2.1 ≤ v.2.1 := by
  induction l generalizing v with
  | nil => cases h
  | cons e l ih =>
    rw [denC] at h
    by_cases he : e.1 = s
    · rw [if_pos he] at h
      cases hd : denC l s with
      | none =>
        rw [hd] at h
        have hv : e.2 = v := Option.some.inj h
        subst hv
        refine ⟨⟨⟨e, List.mem_cons_self, he, rfl⟩, e, List.mem_cons_self, he, rfl⟩, fun e' he' hs => ?_⟩
        rcases List.mem_cons.1 he' with rfl | hm
        · exact ⟨Int.le_refl _, Int.le_refl _⟩
        · exact absurd hs (den_none hd e' hm)
      | some u =>
        rw [hd] at h
        have hv : joinE e.2 u = v := Option.some.inj h
        subst hv
        obtain ⟨⟨⟨e1, h1, h2, h3⟩, e2, g1, g2, g3⟩, h4⟩ := ih hd
        have hj : (joinE e.2 u).1 = min e.2.1 u.1 := rfl
        have hj2 : (joinE e.2 u).2.1 = max e.2.2.1 u.2.1 := rfl
        rw [hj, hj2]
        refine ⟨⟨?_, ?_⟩, fun e' he' hs => ?_⟩
        · by_cases hle : e.2.1 ≤ u.1
          · exact ⟨e, List.mem_cons_self, he, by omega⟩
          · exact ⟨e1, List.mem_cons_of_mem _ h1, h2, by omega⟩
        · by_cases hle : u.2.1 ≤ e.2.2.1
          · exact ⟨e, List.mem_cons_self, he, by omega⟩
          · exact ⟨e2, List.mem_cons_of_mem _ g1, g2, by omega⟩
        · rcases List.mem_cons.1 he' with rfl | hm
          · omega
          · have := h4 e' hm hs; omega
    · rw [if_neg he] at h
      obtain ⟨⟨⟨e1, h1, h2, h3⟩, e2, g1, g2, g3⟩, h4⟩ := ih h
      refine ⟨⟨⟨e1, List.mem_cons_of_mem _ h1, h2, h3⟩, e2, List.mem_cons_of_mem _ g1, g2, g3⟩, fun e' he' hs => ?_⟩
      rcases List.mem_cons.1 he' with rfl | hm
      · exact absurd hs he
      · exact h4 e' hm hs
theorem Mm.norm {l : List En} {R : Int → Spot → Prop} (h : Mm l R) : Mm (normC l) R := by
  refine ⟨fun e he => ?_, fun n s hr => ?_⟩
  · have := (mem_get (norm_nodup l) e).1 he
    rw [get_norm] at this
    obtain ⟨⟨⟨e1, h1, h2, h3⟩, e2, g1, g2, g3⟩, _⟩ := den_mm this
    have r1 := (h.1 e1 h1).1
    have r2 := (h.1 e2 g1).2
    rw [h2, h3] at r1
    rw [g2, g3] at r2
    exact ⟨r1, r2⟩
  · obtain ⟨e, he, hs, hn⟩ := h.2 n s hr
    obtain ⟨v, hv⟩ := den_mem (List.mem_map.2 ⟨e, he, hs⟩)
    have h4 := (den_mm hv).2 e he hs
    exact ⟨(s, v), (mem_get (norm_nodup l) (s, v)).2 (by rw [get_norm]; exact hv), rfl, by show v.1 ≤ n; omega, by show n ≤ v.2.1; omega⟩
theorem Mm.app {l l' : List En} {R R' : Int → Spot → Prop} (h : Mm l R) (h' : Mm l' R') : Mm (l ++ l') (fun n s => R n s ∨ R' n s) := by
  refine ⟨fun e he => ?_, fun n s hr => ?_⟩
  · rcases List.mem_append.1 he with he | he
    · exact ⟨.inl (h.1 e he).1, .inl (h.1 e he).2⟩
    · exact ⟨.inr (h'.1 e he).1, .inr (h'.1 e he).2⟩
  · rcases hr with hr | hr
    · obtain ⟨e, he, h2⟩ := h.2 n s hr
      exact ⟨e, List.mem_append_left _ he, h2⟩
    · obtain ⟨e, he, h2⟩ := h'.2 n s hr
      exact ⟨e, List.mem_append_right _ he, h2⟩
theorem Mm.step {f : Fmt} {l : List En} {R : Int → Spot → Prop} (side : Int) (h : Mm l R) : Mm (stepC f l side) (fun n s => ∃ t, R (n - 1) t ∧ Pt f side t s) := by
  refine Mm.norm ⟨fun u hu => ?_, fun n s hr => ?_⟩
  · obtain ⟨e, he, hu⟩ := List.mem_flatMap.1 hu
    have key : ∀ p : Int, (p = 0 ∨ p = 1) → u ∈ goE f side e p → (∃ t, R (u.2.1 - 1) t ∧ Pt f side t u.1) ∧ ∃ t, R (u.2.2.1 - 1) t ∧ Pt f side t u.1 := fun p hp hu => by
      obtain ⟨h1, h2, h3⟩ := go_out.1 hu
      have e1 : u.2.1 - 1 = e.2.1 := by rw [h3]; show e.2.1 + 1 - 1 = _; omega
      have e2 : u.2.2.1 - 1 = e.2.2.1 := by rw [h3]; show e.2.2.1 + 1 - 1 = _; omega
      exact ⟨⟨e.1, by rw [e1]; exact (h.1 e he).1, p, hp, h1, h2⟩, e.1, by rw [e2]; exact (h.1 e he).2, p, hp, h1, h2⟩
    rcases List.mem_append.1 hu with hu | hu
    · exact key 0 (.inl rfl) hu
    · exact key 1 (.inr rfl) hu
  · obtain ⟨t, ht, p, hp, hsd, hn⟩ := hr
    obtain ⟨e, he, rfl, hle⟩ := h.2 (n - 1) t ht
    refine ⟨upE e s, List.mem_flatMap.2 ⟨e, he, ?_⟩, rfl, by show e.2.1 + 1 ≤ n; omega, by show n ≤ e.2.2.1 + 1; omega⟩
    rcases hp with rfl | rfl
    · exact List.mem_append_left _ (go_out.2 ⟨hsd, hn, rfl⟩)
    · exact List.mem_append_right _ (go_out.2 ⟨hsd, hn, rfl⟩)
theorem Mm.iter {f : Fmt} {l : List En} {R : Int → Spot → Prop} (h : Mm l R) : ∀ k : Nat, Mm (iterC f l k) (fun n s => ∃ t, R (n - (k : Int)) t ∧ Pts f t k s)
  | 0 => h.iff fun n s => ⟨fun hr => ⟨s, by rw [show n - ((0 : Nat) : Int) = n by omega]; exact hr, rfl⟩, fun ⟨t, hr, ht⟩ => by cases ht; rw [show n - ((0 : Nat) : Int) = n by omega] at hr; exact hr⟩
  | k + 1 => ((h.iter k).step (-1)).iff fun n s => ⟨fun ⟨u, ⟨t, hr, hp⟩, h2⟩ => ⟨t, by rw [show n - ((k + 1 : Nat) : Int) = n - 1 - (k : Int) by omega]; exact hr, u, hp, h2⟩, fun ⟨t, hr, u, hp, h2⟩ => ⟨u, ⟨t, by rw [show n - 1 - (k : Int) = n - ((k + 1 : Nat) : Int) by omega]; exact hr, hp⟩, h2⟩⟩
theorem Mm.nil : Mm [] (fun _ _ => False) := ⟨fun e he => (by cases he), fun n s h => h.elim⟩
theorem Mm.missI {f : Fmt} {l : List En} {R : Int → Spot → Prop} (a : Int) (h : Mm l R) : ∀ n, Mm (missI f l a n) (fun m s => ∃ t, ∃ k : Nat, k < n ∧ a ≤ (k : Int) ∧ R (m - (k : Int)) t ∧ Pts f t k s)
  | 0 => Mm.nil.iff fun m s => ⟨fun h => h.elim, fun ⟨t, k, hk, _⟩ => by omega⟩
  | n + 1 => by
    unfold Go.Proofs.YtpmmgljndceplaaGreat.missI
    by_cases ha : a ≤ (n : Int)
    · rw [if_pos ha]
      refine ((h.missI a n).app (h.iter (f := f) n)).iff fun m s => ⟨?_, ?_⟩
      · rintro (⟨t, k, hk, h2⟩ | ⟨t, hr, hp⟩)
        · exact ⟨t, k, by omega, h2⟩
        · exact ⟨t, n, by omega, ha, hr, hp⟩
      · rintro ⟨t, k, hk, h2, h3, h4⟩
        by_cases e : k = n
        · subst e; exact .inr ⟨t, h3, h4⟩
        · exact .inl ⟨t, k, by omega, h2, h3, h4⟩
    · rw [if_neg ha, List.append_nil]
      refine (h.missI a n).iff fun m s => ⟨?_, ?_⟩
      · rintro ⟨t, k, hk, h2⟩
        exact ⟨t, k, by omega, h2⟩
      · rintro ⟨t, k, hk, h2, h3⟩
        exact ⟨t, k, by by_cases e : k = n; (subst e; exact absurd h2 ha); omega, h2, h3⟩
def RelN (f : Fmt) (x : Nt) (t s : Spot) (k : Int) : Prop :=
  if x.kind = 1 then k = 1 ∧ Pt f x.side t s else if x.kind = 2 then ∃ j : Nat, k = (j : Int) ∧ j ≤ x.pair.2.toNat ∧ x.pair.1 ≤ (j : Int) ∧ Pts f t j s else k = 0 ∧ t = s ∧ holdS f x s = true
theorem Mm.after {f : Fmt} {l : List En} {R : Int → Spot → Prop} (x : Nt) (h : Mm l R) : Mm (afterC f l x) (fun n s => ∃ t k, R (n - k) t ∧ RelN f x t s k) := by
  unfold afterC
  by_cases h1 : x.kind = 1
  · rw [if_pos h1]
    refine (h.step x.side).iff fun n s => ?_
    unfold RelN; simp only [if_pos h1]
    exact ⟨fun ⟨t, hr, hp⟩ => ⟨t, 1, hr, rfl, hp⟩, fun ⟨t, k, hr, hk, hp⟩ => by subst hk; exact ⟨t, hr, hp⟩⟩
  · rw [if_neg h1]
    by_cases h2 : x.kind = 2
    · rw [if_pos h2]
      refine (h.missI (f := f) x.pair.1 (x.pair.2.toNat + 1)).norm.iff fun n s => ?_
      unfold RelN; simp only [if_neg h1, if_pos h2]
      constructor
      · rintro ⟨t, k, hk, ha, hr, hp⟩; exact ⟨t, k, hr, k, rfl, by omega, ha, hp⟩
      · rintro ⟨t, k, hr, j, rfl, hk, ha, hp⟩; exact ⟨t, j, by omega, ha, hr, hp⟩
    · rw [if_neg h2]
      unfold RelN; simp only [if_neg h1, if_neg h2]
      refine ⟨fun e he => ?_, fun n s hr => ?_⟩
      · obtain ⟨h3, h4⟩ := List.mem_filter.1 he
        exact ⟨⟨e.1, 0, by rw [Int.sub_zero]; exact (h.1 e h3).1, rfl, rfl, h4⟩, e.1, 0, by rw [Int.sub_zero]; exact (h.1 e h3).2, rfl, rfl, h4⟩
      · obtain ⟨t, k, ht, rfl, rfl, hh⟩ := hr
        rw [Int.sub_zero] at ht
        obtain ⟨e, he, rfl, hle⟩ := h.2 n t ht
        exact ⟨e, List.mem_filter.2 ⟨he, hh⟩, rfl, hle⟩
def Len (f : Fmt) (first : Int) (xs : List Nt) : Nat → Int → Spot → Prop
  | 0, n, s => n = 0 ∧ s ∈ keyC (begC first)
  | j + 1, n, s => ∃ x t k, xs[j]? = some x ∧ Len f first xs j (n - k) t ∧ RelN f x t s k
theorem crowd_mm (f : Fmt) (first : Int) (xs : List Nt) : ∀ j, j ≤ xs.length → Mm (crowdC f first (xs.take j)) (Len f first xs j)
  | 0, _ => by
    have hz : ∀ e ∈ begC first, e.2.1 = 0 ∧ e.2.2.1 = 0 := fun e he => by
      rcases List.mem_append.1 he with he | he
      · by_cases h : first = -1 ∨ first = 0
        · rw [if_pos h, List.mem_singleton] at he; rw [he]; exact ⟨rfl, rfl⟩
        · rw [if_neg h] at he; cases he
      · by_cases h : first = -1 ∨ first = 1
        · rw [if_pos h, List.mem_singleton] at he; rw [he]; exact ⟨rfl, rfl⟩
        · rw [if_neg h] at he; cases he
    refine ⟨fun e he => ⟨⟨(hz e he).1, List.mem_map.2 ⟨e, he, rfl⟩⟩, (hz e he).2, List.mem_map.2 ⟨e, he, rfl⟩⟩, fun n s ⟨hn, hs⟩ => ?_⟩
    obtain ⟨e, he, rfl⟩ := List.mem_map.1 hs
    have := hz e he
    exact ⟨e, he, rfl, by omega, by omega⟩
  | j + 1, hj => by
    obtain ⟨x, hx⟩ : ∃ x, xs[j]? = some x := ⟨_, List.getElem?_eq_getElem (by omega)⟩
    rw [crowd_succ f first hx]
    refine ((crowd_mm f first xs j (by omega)).after x).iff fun n s => ⟨?_, ?_⟩
    · rintro ⟨t, k, hr, h⟩; exact ⟨x, t, k, hx, hr, h⟩
    · rintro ⟨y, t, k, hy, hr, h⟩
      rw [hx] at hy; cases hy
      exact ⟨t, k, hr, h⟩
end Go.Proofs.YtpmmgljndceplaaGreat

namespace Go.Proofs.YtpmmgljndceplaaGreat
open Go Go.RowKit

def spS (f : Fmt) (first : Int) (ps : List Int) : Nat → Spot
  | 0 => ⟨first, [], (0, 0), (0, 0)⟩
  | n + 1 => match ps[n]? with
    | some p => stepS f (spS f first ps n) p
    | none => spS f first ps n
theorem spS_succ {f : Fmt} {first : Int} {ps : List Int} {n : Nat} {p : Int} (h : ps[n]? = some p) : spS f first ps (n + 1) = stepS f (spS f first ps n) p := by rw [spS, h]
def CanP (f : Fmt) (first : Int) (ps : List Int) : Prop := ∀ (n : Nat) (p : Int), ps[n]? = some p → (p = 0 ∨ p = 1) ∧ topS (spS f first ps n) ≠ f.sets
def hitV (f : Fmt) (first : Int) (ps : List Int) (x : Nt) (m n : Nat) : Prop :=
  if x.kind = 1 then n = m + 1 ∧ n ≤ ps.length ∧ (x.side = -1 ∨ ps[m]? = some x.side) else if x.kind = 2 then ((m : Int) + x.pair.1 ≤ n ∧ (n : Int) ≤ m + x.pair.2) ∧ m ≤ n ∧ n ≤ ps.length else n = m ∧ holdS f x (spS f first ps n) = true
def Fit (f : Fmt) (first : Int) (ps : List Int) (xs : List Nt) : Nat → Nat → Prop
  | 0, n => n = 0
  | j + 1, n => ∃ x m, xs[j]? = some x ∧ Fit f first ps xs j m ∧ hitV f first ps x m n
end Go.Proofs.YtpmmgljndceplaaGreat

namespace Go.Proofs.YtpmmgljndceplaaGreat
open Go Go.RowKit

section
variable {f : Fmt} {s : Spot}
end
end Go.Proofs.YtpmmgljndceplaaGreat

namespace Go.Proofs.YtpmmgljndceplaaGreat
open Go Go.RowKit

structure Nt.Ok (x : Nt) : Prop where
  k : 1 ≤ x.kind ∧ x.kind ≤ 7
  s1 : x.kind = 1 → x.side = -1 ∨ x.side = 0 ∨ x.side = 1
  s6 : x.kind = 6 ∨ x.kind = 7 → x.side = 0 ∨ x.side = 1
section
variable {f : Fmt} {s : Spot}
end
theorem beg_in {first b : Int} (hb : b = 0 ∨ b = 1) (h : first = -1 ∨ first = b) : (⟨b, [], (0, 0), (0, 0)⟩ : Spot) ∈ keyC (begC first) := by
  unfold keyC begC
  rw [List.map_append, List.mem_append]
  rcases hb with rfl | rfl
  · exact .inl (by rw [if_pos h]; exact List.mem_cons_self)
  · exact .inr (by rw [if_pos h]; exact List.mem_cons_self)
end Go.Proofs.YtpmmgljndceplaaGreat

namespace Go.Proofs.YtpmmgljndceplaaGreat
open Go Go.RowKit

def fstC (p : Nat → Bool) (n : Nat) : Int := match (List.range n).find? p with
  | some k => k
  | none => -1
theorem fstC_spec (p : Nat → Bool) (n : Nat) : (fstC p n = -1 ∧ ∀ i, i < n → p i = false) ∨ ∃ k : Nat, k < n ∧ fstC p n = k ∧ p k = true ∧ ∀ i, i < k → p i = false := by
  unfold fstC
  cases h : (List.range n).find? p with
  | none =>
    refine .inl ⟨rfl, fun i hi => ?_⟩
    have := List.find?_range_eq_none.1 h i hi
    simpa using this
  | some k =>
    obtain ⟨h1, h2, h3⟩ := List.find?_range_eq_some.1 h
    refine .inr ⟨k, List.mem_range.1 h2, rfl, h1, fun i hi => ?_⟩
    have := h3 i hi
    simpa using this
def badC (f : Fmt) (first : Int) (xs : List Nt) : Int := fstC (fun i => (crowdC f first (xs.take (i + 1))).isEmpty) xs.length
theorem after_nil (f : Fmt) (x : Nt) : afterC f [] x = [] := by
  have : keyC (afterC f [] x) = [] := List.eq_nil_iff_forall_not_mem.2 fun s hs => by
    obtain ⟨t, ht, _⟩ := after_mem.1 hs
    cases ht
  exact List.map_eq_nil_iff.1 this
theorem fold_nil (f : Fmt) (xs : List Nt) : xs.foldl (afterC f) [] = [] := by
  induction xs with
  | nil => rfl
  | cons x xs ih => rw [List.foldl_cons, after_nil, ih]
theorem crowd_nil {f : Fmt} {first : Int} {xs : List Nt} {i : Nat} (h : crowdC f first (xs.take i) = []) : crowdC f first xs = [] := by
  have : xs = xs.take i ++ xs.drop i := (List.take_append_drop i xs).symm
  rw [this]
  unfold crowdC at h ⊢
  rw [List.foldl_append, h, fold_nil]
theorem beg_ne {first : Int} (h : -1 ≤ first ∧ first ≤ 1) : begC first ≠ [] := fun e => by
  have : (⟨if first = 1 then 1 else 0, [], (0, 0), (0, 0)⟩ : Spot) ∈ keyC (begC first) := by
    by_cases h1 : first = 1
    · rw [if_pos h1]; exact beg_in (.inr rfl) (.inr h1)
    · rw [if_neg h1]; exact beg_in (.inl rfl) (by omega)
  rw [e] at this; cases this
theorem bad_none {f : Fmt} {first : Int} {xs : List Nt} (h : -1 ≤ first ∧ first ≤ 1) : badC f first xs = -1 ↔ crowdC f first xs ≠ [] := by
  unfold badC
  rcases fstC_spec (fun i => (crowdC f first (xs.take (i + 1))).isEmpty) xs.length with ⟨h1, h2⟩ | ⟨k, hk, h1, h2, _⟩
  · rw [h1]
    refine ⟨fun _ e => ?_, fun _ => rfl⟩
    cases hl : xs.length with
    | zero =>
      have : xs = [] := List.eq_nil_of_length_eq_zero hl
      subst this
      exact beg_ne h e
    | succ n =>
      have := h2 n (by omega)
      rw [show n + 1 = xs.length from hl.symm, List.take_length, e] at this
      cases this
  · rw [h1]
    refine ⟨fun e => by omega, fun hne => ?_⟩
    exact absurd (crowd_nil (i := k + 1) (List.isEmpty_iff.1 h2)) hne
end Go.Proofs.YtpmmgljndceplaaGreat

namespace Go.Proofs.YtpmmgljndceplaaGreat
open Go Go.RowKit

end Go.Proofs.YtpmmgljndceplaaGreat

namespace Go.Proofs.YtpmmgljndceplaaGreat
open Go Go.RowKit

def mostN (x : Nt) : Int := if x.kind = 1 then 1 else if x.kind = 2 then x.pair.2 else 0
def mostS (xs : List Nt) : Int := (xs.map mostN).sum
theorem len_most {f : Fmt} {first : Int} {xs : List Nt} (hx : ∀ x ∈ xs, x.kind = 2 → 0 ≤ x.pair.2) : ∀ {j : Nat} {n : Int} {s : Spot}, j ≤ xs.length → Len f first xs j n s → 0 ≤ n ∧ n ≤ mostS (xs.take j)
  | 0, n, s, _, h => by
    have : n = 0 := h.1
    subst this
    exact ⟨Int.le_refl _, Int.le_refl _⟩
  | j + 1, n, s, hj, ⟨x, t, k, hxj, hl, hr⟩ => by
    obtain ⟨h1, h2⟩ := len_most hx (by omega) hl
    have hs : mostS (xs.take (j + 1)) = mostS (xs.take j) + mostN x := by
      unfold mostS
      rw [List.take_add_one, hxj, List.map_append, List.sum_append]
      show _ + (mostN x + 0) = _
      omega
    rw [hs]
    have hk : 0 ≤ k ∧ k ≤ mostN x := by
      unfold RelN at hr
      unfold mostN
      by_cases h1 : x.kind = 1
      · rw [if_pos h1] at hr ⊢
        have := hr.1; omega
      · rw [if_neg h1] at hr ⊢
        by_cases h2 : x.kind = 2
        · rw [if_pos h2] at hr ⊢
          obtain ⟨i, hi, hle, _⟩ := hr
          have := hx x (List.mem_of_getElem? hxj) h2
          omega
        · rw [if_neg h2] at hr ⊢
          have := hr.1; omega
    omega
theorem crowd_rng {f : Fmt} {first : Int} {xs : List Nt} (hx : ∀ x ∈ xs, x.kind = 2 → 0 ≤ x.pair.2) {e : En} (he : e ∈ crowdC f first xs) : (0 ≤ e.2.1 ∧ e.2.1 ≤ mostS xs) ∧ 0 ≤ e.2.2.1 ∧ e.2.2.1 ≤ mostS xs := by
  have hm := crowd_mm f first xs xs.length (Nat.le_refl _)
  rw [List.take_length] at hm
  obtain ⟨l1, l2⟩ := hm.1 e he
  have h1 := len_most hx (Nat.le_refl _) l1
  have h2 := len_most hx (Nat.le_refl _) l2
  rw [List.take_length] at h1 h2
  exact ⟨h1, h2⟩
end Go.Proofs.YtpmmgljndceplaaGreat

namespace Go.Proofs.YtpmmgljndceplaaGreat
open Go Go.RowKit

theorem spS_app {f : Fmt} {first : Int} {ps qs : List Int} : ∀ {n : Nat}, n ≤ ps.length → spS f first (ps ++ qs) n = spS f first ps n
  | 0, _ => rfl
  | n + 1, h => by
    rw [spS, spS, List.getElem?_append_left (by omega), spS_app (by omega)]
theorem spS_last {f : Fmt} {first : Int} {ps : List Int} {p : Int} : spS f first (ps ++ [p]) (ps.length + 1) = stepS f (spS f first ps ps.length) p := by
  rw [spS_succ (p := p) (by rw [List.getElem?_append_right (Nat.le_refl _), Nat.sub_self]; rfl), spS_app (Nat.le_refl _)]
theorem can_app {f : Fmt} {first : Int} {ps : List Int} {p : Int} (h : CanP f first ps) (hp : p = 0 ∨ p = 1) {u : Spot} (hn : nxtS f (spS f first ps ps.length) p = some u) : CanP f first (ps ++ [p]) ∧ spS f first (ps ++ [p]) (ps ++ [p]).length = u := by
  have ht : topS (spS f first ps ps.length) ≠ f.sets := fun e => by
    rw [nxtS, decide_eq_true e] at hn; cases hn
  have hu : stepS f (spS f first ps ps.length) p = u := by
    rw [nxtS, decide_eq_false ht] at hn; exact Option.some.inj hn
  refine ⟨fun n q hq => ?_, by rw [List.length_append, List.length_singleton, spS_last, hu]⟩
  have hlt : n < ps.length + 1 := by
    have := (List.getElem?_eq_some_iff.1 hq).1
    rwa [List.length_append, List.length_singleton] at this
  by_cases e : n = ps.length
  · subst e
    rw [List.getElem?_append_right (Nat.le_refl _), Nat.sub_self] at hq
    obtain rfl : p = q := Option.some.inj hq
    exact ⟨hp, by rw [spS_app (Nat.le_refl _)]; exact ht⟩
  · rw [List.getElem?_append_left (by omega)] at hq
    rw [spS_app (by omega)]
    exact h n q hq
theorem fit_app {f : Fmt} {first : Int} {ps qs : List Int} {xs : List Nt} : ∀ {j n : Nat}, Fit f first ps xs j n → n ≤ ps.length ∧ Fit f first (ps ++ qs) xs j n
  | 0, n, h => ⟨by have : n = 0 := h; omega, h⟩
  | j + 1, n, ⟨x, m, hx, hm, hh⟩ => by
    obtain ⟨g1, g2⟩ := fit_app (qs := qs) hm
    unfold hitV at hh
    by_cases h1 : x.kind = 1
    · rw [if_pos h1] at hh
      obtain ⟨h2, h3, h4⟩ := hh
      refine ⟨h3, x, m, hx, g2, ?_⟩
      unfold hitV
      rw [if_pos h1]
      refine ⟨h2, by rw [List.length_append]; omega, h4.imp id fun e => ?_⟩
      rw [List.getElem?_append_left (by omega)]; exact e
    · rw [if_neg h1] at hh
      by_cases h2 : x.kind = 2
      · rw [if_pos h2] at hh
        obtain ⟨h3, h4, h5⟩ := hh
        refine ⟨h5, x, m, hx, g2, ?_⟩
        unfold hitV
        rw [if_neg h1, if_pos h2]
        exact ⟨h3, h4, by rw [List.length_append]; omega⟩
      · rw [if_neg h2] at hh
        obtain ⟨rfl, h3⟩ := hh
        refine ⟨g1, x, n, hx, g2, ?_⟩
        unfold hitV
        rw [if_neg h1, if_neg h2]
        exact ⟨rfl, by rw [spS_app g1]; exact h3⟩
structure Row_ (f : Fmt) (cf : Int) (xs : List Nt) (j : Nat) (s : Spot) (first : Int) (ps : List Int) : Prop where
  fs : first = 0 ∨ first = 1
  cf : cf = -1 ∨ cf = first
  can : CanP f first ps
  fit : Fit f first ps xs j ps.length
  sp : spS f first ps ps.length = s
theorem row_begin {f : Fmt} {cf first : Int} {xs : List Nt} (h1 : first = 0 ∨ first = 1) (h2 : cf = -1 ∨ cf = first) : Row_ f cf xs 0 ⟨first, [], (0, 0), (0, 0)⟩ first [] := ⟨h1, h2, fun n p hp => (by cases hp), rfl, rfl⟩
end Go.Proofs.YtpmmgljndceplaaGreat

namespace Go.Proofs.YtpmmgljndceplaaGreat
open Go Go.RowKit

abbrev ep (s : Spot) (k : Nat) : Pr := s.st.getD k (0, 0)
abbrev spotC (s : Spot) : List Value := [.int .i64 s.first, .int .i64 (s.st.length : Int), .int .i64 (ep s 0).1, .int .i64 (ep s 0).2, .int .i64 (ep s 1).1, .int .i64 (ep s 1).2, .int .i64 (ep s 2).1, .int .i64 (ep s 2).2, .int .i64 (ep s 3).1, .int .i64 (ep s 3).2, .int .i64 (ep s 4).1, .int .i64 (ep s 4).2, .int .i64 s.g.1, .int .i64 s.g.2, .int .i64 s.p.1, .int .i64 s.p.2]
abbrev spotF (s : Spot) : List Fl := [.i s.first, .i (s.st.length : Int), .i (ep s 0).1, .i (ep s 0).2, .i (ep s 1).1, .i (ep s 1).2, .i (ep s 2).1, .i (ep s 2).2, .i (ep s 3).1, .i (ep s 3).2, .i (ep s 4).1, .i (ep s 4).2, .i s.g.1, .i s.g.2, .i s.p.1, .i s.p.2]
theorem spotF_inj {a b : Spot} (ha : a.st.length ≤ 5) (h : spotF a = spotF b) : a = b := by
  simp only [spotF, List.cons.injEq, Fl.i.injEq, and_true] at h
  obtain ⟨h0, h1, a0, b0, a1, b1, a2, b2, a3, b3, a4, b4, g1, g2, p1, p2⟩ := h
  have hl : a.st.length = b.st.length := by omega
  refine Spot.ext' h0 (List.ext_getElem hl fun k hk hk' => ?_) (Prod.ext g1 g2) (Prod.ext p1 p2)
  have e : ∀ k, k < 5 → ep a k = ep b k := fun k hk => by
    have : k = 0 ∨ k = 1 ∨ k = 2 ∨ k = 3 ∨ k = 4 := by omega
    rcases this with rfl | rfl | rfl | rfl | rfl
    · exact Prod.ext a0 b0
    · exact Prod.ext a1 b1
    · exact Prod.ext a2 b2
    · exact Prod.ext a3 b3
    · exact Prod.ext a4 b4
  have := e k (by omega)
  simp only [ep, List.getD_eq_getElem?_getD, List.getElem?_eq_getElem hk, List.getElem?_eq_getElem hk', Option.getD_some] at this
  exact this

structure Nd where
  (b : Nat) (s : Spot) (bf : Option Nat) (sd : Int)
abbrev bp (b : Nat) : Value := .pointer (some ⟨b, 0, none⟩)
abbrev bpO (o : Option Nat) : Value := .pointer (o.map fun b => ⟨b, 0, none⟩)
abbrev nodeC (x : Nd) (m : Pr) : List Value := [.int .i64 x.s.first, .int .i64 (x.s.st.length : Int), .int .i64 (ep x.s 0).1, .int .i64 (ep x.s 0).2, .int .i64 (ep x.s 1).1, .int .i64 (ep x.s 1).2, .int .i64 (ep x.s 2).1, .int .i64 (ep x.s 2).2, .int .i64 (ep x.s 3).1, .int .i64 (ep x.s 3).2, .int .i64 (ep x.s 4).1, .int .i64 (ep x.s 4).2, .int .i64 x.s.g.1, .int .i64 x.s.g.2, .int .i64 x.s.p.1, .int .i64 x.s.p.2, bpO x.bf, .int .i64 x.sd, .int .i64 m.1, .int .i64 m.2]
def poolE (T : TypeId) (N : List Nd) (mn : Nat → Pr) (out : Option Nat) : Ent := .gen true true (fun k => ∃ x ∈ N, x.b = k ∧ out ≠ some k) (fun w => ∀ x ∈ N, out ≠ some x.b → w.heap[x.b]? = some (.cells (nodeC x (mn x.b)).toArray T (0, 0)))
  (fun w w' hb hok x hx ho => (hb x.b ⟨x, hx, rfl, ho⟩).trans (hok x hx ho)) (fun w k hok ⟨x, hx, he, ho⟩ => by subst he; exact heap_lt (hok x hx ho))
def upN (mn : Nat → Pr) (b : Nat) (v : Pr) : Nat → Pr := fun k => if k = b then v else mn k
theorem upN_same (mn : Nat → Pr) (b : Nat) (v : Pr) : upN mn b v b = v := if_pos rfl
theorem upN_other {mn : Nat → Pr} {b k : Nat} {v : Pr} (h : k ≠ b) : upN mn b v k = mn k := if_neg h
section
variable {w0 w : World} {M : List Ent} {T : TypeId} {N : List Nd} {mn : Nat → Pr}
theorem St.pool0 {L : List Ent} (h : St w0 w L) (T : TypeId) (mn : Nat → Pr) : St w0 w (poolE T [] mn none :: L) := by
  refine St.add (M := [_]) h (Blw.refl _ _) (fun e he => ?_) (fun e he b hb' => ?_) (List.pairwise_singleton _ _)
  · simp only [List.mem_singleton] at he; subst he; exact fun x hx => by cases hx
  · simp only [List.mem_singleton] at he; subst he; obtain ⟨x, hx, _⟩ := hb'; cases hx
theorem St.pOpen (h : St w0 w (poolE T N mn none :: M)) {x : Nd} (hx : x ∈ N) : St w0 w (.blk x.b T (nodeC x (mn x.b)) :: poolE T N mn (some x.b) :: M) := by
  have hok := h.ok (poolE T N mn none) (by simp)
  refine h.split (e1 := .blk x.b T _) rfl (hok x hx (by simp)) (fun y hy _ => hok y hy (by simp)) (fun k hk => ⟨x, hx, (show k = x.b from hk).symm, by simp⟩) (fun k ⟨y, hy, he, _⟩ => ⟨y, hy, he, by simp⟩) (fun k hk ⟨y, hy, he, ho⟩ => ho (by rw [show k = x.b from hk]))
theorem nd_one (hn : (N.map (·.b)).Nodup) {x y : Nd} (hx : x ∈ N) (hy : y ∈ N) (e : x.b = y.b) : x = y := by
  induction N with
  | nil => cases hx
  | cons z N ih =>
    rw [List.map_cons, List.nodup_cons] at hn
    rcases List.mem_cons.1 hx with h1 | h1
    · rcases List.mem_cons.1 hy with h2 | h2
      · rw [h1, h2]
      · exact absurd (List.mem_map.2 ⟨y, h2, by rw [← e, h1]⟩) hn.1
    · rcases List.mem_cons.1 hy with h2 | h2
      · exact absurd (List.mem_map.2 ⟨x, h1, by rw [e, h2]⟩) hn.1
      · exact ih hn.2 h1 h2
theorem St.pClose {x : Nd} {v : Pr} (h : St w0 w (.blk x.b T (nodeC x v) :: poolE T N mn (some x.b) :: M)) (hx : x ∈ N) (hn : (N.map (·.b)).Nodup) : St w0 w (poolE T N (upN mn x.b v) none :: M) := by
  have h1 := h.ok (.blk x.b T (nodeC x v)) (by simp)
  have h2 := h.ok (poolE T N mn (some x.b)) (by simp)
  refine h.fuse (e := poolE T N (upN mn x.b v) none) rfl rfl (fun y hy _ => ?_) (fun k ⟨y, hy, he, _⟩ => ?_)
  · by_cases e : y.b = x.b
    · obtain rfl := nd_one hn hy hx e
      rw [upN_same]; exact h1
    · rw [upN_other e]
      exact h2 y hy (fun e2 => e (Option.some.inj e2).symm)
  · by_cases e : k = x.b
    · exact .inl e
    · exact .inr ⟨y, hy, he, fun e2 => e (Option.some.inj e2).symm⟩
theorem St.pNew {x : Nd} {v : Pr} (h : St w0 w (.blk x.b T (nodeC x v) :: poolE T N mn none :: M)) : (∀ y ∈ N, y.b ≠ x.b) ∧ St w0 w (poolE T (x :: N) (upN mn x.b v) none :: M) := by
  have h1 := h.ok (.blk x.b T (nodeC x v)) (by simp)
  have h2 := h.ok (poolE T N mn none) (by simp)
  have hp := (List.pairwise_cons.1 h.sep).1 (poolE T N mn none) (by simp)
  have hne : ∀ y ∈ N, y.b ≠ x.b := fun y hy e => hp (.inl rfl) x.b rfl ⟨y, hy, e, by simp⟩
  refine ⟨hne, h.fuse (e := poolE T (x :: N) (upN mn x.b v) none) rfl rfl (fun y hy _ => ?_) (fun k ⟨y, hy, he, _⟩ => ?_)⟩
  · rcases List.mem_cons.1 hy with rfl | hy
    · rw [upN_same]; exact h1
    · rw [upN_other (hne y hy)]; exact h2 y hy (by simp)
  · rcases List.mem_cons.1 hy with rfl | hy
    · exact .inl he.symm
    · exact .inr ⟨y, hy, he, by simp⟩
end
section rules
variable {F : Fence} {P : Program} {ops : Array Oper} {Q : Exit → Act → World → Prop} {rest : List Oper} {n : Nat} {D : List Deferred} {l : Env} {w0 : World} {L M M' : List Ent} {c : Code}
variable {T : TypeId} {N : List Nd} {mn : Nat → Pr}
theorem WL.pOpen (ha : At L (poolE T N mn none) M) {x : Nd} (hx : x ∈ N) (h : WL F P ops Q rest n D l w0 (.blk x.b T (nodeC x (mn x.b)) :: poolE T N mn (some x.b) :: M)) : WL F P ops Q rest n D l w0 L := fun hF a w hfr hst => h hF a w hfr ((hst.pull ha).pOpen hx)
theorem WC.pOpen (ha : At L (poolE T N mn none) M) {x : Nd} (hx : x ∈ N) (h : WC F P c Q n D l w0 (.blk x.b T (nodeC x (mn x.b)) :: poolE T N mn (some x.b) :: M)) : WC F P c Q n D l w0 L := fun hF a w hfr hst => h hF a w hfr ((hst.pull ha).pOpen hx)
theorem pull2 {w : World} {e1 e2 : Ent} (ha : At L e1 M) (hb : At M e2 M') (hst : St w0 w L) : St w0 w (e1 :: e2 :: M') := hst.sub (.cons ha (.cons hb (SubL.refl _)))
theorem WL.pClose {x : Nd} (v : Pr) (hx : x ∈ N) (hn : (N.map (·.b)).Nodup) (ha : At L (.blk x.b T (nodeC x v)) M) (hb : At M (poolE T N mn (some x.b)) M') (h : WL F P ops Q rest n D l w0 (poolE T N (upN mn x.b v) none :: M')) : WL F P ops Q rest n D l w0 L := fun hF a w hfr hst => h hF a w hfr ((pull2 ha hb hst).pClose hx hn)
theorem WC.pClose {x : Nd} (v : Pr) (hx : x ∈ N) (hn : (N.map (·.b)).Nodup) (ha : At L (.blk x.b T (nodeC x v)) M) (hb : At M (poolE T N mn (some x.b)) M') (h : WC F P c Q n D l w0 (poolE T N (upN mn x.b v) none :: M')) : WC F P c Q n D l w0 L := fun hF a w hfr hst => h hF a w hfr ((pull2 ha hb hst).pClose hx hn)
theorem WL.pNew (x : Nd) (v : Pr) (ha : At L (.blk x.b T (nodeC x v)) M) (hb : At M (poolE T N mn none) M') (h : (∀ y ∈ N, y.b ≠ x.b) → WL F P ops Q rest n D l w0 (poolE T (x :: N) (upN mn x.b v) none :: M')) : WL F P ops Q rest n D l w0 L := fun hF a w hfr hst => h (pull2 ha hb hst).pNew.1 hF a w hfr (pull2 ha hb hst).pNew.2
theorem WC.pNew (x : Nd) (v : Pr) (ha : At L (.blk x.b T (nodeC x v)) M) (hb : At M (poolE T N mn none) M') (h : (∀ y ∈ N, y.b ≠ x.b) → WC F P c Q n D l w0 (poolE T (x :: N) (upN mn x.b v) none :: M')) : WC F P c Q n D l w0 L := fun hF a w hfr hst => h (pull2 ha hb hst).pNew.1 hF a w hfr (pull2 ha hb hst).pNew.2
theorem WC.pool0 (T : TypeId) (mn : Nat → Pr) (h : WC F P c Q n D l w0 (poolE T [] mn none :: L)) : WC F P c Q n D l w0 L := fun hF a w hfr hst => h hF a w hfr (hst.pool0 T mn)
end rules

inductive RowN (N : List Nd) : Nd → List Int → Prop
  | nil {x : Nd} (h : x.bf = none) : RowN N x []
  | snoc {x y : Nd} {r : List Int} (hy : y ∈ N) (h : x.bf = some y.b) (hr : RowN N y r) : RowN N x (r ++ [x.sd])
theorem RowN.mono {N N' : List Nd} {x : Nd} {r : List Int} (h : RowN N x r) (hs : ∀ y ∈ N, y ∈ N') : RowN N' x r := by
  induction h with
  | nil h => exact .nil h
  | snoc hy h _ ih => exact .snoc (hs _ hy) h ih
theorem RowN.uniq {N : List Nd} (hn : (N.map (·.b)).Nodup) {x : Nd} {r r' : List Int} (h : RowN N x r) (h' : RowN N x r') : r = r' := by
  induction h generalizing r' with
  | nil h =>
    cases h' with
    | nil => rfl
    | snoc _ h2 _ => rw [h] at h2; cases h2
  | snoc hy h _ ih =>
    cases h' with
    | nil h2 => rw [h] at h2; cases h2
    | snoc hy' h2 hr' =>
      rw [h] at h2
      obtain rfl := nd_one hn hy hy' (Option.some.inj h2)
      rw [ih hr']
theorem RowN.copy {N : List Nd} {x y : Nd} {r : List Int} (h : RowN N x r) (h1 : y.bf = x.bf) (h2 : y.sd = x.sd) : RowN N y r := by
  cases h with
  | nil h => exact .nil (h1.trans h)
  | snoc hy h hr => rw [← h2]; exact .snoc hy (h1.trans h) hr
structure NdOk (f : Fmt) (N : List Nd) (mn : Nat → Pr) (K : Int) (x : Nd) : Prop where
  fs : x.s.first = 0 ∨ x.s.first = 1
  row : ∃ r, RowN N x r ∧ (r.length : Int) ≤ K ∧ CanP f x.s.first r ∧ spS f x.s.first r r.length = x.s
  lo : 0 ≤ (mn x.b).1 ∧ (mn x.b).1 ≤ K
  hi : 0 ≤ (mn x.b).2 ∧ (mn x.b).2 ≤ K
structure PoolOk (f : Fmt) (N : List Nd) (mn : Nat → Pr) (K : Int) : Prop where
  nd : (N.map (·.b)).Nodup
  ok : ∀ x ∈ N, NdOk f N mn K x
theorem PoolOk.nil (f : Fmt) (mn : Nat → Pr) (K : Int) : PoolOk f [] mn K := ⟨List.nodup_nil, fun x hx => by cases hx⟩
theorem PoolOk.up {f : Fmt} {N : List Nd} {mn : Nat → Pr} {K K' : Int} (h : PoolOk f N mn K) (hk : K ≤ K') : PoolOk f N mn K' := ⟨h.nd, fun x hx => by
  obtain ⟨h1, ⟨r, h2, h3, h4⟩, h5, h6⟩ := h.ok x hx
  exact ⟨h1, ⟨r, h2, by omega, h4⟩, by omega, by omega⟩⟩
theorem PoolOk.add {f : Fmt} {N : List Nd} {mn : Nat → Pr} {K : Int} (h : PoolOk f N mn K) {x : Nd} {v : Pr} (hne : ∀ y ∈ N, y.b ≠ x.b) (hf : x.s.first = 0 ∨ x.s.first = 1) (hr : ∃ r, RowN N x r ∧ (r.length : Int) ≤ K ∧ CanP f x.s.first r ∧ spS f x.s.first r r.length = x.s) (h1 : 0 ≤ v.1 ∧ v.1 ≤ K) (h2 : 0 ≤ v.2 ∧ v.2 ≤ K) : PoolOk f (x :: N) (upN mn x.b v) K := by
  refine ⟨?_, fun y hy => ?_⟩
  · rw [List.map_cons, List.nodup_cons]
    refine ⟨fun hm => ?_, h.nd⟩
    obtain ⟨y, hy, e⟩ := List.mem_map.1 hm
    exact hne y hy e
  · have hs : ∀ z ∈ N, z ∈ x :: N := fun z hz => List.mem_cons_of_mem _ hz
    rcases List.mem_cons.1 hy with rfl | hy
    · obtain ⟨r, h3, h4⟩ := hr
      exact ⟨hf, ⟨r, h3.mono hs, h4⟩, by rw [upN_same]; exact h1, by rw [upN_same]; exact h2⟩
    · obtain ⟨g1, ⟨r, g2, g3⟩, g4, g5⟩ := h.ok y hy
      exact ⟨g1, ⟨r, g2.mono hs, g3⟩, by rw [upN_other (hne y hy)]; exact g4, by rw [upN_other (hne y hy)]; exact g5⟩
theorem PoolOk.set {f : Fmt} {N : List Nd} {mn : Nat → Pr} {K : Int} (h : PoolOk f N mn K) (b : Nat) {v : Pr} (h1 : 0 ≤ v.1 ∧ v.1 ≤ K) (h2 : 0 ≤ v.2 ∧ v.2 ≤ K) : PoolOk f N (upN mn b v) K := ⟨h.nd, fun y hy => by
  obtain ⟨g1, g2, g4, g5⟩ := h.ok y hy
  refine ⟨g1, g2, ?_, ?_⟩
  · unfold upN; split
    · exact h1
    · exact g4
  · unfold upN; split
    · exact h2
    · exact g5⟩

theorem won_sum (l : List Pr) : (wonV l).1 + (wonV l).2 = l.length ∧ 0 ≤ (wonV l).1 ∧ 0 ≤ (wonV l).2 := by
  have key : ∀ k, k ≤ l.length → (wonTo l k).1 + (wonTo l k).2 = (k : Int) := fun k => by
    induction k with
    | zero => exact fun _ => rfl
    | succ k ih =>
      intro hk
      rw [wonTo_succ (List.getElem?_eq_getElem (by omega)), add_sum, ih (by omega)]; rfl
  have hb := wonTo_bd l l.length
  exact ⟨key _ (Nat.le_refl _), hb.1.1, hb.2.1⟩
structure SpBd (f : Fmt) (s : Spot) (n : Int) : Prop where
  g : (0 ≤ s.g.1 ∧ s.g.1 ≤ n) ∧ 0 ≤ s.g.2 ∧ s.g.2 ≤ n
  p : (0 ≤ s.p.1 ∧ s.p.1 ≤ n) ∧ 0 ≤ s.p.2 ∧ s.p.2 ≤ n
  won : (wonV s.st).1 ≤ f.sets ∧ (wonV s.st).2 ≤ f.sets ∧ (wonV s.st).1 + (wonV s.st).2 ≤ 2 * f.sets - 1
  st : ∀ q ∈ s.st, (0 ≤ q.1 ∧ q.1 ≤ n) ∧ 0 ≤ q.2 ∧ q.2 ≤ n
theorem SpBd.len {f : Fmt} {s : Spot} {n : Int} (hf : f.Ok) (h : SpBd f s n) : s.st.length ≤ 5 := by
  have h1 := (won_sum s.st).1
  have h2 := h.won
  have h3 := hf.s1
  omega
theorem addV_rng {p : Pr} {n : Int} (side : Int) (h : (0 ≤ p.1 ∧ p.1 ≤ n) ∧ 0 ≤ p.2 ∧ p.2 ≤ n) : (0 ≤ (addV p side).1 ∧ (addV p side).1 ≤ n + 1) ∧ 0 ≤ (addV p side).2 ∧ (addV p side).2 ≤ n + 1 := by
  unfold addV; cases decide (side = 0) <;> simp only [cond_true, cond_false] <;> omega
theorem SpBd.step {f : Fmt} {s : Spot} {n : Int} (h : SpBd f s n) (hn : 0 ≤ n) (ht : topS s ≠ f.sets) (side : Int) : SpBd f (stepS f s side) (n + 1) := by
  have hg := addV_rng side h.g
  have hp := addV_rng side h.p
  have up : ∀ q : Pr, (0 ≤ q.1 ∧ q.1 ≤ n) ∧ 0 ≤ q.2 ∧ q.2 ≤ n → (0 ≤ q.1 ∧ q.1 ≤ n + 1) ∧ 0 ≤ q.2 ∧ q.2 ≤ n + 1 := fun q hq => by omega
  have z : (0 ≤ ((0, 0) : Pr).1 ∧ ((0, 0) : Pr).1 ≤ n + 1) ∧ 0 ≤ ((0, 0) : Pr).2 ∧ ((0, 0) : Pr).2 ≤ n + 1 := ⟨⟨Int.le_refl _, by show (0 : Int) ≤ n + 1; omega⟩, Int.le_refl _, by show (0 : Int) ≤ n + 1; omega⟩
  have hst : ∀ q ∈ s.st, (0 ≤ q.1 ∧ q.1 ≤ n + 1) ∧ 0 ≤ q.2 ∧ q.2 ≤ n + 1 := fun q hq => up q (h.st q hq)
  unfold stepS
  cases gotS f s side
  · exact ⟨up _ h.g, hp, h.won, hst⟩
  cases endS' f s side
  · exact ⟨hg, z, h.won, hst⟩
  refine ⟨z, z, ?_, fun q hq => ?_⟩
  · show (wonV (s.st ++ [addV s.g side])).1 ≤ f.sets ∧ (wonV (s.st ++ [addV s.g side])).2 ≤ f.sets ∧ (wonV (s.st ++ [addV s.g side])).1 + (wonV (s.st ++ [addV s.g side])).2 ≤ 2 * f.sets - 1
    rw [wonV_app]
    have h1 := h.won
    have h2 : max (wonV s.st).1 (wonV s.st).2 ≠ f.sets := ht
    unfold addV
    cases decide (wside (bif decide (side = 0) then (s.g.1 + 1, s.g.2) else (s.g.1, s.g.2 + 1)) = 0) <;> simp only [cond_true, cond_false] <;> omega
  · rcases List.mem_append.1 hq with hq | hq
    · exact hst q hq
    · rw [List.mem_singleton] at hq; subst hq; exact hg
theorem step_first (f : Fmt) (s : Spot) (side : Int) : (stepS f s side).first = s.first := by
  unfold stepS; cases gotS f s side
  · rfl
  cases endS' f s side <;> rfl
theorem spS_bd {f : Fmt} {first : Int} {r : List Int} (hf : f.Ok) (h : CanP f first r) : ∀ n, n ≤ r.length → SpBd f (spS f first r n) n ∧ (spS f first r n).first = first
  | 0, _ => ⟨⟨by exact ⟨⟨Int.le_refl _, Int.le_refl _⟩, Int.le_refl _, Int.le_refl _⟩, by exact ⟨⟨Int.le_refl _, Int.le_refl _⟩, Int.le_refl _, Int.le_refl _⟩, by
      have := hf.s0
      show (0 : Int) ≤ f.sets ∧ (0 : Int) ≤ f.sets ∧ (0 : Int) + 0 ≤ 2 * f.sets - 1
      omega, fun q hq => by cases hq⟩, rfl⟩
  | n + 1, hn => by
    obtain ⟨p, hp⟩ : ∃ p, r[n]? = some p := ⟨_, List.getElem?_eq_getElem (by omega)⟩
    obtain ⟨h1, h2⟩ := spS_bd hf h n (by omega)
    rw [spS_succ hp]
    exact ⟨h1.step (by omega) (h n p hp).2 p, (step_first ..).trans h2⟩
theorem SpBd.mono {f : Fmt} {s : Spot} {n m : Int} (h : SpBd f s n) (hm : n ≤ m) : SpBd f s m := ⟨by have := h.g; omega, by have := h.p; omega, h.won, fun q hq => by have := h.st q hq; omega⟩
theorem NdOk.bd {f : Fmt} {N : List Nd} {mn : Nat → Pr} {K : Int} {x : Nd} (hf : f.Ok) (h : NdOk f N mn K x) : SpBd f x.s K := by
  obtain ⟨r, _, h1, h2, h3⟩ := h.row
  have := (spS_bd hf h2 r.length (Nat.le_refl _)).1
  rw [h3] at this
  exact this.mono h1
theorem NdOk.len {f : Fmt} {N : List Nd} {mn : Nat → Pr} {K : Int} {x : Nd} (hf : f.Ok) (h : NdOk f N mn K x) : x.s.st.length ≤ 5 := (h.bd hf).len hf
theorem NdOk.k0 {f : Fmt} {N : List Nd} {mn : Nat → Pr} {K : Int} {x : Nd} (h : NdOk f N mn K x) : 0 ≤ K := by
  have := h.lo; omega

abbrev crE (ns : List Nd) : List (List Fl × Value) := ns.map fun x => (spotF x.s, bp x.b)
theorem crE_shape (ns : List Nd) : ∀ p ∈ crE ns, shapeOf p.1 = shapeOf (spotF ⟨0, [], (0, 0), (0, 0)⟩) := fun p hp => by
  obtain ⟨x, _, rfl⟩ := List.mem_map.1 hp; rfl
def getN (ns : List Nd) (s : Spot) : Option Nd := ns.find? fun x => decide (x.s = s)
theorem getN_some {ns : List Nd} {s : Spot} {x : Nd} (h : getN ns s = some x) : x ∈ ns ∧ x.s = s := ⟨List.mem_of_find?_eq_some h, of_decide_eq_true (List.find?_some (p := fun x : Nd => decide (x.s = s)) h)⟩
theorem getN_none {ns : List Nd} {s : Spot} (h : getN ns s = none) : ∀ x ∈ ns, x.s ≠ s := fun x hx e => by
  have := List.find?_eq_none.1 h x hx
  rw [decide_eq_true_eq] at this
  exact this e
theorem lkp_cr {ns : List Nd} {s : Spot} (h5 : ∀ x ∈ ns, x.s.st.length ≤ 5) (hs : s.st.length ≤ 5) : lkp (crE ns) (spotF s) = (getN ns s).map fun x => bp x.b := by
  induction ns with
  | nil => rfl
  | cons x ns ih =>
    have ih := ih fun y hy => h5 y (by simp [hy])
    unfold lkp crE getN at *
    rw [List.map_cons, List.find?_cons, List.find?_cons]
    by_cases e : x.s = s
    · rw [decide_eq_true (show spotF s = spotF x.s by rw [e]), decide_eq_true e]; rfl
    · rw [decide_eq_false (show ¬ spotF s = spotF x.s from fun h => e (spotF_inj hs h).symm), decide_eq_false e]; exact ih
theorem upd_cr {ns : List Nd} {x : Nd} (h5 : ∀ y ∈ ns, y.s.st.length ≤ 5) (hs : x.s.st.length ≤ 5) (h : getN ns x.s = none) : updM (crE ns) (spotF x.s) (bp x.b) = crE (ns ++ [x]) := by
  induction ns with
  | nil => rfl
  | cons y ns ih =>
    have hn := getN_none h
    have e : ¬ spotF x.s = spotF y.s := fun h => hn y (by simp) (spotF_inj hs h).symm
    show (if spotF x.s = spotF y.s then _ else _) = _
    rw [if_neg e, ih (fun z hz => h5 z (by simp [hz])) (List.find?_eq_none.2 fun z hz => by simpa using hn z (by simp [hz]))]
    rfl
def spotKs (ns : List Nd) : List Spot := ns.map (·.s)
def toC (mn : Nat → Pr) (ns : List Nd) : List En := ns.map fun x => (x.s, ((mn x.b).1, (mn x.b).2, 0))
theorem toC_keys (mn : Nat → Pr) (ns : List Nd) : keyC (toC mn ns) = spotKs ns := by
  unfold keyC toC spotKs; rw [List.map_map]; rfl
theorem toC_congr {mn mn' : Nat → Pr} {ns : List Nd} (h : ∀ x ∈ ns, mn' x.b = mn x.b) : toC mn' ns = toC mn ns := by
  unfold toC; exact List.map_congr_left fun x hx => by rw [h x hx]
def putNs (ns : List Nd) (x : Nd) : List Nd := match getN ns x.s with
  | some _ => ns
  | none => ns ++ [x]
def putM (ns : List Nd) (mn : Nat → Pr) (x : Nd) : Nat → Pr := match getN ns x.s with
  | some o => upN mn o.b (min (mn o.b).1 (mn x.b).1, max (mn o.b).2 (mn x.b).2)
  | none => mn
theorem putNs_mem {ns : List Nd} {x y : Nd} (h : y ∈ putNs ns x) : y ∈ ns ∨ y = x := by
  unfold putNs at h
  cases hg : getN ns x.s with
  | none => rw [hg] at h; rcases List.mem_append.1 h with h | h; exact .inl h; exact .inr (List.mem_singleton.1 h)
  | some o => rw [hg] at h; exact .inl h
theorem put_toC {ns : List Nd} {mn : Nat → Pr} {x : Nd} (hk : (spotKs ns).Nodup) (hb : ∀ y ∈ ns, ∀ z ∈ ns, y.b = z.b → y = z) : toC (putM ns mn x) (putNs ns x) = putC (toC mn ns) (x.s, ((mn x.b).1, (mn x.b).2, 0)) := by
  unfold putNs putM
  cases hg : getN ns x.s with
  | none =>
    dsimp only
    have hn := getN_none hg
    clear hg hk hb
    induction ns with
    | nil => rfl
    | cons y ns ih =>
      have := ih fun z hz => hn z (by simp [hz])
      show (y.s, _) :: toC mn (ns ++ [x]) = (if y.s = x.s then _ else _ :: putC (toC mn ns) _)
      rw [if_neg (hn y (by simp)), this]
  | some o =>
    dsimp only
    obtain ⟨ho, hs⟩ := getN_some hg
    clear hg
    induction ns with
    | nil => cases ho
    | cons y ns ih =>
      unfold spotKs at hk
      rw [List.map_cons, List.nodup_cons] at hk
      show (y.s, _) :: toC _ ns = (if y.s = x.s then _ else _ :: putC (toC mn ns) _)
      by_cases e : y.s = x.s
      · rw [if_pos e]
        have : o = y := by
          rcases List.mem_cons.1 ho with rfl | ho
          · rfl
          · exact absurd (List.mem_map.2 ⟨o, ho, hs.trans e.symm⟩) hk.1
        subst this
        rw [upN_same, toC_congr (mn := mn) fun z hz => upN_other fun e2 => ?_]
        · rfl
        · have := hb z (by simp [hz]) o (by simp) e2
          subst this
          exact hk.1 (List.mem_map.2 ⟨z, hz, rfl⟩)
      · rw [if_neg e]
        have ho' : o ∈ ns := (List.mem_cons.1 ho).resolve_left fun e2 => e (e2 ▸ hs)
        rw [upN_other (fun e2 => e (by rw [hb y (by simp) o ho e2]; exact hs)), ih hk.2 (fun z hz u hu => hb z (by simp [hz]) u (by simp [hu])) ho']
theorem putNs_keys {ns : List Nd} {x : Nd} (hk : (spotKs ns).Nodup) : (spotKs (putNs ns x)).Nodup := by
  unfold putNs
  cases hg : getN ns x.s with
  | some o => exact hk
  | none =>
    show ((ns ++ [x]).map (·.s)).Nodup
    rw [List.map_append, List.nodup_append]
    refine ⟨hk, List.nodup_cons.2 ⟨by simp, List.nodup_nil⟩, fun a ha b hb e => ?_⟩
    obtain ⟨y, hy, rfl⟩ := List.mem_map.1 ha
    simp only [List.map_cons, List.map_nil, List.mem_singleton] at hb
    exact getN_none hg y hy (e.trans hb)
theorem putM_ok {f : Fmt} {N ns : List Nd} {mn : Nat → Pr} {K : Int} {x : Nd} (h : PoolOk f N mn K) (hs : ∀ y ∈ ns, y ∈ N) (hx : x ∈ N) : PoolOk f N (putM ns mn x) K := by
  unfold putM
  cases hg : getN ns x.s with
  | none => exact h
  | some o =>
    have h1 := h.ok o (hs o (getN_some hg).1)
    have h2 := h.ok x hx
    have a1 := h1.lo; have a2 := h1.hi; have b1 := h2.lo; have b2 := h2.hi
    exact h.set o.b (by dsimp only; omega) (by dsimp only; omega)
theorem putM_other {ns : List Nd} {mn : Nat → Pr} {x : Nd} {k : Nat} (h : ∀ y ∈ ns, y.b ≠ k) : putM ns mn x k = mn k := by
  unfold putM
  cases hg : getN ns x.s with
  | none => rfl
  | some o => exact upN_other fun e => h o (getN_some hg).1 e.symm
end Go.Proofs.YtpmmgljndceplaaGreat

namespace Go.Proofs.YtpmmgljndceplaaGreat
open Go Go.RowKit

theorem plays_O {f : Fmt} {first : Int} {xs : List Int} {m : MS} (h1 : f.Ok) (h2 : first = 0 ∨ first = 1) (h3 : xs.length ≤ 600) (h : playTo f first xs xs.length = some m) (hc : chkF f = 0) : playO f first xs = some m := by
  have hs : sideBad first = false := by rcases h2 with rfl | rfl <;> rfl
  have hn : decide ((600 : Int) < xs.length) = false := by rw [decide_eq_false_iff_not]; omega
  have : preE f first xs.length = 0 := by
    rw [preE, hc, hs, hn]; rfl
  rw [playO, this]; exact h
end Go.Proofs.YtpmmgljndceplaaGreat

namespace Go.Proofs.YtpmmgljndceplaaGreat
open Go Go.RowKit

theorem can_play {f : Fmt} {first : Int} {ps : List Int} (hf : f.Ok) (h : CanP f first ps) : ∀ k, k ≤ ps.length → ∃ m, playTo f first ps k = some m ∧ spotOf m = spS f first ps k
  | 0, _ => ⟨_, rfl, begin_spot f first⟩
  | k + 1, hk => by
    obtain ⟨m, h1, h2⟩ := can_play hf h k (by omega)
    obtain ⟨p, hp⟩ : ∃ p, ps[k]? = some p := ⟨_, List.getElem?_eq_getElem (by omega)⟩
    obtain ⟨hs, ht⟩ := h k p hp
    have hr := playTo_rch hf h1
    have hmf := (playTo_inv hf h1).1
    have hin : m.Inv := by
      rcases hr.inv with hi | ⟨hd, hmx, _⟩
      · exact hi
      · exact absurd (by rw [← h2]; show max (wonV m.st).1 (wonV m.st).2 = f.sets; rw [hmx, hmf]) ht
    have hnb : (sideBad p || decide (0 ≤ m.winner)) = false := by
      have hw := hin.w
      have : sideBad p = false := by rcases hs with rfl | rfl <;> rfl
      rw [this, Bool.false_or]
      exact decide_eq_false (by omega)
    have hst := playTo_succ h1 hp
    rw [hnb] at hst
    refine ⟨_, hst, ?_⟩
    have := (spot_step (hmf ▸ hf) hin hr.cnt hs).1
    rw [h2, hmf, nxtS, decide_eq_false ht] at this
    rw [spS_succ hp]
    exact (Option.some.inj this).symm
structure PlayN (f : Fmt) (s : Spot) (r : List Int) (m : MS) : Prop where
  o : playO f s.first r = some m
  e : playE f s.first r = 0
  sp : spotOf m = s
  w : m.winner = winS f s
  sv : m.server = srvS f s
theorem can_playO {f : Fmt} {first : Int} {ps : List Int} (hf : f.Ok) (hc0 : chkF f = 0) (h1 : first = 0 ∨ first = 1) (h : CanP f first ps) (hn : ps.length ≤ 600) : ∃ m, playO f first ps = some m ∧ playE f first ps = 0 ∧ spotOf m = spS f first ps ps.length ∧ m.winner = winS f (spotOf m) ∧ m.server = srvS f (spotOf m) := by
  obtain ⟨m, h2, h3⟩ := can_play hf h ps.length (Nat.le_refl _)
  have hO := plays_O hf h1 hn h2 hc0
  have hr := playTo_rch hf h2
  obtain ⟨i1, i2, _⟩ := playTo_inv hf h2
  refine ⟨m, hO, playE_some hO, h3, ?_, ?_⟩
  · rw [rch_win hr, i1]
  · rw [rch_srv (by omega) hr, i1]
theorem NdOk.play {f : Fmt} {N : List Nd} {mn : Nat → Pr} {K : Int} {x : Nd} (hf : f.Ok) (hc0 : chkF f = 0) (hK : K ≤ 600) (h : NdOk f N mn K x) {r : List Int} (hn : (N.map (·.b)).Nodup) (hr : RowN N x r) : ∃ m, PlayN f x.s r m := by
  obtain ⟨r', h1, h2, h3, h4⟩ := h.row
  obtain rfl := h1.uniq hn hr
  obtain ⟨m, g1, g2, g3, g4, g5⟩ := can_playO hf hc0 h.fs h3 (by omega)
  rw [h4] at g3
  rw [g3] at g4 g5
  exact ⟨m, g1, g2, g3, g4, g5⟩
theorem row_next {f : Fmt} {N : List Nd} {x y : Nd} {K : Int} (hx : x ∈ N) (h : ∃ r, RowN N x r ∧ (r.length : Int) ≤ K ∧ CanP f x.s.first r ∧ spS f x.s.first r r.length = x.s) (hbf : y.bf = some x.b) (hsd : y.sd = 0 ∨ y.sd = 1) (hn : nxtS f x.s y.sd = some y.s) :
    y.s.first = x.s.first ∧ ∃ r, RowN N y r ∧ (r.length : Int) ≤ K + 1 ∧ CanP f y.s.first r ∧ spS f y.s.first r r.length = y.s := by
  obtain ⟨r, h1, h2, h3, h4⟩ := h
  have hfs : y.s.first = x.s.first := by
    have ht : topS x.s ≠ f.sets := fun e => by rw [nxtS, decide_eq_true e] at hn; cases hn
    rw [nxtS, decide_eq_false ht] at hn
    have := Option.some.inj hn
    rw [← this, step_first]
  rw [← h4] at hn
  obtain ⟨g1, g2⟩ := can_app h3 hsd hn
  refine ⟨hfs, r ++ [y.sd], .snoc hx hbf h1, by rw [List.length_append, List.length_singleton]; omega, by rw [hfs]; exact g1, by rw [hfs]; exact g2⟩
theorem PoolOk.next {f : Fmt} {N : List Nd} {mn : Nat → Pr} {K : Int} (h : PoolOk f N mn K) {x y : Nd} (hx : x ∈ N) (hne : ∀ z ∈ N, z.b ≠ y.b) (hbf : y.bf = some x.b) (hsd : y.sd = 0 ∨ y.sd = 1) (hn : nxtS f x.s y.sd = some y.s) : PoolOk f (y :: N) (upN mn y.b ((mn x.b).1 + 1, (mn x.b).2 + 1)) (K + 1) := by
  have hk := h.ok x hx
  obtain ⟨h1, h2⟩ := row_next hx hk.row hbf hsd hn
  have := hk.lo; have := hk.hi
  exact (h.up (by omega)).add hne (by rw [h1]; exact hk.fs) h2 (by dsimp only; omega) (by dsimp only; omega)
theorem PoolOk.copy {f : Fmt} {N : List Nd} {mn : Nat → Pr} {K : Int} (h : PoolOk f N mn K) {x y : Nd} (hx : x ∈ N) (hne : ∀ z ∈ N, z.b ≠ y.b) (hs : y.s = x.s) (hbf : y.bf = x.bf) (hsd : y.sd = x.sd) : PoolOk f (y :: N) (upN mn y.b (mn x.b)) K := by
  have hk := h.ok x hx
  obtain ⟨r, h1, h2⟩ := hk.row
  exact h.add hne (by rw [hs]; exact hk.fs) ⟨r, h1.copy hbf hsd, by rw [hs]; exact h2⟩ hk.lo hk.hi
theorem PoolOk.first {f : Fmt} {N : List Nd} {mn : Nat → Pr} {K : Int} (h : PoolOk f N mn K) (hK : 0 ≤ K) {y : Nd} (hne : ∀ z ∈ N, z.b ≠ y.b) (hf : y.s.first = 0 ∨ y.s.first = 1) (hs : y.s = ⟨y.s.first, [], (0, 0), (0, 0)⟩) (hbf : y.bf = none) : PoolOk f (y :: N) (upN mn y.b (0, 0)) K :=
  h.add hne hf ⟨[], .nil hbf, hK, fun n p hp => (by cases hp), by rw [hs]; rfl⟩ ⟨Int.le_refl _, hK⟩ ⟨Int.le_refl _, hK⟩

def QOk (f : Fmt) (x : Nt) (y : Spot) (q : List Int) : Prop :=
  if x.kind = 1 then ∃ p, q = [p] ∧ (x.side = -1 ∨ x.side = p) else if x.kind = 2 then x.pair.1 ≤ (q.length : Int) ∧ (q.length : Int) ≤ x.pair.2 else q = [] ∧ holdS f x y = true
theorem row_read {f : Fmt} {cf first : Int} {xs : List Nt} {j : Nat} {s u : Spot} {r q : List Int} {x : Nt} (h : Row_ f cf xs j s first r) (hx : xs[j]? = some x) (hc : CanP f first (r ++ q)) (hsp : spS f first (r ++ q) (r ++ q).length = u) (hq : QOk f x u q) : Row_ f cf xs (j + 1) u first (r ++ q) := by
  refine ⟨h.fs, h.cf, hc, ⟨x, r.length, hx, (fit_app h.fit).2, ?_⟩, hsp⟩
  unfold hitV
  unfold QOk at hq
  by_cases h1 : x.kind = 1
  · rw [if_pos h1] at hq ⊢
    obtain ⟨p, rfl, hp⟩ := hq
    refine ⟨by rw [List.length_append]; rfl, Nat.le_refl _, hp.imp id fun e => ?_⟩
    rw [List.getElem?_append_right (Nat.le_refl _), Nat.sub_self, e]; rfl
  · rw [if_neg h1] at hq ⊢
    by_cases h2 : x.kind = 2
    · rw [if_pos h2] at hq ⊢
      rw [List.length_append]
      exact ⟨by omega, by omega, Nat.le_refl _⟩
    · rw [if_neg h2] at hq ⊢
      obtain ⟨rfl, hq⟩ := hq
      rw [List.append_nil] at hsp ⊢
      exact ⟨rfl, by rw [hsp]; exact hq⟩
end Go.Proofs.YtpmmgljndceplaaGreat

namespace Go.Proofs.YtpmmgljndceplaaGreat
open Go Go.RowKit

section rules
variable {F : Fence} {P : Program} {ops : Array Oper} {Q : Exit → Act → World → Prop} {rest : List Oper} {n : Nat} {D : List Deferred} {l : Env} {w0 : World} {L M : List Ent}
variable {d : Nat} {ty : TypeId} {pos : String} {aft : Array Edge}
theorem pool_cell {w : World} {T : TypeId} {N : List Nd} {mn : Nat → Pr} {y : Nd} (hok : (poolE T N mn none).ok w) (hy : y ∈ N) (i : Nat) : w.cell? ⟨y.b, i, none⟩ = (nodeC y (mn y.b))[i]? := by
  rw [cell_of_row w y.b i _ T (0, 0) (hok y hy (by simp))]; simp
theorem ldQ {x : Operand} {t : TypeId} {size bytes : Nat} {z : Value} {zl : List Value} (hT : Ty P t false size bytes z zl := by infer_instance) {y : Nd} {o : Nat} {T : TypeId} {N : List Nd} {mn : Nat → Pr} {v : Value} (hy : y ∈ N)
    (hx : ev l x = some (.pointer (some ⟨y.b, o, none⟩)) := by exact rfl) (ha : At L (poolE T N mn none) M := by repeat (first | exact At.here | apply At.there)) (hc : (nodeC y (mn y.b))[o]? = some v := by exact rfl) : Yd P n D l w0 L (.load t x) (v) :=
  ⟨by simp, by simp, fun oo ho ac w hfr hst => by
    have hcell : w.cell? ⟨y.b, o, none⟩ = some v := by rw [pool_cell (hst _ ha.mem) hy, hc]
    simp [execOp, ho, hfr.eval hx, Instr.loadAt, Instr.sureAddr, run_loadVar1 hT hcell]⟩
theorem ldQA {x : Operand} {t : TypeId} {size bytes : Nat} {z : Value} {zl : List Value} (hT : Ty P t true size bytes z zl := by infer_instance) {y : Nd} {o : Nat} {T : TypeId} {N : List Nd} {mn : Nat → Pr} {vs : List Value} (hy : y ∈ N)
    (hx : ev l x = some (.pointer (some ⟨y.b, o, none⟩)) := by exact rfl) (ha : At L (poolE T N mn none) M := by repeat (first | exact At.here | apply At.there)) (hc : Tk (nodeC y (mn y.b)) o size vs := by repeat (first | exact Tk.nil | apply Tk.cons | apply Tk.skip)) : Yd P n D l w0 L (.load t x) (.agg vs.toArray) :=
  ⟨by simp, by simp, fun oo ho ac w hfr hst => by
    have hcell : ∀ j v, vs[j]? = some v → w.cell? ((⟨y.b, o, none⟩ : Addr).add j) = some v := fun j v hj => by
      rw [add_lit, pool_cell (hst _ ha.mem) hy]; exact hc.out.2 j v hj
    simp [execOp, ho, hfr.eval hx, Instr.loadAt, Instr.sureAddr, run_loadVarA hT hc.out.1 hcell]⟩
theorem stQ {x y : Operand} {t : TypeId} {bytes : Nat} {z : Value} {zl : List Value} (hT : Ty P t true 2 bytes z zl := by infer_instance) {o : Nd} {T : TypeId} {N : List Nd} {mn : Nat → Pr} {v : Pr} (ho : o ∈ N) (hn : (N.map (·.b)).Nodup)
    (hx : ev l x = some (.pointer (some ⟨o.b, 18, none⟩)) := by exact rfl) (hy : ev l y = some (.agg #[.int .i64 v.1, .int .i64 v.2]) := by exact rfl)
    (ha : At L (poolE T N mn none) M := by repeat (first | exact At.here | apply At.there))
    (h : WL F P ops Q rest n D l w0 (poolE T N (upN mn o.b v) none :: M)) : WL F P ops Q (⟨none, .store t x y, ty, pos, aft, none⟩ :: rest) n D l w0 L :=
  WL.skipop (by simp) (fun ac w hfr hst => by
    obtain ⟨w', hr, hs⟩ := run_storeCells (P := P) [.int .i64 v.1, .int .i64 v.2] (nodeC o (mn o.b)) 18 0 w ((hst.pull ha).pOpen ho) (fun _ => by show 18 + 0 + 2 ≤ 20; omega) (fun u hu => by
      rcases List.mem_cons.1 hu with rfl | hu
      · rfl
      · rw [List.mem_singleton] at hu; subst hu; rfl)
    refine ⟨w', ?_, St.pClose (v := v) hs ho hn⟩
    simp [execOp, hfr.eval hx, hfr.eval hy, Instr.storeAt, Instr.sureAddr, storeVar, run_sizeOf hT, Value.cells, hr]) h
theorem neqN {x y : Operand} {t u : TypeId} (hT : P.underlying t = some (.pointer (P.pointee t))) {o : Option Nat} (hx : ev l x = some (bpO o) := by exact rfl) (hy : ev l y = some (.pointer none) := by exact rfl) : Yd P n D l w0 L (.binOp .neq t x y u) (.bool o.isSome) :=
  ⟨by simp, by simp, fun oo ho ac w hfr _ => by
    have h1 : ∀ d : Nat, (Op.equalIn (d + 1) t (bpO o) (.pointer none)).run P w = .ok (!o.isSome) w := fun d => by
      cases o <;> simp only [Op.equalIn, Sem.run_bind, run_underlying hT, Result.andThen_ok, Option.map] <;> rfl
    have h2 : (Op.equal t (bpO o) (.pointer none)).run P w = .ok (!o.isSome) w := h1 9999
    simp only [execOp, ho, hfr.eval hx, hfr.eval hy, binOp, Sem.run_bind, eqGuard]
    simp [h2]⟩
theorem run_field {t k off ft size : Nat} (hT : FieldTy P t k off ft size) (cs : Array Value) (w : World) : (Instr.field t (.agg cs) k).run P w = (part ft cs off).run P w := by
  have hu := hT.und
  cases hq : P.underlying t with
  | none => simp [hq] at hu
  | some d =>
    cases d <;> simp [hq, fldD] at hu
    rename_i fs
    obtain ⟨f, hf, h1, h2⟩ := hu
    subst h1 h2
    simp [Instr.field, run_underlying hq, hf, asAgg]
theorem fdv1 {x : Operand} {t k off ft size sz bytes : Nat} {z : Value} {zl cs : List Value} {v : Value} (hT : FieldTy P t k off ft size := by infer_instance) (hE : Ty P ft false sz bytes z zl := by infer_instance) (hx : ev l x = some (.agg cs.toArray) := by exact rfl) (hv : cs[off]? = some v := by exact rfl) : Yd P n D l w0 L (.field t x k) v :=
  ⟨by simp, by simp, fun oo ho ac w hfr hst => by
    simp [execOp, ho, hfr.eval hx, run_field hT, part, run_isAgg hE, hv]⟩
theorem fdvA {x : Operand} {t k off ft size sz bytes : Nat} {z : Value} {zl cs vs : List Value} (hT : FieldTy P t k off ft size := by infer_instance) (hE : Ty P ft true sz bytes z zl := by infer_instance) (hx : ev l x = some (.agg cs.toArray) := by exact rfl) (hc : (cs.drop off).take sz = vs := by exact rfl) : Yd P n D l w0 L (.field t x k) (.agg vs.toArray) :=
  ⟨by simp, by simp, fun oo ho ac w hfr hst => by
    subst hc
    simp [execOp, ho, hfr.eval hx, run_field hT, part, run_isAgg hE, run_sizeOf hE, List.extract_toArray]⟩
theorem slAh {x hi : Operand} {t e : TypeId} {len size bytes b o : Nat} {agg : Bool} {z : Value} {zl : List Value} (hT : ArrayTy P t len e := by infer_instance) (hE : Ty P e agg size bytes z zl := by infer_instance) {k : IntKind} {i : Int}
    (hx : ev l x = some (.pointer (some ⟨b, o, none⟩)) := by exact rfl) (hi' : ev l hi = some (.int k i) := by exact rfl) (hb : 0 ≤ i ∧ i ≤ len) (hne : len ≠ 0) : Yd P n D l w0 L (.slice t x none (some hi) none) (.slice (some ⟨b, o, none⟩) i.toNat len) :=
  ⟨by simp, by simp, fun oo ho ac w hfr hst => by
    simp [execOp, ho, hfr.eval hx, hfr.eval hi', Instr.sliceAt, Instr.sureAddr, run_underlying hT.und, Instr.sliceBounds, run_sizeOf hE, Addr.add, sliceBound_ok (P := P) hb, hne]⟩
end rules
theorem rd_sets {w : World} {b : Nat} {T : TypeId} {s : Spot} (h5 : s.st.length ≤ 5) (h : (Ent.blk b T (spotC s)).ok w) : Rd w (some ⟨b, 2, none⟩) 2 s.st.length (encP s.st) := by
  refine rd_blkA h (by simp [encP]) (fun c hc => ?_) (fun c hc v hv => ?_) fun k c hk j v hj => ?_
  · obtain ⟨p, _, rfl⟩ := List.mem_map.1 hc; rfl
  · obtain ⟨p, _, rfl⟩ := List.mem_map.1 hc
    rcases List.mem_cons.1 hv with rfl | hv
    · rfl
    · rw [List.mem_singleton] at hv; subst hv; rfl
  · have hkl : k < s.st.length := by
      have := (List.getElem?_eq_some_iff.1 hk).1
      simpa [encP] using this
    have hc : c = [.int .i64 (ep s k).1, .int .i64 (ep s k).2] := by
      have := encP_at (List.getElem?_eq_getElem hkl)
      rw [hk] at this
      have := Option.some.inj this
      rw [this, ep, List.getD_eq_getElem?_getD, List.getElem?_eq_getElem hkl]; rfl
    subst hc
    have hj2 : j = 0 ∨ j = 1 := by
      have := (List.getElem?_eq_some_iff.1 hj).1
      simp at this; omega
    have hk5 : k = 0 ∨ k = 1 ∨ k = 2 ∨ k = 3 ∨ k = 4 := by omega
    rcases hj2 with rfl | rfl <;> rcases hk5 with rfl | rfl | rfl | rfl | rfl <;> exact hj
end Go.Proofs.YtpmmgljndceplaaGreat

namespace Go.Proofs.YtpmmgljndceplaaGreat
open Go Go.RowKit

theorem C_card_within (n lo hi : Int) (w : World) : C0 Tryz.prog 123 [.int .i64 n, .int .i64 lo, .int .i64 hi] w (.bool (wi n lo hi)) := by
  refine ⟨en Tryz.func123 Tryz.ntmps123 (St.init w) (h := fun F => ?_)⟩
  refine sq (h := ?_)
  refine rg (h := ?_)
  refine wy asg ?_
  refine nl (h := ?_)
  refine q_seq (h := ?_)
  refine sq (h := ?_)
  refine rg (h := ?_)
  refine wy mv ?_
  refine wy mv ?_
  refine wy leq ?_
  refine wy mv ?_
  apply brAnd 4 10 14 (by exact rfl)
  · intro hb0
    refine un (h := ?_)
    refine wy mv ?_
    refine un (h := ?_)
    refine wy mv ?_
    refine un (h := ?_)
    refine wy leq ?_
    refine wy (by first | exact pkT | exact pkF) ?_
    exact mg (by repeat (first | exact trivial | refine ⟨rfl, ?_⟩ | refine ⟨by rw [hb0]; rfl, ?_⟩)) slz_
  · intro hb0
    repeat (first | refine un (h := ?_) | refine sk (h := ?_) | refine WL.y (hy := pkF) (h := ?_) | refine WL.y (hy := pkT) (h := ?_))
    exact mg (by repeat (first | exact trivial | refine ⟨rfl, ?_⟩ | refine ⟨by rw [hb0]; rfl, ?_⟩)) slz_
  refine wy asg ?_
  refine nl (h := ?_)
  refine q_seq (h := ?_)
  refine rtn (h := ?_)
  refine q_ret (hR := ?_)
  exact fun w hS => ⟨rfl, hS.sub slz_⟩
theorem C_card_more (p : Pr) (side : Int) (hp : Sm p) (w : World) : C0 Tryz.prog 140 [pv p, .int .i64 side] w (pv (addV p side)) := by
  obtain ⟨⟨h1, h2⟩, h3, h4⟩ := hp
  refine ⟨en Tryz.func140 Tryz.ntmps140 (St.init w) (h := fun F => ?_)⟩
  refine sq (h := ?_)
  refine rg (h := ?_)
  refine bxA (h := fun b0 => ?_)
  refine al (h := fun b1 => ?_)
  refine nl (h := ?_)
  refine q_seq (h := ?_)
  refine sq (h := ?_)
  refine sq (h := ?_)
  refine rg (h := ?_)
  refine wy mv ?_
  refine wy eql ?_
  refine nl (h := ?_)
  refine q_seq (h := ?_)
  refine cd (by exact rfl) (fun h0 => ?_) (fun h0 => ?_)
  · skip
    refine rg (h := ?_)
    refine wy (by first | exact fa | exact faE) ?_
    refine wy (by first | exact ld | exact ldE) ?_
    refine wy addI ?_
    refine wy (by first | exact fa | exact faE) ?_
    first | refine st (h := ?_) | refine stE (h := ?_)
    refine nl (h := ?_)
    refine q_seq (h := ?_)
    refine sq (h := ?_)
    refine rg (h := ?_)
    refine wy (by first | exact ldA | exact ldEA) ?_
    first | refine stA (h := ?_) | refine stEA (h := ?_)
    refine nl (h := ?_)
    refine q_seq (h := ?_)
    refine rtn (h := ?_)
    refine q_ret (hR := ?_)
    exact fun w hS => ⟨cdT' (x := (p.1 + 1, p.2)) (fun p : Pr => Ending.returned (pv p)) h0, hS.sub slz_⟩
  · skip
    refine rg (h := ?_)
    refine wy (by first | exact fa | exact faE) ?_
    refine wy (by first | exact ld | exact ldE) ?_
    refine wy addI ?_
    refine wy (by first | exact fa | exact faE) ?_
    first | refine st (h := ?_) | refine stE (h := ?_)
    refine nl (h := ?_)
    refine q_seq (h := ?_)
    refine sq (h := ?_)
    refine rg (h := ?_)
    refine wy (by first | exact ldA | exact ldEA) ?_
    first | refine stA (h := ?_) | refine stEA (h := ?_)
    refine nl (h := ?_)
    refine q_seq (h := ?_)
    refine rtn (h := ?_)
    refine q_ret (hR := ?_)
    exact fun w hS => ⟨cdF' (y := (p.1, p.2 + 1)) (fun p : Pr => Ending.returned (pv p)) h0, hS.sub slz_⟩
theorem C_card_leads (p : Pr) (side l b : Int) (hp : Sm p) (w : World) : C0 Tryz.prog 141 [pv p, .int .i64 side, .int .i64 l, .int .i64 b] w (.bool (ldS p side l b)) := by
  obtain ⟨⟨h1, h2⟩, h3, h4⟩ := hp
  refine ⟨en Tryz.func141 Tryz.ntmps141 (St.init w) (h := fun F => ?_)⟩
  refine sq (h := ?_)
  refine rg (h := ?_)
  refine bxA (h := fun b0 => ?_)
  refine wy asg ?_
  refine nl (h := ?_)
  refine q_seq (h := ?_)
  refine sq (h := ?_)
  refine sq (h := ?_)
  refine rg (h := ?_)
  refine wy mv ?_
  refine wy eql ?_
  refine nl (h := ?_)
  refine q_seq (h := ?_)
  refine cd (by exact rfl) (fun h0 => ?_) (fun h0 => ?_)
  · skip
    refine rg (h := ?_)
    refine wy (by first | exact fa | exact faE) ?_
    refine wy (by first | exact ld | exact ldE) ?_
    refine wy (by first | exact fa | exact faE) ?_
    refine wy (by first | exact ld | exact ldE) ?_
    refine wy (by first | exact fa | exact faE) ?_
    first | refine st (h := ?_) | refine stE (h := ?_)
    refine wy (by first | exact fa | exact faE) ?_
    first | refine st (h := ?_) | refine stE (h := ?_)
    refine nl (h := ?_)
    refine q_seq (h := ?_)
    refine sq (h := ?_)
    refine rg (h := ?_)
    refine wy (by first | exact fa | exact faE) ?_
    refine wy (by first | exact ld | exact ldE) ?_
    refine wy mv ?_
    refine wy geq ?_
    refine wy mv ?_
    apply brAnd 8 21 29 (by exact rfl)
    · intro hb1
      refine un (h := ?_)
      refine wy (by first | exact fa | exact faE) ?_
      refine un (h := ?_)
      refine wy (by first | exact ld | exact ldE) ?_
      refine un (h := ?_)
      refine wy (by first | exact fa | exact faE) ?_
      refine un (h := ?_)
      refine wy (by first | exact ld | exact ldE) ?_
      refine un (h := ?_)
      refine wy subI ?_
      refine un (h := ?_)
      refine wy mv ?_
      refine un (h := ?_)
      refine wy geq ?_
      refine wy (by first | exact pkT | exact pkF) ?_
      exact mg (by repeat (first | exact trivial | refine ⟨rfl, ?_⟩ | refine ⟨by rw [hb1]; rfl, ?_⟩)) slz_
    · intro hb1
      repeat (first | refine un (h := ?_) | refine sk (h := ?_) | refine WL.y (hy := pkF) (h := ?_) | refine WL.y (hy := pkT) (h := ?_))
      exact mg (by repeat (first | exact trivial | refine ⟨rfl, ?_⟩ | refine ⟨by rw [hb1]; rfl, ?_⟩)) slz_
    refine wy asg ?_
    refine nl (h := ?_)
    refine q_seq (h := ?_)
    refine rtn (h := ?_)
    refine q_ret (hR := ?_)
    exact fun w hS => ⟨by rw [ldS, h0]; rfl, hS.sub slz_⟩
  · skip
    refine skp (h := ?_)
    refine q_seq (h := ?_)
    refine sq (h := ?_)
    refine rg (h := ?_)
    refine wy (by first | exact fa | exact faE) ?_
    refine wy (by first | exact ld | exact ldE) ?_
    refine wy mv ?_
    refine wy geq ?_
    refine wy mv ?_
    apply brAnd 8 21 29 (by exact rfl)
    · intro hb2
      refine un (h := ?_)
      refine wy (by first | exact fa | exact faE) ?_
      refine un (h := ?_)
      refine wy (by first | exact ld | exact ldE) ?_
      refine un (h := ?_)
      refine wy (by first | exact fa | exact faE) ?_
      refine un (h := ?_)
      refine wy (by first | exact ld | exact ldE) ?_
      refine un (h := ?_)
      refine wy subI ?_
      refine un (h := ?_)
      refine wy mv ?_
      refine un (h := ?_)
      refine wy geq ?_
      refine wy (by first | exact pkT | exact pkF) ?_
      exact mg (by repeat (first | exact trivial | refine ⟨rfl, ?_⟩ | refine ⟨by rw [hb2]; rfl, ?_⟩)) slz_
    · intro hb2
      repeat (first | refine un (h := ?_) | refine sk (h := ?_) | refine WL.y (hy := pkF) (h := ?_) | refine WL.y (hy := pkT) (h := ?_))
      exact mg (by repeat (first | exact trivial | refine ⟨rfl, ?_⟩ | refine ⟨by rw [hb2]; rfl, ?_⟩)) slz_
    refine wy asg ?_
    refine nl (h := ?_)
    refine q_seq (h := ?_)
    refine rtn (h := ?_)
    refine q_ret (hR := ?_)
    exact fun w hS => ⟨by rw [ldS, h0]; rfl, hS.sub slz_⟩
theorem C_spot_won (s : Spot) (h5 : s.st.length ≤ 5) (w : World) : C0 Tryz.prog 137 [.agg (spotC s).toArray] w (pv (wonV s.st)) := by
  refine ⟨en Tryz.func137 Tryz.ntmps137 (St.init w) (h := fun F => ?_)⟩
  refine sq (h := ?_)
  refine rg (h := ?_)
  refine bxA (h := fun b0 => ?_)
  refine al (h := fun b1 => ?_)
  refine nl (h := ?_)
  refine q_seq (h := ?_)
  refine sq (h := ?_)
  refine sq (h := ?_)
  refine rg (h := ?_)
  refine wy (by first | exact fa | exact faE) ?_
  refine wy (by first | exact fa | exact faE) ?_
  refine wy (by first | exact ld | exact ldE) ?_
  refine wy (slAh (hb := by omega) (hne := by decide)) ?_
  rw [Int.toNat_natCast]
  refine wy lenS ?_
  refine wy mv ?_
  refine nl (h := ?_)
  refine q_seq (h := ?_)
  refine bk (h := ?_)
  refine lp (X := WZ) (I := fun z => z.k ≤ s.st.length ∧ z.p = wonTo s.st z.k) (le := fun z => [(2, .pointer (some ⟨b1, 0, none⟩)), (8, .slice (some ⟨b0, 2, none⟩) s.st.length 5), (9, .int .i64 s.st.length), (10, .int .i64 z.k)]) (Le := fun z => [.blk b1 38 [.int .i64 z.p.1, .int .i64 z.p.2], .blk b0 114 (spotC s)]) (μ := fun z => s.st.length - z.k) ⟨0, (0, 0)⟩ ⟨Nat.zero_le _, rfl⟩ sbz_ slz_ (fun z hz => ?_)
  obtain ⟨hzk, hzp⟩ := hz
  refine sq (h := ?_)
  refine rg (h := ?_)
  refine wy lss ?_
  refine nl (h := ?_)
  refine q_seq (h := ?_)
  refine sq (h := ?_)
  refine cd (by exact rfl) (fun h0 => ?_) (fun h0 => ?_)
  · skip
    have hkn : z.k < s.st.length := by simp only [decide_eq_true_eq] at h0; omega
    obtain ⟨q, hq⟩ : ∃ q, s.st[z.k]? = some q := ⟨_, List.getElem?_eq_getElem (by omega)⟩
    have hqe := encP_at hq
    have hst := wonTo_succ hq
    have hbd := wonTo_bd s.st z.k
    rw [← hzp] at hbd hst
    refine skp (h := ?_)
    refine q_seq (h := ?_)
    refine sq (h := ?_)
    refine bk (h := ?_)
    refine sq (h := ?_)
    refine rg (h := ?_)
    refine wy (ix (es := encP s.st) (hr := Rds.there (Rds.any fun w hw => rd_sets h5 hw)) (hb := by omega)) ?_
    refine wy (ldEA (hr := Rds.there (Rds.any fun w hw => rd_sets h5 hw)) (hk := hqe)) ?_
    refine al (h := fun b2 => ?_)
    first | refine stA (h := ?_) | refine stEA (h := ?_)
    refine nl (h := ?_)
    refine q_seq (h := ?_)
    refine sq (h := ?_)
    refine rg (h := ?_)
    refine wy (by first | exact fa | exact faE) ?_
    refine wy (by first | exact ld | exact ldE) ?_
    refine wy (by first | exact fa | exact faE) ?_
    refine wy (by first | exact ld | exact ldE) ?_
    refine wy gtr ?_
    refine nl (h := ?_)
    refine q_seq (h := ?_)
    refine cd (by exact rfl) (fun h1 => ?_) (fun h1 => ?_)
    · skip
      have hw : addV z.p (wside q) = (z.p.1 + 1, z.p.2) := by
        have h' : decide (q.2 < q.1) = true := h1
        rw [wside, h']; rfl
      refine rg (h := ?_)
      refine wy (by first | exact fa | exact faE) ?_
      refine wy (by first | exact ld | exact ldE) ?_
      refine wy addI ?_
      refine wy (by first | exact fa | exact faE) ?_
      first | refine st (h := ?_) | refine stE (h := ?_)
      refine nl (h := ?_)
      refine q_blk_norm (h := ?_)
      refine q_seq (h := ?_)
      refine rg (h := ?_)
      refine wy addI ?_
      refine wy mv ?_
      refine nl (h := ?_)
      refine rn (x := z) ⟨z.k + 1, addV z.p (wside q)⟩ ⟨by dsimp only; omega, hst.symm⟩ (by dsimp only; omega) sbz_ (by rw [hw]; exact slz_)
    · skip
      have hw : addV z.p (wside q) = (z.p.1, z.p.2 + 1) := by
        have h' : decide (q.2 < q.1) = false := h1
        rw [wside, h']; rfl
      refine rg (h := ?_)
      refine wy (by first | exact fa | exact faE) ?_
      refine wy (by first | exact ld | exact ldE) ?_
      refine wy addI ?_
      refine wy (by first | exact fa | exact faE) ?_
      first | refine st (h := ?_) | refine stE (h := ?_)
      refine nl (h := ?_)
      refine q_blk_norm (h := ?_)
      refine q_seq (h := ?_)
      refine rg (h := ?_)
      refine wy addI ?_
      refine wy mv ?_
      refine nl (h := ?_)
      refine rn (x := z) ⟨z.k + 1, addV z.p (wside q)⟩ ⟨by dsimp only; omega, hst.symm⟩ (by dsimp only; omega) sbz_ (by rw [hw]; exact slz_)
  · skip
    have hkn : z.k = s.st.length := by simp only [decide_eq_false_iff_not] at h0; omega
    refine et (h := ?_)
    refine q_then_exit (h := ?_)
    refine q_then_exit (h := ?_)
    refine q_blk_hit (h := ?_)
    refine q_seq (h := ?_)
    refine sq (h := ?_)
    refine rg (h := ?_)
    refine wy (by first | exact ldA | exact ldEA) ?_
    first | refine stA (h := ?_) | refine stEA (h := ?_)
    refine nl (h := ?_)
    refine q_seq (h := ?_)
    refine rtn (h := ?_)
    refine q_ret (hR := ?_)
    exact fun w hS => ⟨by rw [hkn] at hzp; rw [hzp]; rfl, hS.sub slz_⟩
end Go.Proofs.YtpmmgljndceplaaGreat

namespace Go.Proofs.YtpmmgljndceplaaGreat
open Go Go.RowKit

theorem encI_set (xs : List Int) (i : Nat) (x : Int) : (encI xs).set i [.int .i64 x] = encI (xs.set i x) := by unfold encI; rw [List.map_set]
def RevI (xs : List Int) (k : Nat) (ys : List Int) : Prop := ys.length = xs.length ∧ ∀ i, i < xs.length → ys[i]? = if i < k ∨ xs.length ≤ i + k then xs[xs.length - 1 - i]? else xs[i]?
theorem rev_start (xs : List Int) : RevI xs 0 xs := ⟨rfl, fun i hi => by rw [if_neg (by omega)]⟩
theorem rev_end {xs ys : List Int} {k : Nat} (h : RevI xs k ys) (hk : xs.length ≤ 2 * k + 1) : ys = xs.reverse := by
  refine List.ext_getElem? fun i => ?_
  by_cases hi : i < xs.length
  · rw [h.2 i hi, List.getElem?_reverse hi]
    by_cases hc : i < k ∨ xs.length ≤ i + k
    · rw [if_pos hc]
    · rw [if_neg hc]; congr 1; omega
  · rw [List.getElem?_eq_none (by rw [h.1]; omega), List.getElem?_eq_none (by rw [List.length_reverse]; omega)]
theorem rev_step {xs ys : List Int} {k : Nat} (h : RevI xs k ys) (hk : 2 * k + 1 < xs.length) {a b : Int} (ha : ys[k]? = some a) (hb : ys[xs.length - 1 - k]? = some b) : RevI xs (k + 1) ((ys.set k b).set (xs.length - 1 - k) a) := by
  have ha' : xs[k]? = some a := by have := h.2 k (by omega); rw [if_neg (by omega)] at this; rw [← this]; exact ha
  have hb' : xs[xs.length - 1 - k]? = some b := by have := h.2 (xs.length - 1 - k) (by omega); rw [if_neg (by omega)] at this; rw [← this]; exact hb
  have hl := h.1
  refine ⟨by simp [hl], fun i hi => ?_⟩
  by_cases e1 : i = xs.length - 1 - k
  · subst e1
    rw [List.getElem?_set_self (by simp; omega), if_pos (by omega), show xs.length - 1 - (xs.length - 1 - k) = k by omega, ha']
  · rw [List.getElem?_set_ne (fun e => e1 e.symm)]
    by_cases e2 : i = k
    · subst e2
      rw [List.getElem?_set_self (by omega), if_pos (by omega), hb']
    · rw [List.getElem?_set_ne (fun e => e2 e.symm), h.2 i hi]
      by_cases hc : i < k ∨ xs.length ≤ i + k
      · rw [if_pos hc, if_pos (by omega)]
      · rw [if_neg hc, if_neg (by omega)]
structure RVZ where
  (k : Nat) (ys : List Int)
theorem T_Reverse (xs : List Int) (A : Option Addr) (n c : Nat) (hlen : xs.length = n) (hn : n ≤ 100000) : Tr Tryz.prog 143 [.slice A n c] [.own A c 3 1 n (encI xs)] (fun _ : Unit => True) (fun _ => .tuple #[]) (fun _ => [.own A c 3 1 n (encI xs.reverse)]) := by
  refine ⟨fun w0 w R hst => ?_⟩
  refine en Tryz.func143 Tryz.ntmps143 hst (h := fun F => ?_)
  refine sq (h := ?_)
  refine rg (h := ?_)
  refine wy mv ?_
  refine wy lenS ?_
  refine wy subI ?_
  refine wy asg ?_
  refine wy asg ?_
  refine nl (h := ?_)
  refine q_seq (h := ?_)
  refine bk (h := ?_)
  refine lp (X := RVZ) (I := fun z => z.k ≤ n ∧ RevI xs z.k z.ys) (le := fun z => [(0, .slice A n c), (2, .int .i64 z.k), (3, .int .i64 ((n : Int) - 1 - (z.k : Int)))]) (Le := fun z => .own A c 3 1 n (encI z.ys) :: R) (μ := fun z => n - z.k) ⟨0, xs⟩ ⟨Nat.zero_le _, rev_start xs⟩ (by repeat (first | exact trivial | refine ⟨rfl, ?_⟩ | refine ⟨by show some (Value.int .i64 ((n : Int) - 1)) = some (Value.int .i64 ((n : Int) - 1 - ((0 : Nat) : Int))); congr 2; omega, ?_⟩)) (SubL.refl _) (fun z hz => ?_)
  obtain ⟨hzk, hzr⟩ := hz
  have hyl := hzr.1
  refine sq (h := ?_)
  refine sq (h := ?_)
  refine rg (h := ?_)
  refine wy mv ?_
  refine wy mv ?_
  refine wy lss ?_
  refine nl (h := ?_)
  refine q_seq (h := ?_)
  refine cd (by exact rfl) (fun h0 => ?_) (fun h0 => ?_)
  · skip
    have hk1 : 2 * z.k + 1 < n := by simp only [decide_eq_true_eq] at h0; omega
    obtain ⟨a, ha⟩ : ∃ a, z.ys[z.k]? = some a := ⟨_, List.getElem?_eq_getElem (by omega)⟩
    obtain ⟨b, hb⟩ : ∃ b, z.ys[n - 1 - z.k]? = some b := ⟨_, List.getElem?_eq_getElem (by omega)⟩
    have hj : ((n : Int) - 1 - (z.k : Int)).toNat = n - 1 - z.k := by omega
    have hnx := rev_step hzr (by omega) ha (by rw [hlen]; exact hb)
    rw [hlen] at hnx
    have hka : (encI z.ys)[((z.k : Nat) : Int).toNat]? = some [.int .i64 a] := encI_at ha
    have hkb : (encI z.ys)[((n : Int) - 1 - (z.k : Int)).toNat]? = some [.int .i64 b] := by rw [hj]; exact encI_at hb
    have hk2 : ((encI z.ys).set ((z.k : Nat) : Int).toNat ([Value.int .i64 a].set 0 (.int .i64 b)))[((n : Int) - 1 - (z.k : Int)).toNat]? = some [.int .i64 b] := by
      rw [hj, List.getElem?_set_ne (by show z.k ≠ n - 1 - z.k; omega)]; exact encI_at hb
    have hsw : ((encI z.ys).set ((z.k : Nat) : Int).toNat ([Value.int .i64 a].set 0 (.int .i64 b))).set ((n : Int) - 1 - (z.k : Int)).toNat ([Value.int .i64 b].set 0 (.int .i64 a)) = encI ((z.ys.set z.k b).set (n - 1 - z.k) a) := by
      rw [hj]
      show ((encI _).set z.k [.int .i64 b]).set (n - 1 - z.k) [.int .i64 a] = _
      rw [encI_set, encI_set]
    refine skp (h := ?_)
    refine q_seq (h := ?_)
    refine sq (h := ?_)
    refine bk (h := ?_)
    refine WC.some_ (A := A) atz_ (by omega) (fun hAs => ?_)
    refine rgD (by kernel_rfl) [(13, .own A c 3 1 n (encI z.ys))] (by repeat (first | exact HS.nil | (apply HS.keep; (repeat (first | exact At.here | apply At.there))) | (apply HS.ro; (repeat (first | exact Rds.ro | exact Rds.own | apply Rds.there))))) (h := ?_)
    refine tk 0 (hy := mv) (h := ?_)
    refine tk 1 (hy := mv) (h := ?_)
    refine tk 2 (hy := mv) (h := ?_)
    refine tk 3 (hy := mv) (h := ?_)
    refine tk 4 (hy := mv) (h := ?_)
    refine tk 5 (hy := mv) (h := ?_)
    refine tk 6 (hy := ix (A := A) (m := n)) (h := ?_)
    refine tk 7 (hy := ldE (A := A) (hk := hkb)) (h := ?_)
    refine tk 8 (hy := mv) (h := ?_)
    refine tk 9 (hy := mv) (h := ?_)
    refine tk 10 (hy := ixS (A := A) (m := n) (hs := hAs)) (h := ?_)
    refine tk 11 (hy := ldE (A := A) (hk := hka)) (h := ?_)
    refine tk 12 (hy := ixS (A := A) (m := n) (hs := hAs)) (h := ?_)
    refine one 13 (h := ?_)
    refine stE (A := A) (hk := hka) (h := ?_)
    refine nx (h := ?_)
    refine one 14 (h := ?_)
    refine wy (ix (A := A) (m := n)) ?_
    refine nx (h := ?_)
    refine one 15 (h := ?_)
    refine stE (A := A) (hk := hk2) (h := ?_)
    refine nx (h := ?_)
    refine dn (h := ?_)
    refine q_blk_norm (h := ?_)
    refine q_seq (h := ?_)
    refine rg (h := ?_)
    refine wy mv ?_
    refine wy addI ?_
    refine wy mv ?_
    refine wy subI ?_
    refine wy asg ?_
    refine wy asg ?_
    refine nl (h := ?_)
    rw [hsw]
    refine rn (x := z) ⟨z.k + 1, (z.ys.set z.k b).set (n - 1 - z.k) a⟩ ⟨by dsimp only; omega, hnx⟩ (by dsimp only; omega) (by repeat (first | exact trivial | refine ⟨rfl, ?_⟩ | refine ⟨by show some (Value.int .i64 ((n : Int) - 1 - (z.k : Int) - 1)) = some (Value.int .i64 ((n : Int) - 1 - ((z.k + 1 : Nat) : Int))); congr 2; omega, ?_⟩)) slz_
  · skip
    have hk1 : n ≤ 2 * z.k + 1 := by simp only [decide_eq_false_iff_not] at h0; omega
    have he := rev_end hzr (by omega)
    refine et (h := ?_)
    refine q_then_exit (h := ?_)
    refine q_then_exit (h := ?_)
    refine q_blk_hit (h := ?_)
    refine q_end (hR := ?_)
    exact fun w hS => ⟨(), trivial, rfl, by rw [he] at hS; exact hS.sub slz_⟩

theorem row_none {N : List Nd} {x : Nd} {r : List Int} (h : RowN N x r) (hb : x.bf = none) : r = [] := by
  cases h with
  | nil _ => rfl
  | snoc _ h2 _ => rw [hb] at h2; cases h2
theorem row_some {N : List Nd} {x : Nd} {r : List Int} {b : Nat} (h : RowN N x r) (hb : x.bf = some b) : ∃ y r', y ∈ N ∧ y.b = b ∧ RowN N y r' ∧ r = r' ++ [x.sd] := by
  cases h with
  | nil h2 => rw [hb] at h2; cases h2
  | snoc hy h2 hr => rw [hb] at h2; exact ⟨_, _, hy, (Option.some.inj h2).symm, hr, rfl⟩
structure RWS where
  (x : Nd) (A : Option Addr) (c : Nat) (r q : List Int)
theorem T_node_row (N : List Nd) (mn : Nat → Pr) (x : Nd) (hx : x ∈ N) (r : List Int) (hr : RowN N x r) (hn : r.length ≤ 1000) : Tr Tryz.prog 142 [bp x.b] [poolE 213 N mn none] (fun _ : Option Addr × Nat => True) (fun p => .slice p.1 r.length p.2) (fun p => [.own p.1 p.2 3 1 r.length (encI r), poolE 213 N mn none]) := by
  refine ⟨fun w0 w R hst => ?_⟩
  refine en Tryz.func142 Tryz.ntmps142 hst (h := fun F => ?_)
  refine sq (h := ?_)
  refine rg (h := ?_)
  refine wy asg ?_
  refine nl (h := ?_)
  refine q_seq (h := ?_)
  refine sq (h := ?_)
  refine rg (h := ?_)
  refine wy asg ?_
  refine WL.nilOwn 3 1 (h := ?_)
  refine nl (h := ?_)
  refine q_seq (h := ?_)
  refine sq (h := ?_)
  refine bk (h := ?_)
  refine lp (X := RWS) (I := fun z => z.x ∈ N ∧ RowN N z.x z.r ∧ r = z.r ++ z.q.reverse) (le := fun z => [(0, bp z.x.b), (3, .slice z.A z.q.length z.c)]) (Le := fun z => .own z.A z.c 3 1 z.q.length (encI z.q) :: poolE 213 N mn none :: R) (μ := fun z => z.r.length) ⟨x, none, 0, r, []⟩ ⟨hx, hr, by rw [List.reverse_nil, List.append_nil]⟩ sbz_ slz_ (fun z hz => ?_)
  obtain ⟨hzx, hzr, hzq⟩ := hz
  have hzl : z.q.length ≤ 1000 := by
    have := congrArg List.length hzq
    rw [List.length_append, List.length_reverse] at this; omega
  refine sq (h := ?_)
  refine sq (h := ?_)
  refine rg (h := ?_)
  refine wy mv ?_
  refine wy nck ?_
  refine wy (by first | exact fa | exact faE) ?_
  refine wy (ldQ (hy := hzx)) ?_
  refine wy (neqN (by kernel_rfl)) ?_
  refine nl (h := ?_)
  refine q_seq (h := ?_)
  refine cd (by exact rfl) (fun h0 => ?_) (fun h0 => ?_)
  · skip
    obtain ⟨b', hb'⟩ := Option.isSome_iff_exists.1 h0
    obtain ⟨y, r', hy, hyb, hyr, hre⟩ := row_some hzr hb'
    refine skp (h := ?_)
    refine q_seq (h := ?_)
    refine sq (h := ?_)
    refine bk (h := ?_)
    refine rg (h := ?_)
    refine wy mv ?_
    refine wy mv ?_
    refine wy nck ?_
    refine wy (by first | exact fa | exact faE) ?_
    refine wy (ldQ (hy := hzx)) ?_
    refine bs (h := fun b0 => ?_)
    refine ap (es := encI z.q) (m := z.q.length) (A := z.A) (c := z.c) (h := fun A1 c1 => ?_)
    refine wy asg ?_
    refine nl (h := ?_)
    refine q_blk_norm (h := ?_)
    refine q_seq (h := ?_)
    refine rg (h := ?_)
    refine wy mv ?_
    refine wy nck ?_
    refine wy (by first | exact fa | exact faE) ?_
    refine wy (ldQ (hy := hzx)) ?_
    refine wy asg ?_
    refine nl (h := ?_)
    refine rn (x := z) ⟨y, A1, c1, r', z.q ++ [z.x.sd]⟩ ⟨hy, hyr, by rw [hzq, hre, List.reverse_append]; simp⟩ (by dsimp only; rw [hre, List.length_append, List.length_singleton]; omega) (by rw [List.length_append]; repeat (first | exact trivial | refine ⟨rfl, ?_⟩ | refine ⟨by rw [hyb]; show some (bpO z.x.bf) = _; rw [hb']; rfl, ?_⟩)) (by rw [List.length_append, show encI (z.q ++ [z.x.sd]) = encI z.q ++ [[.int .i64 z.x.sd]] from List.map_append]; exact slz_)
  · skip
    have hbn : z.x.bf = none := by simpa using h0
    have hr0 := row_none hzr hbn
    have hq : z.q.reverse = r := by rw [hr0] at hzq; rw [hzq]; rfl
    have hql : z.q.length = r.length := by rw [← hq, List.length_reverse]
    refine et (h := ?_)
    refine q_then_exit (h := ?_)
    refine q_then_exit (h := ?_)
    refine q_blk_hit (h := ?_)
    refine q_seq (h := ?_)
    refine sq (h := ?_)
    refine rg (h := ?_)
    refine wy mv ?_
    refine clT (hc := T_Reverse z.q z.A z.q.length z.c rfl (by omega)) (h := fun _ _ => ?_)
    refine nl (h := ?_)
    refine q_seq (h := ?_)
    refine sq (h := ?_)
    refine rg (h := ?_)
    refine wy mv ?_
    refine wy asg ?_
    refine nl (h := ?_)
    refine q_seq (h := ?_)
    refine rtn (h := ?_)
    refine q_ret (hR := ?_)
    rw [hql, hq]
    exact fun w hS => ⟨(z.A, z.c), trivial, rfl, hS.sub slz_⟩
end Go.Proofs.YtpmmgljndceplaaGreat
