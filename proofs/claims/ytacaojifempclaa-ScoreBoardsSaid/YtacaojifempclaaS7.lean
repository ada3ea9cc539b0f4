/- Walks of score: boards, sets, orders. -/
import Derived.Test.YtacaojifempclaaS6
import Derived.Test.YtacaojifempclaaWO
namespace Go.Proofs.Ytacaojifempclaa
open Go Go.RowKit

theorem C_IndexFuncP {A : Option Addr} {n c : Nat} {es : List (List Value)} {g : FuncId} (hg : FnOk Try.prog g) (fi cap : List Value) (Lp : List Ent) (p : Nat → Bool) (hn : n ≤ 9223372036854775807)
    (hp : ∀ k cs, es[k]? = some cs → Tr Try.prog g (fi ++ [.agg cs.toArray] ++ cap) (.ro A 2 n es :: Lp) (fun _ : Unit => True) (fun _ => .bool (p k)) (fun _ => .ro A 2 n es :: Lp)) :
    Tr Try.prog 106 [.slice A n c, .func (.func g) fi.toArray cap.toArray] (.ro A 2 n es :: Lp) (Fst p n) (fun j => .int .i64 j) (fun _ => .ro A 2 n es :: Lp) := by
  refine ⟨fun w0 w R hst => ?_⟩
  have hlen : es.length = n := (hst.ok (.ro A 2 n es) (by simp)).len
  refine en Try.func106 Try.ntmps106 hst (h := fun F => ?_)
  refine sq (h := ?_)
  refine rg (h := ?_)
  refine WL.y (hy := asg) (h := ?_)
  refine nl (h := ?_)
  refine q_seq (h := ?_)
  refine sq (h := ?_)
  refine sq (h := ?_)
  refine rg (h := ?_)
  refine WL.y (hy := mv) (h := ?_)
  refine WL.y (hy := lenS) (h := ?_)
  refine WL.y (hy := mv) (h := ?_)
  refine nl (h := ?_)
  refine q_seq (h := ?_)
  refine bk (h := ?_)
  refine lp (X := Nat) (I := fun k => k ≤ n ∧ ∀ i, i < k → p i = false) (le := fun k => [(0, .slice A n c), (1, .func (.func g) fi.toArray cap.toArray), (7, .int .i64 n), (8, .int .i64 k)]) (Le := fun _ => .ro A 2 n es :: (Lp ++ R)) (μ := fun k => n - k) 0 ⟨by omega, fun i hi => by omega⟩ (by repeat (first | exact trivial | refine ⟨rfl, ?_⟩)) (SubL.refl _) (fun k hk => ?_)
  obtain ⟨hk, hall⟩ := hk
  refine sq (h := ?_)
  refine rg (h := ?_)
  refine WL.y (hy := lss) (h := ?_)
  refine nl (h := ?_)
  refine q_seq (h := ?_)
  refine sq (h := ?_)
  refine cd (by exact rfl) (fun h0 => ?_) (fun h0 => ?_)
  · skip
    have hkn : k < n := by simp only [decide_eq_true_eq] at h0; omega
    have hes : es[k]? = some es[k] := List.getElem?_eq_getElem (by omega)
    refine skp (h := ?_)
    refine q_seq (h := ?_)
    refine sq (h := ?_)
    refine bk (h := ?_)
    refine sq (h := ?_)
    refine rg (h := ?_)
    refine WL.y (hy := mv) (h := ?_)
    refine WL.y (hy := asg) (h := ?_)
    refine nl (h := ?_)
    refine q_seq (h := ?_)
    refine sq (h := ?_)
    refine rg (h := ?_)
    refine WL.y (hy := mv) (h := ?_)
    refine WL.y (hy := mv) (h := ?_)
    refine WL.y (hy := mv) (h := ?_)
    refine WL.y (hy := ix) (h := ?_)
    refine WL.y (hy := ldEW (k := k) (cs := es[k]) (hk := hes)) (h := ?_)
    refine clfT hg (fi := fi) (cap := cap) (by exact rfl) (by repeat (first | exact Evs.nil | (apply Evs.cons; exact rfl))) (hp k _ hes) rfl (Spl.cons .here (Spl.app _ _)) (h := fun _ _ => ?_)
    refine nl (h := ?_)
    refine q_seq (h := ?_)
    refine cd (by exact rfl) (fun h1 => ?_) (fun h1 => ?_)
    · skip
      refine sq (h := ?_)
      refine rg (h := ?_)
      refine WL.y (hy := mv) (h := ?_)
      refine WL.y (hy := asg) (h := ?_)
      refine nl (h := ?_)
      refine q_seq (h := ?_)
      refine rtn (h := ?_)
      refine q_blk_ret (h := ?_)
      refine q_then_ret (h := ?_)
      refine q_then_ret (h := ?_)
      refine q_blk_ret (h := ?_)
      refine q_then_ret (h := ?_)
      refine q_ret (hR := ?_)
      exact fun w hS => ⟨_, .inl ⟨k, hkn, rfl, by assumption, hall⟩, rfl, hS⟩
    · skip
      refine skp (h := ?_)
      refine q_blk_norm (h := ?_)
      refine q_seq (h := ?_)
      refine rg (h := ?_)
      refine WL.y (hy := addI) (h := ?_)
      refine WL.y (hy := mv) (h := ?_)
      refine nl (h := ?_)
      refine rn (k + 1) ⟨by omega, fun i hi => ?_⟩ (by omega) (by repeat (first | exact trivial | refine ⟨rfl, ?_⟩)) (SubL.refl _)
      rcases Nat.lt_succ_iff_lt_or_eq.1 hi with h | rfl
      · exact hall i h
      · assumption
  · skip
    have hkn : k = n := by simp only [decide_eq_false_iff_not] at h0; omega
    refine et (h := ?_)
    refine q_then_exit (h := ?_)
    refine q_then_exit (h := ?_)
    refine q_blk_hit (h := ?_)
    refine q_seq (h := ?_)
    refine sq (h := ?_)
    refine rg (h := ?_)
    refine WL.y (hy := asg) (h := ?_)
    refine nl (h := ?_)
    refine q_seq (h := ?_)
    refine rtn (h := ?_)
    refine q_ret (hR := ?_)
    exact fun w hS => ⟨_, .inr ⟨rfl, by subst hkn; exact hall⟩, rfl, hS⟩

theorem C_ContainsFuncP {A : Option Addr} {n c : Nat} {es : List (List Value)} {g : FuncId} (hg : FnOk Try.prog g) (fi cap : List Value) (Lp : List Ent) (p : Nat → Bool) (hn : n ≤ 9223372036854775807)
    (hp : ∀ k cs, es[k]? = some cs → Tr Try.prog g (fi ++ [.agg cs.toArray] ++ cap) (.ro A 2 n es :: Lp) (fun _ : Unit => True) (fun _ => .bool (p k)) (fun _ => .ro A 2 n es :: Lp)) :
    Tr Try.prog 80 [.slice A n c, .func (.func g) fi.toArray cap.toArray] (.ro A 2 n es :: Lp) (fun _ : Unit => True) (fun _ => .bool ((List.range n).any p)) (fun _ => .ro A 2 n es :: Lp) := by
  refine ⟨fun w0 w R hst => ?_⟩
  refine en Try.func80 Try.ntmps80 hst (h := fun F => ?_)
  refine sq (h := ?_)
  refine rg (h := ?_)
  refine WL.y (hy := asg) (h := ?_)
  refine nl (h := ?_)
  refine q_seq (h := ?_)
  refine sq (h := ?_)
  refine rg (h := ?_)
  refine WL.y (hy := mv) (h := ?_)
  refine WL.y (hy := mv) (h := ?_)
  refine clT (hc := C_IndexFuncP hg fi cap Lp p hn hp) (hs := Spl.cons .here (Spl.app _ _)) (h := fun x0 hx0 => ?_)
  refine WL.y (hy := geq) (h := ?_)
  refine WL.y (hy := asg) (h := ?_)
  refine nl (h := ?_)
  refine q_seq (h := ?_)
  refine rtn (h := ?_)
  refine q_ret (hR := ?_)
  exact fun w hS => ⟨(), trivial, by simp only [resV, hx0.any], hS⟩

theorem C_ClonePairs (A : Option Addr) (n c : Nat) (es : List (List Value)) (w : World) (h : Rd w A 2 n es) (hn : n ≤ 100000000) :
    CR Try.prog 107 [.slice A n c] w (fun _ : Option Addr × Nat => True) (fun p => .slice p.1 n p.2) (fun p => [.own p.1 p.2 26 2 n es]) := by
  refine ⟨en Try.func107 Try.ntmps107 ((St.init w).share (e := .ro A 2 n es) h rfl rfl rfl) (h := fun F => ?_)⟩
  refine sq (h := ?_)
  refine rg (h := ?_)
  refine WL.y (hy := asg) (h := ?_)
  refine WL.nilOwn 26 2 (h := ?_)
  refine nl (h := ?_)
  refine q_seq (h := ?_)
  refine sq (h := ?_)
  refine sq (h := ?_)
  refine rg (h := ?_)
  refine WL.y (hy := mv) (h := ?_)
  refine WL.y (hy := eqlN) (h := ?_)
  refine nl (h := ?_)
  refine q_seq (h := ?_)
  refine cd (by exact rfl) (fun h0 => ?_) (fun h0 => ?_)
  · skip
    refine sq (h := ?_)
    refine rg (h := ?_)
    refine WL.y (hy := asg) (h := ?_)
    refine nl (h := ?_)
    refine q_seq (h := ?_)
    refine rtn (h := ?_)
    refine q_then_ret (h := ?_)
    refine q_ret (hR := ?_)
    have hn0 : n = 0 := by
      rcases Nat.eq_zero_or_pos n with e | e
      · exact e
      · obtain ⟨ad, rfl⟩ := h.some_ e
        cases h0
    have hes : es = [] := by have := h.len; rw [hn0] at this; exact List.length_eq_zero_iff.1 this
    exact fun w hS => ⟨(none, 0), trivial, by rw [hn0]; rfl, by rw [hn0, hes]; exact hS.sub (by repeat (first | exact SubL.nil | (apply SubL.cons; (repeat (first | exact At.here | apply At.there))) | exact SubL.refl _ | apply SubL.skip))⟩
  · skip
    refine skp (h := ?_)
    refine q_seq (h := ?_)
    refine sq (h := ?_)
    refine rg (h := ?_)
    refine bs (h := fun b0 => ?_)
    refine WL.y (hy := mv) (h := ?_)
    first | refine ap (h := fun A1 c1 => ?_) | refine ap0 (h := fun A1 c1 => ?_)
    refine WL.y (hy := asg) (h := ?_)
    refine nl (h := ?_)
    refine q_seq (h := ?_)
    refine rtn (h := ?_)
    refine q_ret (hR := ?_)
    exact fun w hS => ⟨(_, _), trivial, by simp only [Nat.zero_add]; rfl, by simp only [Nat.zero_add, List.nil_append] at hS; exact hS.sub (by repeat (first | exact SubL.nil | (apply SubL.cons; (repeat (first | exact At.here | apply At.there))) | exact SubL.refl _ | apply SubL.skip))⟩

/-! #### boards -/
structure Brd where
  (st : List Pr) (g p : Pr)
abbrev Brd.val (b : Brd) (A : Option Addr) (n c : Nat) : Value := .agg #[.slice A n c, .int .i64 b.g.1, .int .i64 b.g.2, .int .i64 b.p.1, .int .i64 b.p.2]
abbrev Brd.cells (b : Brd) (A : Option Addr) (n c : Nat) : List Value := [.slice A n c, .int .i64 b.g.1, .int .i64 b.g.2, .int .i64 b.p.1, .int .i64 b.p.2]
def Brd.all (b : Brd) : List Pr := b.st ++ [b.g, b.p]
def fitP (p : Pr) : Bool := wi p.1 0 40 && wi p.2 0 40
def brdOk (b : Brd) : Bool := decide ((b.st.length : Int) ≤ 5) && !(b.all.any fun p => !fitP p)

theorem C_isBoard1 (p : Pr) (w : World) : C0 Try.prog 79 [pv p] w (.bool (fitP p)) := by
  refine ⟨en Try.func79 Try.ntmps79 (St.init w) (h := fun F => ?_)⟩
  refine sq (h := ?_)
  refine rg (h := ?_)
  refine bxA (h := fun b0 => ?_)
  refine WL.y (hy := asg) (h := ?_)
  refine nl (h := ?_)
  refine q_seq (h := ?_)
  refine sq (h := ?_)
  refine rg (h := ?_)
  refine WL.y (hy := (by first | exact fa | exact faE)) (h := ?_)
  refine WL.y (hy := (by first | exact ld | exact ldE)) (h := ?_)
  refine cl0 (hc := fun w hS => C_score_within ..) (h := ?_)
  refine WL.y (hy := mv) (h := ?_)
  apply brAnd 4 6 10 (by exact rfl)
  · intro hb0
    refine un (h := ?_)
    refine WL.y (hy := (by first | exact fa | exact faE)) (h := ?_)
    refine un (h := ?_)
    refine WL.y (hy := (by first | exact ld | exact ldE)) (h := ?_)
    refine un (h := ?_)
    refine cl0 (hc := fun w hS => C_score_within ..) (h := ?_)
    refine WL.y (hy := (by first | exact pkT | exact pkF)) (h := ?_)
    exact mg (by repeat (first | exact trivial | refine ⟨rfl, ?_⟩ | refine ⟨by rw [hb0]; rfl, ?_⟩)) (by repeat (first | exact SubL.nil | (apply SubL.cons; (repeat (first | exact At.here | apply At.there))) | exact SubL.refl _ | apply SubL.skip))
  · intro hb0
    repeat (first | refine un (h := ?_) | refine sk (h := ?_) | refine WL.y (hy := pkF) (h := ?_) | refine WL.y (hy := pkT) (h := ?_))
    exact mg (by repeat (first | exact trivial | refine ⟨rfl, ?_⟩ | refine ⟨by rw [hb0]; rfl, ?_⟩)) (by repeat (first | exact SubL.nil | (apply SubL.cons; (repeat (first | exact At.here | apply At.there))) | exact SubL.refl _ | apply SubL.skip))
  refine WL.y (hy := asg) (h := ?_)
  refine nl (h := ?_)
  refine q_seq (h := ?_)
  refine rtn (h := ?_)
  refine q_ret (hR := ?_)
  exact fun w hS => ⟨rfl, hS.sub (by repeat (first | exact SubL.nil | (apply SubL.cons; (repeat (first | exact At.here | apply At.there))) | exact SubL.refl _ | apply SubL.skip))⟩
theorem T_isBoard2 (p : Pr) (a0 : Nat) (Le : Ent) : Tr Try.prog 82 [pv p, .pointer (some ⟨a0, 0, none⟩)] [Le, .blk a0 82 [.func (.func 79) #[] #[]]] (fun _ : Unit => True) (fun _ => .bool (!fitP p)) (fun _ => [Le, .blk a0 82 [.func (.func 79) #[] #[]]]) := by
  refine ⟨fun w0 w R hst => ?_⟩
  refine en Try.func82 Try.ntmps82 hst (h := fun F => ?_)
  refine sq (h := ?_)
  refine rg (h := ?_)
  refine bxA (h := fun b0 => ?_)
  refine WL.y (hy := asg) (h := ?_)
  refine nl (h := ?_)
  refine q_seq (h := ?_)
  refine sq (h := ?_)
  refine rg (h := ?_)
  refine WL.y (hy := (by first | exact ld | exact ldE)) (h := ?_)
  refine WL.y (hy := (by first | exact ldA | exact ldEA)) (h := ?_)
  refine clfT inferInstance (fi := []) (cap := []) (by exact rfl) (by repeat (first | exact Evs.nil | (apply Evs.cons; exact rfl))) (C0.tr [] (C_isBoard1 p)) rfl Spl.nil (h := fun _ _ => ?_)
  refine WL.y (hy := notB) (h := ?_)
  refine WL.y (hy := asg) (h := ?_)
  refine nl (h := ?_)
  refine q_seq (h := ?_)
  refine rtn (h := ?_)
  refine q_ret (hR := ?_)
  exact fun w hS => ⟨(), trivial, rfl, hS.sub (by repeat (first | exact SubL.nil | (apply SubL.cons; (repeat (first | exact At.here | apply At.there))) | exact SubL.refl _ | apply SubL.skip))⟩

theorem C_score_pairs (b : Brd) (A : Option Addr) (n c : Nat) (w : World) (h : Rd w A 2 n (encP b.st)) (hn : n ≤ 1000000) :
    CR Try.prog 81 [b.val A n c] w (fun _ : Option Addr × Nat => True) (fun p => .slice p.1 (n + 2) p.2) (fun p => [.own p.1 p.2 26 2 (n + 2) (encP b.all)]) := by
  have he : encP b.all = encP b.st ++ [[.int .i64 b.g.1, .int .i64 b.g.2], [.int .i64 b.p.1, .int .i64 b.p.2]] := by simp [encP, Brd.all]
  refine ⟨en Try.func81 Try.ntmps81 ((St.init w).share (e := .ro A 2 n (encP b.st)) h rfl rfl rfl) (h := fun F => ?_)⟩
  refine sq (h := ?_)
  refine rg (h := ?_)
  refine bxA (h := fun b0 => ?_)
  refine WL.y (hy := asg) (h := ?_)
  refine nl (h := ?_)
  refine q_seq (h := ?_)
  refine sq (h := ?_)
  refine rgD0 (by kernel_rfl) (h := ?_)
  refine tk 0 (hy := (by first | exact fa | exact faE)) (h := ?_)
  refine tk 1 (hy := (by first | exact ld | exact ldE)) (h := ?_)
  refine tk 3 (hy := (by first | exact fa | exact faE)) (h := ?_)
  refine tk 4 (hy := (by first | exact ldA | exact ldEA)) (h := ?_)
  refine tk 5 (hy := (by first | exact fa | exact faE)) (h := ?_)
  refine tk 6 (hy := (by first | exact ldA | exact ldEA)) (h := ?_)
  refine two 2 7 (h1 := ?_) (h2 := ?_)
  · skip
    refine cl (hc := fun w hS => C_ClonePairs A n c (encP b.st) w (hS.get (by repeat (first | exact Rds.ro | exact Rds.own | apply Rds.there))) (by omega)) (h := fun x0 _ => ?_)
    refine nx (h := ?_)
    refine one 7 (h := ?_)
    refine bs (h := fun b1 => ?_)
    refine nx (h := ?_)
    refine one 8 (h := ?_)
    first | refine ap (h := fun A1 c1 => ?_) | refine ap0 (h := fun A1 c1 => ?_)
    refine nx (h := ?_)
    refine tk 9 (hy := asg) (h := ?_)
    refine dn (h := ?_)
    refine q_seq (h := ?_)
    refine rtn (h := ?_)
    refine q_ret (hR := ?_)
    rw [he]
    exact fun w hS => ⟨(_, _), trivial, rfl, hS.sub (by repeat (first | exact SubL.nil | (apply SubL.cons; (repeat (first | exact At.here | apply At.there))) | exact SubL.refl _ | apply SubL.skip))⟩
  · skip
    refine bs (h := fun b2 => ?_)
    refine nx (h := ?_)
    refine one 2 (h := ?_)
    refine cl (hc := fun w hS => C_ClonePairs A n c (encP b.st) w (hS.get (by repeat (first | exact Rds.ro | exact Rds.own | apply Rds.there))) (by omega)) (h := fun x0 _ => ?_)
    refine nx (h := ?_)
    refine one 8 (h := ?_)
    first | refine ap (h := fun A2 c2 => ?_) | refine ap0 (h := fun A2 c2 => ?_)
    refine nx (h := ?_)
    refine tk 9 (hy := asg) (h := ?_)
    refine dn (h := ?_)
    refine q_seq (h := ?_)
    refine rtn (h := ?_)
    refine q_ret (hR := ?_)
    rw [he]
    exact fun w hS => ⟨(_, _), trivial, rfl, hS.sub (by repeat (first | exact SubL.nil | (apply SubL.cons; (repeat (first | exact At.here | apply At.there))) | exact SubL.refl _ | apply SubL.skip))⟩

set_option maxRecDepth 100000 in
theorem C_isBoard (b : Brd) (A : Option Addr) (n c : Nat) (w : World) (h : Rd w A 2 n (encP b.st)) (hn : n ≤ 9223372036854775807) : C0 Try.prog 39 [b.val A n c] w (.bool (brdOk b)) := by
  have hlen : b.st.length = n := by have := h.len; simpa [encP] using this
  have hal : b.all.length = n + 2 := by simp [Brd.all, hlen]
  refine ⟨en Try.func39 Try.ntmps39 ((St.init w).share (e := .ro A 2 n (encP b.st)) h rfl rfl rfl) (h := fun F => ?_)⟩
  refine sq (h := ?_)
  refine rg (h := ?_)
  refine bxA (h := fun b0 => ?_)
  refine WL.y (hy := asg) (h := ?_)
  refine nl (h := ?_)
  refine q_seq (h := ?_)
  refine sq (h := ?_)
  refine rg (h := ?_)
  refine al (h := fun b1 => ?_)
  first | refine st (h := ?_) | refine stE (h := ?_)
  refine nl (h := ?_)
  refine q_seq (h := ?_)
  refine sq (h := ?_)
  refine rg (h := ?_)
  refine WL.y (hy := (by first | exact fa | exact faE)) (h := ?_)
  refine WL.y (hy := (by first | exact ld | exact ldE)) (h := ?_)
  refine WL.y (hy := lenS) (h := ?_)
  refine WL.y (hy := leq) (h := ?_)
  refine WL.y (hy := mv) (h := ?_)
  apply brAnd 6 8 14 (by exact rfl)
  · intro hb0
    have hn5 : n ≤ 5 := by simp only [decide_eq_true_eq] at hb0; omega
    refine un (h := ?_)
    refine WL.y (hy := (by first | exact ldA | exact ldEA)) (h := ?_)
    refine un (h := ?_)
    refine cl (hc := fun w hS => C_score_pairs b A n c w (hS.get (by repeat (first | exact Rds.ro | exact Rds.own | apply Rds.there))) (by omega)) (h := fun x0 _ => ?_)
    refine un (h := ?_)
    refine WL.y (hy := mkf) (h := ?_)
    refine un (h := ?_)
    refine WL.toRo (A := x0.1) (by repeat (first | exact At.here | apply At.there)) (h := ?_)
    refine clT (hc := C_ContainsFuncP (A := x0.1) (n := n + 2) (c := x0.2) (es := encP b.all) (g := 82) inferInstance [] [.pointer (some ⟨b1, 0, none⟩)] [.blk b1 82 [.func (.func 79) #[] #[]]] (pAt b.all fun p => !fitP p) (by omega) (fun k cs hk => by
      obtain ⟨p, hp, rfl⟩ := enc_at hk
      rw [pAt_eq hp]
      exact T_isBoard2 p b1 _)) (hs := by repeat (first | exact Spl.nil | (apply Spl.cons; (repeat (first | exact At.here | apply At.there))))) (h := fun _ _ => ?_)
    rw [← hal, pAt_any]
    refine un (h := ?_)
    refine WL.y (hy := notB) (h := ?_)
    refine WL.y (hy := (by first | exact pkT | exact pkF)) (h := ?_)
    exact mg (by repeat (first | exact trivial | refine ⟨rfl, ?_⟩ | refine ⟨by rw [hb0]; rfl, ?_⟩)) (by repeat (first | exact SubL.nil | (apply SubL.cons; (repeat (first | exact At.here | apply At.there))) | exact SubL.refl _ | apply SubL.skip))
  · intro hb0
    repeat (first | refine un (h := ?_) | refine sk (h := ?_) | refine WL.y (hy := pkF) (h := ?_) | refine WL.y (hy := pkT) (h := ?_))
    exact mg (by repeat (first | exact trivial | refine ⟨rfl, ?_⟩ | refine ⟨by rw [hb0]; rfl, ?_⟩)) (by repeat (first | exact SubL.nil | (apply SubL.cons; (repeat (first | exact At.here | apply At.there))) | exact SubL.refl _ | apply SubL.skip))
  refine WL.y (hy := asg) (h := ?_)
  refine nl (h := ?_)
  refine q_seq (h := ?_)
  refine rtn (h := ?_)
  refine q_ret (hR := ?_)
  exact fun w hS => ⟨by rw [brdOk, hlen]; rfl, hS.sub (by repeat (first | exact SubL.nil | (apply SubL.cons; (repeat (first | exact At.here | apply At.there))) | exact SubL.refl _ | apply SubL.skip))⟩
end Go.Proofs.Ytacaojifempclaa
