/- Walks of gate, nine: all rates. -/
import Derived.Test.YtbcclgfobiholaaG8
namespace Go.Proofs.Ytbcclgfobiholaa
open Go Go.RowKit

theorem chkQ_no {q : Qu} (h : (!decide (chkQ q = 0)) = true) : qOk q = false := by
  cases hb : qOk q
  · rfl
  · simp [chkQ, hb] at h
def enterE (q : Qu) (rate : Int) : Int := bif !qOk q then 110 else bif !win rate q.lo q.hi then 1 else 0
def enterL (q : Qu) (rate : Int) : List Int := bif decide (enterE q rate = 0) then runV q rate 0 else []
theorem enter_ok {q : Qu} {rate : Int} (h : qOk q = true) (hr : win rate q.lo q.hi = true) : enterE q rate = 0 := by unfold enterE; rw [h, hr]; rfl
theorem runV_len {q : Qu} (hq : q.Ok) {rate more : Int} (hm : 0 ≤ more ∧ more ≤ 100000) : (runV q rate more).length = q.gs.length := (run_ri hq hm 1441 (Nat.le_refl _)).ok.inn
theorem C_gate_Enter (q : Qu) (a : QA) (rate : Int) (hn : qOk q = true → q.gs.length ≤ 12) (w : World) (h : QRd w q a) :
    CR Try.prog 25 [q.val a, .int .i64 rate] w (fun _ : Option Addr × Nat => True) (fun p => .tuple #[.slice p.1 (enterL q rate).length p.2, .int .i64 (enterE q rate)]) (fun p => [.own p.1 p.2 3 1 (enterL q rate).length (enI (enterL q rate))]) := by
  obtain ⟨hg, hf, hgn, hfn⟩ := h
  refine ⟨en Try.func25 Try.ntmps25 (((St.init w).share (e := .ro a.gA 4 q.gs.length (encPt q.gs)) hg rfl rfl rfl).share (e := .ro a.fA 2 q.fs.length (encF q.fs)) hf rfl rfl rfl) (h := fun F => ?_)⟩
  refine sq (h := ?_)
  refine rg (h := ?_)
  refine bxA (h := fun b0 => ?_)
  refine WL.y (hy := asg) (h := ?_)
  refine WL.y (hy := asg) (h := ?_)
  refine nl (h := ?_)
  refine q_seq (h := ?_)
  refine sq (h := ?_)
  refine sq (h := ?_)
  refine rg (h := ?_)
  refine WL.y (hy := (by first | exact ldA | exact ldEA)) (h := ?_)
  refine cl0 (hc := fun w hS => C_gate_Check q a w ⟨hS.get, hS.get, hgn, hfn⟩) (h := ?_)
  refine WL.y (hy := asg) (h := ?_)
  refine nl (h := ?_)
  refine q_seq (h := ?_)
  refine sq (h := ?_)
  refine rg (h := ?_)
  refine WL.y (hy := mv) (h := ?_)
  refine WL.y (hy := neq) (h := ?_)
  refine nl (h := ?_)
  refine q_seq (h := ?_)
  refine cd (by exact rfl) (fun h0 => ?_) (fun h0 => ?_)
  · skip
    have hb : qOk q = false := chkQ_no h0
    have hE : enterE q rate = chkQ q := by rw [enterE, chkQ, hb]; rfl
    have hL : enterL q rate = [] := by rw [enterL, hE, chkQ, hb]; rfl
    refine sq (h := ?_)
    refine WC.nilOwn 3 1 (h := ?_)
    refine rg (h := ?_)
    refine WL.y (hy := mv) (h := ?_)
    refine WL.y (hy := asg) (h := ?_)
    refine WL.y (hy := asg) (h := ?_)
    refine nl (h := ?_)
    refine q_seq (h := ?_)
    refine rtn (h := ?_)
    refine q_then_ret (h := ?_)
    refine q_ret (hR := ?_)
    rw [hE, hL]
    exact fun w hS => ⟨(none, 0), trivial, rfl, hS.sub (by repeat (first | exact SubL.nil | (apply SubL.cons; (repeat (first | exact At.here | apply At.there))) | exact SubL.refl _ | apply SubL.skip))⟩
  · skip
    obtain ⟨hq, hqb⟩ := chkQ_ok h0
    have hqr := hq.r
    refine skp (h := ?_)
    refine q_seq (h := ?_)
    refine sq (h := ?_)
    refine sq (h := ?_)
    refine rg (h := ?_)
    refine WL.y (hy := mv) (h := ?_)
    refine WL.y (hy := (by first | exact fa | exact faE)) (h := ?_)
    refine WL.y (hy := (by first | exact fa | exact faE)) (h := ?_)
    refine WL.y (hy := (by first | exact ld | exact ldE)) (h := ?_)
    refine WL.y (hy := (by first | exact fa | exact faE)) (h := ?_)
    refine WL.y (hy := (by first | exact fa | exact faE)) (h := ?_)
    refine WL.y (hy := (by first | exact ld | exact ldE)) (h := ?_)
    refine cl0 (hc := fun w hS => C_gate_within ..) (h := ?_)
    refine WL.y (hy := notB) (h := ?_)
    refine nl (h := ?_)
    refine q_seq (h := ?_)
    refine cd (by exact rfl) (fun h1 => ?_) (fun h1 => ?_)
    · skip
      have hw : win rate q.lo q.hi = false := by simpa using h1
      have hE : enterE q rate = 1 := by rw [enterE, hqb, hw]; rfl
      have hL : enterL q rate = [] := by rw [enterL, hE]; rfl
      refine sq (h := ?_)
      refine WC.nilOwn 3 1 (h := ?_)
      refine rg (h := ?_)
      refine WL.y (hy := asg) (h := ?_)
      refine WL.y (hy := asg) (h := ?_)
      refine nl (h := ?_)
      refine q_seq (h := ?_)
      refine rtn (h := ?_)
      refine q_then_ret (h := ?_)
      refine q_ret (hR := ?_)
      rw [hE, hL]
      exact fun w hS => ⟨(none, 0), trivial, rfl, hS.sub (by repeat (first | exact SubL.nil | (apply SubL.cons; (repeat (first | exact At.here | apply At.there))) | exact SubL.refl _ | apply SubL.skip))⟩
    · skip
      have hw : win rate q.lo q.hi = true := by simpa using h1
      have hE : enterE q rate = 0 := enter_ok hqb hw
      have hL : enterL q rate = runV q rate 0 := by rw [enterL, hE]; rfl
      have hwr := win_iff.1 hw
      have hrl := runV_len hq (rate := rate) (more := 0) (by omega)
      refine skp (h := ?_)
      refine q_seq (h := ?_)
      refine sq (h := ?_)
      refine rg (h := ?_)
      refine WL.y (hy := (by first | exact ldA | exact ldEA)) (h := ?_)
      refine WL.y (hy := mv) (h := ?_)
      refine cl (hc := fun w hS => C_gate_run q a rate 0 hq (hn hqb) (by omega) (by omega) w ⟨hS.get, hS.get, hgn, hfn⟩) (h := fun x0 _ => ?_)
      refine WL.y (hy := asg) (h := ?_)
      refine WL.y (hy := asg) (h := ?_)
      refine nl (h := ?_)
      refine q_seq (h := ?_)
      refine rtn (h := ?_)
      refine q_ret (hR := ?_)
      rw [hE, hL, hrl]
      exact fun w hS => ⟨x0, trivial, rfl, hS.sub (by repeat (first | exact SubL.nil | (apply SubL.cons; (repeat (first | exact At.here | apply At.there))) | exact SubL.refl _ | apply SubL.skip))⟩

/-! #### all rates, one by one -/
def nR (q : Qu) : Nat := (q.hi - q.lo + 1).toNat
abbrev ratesL (q : Qu) (a : QA) (b bm : Nat) (more : Int) : List Ent := [.blk b 27 (q.cells a), .blk bm 3 [.int .i64 more], .ro a.gA 4 q.gs.length (encPt q.gs), .ro a.fA 2 q.fs.length (encF q.fs)]
structure YK (Y : Type) where
  (k : Nat) (y : Y)
set_option maxHeartbeats 1000000 in
theorem It_rates (q : Qu) (a : QA) (b bm : Nat) (more : Int) (hq : q.Ok) (hn : q.gs.length ≤ 12) (hm : 0 ≤ more ∧ more ≤ 100000) :
    It Try.prog 60 (fun y => [] ++ [y] ++ [.pointer (some ⟨b, 0, none⟩), .pointer (some ⟨bm, 0, none⟩)]) (ratesL q a b bm more) (nR q) (fun _ (_ : Option Addr × Nat) => True) (fun _ p => [.slice p.1 q.gs.length p.2]) (fun k p => [.own p.1 p.2 3 1 q.gs.length (enI (runV q (q.lo + k) more))]) := by
  refine ⟨fun {Y} ψ J ψx Jx w0 w lb y0 h0 hst hround => ?_⟩
  have hqr := hq.r
  have hgl := hq.g
  have hfl := hq.f
  have hN : (nR q : Int) = q.hi - q.lo + 1 := by unfold nR; omega
  refine enM (vs := [.func (.yield lb) #[] #[], .pointer (some ⟨b, 0, none⟩), .pointer (some ⟨bm, 0, none⟩)]) Try.func60 Try.ntmps60 hst (h := ?_)
  refine sq (h := ?_)
  refine rg (h := ?_)
  refine WL.y (hy := (by first | exact fa | exact faE)) (h := ?_)
  refine WL.y (hy := (by first | exact fa | exact faE)) (h := ?_)
  refine WL.y (hy := (by first | exact ld | exact ldE)) (h := ?_)
  refine WL.y (hy := asg) (h := ?_)
  refine nl (h := ?_)
  refine q_seq (h := ?_)
  refine bk (h := ?_)
  refine lp (X := YK Y) (I := fun z => z.k ≤ nR q ∧ ψ z.k z.y) (le := fun z => [(0, .func (.yield lb) #[] #[]), (1, .pointer (some ⟨b, 0, none⟩)), (2, .pointer (some ⟨bm, 0, none⟩)), (4, .int .i64 (q.lo + z.k))]) (Le := fun z => ratesL q a b bm more ++ J z.k z.y) (μ := fun z => nR q - z.k) ⟨0, y0⟩ ⟨Nat.zero_le _, h0⟩ (by repeat (first | exact trivial | refine ⟨rfl, ?_⟩ | refine ⟨by show some (Value.int .i64 q.lo) = some (Value.int .i64 (q.lo + ((0 : Nat) : Int))); congr 2; omega, ?_⟩)) (SubL.refl _) (fun z hz => ?_)
  obtain ⟨hk, hy⟩ := hz
  refine sq (h := ?_)
  refine sq (h := ?_)
  refine rg (h := ?_)
  refine WL.y (hy := mv) (h := ?_)
  refine WL.y (hy := (by first | exact fa | exact faE)) (h := ?_)
  refine WL.y (hy := (by first | exact fa | exact faE)) (h := ?_)
  refine WL.y (hy := (by first | exact ld | exact ldE)) (h := ?_)
  refine WL.y (hy := leq) (h := ?_)
  refine nl (h := ?_)
  refine q_seq (h := ?_)
  refine cd (by exact rfl) (fun h0 => ?_) (fun h0 => ?_)
  · skip
    have hkm : z.k < nR q := by simp only [decide_eq_true_eq] at h0; omega
    refine skp (h := ?_)
    refine q_seq (h := ?_)
    refine sq (h := ?_)
    refine bk (h := ?_)
    refine sq (h := ?_)
    refine rg (h := ?_)
    refine WL.y (hy := mv) (h := ?_)
    refine WL.y (hy := (by first | exact ldA | exact ldEA)) (h := ?_)
    refine WL.y (hy := mv) (h := ?_)
    refine WL.y (hy := (by first | exact ld | exact ldE)) (h := ?_)
    refine cl (hc := fun w hS => C_gate_run q a (q.lo + z.k) more hq hn (by omega) hm w ⟨hS.get, hS.get, by omega, by omega⟩) (h := fun x0 _ => ?_)
    refine yl (lb := lb) (Z := Bool × Y) (Φ := fun r => cond r.1 (ψ (z.k + 1) r.2) (ψx r.2)) (val := fun r => .bool r.1) (post := fun r => cond r.1 (ratesL q a b bm more ++ J (z.k + 1) r.2) (ratesL q a b bm more ++ Jx r.2)) (by exact rfl) (by repeat (first | exact Evs.nil | (apply Evs.cons; exact rfl))) rfl (fun w hS => ?_) (fun r hr => ?_)
    · have hround := hround z.k x0 z.y w hkm trivial hy
      obtain ⟨fn, tmps, asg, bo, hy, hR⟩ := hround hS
      refine ⟨fn, tmps, asg, bo, hy, hR.mono fun e w' he => ?_⟩
      rcases he with ⟨rfl, y, hy, hs⟩ | ⟨rfl, y, hy, hs⟩
      · exact ⟨(true, y), hy, rfl, hs⟩
      · exact ⟨(false, y), hy, rfl, hs⟩
    refine WL.y (hy := notB) (h := ?_)
    refine nl (h := ?_)
    refine q_seq (h := ?_)
    refine cd (by exact rfl) (fun h1 => ?_) (fun h1 => ?_)
    · skip
      obtain ⟨rb, ry⟩ := r
      obtain rfl : rb = false := by simpa using h1
      refine rtn (h := ?_)
      refine q_blk_ret (h := ?_)
      refine q_then_ret (h := ?_)
      refine q_then_ret (h := ?_)
      refine q_blk_ret (h := ?_)
      refine q_retM0 (hR := ?_)
      exact fun w hS => ⟨_, rfl, .inr ⟨ry, hr, hS⟩⟩
    · skip
      obtain ⟨rb, ry⟩ := r
      obtain rfl : rb = true := by simpa using h1
      refine skp (h := ?_)
      refine q_blk_norm (h := ?_)
      refine q_seq (h := ?_)
      refine rg (h := ?_)
      refine WL.y (hy := mv) (h := ?_)
      refine WL.y (hy := addI) (h := ?_)
      refine WL.y (hy := asg) (h := ?_)
      refine nl (h := ?_)
      refine rn (x := z) ⟨z.k + 1, ry⟩ ⟨by dsimp only; omega, hr⟩ (by dsimp only; omega) (by repeat (first | exact trivial | refine ⟨rfl, ?_⟩ | refine ⟨by show some (Value.int .i64 (q.lo + (z.k : Int) + 1)) = some (Value.int .i64 (q.lo + ((z.k + 1 : Nat) : Int))); congr 2; omega, ?_⟩)) (SubL.refl _)
  · skip
    have hkm : z.k = nR q := by simp only [decide_eq_false_iff_not] at h0; omega
    refine et (h := ?_)
    refine q_then_exit (h := ?_)
    refine q_then_exit (h := ?_)
    refine q_blk_hit (h := ?_)
    refine q_endM0 (hR := ?_)
    exact fun w hS => ⟨_, rfl, .inl ⟨z.y, by rw [hkm] at hy; exact hy, by rw [hkm] at hS; exact hS⟩⟩
theorem C_gate_rates (q : Qu) (a : QA) (more : Int) (w : World) : CR Try.prog 50 [q.val a, .int .i64 more] w (fun _ : Nat × Nat => True) (fun x => .func (.func 60) #[] #[.pointer (some ⟨x.1, 0, none⟩), .pointer (some ⟨x.2, 0, none⟩)]) (fun x => [.blk x.1 27 (q.cells a), .blk x.2 3 [.int .i64 more]]) := by
  refine ⟨en Try.func50 Try.ntmps50 (St.init w) (h := fun F => ?_)⟩
  refine sq (h := ?_)
  refine rg (h := ?_)
  refine bxA (h := fun b0 => ?_)
  refine bx (h := fun b1 => ?_)
  refine WL.y (hy := asg) (h := ?_)
  refine nl (h := ?_)
  refine q_seq (h := ?_)
  refine sq (h := ?_)
  refine rg (h := ?_)
  refine WL.y (hy := mkf) (h := ?_)
  refine WL.y (hy := asg) (h := ?_)
  refine nl (h := ?_)
  refine q_seq (h := ?_)
  refine rtn (h := ?_)
  refine q_ret (hR := ?_)
  exact fun w hS => ⟨(_, _), trivial, rfl, hS.sub (by repeat (first | exact SubL.nil | (apply SubL.cons; (repeat (first | exact At.here | apply At.there))) | exact SubL.refl _ | apply SubL.skip))⟩

/-! #### sure -/
def inI (q : Qu) (more : Int) (k : Nat) (i : Int) : Int := (runV q (q.lo + k) more).getD i.toNat 0
def sureTo (q : Qu) (i more : Int) : Nat → Option (Int × Int)
  | 0 => some (1440, -1)
  | k + 1 => match sureTo q i more k with
    | none => none
    | some z => bif decide (inI q more k i < 0) then none else some (min z.1 (inI q more k i), max z.2 (inI q more k i))
def sureV (q : Qu) (i more : Int) : Option (Int × Int) := sureTo q i more (nR q)
theorem sureTo_none {q : Qu} {i more : Int} {j : Nat} (h : sureTo q i more j = none) : ∀ {k : Nat}, j ≤ k → sureTo q i more k = none
  | 0, hk => by obtain rfl : j = 0 := by omega
                exact h
  | k + 1, hk => by
    by_cases e : j = k + 1
    · subst e; exact h
    · rw [sureTo, sureTo_none h (k := k) (by omega)]
set_option maxHeartbeats 1000000 in
theorem C_gate_sure (q : Qu) (a : QA) (i more : Int) (hq : q.Ok) (hn : q.gs.length ≤ 12) (hi : 0 ≤ i ∧ i < q.gs.length) (hm : 0 ≤ more ∧ more ≤ 100000) (w : World) (h : QRd w q a) :
    CR Try.prog 37 [q.val a, .int .i64 i, .int .i64 more] w (fun x : Int × Int => ∀ s, sureV q i more = some s → x = s) (fun x => .tuple #[.agg #[.int .i64 x.1, .int .i64 x.2], .bool (sureV q i more).isSome]) (fun _ => []) := by
  obtain ⟨hg, hf, hgn, hfn⟩ := h
  refine ⟨enM Try.func37 Try.ntmps37 (((St.init w).share (e := .ro a.gA 4 q.gs.length (encPt q.gs)) hg rfl rfl rfl).share (e := .ro a.fA 2 q.fs.length (encF q.fs)) hf rfl rfl rfl) (h := ?_)⟩
  refine sq (h := ?_)
  refine rg (h := ?_)
  refine bxA (h := fun b0 => ?_)
  refine bx (h := fun b1 => ?_)
  refine al (h := fun b2 => ?_)
  refine al (h := fun b3 => ?_)
  refine nl (h := ?_)
  refine q_seq (h := ?_)
  refine sq (h := ?_)
  refine rg (h := ?_)
  refine WL.y (hy := bd) (h := ?_)
  first | refine stA (h := ?_) | refine stEA (h := ?_)
  refine nl (h := ?_)
  refine q_seq (h := ?_)
  refine sq (h := ?_)
  refine sq (h := ?_)
  refine rg (h := ?_)
  refine WL.y (hy := (by first | exact ldA | exact ldEA)) (h := ?_)
  refine WL.y (hy := mv) (h := ?_)
  refine cl (hc := fun w hS => C_gate_rates q a more w) (h := fun x0 _ => ?_)
  refine nl (h := ?_)
  refine q_seq (h := ?_)
  refine bk (h := ?_)
  refine rf (f := 60) inferInstance (fun k (z : Int × Int) => sureTo q i more k = some z) (fun k z => [.blk b2 23 [.int .i64 z.1, .int .i64 z.2], .blk b3 4 [.bool false], .blk b1 3 [.int .i64 i]]) (fun _ => sureV q i more = none) (fun _ => .ret) (fun z => [.blk b2 23 [.int .i64 z.1, .int .i64 z.2], .blk b3 4 [.bool false]]) (1440, -1) (It_rates q a x0.1 x0.2 more hq hn hm) (by exact rfl) (fun _ _ => rfl) (by rfl) rfl (by repeat (first | exact SubL.nil | (apply SubL.cons; (repeat (first | exact At.here | apply At.there))) | exact SubL.refl _ | apply SubL.skip)) (fun fn tmps lb rb k p z hk hφ hz => ?_) (fun rb z hz => ?_) (fun rb z hz => ?_)
  · skip
    have hrl := runV_len hq (rate := q.lo + k) hm
    obtain ⟨x, hx⟩ : ∃ x, (runV q (q.lo + k) more)[i.toNat]? = some x := ⟨_, List.getElem?_eq_getElem (by omega)⟩
    have hxe := enI_at hx
    have hxi : inI q more k i = x := by rw [inI, List.getD_eq_getElem?_getD, hx]; rfl
    refine rg (h := ?_)
    refine WL.y (hy := asg) (h := ?_)
    refine nl (h := ?_)
    refine bgn (h := ?_)
    refine bk (h := ?_)
    refine sq (h := ?_)
    refine sq (h := ?_)
    refine rg (h := ?_)
    refine WL.y (hy := mv) (h := ?_)
    refine WL.y (hy := (by first | exact ld | exact ldE)) (h := ?_)
    refine WL.y (hy := ix (A := p.1) (m := q.gs.length)) (h := ?_)
    refine WL.y (hy := ldE (A := p.1) (hk := hxe)) (h := ?_)
    refine WL.y (hy := lss) (h := ?_)
    refine nl (h := ?_)
    refine q_seq (h := ?_)
    refine cd (by exact rfl) (fun h0 => ?_) (fun h0 => ?_)
    · skip
      have hnone : sureV q i more = none := sureTo_none (j := k + 1) (by rw [sureTo, hz]; simp only; rw [hxi, h0]; rfl) (by omega)
      refine sq (h := ?_)
      refine rg (h := ?_)
      refine WL.y (hy := (by first | exact ldA | exact ldEA)) (h := ?_)
      first | refine stA (h := ?_) | refine stEA (h := ?_)
      first | refine st (h := ?_) | refine stE (h := ?_)
      refine nl (h := ?_)
      refine q_seq (h := ?_)
      refine rtn (h := ?_)
      refine q_then_ret (h := ?_)
      refine q_blk_ret (h := ?_)
      refine rdRet (y := z) hnone (hs := (by repeat (first | exact SubL.nil | (apply SubL.cons; (repeat (first | exact At.here | apply At.there))) | exact SubL.refl _ | apply SubL.skip)))
    · skip
      have hnext : sureTo q i more (k + 1) = some (min z.1 x, max z.2 x) := by rw [sureTo, hz]; simp only; rw [hxi, h0]; rfl
      refine skp (h := ?_)
      refine q_seq (h := ?_)
      refine rgD (by kernel_rfl) [(15, .blk b2 23 [.int .i64 z.1, .int .i64 z.2]), (1000000, .blk b1 3 [.int .i64 i]), (1000000, .own p.1 p.2 3 1 q.gs.length (enI (runV q (q.lo + k) more)))] (by repeat (first | exact HS.nil | (apply HS.keep; (repeat (first | exact At.here | apply At.there))) | (apply HS.ro; (repeat (first | exact Rds.ro | exact Rds.own | apply Rds.there))))) (h := ?_)
      refine tk 0 (hy := (by first | exact fa | exact faE)) (h := ?_)
      refine tk 1 (hy := (by first | exact ld | exact ldE)) (h := ?_)
      refine tk 2 (hy := mv) (h := ?_)
      refine tk 3 (hy := (by first | exact ld | exact ldE)) (h := ?_)
      refine tk 4 (hy := ix (A := p.1) (m := q.gs.length)) (h := ?_)
      refine tk 5 (hy := ldE (A := p.1) (hk := hxe)) (h := ?_)
      refine tk 6 (hy := minI) (h := ?_)
      refine tk 7 (hy := (by first | exact fa | exact faE)) (h := ?_)
      refine tk 8 (hy := (by first | exact ld | exact ldE)) (h := ?_)
      refine tk 9 (hy := mv) (h := ?_)
      refine tk 10 (hy := (by first | exact ld | exact ldE)) (h := ?_)
      refine tk 11 (hy := ix (A := p.1) (m := q.gs.length)) (h := ?_)
      refine tk 12 (hy := ldE (A := p.1) (hk := hxe)) (h := ?_)
      refine tk 13 (hy := maxI) (h := ?_)
      refine tk 14 (hy := bd) (h := ?_)
      refine one 15 (h := ?_)
      first | refine stA (h := ?_) | refine stEA (h := ?_)
      refine nx (h := ?_)
      refine dn (h := ?_)
      refine q_blk_norm (h := ?_)
      refine rdN (y := (min z.1 x, max z.2 x)) hnext (hs := (by repeat (first | exact SubL.nil | (apply SubL.cons; (repeat (first | exact At.here | apply At.there))) | exact SubL.refl _ | apply SubL.skip)))
  · skip
    have hV : sureV q i more = some z := hz
    refine q_blk_norm (h := ?_)
    refine q_seq (h := ?_)
    refine sq (h := ?_)
    refine rg (h := ?_)
    refine WL.y (hy := (by first | exact ldA | exact ldEA)) (h := ?_)
    first | refine stA (h := ?_) | refine stEA (h := ?_)
    first | refine st (h := ?_) | refine stE (h := ?_)
    refine nl (h := ?_)
    refine q_seq (h := ?_)
    refine rtn (h := ?_)
    refine q_retM (hR := ?_)
    rw [hV]
    exact fun w hS => ⟨z, (fun s hs => by first | (cases hs; done) | (injection hs)), rfl, hS.sub (by repeat (first | exact SubL.nil | (apply SubL.cons; (repeat (first | exact At.here | apply At.there))) | exact SubL.refl _ | apply SubL.skip))⟩
  · skip
    have hV : sureV q i more = none := hz
    refine rtn (h := ?_)
    refine q_blk_ret (h := ?_)
    refine q_then_ret (h := ?_)
    refine q_retM (hR := ?_)
    rw [hV]
    exact fun w hS => ⟨z, (fun s hs => by first | (cases hs; done) | (injection hs)), rfl, hS.sub (by repeat (first | exact SubL.nil | (apply SubL.cons; (repeat (first | exact At.here | apply At.there))) | exact SubL.refl _ | apply SubL.skip))⟩

/-! #### the place of a group -/
def idxF (p : Nat → Bool) : Nat → Int
  | 0 => -1
  | n + 1 => bif decide (0 ≤ idxF p n) then idxF p n else bif p n then (n : Int) else -1
theorem idxF_spec (p : Nat → Bool) : ∀ n, Fst p n (idxF p n)
  | 0 => .inr ⟨rfl, fun i hi => by omega⟩
  | n + 1 => by
    rcases idxF_spec p n with ⟨k, hk, he, hp, hb⟩ | ⟨he, hb⟩
    · left
      refine ⟨k, by omega, ?_, hp, hb⟩
      rw [idxF, he, decide_eq_true (by omega)]; rfl
    · cases hp : p n
      · right
        refine ⟨by rw [idxF, he, hp]; rfl, fun i hi => ?_⟩
        rcases Nat.lt_succ_iff_lt_or_eq.1 hi with h | rfl
        · exact hb i h
        · exact hp
      · left
        exact ⟨n, by omega, by rw [idxF, he, hp]; rfl, hp, hb⟩
theorem Fst.uniq {p : Nat → Bool} {n : Nat} {j j' : Int} (h : Fst p n j) (h' : Fst p n j') : j = j' := by
  rcases h with ⟨k, hk, rfl, hp, hb⟩ | ⟨rfl, hb⟩
  · rcases h' with ⟨k', hk', rfl, hp', hb'⟩ | ⟨rfl, hb'⟩
    · rcases Nat.lt_trichotomy k k' with h | h | h
      · rw [hb' k h] at hp; cases hp
      · rw [h]
      · rw [hb k' h] at hp'; cases hp'
    · rw [hb' k hk] at hp; cases hp
  · rcases h' with ⟨k', hk', rfl, hp', hb'⟩ | ⟨rfl, hb'⟩
    · rw [hb k' hk'] at hp'; cases hp'
    · rfl
def grpI (gs : List Pt) (id : Int) : Int := idxF (pAt gs fun g => decide (g.id = id)) gs.length
theorem grp_rng (gs : List Pt) (id : Int) : -1 ≤ grpI gs id ∧ grpI gs id < gs.length := by
  rcases idxF_spec (pAt gs fun g => decide (g.id = id)) gs.length with ⟨k, hk, he, _⟩ | ⟨he, _⟩
  · unfold grpI; omega
  · unfold grpI; omega
def grpE (q : Qu) (id : Int) : Int := bif !qOk q then 110 else bif decide (grpI q.gs id < 0) then 1 else 0
def grpN (q : Qu) (id : Int) : Int := bif decide (grpE q id = 0) then grpI q.gs id else 0
theorem T_group1 (id : Int) (b : Nat) (g : Pt) : Tr Try.prog 52 [g.val, .pointer (some ⟨b, 0, none⟩)] [.blk b 3 [.int .i64 id]] (fun _ : Unit => True) (fun _ => .bool (decide (g.id = id))) (fun _ => [.blk b 3 [.int .i64 id]]) := by
  refine ⟨fun w0 w R hst => ?_⟩
  refine en Try.func52 Try.ntmps52 hst (h := fun F => ?_)
  refine sq (h := ?_)
  refine rg (h := ?_)
  refine bxA (h := fun b0 => ?_)
  refine WL.y (hy := asg) (h := ?_)
  refine nl (h := ?_)
  refine q_seq (h := ?_)
  refine sq (h := ?_)
  refine rg (h := ?_)
  refine WL.y (hy := (by first | exact fa | exact faE)) (h := ?_)
  refine WL.y (hy := (by first | exact ld | exact ldE)) (h := ?_)
  refine WL.y (hy := (by first | exact ld | exact ldE)) (h := ?_)
  refine WL.y (hy := eql) (h := ?_)
  refine WL.y (hy := asg) (h := ?_)
  refine nl (h := ?_)
  refine q_seq (h := ?_)
  refine rtn (h := ?_)
  refine q_ret (hR := ?_)
  exact fun w hS => ⟨(), trivial, rfl, hS.sub (by repeat (first | exact SubL.nil | (apply SubL.cons; (repeat (first | exact At.here | apply At.there))) | exact SubL.refl _ | apply SubL.skip))⟩
theorem C_IndexParty {A : Option Addr} {n c : Nat} {es : List (List Value)} {g : FuncId} (hg : FnOk Try.prog g) (fi cap : List Value) (Lp : List Ent) (p : Nat → Bool) (hn : n ≤ 9223372036854775807)
    (hp : ∀ k cs, es[k]? = some cs → Tr Try.prog g (fi ++ [.agg cs.toArray] ++ cap) (.ro A 4 n es :: Lp) (fun _ : Unit => True) (fun _ => .bool (p k)) (fun _ => .ro A 4 n es :: Lp)) :
    Tr Try.prog 51 [.slice A n c, .func (.func g) fi.toArray cap.toArray] (.ro A 4 n es :: Lp) (Fst p n) (fun j => .int .i64 j) (fun _ => .ro A 4 n es :: Lp) := by
  refine ⟨fun w0 w R hst => ?_⟩
  have hlen : es.length = n := (hst.ok (.ro A 4 n es) (by simp)).len
  refine en Try.func51 Try.ntmps51 hst (h := fun F => ?_)
  refine sq (h := ?_)
  refine rg (h := ?_)
  refine WL.y (hy := asg) (h := ?_)
  refine nl (h := ?_)
  refine q_seq (h := ?_)
  refine sq (h := ?_)
  refine sq (h := ?_)
  refine rg (h := ?_)
  refine WL.y (hy := mv) (h := ?_)
  refine WL.y (hy := lenS) (h := ?_)
  refine WL.y (hy := mv) (h := ?_)
  refine nl (h := ?_)
  refine q_seq (h := ?_)
  refine bk (h := ?_)
  refine lp (X := Nat) (I := fun k => k ≤ n ∧ ∀ i, i < k → p i = false) (le := fun k => [(0, .slice A n c), (1, .func (.func g) fi.toArray cap.toArray), (7, .int .i64 n), (8, .int .i64 k)]) (Le := fun _ => .ro A 4 n es :: (Lp ++ R)) (μ := fun k => n - k) 0 ⟨by omega, fun i hi => by omega⟩ (by repeat (first | exact trivial | refine ⟨rfl, ?_⟩)) (SubL.refl _) (fun k hk => ?_)
  obtain ⟨hk, hall⟩ := hk
  refine sq (h := ?_)
  refine rg (h := ?_)
  refine WL.y (hy := lss) (h := ?_)
  refine nl (h := ?_)
  refine q_seq (h := ?_)
  refine sq (h := ?_)
  refine cd (by exact rfl) (fun h0 => ?_) (fun h0 => ?_)
  · skip
    have hkn : k < n := by simp only [decide_eq_true_eq] at h0; omega
    have hes : es[k]? = some es[k] := List.getElem?_eq_getElem (by omega)
    refine skp (h := ?_)
    refine q_seq (h := ?_)
    refine sq (h := ?_)
    refine bk (h := ?_)
    refine sq (h := ?_)
    refine rg (h := ?_)
    refine WL.y (hy := mv) (h := ?_)
    refine WL.y (hy := asg) (h := ?_)
    refine nl (h := ?_)
    refine q_seq (h := ?_)
    refine sq (h := ?_)
    refine rg (h := ?_)
    refine WL.y (hy := mv) (h := ?_)
    refine WL.y (hy := mv) (h := ?_)
    refine WL.y (hy := mv) (h := ?_)
    refine WL.y (hy := ix) (h := ?_)
    refine WL.y (hy := ldEW (k := k) (cs := es[k]) (hk := hes)) (h := ?_)
    refine clfT hg (fi := fi) (cap := cap) (by exact rfl) (by repeat (first | exact Evs.nil | (apply Evs.cons; exact rfl))) (hp k _ hes) rfl (Spl.cons .here (Spl.app _ _)) (h := fun _ _ => ?_)
    refine nl (h := ?_)
    refine q_seq (h := ?_)
    refine cd (by exact rfl) (fun h1 => ?_) (fun h1 => ?_)
    · skip
      refine sq (h := ?_)
      refine rg (h := ?_)
      refine WL.y (hy := mv) (h := ?_)
      refine WL.y (hy := asg) (h := ?_)
      refine nl (h := ?_)
      refine q_seq (h := ?_)
      refine rtn (h := ?_)
      refine q_blk_ret (h := ?_)
      refine q_then_ret (h := ?_)
      refine q_then_ret (h := ?_)
      refine q_blk_ret (h := ?_)
      refine q_then_ret (h := ?_)
      refine q_ret (hR := ?_)
      exact fun w hS => ⟨_, .inl ⟨k, hkn, rfl, by assumption, hall⟩, rfl, hS⟩
    · skip
      refine skp (h := ?_)
      refine q_blk_norm (h := ?_)
      refine q_seq (h := ?_)
      refine rg (h := ?_)
      refine WL.y (hy := addI) (h := ?_)
      refine WL.y (hy := mv) (h := ?_)
      refine nl (h := ?_)
      refine rn (k + 1) ⟨by omega, fun i hi => ?_⟩ (by omega) (by repeat (first | exact trivial | refine ⟨rfl, ?_⟩)) (SubL.refl _)
      rcases Nat.lt_succ_iff_lt_or_eq.1 hi with h | rfl
      · exact hall i h
      · assumption
  · skip
    have hkn : k = n := by simp only [decide_eq_false_iff_not] at h0; omega
    refine et (h := ?_)
    refine q_then_exit (h := ?_)
    refine q_then_exit (h := ?_)
    refine q_blk_hit (h := ?_)
    refine q_seq (h := ?_)
    refine sq (h := ?_)
    refine rg (h := ?_)
    refine WL.y (hy := asg) (h := ?_)
    refine nl (h := ?_)
    refine q_seq (h := ?_)
    refine rtn (h := ?_)
    refine q_ret (hR := ?_)
    exact fun w hS => ⟨_, .inr ⟨rfl, by subst hkn; exact hall⟩, rfl, hS⟩
theorem C_gate_group (q : Qu) (a : QA) (id : Int) (w : World) (h : QRd w q a) : C0 Try.prog 36 [q.val a, .int .i64 id] w (.tuple #[.int .i64 (grpN q id), .int .i64 (grpE q id)]) := by
  obtain ⟨hg, hf, hgn, hfn⟩ := h
  refine ⟨en Try.func36 Try.ntmps36 (((St.init w).share (e := .ro a.gA 4 q.gs.length (encPt q.gs)) hg rfl rfl rfl).share (e := .ro a.fA 2 q.fs.length (encF q.fs)) hf rfl rfl rfl) (h := fun F => ?_)⟩
  refine sq (h := ?_)
  refine rg (h := ?_)
  refine bxA (h := fun b0 => ?_)
  refine bx (h := fun b1 => ?_)
  refine WL.y (hy := asg) (h := ?_)
  refine WL.y (hy := asg) (h := ?_)
  refine nl (h := ?_)
  refine q_seq (h := ?_)
  refine sq (h := ?_)
  refine sq (h := ?_)
  refine rg (h := ?_)
  refine WL.y (hy := (by first | exact ldA | exact ldEA)) (h := ?_)
  refine cl0 (hc := fun w hS => C_gate_Check q a w ⟨hS.get, hS.get, hgn, hfn⟩) (h := ?_)
  refine WL.y (hy := asg) (h := ?_)
  refine nl (h := ?_)
  refine q_seq (h := ?_)
  refine sq (h := ?_)
  refine rg (h := ?_)
  refine WL.y (hy := mv) (h := ?_)
  refine WL.y (hy := neq) (h := ?_)
  refine nl (h := ?_)
  refine q_seq (h := ?_)
  refine cd (by exact rfl) (fun h0 => ?_) (fun h0 => ?_)
  · skip
    have hb : qOk q = false := chkQ_no h0
    have hE : grpE q id = chkQ q := by rw [grpE, chkQ, hb]; rfl
    have hL : grpN q id = 0 := by rw [grpN, hE, chkQ, hb]; rfl
    refine sq (h := ?_)
    refine rg (h := ?_)
    refine WL.y (hy := mv) (h := ?_)
    refine WL.y (hy := asg) (h := ?_)
    refine WL.y (hy := asg) (h := ?_)
    refine nl (h := ?_)
    refine q_seq (h := ?_)
    refine rtn (h := ?_)
    refine q_then_ret (h := ?_)
    refine q_ret (hR := ?_)
    rw [hE, hL]
    exact fun w hS => ⟨rfl, hS.sub (by repeat (first | exact SubL.nil | (apply SubL.cons; (repeat (first | exact At.here | apply At.there))) | exact SubL.refl _ | apply SubL.skip))⟩
  · skip
    obtain ⟨hq, hqb⟩ := chkQ_ok h0
    refine skp (h := ?_)
    refine q_seq (h := ?_)
    refine sq (h := ?_)
    refine rg (h := ?_)
    refine WL.y (hy := (by first | exact fa | exact faE)) (h := ?_)
    refine WL.y (hy := (by first | exact ld | exact ldE)) (h := ?_)
    refine WL.y (hy := mkf) (h := ?_)
    refine clT (hc := C_IndexParty (A := a.gA) (c := a.gc) (es := encPt q.gs) (g := 52) inferInstance [] [.pointer (some ⟨b1, 0, none⟩)] [.blk b1 3 [.int .i64 id]] (pAt q.gs fun g => decide (g.id = id)) hgn (fun k cs hk => by
      obtain ⟨g, hgk, rfl⟩ := enc_at hk
      rw [pAt_eq hgk]
      exact Tr.frame1 (T_group1 id b1 g))) (hs := (by repeat (first | exact Spl.nil | (apply Spl.cons; (repeat (first | exact At.here | apply At.there)))))) (h := fun x0 hx0 => ?_)
    obtain rfl : x0 = grpI q.gs id := hx0.uniq (idxF_spec _ _)
    refine WL.y (hy := asg) (h := ?_)
    refine nl (h := ?_)
    refine q_seq (h := ?_)
    refine sq (h := ?_)
    refine sq (h := ?_)
    refine rg (h := ?_)
    refine WL.y (hy := mv) (h := ?_)
    refine WL.y (hy := lss) (h := ?_)
    refine nl (h := ?_)
    refine q_seq (h := ?_)
    refine cd (by exact rfl) (fun h1 => ?_) (fun h1 => ?_)
    · skip
      have hE : grpE q id = 1 := by rw [grpE, hqb, h1]; rfl
      have hL : grpN q id = 0 := by rw [grpN, hE]; rfl
      refine sq (h := ?_)
      refine rg (h := ?_)
      refine WL.y (hy := asg) (h := ?_)
      refine WL.y (hy := asg) (h := ?_)
      refine nl (h := ?_)
      refine q_seq (h := ?_)
      refine rtn (h := ?_)
      refine q_then_ret (h := ?_)
      refine q_ret (hR := ?_)
      rw [hE, hL]
      exact fun w hS => ⟨rfl, hS.sub (by repeat (first | exact SubL.nil | (apply SubL.cons; (repeat (first | exact At.here | apply At.there))) | exact SubL.refl _ | apply SubL.skip))⟩
    · skip
      have hE : grpE q id = 0 := by rw [grpE, hqb, h1]; rfl
      have hL : grpN q id = grpI q.gs id := by rw [grpN, hE]; rfl
      refine skp (h := ?_)
      refine q_seq (h := ?_)
      refine sq (h := ?_)
      refine rg (h := ?_)
      refine WL.y (hy := mv) (h := ?_)
      refine WL.y (hy := asg) (h := ?_)
      refine WL.y (hy := asg) (h := ?_)
      refine nl (h := ?_)
      refine q_seq (h := ?_)
      refine rtn (h := ?_)
      refine q_ret (hR := ?_)
      rw [hE, hL]
      exact fun w hS => ⟨rfl, hS.sub (by repeat (first | exact SubL.nil | (apply SubL.cons; (repeat (first | exact At.here | apply At.there))) | exact SubL.refl _ | apply SubL.skip))⟩
end Go.Proofs.Ytbcclgfobiholaa
