/- The texts of the walk, part 3. -/
import Derived.Test.YtngelilffleimaaJ2
namespace Go.Proofs.Ytngelilffleimaa
open Go Go.RowKit

theorem chkQ_no {q : Qu} (h : (!decide (chkQ q = 0)) = true) : qOk q = false := by
  cases hb : qOk q
  · rfl
  · simp [chkQ, hb] at h
def enterE (q : Qu) (rate : Int) : Int := bif !qOk q then 110 else bif !win rate q.lo q.hi then 1 else 0
def enterL (q : Qu) (rate : Int) : List Int := bif decide (enterE q rate = 0) then runV q rate 0 else []
theorem enter_ok {q : Qu} {rate : Int} (h : qOk q = true) (hr : win rate q.lo q.hi = true) : enterE q rate = 0 := by unfold enterE; rw [h, hr]; rfl
theorem runV_len {q : Qu} (hq : q.Ok) {rate more : Int} (hm : 0 ≤ more ∧ more ≤ 100000) : (runV q rate more).length = q.gs.length := (run_ri hq hm 1441 (Nat.le_refl _)).ok.inn
theorem C_gate_Enter (q : Qu) (a : QA) (rate : Int) (hn : qOk q = true → q.gs.length ≤ 12) (w : World) (h : QRd w q a) :
    CR Try.prog 15 [q.val a, .int .i64 rate] w (fun _ : Option Addr × Nat => True) (fun p => .tuple #[.slice p.1 (enterL q rate).length p.2, .int .i64 (enterE q rate)]) (fun p => [.own p.1 p.2 3 1 (enterL q rate).length (enI (enterL q rate))]) := by
  obtain ⟨hg, hf, hgn, hfn⟩ := h
  refine ⟨en Try.func15 Try.ntmps15 (((St.init w).share (e := .ro a.gA 4 q.gs.length (encPt q.gs)) hg rfl rfl rfl).share (e := .ro a.fA 2 q.fs.length (encF q.fs)) hf rfl rfl rfl) (h := fun F => ?_)⟩
  refine sq (h := ?_)
  refine rg (h := ?_)
  refine bxA (h := fun b0 => ?_)
  refine WL.y (hy := asg) (h := ?_)
  refine WL.y (hy := asg) (h := ?_)
  refine nl (h := ?_)
  refine q_seq (h := ?_)
  refine sq (h := ?_)
  refine sq (h := ?_)
  refine rg (h := ?_)
  refine WL.y (hy := (by first | exact ldA | exact ldEA)) (h := ?_)
  refine cl0 (hc := fun w hS => C_gate_Check q a w ⟨hS.get, hS.get, hgn, hfn⟩) (h := ?_)
  refine WL.y (hy := asg) (h := ?_)
  refine nl (h := ?_)
  refine q_seq (h := ?_)
  refine sq (h := ?_)
  refine rg (h := ?_)
  refine WL.y (hy := mv) (h := ?_)
  refine WL.y (hy := neq) (h := ?_)
  refine nl (h := ?_)
  refine q_seq (h := ?_)
  refine cd (by exact rfl) (fun h0 => ?_) (fun h0 => ?_)
  · skip
    have hb : qOk q = false := chkQ_no h0
    have hE : enterE q rate = chkQ q := by rw [enterE, chkQ, hb]; rfl
    have hL : enterL q rate = [] := by rw [enterL, hE, chkQ, hb]; rfl
    refine sq (h := ?_)
    refine WC.nilOwn 3 1 (h := ?_)
    refine rg (h := ?_)
    refine WL.y (hy := mv) (h := ?_)
    refine WL.y (hy := asg) (h := ?_)
    refine WL.y (hy := asg) (h := ?_)
    refine nl (h := ?_)
    refine q_seq (h := ?_)
    refine rtn (h := ?_)
    refine q_then_ret (h := ?_)
    refine q_ret (hR := ?_)
    rw [hE, hL]
    exact fun w hS => ⟨(none, 0), trivial, rfl, hS.sub (by repeat (first | exact SubL.nil | (apply SubL.cons; (repeat (first | exact At.here | apply At.there))) | exact SubL.refl _ | apply SubL.skip))⟩
  · skip
    obtain ⟨hq, hqb⟩ := chkQ_ok h0
    have hqr := hq.r
    refine skp (h := ?_)
    refine q_seq (h := ?_)
    refine sq (h := ?_)
    refine sq (h := ?_)
    refine rg (h := ?_)
    refine WL.y (hy := mv) (h := ?_)
    refine WL.y (hy := (by first | exact fa | exact faE)) (h := ?_)
    refine WL.y (hy := (by first | exact fa | exact faE)) (h := ?_)
    refine WL.y (hy := (by first | exact ld | exact ldE)) (h := ?_)
    refine WL.y (hy := (by first | exact fa | exact faE)) (h := ?_)
    refine WL.y (hy := (by first | exact fa | exact faE)) (h := ?_)
    refine WL.y (hy := (by first | exact ld | exact ldE)) (h := ?_)
    refine cl0 (hc := fun w hS => C_gate_within ..) (h := ?_)
    refine WL.y (hy := notB) (h := ?_)
    refine nl (h := ?_)
    refine q_seq (h := ?_)
    refine cd (by exact rfl) (fun h1 => ?_) (fun h1 => ?_)
    · skip
      have hw : win rate q.lo q.hi = false := by simpa using h1
      have hE : enterE q rate = 1 := by rw [enterE, hqb, hw]; rfl
      have hL : enterL q rate = [] := by rw [enterL, hE]; rfl
      refine sq (h := ?_)
      refine WC.nilOwn 3 1 (h := ?_)
      refine rg (h := ?_)
      refine WL.y (hy := asg) (h := ?_)
      refine WL.y (hy := asg) (h := ?_)
      refine nl (h := ?_)
      refine q_seq (h := ?_)
      refine rtn (h := ?_)
      refine q_then_ret (h := ?_)
      refine q_ret (hR := ?_)
      rw [hE, hL]
      exact fun w hS => ⟨(none, 0), trivial, rfl, hS.sub (by repeat (first | exact SubL.nil | (apply SubL.cons; (repeat (first | exact At.here | apply At.there))) | exact SubL.refl _ | apply SubL.skip))⟩
    · skip
      have hw : win rate q.lo q.hi = true := by simpa using h1
      have hE : enterE q rate = 0 := enter_ok hqb hw
      have hL : enterL q rate = runV q rate 0 := by rw [enterL, hE]; rfl
      have hwr := win_iff.1 hw
      have hrl := runV_len hq (rate := rate) (more := 0) (by omega)
      refine skp (h := ?_)
      refine q_seq (h := ?_)
      refine sq (h := ?_)
      refine rg (h := ?_)
      refine WL.y (hy := (by first | exact ldA | exact ldEA)) (h := ?_)
      refine WL.y (hy := mv) (h := ?_)
      refine cl (hc := fun w hS => C_gate_run q a rate 0 hq (hn hqb) (by omega) (by omega) w ⟨hS.get, hS.get, hgn, hfn⟩) (h := fun x0 _ => ?_)
      refine WL.y (hy := asg) (h := ?_)
      refine WL.y (hy := asg) (h := ?_)
      refine nl (h := ?_)
      refine q_seq (h := ?_)
      refine rtn (h := ?_)
      refine q_ret (hR := ?_)
      rw [hE, hL, hrl]
      exact fun w hS => ⟨x0, trivial, rfl, hS.sub (by repeat (first | exact SubL.nil | (apply SubL.cons; (repeat (first | exact At.here | apply At.there))) | exact SubL.refl _ | apply SubL.skip))⟩

def nR (q : Qu) : Nat := (q.hi - q.lo + 1).toNat
abbrev ratesL (q : Qu) (a : QA) (b bm : Nat) (more : Int) : List Ent := [.blk b 53 (q.cells a), .blk bm 3 [.int .i64 more], .ro a.gA 4 q.gs.length (encPt q.gs), .ro a.fA 2 q.fs.length (encF q.fs)]
structure YK (Y : Type) where
  (k : Nat) (y : Y)
set_option maxHeartbeats 1000000 in
theorem It_rates (q : Qu) (a : QA) (b bm : Nat) (more : Int) (hq : q.Ok) (hn : q.gs.length ≤ 12) (hm : 0 ≤ more ∧ more ≤ 100000) :
    It Try.prog 76 (fun y => [] ++ [y] ++ [.pointer (some ⟨b, 0, none⟩), .pointer (some ⟨bm, 0, none⟩)]) (ratesL q a b bm more) (nR q) (fun _ (_ : Option Addr × Nat) => True) (fun _ p => [.slice p.1 q.gs.length p.2]) (fun k p => [.own p.1 p.2 3 1 q.gs.length (enI (runV q (q.lo + k) more))]) := by
  refine ⟨fun {Y} ψ J ψx Jx w0 w lb y0 h0 hst hround => ?_⟩
  have hqr := hq.r
  have hgl := hq.g
  have hfl := hq.f
  have hN : (nR q : Int) = q.hi - q.lo + 1 := by unfold nR; omega
  refine enM (vs := [.func (.yield lb) #[] #[], .pointer (some ⟨b, 0, none⟩), .pointer (some ⟨bm, 0, none⟩)]) Try.func76 Try.ntmps76 hst (h := ?_)
  refine sq (h := ?_)
  refine rg (h := ?_)
  refine WL.y (hy := (by first | exact fa | exact faE)) (h := ?_)
  refine WL.y (hy := (by first | exact fa | exact faE)) (h := ?_)
  refine WL.y (hy := (by first | exact ld | exact ldE)) (h := ?_)
  refine WL.y (hy := asg) (h := ?_)
  refine nl (h := ?_)
  refine q_seq (h := ?_)
  refine bk (h := ?_)
  refine lp (X := YK Y) (I := fun z => z.k ≤ nR q ∧ ψ z.k z.y) (le := fun z => [(0, .func (.yield lb) #[] #[]), (1, .pointer (some ⟨b, 0, none⟩)), (2, .pointer (some ⟨bm, 0, none⟩)), (4, .int .i64 (q.lo + z.k))]) (Le := fun z => ratesL q a b bm more ++ J z.k z.y) (μ := fun z => nR q - z.k) ⟨0, y0⟩ ⟨Nat.zero_le _, h0⟩ (by repeat (first | exact trivial | refine ⟨rfl, ?_⟩ | refine ⟨by show some (Value.int .i64 q.lo) = some (Value.int .i64 (q.lo + ((0 : Nat) : Int))); congr 2; omega, ?_⟩)) (SubL.refl _) (fun z hz => ?_)
  obtain ⟨hk, hy⟩ := hz
  refine sq (h := ?_)
  refine sq (h := ?_)
  refine rg (h := ?_)
  refine WL.y (hy := mv) (h := ?_)
  refine WL.y (hy := (by first | exact fa | exact faE)) (h := ?_)
  refine WL.y (hy := (by first | exact fa | exact faE)) (h := ?_)
  refine WL.y (hy := (by first | exact ld | exact ldE)) (h := ?_)
  refine WL.y (hy := leq) (h := ?_)
  refine nl (h := ?_)
  refine q_seq (h := ?_)
  refine cd (by exact rfl) (fun h0 => ?_) (fun h0 => ?_)
  · skip
    have hkm : z.k < nR q := by simp only [decide_eq_true_eq] at h0; omega
    refine skp (h := ?_)
    refine q_seq (h := ?_)
    refine sq (h := ?_)
    refine bk (h := ?_)
    refine sq (h := ?_)
    refine rg (h := ?_)
    refine WL.y (hy := mv) (h := ?_)
    refine WL.y (hy := (by first | exact ldA | exact ldEA)) (h := ?_)
    refine WL.y (hy := mv) (h := ?_)
    refine WL.y (hy := (by first | exact ld | exact ldE)) (h := ?_)
    refine cl (hc := fun w hS => C_gate_run q a (q.lo + z.k) more hq hn (by omega) hm w ⟨hS.get, hS.get, by omega, by omega⟩) (h := fun x0 _ => ?_)
    refine yl (lb := lb) (Z := Bool × Y) (Φ := fun r => cond r.1 (ψ (z.k + 1) r.2) (ψx r.2)) (val := fun r => .bool r.1) (post := fun r => cond r.1 (ratesL q a b bm more ++ J (z.k + 1) r.2) (ratesL q a b bm more ++ Jx r.2)) (by exact rfl) (by repeat (first | exact Evs.nil | (apply Evs.cons; exact rfl))) rfl (fun w hS => ?_) (fun r hr => ?_)
    · have hround := hround z.k x0 z.y w hkm trivial hy
      obtain ⟨fn, tmps, asg, bo, hy, hR⟩ := hround hS
      refine ⟨fn, tmps, asg, bo, hy, hR.mono fun e w' he => ?_⟩
      rcases he with ⟨rfl, y, hy, hs⟩ | ⟨rfl, y, hy, hs⟩
      · exact ⟨(true, y), hy, rfl, hs⟩
      · exact ⟨(false, y), hy, rfl, hs⟩
    refine WL.y (hy := notB) (h := ?_)
    refine nl (h := ?_)
    refine q_seq (h := ?_)
    refine cd (by exact rfl) (fun h1 => ?_) (fun h1 => ?_)
    · skip
      obtain ⟨rb, ry⟩ := r
      obtain rfl : rb = false := by simpa using h1
      refine rtn (h := ?_)
      refine q_blk_ret (h := ?_)
      refine q_then_ret (h := ?_)
      refine q_then_ret (h := ?_)
      refine q_blk_ret (h := ?_)
      refine q_retM0 (hR := ?_)
      exact fun w hS => ⟨_, rfl, .inr ⟨ry, hr, hS⟩⟩
    · skip
      obtain ⟨rb, ry⟩ := r
      obtain rfl : rb = true := by simpa using h1
      refine skp (h := ?_)
      refine q_blk_norm (h := ?_)
      refine q_seq (h := ?_)
      refine rg (h := ?_)
      refine WL.y (hy := mv) (h := ?_)
      refine WL.y (hy := addI) (h := ?_)
      refine WL.y (hy := asg) (h := ?_)
      refine nl (h := ?_)
      refine rn (x := z) ⟨z.k + 1, ry⟩ ⟨by dsimp only; omega, hr⟩ (by dsimp only; omega) (by repeat (first | exact trivial | refine ⟨rfl, ?_⟩ | refine ⟨by show some (Value.int .i64 (q.lo + (z.k : Int) + 1)) = some (Value.int .i64 (q.lo + ((z.k + 1 : Nat) : Int))); congr 2; omega, ?_⟩)) (SubL.refl _)
  · skip
    have hkm : z.k = nR q := by simp only [decide_eq_false_iff_not] at h0; omega
    refine et (h := ?_)
    refine q_then_exit (h := ?_)
    refine q_then_exit (h := ?_)
    refine q_blk_hit (h := ?_)
    refine q_endM0 (hR := ?_)
    exact fun w hS => ⟨_, rfl, .inl ⟨z.y, by rw [hkm] at hy; exact hy, by rw [hkm] at hS; exact hS⟩⟩
theorem C_gate_rates (q : Qu) (a : QA) (more : Int) (w : World) : CR Try.prog 64 [q.val a, .int .i64 more] w (fun _ : Nat × Nat => True) (fun x => .func (.func 76) #[] #[.pointer (some ⟨x.1, 0, none⟩), .pointer (some ⟨x.2, 0, none⟩)]) (fun x => [.blk x.1 53 (q.cells a), .blk x.2 3 [.int .i64 more]]) := by
  refine ⟨en Try.func64 Try.ntmps64 (St.init w) (h := fun F => ?_)⟩
  refine sq (h := ?_)
  refine rg (h := ?_)
  refine bxA (h := fun b0 => ?_)
  refine bx (h := fun b1 => ?_)
  refine WL.y (hy := asg) (h := ?_)
  refine nl (h := ?_)
  refine q_seq (h := ?_)
  refine sq (h := ?_)
  refine rg (h := ?_)
  refine WL.y (hy := mkf) (h := ?_)
  refine WL.y (hy := asg) (h := ?_)
  refine nl (h := ?_)
  refine q_seq (h := ?_)
  refine rtn (h := ?_)
  refine q_ret (hR := ?_)
  exact fun w hS => ⟨(_, _), trivial, rfl, hS.sub (by repeat (first | exact SubL.nil | (apply SubL.cons; (repeat (first | exact At.here | apply At.there))) | exact SubL.refl _ | apply SubL.skip))⟩

def inI (q : Qu) (more : Int) (k : Nat) (i : Int) : Int := (runV q (q.lo + k) more).getD i.toNat 0
def sureTo (q : Qu) (i more : Int) : Nat → Option (Int × Int)
  | 0 => some (1440, -1)
  | k + 1 => match sureTo q i more k with
    | none => none
    | some z => bif decide (inI q more k i < 0) then none else some (min z.1 (inI q more k i), max z.2 (inI q more k i))
def sureV (q : Qu) (i more : Int) : Option (Int × Int) := sureTo q i more (nR q)
theorem sureTo_none {q : Qu} {i more : Int} {j : Nat} (h : sureTo q i more j = none) : ∀ {k : Nat}, j ≤ k → sureTo q i more k = none
  | 0, hk => by obtain rfl : j = 0 := by omega
                exact h
  | k + 1, hk => by
    by_cases e : j = k + 1
    · subst e; exact h
    · rw [sureTo, sureTo_none h (k := k) (by omega)]
set_option maxHeartbeats 1000000 in
theorem C_gate_sure (q : Qu) (a : QA) (i more : Int) (hq : q.Ok) (hn : q.gs.length ≤ 12) (hi : 0 ≤ i ∧ i < q.gs.length) (hm : 0 ≤ more ∧ more ≤ 100000) (w : World) (h : QRd w q a) :
    CR Try.prog 41 [q.val a, .int .i64 i, .int .i64 more] w (fun x : Int × Int => ∀ s, sureV q i more = some s → x = s) (fun x => .tuple #[.agg #[.int .i64 x.1, .int .i64 x.2], .bool (sureV q i more).isSome]) (fun _ => []) := by
  obtain ⟨hg, hf, hgn, hfn⟩ := h
  refine ⟨enM Try.func41 Try.ntmps41 (((St.init w).share (e := .ro a.gA 4 q.gs.length (encPt q.gs)) hg rfl rfl rfl).share (e := .ro a.fA 2 q.fs.length (encF q.fs)) hf rfl rfl rfl) (h := ?_)⟩
  refine sq (h := ?_)
  refine rg (h := ?_)
  refine bxA (h := fun b0 => ?_)
  refine bx (h := fun b1 => ?_)
  refine al (h := fun b2 => ?_)
  refine al (h := fun b3 => ?_)
  refine nl (h := ?_)
  refine q_seq (h := ?_)
  refine sq (h := ?_)
  refine rg (h := ?_)
  refine WL.y (hy := bd) (h := ?_)
  first | refine stA (h := ?_) | refine stEA (h := ?_)
  refine nl (h := ?_)
  refine q_seq (h := ?_)
  refine sq (h := ?_)
  refine sq (h := ?_)
  refine rg (h := ?_)
  refine WL.y (hy := (by first | exact ldA | exact ldEA)) (h := ?_)
  refine WL.y (hy := mv) (h := ?_)
  refine cl (hc := fun w hS => C_gate_rates q a more w) (h := fun x0 _ => ?_)
  refine nl (h := ?_)
  refine q_seq (h := ?_)
  refine bk (h := ?_)
  refine rf (f := 76) inferInstance (fun k (z : Int × Int) => sureTo q i more k = some z) (fun k z => [.blk b2 43 [.int .i64 z.1, .int .i64 z.2], .blk b3 4 [.bool false], .blk b1 3 [.int .i64 i]]) (fun _ => sureV q i more = none) (fun _ => .ret) (fun z => [.blk b2 43 [.int .i64 z.1, .int .i64 z.2], .blk b3 4 [.bool false]]) (1440, -1) (It_rates q a x0.1 x0.2 more hq hn hm) (by exact rfl) (fun _ _ => rfl) (by rfl) rfl (by repeat (first | exact SubL.nil | (apply SubL.cons; (repeat (first | exact At.here | apply At.there))) | exact SubL.refl _ | apply SubL.skip)) (fun fn tmps lb rb k p z hk hφ hz => ?_) (fun rb z hz => ?_) (fun rb z hz => ?_)
  · skip
    have hrl := runV_len hq (rate := q.lo + k) hm
    obtain ⟨x, hx⟩ : ∃ x, (runV q (q.lo + k) more)[i.toNat]? = some x := ⟨_, List.getElem?_eq_getElem (by omega)⟩
    have hxe := enI_at hx
    have hxi : inI q more k i = x := by rw [inI, List.getD_eq_getElem?_getD, hx]; rfl
    refine rg (h := ?_)
    refine WL.y (hy := asg) (h := ?_)
    refine nl (h := ?_)
    refine bgn (h := ?_)
    refine bk (h := ?_)
    refine sq (h := ?_)
    refine sq (h := ?_)
    refine rg (h := ?_)
    refine WL.y (hy := mv) (h := ?_)
    refine WL.y (hy := (by first | exact ld | exact ldE)) (h := ?_)
    refine WL.y (hy := ix (A := p.1) (m := q.gs.length)) (h := ?_)
    refine WL.y (hy := ldE (A := p.1) (hk := hxe)) (h := ?_)
    refine WL.y (hy := lss) (h := ?_)
    refine nl (h := ?_)
    refine q_seq (h := ?_)
    refine cd (by exact rfl) (fun h0 => ?_) (fun h0 => ?_)
    · skip
      have hnone : sureV q i more = none := sureTo_none (j := k + 1) (by rw [sureTo, hz]; simp only; rw [hxi, h0]; rfl) (by omega)
      refine sq (h := ?_)
      refine rg (h := ?_)
      refine WL.y (hy := (by first | exact ldA | exact ldEA)) (h := ?_)
      first | refine stA (h := ?_) | refine stEA (h := ?_)
      first | refine st (h := ?_) | refine stE (h := ?_)
      refine nl (h := ?_)
      refine q_seq (h := ?_)
      refine rtn (h := ?_)
      refine q_then_ret (h := ?_)
      refine q_blk_ret (h := ?_)
      refine rdRet (y := z) hnone (hs := (by repeat (first | exact SubL.nil | (apply SubL.cons; (repeat (first | exact At.here | apply At.there))) | exact SubL.refl _ | apply SubL.skip)))
    · skip
      have hnext : sureTo q i more (k + 1) = some (min z.1 x, max z.2 x) := by rw [sureTo, hz]; simp only; rw [hxi, h0]; rfl
      refine skp (h := ?_)
      refine q_seq (h := ?_)
      refine rgD (by kernel_rfl) [(15, .blk b2 43 [.int .i64 z.1, .int .i64 z.2]), (1000000, .blk b1 3 [.int .i64 i]), (1000000, .own p.1 p.2 3 1 q.gs.length (enI (runV q (q.lo + k) more)))] (by repeat (first | exact HS.nil | (apply HS.keep; (repeat (first | exact At.here | apply At.there))) | (apply HS.ro; (repeat (first | exact Rds.ro | exact Rds.own | apply Rds.there))))) (h := ?_)
      refine tk 0 (hy := (by first | exact fa | exact faE)) (h := ?_)
      refine tk 1 (hy := (by first | exact ld | exact ldE)) (h := ?_)
      refine tk 2 (hy := mv) (h := ?_)
      refine tk 3 (hy := (by first | exact ld | exact ldE)) (h := ?_)
      refine tk 4 (hy := ix (A := p.1) (m := q.gs.length)) (h := ?_)
      refine tk 5 (hy := ldE (A := p.1) (hk := hxe)) (h := ?_)
      refine tk 6 (hy := minI) (h := ?_)
      refine tk 7 (hy := (by first | exact fa | exact faE)) (h := ?_)
      refine tk 8 (hy := (by first | exact ld | exact ldE)) (h := ?_)
      refine tk 9 (hy := mv) (h := ?_)
      refine tk 10 (hy := (by first | exact ld | exact ldE)) (h := ?_)
      refine tk 11 (hy := ix (A := p.1) (m := q.gs.length)) (h := ?_)
      refine tk 12 (hy := ldE (A := p.1) (hk := hxe)) (h := ?_)
      refine tk 13 (hy := maxI) (h := ?_)
      refine tk 14 (hy := bd) (h := ?_)
      refine one 15 (h := ?_)
      first | refine stA (h := ?_) | refine stEA (h := ?_)
      refine nx (h := ?_)
      refine dn (h := ?_)
      refine q_blk_norm (h := ?_)
      refine rdN (y := (min z.1 x, max z.2 x)) hnext (hs := (by repeat (first | exact SubL.nil | (apply SubL.cons; (repeat (first | exact At.here | apply At.there))) | exact SubL.refl _ | apply SubL.skip)))
  · skip
    have hV : sureV q i more = some z := hz
    refine q_blk_norm (h := ?_)
    refine q_seq (h := ?_)
    refine sq (h := ?_)
    refine rg (h := ?_)
    refine WL.y (hy := (by first | exact ldA | exact ldEA)) (h := ?_)
    first | refine stA (h := ?_) | refine stEA (h := ?_)
    first | refine st (h := ?_) | refine stE (h := ?_)
    refine nl (h := ?_)
    refine q_seq (h := ?_)
    refine rtn (h := ?_)
    refine q_retM (hR := ?_)
    rw [hV]
    exact fun w hS => ⟨z, (fun s hs => by first | (cases hs; done) | (injection hs)), rfl, hS.sub (by repeat (first | exact SubL.nil | (apply SubL.cons; (repeat (first | exact At.here | apply At.there))) | exact SubL.refl _ | apply SubL.skip))⟩
  · skip
    have hV : sureV q i more = none := hz
    refine rtn (h := ?_)
    refine q_blk_ret (h := ?_)
    refine q_then_ret (h := ?_)
    refine q_retM (hR := ?_)
    rw [hV]
    exact fun w hS => ⟨z, (fun s hs => by first | (cases hs; done) | (injection hs)), rfl, hS.sub (by repeat (first | exact SubL.nil | (apply SubL.cons; (repeat (first | exact At.here | apply At.there))) | exact SubL.refl _ | apply SubL.skip))⟩

def idxF (p : Nat → Bool) : Nat → Int
  | 0 => -1
  | n + 1 => bif decide (0 ≤ idxF p n) then idxF p n else bif p n then (n : Int) else -1
theorem idxF_spec (p : Nat → Bool) : ∀ n, Fst p n (idxF p n)
  | 0 => .inr ⟨rfl, fun i hi => by omega⟩
  | n + 1 => by
    rcases idxF_spec p n with ⟨k, hk, he, hp, hb⟩ | ⟨he, hb⟩
    · left
      refine ⟨k, by omega, ?_, hp, hb⟩
      rw [idxF, he, decide_eq_true (by omega)]; rfl
    · cases hp : p n
      · right
        refine ⟨by rw [idxF, he, hp]; rfl, fun i hi => ?_⟩
        rcases Nat.lt_succ_iff_lt_or_eq.1 hi with h | rfl
        · exact hb i h
        · exact hp
      · left
        exact ⟨n, by omega, by rw [idxF, he, hp]; rfl, hp, hb⟩
theorem Fst.uniq {p : Nat → Bool} {n : Nat} {j j' : Int} (h : Fst p n j) (h' : Fst p n j') : j = j' := by
  rcases h with ⟨k, hk, rfl, hp, hb⟩ | ⟨rfl, hb⟩
  · rcases h' with ⟨k', hk', rfl, hp', hb'⟩ | ⟨rfl, hb'⟩
    · rcases Nat.lt_trichotomy k k' with h | h | h
      · rw [hb' k h] at hp; cases hp
      · rw [h]
      · rw [hb k' h] at hp'; cases hp'
    · rw [hb' k hk] at hp; cases hp
  · rcases h' with ⟨k', hk', rfl, hp', hb'⟩ | ⟨rfl, hb'⟩
    · rw [hb k' hk'] at hp'; cases hp'
    · rfl
def grpI (gs : List Pt) (id : Int) : Int := idxF (pAt gs fun g => decide (g.id = id)) gs.length
theorem grp_rng (gs : List Pt) (id : Int) : -1 ≤ grpI gs id ∧ grpI gs id < gs.length := by
  rcases idxF_spec (pAt gs fun g => decide (g.id = id)) gs.length with ⟨k, hk, he, _⟩ | ⟨he, _⟩
  · unfold grpI; omega
  · unfold grpI; omega
def grpE (q : Qu) (id : Int) : Int := bif !qOk q then 110 else bif decide (grpI q.gs id < 0) then 1 else 0
def grpN (q : Qu) (id : Int) : Int := bif decide (grpE q id = 0) then grpI q.gs id else 0
theorem T_group1 (id : Int) (b : Nat) (g : Pt) : Tr Try.prog 63 [g.val, .pointer (some ⟨b, 0, none⟩)] [.blk b 3 [.int .i64 id]] (fun _ : Unit => True) (fun _ => .bool (decide (g.id = id))) (fun _ => [.blk b 3 [.int .i64 id]]) := by
  refine ⟨fun w0 w R hst => ?_⟩
  refine en Try.func63 Try.ntmps63 hst (h := fun F => ?_)
  refine sq (h := ?_)
  refine rg (h := ?_)
  refine bxA (h := fun b0 => ?_)
  refine WL.y (hy := asg) (h := ?_)
  refine nl (h := ?_)
  refine q_seq (h := ?_)
  refine sq (h := ?_)
  refine rg (h := ?_)
  refine WL.y (hy := (by first | exact fa | exact faE)) (h := ?_)
  refine WL.y (hy := (by first | exact ld | exact ldE)) (h := ?_)
  refine WL.y (hy := (by first | exact ld | exact ldE)) (h := ?_)
  refine WL.y (hy := eql) (h := ?_)
  refine WL.y (hy := asg) (h := ?_)
  refine nl (h := ?_)
  refine q_seq (h := ?_)
  refine rtn (h := ?_)
  refine q_ret (hR := ?_)
  exact fun w hS => ⟨(), trivial, rfl, hS.sub (by repeat (first | exact SubL.nil | (apply SubL.cons; (repeat (first | exact At.here | apply At.there))) | exact SubL.refl _ | apply SubL.skip))⟩
theorem C_IndexParty {A : Option Addr} {n c : Nat} {es : List (List Value)} {g : FuncId} (hg : FnOk Try.prog g) (fi cap : List Value) (Lp : List Ent) (p : Nat → Bool) (hn : n ≤ 9223372036854775807)
    (hp : ∀ k cs, es[k]? = some cs → Tr Try.prog g (fi ++ [.agg cs.toArray] ++ cap) (.ro A 4 n es :: Lp) (fun _ : Unit => True) (fun _ => .bool (p k)) (fun _ => .ro A 4 n es :: Lp)) :
    Tr Try.prog 62 [.slice A n c, .func (.func g) fi.toArray cap.toArray] (.ro A 4 n es :: Lp) (Fst p n) (fun j => .int .i64 j) (fun _ => .ro A 4 n es :: Lp) := by
  refine ⟨fun w0 w R hst => ?_⟩
  have hlen : es.length = n := (hst.ok (.ro A 4 n es) (by simp)).len
  refine en Try.func62 Try.ntmps62 hst (h := fun F => ?_)
  refine sq (h := ?_)
  refine rg (h := ?_)
  refine WL.y (hy := asg) (h := ?_)
  refine nl (h := ?_)
  refine q_seq (h := ?_)
  refine sq (h := ?_)
  refine sq (h := ?_)
  refine rg (h := ?_)
  refine WL.y (hy := mv) (h := ?_)
  refine WL.y (hy := lenS) (h := ?_)
  refine WL.y (hy := mv) (h := ?_)
  refine nl (h := ?_)
  refine q_seq (h := ?_)
  refine bk (h := ?_)
  refine lp (X := Nat) (I := fun k => k ≤ n ∧ ∀ i, i < k → p i = false) (le := fun k => [(0, .slice A n c), (1, .func (.func g) fi.toArray cap.toArray), (7, .int .i64 n), (8, .int .i64 k)]) (Le := fun _ => .ro A 4 n es :: (Lp ++ R)) (μ := fun k => n - k) 0 ⟨by omega, fun i hi => by omega⟩ (by repeat (first | exact trivial | refine ⟨rfl, ?_⟩)) (SubL.refl _) (fun k hk => ?_)
  obtain ⟨hk, hall⟩ := hk
  refine sq (h := ?_)
  refine rg (h := ?_)
  refine WL.y (hy := lss) (h := ?_)
  refine nl (h := ?_)
  refine q_seq (h := ?_)
  refine sq (h := ?_)
  refine cd (by exact rfl) (fun h0 => ?_) (fun h0 => ?_)
  · skip
    have hkn : k < n := by simp only [decide_eq_true_eq] at h0; omega
    have hes : es[k]? = some es[k] := List.getElem?_eq_getElem (by omega)
    refine skp (h := ?_)
    refine q_seq (h := ?_)
    refine sq (h := ?_)
    refine bk (h := ?_)
    refine sq (h := ?_)
    refine rg (h := ?_)
    refine WL.y (hy := mv) (h := ?_)
    refine WL.y (hy := asg) (h := ?_)
    refine nl (h := ?_)
    refine q_seq (h := ?_)
    refine sq (h := ?_)
    refine rg (h := ?_)
    refine WL.y (hy := mv) (h := ?_)
    refine WL.y (hy := mv) (h := ?_)
    refine WL.y (hy := mv) (h := ?_)
    refine WL.y (hy := ix) (h := ?_)
    refine WL.y (hy := ldEW (k := k) (cs := es[k]) (hk := hes)) (h := ?_)
    refine clfT hg (fi := fi) (cap := cap) (by exact rfl) (by repeat (first | exact Evs.nil | (apply Evs.cons; exact rfl))) (hp k _ hes) rfl (Spl.cons .here (Spl.app _ _)) (h := fun _ _ => ?_)
    refine nl (h := ?_)
    refine q_seq (h := ?_)
    refine cd (by exact rfl) (fun h1 => ?_) (fun h1 => ?_)
    · skip
      refine sq (h := ?_)
      refine rg (h := ?_)
      refine WL.y (hy := mv) (h := ?_)
      refine WL.y (hy := asg) (h := ?_)
      refine nl (h := ?_)
      refine q_seq (h := ?_)
      refine rtn (h := ?_)
      refine q_blk_ret (h := ?_)
      refine q_then_ret (h := ?_)
      refine q_then_ret (h := ?_)
      refine q_blk_ret (h := ?_)
      refine q_then_ret (h := ?_)
      refine q_ret (hR := ?_)
      exact fun w hS => ⟨_, .inl ⟨k, hkn, rfl, by assumption, hall⟩, rfl, hS⟩
    · skip
      refine skp (h := ?_)
      refine q_blk_norm (h := ?_)
      refine q_seq (h := ?_)
      refine rg (h := ?_)
      refine WL.y (hy := addI) (h := ?_)
      refine WL.y (hy := mv) (h := ?_)
      refine nl (h := ?_)
      refine rn (k + 1) ⟨by omega, fun i hi => ?_⟩ (by omega) (by repeat (first | exact trivial | refine ⟨rfl, ?_⟩)) (SubL.refl _)
      rcases Nat.lt_succ_iff_lt_or_eq.1 hi with h | rfl
      · exact hall i h
      · assumption
  · skip
    have hkn : k = n := by simp only [decide_eq_false_iff_not] at h0; omega
    refine et (h := ?_)
    refine q_then_exit (h := ?_)
    refine q_then_exit (h := ?_)
    refine q_blk_hit (h := ?_)
    refine q_seq (h := ?_)
    refine sq (h := ?_)
    refine rg (h := ?_)
    refine WL.y (hy := asg) (h := ?_)
    refine nl (h := ?_)
    refine q_seq (h := ?_)
    refine rtn (h := ?_)
    refine q_ret (hR := ?_)
    exact fun w hS => ⟨_, .inr ⟨rfl, by subst hkn; exact hall⟩, rfl, hS⟩
theorem C_gate_group (q : Qu) (a : QA) (id : Int) (w : World) (h : QRd w q a) : C0 Try.prog 40 [q.val a, .int .i64 id] w (.tuple #[.int .i64 (grpN q id), .int .i64 (grpE q id)]) := by
  obtain ⟨hg, hf, hgn, hfn⟩ := h
  refine ⟨en Try.func40 Try.ntmps40 (((St.init w).share (e := .ro a.gA 4 q.gs.length (encPt q.gs)) hg rfl rfl rfl).share (e := .ro a.fA 2 q.fs.length (encF q.fs)) hf rfl rfl rfl) (h := fun F => ?_)⟩
  refine sq (h := ?_)
  refine rg (h := ?_)
  refine bxA (h := fun b0 => ?_)
  refine bx (h := fun b1 => ?_)
  refine WL.y (hy := asg) (h := ?_)
  refine WL.y (hy := asg) (h := ?_)
  refine nl (h := ?_)
  refine q_seq (h := ?_)
  refine sq (h := ?_)
  refine sq (h := ?_)
  refine rg (h := ?_)
  refine WL.y (hy := (by first | exact ldA | exact ldEA)) (h := ?_)
  refine cl0 (hc := fun w hS => C_gate_Check q a w ⟨hS.get, hS.get, hgn, hfn⟩) (h := ?_)
  refine WL.y (hy := asg) (h := ?_)
  refine nl (h := ?_)
  refine q_seq (h := ?_)
  refine sq (h := ?_)
  refine rg (h := ?_)
  refine WL.y (hy := mv) (h := ?_)
  refine WL.y (hy := neq) (h := ?_)
  refine nl (h := ?_)
  refine q_seq (h := ?_)
  refine cd (by exact rfl) (fun h0 => ?_) (fun h0 => ?_)
  · skip
    have hb : qOk q = false := chkQ_no h0
    have hE : grpE q id = chkQ q := by rw [grpE, chkQ, hb]; rfl
    have hL : grpN q id = 0 := by rw [grpN, hE, chkQ, hb]; rfl
    refine sq (h := ?_)
    refine rg (h := ?_)
    refine WL.y (hy := mv) (h := ?_)
    refine WL.y (hy := asg) (h := ?_)
    refine WL.y (hy := asg) (h := ?_)
    refine nl (h := ?_)
    refine q_seq (h := ?_)
    refine rtn (h := ?_)
    refine q_then_ret (h := ?_)
    refine q_ret (hR := ?_)
    rw [hE, hL]
    exact fun w hS => ⟨rfl, hS.sub (by repeat (first | exact SubL.nil | (apply SubL.cons; (repeat (first | exact At.here | apply At.there))) | exact SubL.refl _ | apply SubL.skip))⟩
  · skip
    obtain ⟨hq, hqb⟩ := chkQ_ok h0
    refine skp (h := ?_)
    refine q_seq (h := ?_)
    refine sq (h := ?_)
    refine rg (h := ?_)
    refine WL.y (hy := (by first | exact fa | exact faE)) (h := ?_)
    refine WL.y (hy := (by first | exact ld | exact ldE)) (h := ?_)
    refine WL.y (hy := mkf) (h := ?_)
    refine clT (hc := C_IndexParty (A := a.gA) (c := a.gc) (es := encPt q.gs) (g := 63) inferInstance [] [.pointer (some ⟨b1, 0, none⟩)] [.blk b1 3 [.int .i64 id]] (pAt q.gs fun g => decide (g.id = id)) hgn (fun k cs hk => by
      obtain ⟨g, hgk, rfl⟩ := enc_at hk
      rw [pAt_eq hgk]
      exact Tr.frame1 (T_group1 id b1 g))) (hs := (by repeat (first | exact Spl.nil | (apply Spl.cons; (repeat (first | exact At.here | apply At.there)))))) (h := fun x0 hx0 => ?_)
    obtain rfl : x0 = grpI q.gs id := hx0.uniq (idxF_spec _ _)
    refine WL.y (hy := asg) (h := ?_)
    refine nl (h := ?_)
    refine q_seq (h := ?_)
    refine sq (h := ?_)
    refine sq (h := ?_)
    refine rg (h := ?_)
    refine WL.y (hy := mv) (h := ?_)
    refine WL.y (hy := lss) (h := ?_)
    refine nl (h := ?_)
    refine q_seq (h := ?_)
    refine cd (by exact rfl) (fun h1 => ?_) (fun h1 => ?_)
    · skip
      have hE : grpE q id = 1 := by rw [grpE, hqb, h1]; rfl
      have hL : grpN q id = 0 := by rw [grpN, hE]; rfl
      refine sq (h := ?_)
      refine rg (h := ?_)
      refine WL.y (hy := asg) (h := ?_)
      refine WL.y (hy := asg) (h := ?_)
      refine nl (h := ?_)
      refine q_seq (h := ?_)
      refine rtn (h := ?_)
      refine q_then_ret (h := ?_)
      refine q_ret (hR := ?_)
      rw [hE, hL]
      exact fun w hS => ⟨rfl, hS.sub (by repeat (first | exact SubL.nil | (apply SubL.cons; (repeat (first | exact At.here | apply At.there))) | exact SubL.refl _ | apply SubL.skip))⟩
    · skip
      have hE : grpE q id = 0 := by rw [grpE, hqb, h1]; rfl
      have hL : grpN q id = grpI q.gs id := by rw [grpN, hE]; rfl
      refine skp (h := ?_)
      refine q_seq (h := ?_)
      refine sq (h := ?_)
      refine rg (h := ?_)
      refine WL.y (hy := mv) (h := ?_)
      refine WL.y (hy := asg) (h := ?_)
      refine WL.y (hy := asg) (h := ?_)
      refine nl (h := ?_)
      refine q_seq (h := ?_)
      refine rtn (h := ?_)
      refine q_ret (hR := ?_)
      rw [hE, hL]
      exact fun w hS => ⟨rfl, hS.sub (by repeat (first | exact SubL.nil | (apply SubL.cons; (repeat (first | exact At.here | apply At.there))) | exact SubL.refl _ | apply SubL.skip))⟩
end Go.Proofs.Ytngelilffleimaa

namespace Go.Proofs.Ytngelilffleimaa
open Go Go.RowKit

theorem lpC {F : Fence} {P : Program} {Q : Exit → Act → World → Prop} {n : Nat} {D : List Deferred} {l : Env} {w0 : World} {L : List Ent} {X : Type} (I : X → Prop) (le : X → Env) (μ : X → Nat) (x0 : X) {body : Code} (h0 : I x0) (hs : Sub (le x0) l)
    (round : ∀ x, I x → WC F P body (Exit.then (LI I le (fun _ => L) μ n D w0 x) Q) n D (le x) w0 L) : WC F P (.loop body) Q n D l w0 L :=
  lp I le (fun _ => L) μ x0 h0 hs (SubL.refl L) round
structure SpE where
  (low high err : Int)
abbrev SpE.val (s : SpE) : Value := .tuple #[.agg #[.int .i64 s.low, .int .i64 s.high], .int .i64 s.err]
def sureP (q : Qu) (id : Int) : SpE := bif !decide (grpE q id = 0) then ⟨0, 0, grpE q id⟩ else match sureV q (grpI q.gs id) 0 with
  | some s => ⟨s.1, s.2, 0⟩
  | none => ⟨0, 0, 3⟩
theorem grp_ok {q : Qu} {id : Int} (h : grpE q id = 0) : qOk q = true ∧ q.Ok ∧ grpN q id = grpI q.gs id ∧ 0 ≤ grpI q.gs id ∧ grpI q.gs id < q.gs.length := by
  have hN : grpN q id = grpI q.gs id := by rw [grpN, h]; rfl
  unfold grpE at h
  cases hb : qOk q
  · rw [hb] at h; cases h
  · rw [hb] at h
    simp only [Bool.not_true, cond_false] at h
    cases hd : decide (grpI q.gs id < 0)
    · have := of_decide_eq_false hd
      have := grp_rng q.gs id
      exact ⟨rfl, q_ok hb, hN, by omega, by omega⟩
    · rw [hd] at h; cases h
theorem C_gate_Sure (q : Qu) (a : QA) (id : Int) (hn : qOk q = true → q.gs.length ≤ 12) (w : World) (h : QRd w q a) : C0 Try.prog 24 [q.val a, .int .i64 id] w (sureP q id).val := by
  obtain ⟨hg, hf, hgn, hfn⟩ := h
  refine ⟨en Try.func24 Try.ntmps24 (((St.init w).share (e := .ro a.gA 4 q.gs.length (encPt q.gs)) hg rfl rfl rfl).share (e := .ro a.fA 2 q.fs.length (encF q.fs)) hf rfl rfl rfl) (h := fun F => ?_)⟩
  refine sq (h := ?_)
  refine rg (h := ?_)
  refine bxA (h := fun b0 => ?_)
  refine al (h := fun b1 => ?_)
  refine WL.y (hy := asg) (h := ?_)
  refine nl (h := ?_)
  refine q_seq (h := ?_)
  refine sq (h := ?_)
  refine rg (h := ?_)
  refine WL.y (hy := (by first | exact ldA | exact ldEA)) (h := ?_)
  refine WL.y (hy := mv) (h := ?_)
  refine cl0 (hc := fun w hS => C_gate_group q a id w ⟨hS.get, hS.get, hgn, hfn⟩) (h := ?_)
  refine WL.y (hy := mv) (h := ?_)
  refine WL.y (hy := ex) (h := ?_)
  refine WL.y (hy := ex) (h := ?_)
  refine WL.y (hy := asg) (h := ?_)
  refine WL.y (hy := asg) (h := ?_)
  refine nl (h := ?_)
  refine q_seq (h := ?_)
  refine sq (h := ?_)
  refine sq (h := ?_)
  refine rg (h := ?_)
  refine WL.y (hy := mv) (h := ?_)
  refine WL.y (hy := neq) (h := ?_)
  refine nl (h := ?_)
  refine q_seq (h := ?_)
  refine cd (by exact rfl) (fun h0 => ?_) (fun h0 => ?_)
  · skip
    have hE : sureP q id = ⟨0, 0, grpE q id⟩ := by rw [sureP, h0]; rfl
    refine sq (h := ?_)
    refine rg (h := ?_)
    refine WL.y (hy := bd) (h := ?_)
    refine WL.y (hy := mv) (h := ?_)
    first | refine stA (h := ?_) | refine stEA (h := ?_)
    refine WL.y (hy := asg) (h := ?_)
    refine nl (h := ?_)
    refine q_seq (h := ?_)
    refine rtn (h := ?_)
    refine q_then_ret (h := ?_)
    refine q_ret (hR := ?_)
    rw [hE]
    exact fun w hS => ⟨rfl, hS.sub (by repeat (first | exact SubL.nil | (apply SubL.cons; (repeat (first | exact At.here | apply At.there))) | exact SubL.refl _ | apply SubL.skip))⟩
  · skip
    have hge : grpE q id = 0 := by simpa using h0
    obtain ⟨hqb, hq, hN, hi0, hi1⟩ := grp_ok hge
    rw [hN]
    refine skp (h := ?_)
    refine q_seq (h := ?_)
    refine sq (h := ?_)
    refine rg (h := ?_)
    refine WL.y (hy := (by first | exact ldA | exact ldEA)) (h := ?_)
    refine WL.y (hy := mv) (h := ?_)
    refine cl (hc := fun w hS => C_gate_sure q a (grpI q.gs id) 0 hq (hn hqb) ⟨hi0, hi1⟩ (by omega) w ⟨hS.get, hS.get, hgn, hfn⟩) (h := fun x0 hx0 => ?_)
    refine WL.y (hy := mv) (h := ?_)
    refine WL.y (hy := ex) (h := ?_)
    refine WL.y (hy := ex) (h := ?_)
    refine al (h := fun b2 => ?_)
    first | refine stA (h := ?_) | refine stEA (h := ?_)
    refine WL.y (hy := asg) (h := ?_)
    refine nl (h := ?_)
    refine q_seq (h := ?_)
    refine sq (h := ?_)
    refine sq (h := ?_)
    refine rg (h := ?_)
    refine WL.y (hy := mv) (h := ?_)
    refine WL.y (hy := notB) (h := ?_)
    refine nl (h := ?_)
    refine q_seq (h := ?_)
    refine cd (by exact rfl) (fun h1 => ?_) (fun h1 => ?_)
    · skip
      have hE : sureP q id = ⟨0, 0, 3⟩ := by
        have h1 : sureV q (grpI q.gs id) 0 = none := by cases hs : sureV q (grpI q.gs id) 0 with | none => rfl | some s => rw [hs] at h1; cases h1
        rw [sureP, hge, h1]; rfl
      refine sq (h := ?_)
      refine rg (h := ?_)
      refine WL.y (hy := bd) (h := ?_)
      first | refine stA (h := ?_) | refine stEA (h := ?_)
      refine WL.y (hy := asg) (h := ?_)
      refine nl (h := ?_)
      refine q_seq (h := ?_)
      refine rtn (h := ?_)
      refine q_then_ret (h := ?_)
      refine q_ret (hR := ?_)
      rw [hE]
      exact fun w hS => ⟨rfl, hS.sub (by repeat (first | exact SubL.nil | (apply SubL.cons; (repeat (first | exact At.here | apply At.there))) | exact SubL.refl _ | apply SubL.skip))⟩
    · skip
      obtain ⟨s, hs⟩ : ∃ s, sureV q (grpI q.gs id) 0 = some s := by cases hs : sureV q (grpI q.gs id) 0 with | none => (rw [hs] at h1; cases h1) | some s => exact ⟨s, rfl⟩
      obtain rfl := hx0 s hs
      have hE : sureP q id = ⟨x0.1, x0.2, 0⟩ := by rw [sureP, hge, hs]; rfl
      refine skp (h := ?_)
      refine q_seq (h := ?_)
      refine sq (h := ?_)
      refine rg (h := ?_)
      refine WL.y (hy := (by first | exact ldA | exact ldEA)) (h := ?_)
      first | refine stA (h := ?_) | refine stEA (h := ?_)
      refine WL.y (hy := asg) (h := ?_)
      refine nl (h := ?_)
      refine q_seq (h := ?_)
      refine rtn (h := ?_)
      refine q_ret (hR := ?_)
      rw [hE]
      exact fun w hS => ⟨rfl, hS.sub (by repeat (first | exact SubL.nil | (apply SubL.cons; (repeat (first | exact At.here | apply At.there))) | exact SubL.refl _ | apply SubL.skip))⟩

structure IZ where
  (k : Nat)
def pplTo (gs : List Pt) : Nat → Int
  | 0 => 0
  | k + 1 => match gs[k]? with
    | some g => pplTo gs k + g.size
    | none => pplTo gs k
def pplV (gs : List Pt) : Int := pplTo gs gs.length
theorem pplTo_rng {q : Qu} (hq : q.Ok) : ∀ k : Nat, k ≤ q.gs.length → 0 ≤ pplTo q.gs k ∧ pplTo q.gs k ≤ 20 * k
  | 0, _ => by simp [pplTo]
  | k + 1, hk => by
    have ih := pplTo_rng hq k (by omega)
    have hx : q.gs[k]? = some q.gs[k] := List.getElem?_eq_getElem (by omega)
    have := pt_rng (hq.pt _ (List.mem_of_getElem? hx))
    rw [pplTo, hx]
    simp only
    omega
structure PE where
  (n err : Int)
abbrev PE.val (e : PE) : Value := .tuple #[.int .i64 e.n, .int .i64 e.err]
end Go.Proofs.Ytngelilffleimaa

namespace Go.Proofs.Ytngelilffleimaa
open Go Go.RowKit

structure Tkt where
  (id price day paid : Int)
abbrev Tkt.enc (t : Tkt) : List Value := [.int .i64 t.id, .int .i64 t.price, .int .i64 t.day, .int .i64 t.paid]
abbrev Tkt.val (t : Tkt) : Value := .agg #[.int .i64 t.id, .int .i64 t.price, .int .i64 t.day, .int .i64 t.paid]
def encTk (l : List Tkt) : List (List Value) := l.map Tkt.enc
theorem encTk_at {l : List Tkt} {k : Nat} {t : Tkt} (h : l[k]? = some t) : (encTk l)[k]? = some t.enc := by simp [encTk, h]
structure Tm where
  (short long : Int) (pl : List Int)
abbrev Tm.cells (x : Tm) (A : Option Addr) (c : Nat) : List Value := [.int .i64 x.short, .int .i64 x.long, .slice A x.pl.length c]
abbrev Tm.val (x : Tm) (A : Option Addr) (c : Nat) : Value := .agg #[.int .i64 x.short, .int .i64 x.long, .slice A x.pl.length c]
def tkOk (x : Tm) (t : Tkt) : Bool := win t.id 0 999 && win t.price 0 1000000 && win t.day 0 (x.pl.length - 1) && win t.paid 0 t.price
def tHead (x : Tm) (n : Nat) : Bool := isT x.short && isT x.long && decide (x.short ≤ x.long) && decide ((x.pl.length : Int) ≤ 30) && decide ((n : Int) ≤ 40)
def dupT (l : List Tkt) (k : Nat) (id : Int) : Bool := (l.take k).any fun t => decide (t.id = id)
def tksOk (x : Tm) (l : List Tkt) : Nat → Bool
  | 0 => true
  | k + 1 => tksOk x l k && (match l[k]? with | some t => !dupT l k t.id && tkOk x t | none => true)
def areT (x : Tm) (l : List Tkt) : Bool := tHead x l.length && x.pl.all isT && tksOk x l l.length
theorem tksOk_succ {x : Tm} {l : List Tkt} {k : Nat} {t : Tkt} (h : l[k]? = some t) : tksOk x l (k + 1) = (tksOk x l k && (!dupT l k t.id && tkOk x t)) := by rw [tksOk, h]
theorem tksOk_le {x : Tm} {l : List Tkt} {j : Nat} (h : tksOk x l j = false) : ∀ {k : Nat}, j ≤ k → tksOk x l k = false
  | 0, hk => by obtain rfl : j = 0 := by omega
                exact h
  | k + 1, hk => by
    by_cases e : j = k + 1
    · subst e; exact h
    · rw [tksOk, tksOk_le h (k := k) (by omega)]; rfl
theorem dupT_succ {l : List Tkt} {k : Nat} {t : Tkt} (h : l[k]? = some t) (id : Int) : dupT l (k + 1) id = (dupT l k id || decide (t.id = id)) := by
  unfold dupT
  rw [List.take_add_one, h]
  simp
theorem tksOk_all {x : Tm} {l : List Tkt} : ∀ {k : Nat}, tksOk x l k = true → (∀ (i : Nat) (t : Tkt), i < k → l[i]? = some t → tkOk x t = true ∧ dupT l i t.id = false)
  | 0, _, i, _, hi, _ => by omega
  | k + 1, h, i, t, hi, hg => by
    rw [tksOk, Bool.and_eq_true] at h
    by_cases e : i = k
    · subst e
      have h2 := h.2
      rw [hg] at h2
      simp only [Bool.and_eq_true, Bool.not_eq_true'] at h2
      exact ⟨h2.2, h2.1⟩
    · exact tksOk_all h.1 i t (by omega) hg
structure TRd (w : World) (x : Tm) (l : List Tkt) (pA lA : Option Addr) : Prop where
  rp : Rd w pA 1 x.pl.length (enI x.pl)
  rl : Rd w lA 4 l.length (encTk l)
  pn : x.pl.length ≤ 9223372036854775807
  ln : l.length ≤ 9223372036854775807
structure TOk (x : Tm) (l : List Tkt) : Prop where
  s : 0 ≤ x.short ∧ x.short ≤ x.long ∧ x.long ≤ 1440
  np : x.pl.length ≤ 30
  nl : l.length ≤ 40
  pl : ∀ n ∈ x.pl, 0 ≤ n ∧ n ≤ 1440
  tk : ∀ t ∈ l, (0 ≤ t.id ∧ t.id ≤ 999) ∧ (0 ≤ t.price ∧ t.price ≤ 1000000) ∧ (0 ≤ t.day ∧ t.day < x.pl.length) ∧ (0 ≤ t.paid ∧ t.paid ≤ t.price)
theorem t_ok {x : Tm} {l : List Tkt} (h : areT x l = true) : TOk x l := by
  simp only [areT, tHead, isT, Bool.and_eq_true, decide_eq_true_eq, win_iff] at h
  obtain ⟨⟨⟨⟨⟨⟨h1, h2⟩, h3⟩, h4⟩, h5⟩, h6⟩, h7⟩ := h
  have hall := tksOk_all h7
  refine ⟨by omega, by omega, by omega, fun n hn => ?_, fun t ht => ?_⟩
  · have := List.all_eq_true.1 h6 n hn
    exact win_iff.1 this
  · obtain ⟨i, hi, rfl⟩ := List.getElem_of_mem ht
    have := (hall i _ hi (List.getElem?_eq_getElem hi)).1
    simp only [tkOk, Bool.and_eq_true, win_iff] at this
    obtain ⟨⟨⟨k1, k2⟩, k3⟩, k4⟩ := this
    exact ⟨k1, k2, by omega, k4⟩
theorem C_gate_are1 (n : Int) (w : World) : C0 Try.prog 54 [.int .i64 n] w (.bool (!isT n)) := by
  refine ⟨en Try.func54 Try.ntmps54 (St.init w) (h := fun F => ?_)⟩
  refine sq (h := ?_)
  refine rg (h := ?_)
  refine WL.y (hy := asg) (h := ?_)
  refine nl (h := ?_)
  refine q_seq (h := ?_)
  refine sq (h := ?_)
  refine rg (h := ?_)
  refine WL.y (hy := mv) (h := ?_)
  refine cl0 (hc := fun w hS => C_gate_isTime ..) (h := ?_)
  refine WL.y (hy := notB) (h := ?_)
  refine WL.y (hy := asg) (h := ?_)
  refine nl (h := ?_)
  refine q_seq (h := ?_)
  refine rtn (h := ?_)
  refine q_ret (hR := ?_)
  exact fun w hS => ⟨rfl, hS.sub (by repeat (first | exact SubL.nil | (apply SubL.cons; (repeat (first | exact At.here | apply At.there))) | exact SubL.refl _ | apply SubL.skip))⟩
theorem T_ContainsInt {E : Ent} {A : Option Addr} {n c : Nat} {ws : List Int} (hE : ∀ w, E.ok w → Rd w A 1 n (enI ws)) {g : FuncId} (hg : FnOk Try.prog g) (fi cap : List Value) (Lp : List Ent) (p : Int → Bool) (hn : n ≤ 9223372036854775807) (hlen : ws.length = n)
    (hp : ∀ x ∈ ws, Tr Try.prog g (fi ++ [.int .i64 x] ++ cap) Lp (fun _ : Unit => True) (fun _ => .bool (p x)) (fun _ => Lp)) :
    Tr Try.prog 49 [.slice A n c, .func (.func g) fi.toArray cap.toArray] (E :: Lp) (fun _ : Unit => True) (fun _ => .bool ((List.range n).any (pAt ws p))) (fun _ => E :: Lp) := by
  refine ⟨fun w0 w R hst => ?_⟩
  refine en Try.func49 Try.ntmps49 hst (h := fun F => ?_)
  refine sq (h := ?_)
  refine rg (h := ?_)
  refine WL.y (hy := asg) (h := ?_)
  refine nl (h := ?_)
  refine q_seq (h := ?_)
  refine sq (h := ?_)
  refine rg (h := ?_)
  refine WL.y (hy := mv) (h := ?_)
  refine WL.y (hy := mv) (h := ?_)
  refine clT (hc := T_IndexInt (c := c) hE hg fi cap Lp p hn hlen hp) (hs := Spl.cons .here (Spl.app _ _)) (h := fun x0 hx0 => ?_)
  refine WL.y (hy := geq) (h := ?_)
  refine WL.y (hy := asg) (h := ?_)
  refine nl (h := ?_)
  refine q_seq (h := ?_)
  refine rtn (h := ?_)
  refine q_ret (hR := ?_)
  exact fun w hS => ⟨(), trivial, by simp only [resV, hx0.any], hS⟩
theorem tHead_not (x : Tm) (n : Nat) : (!isT x.short || !isT x.long || decide (x.long < x.short) || decide ((30 : Int) < x.pl.length) || decide ((40 : Int) < n)) = !tHead x n := by
  unfold tHead
  simp only [Bool.not_and]
  rw [← decide_not, ← decide_not, ← decide_not]
  congr 1
  · congr 1
    · congr 1
      exact decide_eq_decide.2 (by omega)
    · exact decide_eq_decide.2 (by omega)
  · exact decide_eq_decide.2 (by omega)
theorem pl_any (xs : List Int) : (List.range xs.length).any (pAt xs fun n => !isT n) = !xs.all isT := by
  rw [pAt_any, List.not_all_eq_any_not]
theorem tk_not (x : Tm) (t : Tkt) : (!win t.id 0 999 || !win t.price 0 1000000 || !win t.day 0 (x.pl.length - 1) || !win t.paid 0 t.price) = !tkOk x t := by
  simp [tkOk, Bool.not_and]
def cntT (l : List Tkt) (k : Nat) (id : Int) : Int := bif dupT l k id then 1 else 0
theorem cntT_rng (l : List Tkt) (k : Nat) (id : Int) : 0 ≤ cntT l k id ∧ cntT l k id ≤ 1 := by unfold cntT; cases dupT l k id <;> simp
set_option maxHeartbeats 1000000 in
theorem C_gate_areTickets (x : Tm) (l : List Tkt) (pA lA : Option Addr) (pc lc : Nat) (w : World) (h : TRd w x l pA lA) : C0 Try.prog 31 [x.val pA pc, .slice lA l.length lc] w (.bool (areT x l)) := by
  obtain ⟨hp, hl, hpn, hln⟩ := h
  refine ⟨en Try.func31 Try.ntmps31 (((St.init w).share (e := .ro pA 1 x.pl.length (enI x.pl)) hp rfl rfl rfl).share (e := .ro lA 4 l.length (encTk l)) hl rfl rfl rfl) (h := fun F => ?_)⟩
  refine sq (h := ?_)
  refine rg (h := ?_)
  refine bxA (h := fun b0 => ?_)
  refine WL.y (hy := asg) (h := ?_)
  refine nl (h := ?_)
  refine q_seq (h := ?_)
  refine sq (h := ?_)
  refine sq (h := ?_)
  refine rg (h := ?_)
  refine WL.y (hy := (by first | exact fa | exact faE)) (h := ?_)
  refine WL.y (hy := (by first | exact ld | exact ldE)) (h := ?_)
  refine cl0 (hc := fun w hS => C_gate_isTime ..) (h := ?_)
  refine WL.y (hy := notB) (h := ?_)
  refine WL.y (hy := mv) (h := ?_)
  apply brOr 5 12 17 (by exact rfl)
  · intro hb0
    refine un (h := ?_)
    refine WL.y (hy := (by first | exact fa | exact faE)) (h := ?_)
    refine un (h := ?_)
    refine WL.y (hy := (by first | exact ld | exact ldE)) (h := ?_)
    refine un (h := ?_)
    refine cl0 (hc := fun w hS => C_gate_isTime ..) (h := ?_)
    refine un (h := ?_)
    refine WL.y (hy := notB) (h := ?_)
    refine WL.y (hy := (by first | exact pkT | exact pkF)) (h := ?_)
    exact mg (by repeat (first | exact trivial | refine ⟨rfl, ?_⟩ | refine ⟨by rw [hb0]; rfl, ?_⟩)) (by repeat (first | exact SubL.nil | (apply SubL.cons; (repeat (first | exact At.here | apply At.there))) | exact SubL.refl _ | apply SubL.skip))
  · intro hb0
    repeat (first | refine un (h := ?_) | refine sk (h := ?_) | refine WL.y (hy := pkF) (h := ?_) | refine WL.y (hy := pkT) (h := ?_))
    exact mg (by repeat (first | exact trivial | refine ⟨rfl, ?_⟩ | refine ⟨by rw [hb0]; rfl, ?_⟩)) (by repeat (first | exact SubL.nil | (apply SubL.cons; (repeat (first | exact At.here | apply At.there))) | exact SubL.refl _ | apply SubL.skip))
  refine WL.y (hy := mv) (h := ?_)
  apply brOr 6 18 24 (by exact rfl)
  · intro hb1
    refine un (h := ?_)
    refine WL.y (hy := (by first | exact fa | exact faE)) (h := ?_)
    refine un (h := ?_)
    refine WL.y (hy := (by first | exact ld | exact ldE)) (h := ?_)
    refine un (h := ?_)
    refine WL.y (hy := (by first | exact fa | exact faE)) (h := ?_)
    refine un (h := ?_)
    refine WL.y (hy := (by first | exact ld | exact ldE)) (h := ?_)
    refine un (h := ?_)
    refine WL.y (hy := gtr) (h := ?_)
    refine WL.y (hy := (by first | exact pkT | exact pkF)) (h := ?_)
    exact mg (by repeat (first | exact trivial | refine ⟨rfl, ?_⟩ | refine ⟨by rw [hb1]; rfl, ?_⟩)) (by repeat (first | exact SubL.nil | (apply SubL.cons; (repeat (first | exact At.here | apply At.there))) | exact SubL.refl _ | apply SubL.skip))
  · intro hb1
    repeat (first | refine un (h := ?_) | refine sk (h := ?_) | refine WL.y (hy := pkF) (h := ?_) | refine WL.y (hy := pkT) (h := ?_))
    exact mg (by repeat (first | exact trivial | refine ⟨rfl, ?_⟩ | refine ⟨by rw [hb1]; rfl, ?_⟩)) (by repeat (first | exact SubL.nil | (apply SubL.cons; (repeat (first | exact At.here | apply At.there))) | exact SubL.refl _ | apply SubL.skip))
  refine WL.y (hy := mv) (h := ?_)
  apply brOr 5 25 30 (by exact rfl)
  · intro hb2
    refine un (h := ?_)
    refine WL.y (hy := (by first | exact fa | exact faE)) (h := ?_)
    refine un (h := ?_)
    refine WL.y (hy := (by first | exact ld | exact ldE)) (h := ?_)
    refine un (h := ?_)
    refine WL.y (hy := lenS) (h := ?_)
    refine un (h := ?_)
    refine WL.y (hy := gtr) (h := ?_)
    refine WL.y (hy := (by first | exact pkT | exact pkF)) (h := ?_)
    exact mg (by repeat (first | exact trivial | refine ⟨rfl, ?_⟩ | refine ⟨by rw [hb2]; rfl, ?_⟩)) (by repeat (first | exact SubL.nil | (apply SubL.cons; (repeat (first | exact At.here | apply At.there))) | exact SubL.refl _ | apply SubL.skip))
  · intro hb2
    repeat (first | refine un (h := ?_) | refine sk (h := ?_) | refine WL.y (hy := pkF) (h := ?_) | refine WL.y (hy := pkT) (h := ?_))
    exact mg (by repeat (first | exact trivial | refine ⟨rfl, ?_⟩ | refine ⟨by rw [hb2]; rfl, ?_⟩)) (by repeat (first | exact SubL.nil | (apply SubL.cons; (repeat (first | exact At.here | apply At.there))) | exact SubL.refl _ | apply SubL.skip))
  refine WL.y (hy := mv) (h := ?_)
  apply brOr 4 31 35 (by exact rfl)
  · intro hb3
    refine un (h := ?_)
    refine WL.y (hy := mv) (h := ?_)
    refine un (h := ?_)
    refine WL.y (hy := lenS) (h := ?_)
    refine un (h := ?_)
    refine WL.y (hy := gtr) (h := ?_)
    refine WL.y (hy := (by first | exact pkT | exact pkF)) (h := ?_)
    exact mg (by repeat (first | exact trivial | refine ⟨rfl, ?_⟩ | refine ⟨by rw [hb3]; rfl, ?_⟩)) (by repeat (first | exact SubL.nil | (apply SubL.cons; (repeat (first | exact At.here | apply At.there))) | exact SubL.refl _ | apply SubL.skip))
  · intro hb3
    repeat (first | refine un (h := ?_) | refine sk (h := ?_) | refine WL.y (hy := pkF) (h := ?_) | refine WL.y (hy := pkT) (h := ?_))
    exact mg (by repeat (first | exact trivial | refine ⟨rfl, ?_⟩ | refine ⟨by rw [hb3]; rfl, ?_⟩)) (by repeat (first | exact SubL.nil | (apply SubL.cons; (repeat (first | exact At.here | apply At.there))) | exact SubL.refl _ | apply SubL.skip))
  refine nl (h := ?_)
  refine q_seq (h := ?_)
  refine cd (by exact rfl) (fun h4 => ?_) (fun h4 => ?_)
  · skip
    have hE : areT x l = false := by rw [tHead_not] at h4; rw [areT, (by simpa using h4 : tHead x l.length = false)]; rfl
    refine sq (h := ?_)
    refine rg (h := ?_)
    refine WL.y (hy := asg) (h := ?_)
    refine nl (h := ?_)
    refine q_seq (h := ?_)
    refine rtn (h := ?_)
    refine q_then_ret (h := ?_)
    refine q_ret (hR := ?_)
    rw [hE]
    exact fun w hS => ⟨rfl, hS.sub (by repeat (first | exact SubL.nil | (apply SubL.cons; (repeat (first | exact At.here | apply At.there))) | exact SubL.refl _ | apply SubL.skip))⟩
  · skip
    have hH : tHead x l.length = true := by rw [tHead_not] at h4; simpa using h4
    refine skp (h := ?_)
    refine q_seq (h := ?_)
    refine sq (h := ?_)
    refine sq (h := ?_)
    refine rg (h := ?_)
    refine WL.y (hy := (by first | exact fa | exact faE)) (h := ?_)
    refine WL.y (hy := (by first | exact ld | exact ldE)) (h := ?_)
    refine clT (hc := T_ContainsInt (E := .ro pA 1 x.pl.length (enI x.pl)) (A := pA) (c := pc) (ws := x.pl) (fun w h => h) (g := 54) inferInstance [] [] [] (fun n => !isT n) hpn rfl (fun n hn => C0.tr _ (C_gate_are1 n))) (hs := Spl.cons (by repeat (first | exact At.here | apply At.there)) (Spl.app _ _)) (h := fun _ _ => ?_)
    refine nl (h := ?_)
    refine q_seq (h := ?_)
    refine cd (by exact rfl) (fun h5 => ?_) (fun h5 => ?_)
    · skip
      have hE : areT x l = false := by rw [pl_any] at h5; rw [areT, (by simpa using h5 : x.pl.all isT = false)]; simp
      refine sq (h := ?_)
      refine rg (h := ?_)
      refine WL.y (hy := asg) (h := ?_)
      refine nl (h := ?_)
      refine q_seq (h := ?_)
      refine rtn (h := ?_)
      refine q_then_ret (h := ?_)
      refine q_ret (hR := ?_)
      rw [hE]
      exact fun w hS => ⟨rfl, hS.sub (by repeat (first | exact SubL.nil | (apply SubL.cons; (repeat (first | exact At.here | apply At.there))) | exact SubL.refl _ | apply SubL.skip))⟩
    · skip
      have hP : x.pl.all isT = true := by rw [pl_any] at h5; simpa using h5
      have hA : areT x l = tksOk x l l.length := by rw [areT, hH, hP]; rfl
      refine skp (h := ?_)
      refine q_seq (h := ?_)
      refine sq (h := ?_)
      refine rg (h := ?_)
      refine mkm (h := fun b1 => ?_)
      refine WL.y (hy := asg) (h := ?_)
      refine nl (h := ?_)
      refine q_seq (h := ?_)
      refine sq (h := ?_)
      refine sq (h := ?_)
      refine rg (h := ?_)
      refine WL.y (hy := mv) (h := ?_)
      refine WL.y (hy := lenS) (h := ?_)
      refine WL.y (hy := mv) (h := ?_)
      refine nl (h := ?_)
      refine q_seq (h := ?_)
      refine bk (h := ?_)
      refine lp (X := KZ) (I := fun z => z.k ≤ l.length ∧ MapN z.es z.kv ∧ tksOk x l z.k = true ∧ ∀ id, lkn z.kv id = bif dupT l z.k id then some (.int .i64 1) else none) (le := fun z => [(2, .pointer (some ⟨b0, 0, none⟩)), (5, .map (some b1)), (40, .slice lA l.length lc), (41, .int .i64 l.length), (42, .int .i64 z.k)]) (Le := fun z => [.blk b0 29 (x.cells pA pc), .obj b1 (.map z.es z.cl), .ro pA 1 x.pl.length (enI x.pl), .ro lA 4 l.length (encTk l)]) (μ := fun z => l.length - z.k) ⟨0, #[], 0, []⟩ ⟨Nat.zero_le _, mapN0, rfl, fun id => rfl⟩ (by repeat (first | exact trivial | refine ⟨rfl, ?_⟩)) (by repeat (first | exact SubL.nil | (apply SubL.cons; (repeat (first | exact At.here | apply At.there))) | exact SubL.refl _ | apply SubL.skip)) (fun z hz => ?_)
      obtain ⟨hzk, hz1, hz2, hz3⟩ := hz
      refine sq (h := ?_)
      refine rg (h := ?_)
      refine WL.y (hy := lss) (h := ?_)
      refine nl (h := ?_)
      refine q_seq (h := ?_)
      refine sq (h := ?_)
      refine cd (by exact rfl) (fun h6 => ?_) (fun h6 => ?_)
      · skip
        have hkn : z.k < l.length := by simp only [decide_eq_true_eq] at h6; omega
        obtain ⟨t, ht1⟩ : ∃ t, l[z.k]? = some t := ⟨_, List.getElem?_eq_getElem hkn⟩
        have hte := encTk_at ht1
        have hcr := cntT_rng l z.k t.id
        have hlk : (lkn z.kv t.id).getD (.int .i64 0) = .int .i64 (cntT l z.k t.id) := by rw [hz3, cntT]; cases dupT l z.k t.id <;> rfl
        have hlk1 : (lkn (upn z.kv t.id (.int .i64 (cntT l z.k t.id + 1))) t.id).getD (.int .i64 0) = .int .i64 (cntT l z.k t.id + 1) := by rw [lkn_up, if_pos rfl]; rfl
        have hst := tksOk_succ (x := x) ht1
        refine skp (h := ?_)
        refine q_seq (h := ?_)
        refine sq (h := ?_)
        refine bk (h := ?_)
        refine sq (h := ?_)
        refine rg (h := ?_)
        refine WL.y (hy := ix (A := lA)) (h := ?_)
        refine WL.y (hy := ldEA (A := lA) (hk := hte)) (h := ?_)
        refine al (h := fun b2 => ?_)
        first | refine stA (h := ?_) | refine stEA (h := ?_)
        refine nl (h := ?_)
        refine q_seq (h := ?_)
        refine sq (h := ?_)
        refine sq (h := ?_)
        refine rg (h := ?_)
        refine WL.y (hy := mv) (h := ?_)
        refine WL.y (hy := (by first | exact fa | exact faE)) (h := ?_)
        refine WL.y (hy := (by first | exact ld | exact ldE)) (h := ?_)
        refine WL.y (hy := Yd.to (lkNI hz1) hlk) (h := ?_)
        refine WL.y (hy := addI) (h := ?_)
        refine mupN hz1 (h := fun es1 cl1 hm1 => ?_)
        refine nl (h := ?_)
        refine q_seq (h := ?_)
        refine sq (h := ?_)
        refine rg (h := ?_)
        refine WL.y (hy := mv) (h := ?_)
        refine WL.y (hy := (by first | exact fa | exact faE)) (h := ?_)
        refine WL.y (hy := (by first | exact ld | exact ldE)) (h := ?_)
        refine WL.y (hy := Yd.to (lkNI hm1) hlk1) (h := ?_)
        refine WL.y (hy := gtr) (h := ?_)
        refine nl (h := ?_)
        refine q_seq (h := ?_)
        refine cd (by exact rfl) (fun h7 => ?_) (fun h7 => ?_)
        · skip
          have hd : dupT l z.k t.id = true := by
            have h' : decide ((1 : Int) < cntT l z.k t.id + 1) = true := h7
            unfold cntT at h'
            cases hd : dupT l z.k t.id
            · rw [hd] at h'; simp at h'
            · rfl
          have hE : areT x l = false := by rw [hA]; exact tksOk_le (j := z.k + 1) (by rw [hst, hd]; simp) (by omega)
          refine sq (h := ?_)
          refine rg (h := ?_)
          refine WL.y (hy := asg) (h := ?_)
          refine nl (h := ?_)
          refine q_seq (h := ?_)
          refine rtn (h := ?_)
          refine q_then_ret (h := ?_)
          refine q_blk_ret (h := ?_)
          refine q_then_ret (h := ?_)
          refine q_then_ret (h := ?_)
          refine q_blk_ret (h := ?_)
          refine q_then_ret (h := ?_)
          refine q_ret (hR := ?_)
          rw [hE]
          exact fun w hS => ⟨rfl, hS.sub (by repeat (first | exact SubL.nil | (apply SubL.cons; (repeat (first | exact At.here | apply At.there))) | exact SubL.refl _ | apply SubL.skip))⟩
        · skip
          have hd : dupT l z.k t.id = false := by
            have h' : decide ((1 : Int) < cntT l z.k t.id + 1) = false := h7
            unfold cntT at h'
            cases hd : dupT l z.k t.id
            · rfl
            · rw [hd] at h'; simp at h'
          have hc0 : cntT l z.k t.id = 0 := by unfold cntT; rw [hd]; rfl
          refine skp (h := ?_)
          refine q_seq (h := ?_)
          refine sq (h := ?_)
          refine rg (h := ?_)
          refine WL.y (hy := (by first | exact fa | exact faE)) (h := ?_)
          refine WL.y (hy := (by first | exact ld | exact ldE)) (h := ?_)
          refine cl0 (hc := fun w hS => C_gate_within ..) (h := ?_)
          refine WL.y (hy := notB) (h := ?_)
          refine WL.y (hy := mv) (h := ?_)
          apply brOr 5 60 65 (by exact rfl)
          · intro hb8
            refine un (h := ?_)
            refine WL.y (hy := (by first | exact fa | exact faE)) (h := ?_)
            refine un (h := ?_)
            refine WL.y (hy := (by first | exact ld | exact ldE)) (h := ?_)
            refine un (h := ?_)
            refine cl0 (hc := fun w hS => C_gate_within ..) (h := ?_)
            refine un (h := ?_)
            refine WL.y (hy := notB) (h := ?_)
            refine WL.y (hy := (by first | exact pkT | exact pkF)) (h := ?_)
            exact mg (by repeat (first | exact trivial | refine ⟨rfl, ?_⟩ | refine ⟨by rw [hb8]; rfl, ?_⟩)) (by repeat (first | exact SubL.nil | (apply SubL.cons; (repeat (first | exact At.here | apply At.there))) | exact SubL.refl _ | apply SubL.skip))
          · intro hb8
            repeat (first | refine un (h := ?_) | refine sk (h := ?_) | refine WL.y (hy := pkF) (h := ?_) | refine WL.y (hy := pkT) (h := ?_))
            exact mg (by repeat (first | exact trivial | refine ⟨rfl, ?_⟩ | refine ⟨by rw [hb8]; rfl, ?_⟩)) (by repeat (first | exact SubL.nil | (apply SubL.cons; (repeat (first | exact At.here | apply At.there))) | exact SubL.refl _ | apply SubL.skip))
          refine WL.y (hy := mv) (h := ?_)
          apply brOr 9 66 75 (by exact rfl)
          · intro hb9
            refine un (h := ?_)
            refine WL.y (hy := (by first | exact fa | exact faE)) (h := ?_)
            refine un (h := ?_)
            refine WL.y (hy := (by first | exact ld | exact ldE)) (h := ?_)
            refine un (h := ?_)
            refine WL.y (hy := (by first | exact fa | exact faE)) (h := ?_)
            refine un (h := ?_)
            refine WL.y (hy := (by first | exact ld | exact ldE)) (h := ?_)
            refine un (h := ?_)
            refine WL.y (hy := lenS) (h := ?_)
            refine un (h := ?_)
            refine WL.y (hy := subI) (h := ?_)
            refine un (h := ?_)
            refine cl0 (hc := fun w hS => C_gate_within ..) (h := ?_)
            refine un (h := ?_)
            refine WL.y (hy := notB) (h := ?_)
            refine WL.y (hy := (by first | exact pkT | exact pkF)) (h := ?_)
            exact mg (by repeat (first | exact trivial | refine ⟨rfl, ?_⟩ | refine ⟨by rw [hb9]; rfl, ?_⟩)) (by repeat (first | exact SubL.nil | (apply SubL.cons; (repeat (first | exact At.here | apply At.there))) | exact SubL.refl _ | apply SubL.skip))
          · intro hb9
            repeat (first | refine un (h := ?_) | refine sk (h := ?_) | refine WL.y (hy := pkF) (h := ?_) | refine WL.y (hy := pkT) (h := ?_))
            exact mg (by repeat (first | exact trivial | refine ⟨rfl, ?_⟩ | refine ⟨by rw [hb9]; rfl, ?_⟩)) (by repeat (first | exact SubL.nil | (apply SubL.cons; (repeat (first | exact At.here | apply At.there))) | exact SubL.refl _ | apply SubL.skip))
          refine WL.y (hy := mv) (h := ?_)
          apply brOr 7 76 83 (by exact rfl)
          · intro hb10
            refine un (h := ?_)
            refine WL.y (hy := (by first | exact fa | exact faE)) (h := ?_)
            refine un (h := ?_)
            refine WL.y (hy := (by first | exact ld | exact ldE)) (h := ?_)
            refine un (h := ?_)
            refine WL.y (hy := (by first | exact fa | exact faE)) (h := ?_)
            refine un (h := ?_)
            refine WL.y (hy := (by first | exact ld | exact ldE)) (h := ?_)
            refine un (h := ?_)
            refine cl0 (hc := fun w hS => C_gate_within ..) (h := ?_)
            refine un (h := ?_)
            refine WL.y (hy := notB) (h := ?_)
            refine WL.y (hy := (by first | exact pkT | exact pkF)) (h := ?_)
            exact mg (by repeat (first | exact trivial | refine ⟨rfl, ?_⟩ | refine ⟨by rw [hb10]; rfl, ?_⟩)) (by repeat (first | exact SubL.nil | (apply SubL.cons; (repeat (first | exact At.here | apply At.there))) | exact SubL.refl _ | apply SubL.skip))
          · intro hb10
            repeat (first | refine un (h := ?_) | refine sk (h := ?_) | refine WL.y (hy := pkF) (h := ?_) | refine WL.y (hy := pkT) (h := ?_))
            exact mg (by repeat (first | exact trivial | refine ⟨rfl, ?_⟩ | refine ⟨by rw [hb10]; rfl, ?_⟩)) (by repeat (first | exact SubL.nil | (apply SubL.cons; (repeat (first | exact At.here | apply At.there))) | exact SubL.refl _ | apply SubL.skip))
          refine nl (h := ?_)
          refine q_seq (h := ?_)
          refine cd (by exact rfl) (fun h11 => ?_) (fun h11 => ?_)
          · skip
            have hE : areT x l = false := by rw [tk_not] at h11; rw [hA]; exact tksOk_le (j := z.k + 1) (by rw [hst, (by simpa using h11 : tkOk x t = false)]; simp) (by omega)
            refine sq (h := ?_)
            refine rg (h := ?_)
            refine WL.y (hy := asg) (h := ?_)
            refine nl (h := ?_)
            refine q_seq (h := ?_)
            refine rtn (h := ?_)
            refine q_blk_ret (h := ?_)
            refine q_then_ret (h := ?_)
            refine q_then_ret (h := ?_)
            refine q_blk_ret (h := ?_)
            refine q_then_ret (h := ?_)
            refine q_ret (hR := ?_)
            rw [hE]
            exact fun w hS => ⟨rfl, hS.sub (by repeat (first | exact SubL.nil | (apply SubL.cons; (repeat (first | exact At.here | apply At.there))) | exact SubL.refl _ | apply SubL.skip))⟩
          · skip
            have hto : tkOk x t = true := by rw [tk_not] at h11; simpa using h11
            refine skp (h := ?_)
            refine q_blk_norm (h := ?_)
            refine q_seq (h := ?_)
            refine rg (h := ?_)
            refine WL.y (hy := addI) (h := ?_)
            refine WL.y (hy := mv) (h := ?_)
            refine nl (h := ?_)
            refine rn (x := z) ⟨z.k + 1, es1, cl1, _⟩ ⟨by dsimp only; omega, hm1, by rw [hst, hz2, hd, hto]; rfl, fun id => by
              rw [lkn_up, hz3, dupT_succ ht1, hc0]
              by_cases e : id = t.id
              · rw [if_pos e, decide_eq_true e.symm, Bool.or_true]; rfl
              · rw [if_neg e, decide_eq_false (fun e' => e e'.symm), Bool.or_false]⟩ (by dsimp only; omega) (by repeat (first | exact trivial | refine ⟨rfl, ?_⟩)) (by repeat (first | exact SubL.nil | (apply SubL.cons; (repeat (first | exact At.here | apply At.there))) | exact SubL.refl _ | apply SubL.skip))
      · skip
        have hkn : z.k = l.length := by simp only [decide_eq_false_iff_not] at h6; omega
        have hE : areT x l = true := by rw [hA, ← hkn]; exact hz2
        refine et (h := ?_)
        refine q_then_exit (h := ?_)
        refine q_then_exit (h := ?_)
        refine q_blk_hit (h := ?_)
        refine q_seq (h := ?_)
        refine sq (h := ?_)
        refine rg (h := ?_)
        refine WL.y (hy := asg) (h := ?_)
        refine nl (h := ?_)
        refine q_seq (h := ?_)
        refine rtn (h := ?_)
        refine q_ret (hR := ?_)
        rw [hE]
        exact fun w hS => ⟨rfl, hS.sub (by repeat (first | exact SubL.nil | (apply SubL.cons; (repeat (first | exact At.here | apply At.there))) | exact SubL.refl _ | apply SubL.skip))⟩

def rfV (x : Tm) (t : Tkt) (n : Int) : Int := max 0 ((bif decide (n < x.short) then t.price else bif decide (n < x.long) then t.price / 2 else 0) - t.paid)
theorem C_gate_refund (x : Tm) (l : List Tkt) (pA : Option Addr) (pc : Nat) (t : Tkt) (n : Int) (ht : TOk x l) (hm : t ∈ l) (hn : x.pl[t.day.toNat]? = some n) (w : World) (h : Rd w pA 1 x.pl.length (enI x.pl)) : C0 Try.prog 32 [x.val pA pc, t.val] w (.int .i64 (rfV x t n)) := by
  obtain ⟨h1, h2, h3, h4⟩ := ht.tk t hm
  have hpl := ht.np
  obtain ⟨k, hk⟩ : ∃ k : Nat, t.day = k := ⟨t.day.toNat, by omega⟩
  rw [hk, Int.toNat_natCast] at hn
  have hne := enI_at hn
  rw [show t.val = .agg #[.int .i64 t.id, .int .i64 t.price, .int .i64 (k : Int), .int .i64 t.paid] by rw [← hk]]
  refine ⟨en Try.func32 Try.ntmps32 ((St.init w).share (e := .ro pA 1 x.pl.length (enI x.pl)) h rfl rfl rfl) (h := fun F => ?_)⟩
  refine sq (h := ?_)
  refine rg (h := ?_)
  refine bxA (h := fun b0 => ?_)
  refine bxA (h := fun b1 => ?_)
  refine WL.y (hy := asg) (h := ?_)
  refine nl (h := ?_)
  refine q_seq (h := ?_)
  refine sq (h := ?_)
  refine rg (h := ?_)
  refine WL.y (hy := asg) (h := ?_)
  refine nl (h := ?_)
  refine q_seq (h := ?_)
  refine sq (h := ?_)
  refine sq (h := ?_)
  refine rg (h := ?_)
  refine WL.y (hy := (by first | exact fa | exact faE)) (h := ?_)
  refine WL.y (hy := (by first | exact ld | exact ldE)) (h := ?_)
  refine WL.y (hy := (by first | exact fa | exact faE)) (h := ?_)
  refine WL.y (hy := (by first | exact ld | exact ldE)) (h := ?_)
  refine WL.y (hy := ix (A := pA) (m := x.pl.length)) (h := ?_)
  refine WL.y (hy := ldE (A := pA) (hk := hne)) (h := ?_)
  refine WL.y (hy := asg) (h := ?_)
  refine nl (h := ?_)
  refine q_seq (h := ?_)
  refine bk (h := ?_)
  refine sq (h := ?_)
  refine rg (h := ?_)
  refine WL.y (hy := mv) (h := ?_)
  refine WL.y (hy := (by first | exact fa | exact faE)) (h := ?_)
  refine WL.y (hy := (by first | exact ld | exact ldE)) (h := ?_)
  refine WL.y (hy := lss) (h := ?_)
  refine WL.y (hy := asg) (h := ?_)
  refine nl (h := ?_)
  refine q_seq (h := ?_)
  refine cd (by exact rfl) (fun h0 => ?_) (fun h0 => ?_)
  · skip
    have hE : rfV x t n = max 0 (t.price - t.paid) := by rw [rfV, h0]; rfl
    refine rg (h := ?_)
    refine WL.y (hy := (by first | exact fa | exact faE)) (h := ?_)
    refine WL.y (hy := (by first | exact ld | exact ldE)) (h := ?_)
    refine WL.y (hy := asg) (h := ?_)
    refine nl (h := ?_)
    refine q_blk_norm (h := ?_)
    refine q_seq (h := ?_)
    refine sq (h := ?_)
    refine rg (h := ?_)
    refine WL.y (hy := mv) (h := ?_)
    refine WL.y (hy := (by first | exact fa | exact faE)) (h := ?_)
    refine WL.y (hy := (by first | exact ld | exact ldE)) (h := ?_)
    refine WL.y (hy := subI) (h := ?_)
    refine WL.y (hy := maxI) (h := ?_)
    refine WL.y (hy := asg) (h := ?_)
    refine nl (h := ?_)
    refine q_seq (h := ?_)
    refine rtn (h := ?_)
    refine q_ret (hR := ?_)
    rw [hE]
    exact fun w hS => ⟨rfl, hS.sub (by repeat (first | exact SubL.nil | (apply SubL.cons; (repeat (first | exact At.here | apply At.there))) | exact SubL.refl _ | apply SubL.skip))⟩
  · skip
    skip
    refine sq (h := ?_)
    refine rg (h := ?_)
    refine WL.y (hy := mv) (h := ?_)
    refine WL.y (hy := (by first | exact fa | exact faE)) (h := ?_)
    refine WL.y (hy := (by first | exact ld | exact ldE)) (h := ?_)
    refine WL.y (hy := lss) (h := ?_)
    refine WL.y (hy := asg) (h := ?_)
    refine nl (h := ?_)
    refine q_seq (h := ?_)
    refine cd (by exact rfl) (fun h1 => ?_) (fun h1 => ?_)
    · skip
      have hE : rfV x t n = max 0 (t.price / 2 - t.paid) := by rw [rfV]; simp only [*]; rfl
      refine rg (h := ?_)
      refine WL.y (hy := (by first | exact fa | exact faE)) (h := ?_)
      refine WL.y (hy := (by first | exact ld | exact ldE)) (h := ?_)
      refine WL.y (hy := quoI) (h := ?_)
      refine WL.y (hy := asg) (h := ?_)
      refine nl (h := ?_)
      refine q_blk_norm (h := ?_)
      refine q_seq (h := ?_)
      refine sq (h := ?_)
      refine rg (h := ?_)
      refine WL.y (hy := mv) (h := ?_)
      refine WL.y (hy := (by first | exact fa | exact faE)) (h := ?_)
      refine WL.y (hy := (by first | exact ld | exact ldE)) (h := ?_)
      refine WL.y (hy := subI) (h := ?_)
      refine WL.y (hy := maxI) (h := ?_)
      refine WL.y (hy := asg) (h := ?_)
      refine nl (h := ?_)
      refine q_seq (h := ?_)
      refine rtn (h := ?_)
      refine q_ret (hR := ?_)
      rw [hE]
      exact fun w hS => ⟨rfl, hS.sub (by repeat (first | exact SubL.nil | (apply SubL.cons; (repeat (first | exact At.here | apply At.there))) | exact SubL.refl _ | apply SubL.skip))⟩
    · skip
      have hE : rfV x t n = max 0 (0 - t.paid) := by rw [rfV]; simp only [*]; rfl
      refine skp (h := ?_)
      refine q_blk_norm (h := ?_)
      refine q_seq (h := ?_)
      refine sq (h := ?_)
      refine rg (h := ?_)
      refine WL.y (hy := mv) (h := ?_)
      refine WL.y (hy := (by first | exact fa | exact faE)) (h := ?_)
      refine WL.y (hy := (by first | exact ld | exact ldE)) (h := ?_)
      refine WL.y (hy := subI) (h := ?_)
      refine WL.y (hy := maxI) (h := ?_)
      refine WL.y (hy := asg) (h := ?_)
      refine nl (h := ?_)
      refine q_seq (h := ?_)
      refine rtn (h := ?_)
      refine q_ret (hR := ?_)
      rw [hE]
      exact fun w hS => ⟨rfl, hS.sub (by repeat (first | exact SubL.nil | (apply SubL.cons; (repeat (first | exact At.here | apply At.there))) | exact SubL.refl _ | apply SubL.skip))⟩

def rfsTo (x : Tm) (l : List Tkt) : Nat → List Int
  | 0 => []
  | k + 1 => match l[k]? with
    | some t => rfsTo x l k ++ [rfV x t ((x.pl[t.day.toNat]?).getD 0)]
    | none => rfsTo x l k
def rfsV (x : Tm) (l : List Tkt) : List Int := rfsTo x l l.length
theorem rfsTo_len (x : Tm) (l : List Tkt) : ∀ k, k ≤ l.length → (rfsTo x l k).length = k
  | 0, _ => rfl
  | k + 1, hk => by
    have hx : l[k]? = some l[k] := List.getElem?_eq_getElem (by omega)
    have ih := rfsTo_len x l k (by omega)
    rw [rfsTo, hx]; simp [ih]
structure RfR where
  (A : Option Addr) (n c : Nat) (xs : List Int) (e : Int)
structure RfZ where
  (k : Nat) (A : Option Addr) (c : Nat)
def rfOk (x : Tm) (l : List Tkt) (r : RfR) : Prop := r.xs.length = r.n ∧ r.n ≤ 40 ∧ r.e = (bif areT x l then 0 else 111) ∧ r.xs = bif areT x l then rfsV x l else []
theorem rf_day {x : Tm} {l : List Tkt} (h : TOk x l) {t : Tkt} (ht : t ∈ l) : ∃ n, x.pl[t.day.toNat]? = some n := by
  have := (h.tk t ht).2.2.1
  exact ⟨_, List.getElem?_eq_getElem (by omega)⟩
set_option maxHeartbeats 1000000 in
theorem C_gate_Refund (x : Tm) (l : List Tkt) (pA lA : Option Addr) (pc lc : Nat) (w : World) (h : TRd w x l pA lA) : CR Try.prog 10 [x.val pA pc, .slice lA l.length lc] w (rfOk x l) (fun r => .tuple #[.slice r.A r.n r.c, .int .i64 r.e]) (fun r => [.own r.A r.c 3 1 r.n (enI r.xs)]) := by
  obtain ⟨hp, hl, hpn, hln⟩ := h
  refine ⟨en Try.func10 Try.ntmps10 (((St.init w).share (e := .ro pA 1 x.pl.length (enI x.pl)) hp rfl rfl rfl).share (e := .ro lA 4 l.length (encTk l)) hl rfl rfl rfl) (h := fun F => ?_)⟩
  refine sq (h := ?_)
  refine rg (h := ?_)
  refine bxA (h := fun b0 => ?_)
  refine WL.y (hy := asg) (h := ?_)
  refine WL.y (hy := asg) (h := ?_)
  refine nl (h := ?_)
  refine q_seq (h := ?_)
  refine sq (h := ?_)
  refine sq (h := ?_)
  refine rg (h := ?_)
  refine WL.y (hy := (by first | exact ldA | exact ldEA)) (h := ?_)
  refine WL.y (hy := mv) (h := ?_)
  refine cl0 (hc := fun w hS => C_gate_areTickets x l pA lA pc lc w ⟨hS.get, hS.get, hpn, hln⟩) (h := ?_)
  refine WL.y (hy := notB) (h := ?_)
  refine nl (h := ?_)
  refine q_seq (h := ?_)
  refine cd (by exact rfl) (fun h0 => ?_) (fun h0 => ?_)
  · skip
    have hb : areT x l = false := by simpa using h0
    refine WC.nilOwn 3 1 (h := ?_)
    refine sq (h := ?_)
    refine rg (h := ?_)
    refine WL.y (hy := asg) (h := ?_)
    refine WL.y (hy := asg) (h := ?_)
    refine nl (h := ?_)
    refine q_seq (h := ?_)
    refine rtn (h := ?_)
    refine q_then_ret (h := ?_)
    refine q_ret (hR := ?_)
    exact fun w hS => ⟨⟨none, 0, 0, [], 111⟩, ⟨rfl, Nat.zero_le _, by rw [hb]; rfl, by rw [hb]; rfl⟩, rfl, hS.sub (by repeat (first | exact SubL.nil | (apply SubL.cons; (repeat (first | exact At.here | apply At.there))) | exact SubL.refl _ | apply SubL.skip))⟩
  · skip
    have hb : areT x l = true := by simpa using h0
    have ht := t_ok hb
    have hl40 := ht.nl
    refine WC.nilOwn 3 1 (h := ?_)
    refine skp (h := ?_)
    refine q_seq (h := ?_)
    refine sq (h := ?_)
    refine rg (h := ?_)
    refine WL.y (hy := asg) (h := ?_)
    refine nl (h := ?_)
    refine q_seq (h := ?_)
    refine sq (h := ?_)
    refine sq (h := ?_)
    refine rg (h := ?_)
    refine WL.y (hy := mv) (h := ?_)
    refine WL.y (hy := lenS) (h := ?_)
    refine WL.y (hy := mv) (h := ?_)
    refine nl (h := ?_)
    refine q_seq (h := ?_)
    refine bk (h := ?_)
    refine lp (X := RfZ) (I := fun z => z.k ≤ l.length) (le := fun z => [(2, .pointer (some ⟨b0, 0, none⟩)), (6, .slice z.A (rfsTo x l z.k).length z.c), (13, .slice lA l.length lc), (14, .int .i64 l.length), (15, .int .i64 z.k)]) (Le := fun z => [.blk b0 29 (x.cells pA pc), .own z.A z.c 3 1 (rfsTo x l z.k).length (enI (rfsTo x l z.k)), .ro pA 1 x.pl.length (enI x.pl), .ro lA 4 l.length (encTk l)]) (μ := fun z => l.length - z.k) ⟨0, none, 0⟩ (Nat.zero_le _) (by repeat (first | exact trivial | refine ⟨rfl, ?_⟩)) (by repeat (first | exact SubL.nil | (apply SubL.cons; (repeat (first | exact At.here | apply At.there))) | exact SubL.refl _ | apply SubL.skip)) (fun z hz => ?_)
    refine sq (h := ?_)
    refine rg (h := ?_)
    refine WL.y (hy := lss) (h := ?_)
    refine nl (h := ?_)
    refine q_seq (h := ?_)
    refine sq (h := ?_)
    refine cd (by exact rfl) (fun h1 => ?_) (fun h1 => ?_)
    · skip
      have hkn : z.k < l.length := by simp only [decide_eq_true_eq] at h1; omega
      obtain ⟨t, ht1⟩ : ∃ t, l[z.k]? = some t := ⟨_, List.getElem?_eq_getElem hkn⟩
      have hte := encTk_at ht1
      obtain ⟨m, hm⟩ := rf_day ht (List.mem_of_getElem? ht1)
      have hl1 : rfsTo x l (z.k + 1) = rfsTo x l z.k ++ [rfV x t m] := by rw [rfsTo, ht1]; dsimp only; rw [hm]; rfl
      have hl2 : enI (rfsTo x l (z.k + 1)) = enI (rfsTo x l z.k) ++ [[.int .i64 (rfV x t m)]] := by rw [hl1, enI_app]
      have hln0 := rfsTo_len x l z.k (by omega)
      have hln1 : (rfsTo x l (z.k + 1)).length = (rfsTo x l z.k).length + 1 := by simp [hl1]
      refine skp (h := ?_)
      refine q_seq (h := ?_)
      refine sq (h := ?_)
      refine bk (h := ?_)
      refine sq (h := ?_)
      refine rg (h := ?_)
      refine WL.y (hy := ix (A := lA)) (h := ?_)
      refine WL.y (hy := ldEA (A := lA) (hk := hte)) (h := ?_)
      refine al (h := fun b1 => ?_)
      first | refine stA (h := ?_) | refine stEA (h := ?_)
      refine nl (h := ?_)
      refine q_seq (h := ?_)
      refine rg (h := ?_)
      refine WL.y (hy := mv) (h := ?_)
      refine WL.y (hy := (by first | exact ldA | exact ldEA)) (h := ?_)
      refine WL.y (hy := (by first | exact ldA | exact ldEA)) (h := ?_)
      refine cl0 (hc := fun w hS => C_gate_refund x l pA pc t m ht (List.mem_of_getElem? ht1) hm w hS.get) (h := ?_)
      refine bs (h := fun b2 => ?_)
      first | refine ap (h := fun A1 c1 => ?_) | refine ap0 (h := fun A1 c1 => ?_)
      refine WL.y (hy := asg) (h := ?_)
      refine nl (h := ?_)
      refine q_blk_norm (h := ?_)
      refine q_seq (h := ?_)
      refine rg (h := ?_)
      refine WL.y (hy := addI) (h := ?_)
      refine WL.y (hy := mv) (h := ?_)
      refine nl (h := ?_)
      refine rn (x := z) ⟨z.k + 1, _, _⟩ (by dsimp only; omega) (by dsimp only; omega) (by dsimp only; rw [hln1]; repeat (first | exact trivial | refine ⟨rfl, ?_⟩)) (by dsimp only; rw [hl2, hln1]; repeat (first | exact SubL.nil | (apply SubL.cons; (repeat (first | exact At.here | apply At.there))) | exact SubL.refl _ | apply SubL.skip))
    · skip
      have hkn : z.k = l.length := by simp only [decide_eq_false_iff_not] at h1; omega
      rw [hkn]
      refine et (h := ?_)
      refine q_then_exit (h := ?_)
      refine q_then_exit (h := ?_)
      refine q_blk_hit (h := ?_)
      refine q_seq (h := ?_)
      refine sq (h := ?_)
      refine rg (h := ?_)
      refine WL.y (hy := mv) (h := ?_)
      refine WL.y (hy := asg) (h := ?_)
      refine WL.y (hy := asg) (h := ?_)
      refine nl (h := ?_)
      refine q_seq (h := ?_)
      refine rtn (h := ?_)
      refine q_ret (hR := ?_)
      exact fun w hS => ⟨⟨z.A, _, z.c, rfsTo x l l.length, 0⟩, ⟨rfl, by have := rfsTo_len x l l.length (Nat.le_refl _); dsimp only; omega, by rw [hb]; rfl, by rw [hb]; rfl⟩, rfl, hS.sub (by repeat (first | exact SubL.nil | (apply SubL.cons; (repeat (first | exact At.here | apply At.there))) | exact SubL.refl _ | apply SubL.skip))⟩
def sumI : List Int → Int
  | [] => 0
  | x :: xs => x + sumI xs
theorem sumI_take {xs : List Int} : ∀ {k : Nat} {x : Int}, xs[k]? = some x → sumI (xs.take (k + 1)) = sumI (xs.take k) + x := by
  induction xs with
  | nil => intro k x h; simp at h
  | cons y ys ih =>
    intro k x h
    cases k with
    | zero => simp only [List.getElem?_cons_zero, Option.some.injEq] at h; subst h; simp [sumI]
    | succ k =>
      have := ih (k := k) (x := x) (by simpa using h)
      simp only [List.take_succ_cons, sumI, this]
      omega
def totV (x : Tm) (l : List Tkt) : Int := bif areT x l then sumI (rfsV x l) else 0
theorem rfV_rng {x : Tm} {l : List Tkt} (h : TOk x l) {t : Tkt} (ht : t ∈ l) (n : Int) : 0 ≤ rfV x t n ∧ rfV x t n + t.paid ≤ t.price := by
  have := h.tk t ht
  unfold rfV
  cases decide (n < x.short) <;> cases decide (n < x.long) <;> simp only [cond_true, cond_false] <;> omega
theorem rfsTo_mem {x : Tm} {l : List Tkt} (h : TOk x l) : ∀ k, ∀ n ∈ rfsTo x l k, 0 ≤ n ∧ n ≤ 1000000
  | 0, n, hn => by simp [rfsTo] at hn
  | k + 1, n, hn => by
    rw [rfsTo] at hn
    cases hk : l[k]? with
    | none => rw [hk] at hn; exact rfsTo_mem h k n hn
    | some t =>
      rw [hk] at hn
      rcases List.mem_append.1 hn with hn | hn
      · exact rfsTo_mem h k n hn
      · simp only [List.mem_singleton] at hn
        have ht := List.mem_of_getElem? hk
        have := rfV_rng h ht ((x.pl[t.day.toNat]?).getD 0)
        have := h.tk t ht
        omega
theorem sumI_rng {xs : List Int} (h : ∀ n ∈ xs, 0 ≤ n ∧ n ≤ 1000000) : 0 ≤ sumI xs ∧ sumI xs ≤ 1000000 * xs.length := by
  induction xs with
  | nil => simp [sumI]
  | cons y ys ih =>
    have := ih fun n hn => h n (List.mem_cons_of_mem _ hn)
    have := h y (List.mem_cons_self ..)
    simp only [sumI, List.length_cons]
    omega
set_option maxHeartbeats 1000000 in
theorem C_gate_Total (x : Tm) (l : List Tkt) (pA lA : Option Addr) (pc lc : Nat) (w : World) (h : TRd w x l pA lA) : C0 Try.prog 23 [x.val pA pc, .slice lA l.length lc] w (.tuple #[.int .i64 (totV x l), .int .i64 (bif areT x l then 0 else 111)]) := by
  obtain ⟨hp, hl, hpn, hln⟩ := h
  refine ⟨en Try.func23 Try.ntmps23 (((St.init w).share (e := .ro pA 1 x.pl.length (enI x.pl)) hp rfl rfl rfl).share (e := .ro lA 4 l.length (encTk l)) hl rfl rfl rfl) (h := fun F => ?_)⟩
  refine sq (h := ?_)
  refine rg (h := ?_)
  refine bxA (h := fun b0 => ?_)
  refine WL.y (hy := asg) (h := ?_)
  refine WL.y (hy := asg) (h := ?_)
  refine nl (h := ?_)
  refine q_seq (h := ?_)
  refine sq (h := ?_)
  refine rg (h := ?_)
  refine WL.y (hy := (by first | exact ldA | exact ldEA)) (h := ?_)
  refine WL.y (hy := mv) (h := ?_)
  refine cl (hc := fun w hS => C_gate_Refund x l pA lA pc lc w ⟨hS.get, hS.get, hpn, hln⟩) (h := fun x0 hx0 => ?_)
  obtain ⟨hx1, hx2, hx3, hx4⟩ := hx0
  have hmem : ∀ n ∈ x0.xs, 0 ≤ n ∧ n ≤ 1000000 := by
    rw [hx4]; cases hb : areT x l
    · intro n hn; cases hn
    · exact rfsTo_mem (t_ok hb) _
  refine WL.y (hy := mv) (h := ?_)
  refine WL.y (hy := ex) (h := ?_)
  refine WL.y (hy := ex) (h := ?_)
  refine WL.y (hy := asg) (h := ?_)
  refine WL.y (hy := asg) (h := ?_)
  refine nl (h := ?_)
  refine q_seq (h := ?_)
  refine sq (h := ?_)
  refine rg (h := ?_)
  refine WL.y (hy := asg) (h := ?_)
  refine nl (h := ?_)
  refine q_seq (h := ?_)
  refine sq (h := ?_)
  refine sq (h := ?_)
  refine rg (h := ?_)
  refine WL.y (hy := mv) (h := ?_)
  refine WL.y (hy := lenS) (h := ?_)
  refine WL.y (hy := mv) (h := ?_)
  refine nl (h := ?_)
  refine q_seq (h := ?_)
  refine bk (h := ?_)
  refine lp (X := IZ) (I := fun z => z.k ≤ x0.n) (le := fun z => [(7, .int .i64 x0.e), (8, .int .i64 (sumI (x0.xs.take z.k))), (17, .slice x0.A x0.n x0.c), (18, .int .i64 x0.n), (19, .int .i64 z.k)]) (Le := fun z => [.own x0.A x0.c 3 1 x0.n (enI x0.xs)]) (μ := fun z => x0.n - z.k) ⟨0⟩ (Nat.zero_le _) (by repeat (first | exact trivial | refine ⟨rfl, ?_⟩)) (by repeat (first | exact SubL.nil | (apply SubL.cons; (repeat (first | exact At.here | apply At.there))) | exact SubL.refl _ | apply SubL.skip)) (fun z hz => ?_)
  refine sq (h := ?_)
  refine rg (h := ?_)
  refine WL.y (hy := lss) (h := ?_)
  refine nl (h := ?_)
  refine q_seq (h := ?_)
  refine sq (h := ?_)
  refine cd (by exact rfl) (fun h0 => ?_) (fun h0 => ?_)
  · skip
    have hkn : z.k < x0.xs.length := by simp only [decide_eq_true_eq] at h0; omega
    obtain ⟨v, hv⟩ : ∃ v, x0.xs[z.k]? = some v := ⟨_, List.getElem?_eq_getElem hkn⟩
    have hve := enI_at hv
    have hst := sumI_take hv
    have hvr := hmem v (List.mem_of_getElem? hv)
    have hsr := sumI_rng (xs := x0.xs.take z.k) (fun n hn => hmem n (List.mem_of_mem_take hn))
    rw [List.length_take] at hsr
    refine skp (h := ?_)
    refine q_seq (h := ?_)
    refine sq (h := ?_)
    refine bk (h := ?_)
    refine sq (h := ?_)
    refine rg (h := ?_)
    refine WL.y (hy := ix (A := x0.A) (m := x0.n)) (h := ?_)
    refine WL.y (hy := ldE (A := x0.A) (hk := hve)) (h := ?_)
    refine WL.y (hy := asg) (h := ?_)
    refine nl (h := ?_)
    refine q_seq (h := ?_)
    refine rg (h := ?_)
    refine WL.y (hy := mv) (h := ?_)
    refine WL.y (hy := mv) (h := ?_)
    refine WL.y (hy := addI) (h := ?_)
    refine WL.y (hy := asg) (h := ?_)
    refine nl (h := ?_)
    refine q_blk_norm (h := ?_)
    refine q_seq (h := ?_)
    refine rg (h := ?_)
    refine WL.y (hy := addI) (h := ?_)
    refine WL.y (hy := mv) (h := ?_)
    refine nl (h := ?_)
    refine rn (x := z) ⟨z.k + 1⟩ (by dsimp only; omega) (by dsimp only; omega) (by dsimp only; rw [hst]; repeat (first | exact trivial | refine ⟨rfl, ?_⟩)) (by repeat (first | exact SubL.nil | (apply SubL.cons; (repeat (first | exact At.here | apply At.there))) | exact SubL.refl _ | apply SubL.skip))
  · skip
    have hkn : z.k = x0.n := by simp only [decide_eq_false_iff_not] at h0; omega
    have hs : sumI (x0.xs.take z.k) = totV x l := by rw [hkn, ← hx1, List.take_length, totV, hx4]; cases areT x l <;> rfl
    rw [hs]
    refine et (h := ?_)
    refine q_then_exit (h := ?_)
    refine q_then_exit (h := ?_)
    refine q_blk_hit (h := ?_)
    refine q_seq (h := ?_)
    refine sq (h := ?_)
    refine rg (h := ?_)
    refine WL.y (hy := mv) (h := ?_)
    refine WL.y (hy := mv) (h := ?_)
    refine WL.y (hy := asg) (h := ?_)
    refine WL.y (hy := asg) (h := ?_)
    refine nl (h := ?_)
    refine q_seq (h := ?_)
    refine rtn (h := ?_)
    refine q_ret (hR := ?_)
    rw [← hx3]
    exact fun w hS => ⟨rfl, hS.sub (by repeat (first | exact SubL.nil | (apply SubL.cons; (repeat (first | exact At.here | apply At.there))) | exact SubL.refl _ | apply SubL.skip))⟩
end Go.Proofs.Ytngelilffleimaa

namespace Go.Proofs.Ytngelilffleimaa
open Go Go.RowKit

abbrev g4 : List Sp := [.int .i64, .int .i64, .int .i64, .int .i64]
abbrev g2 : List Sp := [.int .i64, .int .i64]
abbrev queueSp : List Sp := [.int .i64, .int .i64, .int .i64, .int .i64, .sl g4, .sl g2]
theorem g4_open {w : World} {cs : List Value} (h : Mts w g4 cs) : ∃ a b c d : Int, cs = [.int .i64 a, .int .i64 b, .int .i64 c, .int .i64 d] := by
  obtain ⟨a, cs, rfl, _, h⟩ := Mts.int_inv h
  obtain ⟨b, cs, rfl, _, h⟩ := h.int_inv
  obtain ⟨c, cs, rfl, _, h⟩ := h.int_inv
  obtain ⟨d, cs, rfl, _, h⟩ := h.int_inv
  rw [h.nil_inv]
  exact ⟨a, b, c, d, rfl⟩
theorem g2_open {w : World} {cs : List Value} (h : Mts w g2 cs) : ∃ p : Fe, cs = [.int .i64 p.1, .int .i64 p.2] := by
  obtain ⟨a, cs, rfl, _, h⟩ := Mts.int_inv h
  obtain ⟨b, cs, rfl, _, h⟩ := h.int_inv
  rw [h.nil_inv]
  exact ⟨(a, b), rfl⟩
structure Ask where
  (rate minute id : Int)
abbrev Ask.val (x : Ask) : Value := .agg #[.int .i64 x.rate, .int .i64 x.minute, .int .i64 x.id]
theorem queue_open {w : World} {cs : List Value} (h : Mts w queueSp cs) : ∃ (q : Qu) (a : QA), Value.agg cs.toArray = q.val a ∧ QRd w q a ∧ q.gs.length ≤ a.gc ∧ q.fs.length ≤ a.fc ∧ a.gc ≤ 9223372036854775807 ∧ a.fc ≤ 9223372036854775807 := by
  obtain ⟨a1, cs, rfl, _, h⟩ := Mts.int_inv h
  obtain ⟨a2, cs, rfl, _, h⟩ := h.int_inv
  obtain ⟨a3, cs, rfl, _, h⟩ := h.int_inv
  obtain ⟨a4, cs, rfl, _, h⟩ := h.int_inv
  obtain ⟨A, n, c, xs, cs, rfl, hr, hn, hx, h⟩ := h.sl_invc
  obtain ⟨B, m, d, zs, cs, rfl, hr2, hm, hz, h⟩ := h.sl_invc
  rw [h.nil_inv]
  obtain ⟨gs, rfl⟩ := map_of (f := Pt.enc) (xs := xs) fun x hxm => by
    obtain ⟨a, b, c, d, rfl⟩ := g4_open (hx x hxm)
    exact ⟨⟨a, b, c, d⟩, rfl⟩
  obtain ⟨fs, rfl⟩ := map_of (f := fun f : Fe => [.int .i64 f.1, .int .i64 f.2]) (xs := zs) fun x hxm => g2_open (hz x hxm)
  have hl : gs.length = n := by have := hr.len; simpa using this
  have hl2 : fs.length = m := by have := hr2.len; simpa using this
  subst hl hl2
  exact ⟨⟨a1, a2, a3, a4, gs, fs⟩, ⟨A, B, c, d⟩, rfl, ⟨hr, hr2, by simp only; omega, by simp only; omega⟩, hn.1, hm.1, hn.2, hm.2⟩
end Go.Proofs.Ytngelilffleimaa

namespace Go.Proofs.Ytngelilffleimaa
open Go Go.RowKit

inductive Cut (d : Nat) : Env → Env → Prop
  | nil : Cut d [] []
  | hit {v : Value} {l l' : Env} (h : Cut d l l') : Cut d ((d, v) :: l) l'
  | miss {i : Nat} {v : Value} {l l' : Env} (hn : Nat.beq i d = false) (h : Cut d l l') : Cut d ((i, v) :: l) ((i, v) :: l')
theorem Cut.out {d : Nat} {l l' : Env} (h : Cut d l l') : ∀ k, k ≠ d → look l' k = look l k := by
  induction h with
  | nil => exact fun _ _ => rfl
  | hit _ ih => exact fun k hk => by rw [look_cons, if_neg (fun e => hk e.symm), ih k hk]
  | miss _ _ ih => exact fun k hk => by rw [look_cons, look_cons, ih k hk]
theorem Cut.fr {a : Act} {n : Nat} {D : List Deferred} {d : Nat} {v : Value} {l l' : Env} (h : Cut d l l') (hf : Fr a n D ((d, v) :: l)) : Fr a n D ((d, v) :: l') := by
  refine ⟨hf.size, fun k u hk => hf.slot k u ?_, hf.defers⟩
  rw [look_cons] at hk ⊢
  by_cases e : d = k
  · rw [if_pos e] at hk ⊢; exact hk
  · rw [if_neg e] at hk ⊢
    rw [← h.out k (fun x => e x.symm)]; exact hk
theorem WL.cut {F : Fence} {P : Program} {ops : Array Oper} {Q : Exit → Act → World → Prop} {rest : List Oper} {n : Nat} {D : List Deferred} {l l' : Env} {w0 : World} {L : List Ent} {d : Nat} {v : Value} (hc : Cut d l l') (h : WL F P ops Q rest n D ((d, v) :: l') w0 L) : WL F P ops Q rest n D ((d, v) :: l) w0 L :=
  fun hF a w hfr hst => h hF a w (hc.fr hfr) hst

theorem WC.cut {F : Fence} {P : Program} {c : Code} {Q : Exit → Act → World → Prop} {n : Nat} {D : List Deferred} {l l' : Env} {w0 : World} {L : List Ent} (d : Nat) {v : Value} (hv : look l d = some v) (hc : Cut d l l') (h : WC F P c Q n D ((d, v) :: l') w0 L) : WC F P c Q n D l w0 L :=
  fun hF a w hfr hst => h hF a w ⟨hfr.size, fun k u hk => by
    rw [look_cons] at hk
    by_cases e : d = k
    · subst e
      rw [if_pos rfl] at hk
      cases hk
      exact hfr.slot d v hv
    · rw [if_neg e, hc.out k (fun x => e x.symm)] at hk
      exact hfr.slot k u hk, hfr.defers⟩ hst
theorem clf0 {F : Fence} {P : Program} {ops : Array Oper} {Q : Exit → Act → World → Prop} {rest : List Oper} {n : Nat} {D : List Deferred} {l : Env} {w0 : World} {L : List Ent} {d : Nat} {ty : TypeId} {pos : String} {aft : Array Edge} {f : FuncId} (hf : FnOk P f := by infer_instance) {x : Operand} {fi cap : List Value} {xs : List Operand} {vs : List Value} {ts : Array TypeId} {v : Value}
    (hx : ev l x = some (.func (.func f) fi.toArray cap.toArray) := by exact rfl) (hargs : Evs l xs vs := by repeat (first | exact Evs.nil | (apply Evs.cons; exact rfl))) (hc : ∀ w, St w0 w L → C0 P f (fi ++ vs ++ cap) w v) (hd : Nat.blt d n = true := by rfl) (h : WL F P ops Q rest n D ((d, v) :: l) w0 L) :
    WL F P ops Q (⟨some d, .call { callee := .value x, args := xs.toArray, argTypes := ts }, ty, pos, aft, none⟩ :: rest) n D l w0 L :=
  WL.enter (by simp) hd fun a w hfr hst => ⟨run_callF hf hx hargs hfr w, Calls.mono (hc w hst).out fun e w' ⟨he, hs⟩ => ⟨v, he, L, by simpa using hst.join hs rfl, h⟩⟩

abbrev MR := Option Addr × Nat × List Int
def mI (l : List Int) : List (List Value) := l.map fun x => [.int .i64 x]
def mxV (hs : List MR) : List (List Value) := hs.map fun h => [.slice h.1 h.2.2.length h.2.1]
abbrev ownR (T : TypeId) (h : MR) : Ent := .own h.1 h.2.1 T 1 h.2.2.length (mI h.2.2)
def apR (T : TypeId) (h h' : MR) : Prop := ∀ b, (ownR T h).fp b → (ownR T h').fp b → False
def mxE (T : TypeId) (hs : List MR) : Ent := .gen true true (fun b => ∃ h ∈ hs, (ownR T h).fp b) (fun w => (∀ h ∈ hs, (ownR T h).ok w) ∧ hs.Pairwise (apR T))
  (fun w w' hb hok => ⟨fun h hh => Ent.ok_frame (e := ownR T h) (hok.1 h hh) fun b hf => hb b ⟨h, hh, hf⟩, hok.2⟩) (fun w b hok ⟨h, hh, hf⟩ => Ent.ok_lt (e := ownR T h) (hok.1 h hh) hf)
theorem mx_rd {T : TypeId} {hs : List MR} {i : Nat} {h : MR} (hi : hs[i]? = some h) : ∀ w, (mxE T hs).ok w → Rd w h.1 1 h.2.2.length (mI h.2.2) := fun w hw => (hw.1 h (List.mem_of_getElem? hi)).2
section
variable {w0 w : World} {L : List Ent} {T : TypeId}
end
section
variable {F : Fence} {P : Program} {ops : Array Oper} {Q : Exit → Act → World → Prop} {rest : List Oper} {n : Nat} {D : List Deferred} {l : Env} {w0 : World} {L M M' : List Ent} {T : TypeId}
end
def gv (hs : List MR) (a b : Nat) : Int := ((hs[a]?).getD (none, 0, [])).2.2.getD b 0
structure Mx (K : Nat) (hs : List MR) (V : List (List Value)) : Prop where
  v : mxV hs = V
  len : hs.length = K
  row : ∀ h ∈ hs, h.2.2.length = K
theorem Mx.at {K : Nat} {hs : List MR} {V : List (List Value)} (h : Mx K hs V) {a : Nat} (ha : a < K) : ∃ (A : Option Addr) (c : Nat) (xs : List Int), hs[a]? = some (A, c, xs) ∧ xs.length = K ∧ V[a]? = some [.slice A K c] ∧ (∀ b, gv hs a b = xs.getD b 0) ∧ ∀ (T : TypeId) (w : World), (mxE T hs).ok w → Rd w A 1 K (mI xs) := by
  obtain ⟨⟨A, c, xs⟩, hr⟩ : ∃ r, hs[a]? = some r := ⟨_, List.getElem?_eq_getElem (by rw [h.len]; exact ha)⟩
  have hl : xs.length = K := h.row _ (List.mem_of_getElem? hr)
  refine ⟨A, c, xs, hr, hl, ?_, fun b => by rw [gv, hr]; rfl, fun T w hw => by have := mx_rd hr w hw; rwa [hl] at this⟩
  rw [← h.v, mxV, List.getElem?_map, hr, Option.map_some, hl]
theorem Mx.set {K : Nat} {hs : List MR} {V : List (List Value)} (h : Mx K hs V) {a : Nat} {A : Option Addr} {c : Nat} {xs : List Int} (hr : hs[a]? = some (A, c, xs)) (b : Nat) (v : Int) : Mx K (hs.set a (A, c, xs.set b v)) V := by
  have hi := (List.getElem?_eq_some_iff.1 hr).1
  refine ⟨?_, by rw [List.length_set]; exact h.len, fun x hx => ?_⟩
  · rw [← h.v]
    unfold mxV
    rw [List.map_set]
    refine List.ext_getElem? fun i => ?_
    by_cases e : a = i
    · subst e
      rw [List.getElem?_set_self (by rw [List.length_map]; exact hi), List.getElem?_map, hr, Option.map_some, List.length_set]
    · rw [List.getElem?_set_ne e]
  · rcases List.mem_or_eq_of_mem_set hx with hx | rfl
    · exact h.row x hx
    · rw [List.length_set]; exact h.row _ (List.mem_of_getElem? hr)
end Go.Proofs.Ytngelilffleimaa

namespace Go.Proofs.Ytngelilffleimaa
open Go Go.RowKit

abbrev Sn := Int × Int
def encSn (l : List Sn) : List (List Value) := l.map fun s => [.int .i64 s.1, .int .i64 s.2]
theorem encSn_len (l : List Sn) : (encSn l).length = l.length := List.length_map ..
theorem encSn_at {l : List Sn} {k : Nat} {s : Sn} (h : l[k]? = some s) : (encSn l)[k]? = some [.int .i64 s.1, .int .i64 s.2] := by unfold encSn; rw [List.getElem?_map, h]; rfl
structure Dy where
  (sp : List Sn) (A : Option Addr) (c : Nat)
def encDy (l : List Dy) : List (List Value) := l.map fun d => [.slice d.A d.sp.length d.c]
theorem encDy_at {l : List Dy} {k : Nat} {d : Dy} (h : l[k]? = some d) : (encDy l)[k]? = some [.slice d.A d.sp.length d.c] := by unfold encDy; rw [List.getElem?_map, h]; rfl
structure Jb where
  (len : Sn) (af : List Int) (fA : Option Addr) (fc : Nat) (wi : List Int) (wA : Option Addr) (wc : Nat) (due ear : Int)
abbrev Jb.cells (j : Jb) : List Value := [.int .i64 j.len.1, .int .i64 j.len.2, .slice j.fA j.af.length j.fc, .slice j.wA j.wi.length j.wc, .int .i64 j.due, .int .i64 j.ear]
def encJb (l : List Jb) : List (List Value) := l.map Jb.cells
theorem encJb_at {l : List Jb} {k : Nat} {j : Jb} (h : l[k]? = some j) : (encJb l)[k]? = some j.cells := by unfold encJb; rw [List.getElem?_map, h]; rfl
structure Pg where
  (dA : Option Addr) (dc : Nat) (days : List Dy) (rest : Int) (jA : Option Addr) (jc : Nat) (jobs : List Jb)
abbrev Pg.cells (p : Pg) : List Value := [.slice p.dA p.days.length p.dc, .int .i64 p.rest, .slice p.jA p.jobs.length p.jc]
abbrev Pg.val (p : Pg) : Value := .agg #[.slice p.dA p.days.length p.dc, .int .i64 p.rest, .slice p.jA p.jobs.length p.jc]
structure PgR (w : World) (p : Pg) : Prop where
  d : Rd w p.dA 1 p.days.length (encDy p.days)
  j : Rd w p.jA 6 p.jobs.length (encJb p.jobs)
  s : ∀ d ∈ p.days, Rd w d.A 2 d.sp.length (encSn d.sp)
  f : ∀ x ∈ p.jobs, Rd w x.fA 1 x.af.length (enI x.af)
  w : ∀ x ∈ p.jobs, Rd w x.wA 1 x.wi.length (enI x.wi)
  dn : p.days.length ≤ 9223372036854775807
  jn : p.jobs.length ≤ 9223372036854775807
  sn : ∀ d ∈ p.days, d.sp.length ≤ 9223372036854775807
  fn : ∀ x ∈ p.jobs, x.af.length ≤ 9223372036854775807
  wn : ∀ x ∈ p.jobs, x.wi.length ≤ 9223372036854775807
theorem PgR.old {w0 w : World} {L : List Ent} {p : Pg} (h : PgR w0 p) (hS : St w0 w L) : PgR w p :=
  ⟨(hS.old h.d).get, (hS.old h.j).get, fun d hd => (hS.old (h.s d hd)).get, fun x hx => (hS.old (h.f x hx)).get, fun x hx => (hS.old (h.w x hx)).get, h.dn, h.jn, h.sn, h.fn, h.wn⟩
def Asc (l : List Int) (b : Int) (k : Nat) : Prop := ∀ i x, i < k → l[i]? = some x → 0 ≤ x ∧ x < b ∧ ∀ y, 0 < i → l[i - 1]? = some y → y < x
theorem Asc.zero (l : List Int) (b : Int) : Asc l b 0 := fun i x hi => absurd hi (Nat.not_lt_zero _)
theorem Asc.succ {l : List Int} {b : Int} {k : Nat} {x : Int} (h : Asc l b k) (hx : l[k]? = some x) (h0 : 0 ≤ x ∧ x < b) (h1 : ∀ y, 0 < k → l[k - 1]? = some y → y < x) : Asc l b (k + 1) := fun i z hi hz => by
  by_cases e : i = k
  · subst e; rw [hx] at hz; cases hz; exact ⟨h0.1, h0.2, h1⟩
  · exact h i z (by omega) hz
structure JOk (n : Int) (i : Nat) (j : Jb) : Prop where
  len : 1 ≤ j.len.1 ∧ j.len.1 ≤ j.len.2 ∧ j.len.2 ≤ 600
  due : 0 ≤ j.due ∧ j.due ≤ 2
  ear : 0 ≤ j.ear ∧ j.ear ≤ 1440
  af : Asc j.af (i : Int) j.af.length
  wi : Asc j.wi n j.wi.length
  no : ∀ x ∈ j.wi, x ≠ (i : Int)
def Pg.nc (p : Pg) : Nat := match p.days with | d :: _ => d.sp.length | [] => 0
structure POk (p : Pg) : Prop where
  nd : 1 ≤ p.days.length ∧ p.days.length ≤ 3
  rest : 0 ≤ p.rest ∧ p.rest ≤ 600
  nj : p.jobs.length ≤ 6
  nc : 1 ≤ p.nc ∧ p.nc ≤ 3
  dy : ∀ k d, k < p.days.length → p.days[k]? = some d → d.sp.length = p.nc ∧ ∀ i s, i < d.sp.length → d.sp[i]? = some s → 0 ≤ s.1 ∧ s.1 ≤ s.2 ∧ s.2 ≤ 1440
  jb : ∀ i j, i < p.jobs.length → p.jobs[i]? = some j → JOk p.jobs.length i j
theorem nc_first {p : Pg} {d : Dy} (h : p.days[0]? = some d) : d.sp.length = p.nc := by
  unfold Pg.nc
  cases e : p.days with
  | nil => rw [e] at h; cases h
  | cons x l => rw [e] at h; cases h; rfl
structure Se where
  (job day court : Int)
abbrev Se.cells (s : Se) : List Value := [.int .i64 s.job, .int .i64 s.day, .int .i64 s.court]
abbrev Se.val (s : Se) : Value := .agg #[.int .i64 s.job, .int .i64 s.day, .int .i64 s.court]
def encSe (l : List Se) : List (List Value) := l.map Se.cells
theorem encSe_len (l : List Se) : (encSe l).length = l.length := List.length_map ..
theorem encSe_at {l : List Se} {k : Nat} {s : Se} (h : l[k]? = some s) : (encSe l)[k]? = some s.cells := by unfold encSe; rw [List.getElem?_map, h]; rfl
theorem encSe_take (l : List Se) (k : Nat) : (encSe l).take k = encSe (l.take k) := by unfold encSe; rw [List.map_take]
structure MayC (p : Pg) (l : List Se) (s : Se) : Prop where
  job : 0 ≤ s.job ∧ s.job < p.jobs.length
  new : ∀ t ∈ l, t.job ≠ s.job
  day : 0 ≤ s.day ∧ s.day < p.days.length
  due : ∀ j, p.jobs[s.job.toNat]? = some j → s.day ≤ j.due
  court : 0 ≤ s.court ∧ s.court < p.nc
  days : ∀ t ∈ l, t.day ≤ s.day
  af : ∀ j, p.jobs[s.job.toNat]? = some j → ∀ x ∈ j.af, ∃ t ∈ l, t.job = x
structure OOk (p : Pg) (o : List Se) : Prop where
  n : o.length = p.jobs.length
  at_ : ∀ k s, k < o.length → o[k]? = some s → MayC p (o.take k) s
theorem OOk.job {p : Pg} {o : List Se} (h : OOk p o) {s : Se} (hs : s ∈ o) : ∃ l, MayC p l s := by
  obtain ⟨i, hi, e⟩ := List.mem_iff_getElem.1 hs
  exact ⟨_, h.at_ i s hi (by rw [List.getElem?_eq_getElem hi, e])⟩
def shB (p : Pg) (a b : Int) : Bool := match p.jobs[a.toNat]?, p.jobs[b.toNat]? with
  | some x, some y => (x.af.contains b || x.wi.contains b) || (y.af.contains a || y.wi.contains a)
  | _, _ => false
structure DS where
  (num : Int) (fr en : Nat → Int)
abbrev DS.cells (d : DS) : List Value := [.int .i64 d.num, .int .i64 (d.fr 0), .int .i64 (d.fr 1), .int .i64 (d.fr 2), .int .i64 (d.en 0), .int .i64 (d.en 1), .int .i64 (d.en 2), .int .i64 (d.en 3), .int .i64 (d.en 4), .int .i64 (d.en 5)]
abbrev DS.val (d : DS) : Value := .agg #[.int .i64 d.num, .int .i64 (d.fr 0), .int .i64 (d.fr 1), .int .i64 (d.fr 2), .int .i64 (d.en 0), .int .i64 (d.en 1), .int .i64 (d.en 2), .int .i64 (d.en 3), .int .i64 (d.en 4), .int .i64 (d.en 5)]
def upF (f : Nat → Int) (i : Nat) (v : Int) : Nat → Int := fun j => if j = i then v else f j
def begK (p : Pg) (d : DS) (job : Int) (b : Int) (k : Nat) : Int := bif decide (0 < d.en k) && shB p job k then max b (d.en k + p.rest) else b
def begTil (p : Pg) (d : DS) (s : Se) (ear : Int) : Nat → Int
  | 0 => max (d.fr s.court.toNat) ear
  | k + 1 => begK p d s.job (begTil p d s ear k) k
def Pg.ear (p : Pg) (job : Int) : Int := match p.jobs[job.toNat]? with | some j => j.ear | none => 0
def begV (p : Pg) (d : DS) (s : Se) : Int := begTil p d s (p.ear s.job) 6
def playD (p : Pg) (d : DS) (s : Se) (len : Int) : DS := ⟨d.num, upF d.fr s.court.toNat (begV p d s + len), upF d.en s.job.toNat (begV p d s + len)⟩
def frTo (l : List Sn) : Nat → Nat → Int
  | 0 => fun _ => 0
  | k + 1 => match l[k]? with
    | some s => upF (frTo l k) k s.1
    | none => frTo l k
def openD (p : Pg) (n : Int) : DS := ⟨n, (match p.days[n.toNat]? with | some d => frTo d.sp d.sp.length | none => fun _ => 0), fun _ => 0⟩
structure TS where
  (d : DS) (bs es : List Int)
def Pg.len (p : Pg) (g : Sn → Int) (job : Int) : Int := match p.jobs[job.toNat]? with | some j => g j.len | none => 0
def stepT (p : Pg) (g : Sn → Int) (t : TS) (s : Se) : TS :=
  let d := bif decide (s.day = t.d.num) then t.d else openD p s.day
  ⟨playD p d s (p.len g s.job), t.bs.set s.job.toNat (begV p d s), t.es.set s.job.toNat (begV p d s + p.len g s.job)⟩
def runT (p : Pg) (g : Sn → Int) (o : List Se) : TS := o.foldl (stepT p g) ⟨openD p 0, List.replicate p.jobs.length 0, List.replicate p.jobs.length 0⟩
end Go.Proofs.Ytngelilffleimaa

namespace Go.Proofs.Ytngelilffleimaa
open Go Go.RowKit

abbrev i1 : List Sp := [.int .i64]
abbrev jobSp : List Sp := [.int .i64, .int .i64, .sl i1, .sl i1, .int .i64, .int .i64]
abbrev dySp : List Sp := [.sl g2]
abbrev progSp : List Sp := [.sl dySp, .int .i64, .sl jobSp]
abbrev seatSp : List Sp := [.int .i64, .int .i64, .int .i64]
theorem map_ofQ {α : Type} {f : α → List Value} {p : α → Prop} : ∀ {xs : List (List Value)}, (∀ x ∈ xs, ∃ a, x = f a ∧ p a) → ∃ ys : List α, xs = ys.map f ∧ ∀ y ∈ ys, p y
  | [], _ => ⟨[], rfl, fun y hy => by cases hy⟩
  | x :: xs, h => by
    obtain ⟨a, rfl, ha⟩ := h x (by simp)
    obtain ⟨ys, rfl, hy⟩ := map_ofQ (xs := xs) fun y hy => h y (by simp [hy])
    exact ⟨a :: ys, rfl, fun y hm => by
      rcases List.mem_cons.1 hm with rfl | hm
      · exact ha
      · exact hy y hm⟩
theorem ints_map {w : World} {xs : List (List Value)} (h : ∀ x ∈ xs, Mts w i1 x) : ∃ ys : List Int, xs = enI ys := by
  obtain ⟨ys, rfl⟩ := map_of (f := fun x : Int => [vI x]) (xs := xs) fun x hxm => by
    obtain ⟨a, cs, rfl, _, h2⟩ := (h x hxm).int_inv
    rw [h2.nil_inv]
    exact ⟨a, rfl⟩
  exact ⟨ys, rfl⟩
structure Dy.ok (d : Dy) (w : World) : Prop where
  r : Rd w d.A 2 d.sp.length (encSn d.sp)
  n : d.sp.length ≤ 9223372036854775807
theorem dy_cells {w : World} {cs : List Value} (h : Mts w dySp cs) : ∃ d : Dy, cs = [.slice d.A d.sp.length d.c] ∧ d.ok w := by
  obtain ⟨A, n, c, xs, cs, rfl, hr, hn, hx, h⟩ := Mts.sl_inv h
  rw [h.nil_inv]
  obtain ⟨ys, rfl⟩ := map_of (f := fun s : Sn => [.int .i64 s.1, .int .i64 s.2]) (xs := xs) fun x hxm => g2_open (hx x hxm)
  have hl : ys.length = n := by have := hr.len; simpa using this
  subst hl
  exact ⟨⟨ys, A, c⟩, rfl, hr, hn⟩
structure Jb.okR (j : Jb) (w : World) : Prop where
  f : Rd w j.fA 1 j.af.length (enI j.af)
  w : Rd w j.wA 1 j.wi.length (enI j.wi)
  fn : j.af.length ≤ 9223372036854775807
  wn : j.wi.length ≤ 9223372036854775807
theorem jb_cells {w : World} {cs : List Value} (h : Mts w jobSp cs) : ∃ j : Jb, cs = j.cells ∧ j.okR w := by
  obtain ⟨a1, cs, rfl, _, h⟩ := Mts.int_inv h
  obtain ⟨a2, cs, rfl, _, h⟩ := h.int_inv
  obtain ⟨A, n, c, xs, cs, rfl, hr, hn, hx, h⟩ := h.sl_inv
  obtain ⟨B, m, d, ys, cs, rfl, hr2, hm, hy, h⟩ := h.sl_inv
  obtain ⟨a3, cs, rfl, _, h⟩ := h.int_inv
  obtain ⟨a4, cs, rfl, _, h⟩ := h.int_inv
  rw [h.nil_inv]
  obtain ⟨xs, rfl⟩ := ints_map hx
  obtain ⟨ys, rfl⟩ := ints_map hy
  have hl : xs.length = n := by have := hr.len; simpa [enI] using this
  have hl2 : ys.length = m := by have := hr2.len; simpa [enI] using this
  subst hl hl2
  exact ⟨⟨(a1, a2), xs, A, c, ys, B, d, a3, a4⟩, rfl, hr, hr2, hn, hm⟩
theorem prog_open {w : World} {cs : List Value} (h : Mts w progSp cs) : ∃ p : Pg, Value.agg cs.toArray = p.val ∧ PgR w p := by
  obtain ⟨A, n, c, xs, cs, rfl, hr, hn, hx, h⟩ := Mts.sl_inv h
  obtain ⟨a1, cs, rfl, _, h⟩ := h.int_inv
  obtain ⟨B, m, d, ys, cs, rfl, hr2, hm, hy, h⟩ := h.sl_inv
  rw [h.nil_inv]
  obtain ⟨xs, rfl, hxs⟩ := map_ofQ (f := fun d : Dy => [.slice d.A d.sp.length d.c]) (p := fun d => d.ok w) (xs := xs) fun x hxm => dy_cells (hx x hxm)
  obtain ⟨ys, rfl, hys⟩ := map_ofQ (f := Jb.cells) (p := fun j => j.okR w) (xs := ys) fun x hxm => jb_cells (hy x hxm)
  have hl : xs.length = n := by have := hr.len; simpa using this
  have hl2 : ys.length = m := by have := hr2.len; simpa using this
  subst hl hl2
  exact ⟨⟨A, c, xs, a1, B, d, ys⟩, rfl, hr, hr2, fun y hy => (hxs y hy).r, fun y hy => (hys y hy).f, fun y hy => (hys y hy).w, hn, hm, fun y hy => (hxs y hy).n, fun y hy => (hys y hy).fn, fun y hy => (hys y hy).wn⟩
structure Dx where
  (o : List Se) (oA : Option Addr) (oc : Nat) (tk : List Int) (tA : Option Addr) (tc : Nat) (t : Tm) (pA : Option Addr) (pc : Nat)
abbrev Dx.cells (x : Dx) : List Value := [.slice x.oA x.o.length x.oc, .slice x.tA x.tk.length x.tc, .int .i64 x.t.short, .int .i64 x.t.long, .slice x.pA x.t.pl.length x.pc]
abbrev Dx.val (x : Dx) : Value := .agg #[.slice x.oA x.o.length x.oc, .slice x.tA x.tk.length x.tc, .int .i64 x.t.short, .int .i64 x.t.long, .slice x.pA x.t.pl.length x.pc]
end Go.Proofs.Ytngelilffleimaa

namespace Go.Proofs.Ytngelilffleimaa
open Go Go.RowKit

abbrev Srt (key : Int → Int) (l : List Int) : Prop := l.Pairwise fun a b => key a < key b
theorem posV_drop {lt : Int → Int → Bool} {l : List Int} {x : Int} : ∀ j, j ≤ l.length → ∀ y ∈ (l.take j).drop (posV lt l x j), lt x y = true
  | 0, _, y, h => by simp at h
  | j + 1, hj, y, h => by
    have hl : l[j]? = some l[j] := List.getElem?_eq_getElem (by omega)
    rw [posV_step hl] at h
    cases hb : lt x l[j] with
    | false =>
      rw [hb] at h
      simp only [cond_false] at h
      rw [List.drop_of_length_le (by simp; omega)] at h
      cases h
    | true =>
      rw [hb] at h
      simp only [cond_true] at h
      rw [List.take_add_one, hl, List.drop_append_of_le_length (by have := posV_le lt l x j; simp; omega)] at h
      rcases List.mem_append.1 h with h | h
      · exact posV_drop j (by omega) y h
      · simp only [Option.toList_some, List.mem_singleton] at h
        rw [h]; exact hb
theorem posV_last {lt : Int → Int → Bool} {l : List Int} {x : Int} : ∀ j, j ≤ l.length → ∀ p, posV lt l x j = p + 1 → ∃ y, l[p]? = some y ∧ lt x y = false
  | 0, _, p, h => by simp [posV] at h
  | j + 1, hj, p, h => by
    have hl : l[j]? = some l[j] := List.getElem?_eq_getElem (by omega)
    rw [posV_step hl] at h
    cases hb : lt x l[j] with
    | false =>
      rw [hb] at h
      simp only [cond_false] at h
      obtain rfl : j = p := by omega
      exact ⟨_, hl, hb⟩
    | true =>
      rw [hb] at h
      exact posV_last j (by omega) p h
theorem insV_srt {key : Int → Int} {lt : Int → Int → Bool} {l : List Int} {x : Int} (hlt : ∀ y ∈ l, lt x y = decide (key x < key y)) (hne : ∀ y ∈ l, key y ≠ key x) (hs : Srt key l) : Srt key (insV lt l x) := by
  have hs0 := hs
  unfold insV
  have hp := posV_le lt l x l.length
  have hd := posV_drop (lt := lt) (l := l) (x := x) l.length (Nat.le_refl _)
  have hla := posV_last (lt := lt) (l := l) (x := x) l.length (Nat.le_refl _)
  generalize posV lt l x l.length = p at *
  rw [List.take_length] at hd
  rw [← List.take_append_drop p l] at hs
  obtain ⟨h1, h2, h3⟩ := List.pairwise_append.1 hs
  have hx : ∀ y ∈ l.drop p, key x < key y := fun y hy => by
    have := hd y hy
    rw [hlt y (List.mem_of_mem_drop hy)] at this
    exact of_decide_eq_true this
  have ha : ∀ a ∈ l.take p, key a < key x := fun a hat => by
    cases p with
    | zero => simp at hat
    | succ p =>
      obtain ⟨y, hy, hb⟩ := hla p rfl
      have hyl := List.mem_of_getElem? hy
      rw [hlt y hyl] at hb
      have h4 := of_decide_eq_false hb
      have h5 := hne y hyl
      rw [List.take_add_one, hy] at hat
      rcases List.mem_append.1 hat with hat | hat
      · rw [List.take_add_one, hy] at h1
        have := (List.pairwise_append.1 h1).2.2 a hat y (by simp)
        omega
      · simp only [Option.toList_some, List.mem_singleton] at hat
        subst hat; omega
  refine List.pairwise_append.2 ⟨h1, List.pairwise_cons.2 ⟨hx, h2⟩, fun a hat b hb => ?_⟩
  rcases List.mem_cons.1 hb with rfl | hb
  · exact ha a hat
  · exact h3 a hat b hb
theorem sortTo_srt {key : Int → Int} {lt : Int → Int → Bool} {xs : List Int} (hlt : ∀ x ∈ xs, ∀ y ∈ xs, lt x y = decide (key x < key y)) (hnd : xs.Pairwise fun a b => key a ≠ key b) : ∀ k, k ≤ xs.length → Srt key (sortTo lt xs k)
  | 0, _ => List.Pairwise.nil
  | k + 1, hk => by
    have hx : xs[k]? = some xs[k] := List.getElem?_eq_getElem (by omega)
    rw [sortTo, hx]
    refine insV_srt (fun y hy => hlt _ (List.getElem_mem _) _ (List.mem_of_mem_take ((sortTo_mem lt xs y k (by omega)).1 hy))) (fun y hy => ?_) (sortTo_srt hlt hnd k (by omega))
    have hm := (sortTo_mem lt xs y k (by omega)).1 hy
    obtain ⟨i, hi, rfl⟩ := List.getElem_of_mem hm
    rw [List.getElem_take]
    rw [List.length_take] at hi
    exact List.pairwise_iff_getElem.1 hnd i k (by omega) (by omega) (by omega)
def keyV (gs : List Pt) (i : Int) : Int := match gs[i.toNat]? with
  | some g => g.at_ * 1000 + g.id
  | none => 0
def quitV (gs : List Pt) (i : Int) : Int := match gs[i.toNat]? with
  | some g => g.quits
  | none => 0
theorem pt_at {q : Qu} (hq : q.Ok) {i : Int} (hi : 0 ≤ i ∧ i < q.gs.length) : ∃ g, q.gs[i.toNat]? = some g ∧ ((0 ≤ g.id ∧ g.id ≤ 999) ∧ (0 ≤ g.at_ ∧ g.at_ ≤ 1440) ∧ (1 ≤ g.size ∧ g.size ≤ 20) ∧ (g.quits = -1 ∨ g.at_ ≤ g.quits ∧ g.quits ≤ 1440)) := by
  obtain ⟨g, hg⟩ : ∃ g, q.gs[i.toNat]? = some g := ⟨_, List.getElem?_eq_getElem (by omega)⟩
  exact ⟨g, hg, pt_rng (hq.pt g (List.mem_of_getElem? hg))⟩
theorem ltQ_key {q : Qu} (hq : q.Ok) {i j : Int} (hi : 0 ≤ i ∧ i < q.gs.length) (hj : 0 ≤ j ∧ j < q.gs.length) : ltQ q.gs i j = decide (keyV q.gs i < keyV q.gs j) := by
  obtain ⟨g, hg, h1, h2, -⟩ := pt_at hq hi
  obtain ⟨k, hk, h3, h4, -⟩ := pt_at hq hj
  unfold ltQ cmpQ keyV
  rw [hg, hk]
  refine decide_eq_decide.2 ?_
  show orV [g.at_ - k.at_, g.id - k.id] < 0 ↔ g.at_ * 1000 + g.id < k.at_ * 1000 + k.id
  rw [orV, orV, orV]
  by_cases e : g.at_ - k.at_ = 0
  · rw [decide_eq_true e]
    by_cases e' : g.id - k.id = 0
    · rw [decide_eq_true e']; simp only [Bool.not_true, cond_false]; omega
    · rw [decide_eq_false e']; simp only [Bool.not_true, cond_false, Bool.not_false, cond_true]; omega
  · rw [decide_eq_false e]; simp only [Bool.not_false, cond_true]; omega
theorem key_inj {q : Qu} (hq : q.Ok) {i j : Int} (hi : 0 ≤ i ∧ i < q.gs.length) (hj : 0 ≤ j ∧ j < q.gs.length) (h : keyV q.gs i = keyV q.gs j) : i = j := by
  obtain ⟨g, hg, h1, h2, -⟩ := pt_at hq hi
  obtain ⟨k, hk, h3, h4, -⟩ := pt_at hq hj
  unfold keyV at h
  rw [hg, hk] at h
  simp only at h
  have hid : g.id = k.id := by omega
  rcases Nat.lt_trichotomy i.toNat j.toNat with h | h | h
  · exact absurd hid (hq.nd _ _ _ _ h hg hk)
  · omega
  · exact absurd hid.symm (hq.nd _ _ _ _ h hk hg)
theorem idxs_nd (n : Nat) : (idxs n).Pairwise fun a b => a ≠ b := by
  rw [idxs, List.pairwise_map]
  exact List.nodup_range.imp fun h e => h (by omega)
theorem ordV_srt {q : Qu} (hq : q.Ok) : Srt (keyV q.gs) (ordV q) := by
  refine sortTo_srt (key := keyV q.gs) (lt := ltQ q.gs) (xs := idxs q.gs.length) (fun x hx y hy => ltQ_key (i := x) (j := y) hq (idxs_mem.1 hx) (idxs_mem.1 hy)) ?_ _ (Nat.le_refl _)
  refine List.Pairwise.imp_of_mem ?_ (idxs_nd q.gs.length)
  intro a b ha hb hab e
  exact hab (key_inj hq (idxs_mem.1 ha) (idxs_mem.1 hb) e)
end Go.Proofs.Ytngelilffleimaa

namespace Go.Proofs.Ytngelilffleimaa
open Go Go.RowKit

def begS (gs : List Pt) (i : Int) (s : Cr) : Cr := ⟨s.free - szV gs i, szV gs i, s.ws, s.inn⟩
def advS (minute rate i : Int) (t : List Int) (s : Cr) : Cr :=
  bif decide (s.passing - min rate s.passing = 0) then ⟨s.free, s.passing - min rate s.passing, t, s.inn.set i.toNat minute⟩ else { s with passing := s.passing - min rate s.passing }
theorem passOne_beg {gs : List Pt} {minute rate i : Int} {t : List Int} {s : Cr} (h : s.passing = 0) : passOne gs minute rate i t s = advS minute rate i t (begS gs i s) ∧ ppV gs i s = (begS gs i s).passing := by
  have hp : ppV gs i s = szV gs i := by rw [ppV, decide_eq_true h]; rfl
  have hf : frV gs i s = s.free - szV gs i := by rw [frV, decide_eq_true h]; rfl
  refine ⟨?_, hp⟩
  rw [passOne, hp, hf]
  rfl
theorem passOne_adv {gs : List Pt} {minute rate i : Int} {t : List Int} {s : Cr} (h : s.passing ≠ 0) : passOne gs minute rate i t s = advS minute rate i t s ∧ ppV gs i s = s.passing := by
  have hp : ppV gs i s = s.passing := by rw [ppV, decide_eq_false h]; rfl
  have hf : frV gs i s = s.free := by rw [frV, decide_eq_false h]; rfl
  refine ⟨?_, hp⟩
  rw [passOne, hp, hf]
  rfl
def Halt (gs : List Pt) (r : Int) (s : Cr) : Prop := r = 0 ∨ s.ws = [] ∨ ∃ i t, s.ws = i :: t ∧ s.passing = 0 ∧ s.free < szV gs i
theorem pass_ind {gs : List Pt} {minute : Int} {I : Int → Cr → Prop} (h0 : ∀ r s, I r s → 0 ≤ s.passing)
    (hb : ∀ r s i t, I r s → 0 < r → s.ws = i :: t → s.passing = 0 → szV gs i ≤ s.free → I r (begS gs i s) ∧ 0 < szV gs i)
    (ha : ∀ r s i t, I r s → 0 < r → s.ws = i :: t → 0 < s.passing → I (r - min r s.passing) (advS minute r i t s)) :
    ∀ (f : Nat) (r : Int) (s : Cr), I r s → 0 ≤ r → r ≤ f → ∃ r', I r' (passV gs minute f r s) ∧ 0 ≤ r' ∧ r' ≤ r ∧ Halt gs r' (passV gs minute f r s)
  | 0, r, s, h, h1, h2 => ⟨r, by rw [passV_stop (.inl (by omega))]; exact h, h1, by omega, .inl (by omega)⟩
  | f + 1, r, s, h, h1, h2 => by
    cases hw : s.ws with
    | nil => exact ⟨r, by rw [passV_stop (.inr hw)]; exact h, h1, by omega, by rw [passV_stop (.inr hw)]; exact .inr (.inl hw)⟩
    | cons i t =>
      by_cases hr : 0 < r
      · have hp0 := h0 r s h
        cases hst : stopV gs i s
        · rw [passV_go hw hr hst]
          by_cases hp : s.passing = 0
          · have hsz : szV gs i ≤ s.free := by
              unfold stopV at hst
              rw [decide_eq_true hp, Bool.true_and, decide_eq_false_iff_not] at hst
              omega
            obtain ⟨hI, hpos⟩ := hb r s i t h hr hw hp hsz
            obtain ⟨e1, e2⟩ := passOne_beg (minute := minute) (rate := r) (t := t) (gs := gs) (i := i) hp
            have hpos' : 0 < (begS gs i s).passing := hpos
            have := ha r (begS gs i s) i t hI hr hw hpos'
            rw [e1, e2]
            obtain ⟨r', q1, q2, q3, q4⟩ := pass_ind h0 hb ha f _ _ this (by omega) (by omega)
            exact ⟨r', q1, q2, by omega, q4⟩
          · obtain ⟨e1, e2⟩ := passOne_adv (minute := minute) (rate := r) (t := t) (gs := gs) (i := i) hp
            have := ha r s i t h hr hw (by omega)
            rw [e1, e2]
            obtain ⟨r', q1, q2, q3, q4⟩ := pass_ind h0 hb ha f _ _ this (by omega) (by omega)
            exact ⟨r', q1, q2, by omega, q4⟩
        · rw [passV_halt hw hst]
          refine ⟨r, h, h1, Int.le_refl _, .inr (.inr ⟨i, t, hw, ?_⟩)⟩
          unfold stopV at hst
          rw [Bool.and_eq_true, decide_eq_true_eq, decide_eq_true_eq] at hst
          exact hst
      · exact ⟨r, by rw [passV_stop (.inl (by omega))]; exact h, h1, by omega, by rw [passV_stop (.inl (by omega))]; exact .inl (by omega)⟩
def inAt (l : List Int) (i : Int) : Int := l.getD i.toNat 0
theorem inAt_set {l : List Int} {i j v : Int} (hi : 0 ≤ i ∧ i < l.length) (hj : 0 ≤ j ∧ j < l.length) : inAt (l.set i.toNat v) j = bif decide (j = i) then v else inAt l j := by
  unfold inAt
  rw [List.getD_eq_getElem?_getD, List.getElem?_set]
  by_cases e : j = i
  · subst e
    rw [if_pos rfl, if_pos (by omega), decide_eq_true rfl]; rfl
  · rw [if_neg (by omega), decide_eq_false e, List.getD_eq_getElem?_getD]; rfl
def pasV (s : Cr) : Int := bif decide (0 < s.passing) then s.ws.headD (-1) else -1
def leftV (s : Cr) (i : Int) : Bool := decide (0 ≤ inAt s.inn i) || decide (i = pasV s)
def waitV (gs : List Pt) (m i : Int) : Bool := decide (atV gs i ≤ m) && (decide (quitV gs i = -1) || decide (m < quitV gs i))
structure Wt (q : Qu) (m : Int) (s : Cr) : Prop where
  p : 0 ≤ s.passing
  len : s.inn.length = q.gs.length
  rng : ∀ i : Int, 0 ≤ i ∧ i < q.gs.length → inAt s.inn i = -1 ∨ (q.opn ≤ inAt s.inn i ∧ atV q.gs i ≤ inAt s.inn i ∧ inAt s.inn i ≤ m)
  hd : 0 < s.passing → ∃ i t, s.ws = i :: t ∧ (0 ≤ i ∧ i < q.gs.length) ∧ atV q.gs i ≤ m ∧ inAt s.inn i = -1
  rest : s.ws.drop (firstN s) = (ordV q).filter fun i => !leftV s i && waitV q.gs m i
theorem Wt.first {q : Qu} {m : Int} {s : Cr} (h : Wt q m s) {i : Int} {t : List Int} (hw : s.ws = i :: t) (hp : s.passing = 0) : i :: t = (ordV q).filter (fun i => !leftV s i && waitV q.gs m i) ∧ (0 ≤ i ∧ i < q.gs.length) ∧ leftV s i = false ∧ waitV q.gs m i = true := by
  have hr := h.rest
  have hf : firstN s = 0 := by unfold firstN; rw [hp]; rfl
  rw [hf, List.drop_zero, hw] at hr
  have hm : i ∈ (ordV q).filter (fun i => !leftV s i && waitV q.gs m i) := by rw [← hr]; exact List.mem_cons_self
  obtain ⟨h1, h2⟩ := List.mem_filter.1 hm
  simp only [Bool.and_eq_true, Bool.not_eq_true'] at h2
  exact ⟨hr, ordV_mem.1 h1, h2.1, h2.2⟩
end Go.Proofs.Ytngelilffleimaa

namespace Go.Proofs.Ytngelilffleimaa
open Go Go.RowKit

def smS (gs : List Pt) (l : List Int) : Int := (l.map (szV gs)).sum
theorem smS_app (gs : List Pt) (a b : List Int) : smS gs (a ++ b) = smS gs a + smS gs b := by unfold smS; rw [List.map_append, List.sum_append]
theorem smS_succ {gs : List Pt} {A : List Int} {c : Nat} {i : Int} (h : A[c]? = some i) : smS gs (A.take (c + 1)) = smS gs (A.take c) + szV gs i := by
  rw [List.take_add_one, h, smS_app]
  show _ + (([i] : List Int).map (szV gs)).sum = _
  simp
theorem smS_mono {gs : List Pt} {A : List Int} (hp : ∀ i ∈ A, 0 < szV gs i) : ∀ {a b : Nat}, a ≤ b → smS gs (A.take a) ≤ smS gs (A.take b)
  | a, 0, h => by rw [show a = 0 by omega]; exact Int.le_refl _
  | a, b + 1, h => by
    by_cases e : a = b + 1
    · rw [e]; exact Int.le_refl _
    · have ih := smS_mono (gs := gs) hp (a := a) (b := b) (by omega)
      cases g : A[b]? with
      | none => rw [List.take_add_one, g]; simpa using ih
      | some i =>
        have := hp i (List.mem_of_getElem? g)
        rw [smS_succ g]; omega
structure Pv (gs : List Pt) (A : List Int) (E : Int) (c : Nat) (s : Cr) : Prop where
  cl : c ≤ A.length
  ws : s.ws = A.drop c
  p : 0 ≤ s.passing
  pc : 0 < s.passing → ∃ i, A[c]? = some i ∧ s.passing ≤ szV gs i
  f : 0 ≤ s.free
  fr : s.free = E - smS gs (A.take (if 0 < s.passing then c + 1 else c))
def donV (gs : List Pt) (A : List Int) (c : Nat) (s : Cr) : Int := smS gs (A.take c) + (if 0 < s.passing then szV gs (A.getD c 0) - s.passing else 0)
structure Inn (n : Nat) (A : List Int) (c : Nat) (m : Int) (s0 s : Cr) : Prop where
  ln : s.inn.length = n
  io : ∀ i : Int, 0 ≤ i ∧ i < n → (0 ≤ inAt s.inn i ↔ i ∈ A.take c)
  old : ∀ i : Int, 0 ≤ i ∧ i < n → 0 ≤ inAt s0.inn i → inAt s.inn i = inAt s0.inn i
  new : ∀ i : Int, 0 ≤ i ∧ i < n → inAt s0.inn i < 0 → inAt s.inn i < 0 ∨ inAt s.inn i = m
section
variable {gs : List Pt} {A : List Int} {E m : Int} {c : Nat} {s s0 : Cr} {i : Int} {t : List Int}
theorem Pv.head (h : Pv gs A E c s) (hw : s.ws = i :: t) : A[c]? = some i ∧ t = A.drop (c + 1) ∧ c < A.length := by
  have h1 := h.ws
  rw [hw] at h1
  have hc : c < A.length := by
    have := congrArg List.length h1
    rw [List.length_cons, List.length_drop] at this; omega
  rw [List.drop_eq_getElem_cons hc] at h1
  obtain ⟨h2, h3⟩ := List.cons.inj h1
  exact ⟨by rw [List.getElem?_eq_getElem hc, h2], h3, hc⟩
theorem getD_of {A : List Int} {c : Nat} {i : Int} (h : A[c]? = some i) : A.getD c 0 = i := by rw [List.getD_eq_getElem?_getD, h]; rfl
theorem Pv.beg (h : Pv gs A E c s) (hw : s.ws = i :: t) (hp : s.passing = 0) (hf : szV gs i ≤ s.free) (hpos : 0 < szV gs i) : Pv gs A E c (begS gs i s) ∧ donV gs A c (begS gs i s) = donV gs A c s := by
  obtain ⟨h1, h2, h3⟩ := h.head hw
  have hfr := h.fr
  rw [if_neg (by omega)] at hfr
  refine ⟨⟨h.cl, h.ws, by show 0 ≤ szV gs i; omega, fun _ => ⟨i, h1, Int.le_refl _⟩, by show 0 ≤ s.free - szV gs i; omega, ?_⟩, ?_⟩
  · show s.free - szV gs i = E - smS gs (A.take (if 0 < szV gs i then c + 1 else c))
    rw [if_pos hpos, smS_succ h1]; omega
  · unfold donV
    rw [if_neg (show ¬ 0 < s.passing by omega), if_pos (show 0 < (begS gs i s).passing from hpos), getD_of h1]
    show _ + (szV gs i - szV gs i) = _
    omega
theorem Pv.adv (h : Pv gs A E c s) (hi : Inn gs.length A c m s0 s) (hA : A.Nodup) (hr : ∀ x ∈ A, 0 ≤ x ∧ x < gs.length) (hm : 0 ≤ m) {r : Int} (hr0 : 0 < r) (hw : s.ws = i :: t) (hp : 0 < s.passing) :
    ∃ c', Pv gs A E c' (advS m r i t s) ∧ Inn gs.length A c' m s0 (advS m r i t s) ∧ donV gs A c' (advS m r i t s) + (r - min r s.passing) = donV gs A c s + r := by
  obtain ⟨h1, h2, h3⟩ := h.head hw
  obtain ⟨i', h4, h5⟩ := h.pc hp
  rw [h1] at h4; cases h4
  have hfr := h.fr
  rw [if_pos hp] at hfr
  have him := hr i (List.mem_of_getElem? h1)
  have hnot : i ∉ A.take c := fun hin => by
    have e := List.nodup_iff_pairwise_ne.1 hA
    have h6 : (A.take c ++ A.drop c).Pairwise (· ≠ ·) := by rw [List.take_append_drop]; exact e
    exact (List.pairwise_append.1 h6).2.2 i hin i (by rw [← h.ws, hw]; exact List.mem_cons_self) rfl
  have htk : A.take (c + 1) = A.take c ++ [i] := by rw [List.take_add_one, h1]; rfl
  unfold advS
  by_cases e : s.passing - min r s.passing = 0
  · rw [decide_eq_true e, cond_true, e]
    refine ⟨c + 1, ⟨by omega, h2, Int.le_refl _, fun hp2 => absurd hp2 (by show ¬ (0 : Int) < 0; omega), h.f, ?_⟩, ⟨by rw [List.length_set]; exact hi.ln, fun x hx => ?_, fun x hx h0 => ?_, fun x hx h0 => ?_⟩, ?_⟩
    · show s.free = E - smS gs (A.take (if (0 : Int) < 0 then c + 1 + 1 else c + 1))
      rw [if_neg (by omega)]; exact hfr
    · show 0 ≤ inAt (s.inn.set i.toNat m) x ↔ _
      rw [inAt_set (by rw [hi.ln]; exact him) (by rw [hi.ln]; exact hx), htk, List.mem_append, List.mem_singleton]
      by_cases g : x = i
      · rw [decide_eq_true g, cond_true]; exact ⟨fun _ => .inr g, fun _ => hm⟩
      · rw [decide_eq_false g, cond_false, hi.io x hx]; exact ⟨.inl, fun h => h.resolve_right g⟩
    · show inAt (s.inn.set i.toNat m) x = _
      rw [inAt_set (by rw [hi.ln]; exact him) (by rw [hi.ln]; exact hx)]
      by_cases g : x = i
      · subst g
        have h7 := hi.old x hx h0
        exact absurd ((hi.io x hx).1 (by omega)) hnot
      · rw [decide_eq_false g, cond_false]; exact hi.old x hx h0
    · show inAt (s.inn.set i.toNat m) x < 0 ∨ inAt (s.inn.set i.toNat m) x = m
      rw [inAt_set (by rw [hi.ln]; exact him) (by rw [hi.ln]; exact hx)]
      by_cases g : x = i
      · rw [decide_eq_true g]; exact .inr rfl
      · rw [decide_eq_false g, cond_false]; exact hi.new x hx h0
    · unfold donV
      rw [smS_succ h1, if_pos hp, getD_of h1, if_neg (show ¬ (0 : Int) < 0 by omega)]
      omega
  · rw [decide_eq_false e, cond_false]
    have hp3 : 0 < s.passing - min r s.passing := by omega
    refine ⟨c, ⟨h.cl, h.ws, by show 0 ≤ s.passing - min r s.passing; omega, fun _ => ⟨i, h1, by show s.passing - min r s.passing ≤ _; omega⟩, h.f, ?_⟩, ⟨hi.ln, hi.io, hi.old, hi.new⟩, ?_⟩
    · show s.free = E - smS gs (A.take (if 0 < s.passing - min r s.passing then c + 1 else c))
      rw [if_pos hp3]; exact hfr
    · unfold donV
      rw [if_pos hp, getD_of h1]
      show smS gs (A.take c) + (if 0 < s.passing - min r s.passing then szV gs i - (s.passing - min r s.passing) else 0) + _ = _
      rw [if_pos hp3]; omega
end
def Stp (gs : List Pt) (A : List Int) (c : Nat) (s : Cr) : Prop := c = A.length ∨ (s.passing = 0 ∧ ∃ i, A[c]? = some i ∧ s.free < szV gs i)
theorem pass_end {gs : List Pt} {A : List Int} {E m : Int} {c : Nat} {s : Cr} (h : Pv gs A E c s) (hi : Inn gs.length A c m s s) (hA : A.Nodup) (hr : ∀ x ∈ A, 0 ≤ x ∧ x < gs.length) (hz : ∀ x ∈ A, 0 < szV gs x) (hm : 0 ≤ m) {r : Int} (hr0 : 0 ≤ r) :
    ∃ c', Pv gs A E c' (passV gs m r.toNat r s) ∧ Inn gs.length A c' m s (passV gs m r.toNat r s) ∧ donV gs A c' (passV gs m r.toNat r s) ≤ donV gs A c s + r ∧ (donV gs A c' (passV gs m r.toNat r s) = donV gs A c s + r ∨ Stp gs A c' (passV gs m r.toNat r s)) := by
  obtain ⟨r', ⟨c', h1, h2, h3⟩, h4, h5, h6⟩ := pass_ind (gs := gs) (minute := m) (I := fun r' s' => ∃ c', Pv gs A E c' s' ∧ Inn gs.length A c' m s s' ∧ donV gs A c' s' + r' = donV gs A c s + r)
    (fun r' s' ⟨c', g1, _⟩ => g1.p)
    (fun r' s' i t ⟨c', g1, g2, g3⟩ _ hw hp hf => by
      have hzi := hz i (List.mem_of_getElem? (g1.head hw).1)
      obtain ⟨g4, g5⟩ := g1.beg hw hp hf hzi
      exact ⟨⟨c', g4, ⟨g2.ln, g2.io, g2.old, g2.new⟩, by rw [g5]; exact g3⟩, hzi⟩)
    (fun r' s' i t ⟨c', g1, g2, g3⟩ hr' hw hp => by
      obtain ⟨c2, g4, g5, g6⟩ := g1.adv g2 hA hr hm hr' hw hp
      exact ⟨c2, g4, g5, by omega⟩)
    r.toNat r s ⟨c, h, hi, rfl⟩ hr0 (by omega)
  refine ⟨c', h1, h2, by omega, ?_⟩
  rcases h6 with h6 | h6 | ⟨i, t, h6, h7, h8⟩
  · left; omega
  · right; left
    have := h1.ws
    rw [h6] at this
    have := congrArg List.length this
    rw [List.length_nil, List.length_drop] at this
    have := h1.cl; omega
  · right; right; exact ⟨h7, i, (h1.head h6).1, h8⟩
theorem don_ge {gs : List Pt} {A : List Int} {E1 E2 : Int} {c1 c2 : Nat} {s1 s2 : Cr} (hz : ∀ x ∈ A, 0 < szV gs x) (h1 : Pv gs A E1 c1 s1) (h2 : Pv gs A E2 c2 s2) (hd : donV gs A c2 s2 ≤ donV gs A c1 s1) : c2 ≤ c1 := by
  by_cases e : c2 ≤ c1
  · exact e
  · exfalso
    have h3 : smS gs (A.take c2) ≤ donV gs A c2 s2 := by
      unfold donV
      by_cases g : 0 < s2.passing
      · obtain ⟨i, g1, g2⟩ := h2.pc g
        rw [if_pos g, getD_of g1]; omega
      · rw [if_neg g]; omega
    obtain ⟨i, hi⟩ : ∃ i, A[c1]? = some i := ⟨_, List.getElem?_eq_getElem (by have := h2.cl; omega)⟩
    have h4 := smS_mono hz (a := c1 + 1) (b := c2) (by omega)
    rw [smS_succ hi] at h4
    have h5 := hz i (List.mem_of_getElem? hi)
    have h6 : donV gs A c1 s1 < smS gs (A.take c1) + szV gs i := by
      unfold donV
      by_cases g : 0 < s1.passing
      · rw [if_pos g, getD_of hi]; omega
      · rw [if_neg g]; omega
    omega
theorem don_le_all {gs : List Pt} {A : List Int} {E : Int} {c : Nat} {s : Cr} (hz : ∀ x ∈ A, 0 < szV gs x) (h : Pv gs A E c s) : donV gs A c s ≤ smS gs (A.take A.length) ∧ donV gs A c s ≤ smS gs (A.take (if 0 < s.passing then c + 1 else c)) := by
  have h0 : donV gs A c s ≤ smS gs (A.take (if 0 < s.passing then c + 1 else c)) := by
    unfold donV
    by_cases g : 0 < s.passing
    · obtain ⟨i, g1, g2⟩ := h.pc g
      rw [if_pos g, if_pos g, getD_of g1, smS_succ g1]; omega
    · rw [if_neg g, if_neg g]; omega
  refine ⟨Int.le_trans h0 (smS_mono hz ?_), h0⟩
  by_cases g : 0 < s.passing
  · obtain ⟨i, g1, _⟩ := h.pc g
    rw [if_pos g]; have := (List.getElem?_eq_some_iff.1 g1).1; omega
  · rw [if_neg g]; exact h.cl
theorem don_cmp {gs : List Pt} {A : List Int} {E1 E2 : Int} {c1 c2 : Nat} {s1 s2 : Cr} (hz : ∀ x ∈ A, 0 < szV gs x) (h1 : Pv gs A E1 c1 s1) (h2 : Pv gs A E2 c2 s2) (hE : E2 ≤ E1) (hs : Stp gs A c1 s1) : donV gs A c2 s2 ≤ donV gs A c1 s1 := by
  obtain ⟨g1, g2⟩ := don_le_all hz h2
  rcases hs with hs | ⟨hp, i, hi, hf⟩
  · have : smS gs (A.take c1) ≤ donV gs A c1 s1 := by
      unfold donV
      by_cases g : 0 < s1.passing
      · obtain ⟨i, g3, g4⟩ := h1.pc g
        rw [if_pos g, getD_of g3]; omega
      · rw [if_neg g]; omega
    rw [hs] at this ⊢
    omega
  · have hd : donV gs A c1 s1 = smS gs (A.take c1) := by unfold donV; rw [if_neg (by omega)]; omega
    have hfr := h1.fr
    rw [if_neg (by omega)] at hfr
    have hfr2 := h2.fr
    have hf2 := h2.f
    rw [hd]
    by_cases e : (if 0 < s2.passing then c2 + 1 else c2) ≤ c1
    · exact Int.le_trans g2 (smS_mono hz e)
    · exfalso
      have := smS_mono hz (a := c1 + 1) (b := if 0 < s2.passing then c2 + 1 else c2) (by omega)
      rw [smS_succ hi] at this
      omega
end Go.Proofs.Ytngelilffleimaa

namespace Go.Proofs.Ytngelilffleimaa
open Go Go.RowKit

def withF (q : Qu) (fs : List Fe) : Qu := ⟨q.opn, q.lo, q.hi, q.seats, q.gs, fs⟩
def StayQ (gs : List Pt) : Prop := ∀ g ∈ gs, g.quits = -1
theorem gone_no {gs : List Pt} (h : StayQ gs) (m i : Int) : goneV gs m i = false := by
  unfold goneV
  cases e : gs[i.toNat]? with
  | none => rfl
  | some g => dsimp only; rw [h g (List.mem_of_getElem? e)]; rfl
theorem kept_no {gs : List Pt} (h : StayQ gs) (m : Int) (s : Cr) : keptV gs m s = s.ws := by
  unfold keptV
  have : (s.ws.drop (firstN s)).filter (fun i => !goneV gs m i) = s.ws.drop (firstN s) := List.filter_eq_self.2 fun i _ => by rw [gone_no h]; rfl
  rw [this, List.take_append_drop]
def ordG (gs : List Pt) : List Int := sortV (ltQ gs) (idxs gs.length)
def arrK (gs : List Pt) : Nat → List Int
  | 0 => []
  | k + 1 => arrK gs k ++ (ordG gs).filter (arrV gs (k : Int))
def cumE (q : Qu) : Nat → Int
  | 0 => q.seats
  | k + 1 => cumE q k + freeAll q.fs (k : Int)
theorem arr_mem {gs : List Pt} {m i : Int} (h : arrV gs m i = true) : atV gs i = m := by
  unfold arrV at h
  unfold atV
  cases e : gs[i.toNat]? with
  | none => rw [e] at h; cases h
  | some g => rw [e] at h; rw [Bool.and_eq_true, decide_eq_true_eq] at h; exact h.1
theorem ord_nodup {q : Qu} (hq : q.Ok) : (ordG q.gs).Nodup := by
  have h := ordV_srt hq
  exact List.nodup_iff_pairwise_ne.2 (List.Pairwise.imp (fun hab e => by rw [e] at hab; exact absurd hab (by omega)) h)
theorem arr_facts {q : Qu} (hq : q.Ok) : ∀ k : Nat, (arrK q.gs k).Nodup ∧ ∀ i ∈ arrK q.gs k, (0 ≤ i ∧ i < q.gs.length) ∧ atV q.gs i < (k : Int)
  | 0 => ⟨List.nodup_nil, fun i hi => by cases hi⟩
  | k + 1 => by
    obtain ⟨h1, h2⟩ := arr_facts hq k
    refine ⟨?_, fun i hi => ?_⟩
    · rw [arrK]
      refine List.nodup_append.2 ⟨h1, (ord_nodup hq).filter _, fun a ha b hb e => ?_⟩
      have := (h2 a ha).2
      have h3 := arr_mem (List.mem_filter.1 hb).2
      rw [e] at this; omega
    · rw [arrK] at hi
      rcases List.mem_append.1 hi with hi | hi
      · have := h2 i hi; exact ⟨this.1, by omega⟩
      · have h3 := arr_mem (List.mem_filter.1 hi).2
        exact ⟨ordV_mem.1 (show i ∈ ordV q from (List.mem_filter.1 hi).1), by omega⟩
structure RnI (q : Qu) (k : Nat) (c : Nat) (s : Cr) : Prop where
  pv : Pv q.gs (arrK q.gs k) (cumE q k) c s
  ln : s.inn.length = q.gs.length
  io : ∀ i : Int, 0 ≤ i ∧ i < q.gs.length → (0 ≤ inAt s.inn i ↔ i ∈ (arrK q.gs k).take c)
  ub : ∀ i : Int, 0 ≤ i ∧ i < q.gs.length → inAt s.inn i < (k : Int)
theorem RnI.start {q : Qu} (hq : q.Ok) : RnI q 0 0 (open0 q 0) := by
  have hs := hq.s
  have hin : ∀ i : Int, 0 ≤ i ∧ i < q.gs.length → inAt (List.replicate q.gs.length (-1)) i = -1 := fun i hi => by
    unfold inAt
    rw [List.getD_eq_getElem?_getD, List.getElem?_replicate, if_pos (by omega)]; rfl
  refine ⟨⟨Nat.le_refl _, rfl, Int.le_refl _, fun h => absurd h (by show ¬ (0 : Int) < 0; omega), by show 0 ≤ q.seats + 0; omega, ?_⟩, List.length_replicate, fun i hi => ?_, fun i hi => ?_⟩
  · show q.seats + 0 = q.seats - smS q.gs (List.take _ [])
    rw [List.take_nil]; unfold smS; simp
  · show 0 ≤ inAt (List.replicate q.gs.length (-1)) i ↔ _
    rw [hin i hi]
    exact ⟨fun h => absurd h (by decide), fun h => by cases h⟩
  · show inAt (List.replicate q.gs.length (-1)) i < _
    rw [hin i hi]; decide
theorem take_pre {α : Type} {A B : List α} {c : Nat} (h : c ≤ A.length) : (A ++ B).take c = A.take c := List.take_append_of_le_length h
theorem minute_step {q : Qu} (hq : q.Ok) (hno : StayQ q.gs) {rate : Int} (hr : 0 ≤ rate) {k c : Nat} {s : Cr} (h : RnI q k c s) :
    ∃ c', RnI q (k + 1) c' (minuteV q rate (ordV q) (k : Int) s) ∧ Inn q.gs.length (arrK q.gs (k + 1)) c' (k : Int) s (minuteV q rate (ordV q) (k : Int) s) ∧
      donV q.gs (arrK q.gs (k + 1)) c' (minuteV q rate (ordV q) (k : Int) s) ≤ donV q.gs (arrK q.gs k) c s + (if q.opn ≤ (k : Int) then rate else 0) ∧
      (donV q.gs (arrK q.gs (k + 1)) c' (minuteV q rate (ordV q) (k : Int) s) = donV q.gs (arrK q.gs k) c s + (if q.opn ≤ (k : Int) then rate else 0) ∨ Stp q.gs (arrK q.gs (k + 1)) c' (minuteV q rate (ordV q) (k : Int) s)) := by
  obtain ⟨a1, a2⟩ := arr_facts hq (k + 1)
  have hP := h.pv
  have hcl := hP.cl
  have hfa := freeAll_rng hq (k : Int)
  have hA : arrK q.gs (k + 1) = arrK q.gs k ++ (ordV q).filter (arrV q.gs (k : Int)) := rfl
  obtain ⟨sJ, hJ⟩ : ∃ sJ, sJ = joinV q.gs (ordV q) (k : Int) (freedV q (k : Int) s) := ⟨_, rfl⟩
  have j1 : sJ.ws = s.ws ++ (ordV q).filter (arrV q.gs (k : Int)) := by rw [hJ]; show keptV q.gs _ _ ++ _ = _; rw [kept_no hno]; rfl
  have j2 : sJ.passing = s.passing := by rw [hJ]; rfl
  have j3 : sJ.free = s.free + freeAll q.fs (k : Int) := by rw [hJ]; rfl
  have j4 : sJ.inn = s.inn := by rw [hJ]; rfl
  have htk : ∀ x, x ≤ (arrK q.gs k).length → (arrK q.gs (k + 1)).take x = (arrK q.gs k).take x := fun x hx => by rw [hA]; exact take_pre hx
  have hif : (if 0 < s.passing then c + 1 else c) ≤ (arrK q.gs k).length := by
    by_cases g : 0 < s.passing
    · obtain ⟨i, hi, _⟩ := hP.pc g
      rw [if_pos g]; have := (List.getElem?_eq_some_iff.1 hi).1; omega
    · rw [if_neg g]; exact hcl
  have hPJ : Pv q.gs (arrK q.gs (k + 1)) (cumE q (k + 1)) c sJ := by
    refine ⟨by rw [hA, List.length_append]; omega, ?_, by rw [j2]; exact hP.p, fun g => ?_, by rw [j3]; have := hP.f; omega, ?_⟩
    · rw [j1, hP.ws, hA, List.drop_append_of_le_length hcl]
    · rw [j2] at g ⊢
      obtain ⟨i, hi, hi2⟩ := hP.pc g
      exact ⟨i, by rw [hA, List.getElem?_append_left (List.getElem?_eq_some_iff.1 hi).1]; exact hi, hi2⟩
    · rw [j3, hP.fr, j2, htk _ hif, cumE]; omega
  have hIJ : Inn q.gs.length (arrK q.gs (k + 1)) c (k : Int) sJ sJ := ⟨by rw [j4]; exact h.ln, fun i hi => by rw [j4, htk _ hcl]; exact h.io i hi, fun i _ _ => rfl, fun i _ h0 => .inl h0⟩
  have hdJ : donV q.gs (arrK q.gs (k + 1)) c sJ = donV q.gs (arrK q.gs k) c s := by
    unfold donV
    rw [j2, htk _ hcl]
    by_cases g : 0 < s.passing
    · obtain ⟨i, hi, _⟩ := hP.pc g
      rw [if_pos g, if_pos g, getD_of hi, getD_of (i := i) (by rw [hA, List.getElem?_append_left (List.getElem?_eq_some_iff.1 hi).1]; exact hi)]
    · rw [if_neg g, if_neg g]
  have hz : ∀ x ∈ arrK q.gs (k + 1), 0 < szV q.gs x := fun x hx => by have := szV_rng hq (a2 x hx).1; omega
  have hmk : minuteV q rate (ordV q) (k : Int) s = bif decide (q.opn ≤ (k : Int)) then passV q.gs (k : Int) rate.toNat rate sJ else sJ := by rw [hJ]; rfl
  have fin : ∀ (c' : Nat) (s' : Cr), Pv q.gs (arrK q.gs (k + 1)) (cumE q (k + 1)) c' s' → Inn q.gs.length (arrK q.gs (k + 1)) c' (k : Int) sJ s' → RnI q (k + 1) c' s' ∧ Inn q.gs.length (arrK q.gs (k + 1)) c' (k : Int) s s' := fun c' s' p1 p2 => by
    have p3 : Inn q.gs.length (arrK q.gs (k + 1)) c' (k : Int) s s' := ⟨p2.ln, p2.io, fun i hi h0 => by rw [p2.old i hi (by rw [j4]; exact h0), j4], fun i hi h0 => p2.new i hi (by rw [j4]; exact h0)⟩
    refine ⟨⟨p1, p2.ln, p2.io, fun i hi => ?_⟩, p3⟩
    have h4 := h.ub i hi
    by_cases g : 0 ≤ inAt s.inn i
    · rw [p3.old i hi g]; omega
    · rcases p3.new i hi (by omega) with h5 | h5 <;> omega
  rw [hmk]
  by_cases ho : q.opn ≤ (k : Int)
  · rw [decide_eq_true ho, cond_true, if_pos ho]
    obtain ⟨c', p1, p2, p3, p4⟩ := pass_end hPJ hIJ a1 (fun x hx => (a2 x hx).1) hz (by omega) hr
    obtain ⟨p5, p6⟩ := fin c' _ p1 p2
    rw [hdJ] at p3 p4
    exact ⟨c', p5, p6, p3, p4⟩
  · rw [decide_eq_false ho, cond_false, if_neg ho]
    obtain ⟨p5, p6⟩ := fin c sJ hPJ hIJ
    exact ⟨c, p5, p6, by rw [hdJ]; omega, .inl (by rw [hdJ]; omega)⟩
structure Two (q1 q2 : Qu) (k : Nat) (s1 s2 : Cr) : Prop where
  ex : ∃ c1 c2, RnI q1 k c1 s1 ∧ RnI q2 k c2 s2 ∧ donV q1.gs (arrK q1.gs k) c2 s2 ≤ donV q1.gs (arrK q1.gs k) c1 s1
  cmp : ∀ i : Int, 0 ≤ i ∧ i < q1.gs.length → 0 ≤ inAt s2.inn i → 0 ≤ inAt s1.inn i ∧ inAt s1.inn i ≤ inAt s2.inn i
theorem two_run {q : Qu} {f1 f2 : List Fe} (h1 : (withF q f1).Ok) (h2 : (withF q f2).Ok) (hno : StayQ q.gs) {rate : Int} (hr : 0 ≤ rate) (hE : ∀ k, cumE (withF q f2) k ≤ cumE (withF q f1) k) : ∀ k : Nat, Two (withF q f1) (withF q f2) k (runTo (withF q f1) rate 0 k) (runTo (withF q f2) rate 0 k)
  | 0 => by
    have hin : ∀ i : Int, 0 ≤ i ∧ i < q.gs.length → inAt (List.replicate q.gs.length (-1)) i = -1 := fun i hi => by
      unfold inAt
      rw [List.getD_eq_getElem?_getD, List.getElem?_replicate, if_pos (by omega)]; rfl
    exact ⟨⟨0, 0, RnI.start h1, RnI.start h2, Int.le_refl _⟩, fun i hi h0 => by
      have : inAt (List.replicate q.gs.length (-1)) i = -1 := hin i hi
      exact absurd (show 0 ≤ inAt (List.replicate q.gs.length (-1)) i from h0) (by rw [this]; decide)⟩
  | k + 1 => by
    obtain ⟨⟨c1, c2, r1, r2, hd⟩, hc⟩ := two_run h1 h2 hno hr hE k
    obtain ⟨d1, n1, i1, u1, v1⟩ := minute_step h1 hno hr r1
    obtain ⟨d2, n2, i2, u2, v2⟩ := minute_step h2 hno hr r2
    obtain ⟨a1, a2⟩ := arr_facts h1 (k + 1)
    have hz : ∀ x ∈ arrK q.gs (k + 1), 0 < szV q.gs x := fun x hx => by
      have g9 : 1 ≤ szV q.gs x ∧ szV q.gs x ≤ 20 := szV_rng h1 (a2 x hx).1
      omega
    have hd' : donV q.gs (arrK q.gs (k + 1)) d2 (minuteV (withF q f2) rate (ordV (withF q f2)) (k : Int) (runTo (withF q f2) rate 0 k)) ≤ donV q.gs (arrK q.gs (k + 1)) d1 (minuteV (withF q f1) rate (ordV (withF q f1)) (k : Int) (runTo (withF q f1) rate 0 k)) := by
      rcases v1 with v1 | v1
      · have e1 : (withF q f2).opn = (withF q f1).opn := rfl
        rw [e1] at u2
        exact Int.le_trans u2 (by rw [show donV q.gs (arrK q.gs (k + 1)) d1 (minuteV (withF q f1) rate (ordV (withF q f1)) (k : Int) (runTo (withF q f1) rate 0 k)) = _ from v1]; exact Int.add_le_add_right hd _)
      · exact don_cmp hz n1.pv n2.pv (hE (k + 1)) v1
    have hcc : d2 ≤ d1 := don_ge hz n1.pv n2.pv hd'
    refine ⟨⟨d1, d2, n1, n2, hd'⟩, fun i hi h0 => ?_⟩
    have hin1 : 0 ≤ inAt (runTo (withF q f1) rate 0 (k + 1)).inn i := (n1.io i hi).2 ((List.take_sublist_take_left hcc).subset ((n2.io i hi).1 h0))
    refine ⟨hin1, ?_⟩
    have hub := n1.ub i hi
    by_cases g : 0 ≤ inAt (runTo (withF q f2) rate 0 k).inn i
    · obtain ⟨g1, g2⟩ := hc i hi g
      have e2 := i2.old i hi g
      have e1 := i1.old i hi g1
      show inAt (minuteV _ _ _ _ _).inn i ≤ inAt (minuteV _ _ _ _ _).inn i
      rw [e1, e2]; exact g2
    · rcases i2.new i hi (by omega) with e2 | e2
      · exact absurd h0 (by show ¬ 0 ≤ inAt (minuteV _ _ _ _ _).inn i; omega)
      · show _ ≤ inAt (minuteV _ _ _ _ _).inn i
        rw [e2]
        have : inAt (runTo (withF q f1) rate 0 (k + 1)).inn i < ((k + 1 : Nat) : Int) := hub
        omega
end Go.Proofs.Ytngelilffleimaa

namespace Go.Proofs.Ytngelilffleimaa
open Go Go.RowKit

section
variable {F : Fence} {P : Program} {ops : Array Oper} {Q : Exit → Act → World → Prop} {rest : List Oper} {n : Nat} {D : List Deferred} {l : Env} {w0 : World} {L M : List Ent}
theorem St.getRowF {w : World} {fr : Bool} {rs : List Row} {r : Row} (h : St w0 w (manyE fr rs :: M)) (hr : r ∈ rs) : St w0 w (.ro r.A r.size r.n r.es :: manyE fr rs :: M) := by
  have hp := List.pairwise_cons.1 h.sep
  refine ⟨h.below, fun x hx => ?_, fun x hx hf k hk => ?_, List.pairwise_cons.2 ⟨fun x hx ho k hk hk' => ?_, h.sep⟩⟩
  · rcases List.mem_cons.1 hx with rfl | hx
    · exact h.ok (manyE fr rs) (by simp) r hr
    · exact h.ok x hx
  · rcases List.mem_cons.1 hx with rfl | hx
    · cases hf
    · exact h.new x hx hf k hk
  · rcases List.mem_cons.1 hx with rfl | hx
    · rcases ho with h1 | h1 <;> cases h1
    · exact hp.1 x hx (ho.imp (fun h => (by cases h)) id) k ⟨r, hr, hk⟩ hk'
theorem WC.getRowF {c : Code} {fr : Bool} {rs : List Row} {r : Row} (hr : r ∈ rs) (ha : At L (manyE fr rs) M) (h : WC F P c Q n D l w0 (.ro r.A r.size r.n r.es :: manyE fr rs :: M)) : WC F P c Q n D l w0 L := fun hF a w hfr hst => h hF a w hfr ((hst.pull ha).getRowF hr)
theorem WL.getRowF {fr : Bool} {rs : List Row} {r : Row} (hr : r ∈ rs) (ha : At L (manyE fr rs) M) (h : WL F P ops Q rest n D l w0 (.ro r.A r.size r.n r.es :: manyE fr rs :: M)) : WL F P ops Q rest n D l w0 L := fun hF a w hfr hst => h hF a w hfr ((hst.pull ha).getRowF hr)
theorem St.manyOld {w : World} (h : St w0 w L) {rs : List Row} (hr : ∀ r ∈ rs, Rd w0 r.A r.size r.n r.es) : St w0 w (manyE false rs :: L) := by
  have hlt : ∀ b, (manyE false rs).fp b → b < w0.heap.size := fun b hb => Ent.ok_lt (e := manyE false rs) hr hb
  refine ⟨h.below, fun x hx => ?_, fun x hx hf b hb => ?_, List.pairwise_cons.2 ⟨fun x hx hor b hb hb' => ?_, h.sep⟩⟩
  · rcases List.mem_cons.1 hx with rfl | hx
    · exact Ent.ok_frame (e := manyE false rs) hr fun b hb => h.below.b.block b (hlt b hb)
    · exact h.ok x hx
  · rcases List.mem_cons.1 hx with rfl | hx
    · cases hf
    · exact h.new x hx hf b hb
  · rcases hor with hor | hor
    · cases hor
    · have h1 := h.new x hx (Ent.fresh_of_excl hor) b hb'
      have h2 := hlt b hb
      omega
theorem WC.manyOld {c : Code} {rs : List Row} (hr : ∀ r ∈ rs, Rd w0 r.A r.size r.n r.es) (h : WC F P c Q n D l w0 (manyE false rs :: L)) : WC F P c Q n D l w0 L := fun hF a w hfr hst => h hF a w hfr (hst.manyOld hr)
theorem WL.manyOld {rs : List Row} (hr : ∀ r ∈ rs, Rd w0 r.A r.size r.n r.es) (h : WL F P ops Q rest n D l w0 (manyE false rs :: L)) : WL F P ops Q rest n D l w0 L := fun hF a w hfr hst => h hF a w hfr (hst.manyOld hr)
end
def dyR (d : Dy) : Row := ⟨d.A, 2, d.sp.length, encSn d.sp⟩
def afR (j : Jb) : Row := ⟨j.fA, 1, j.af.length, enI j.af⟩
def wiR (j : Jb) : Row := ⟨j.wA, 1, j.wi.length, enI j.wi⟩
def pgU (p : Pg) : List Row := ⟨p.dA, 1, p.days.length, encDy p.days⟩ :: ⟨p.jA, 6, p.jobs.length, encJb p.jobs⟩ :: (p.days.map dyR ++ (p.jobs.map afR ++ p.jobs.map wiR))
theorem pgU_d (p : Pg) : (⟨p.dA, 1, p.days.length, encDy p.days⟩ : Row) ∈ pgU p := List.mem_cons_self
theorem pgU_j (p : Pg) : (⟨p.jA, 6, p.jobs.length, encJb p.jobs⟩ : Row) ∈ pgU p := List.mem_cons_of_mem _ List.mem_cons_self
theorem pgU_s {p : Pg} {d : Dy} (h : d ∈ p.days) : (⟨d.A, 2, d.sp.length, encSn d.sp⟩ : Row) ∈ pgU p := List.mem_cons_of_mem _ (List.mem_cons_of_mem _ (List.mem_append_left _ (List.mem_map.2 ⟨d, h, rfl⟩)))
theorem pgU_f {p : Pg} {j : Jb} (h : j ∈ p.jobs) : (⟨j.fA, 1, j.af.length, enI j.af⟩ : Row) ∈ pgU p := List.mem_cons_of_mem _ (List.mem_cons_of_mem _ (List.mem_append_right _ (List.mem_append_left _ (List.mem_map.2 ⟨j, h, rfl⟩))))
theorem pgU_w {p : Pg} {j : Jb} (h : j ∈ p.jobs) : (⟨j.wA, 1, j.wi.length, enI j.wi⟩ : Row) ∈ pgU p := List.mem_cons_of_mem _ (List.mem_cons_of_mem _ (List.mem_append_right _ (List.mem_append_right _ (List.mem_map.2 ⟨j, h, rfl⟩))))
theorem PgR.rows {w : World} {p : Pg} (h : PgR w p) : ∀ r ∈ pgU p, Rd w r.A r.size r.n r.es := by
  intro r hr
  unfold pgU at hr
  rcases List.mem_cons.1 hr with rfl | hr
  · exact h.d
  rcases List.mem_cons.1 hr with rfl | hr
  · exact h.j
  rcases List.mem_append.1 hr with hr | hr
  · obtain ⟨d, hd, rfl⟩ := List.mem_map.1 hr; exact h.s d hd
  rcases List.mem_append.1 hr with hr | hr
  · obtain ⟨d, hd, rfl⟩ := List.mem_map.1 hr; exact h.f d hd
  · obtain ⟨d, hd, rfl⟩ := List.mem_map.1 hr; exact h.w d hd
structure PgN (p : Pg) : Prop where
  dn : p.days.length ≤ 9223372036854775807
  jn : p.jobs.length ≤ 9223372036854775807
  sn : ∀ d ∈ p.days, d.sp.length ≤ 9223372036854775807
  fn : ∀ x ∈ p.jobs, x.af.length ≤ 9223372036854775807
  wn : ∀ x ∈ p.jobs, x.wi.length ≤ 9223372036854775807
theorem PgR.nums {w : World} {p : Pg} (h : PgR w p) : PgN p := ⟨h.dn, h.jn, h.sn, h.fn, h.wn⟩
theorem PgR.of {w : World} {p : Pg} (h : ∀ r ∈ pgU p, Rd w r.A r.size r.n r.es) (hn : PgN p) : PgR w p :=
  ⟨h _ (pgU_d p), h _ (pgU_j p), fun d hd => h _ (pgU_s hd), fun x hx => h _ (pgU_f hx), fun x hx => h _ (pgU_w hx), hn.dn, hn.jn, hn.sn, hn.fn, hn.wn⟩
structure DS.Ok (d : DS) (B : Int) : Prop where
  fb : ∀ i, 0 ≤ d.fr i ∧ d.fr i ≤ B
  eb : ∀ i, 0 ≤ d.en i ∧ d.en i ≤ B
  eo : ∀ i, 6 ≤ i → d.en i = 0
theorem getD_get {l : List Int} {i : Nat} (h : i < l.length) : l[i]? = some (l.getD i 0) := by rw [List.getD_eq_getElem?_getD, List.getElem?_eq_getElem h]; rfl
theorem upF_same (f : Nat → Int) (i : Nat) (v : Int) : upF f i v i = v := if_pos rfl
theorem upF_rng {f : Nat → Int} {B C v : Int} (h : ∀ i, 0 ≤ f i ∧ f i ≤ B) (hB : B ≤ C) (hv : 0 ≤ v ∧ v ≤ C) (i : Nat) : ∀ j, 0 ≤ upF f i v j ∧ upF f i v j ≤ C := fun j => by
  unfold upF
  by_cases e : j = i
  · rw [if_pos e]; exact hv
  · rw [if_neg e]; have := h j; omega
section
variable {d : DS} {B : Int}
theorem fr_at (d : DS) {i : Nat} (hi : i < 3) : d.cells[1 + i]? = some (.int .i64 (d.fr i)) := by
  match i, hi with
  | 0, _ => rfl
  | 1, _ => rfl
  | 2, _ => rfl
theorem enV_at (d : DS) {i : Nat} (hi : i < 6) : (#[Value.int .i64 (d.en 0), .int .i64 (d.en 1), .int .i64 (d.en 2), .int .i64 (d.en 3), .int .i64 (d.en 4), .int .i64 (d.en 5)] : Array Value)[i]? = some (.int .i64 (d.en i)) := by
  match i, hi with
  | 0, _ => rfl
  | 1, _ => rfl
  | 2, _ => rfl
  | 3, _ => rfl
  | 4, _ => rfl
  | 5, _ => rfl
theorem fr_set (d : DS) {i : Nat} (hi : i < 3) (v : Int) : d.cells.set (1 + i) (.int .i64 v) = (⟨d.num, upF d.fr i v, d.en⟩ : DS).cells := by
  match i, hi with
  | 0, _ => rfl
  | 1, _ => rfl
  | 2, _ => rfl
theorem en_set (d : DS) {i : Nat} (hi : i < 6) (v : Int) : d.cells.set (4 + i) (.int .i64 v) = (⟨d.num, d.fr, upF d.en i v⟩ : DS).cells := by
  match i, hi with
  | 0, _ => rfl
  | 1, _ => rfl
  | 2, _ => rfl
  | 3, _ => rfl
  | 4, _ => rfl
  | 5, _ => rfl
theorem DS.Ok.mono (h : d.Ok B) {C : Int} (hB : B ≤ C) : d.Ok C := ⟨fun i => by have := h.fb i; omega, fun i => by have := h.eb i; omega, h.eo⟩
theorem DS.Ok.put (h : d.Ok B) {C : Int} (hB : B ≤ C) {i j : Nat} (hj : j < 6) {v : Int} (hv : 0 ≤ v ∧ v ≤ C) : (⟨d.num, upF d.fr i v, upF d.en j v⟩ : DS).Ok C :=
  ⟨upF_rng h.fb hB hv i, upF_rng h.eb hB hv j, fun k hk => by
    show upF d.en j v k = 0
    unfold upF
    rw [if_neg (by omega)]; exact h.eo k hk⟩
theorem begTil_rng (p : Pg) (hr : 0 ≤ p.rest ∧ p.rest ≤ 600) (h : d.Ok B) (hB : 1440 ≤ B) (s : Se) {ear : Int} (he : 0 ≤ ear ∧ ear ≤ 1440) : ∀ k, 0 ≤ begTil p d s ear k ∧ begTil p d s ear k ≤ B + 600
  | 0 => by
    have := h.fb s.court.toNat
    unfold begTil; omega
  | k + 1 => by
    have ih := begTil_rng p hr h hB s he k
    have := h.eb k
    unfold begTil begK
    cases decide (0 < d.en k) && shB p s.job k
    · exact ih
    · simp only [cond_true]; omega
theorem frTo_rng {l : List Sn} (h : ∀ i s, i < l.length → l[i]? = some s → 0 ≤ s.1 ∧ s.1 ≤ 1440) : ∀ k i, 0 ≤ frTo l k i ∧ frTo l k i ≤ 1440
  | 0, i => by show (0 : Int) ≤ 0 ∧ (0 : Int) ≤ 1440; omega
  | k + 1, i => by
    rw [frTo]
    cases e : l[k]? with
    | none => exact frTo_rng h k i
    | some s => exact upF_rng (frTo_rng h k) (Int.le_refl _) (h k s (List.getElem?_eq_some_iff.1 e).1 e) k i
theorem open_ok {p : Pg} (hp : POk p) (n : Int) : (openD p n).Ok 1440 := by
  refine ⟨fun i => ?_, fun i => by show (0 : Int) ≤ 0 ∧ (0 : Int) ≤ 1440; omega, fun i _ => rfl⟩
  unfold openD
  cases e : p.days[n.toNat]? with
  | none => show (0 : Int) ≤ 0 ∧ (0 : Int) ≤ 1440; omega
  | some d =>
    have h1 := hp.dy n.toNat d (List.getElem?_eq_some_iff.1 e).1 e
    exact frTo_rng (fun j s hj hs => by have := h1.2 j s hj hs; omega) _ i
end
end Go.Proofs.Ytngelilffleimaa

namespace Go.Proofs.Ytngelilffleimaa
open Go Go.RowKit

theorem C_play_within (n lo hi : Int) (h : lo ≤ n ∧ n ≤ hi) (w : World) : C0 Try.prog 42 [.int .i64 n, .int .i64 lo, .int .i64 hi] w (.bool true) := by
  have h1 : decide (lo ≤ n) = true := decide_eq_true h.1
  have h2 : decide (n ≤ hi) = true := decide_eq_true h.2
  refine ⟨en Try.func42 Try.ntmps42 (St.init w) (h := fun F => ?_)⟩
  refine sq (h := ?_)
  refine rg (h := ?_)
  refine WL.y (hy := asg) (h := ?_)
  refine nl (h := ?_)
  refine q_seq (h := ?_)
  refine sq (h := ?_)
  refine rg (h := ?_)
  refine WL.y (hy := mv) (h := ?_)
  refine WL.y (hy := mv) (h := ?_)
  refine WL.y (hy := (Yd.tr (leq) (by exact h1))) (h := ?_)
  refine WL.y (hy := mv) (h := ?_)
  refine un (h := ?_)
  refine WL.y (hy := mv) (h := ?_)
  refine un (h := ?_)
  refine WL.y (hy := mv) (h := ?_)
  refine un (h := ?_)
  refine WL.y (hy := (Yd.tr (leq) (by exact h2))) (h := ?_)
  refine WL.y (hy := (by first | exact pkT | exact pkF)) (h := ?_)
  refine WL.y (hy := asg) (h := ?_)
  refine nl (h := ?_)
  refine q_seq (h := ?_)
  refine rtn (h := ?_)
  refine q_ret (hR := ?_)
  exact fun w hS => ⟨rfl, hS.sub (by repeat (first | exact SubL.nil | (apply SubL.cons; (repeat (first | exact At.here | apply At.there))) | exact SubL.refl _ | apply SubL.skip))⟩
theorem C_play_isSpan (s : Sn) (lo hi : Int) (h : lo ≤ s.1 ∧ s.1 ≤ s.2 ∧ s.2 ≤ hi) (w : World) : C0 Try.prog 45 [.agg #[.int .i64 s.1, .int .i64 s.2], .int .i64 lo, .int .i64 hi] w (.bool true) := by
  refine ⟨en Try.func45 Try.ntmps45 (St.init w) (h := fun F => ?_)⟩
  refine sq (h := ?_)
  refine rg (h := ?_)
  refine bxA (h := fun b0 => ?_)
  refine WL.y (hy := asg) (h := ?_)
  refine nl (h := ?_)
  refine q_seq (h := ?_)
  refine sq (h := ?_)
  refine rg (h := ?_)
  refine WL.y (hy := (by first | exact fa | exact faE)) (h := ?_)
  refine WL.y (hy := (by first | exact ld | exact ldE)) (h := ?_)
  refine WL.y (hy := (by first | exact fa | exact faE)) (h := ?_)
  refine WL.y (hy := (by first | exact ld | exact ldE)) (h := ?_)
  refine WL.y (hy := (Yd.tr (leq) (by exact decide_eq_true h.2.1))) (h := ?_)
  refine WL.y (hy := mv) (h := ?_)
  refine un (h := ?_)
  refine WL.y (hy := (by first | exact fa | exact faE)) (h := ?_)
  refine un (h := ?_)
  refine WL.y (hy := (by first | exact ld | exact ldE)) (h := ?_)
  refine un (h := ?_)
  refine WL.y (hy := mv) (h := ?_)
  refine un (h := ?_)
  refine WL.y (hy := mv) (h := ?_)
  refine un (h := ?_)
  refine cl0 (hc := fun w hS => C_play_within _ _ _ (by omega) w) (h := ?_)
  refine WL.y (hy := (by first | exact pkT | exact pkF)) (h := ?_)
  refine WL.y (hy := mv) (h := ?_)
  refine un (h := ?_)
  refine WL.y (hy := (by first | exact fa | exact faE)) (h := ?_)
  refine un (h := ?_)
  refine WL.y (hy := (by first | exact ld | exact ldE)) (h := ?_)
  refine un (h := ?_)
  refine WL.y (hy := mv) (h := ?_)
  refine un (h := ?_)
  refine WL.y (hy := mv) (h := ?_)
  refine un (h := ?_)
  refine cl0 (hc := fun w hS => C_play_within _ _ _ (by omega) w) (h := ?_)
  refine WL.y (hy := (by first | exact pkT | exact pkF)) (h := ?_)
  refine WL.y (hy := asg) (h := ?_)
  refine nl (h := ?_)
  refine q_seq (h := ?_)
  refine rtn (h := ?_)
  refine q_ret (hR := ?_)
  exact fun w hS => ⟨rfl, hS.sub (by repeat (first | exact SubL.nil | (apply SubL.cons; (repeat (first | exact At.here | apply At.there))) | exact SubL.refl _ | apply SubL.skip))⟩
theorem C_play_isStage (s : Sn) (d : Int) (h : 1 ≤ s.1 ∧ s.1 ≤ s.2 ∧ s.2 ≤ 600) (hd : 0 ≤ d ∧ d ≤ 2) (w : World) : C0 Try.prog 46 [.agg #[.int .i64 s.1, .int .i64 s.2], .int .i64 d] w (.bool true) := by
  refine ⟨en Try.func46 Try.ntmps46 (St.init w) (h := fun F => ?_)⟩
  refine sq (h := ?_)
  refine rg (h := ?_)
  refine bxA (h := fun b0 => ?_)
  refine WL.y (hy := asg) (h := ?_)
  refine nl (h := ?_)
  refine q_seq (h := ?_)
  refine sq (h := ?_)
  refine rg (h := ?_)
  refine WL.y (hy := (by first | exact ldA | exact ldEA)) (h := ?_)
  refine cl0 (hc := fun w hS => C_play_isSpan s 1 600 h w) (h := ?_)
  refine WL.y (hy := mv) (h := ?_)
  refine un (h := ?_)
  refine WL.y (hy := mv) (h := ?_)
  refine un (h := ?_)
  refine cl0 (hc := fun w hS => C_play_within _ _ _ (by omega) w) (h := ?_)
  refine WL.y (hy := (by first | exact pkT | exact pkF)) (h := ?_)
  refine WL.y (hy := asg) (h := ?_)
  refine nl (h := ?_)
  refine q_seq (h := ?_)
  refine rtn (h := ?_)
  refine q_ret (hR := ?_)
  exact fun w hS => ⟨rfl, hS.sub (by repeat (first | exact SubL.nil | (apply SubL.cons; (repeat (first | exact At.here | apply At.there))) | exact SubL.refl _ | apply SubL.skip))⟩
theorem C_play_Check1 (s : Sn) (h : 0 ≤ s.1 ∧ s.1 ≤ s.2 ∧ s.2 ≤ 1440) (w : World) : C0 Try.prog 44 [.agg #[.int .i64 s.1, .int .i64 s.2]] w (.bool false) := by
  refine ⟨en Try.func44 Try.ntmps44 (St.init w) (h := fun F => ?_)⟩
  refine sq (h := ?_)
  refine rg (h := ?_)
  refine bxA (h := fun b0 => ?_)
  refine WL.y (hy := asg) (h := ?_)
  refine nl (h := ?_)
  refine q_seq (h := ?_)
  refine sq (h := ?_)
  refine rg (h := ?_)
  refine WL.y (hy := (by first | exact ldA | exact ldEA)) (h := ?_)
  refine cl0 (hc := fun w hS => C_play_isSpan s 0 1440 h w) (h := ?_)
  refine WL.y (hy := notB) (h := ?_)
  refine WL.y (hy := asg) (h := ?_)
  refine nl (h := ?_)
  refine q_seq (h := ?_)
  refine rtn (h := ?_)
  refine q_ret (hR := ?_)
  exact fun w hS => ⟨rfl, hS.sub (by repeat (first | exact SubL.nil | (apply SubL.cons; (repeat (first | exact At.here | apply At.there))) | exact SubL.refl _ | apply SubL.skip))⟩
theorem C_IndexSpan {A : Option Addr} {n c : Nat} {es : List (List Value)} {g : FuncId} (hg : FnOk Try.prog g) (fi cap : List Value) (Lp : List Ent) (p : Nat → Bool) (hn : n ≤ 9223372036854775807)
    (hp : ∀ k cs, es[k]? = some cs → Tr Try.prog g (fi ++ [.agg cs.toArray] ++ cap) (.ro A 2 n es :: Lp) (fun _ : Unit => True) (fun _ => .bool (p k)) (fun _ => .ro A 2 n es :: Lp)) :
    Tr Try.prog 65 [.slice A n c, .func (.func g) fi.toArray cap.toArray] (.ro A 2 n es :: Lp) (Fst p n) (fun j => .int .i64 j) (fun _ => .ro A 2 n es :: Lp) := by
  refine ⟨fun w0 w R hst => ?_⟩
  have hlen : es.length = n := (hst.ok (.ro A 2 n es) (by simp)).len
  refine en Try.func65 Try.ntmps65 hst (h := fun F => ?_)
  refine sq (h := ?_)
  refine rg (h := ?_)
  refine WL.y (hy := asg) (h := ?_)
  refine nl (h := ?_)
  refine q_seq (h := ?_)
  refine sq (h := ?_)
  refine sq (h := ?_)
  refine rg (h := ?_)
  refine WL.y (hy := mv) (h := ?_)
  refine WL.y (hy := lenS) (h := ?_)
  refine WL.y (hy := mv) (h := ?_)
  refine nl (h := ?_)
  refine q_seq (h := ?_)
  refine bk (h := ?_)
  refine lp (X := Nat) (I := fun k => k ≤ n ∧ ∀ i, i < k → p i = false) (le := fun k => [(0, .slice A n c), (1, .func (.func g) fi.toArray cap.toArray), (7, .int .i64 n), (8, .int .i64 k)]) (Le := fun _ => .ro A 2 n es :: (Lp ++ R)) (μ := fun k => n - k) 0 ⟨by omega, fun i hi => by omega⟩ (by repeat (first | exact trivial | refine ⟨rfl, ?_⟩)) (SubL.refl _) (fun k hk => ?_)
  obtain ⟨hk, hall⟩ := hk
  refine sq (h := ?_)
  refine rg (h := ?_)
  refine WL.y (hy := lss) (h := ?_)
  refine nl (h := ?_)
  refine q_seq (h := ?_)
  refine sq (h := ?_)
  refine cd (by exact rfl) (fun h0 => ?_) (fun h0 => ?_)
  · skip
    have hkn : k < n := by simp only [decide_eq_true_eq] at h0; omega
    have hes : es[k]? = some es[k] := List.getElem?_eq_getElem (by omega)
    refine skp (h := ?_)
    refine q_seq (h := ?_)
    refine sq (h := ?_)
    refine bk (h := ?_)
    refine sq (h := ?_)
    refine rg (h := ?_)
    refine WL.y (hy := mv) (h := ?_)
    refine WL.y (hy := asg) (h := ?_)
    refine nl (h := ?_)
    refine q_seq (h := ?_)
    refine sq (h := ?_)
    refine rg (h := ?_)
    refine WL.y (hy := mv) (h := ?_)
    refine WL.y (hy := mv) (h := ?_)
    refine WL.y (hy := mv) (h := ?_)
    refine WL.y (hy := ix) (h := ?_)
    refine WL.y (hy := ldEW (k := k) (cs := es[k]) (hk := hes)) (h := ?_)
    refine clfT hg (fi := fi) (cap := cap) (by exact rfl) (by repeat (first | exact Evs.nil | (apply Evs.cons; exact rfl))) (hp k _ hes) rfl (Spl.cons .here (Spl.app _ _)) (h := fun _ _ => ?_)
    refine nl (h := ?_)
    refine q_seq (h := ?_)
    refine cd (by exact rfl) (fun h1 => ?_) (fun h1 => ?_)
    · skip
      refine sq (h := ?_)
      refine rg (h := ?_)
      refine WL.y (hy := mv) (h := ?_)
      refine WL.y (hy := asg) (h := ?_)
      refine nl (h := ?_)
      refine q_seq (h := ?_)
      refine rtn (h := ?_)
      refine q_blk_ret (h := ?_)
      refine q_then_ret (h := ?_)
      refine q_then_ret (h := ?_)
      refine q_blk_ret (h := ?_)
      refine q_then_ret (h := ?_)
      refine q_ret (hR := ?_)
      exact fun w hS => ⟨_, .inl ⟨k, hkn, rfl, by assumption, hall⟩, rfl, hS⟩
    · skip
      refine skp (h := ?_)
      refine q_blk_norm (h := ?_)
      refine q_seq (h := ?_)
      refine rg (h := ?_)
      refine WL.y (hy := addI) (h := ?_)
      refine WL.y (hy := mv) (h := ?_)
      refine nl (h := ?_)
      refine rn (k + 1) ⟨by omega, fun i hi => ?_⟩ (by omega) (by repeat (first | exact trivial | refine ⟨rfl, ?_⟩)) (SubL.refl _)
      rcases Nat.lt_succ_iff_lt_or_eq.1 hi with h | rfl
      · exact hall i h
      · assumption
  · skip
    have hkn : k = n := by simp only [decide_eq_false_iff_not] at h0; omega
    refine et (h := ?_)
    refine q_then_exit (h := ?_)
    refine q_then_exit (h := ?_)
    refine q_blk_hit (h := ?_)
    refine q_seq (h := ?_)
    refine sq (h := ?_)
    refine rg (h := ?_)
    refine WL.y (hy := asg) (h := ?_)
    refine nl (h := ?_)
    refine q_seq (h := ?_)
    refine rtn (h := ?_)
    refine q_ret (hR := ?_)
    exact fun w hS => ⟨_, .inr ⟨rfl, by subst hkn; exact hall⟩, rfl, hS⟩
theorem C_ContainsSpan {A : Option Addr} {n c : Nat} {es : List (List Value)} {g : FuncId} (hg : FnOk Try.prog g) (fi cap : List Value) (Lp : List Ent) (p : Nat → Bool) (hn : n ≤ 9223372036854775807)
    (hp : ∀ k cs, es[k]? = some cs → Tr Try.prog g (fi ++ [.agg cs.toArray] ++ cap) (.ro A 2 n es :: Lp) (fun _ : Unit => True) (fun _ => .bool (p k)) (fun _ => .ro A 2 n es :: Lp)) :
    Tr Try.prog 43 [.slice A n c, .func (.func g) fi.toArray cap.toArray] (.ro A 2 n es :: Lp) (fun _ : Unit => True) (fun _ => .bool ((List.range n).any p)) (fun _ => .ro A 2 n es :: Lp) := by
  refine ⟨fun w0 w R hst => ?_⟩
  refine en Try.func43 Try.ntmps43 hst (h := fun F => ?_)
  refine sq (h := ?_)
  refine rg (h := ?_)
  refine WL.y (hy := asg) (h := ?_)
  refine nl (h := ?_)
  refine q_seq (h := ?_)
  refine sq (h := ?_)
  refine rg (h := ?_)
  refine WL.y (hy := mv) (h := ?_)
  refine WL.y (hy := mv) (h := ?_)
  refine clT (hc := C_IndexSpan hg fi cap Lp p hn hp) (hs := Spl.cons .here (Spl.app _ _)) (h := fun x0 hx0 => ?_)
  refine WL.y (hy := geq) (h := ?_)
  refine WL.y (hy := asg) (h := ?_)
  refine nl (h := ?_)
  refine q_seq (h := ?_)
  refine rtn (h := ?_)
  refine q_ret (hR := ?_)
  exact fun w hS => ⟨(), trivial, by simp only [resV, hx0.any], hS⟩
theorem no_any (n : Nat) : (List.range n).any (fun _ => false) = false := by rw [List.any_eq_false]; intro x _; decide
theorem C_slices_Index (xs : List Int) (y : Int) (A : Option Addr) (n c : Nat) (w : World) (h : Rd w A 1 n (enI xs)) (hn : n ≤ 9223372036854775807) :
    CR Try.prog 66 [.slice A n c, .int .i64 y] w (Fst (pAt xs fun x => decide (y = x)) n) (fun j => .int .i64 j) (fun _ => []) := by
  have hlen : xs.length = n := by have := h.len; rwa [enI_len] at this
  refine ⟨en Try.func66 Try.ntmps66 ((St.init w).share (e := .ro A 1 n (enI xs)) h rfl rfl rfl) (h := fun F => ?_)⟩
  refine sq (h := ?_)
  refine rg (h := ?_)
  refine WL.y (hy := asg) (h := ?_)
  refine nl (h := ?_)
  refine q_seq (h := ?_)
  refine sq (h := ?_)
  refine sq (h := ?_)
  refine rg (h := ?_)
  refine WL.y (hy := mv) (h := ?_)
  refine WL.y (hy := lenS) (h := ?_)
  refine WL.y (hy := mv) (h := ?_)
  refine nl (h := ?_)
  refine q_seq (h := ?_)
  refine bk (h := ?_)
  refine lp (X := Nat) (I := fun k => k ≤ n ∧ ∀ i, i < k → pAt xs (fun x => decide (y = x)) i = false) (le := fun k => [(0, .slice A n c), (1, .int .i64 y), (7, .int .i64 n), (8, .int .i64 k)]) (Le := fun _ => [.ro A 1 n (enI xs)]) (μ := fun k => n - k) 0 ⟨by omega, fun i hi => by omega⟩ (by repeat (first | exact trivial | refine ⟨rfl, ?_⟩)) (by repeat (first | exact SubL.nil | (apply SubL.cons; (repeat (first | exact At.here | apply At.there))) | exact SubL.refl _ | apply SubL.skip)) (fun k hk => ?_)
  obtain ⟨hk, hall⟩ := hk
  refine sq (h := ?_)
  refine rg (h := ?_)
  refine WL.y (hy := lss) (h := ?_)
  refine nl (h := ?_)
  refine q_seq (h := ?_)
  refine sq (h := ?_)
  refine cd (by exact rfl) (fun h0 => ?_) (fun h0 => ?_)
  · skip
    have hkn : k < n := by simp only [decide_eq_true_eq] at h0; omega
    obtain ⟨x, hx⟩ : ∃ x, xs[k]? = some x := ⟨_, List.getElem?_eq_getElem (by omega)⟩
    have hxe := enI_at hx
    refine skp (h := ?_)
    refine q_seq (h := ?_)
    refine sq (h := ?_)
    refine bk (h := ?_)
    refine sq (h := ?_)
    refine rg (h := ?_)
    refine WL.y (hy := mv) (h := ?_)
    refine WL.y (hy := asg) (h := ?_)
    refine nl (h := ?_)
    refine q_seq (h := ?_)
    refine sq (h := ?_)
    refine rg (h := ?_)
    refine WL.y (hy := mv) (h := ?_)
    refine WL.y (hy := mv) (h := ?_)
    refine WL.y (hy := mv) (h := ?_)
    refine WL.y (hy := ix) (h := ?_)
    refine WL.y (hy := ldE (hk := hxe)) (h := ?_)
    refine WL.y (hy := eql) (h := ?_)
    refine nl (h := ?_)
    refine q_seq (h := ?_)
    refine cd (by exact rfl) (fun h1 => ?_) (fun h1 => ?_)
    · skip
      have hpk : pAt xs (fun x => decide (y = x)) k = true := by rw [pAt_eq hx]; exact h1
      refine sq (h := ?_)
      refine rg (h := ?_)
      refine WL.y (hy := mv) (h := ?_)
      refine WL.y (hy := asg) (h := ?_)
      refine nl (h := ?_)
      refine q_seq (h := ?_)
      refine rtn (h := ?_)
      refine q_blk_ret (h := ?_)
      refine q_then_ret (h := ?_)
      refine q_then_ret (h := ?_)
      refine q_blk_ret (h := ?_)
      refine q_then_ret (h := ?_)
      refine q_ret (hR := ?_)
      exact fun w hS => ⟨_, .inl ⟨k, hkn, rfl, hpk, hall⟩, rfl, hS.sub (by repeat (first | exact SubL.nil | (apply SubL.cons; (repeat (first | exact At.here | apply At.there))) | exact SubL.refl _ | apply SubL.skip))⟩
    · skip
      have hpk : pAt xs (fun x => decide (y = x)) k = false := by rw [pAt_eq hx]; exact h1
      refine skp (h := ?_)
      refine q_blk_norm (h := ?_)
      refine q_seq (h := ?_)
      refine rg (h := ?_)
      refine WL.y (hy := addI) (h := ?_)
      refine WL.y (hy := mv) (h := ?_)
      refine nl (h := ?_)
      refine rn (k + 1) ⟨by omega, fun i hi => ?_⟩ (by omega) (by repeat (first | exact trivial | refine ⟨rfl, ?_⟩)) (by repeat (first | exact SubL.nil | (apply SubL.cons; (repeat (first | exact At.here | apply At.there))) | exact SubL.refl _ | apply SubL.skip))
      rcases Nat.lt_succ_iff_lt_or_eq.1 hi with h | rfl
      · exact hall i h
      · exact hpk
  · skip
    have hkn : k = n := by simp only [decide_eq_false_iff_not] at h0; omega
    refine et (h := ?_)
    refine q_then_exit (h := ?_)
    refine q_then_exit (h := ?_)
    refine q_blk_hit (h := ?_)
    refine q_seq (h := ?_)
    refine sq (h := ?_)
    refine rg (h := ?_)
    refine WL.y (hy := asg) (h := ?_)
    refine nl (h := ?_)
    refine q_seq (h := ?_)
    refine rtn (h := ?_)
    refine q_ret (hR := ?_)
    exact fun w hS => ⟨_, .inr ⟨rfl, by subst hkn; exact hall⟩, rfl, hS.sub (by repeat (first | exact SubL.nil | (apply SubL.cons; (repeat (first | exact At.here | apply At.there))) | exact SubL.refl _ | apply SubL.skip))⟩
theorem C_slices_Contains (xs : List Int) (y : Int) (A : Option Addr) (n c : Nat) (w : World) (h : Rd w A 1 n (enI xs)) (hn : n ≤ 9223372036854775807) :
    C0 Try.prog 48 [.slice A n c, .int .i64 y] w (.bool (xs.any fun x => decide (y = x))) := by
  have hlen : xs.length = n := by have := h.len; rwa [enI_len] at this
  refine ⟨en Try.func48 Try.ntmps48 ((St.init w).share (e := .ro A 1 n (enI xs)) h rfl rfl rfl) (h := fun F => ?_)⟩
  refine sq (h := ?_)
  refine rg (h := ?_)
  refine WL.y (hy := asg) (h := ?_)
  refine nl (h := ?_)
  refine q_seq (h := ?_)
  refine sq (h := ?_)
  refine rg (h := ?_)
  refine WL.y (hy := mv) (h := ?_)
  refine WL.y (hy := mv) (h := ?_)
  refine cl (hc := fun w hS => C_slices_Index _ _ _ _ _ w (hS.get (by repeat (first | exact Rds.ro | exact Rds.own | apply Rds.there))) (by omega)) (h := fun x0 hx0 => ?_)
  refine WL.y (hy := geq) (h := ?_)
  refine WL.y (hy := asg) (h := ?_)
  refine nl (h := ?_)
  refine q_seq (h := ?_)
  refine rtn (h := ?_)
  refine q_ret (hR := ?_)
  exact fun w hS => ⟨by rw [hx0.any, ← hlen, pAt_any]; rfl, hS.sub (by repeat (first | exact SubL.nil | (apply SubL.cons; (repeat (first | exact At.here | apply At.there))) | exact SubL.refl _ | apply SubL.skip))⟩
theorem any_no {xs : List Int} {y : Int} (h : ∀ x ∈ xs, x ≠ y) : (xs.any fun x => decide (y = x)) = false := List.any_eq_false.2 fun x hx => by rw [decide_eq_true_eq]; exact fun e => h x hx e.symm
theorem any_yes {xs : List Int} {y : Int} (h : y ∈ xs) : (xs.any fun x => decide (y = x)) = true := List.any_eq_true.2 ⟨y, h, decide_eq_true rfl⟩
theorem any_con (xs : List Int) (y : Int) : (xs.any fun x => decide (y = x)) = xs.contains y := by
  rw [Bool.eq_iff_iff, List.any_eq_true, List.contains_iff_mem]
  exact ⟨fun ⟨x, hx, e⟩ => by rw [of_decide_eq_true e]; exact hx, fun h => ⟨y, h, decide_eq_true rfl⟩⟩
theorem C_play_areJobs (l : List Int) (b : Int) (A : Option Addr) (n c : Nat) (hb : 0 ≤ b ∧ b ≤ 1000000) (ha : Asc l b n) (hn : n ≤ 9223372036854775807) (w : World) (h : Rd w A 1 n (enI l)) : C0 Try.prog 47 [.slice A n c, .int .i64 b] w (.bool true) := by
  have hlen : l.length = n := by have := h.len; rwa [enI_len] at this
  refine ⟨en Try.func47 Try.ntmps47 ((St.init w).share (e := .ro A 1 n (enI l)) h rfl rfl rfl) (h := fun F => ?_)⟩
  refine sq (h := ?_)
  refine rg (h := ?_)
  refine WL.y (hy := asg) (h := ?_)
  refine WL.cut (by repeat (first | exact Cut.nil | apply Cut.hit | apply Cut.miss (by exact rfl))) ?_
  refine nl (h := ?_)
  refine q_seq (h := ?_)
  refine sq (h := ?_)
  refine sq (h := ?_)
  refine rg (h := ?_)
  refine WL.y (hy := mv) (h := ?_)
  refine WL.y (hy := lenS) (h := ?_)
  refine WL.y (hy := mv) (h := ?_)
  refine nl (h := ?_)
  refine q_seq (h := ?_)
  refine bk (h := ?_)
  refine lp (X := Nat) (I := fun k => k ≤ n) (le := fun k => [(0, .slice A n c), (1, .int .i64 b), (7, .slice A n c), (8, .int .i64 n), (9, .int .i64 k)]) (Le := fun _ => [.ro A 1 n (enI l)]) (μ := fun k => n - k) 0 (Nat.zero_le _) (by repeat (first | exact trivial | refine ⟨rfl, ?_⟩)) (by repeat (first | exact SubL.nil | (apply SubL.cons; (repeat (first | exact At.here | apply At.there))) | exact SubL.refl _ | apply SubL.skip)) (fun k hk => ?_)
  refine sq (h := ?_)
  refine rg (h := ?_)
  refine WL.y (hy := lss) (h := ?_)
  refine nl (h := ?_)
  refine q_seq (h := ?_)
  refine sq (h := ?_)
  refine cd (by exact rfl) (fun h0 => ?_) (fun h0 => ?_)
  · skip
    have hkn : k < n := by have := of_decide_eq_true h0; omega
    obtain ⟨x, hx⟩ : ∃ x, l[k]? = some x := ⟨_, List.getElem?_eq_getElem (by omega)⟩
    have hxe := enI_at hx
    obtain ⟨hx0, hx1, hx2⟩ := ha k x hkn hx
    refine skp (h := ?_)
    refine q_seq (h := ?_)
    refine sq (h := ?_)
    refine bk (h := ?_)
    refine sq (h := ?_)
    refine rg (h := ?_)
    refine WL.y (hy := mv) (h := ?_)
    refine WL.y (hy := ix (A := A) (m := n)) (h := ?_)
    refine WL.y (hy := ldE (A := A) (hk := hxe)) (h := ?_)
    refine WL.y (hy := asg) (h := ?_)
    refine WL.cut (by repeat (first | exact Cut.nil | apply Cut.hit | apply Cut.miss (by exact rfl))) ?_
    refine WL.y (hy := asg) (h := ?_)
    refine WL.cut (by repeat (first | exact Cut.nil | apply Cut.hit | apply Cut.miss (by exact rfl))) ?_
    refine nl (h := ?_)
    refine q_seq (h := ?_)
    refine sq (h := ?_)
    refine rg (h := ?_)
    refine WL.y (hy := mv) (h := ?_)
    refine WL.y (hy := mv) (h := ?_)
    refine WL.y (hy := subI (hb := by omega)) (h := ?_)
    refine cl0 (hc := fun w hS => C_play_within x 0 (b - 1) (by omega) w) (h := ?_)
    refine WL.y (hy := notB) (h := ?_)
    refine WL.y (hy := mv) (h := ?_)
    apply brOr 12 19 31 (by exact rfl)
    · intro hb1
      refine un (h := ?_)
      refine WL.y (hy := mv) (h := ?_)
      refine un (h := ?_)
      refine WL.y (hy := gtr) (h := ?_)
      refine un (h := ?_)
      refine WL.y (hy := mv) (h := ?_)
      apply brAnd 8 22 30 (by exact rfl)
      · intro hb2
        have hk0 : 0 < k := by have := of_decide_eq_true hb2; omega
        have hky : (enI l)[((k : Int) - 1).toNat]? = some [.int .i64 (l.getD (k - 1) 0)] := by rw [show ((k : Int) - 1).toNat = k - 1 by omega]; exact enI_at (getD_get (by omega))
        refine un (h := ?_)
        refine WL.y (hy := mv) (h := ?_)
        refine un (h := ?_)
        refine WL.y (hy := mv) (h := ?_)
        refine un (h := ?_)
        refine WL.y (hy := mv) (h := ?_)
        refine un (h := ?_)
        refine WL.y (hy := subI (hb := by omega)) (h := ?_)
        refine un (h := ?_)
        refine WL.y (hy := ix (A := A) (m := n) (hb := by omega)) (h := ?_)
        refine un (h := ?_)
        refine WL.y (hy := ldE (A := A) (hk := hky)) (h := ?_)
        refine un (h := ?_)
        refine WL.y (hy := leq) (h := ?_)
        refine un (h := ?_)
        refine WL.y (hy := (by first | exact pkT | exact pkF)) (h := ?_)
        exact mg (by repeat (first | exact trivial | refine ⟨rfl, ?_⟩ | refine ⟨by rw [hb2]; rfl, ?_⟩ | refine ⟨by rw [hb1]; rfl, ?_⟩)) (by repeat (first | exact SubL.nil | (apply SubL.cons; (repeat (first | exact At.here | apply At.there))) | exact SubL.refl _ | apply SubL.skip))
      · intro hb2
        repeat (first | refine un (h := ?_) | refine sk (h := ?_) | refine WL.y (hy := pkF) (h := ?_) | refine WL.y (hy := pkT) (h := ?_))
        exact mg (by repeat (first | exact trivial | refine ⟨rfl, ?_⟩ | refine ⟨by rw [hb2]; rfl, ?_⟩ | refine ⟨by rw [hb1]; rfl, ?_⟩)) (by repeat (first | exact SubL.nil | (apply SubL.cons; (repeat (first | exact At.here | apply At.there))) | exact SubL.refl _ | apply SubL.skip))
      refine WL.y (hy := (by first | exact pkT | exact pkF)) (h := ?_)
      exact mg (by repeat (first | exact trivial | refine ⟨rfl, ?_⟩ | refine ⟨by rw [hb1]; rfl, ?_⟩)) (by repeat (first | exact SubL.nil | (apply SubL.cons; (repeat (first | exact At.here | apply At.there))) | exact SubL.refl _ | apply SubL.skip))
    · intro hb1
      repeat (first | refine un (h := ?_) | refine sk (h := ?_) | refine WL.y (hy := pkF) (h := ?_) | refine WL.y (hy := pkT) (h := ?_))
      exact mg (by repeat (first | exact trivial | refine ⟨rfl, ?_⟩ | refine ⟨by rw [hb1]; rfl, ?_⟩)) (by repeat (first | exact SubL.nil | (apply SubL.cons; (repeat (first | exact At.here | apply At.there))) | exact SubL.refl _ | apply SubL.skip))
    refine nl (h := ?_)
    refine q_seq (h := ?_)
    refine cd (by exact rfl) (fun h3 => ?_) (fun h3 => ?_)
    · skip
      have h0 := h3
      rw [Bool.not_true, Bool.false_or, Bool.and_eq_true, decide_eq_true_eq, decide_eq_true_eq] at h0
      exfalso
      have h7 := hx2 (l.getD (k - 1) 0) (by omega) (getD_get (by omega))
      omega
    · skip
      refine skp (h := ?_)
      refine q_blk_norm (h := ?_)
      refine q_seq (h := ?_)
      refine rg (h := ?_)
      refine WL.y (hy := addI) (h := ?_)
      refine WL.y (hy := mv) (h := ?_)
      refine nl (h := ?_)
      refine rn (x := k) (k + 1) hkn (by omega) (by repeat (first | exact trivial | refine ⟨rfl, ?_⟩)) (by repeat (first | exact SubL.nil | (apply SubL.cons; (repeat (first | exact At.here | apply At.there))) | exact SubL.refl _ | apply SubL.skip))
  · skip
    have hkn : k = n := by have := of_decide_eq_false h0; omega
    refine et (h := ?_)
    refine q_then_exit (h := ?_)
    refine q_then_exit (h := ?_)
    refine q_blk_hit (h := ?_)
    refine q_seq (h := ?_)
    refine sq (h := ?_)
    refine rg (h := ?_)
    refine WL.y (hy := asg) (h := ?_)
    refine WL.cut (by repeat (first | exact Cut.nil | apply Cut.hit | apply Cut.miss (by exact rfl))) ?_
    refine nl (h := ?_)
    refine q_seq (h := ?_)
    refine rtn (h := ?_)
    refine q_ret (hR := ?_)
    exact fun w hS => ⟨rfl, hS.sub (by repeat (first | exact SubL.nil | (apply SubL.cons; (repeat (first | exact At.here | apply At.there))) | exact SubL.refl _ | apply SubL.skip))⟩
set_option maxRecDepth 100000 in
theorem C_play_Check (p : Pg) (hp : POk p) (w : World) (h : PgR w p) : C0 Try.prog 25 [p.val] w (.int .i64 0) := by
  have hnd := hp.nd
  have hre := hp.rest
  have hnj := hp.nj
  have hnc := hp.nc
  obtain ⟨d0, hd0⟩ : ∃ d, p.days[0]? = some d := ⟨_, List.getElem?_eq_getElem (by omega)⟩
  have hn0 := nc_first hd0
  refine ⟨en Try.func25 Try.ntmps25 (((St.init w).share (e := .ro p.dA 1 p.days.length (encDy p.days)) h.d rfl rfl rfl).share (e := .ro p.jA 6 p.jobs.length (encJb p.jobs)) h.j rfl rfl rfl) (h := fun F => ?_)⟩
  refine sq (h := ?_)
  refine rg (h := ?_)
  refine bxA (h := fun b0 => ?_)
  refine WL.y (hy := asg) (h := ?_)
  refine WL.cut (by repeat (first | exact Cut.nil | apply Cut.hit | apply Cut.miss (by exact rfl))) ?_
  refine nl (h := ?_)
  refine q_seq (h := ?_)
  refine sq (h := ?_)
  refine sq (h := ?_)
  refine rg (h := ?_)
  refine WL.y (hy := (by first | exact fa | exact faE)) (h := ?_)
  refine WL.y (hy := (by first | exact ld | exact ldE)) (h := ?_)
  refine WL.y (hy := lenS) (h := ?_)
  refine cl0 (hc := fun w hS => C_play_within _ _ _ (by omega) w) (h := ?_)
  refine WL.y (hy := notB) (h := ?_)
  refine WL.y (hy := mv) (h := ?_)
  apply brOr 5 12 17 (by exact rfl)
  · intro hb0
    refine un (h := ?_)
    refine WL.y (hy := (by first | exact fa | exact faE)) (h := ?_)
    refine un (h := ?_)
    refine WL.y (hy := (by first | exact ld | exact ldE)) (h := ?_)
    refine un (h := ?_)
    refine cl0 (hc := fun w hS => C_play_within _ _ _ (by omega) w) (h := ?_)
    refine un (h := ?_)
    refine WL.y (hy := notB) (h := ?_)
    refine WL.y (hy := (by first | exact pkT | exact pkF)) (h := ?_)
    exact mg (by repeat (first | exact trivial | refine ⟨rfl, ?_⟩ | refine ⟨by rw [hb0]; rfl, ?_⟩)) (by repeat (first | exact SubL.nil | (apply SubL.cons; (repeat (first | exact At.here | apply At.there))) | exact SubL.refl _ | apply SubL.skip))
  · intro hb0
    repeat (first | refine un (h := ?_) | refine sk (h := ?_) | refine WL.y (hy := pkF) (h := ?_) | refine WL.y (hy := pkT) (h := ?_))
    exact mg (by repeat (first | exact trivial | refine ⟨rfl, ?_⟩ | refine ⟨by rw [hb0]; rfl, ?_⟩)) (by repeat (first | exact SubL.nil | (apply SubL.cons; (repeat (first | exact At.here | apply At.there))) | exact SubL.refl _ | apply SubL.skip))
  refine WL.y (hy := mv) (h := ?_)
  apply brOr 5 18 23 (by exact rfl)
  · intro hb1
    refine un (h := ?_)
    refine WL.y (hy := (by first | exact fa | exact faE)) (h := ?_)
    refine un (h := ?_)
    refine WL.y (hy := (by first | exact ld | exact ldE)) (h := ?_)
    refine un (h := ?_)
    refine WL.y (hy := lenS) (h := ?_)
    refine un (h := ?_)
    refine WL.y (hy := (Yd.fl (gtr) (by refine decide_eq_false ?_; omega))) (h := ?_)
    refine WL.y (hy := (by first | exact pkT | exact pkF)) (h := ?_)
    exact mg (by repeat (first | exact trivial | refine ⟨rfl, ?_⟩ | refine ⟨by rw [hb1]; rfl, ?_⟩)) (by repeat (first | exact SubL.nil | (apply SubL.cons; (repeat (first | exact At.here | apply At.there))) | exact SubL.refl _ | apply SubL.skip))
  · intro hb1
    repeat (first | refine un (h := ?_) | refine sk (h := ?_) | refine WL.y (hy := pkF) (h := ?_) | refine WL.y (hy := pkT) (h := ?_))
    exact mg (by repeat (first | exact trivial | refine ⟨rfl, ?_⟩ | refine ⟨by rw [hb1]; rfl, ?_⟩)) (by repeat (first | exact SubL.nil | (apply SubL.cons; (repeat (first | exact At.here | apply At.there))) | exact SubL.refl _ | apply SubL.skip))
  refine nl (h := ?_)
  refine q_seq (h := ?_)
  refine cd (by exact rfl) (fun h2 => ?_) (fun h2 => ?_)
  · skip
    exact absurd h2 Bool.false_ne_true
  · skip
    refine skp (h := ?_)
    refine q_seq (h := ?_)
    refine sq (h := ?_)
    refine sq (h := ?_)
    refine rg (h := ?_)
    refine WL.y (hy := (by first | exact fa | exact faE)) (h := ?_)
    refine WL.y (hy := (by first | exact ld | exact ldE)) (h := ?_)
    refine WL.y (hy := lenS) (h := ?_)
    refine WL.y (hy := mv) (h := ?_)
    refine nl (h := ?_)
    refine q_seq (h := ?_)
    refine bk (h := ?_)
    refine lp (X := Nat) (I := fun k => k ≤ p.days.length) (le := fun k => [(1, .pointer (some ⟨b0, 0, none⟩)), (25, .slice p.dA p.days.length p.dc), (26, .int .i64 p.days.length), (27, .int .i64 k)]) (Le := fun _ => [.blk b0 25 p.cells, .ro p.dA 1 p.days.length (encDy p.days), .ro p.jA 6 p.jobs.length (encJb p.jobs)]) (μ := fun k => p.days.length - k) 0 (Nat.zero_le _) (by repeat (first | exact trivial | refine ⟨rfl, ?_⟩)) (by repeat (first | exact SubL.nil | (apply SubL.cons; (repeat (first | exact At.here | apply At.there))) | exact SubL.refl _ | apply SubL.skip)) (fun k hk => ?_)
    refine sq (h := ?_)
    refine rg (h := ?_)
    refine WL.y (hy := lss) (h := ?_)
    refine nl (h := ?_)
    refine q_seq (h := ?_)
    refine sq (h := ?_)
    refine cd (by exact rfl) (fun h3 => ?_) (fun h3 => ?_)
    · skip
      have hkn : k < p.days.length := by have := of_decide_eq_true h3; omega
      obtain ⟨d, hd⟩ : ∃ d, p.days[k]? = some d := ⟨_, List.getElem?_eq_getElem hkn⟩
      obtain ⟨hdl, hds⟩ := hp.dy k d hkn hd
      have hdm := List.mem_of_getElem? hd
      refine skp (h := ?_)
      refine q_seq (h := ?_)
      refine sq (h := ?_)
      refine bk (h := ?_)
      refine sq (h := ?_)
      refine rg (h := ?_)
      refine WL.y (hy := ix (A := p.dA) (m := p.days.length)) (h := ?_)
      refine WL.y (hy := ldE (A := p.dA) (hk := encDy_at hd)) (h := ?_)
      refine WL.y (hy := asg) (h := ?_)
      refine WL.cut (by repeat (first | exact Cut.nil | apply Cut.hit | apply Cut.miss (by exact rfl))) ?_
      refine nl (h := ?_)
      refine q_seq (h := ?_)
      refine sq (h := ?_)
      refine sq (h := ?_)
      refine rg (h := ?_)
      refine WL.y (hy := mv) (h := ?_)
      refine WL.y (hy := lenS) (h := ?_)
      refine cl0 (hc := fun w hS => C_play_within _ _ _ (by omega) w) (h := ?_)
      refine WL.y (hy := notB) (h := ?_)
      refine WL.y (hy := mv) (h := ?_)
      apply brOr 9 35 44 (by exact rfl)
      · intro hb4
        refine un (h := ?_)
        refine WL.y (hy := mv) (h := ?_)
        refine un (h := ?_)
        refine WL.y (hy := lenS) (h := ?_)
        refine un (h := ?_)
        refine WL.y (hy := (by first | exact fa | exact faE)) (h := ?_)
        refine un (h := ?_)
        refine WL.y (hy := (by first | exact ld | exact ldE)) (h := ?_)
        refine un (h := ?_)
        refine WL.y (hy := ix (A := p.dA) (m := p.days.length) (hb := by omega)) (h := ?_)
        refine un (h := ?_)
        refine WL.y (hy := ldE (A := p.dA) (k := 0) (hk := encDy_at hd0)) (h := ?_)
        refine un (h := ?_)
        refine WL.y (hy := lenS) (h := ?_)
        refine un (h := ?_)
        refine WL.y (hy := (Yd.fl (neq) (by simp only [Bool.not_eq_false', decide_eq_true_eq]; omega))) (h := ?_)
        refine WL.y (hy := (by first | exact pkT | exact pkF)) (h := ?_)
        exact mg (by repeat (first | exact trivial | refine ⟨rfl, ?_⟩ | refine ⟨by rw [hb4]; rfl, ?_⟩)) (by repeat (first | exact SubL.nil | (apply SubL.cons; (repeat (first | exact At.here | apply At.there))) | exact SubL.refl _ | apply SubL.skip))
      · intro hb4
        repeat (first | refine un (h := ?_) | refine sk (h := ?_) | refine WL.y (hy := pkF) (h := ?_) | refine WL.y (hy := pkT) (h := ?_))
        exact mg (by repeat (first | exact trivial | refine ⟨rfl, ?_⟩ | refine ⟨by rw [hb4]; rfl, ?_⟩)) (by repeat (first | exact SubL.nil | (apply SubL.cons; (repeat (first | exact At.here | apply At.there))) | exact SubL.refl _ | apply SubL.skip))
      refine nl (h := ?_)
      refine q_seq (h := ?_)
      refine cd (by exact rfl) (fun h5 => ?_) (fun h5 => ?_)
      · skip
        exact absurd h5 Bool.false_ne_true
      · skip
        refine skp (h := ?_)
        refine q_seq (h := ?_)
        refine sq (h := ?_)
        refine WC.old (h.s d hdm) ?_
        refine rg (h := ?_)
        refine WL.y (hy := mv) (h := ?_)
        refine clT (hc := C_ContainsSpan (A := d.A) (n := d.sp.length) (c := d.c) (es := encSn d.sp) (g := 44) inferInstance [] [] [] (fun _ => false) (h.sn d hdm) (fun i cs hcs => by
          have hil : i < d.sp.length := by have := (List.getElem?_eq_some_iff.1 hcs).1; rwa [encSn_len] at this
          have hsi : d.sp[i]? = some d.sp[i] := List.getElem?_eq_getElem hil
          rw [encSn_at hsi] at hcs
          obtain rfl := Option.some.inj hcs
          exact C0.tr _ (C_play_Check1 d.sp[i] (hds i _ hil hsi)))) (hs := Spl.cons (by repeat (first | exact At.here | apply At.there)) (Spl.app _ _)) (h := fun _ _ => ?_)
        rw [no_any]
        refine nl (h := ?_)
        refine q_seq (h := ?_)
        refine cdF (h := ?_)
        refine skp (h := ?_)
        refine q_blk_norm (h := ?_)
        refine q_seq (h := ?_)
        refine rg (h := ?_)
        refine WL.y (hy := addI) (h := ?_)
        refine WL.y (hy := mv) (h := ?_)
        refine nl (h := ?_)
        refine rn (x := k) (k + 1) hkn (by omega) (by repeat (first | exact trivial | refine ⟨rfl, ?_⟩)) (by repeat (first | exact SubL.nil | (apply SubL.cons; (repeat (first | exact At.here | apply At.there))) | exact SubL.refl _ | apply SubL.skip))
    · skip
      have hkn : k = p.days.length := by have := of_decide_eq_false h3; omega
      refine et (h := ?_)
      refine q_then_exit (h := ?_)
      refine q_then_exit (h := ?_)
      refine q_blk_hit (h := ?_)
      refine q_seq (h := ?_)
      refine sq (h := ?_)
      refine sq (h := ?_)
      refine rg (h := ?_)
      refine WL.y (hy := (by first | exact fa | exact faE)) (h := ?_)
      refine WL.y (hy := (by first | exact ld | exact ldE)) (h := ?_)
      refine WL.y (hy := lenS) (h := ?_)
      refine WL.y (hy := mv) (h := ?_)
      refine nl (h := ?_)
      refine q_seq (h := ?_)
      refine bk (h := ?_)
      refine lp (X := Nat) (I := fun k => k ≤ p.jobs.length) (le := fun k => [(1, .pointer (some ⟨b0, 0, none⟩)), (49, .slice p.jA p.jobs.length p.jc), (50, .int .i64 p.jobs.length), (51, .int .i64 k)]) (Le := fun _ => [.blk b0 25 p.cells, .ro p.dA 1 p.days.length (encDy p.days), .ro p.jA 6 p.jobs.length (encJb p.jobs)]) (μ := fun k => p.jobs.length - k) 0 (Nat.zero_le _) (by repeat (first | exact trivial | refine ⟨rfl, ?_⟩)) (by repeat (first | exact SubL.nil | (apply SubL.cons; (repeat (first | exact At.here | apply At.there))) | exact SubL.refl _ | apply SubL.skip)) (fun k hk => ?_)
      refine sq (h := ?_)
      refine rg (h := ?_)
      refine WL.y (hy := lss) (h := ?_)
      refine nl (h := ?_)
      refine q_seq (h := ?_)
      refine sq (h := ?_)
      refine cd (by exact rfl) (fun h7 => ?_) (fun h7 => ?_)
      · skip
        have hkn : k < p.jobs.length := by have := of_decide_eq_true h7; omega
        obtain ⟨j, hj⟩ : ∃ j, p.jobs[k]? = some j := ⟨_, List.getElem?_eq_getElem hkn⟩
        have hjo := hp.jb k j hkn hj
        have hjm := List.mem_of_getElem? hj
        have hje := hjo.ear
        refine WC.old (h.f j hjm) ?_
        refine WC.old (h.w j hjm) ?_
        refine skp (h := ?_)
        refine q_seq (h := ?_)
        refine sq (h := ?_)
        refine bk (h := ?_)
        refine sq (h := ?_)
        refine rg (h := ?_)
        refine WL.y (hy := mv) (h := ?_)
        refine WL.y (hy := ix (A := p.jA) (m := p.jobs.length)) (h := ?_)
        refine WL.y (hy := ldEW (A := p.jA) (hk := encJb_at hj)) (h := ?_)
        refine al (h := fun b1 => ?_)
        refine WL.y (hy := asg) (h := ?_)
        refine WL.cut (by repeat (first | exact Cut.nil | apply Cut.hit | apply Cut.miss (by exact rfl))) ?_
        first | refine stA (h := ?_) | refine stEA (h := ?_)
        refine nl (h := ?_)
        refine q_seq (h := ?_)
        refine sq (h := ?_)
        refine rg (h := ?_)
        refine WL.y (hy := (by first | exact fa | exact faE)) (h := ?_)
        refine WL.y (hy := (by first | exact ldA | exact ldEA)) (h := ?_)
        refine WL.y (hy := (by first | exact fa | exact faE)) (h := ?_)
        refine WL.y (hy := (by first | exact ld | exact ldE)) (h := ?_)
        refine cl0 (hc := fun w hS => C_play_isStage j.len j.due hjo.len hjo.due w) (h := ?_)
        refine WL.y (hy := notB) (h := ?_)
        refine WL.y (hy := mv) (h := ?_)
        apply brOr 5 62 67 (by exact rfl)
        · intro hb8
          refine un (h := ?_)
          refine WL.y (hy := (by first | exact fa | exact faE)) (h := ?_)
          refine un (h := ?_)
          refine WL.y (hy := (by first | exact ld | exact ldE)) (h := ?_)
          refine un (h := ?_)
          refine cl0 (hc := fun w hS => C_play_within j.ear 0 1440 hje w) (h := ?_)
          refine un (h := ?_)
          refine WL.y (hy := notB) (h := ?_)
          refine WL.y (hy := (by first | exact pkT | exact pkF)) (h := ?_)
          exact mg (by repeat (first | exact trivial | refine ⟨rfl, ?_⟩ | refine ⟨by rw [hb8]; rfl, ?_⟩)) (by repeat (first | exact SubL.nil | (apply SubL.cons; (repeat (first | exact At.here | apply At.there))) | exact SubL.refl _ | apply SubL.skip))
        · intro hb8
          repeat (first | refine un (h := ?_) | refine sk (h := ?_) | refine WL.y (hy := pkF) (h := ?_) | refine WL.y (hy := pkT) (h := ?_))
          exact mg (by repeat (first | exact trivial | refine ⟨rfl, ?_⟩ | refine ⟨by rw [hb8]; rfl, ?_⟩)) (by repeat (first | exact SubL.nil | (apply SubL.cons; (repeat (first | exact At.here | apply At.there))) | exact SubL.refl _ | apply SubL.skip))
        refine WL.y (hy := mv) (h := ?_)
        apply brOr 6 68 74 (by exact rfl)
        · intro hb9
          refine un (h := ?_)
          refine WL.y (hy := (by first | exact fa | exact faE)) (h := ?_)
          refine un (h := ?_)
          refine WL.y (hy := (by first | exact ld | exact ldE)) (h := ?_)
          refine un (h := ?_)
          refine WL.y (hy := mv) (h := ?_)
          refine un (h := ?_)
          refine cl0 (hc := fun w hS => C_play_areJobs j.af k j.fA j.af.length j.fc (by omega) hjo.af (h.fn j hjm) w (hS.get (by repeat (first | exact Rds.ro | exact Rds.own | apply Rds.there)))) (h := ?_)
          refine un (h := ?_)
          refine WL.y (hy := notB) (h := ?_)
          refine WL.y (hy := (by first | exact pkT | exact pkF)) (h := ?_)
          exact mg (by repeat (first | exact trivial | refine ⟨rfl, ?_⟩ | refine ⟨by rw [hb9]; rfl, ?_⟩)) (by repeat (first | exact SubL.nil | (apply SubL.cons; (repeat (first | exact At.here | apply At.there))) | exact SubL.refl _ | apply SubL.skip))
        · intro hb9
          repeat (first | refine un (h := ?_) | refine sk (h := ?_) | refine WL.y (hy := pkF) (h := ?_) | refine WL.y (hy := pkT) (h := ?_))
          exact mg (by repeat (first | exact trivial | refine ⟨rfl, ?_⟩ | refine ⟨by rw [hb9]; rfl, ?_⟩)) (by repeat (first | exact SubL.nil | (apply SubL.cons; (repeat (first | exact At.here | apply At.there))) | exact SubL.refl _ | apply SubL.skip))
        refine WL.y (hy := mv) (h := ?_)
        apply brOr 8 75 83 (by exact rfl)
        · intro hb10
          refine un (h := ?_)
          refine WL.y (hy := (by first | exact fa | exact faE)) (h := ?_)
          refine un (h := ?_)
          refine WL.y (hy := (by first | exact ld | exact ldE)) (h := ?_)
          refine un (h := ?_)
          refine WL.y (hy := (by first | exact fa | exact faE)) (h := ?_)
          refine un (h := ?_)
          refine WL.y (hy := (by first | exact ld | exact ldE)) (h := ?_)
          refine un (h := ?_)
          refine WL.y (hy := lenS) (h := ?_)
          refine un (h := ?_)
          refine cl0 (hc := fun w hS => C_play_areJobs j.wi p.jobs.length j.wA j.wi.length j.wc (by omega) hjo.wi (h.wn j hjm) w (hS.get (by repeat (first | exact Rds.ro | exact Rds.own | apply Rds.there)))) (h := ?_)
          refine un (h := ?_)
          refine WL.y (hy := notB) (h := ?_)
          refine WL.y (hy := (by first | exact pkT | exact pkF)) (h := ?_)
          exact mg (by repeat (first | exact trivial | refine ⟨rfl, ?_⟩ | refine ⟨by rw [hb10]; rfl, ?_⟩)) (by repeat (first | exact SubL.nil | (apply SubL.cons; (repeat (first | exact At.here | apply At.there))) | exact SubL.refl _ | apply SubL.skip))
        · intro hb10
          repeat (first | refine un (h := ?_) | refine sk (h := ?_) | refine WL.y (hy := pkF) (h := ?_) | refine WL.y (hy := pkT) (h := ?_))
          exact mg (by repeat (first | exact trivial | refine ⟨rfl, ?_⟩ | refine ⟨by rw [hb10]; rfl, ?_⟩)) (by repeat (first | exact SubL.nil | (apply SubL.cons; (repeat (first | exact At.here | apply At.there))) | exact SubL.refl _ | apply SubL.skip))
        refine WL.y (hy := mv) (h := ?_)
        apply brOr 5 84 89 (by exact rfl)
        · intro hb11
          refine un (h := ?_)
          refine WL.y (hy := (by first | exact fa | exact faE)) (h := ?_)
          refine un (h := ?_)
          refine WL.y (hy := (by first | exact ld | exact ldE)) (h := ?_)
          refine un (h := ?_)
          refine WL.y (hy := mv) (h := ?_)
          refine un (h := ?_)
          refine cl0 (hc := fun w hS => C_slices_Contains j.wi k j.wA j.wi.length j.wc w (hS.get (by repeat (first | exact Rds.ro | exact Rds.own | apply Rds.there))) (h.wn j hjm)) (h := ?_)
          rw [any_no hjo.no]
          refine WL.y (hy := (by first | exact pkT | exact pkF)) (h := ?_)
          exact mg (by repeat (first | exact trivial | refine ⟨rfl, ?_⟩ | refine ⟨by rw [hb11]; rfl, ?_⟩)) (by repeat (first | exact SubL.nil | (apply SubL.cons; (repeat (first | exact At.here | apply At.there))) | exact SubL.refl _ | apply SubL.skip))
        · intro hb11
          repeat (first | refine un (h := ?_) | refine sk (h := ?_) | refine WL.y (hy := pkF) (h := ?_) | refine WL.y (hy := pkT) (h := ?_))
          exact mg (by repeat (first | exact trivial | refine ⟨rfl, ?_⟩ | refine ⟨by rw [hb11]; rfl, ?_⟩)) (by repeat (first | exact SubL.nil | (apply SubL.cons; (repeat (first | exact At.here | apply At.there))) | exact SubL.refl _ | apply SubL.skip))
        refine nl (h := ?_)
        refine q_seq (h := ?_)
        refine cd (by exact rfl) (fun h12 => ?_) (fun h12 => ?_)
        · skip
          exact absurd h12 Bool.false_ne_true
        · skip
          refine skp (h := ?_)
          refine q_blk_norm (h := ?_)
          refine q_seq (h := ?_)
          refine rg (h := ?_)
          refine WL.y (hy := addI) (h := ?_)
          refine WL.y (hy := mv) (h := ?_)
          refine nl (h := ?_)
          refine rn (x := k) (k + 1) hkn (by omega) (by repeat (first | exact trivial | refine ⟨rfl, ?_⟩)) (by repeat (first | exact SubL.nil | (apply SubL.cons; (repeat (first | exact At.here | apply At.there))) | exact SubL.refl _ | apply SubL.skip))
      · skip
        have hkn : k = p.jobs.length := by have := of_decide_eq_false h7; omega
        refine et (h := ?_)
        refine q_then_exit (h := ?_)
        refine q_then_exit (h := ?_)
        refine q_blk_hit (h := ?_)
        refine q_seq (h := ?_)
        refine sq (h := ?_)
        refine rg (h := ?_)
        refine WL.y (hy := asg) (h := ?_)
        refine WL.cut (by repeat (first | exact Cut.nil | apply Cut.hit | apply Cut.miss (by exact rfl))) ?_
        refine nl (h := ?_)
        refine q_seq (h := ?_)
        refine rtn (h := ?_)
        refine q_ret (hR := ?_)
        exact fun w hS => ⟨rfl, hS.sub (by repeat (first | exact SubL.nil | (apply SubL.cons; (repeat (first | exact At.here | apply At.there))) | exact SubL.refl _ | apply SubL.skip))⟩
end Go.Proofs.Ytngelilffleimaa

namespace Go.Proofs.Ytngelilffleimaa
open Go Go.RowKit

def jobsT (o : List Se) (k : Nat) : List Int := (o.take k).map (·.job)
theorem jobsT_len {o : List Se} {k : Nat} (h : k ≤ o.length) : (jobsT o k).length = k := by unfold jobsT; rw [List.length_map, List.length_take]; omega
theorem jobsT_succ {o : List Se} {k : Nat} {s : Se} (h : o[k]? = some s) : jobsT o (k + 1) = jobsT o k ++ [s.job] := by unfold jobsT; rw [List.take_add_one, h, List.map_append]; rfl
theorem T_isOrder1 (xs : List Int) (x : Int) (b : Nat) (A : Option Addr) (k c : Nat) (hk : k ≤ 1000) : Tr Try.prog 50 [.int .i64 x, .pointer (some ⟨b, 0, none⟩)] [.blk b 27 [.slice A k c], .own A c 3 1 k (enI xs)] (fun _ : Unit => True) (fun _ => .bool (!xs.any fun y => decide (x = y))) (fun _ => [.blk b 27 [.slice A k c], .own A c 3 1 k (enI xs)]) := by
  refine ⟨fun w0 w R hst => ?_⟩
  refine en Try.func50 Try.ntmps50 hst (h := fun F => ?_)
  refine sq (h := ?_)
  refine rg (h := ?_)
  refine WL.y (hy := asg) (h := ?_)
  refine nl (h := ?_)
  refine q_seq (h := ?_)
  refine sq (h := ?_)
  refine rg (h := ?_)
  refine WL.y (hy := (by first | exact ld | exact ldE)) (h := ?_)
  refine WL.y (hy := mv) (h := ?_)
  refine cl0 (hc := fun w hS => C_slices_Contains xs x A k c w (hS.get (by repeat (first | exact Rds.ro | exact Rds.own | apply Rds.there))) (by omega)) (h := ?_)
  refine WL.y (hy := notB) (h := ?_)
  refine WL.y (hy := asg) (h := ?_)
  refine nl (h := ?_)
  refine q_seq (h := ?_)
  refine rtn (h := ?_)
  refine q_ret (hR := ?_)
  exact fun w hS => ⟨(), trivial, rfl, hS.sub (by repeat (first | exact SubL.nil | (apply SubL.cons; (repeat (first | exact At.here | apply At.there))) | exact SubL.refl _ | apply SubL.skip))⟩
structure DoZ where
  (k : Nat) (A : Option Addr) (c : Nat)
set_option maxRecDepth 100000 in
theorem C_play_isOrder (p : Pg) (hp : POk p) (o : List Se) (hO : OOk p o) (oA : Option Addr) (n oc : Nat) (w : World) (h : PgR w p) (ho : Rd w oA 3 n (encSe o)) : C0 Try.prog 26 [p.val, .slice oA n oc] w (.bool true) := by
  have hlen : o.length = n := by have := ho.len; rwa [encSe_len] at this
  have hnd := hp.nd
  have hnj := hp.nj
  have hnc := hp.nc
  have hon := hO.n
  obtain ⟨d0, hd0⟩ : ∃ d, p.days[0]? = some d := ⟨_, List.getElem?_eq_getElem (by omega)⟩
  have hn0 := nc_first hd0
  refine ⟨en Try.func26 Try.ntmps26 ((((St.init w).share (e := .ro p.dA 1 p.days.length (encDy p.days)) h.d rfl rfl rfl).share (e := .ro p.jA 6 p.jobs.length (encJb p.jobs)) h.j rfl rfl rfl).share (e := .ro oA 3 n (encSe o)) ho rfl rfl rfl) (h := fun F => ?_)⟩
  refine sq (h := ?_)
  refine rg (h := ?_)
  refine bxA (h := fun b0 => ?_)
  refine WL.y (hy := asg) (h := ?_)
  refine WL.cut (by repeat (first | exact Cut.nil | apply Cut.hit | apply Cut.miss (by exact rfl))) ?_
  refine nl (h := ?_)
  refine q_seq (h := ?_)
  refine sq (h := ?_)
  refine rg (h := ?_)
  refine al (h := fun b1 => ?_)
  refine nl (h := ?_)
  refine q_seq (h := ?_)
  refine sq (h := ?_)
  refine sq (h := ?_)
  refine WC.nilOwn 3 1 (h := ?_)
  refine rg (h := ?_)
  refine WL.y (hy := mv) (h := ?_)
  refine WL.y (hy := lenS) (h := ?_)
  refine WL.y (hy := mv) (h := ?_)
  refine nl (h := ?_)
  refine q_seq (h := ?_)
  refine bk (h := ?_)
  refine lp (X := DoZ) (I := fun z => z.k ≤ n) (le := fun z => [(1, .slice oA n oc), (2, .pointer (some ⟨b0, 0, none⟩)), (5, .pointer (some ⟨b1, 0, none⟩)), (10, .slice oA n oc), (11, .int .i64 n), (12, .int .i64 z.k)]) (Le := fun z => [.own z.A z.c 3 1 z.k (enI (jobsT o z.k)), .blk b1 27 [.slice z.A z.k z.c], .blk b0 25 p.cells, .ro p.dA 1 p.days.length (encDy p.days), .ro p.jA 6 p.jobs.length (encJb p.jobs), .ro oA 3 n (encSe o)]) (μ := fun z => n - z.k) ⟨0, none, 0⟩ (Nat.zero_le _) (by repeat (first | exact trivial | refine ⟨rfl, ?_⟩)) (by repeat (first | exact SubL.nil | (apply SubL.cons; (repeat (first | exact At.here | apply At.there))) | exact SubL.refl _ | apply SubL.skip)) (fun z hz => ?_)
  refine sq (h := ?_)
  refine rg (h := ?_)
  refine WL.y (hy := lss) (h := ?_)
  refine nl (h := ?_)
  refine q_seq (h := ?_)
  refine sq (h := ?_)
  refine cd (by exact rfl) (fun h0 => ?_) (fun h0 => ?_)
  · skip
    have hkn : z.k < n := by have := of_decide_eq_true h0; omega
    obtain ⟨s, hs⟩ : ∃ s, o[z.k]? = some s := ⟨_, List.getElem?_eq_getElem (by omega)⟩
    have hm := hO.at_ z.k s (by omega) hs
    have hmj := hm.job
    have hmd := hm.day
    have hmc := hm.court
    obtain ⟨j, hj⟩ : ∃ j, p.jobs[s.job.toNat]? = some j := ⟨_, List.getElem?_eq_getElem (by omega)⟩
    have hjm := List.mem_of_getElem? hj
    have hjd := hm.due j hj
    have hjl := jobsT_len (o := o) (k := z.k) (by omega)
    have hjs := jobsT_succ hs
    refine skp (h := ?_)
    refine q_seq (h := ?_)
    refine sq (h := ?_)
    refine bk (h := ?_)
    refine sq (h := ?_)
    refine rg (h := ?_)
    refine WL.y (hy := mv) (h := ?_)
    refine WL.y (hy := ix (A := oA) (m := n)) (h := ?_)
    refine WL.y (hy := ldEW (A := oA) (hk := encSe_at hs)) (h := ?_)
    refine al (h := fun b2 => ?_)
    refine WL.y (hy := asg) (h := ?_)
    refine WL.cut (by repeat (first | exact Cut.nil | apply Cut.hit | apply Cut.miss (by exact rfl))) ?_
    first | refine stA (h := ?_) | refine stEA (h := ?_)
    refine nl (h := ?_)
    refine q_seq (h := ?_)
    refine sq (h := ?_)
    refine sq (h := ?_)
    refine rgD0 (by kernel_rfl) (h := ?_)
    refine tk 0 (hy := (by first | exact fa | exact faE)) (h := ?_)
    refine tk 1 (hy := (by first | exact ld | exact ldE)) (h := ?_)
    refine tk 2 (hy := (by first | exact fa | exact faE)) (h := ?_)
    refine tk 3 (hy := (by first | exact ld | exact ldE)) (h := ?_)
    refine tk 4 (hy := lenS) (h := ?_)
    refine tk 5 (hy := subI (hb := by omega)) (h := ?_)
    refine one 6 (h := ?_)
    refine cl0 (hc := fun w hS => C_play_within s.job 0 ((p.jobs.length : Int) - 1) (by omega) w) (h := ?_)
    refine nx (h := ?_)
    refine tk 7 (hy := (Yd.fl (notB) (by rfl))) (h := ?_)
    refine tk 8 (hy := mv) (h := ?_)
    refine tk 9 (hy := (by first | exact ld | exact ldE)) (h := ?_)
    refine tk 10 (hy := (by first | exact fa | exact faE)) (h := ?_)
    refine tk 11 (hy := (by first | exact ld | exact ldE)) (h := ?_)
    refine one 12 (h := ?_)
    refine un (h := ?_)
    refine cl0 (hc := fun w hS => C_slices_Contains (jobsT o z.k) s.job z.A z.k z.c w (hS.get (by repeat (first | exact Rds.ro | exact Rds.own | apply Rds.there))) (by omega)) (h := ?_)
    rw [any_no (xs := jobsT o z.k) (y := s.job) (fun x hx => by
      obtain ⟨t, ht, rfl⟩ := List.mem_map.1 hx
      exact hm.new t ht)]
    refine nx (h := ?_)
    refine tk 13 (hy := (by first | exact pkT | exact pkF)) (h := ?_)
    refine tk 14 (hy := mv) (h := ?_)
    refine tk 15 (hy := (by first | exact fa | exact faE)) (h := ?_)
    refine tk 16 (hy := (by first | exact ld | exact ldE)) (h := ?_)
    refine tk 17 (hy := (by first | exact fa | exact faE)) (h := ?_)
    refine tk 18 (hy := (by first | exact ld | exact ldE)) (h := ?_)
    refine tk 19 (hy := lenS) (h := ?_)
    refine tk 20 (hy := subI (hb := by omega)) (h := ?_)
    refine one 21 (h := ?_)
    refine un (h := ?_)
    refine cl0 (hc := fun w hS => C_play_within s.day 0 ((p.days.length : Int) - 1) (by omega) w) (h := ?_)
    refine nx (h := ?_)
    refine tk 22 (hy := (Yd.fl (notB) (by rfl))) (h := ?_)
    refine tk 23 (hy := (by first | exact pkT | exact pkF)) (h := ?_)
    refine tk 24 (hy := mv) (h := ?_)
    refine tk 25 (hy := (by first | exact fa | exact faE)) (h := ?_)
    refine tk 26 (hy := (by first | exact ld | exact ldE)) (h := ?_)
    refine tk 27 (hy := (by first | exact fa | exact faE)) (h := ?_)
    refine tk 28 (hy := (by first | exact ld | exact ldE)) (h := ?_)
    refine tk 29 (hy := ix (A := p.dA) (m := p.days.length) (hb := by omega)) (h := ?_)
    refine tk 30 (hy := ldE (A := p.dA) (k := 0) (hk := encDy_at hd0)) (h := ?_)
    refine tk 31 (hy := lenS) (h := ?_)
    refine tk 32 (hy := subI (hb := by omega)) (h := ?_)
    refine one 33 (h := ?_)
    refine un (h := ?_)
    refine cl0 (hc := fun w hS => C_play_within s.court 0 ((d0.sp.length : Int) - 1) (by omega) w) (h := ?_)
    refine nx (h := ?_)
    refine tk 34 (hy := (Yd.fl (notB) (by rfl))) (h := ?_)
    refine tk 35 (hy := (by first | exact pkT | exact pkF)) (h := ?_)
    refine dn (h := ?_)
    refine q_seq (h := ?_)
    refine cdF (h := ?_)
    refine skp (h := ?_)
    refine q_seq (h := ?_)
    refine sq (h := ?_)
    refine rg (h := ?_)
    refine WL.y (hy := (by first | exact fa | exact faE)) (h := ?_)
    refine WL.y (hy := (by first | exact ld | exact ldE)) (h := ?_)
    refine WL.y (hy := (by first | exact fa | exact faE)) (h := ?_)
    refine WL.y (hy := (by first | exact ld | exact ldE)) (h := ?_)
    refine WL.y (hy := ix (A := p.jA) (m := p.jobs.length) (hb := by omega)) (h := ?_)
    refine WL.y (hy := ldEW (A := p.jA) (hk := encJb_at hj)) (h := ?_)
    refine al (h := fun b3 => ?_)
    first | refine stA (h := ?_) | refine stEA (h := ?_)
    refine nl (h := ?_)
    refine q_seq (h := ?_)
    refine sq (h := ?_)
    refine WC.old (h.f j hjm) ?_
    refine rg (h := ?_)
    refine WL.y (hy := (by first | exact fa | exact faE)) (h := ?_)
    refine WL.y (hy := (by first | exact ld | exact ldE)) (h := ?_)
    refine WL.y (hy := mkf) (h := ?_)
    refine clT (hc := T_ContainsInt (E := .ro j.fA 1 j.af.length (enI j.af)) (A := j.fA) (c := j.fc) (ws := j.af) (fun w h => h) (g := 50) inferInstance [] [.pointer (some ⟨b1, 0, none⟩)] [.blk b1 27 [.slice z.A z.k z.c], .own z.A z.c 3 1 z.k (enI (jobsT o z.k))] (fun x => !(jobsT o z.k).any fun y => decide (x = y)) (h.fn j hjm) rfl (fun x _ => T_isOrder1 (jobsT o z.k) x b1 z.A z.k z.c (by omega))) (hs := (by repeat (first | exact Spl.nil | (apply Spl.cons; (repeat (first | exact At.here | apply At.there)))))) (h := fun _ _ => ?_)
    rw [show (List.range j.af.length).any (pAt j.af fun x => !(jobsT o z.k).any fun y => decide (x = y)) = false by
      rw [pAt_any]
      refine List.any_eq_false.2 fun x hx => ?_
      obtain ⟨t, ht, e⟩ := hm.af j hj x hx
      rw [any_yes (xs := jobsT o z.k) (y := x) (List.mem_map.2 ⟨t, ht, e⟩)]; decide]
    refine WL.y (hy := asg) (h := ?_)
    refine WL.cut (by repeat (first | exact Cut.nil | apply Cut.hit | apply Cut.miss (by exact rfl))) ?_
    refine nl (h := ?_)
    refine q_seq (h := ?_)
    refine sq (h := ?_)
    refine sq (h := ?_)
    refine rgD0 (by kernel_rfl) (h := ?_)
    refine tk 0 (hy := (by first | exact fa | exact faE)) (h := ?_)
    refine tk 1 (hy := (by first | exact ld | exact ldE)) (h := ?_)
    refine tk 2 (hy := (by first | exact fa | exact faE)) (h := ?_)
    refine tk 3 (hy := (by first | exact ld | exact ldE)) (h := ?_)
    refine tk 4 (hy := (Yd.fl (gtr) (by refine decide_eq_false ?_; omega))) (h := ?_)
    refine tk 5 (hy := mv) (h := ?_)
    refine tk 6 (hy := (Yd.fl (mv) (by rfl))) (h := ?_)
    refine tk 7 (hy := (by first | exact pkT | exact pkF)) (h := ?_)
    refine tk 8 (hy := mv) (h := ?_)
    refine tk 9 (hy := mv) (h := ?_)
    refine tk 10 (hy := gtr) (h := ?_)
    refine tk 11 (hy := mv) (h := ?_)
    refine brH (g := 74) (by exact rfl) (fun hb2 => ?_) (fun hb2 => ?_)
    · skip
      have hk0 : 0 < z.k := by have := of_decide_eq_true hb2; omega
      obtain ⟨y, hy⟩ : ∃ y, o[z.k - 1]? = some y := ⟨_, List.getElem?_eq_getElem (by omega)⟩
      have hyd : y.day ≤ s.day := hm.days y (List.mem_of_getElem? (i := z.k - 1) (by rw [List.getElem?_take, if_pos (by omega)]; exact hy))
      have hye : (encSe o)[((z.k : Int) - 1).toNat]? = some y.cells := by rw [show ((z.k : Int) - 1).toNat = z.k - 1 by omega]; exact encSe_at hy
      refine tk 12 (hy := (by first | exact fa | exact faE)) (h := ?_)
      refine tk 13 (hy := (by first | exact ld | exact ldE)) (h := ?_)
      refine tk 14 (hy := mv) (h := ?_)
      refine tk 15 (hy := mv) (h := ?_)
      refine tk 16 (hy := subI (hb := by omega)) (h := ?_)
      refine tk 17 (hy := ix (A := oA) (m := n) (hb := by omega)) (h := ?_)
      refine tk 18 (hy := (by first | exact fa | exact faE)) (h := ?_)
      refine tk 19 (hy := ldE (A := oA) (hk := hye)) (h := ?_)
      refine tk 20 (hy := (Yd.fl (lss) (by refine decide_eq_false ?_; omega))) (h := ?_)
      refine tk 21 (hy := (by first | exact pkT | exact pkF)) (h := ?_)
      refine tk 22 (hy := (by first | exact pkT | exact pkF)) (h := ?_)
      refine dn (h := ?_)
      refine q_seq (h := ?_)
      refine cdF (h := ?_)
      refine skp (h := ?_)
      refine q_seq (h := ?_)
      refine rg (h := ?_)
      refine WL.y (hy := (by first | exact ld | exact ldE)) (h := ?_)
      refine WL.y (hy := (by first | exact fa | exact faE)) (h := ?_)
      refine WL.y (hy := (by first | exact ld | exact ldE)) (h := ?_)
      refine bs (h := fun b4 => ?_)
      refine ap (es := enI (jobsT o z.k)) (m := z.k) (k := 1) (A := z.A) (c := z.c) (es2 := [[.int .i64 s.job]]) (h := fun A1 c1 => ?_)
      rw [show enI (jobsT o z.k) ++ [[Value.int .i64 s.job]] = enI (jobsT o (z.k + 1)) by rw [hjs]; unfold enI; rw [List.map_append]; rfl]
      first | refine st (h := ?_) | refine stE (h := ?_)
      refine nl (h := ?_)
      refine q_blk_norm (h := ?_)
      refine q_seq (h := ?_)
      refine rg (h := ?_)
      refine WL.y (hy := addI) (h := ?_)
      refine WL.y (hy := mv) (h := ?_)
      refine nl (h := ?_)
      refine rn (x := z) ⟨z.k + 1, A1, c1⟩ hkn (by dsimp only; omega) (by repeat (first | exact trivial | refine ⟨rfl, ?_⟩)) (by repeat (first | exact SubL.nil | (apply SubL.cons; (repeat (first | exact At.here | apply At.there))) | exact SubL.refl _ | apply SubL.skip))
    · skip
      refine tkS 12 (h := ?_)
      refine tkS 13 (h := ?_)
      refine tkS 14 (h := ?_)
      refine tkS 15 (h := ?_)
      refine tkS 16 (h := ?_)
      refine tkS 17 (h := ?_)
      refine tkS 18 (h := ?_)
      refine tkS 19 (h := ?_)
      refine tkS 20 (h := ?_)
      refine tk 21 (hy := (by first | exact pkT | exact pkF)) (h := ?_)
      refine tk 22 (hy := (by first | exact pkT | exact pkF)) (h := ?_)
      refine dn (h := ?_)
      refine q_seq (h := ?_)
      refine cdF (h := ?_)
      refine skp (h := ?_)
      refine q_seq (h := ?_)
      refine rg (h := ?_)
      refine WL.y (hy := (by first | exact ld | exact ldE)) (h := ?_)
      refine WL.y (hy := (by first | exact fa | exact faE)) (h := ?_)
      refine WL.y (hy := (by first | exact ld | exact ldE)) (h := ?_)
      refine bs (h := fun b5 => ?_)
      refine ap (es := enI (jobsT o z.k)) (m := z.k) (k := 1) (A := z.A) (c := z.c) (es2 := [[.int .i64 s.job]]) (h := fun A1 c1 => ?_)
      rw [show enI (jobsT o z.k) ++ [[Value.int .i64 s.job]] = enI (jobsT o (z.k + 1)) by rw [hjs]; unfold enI; rw [List.map_append]; rfl]
      first | refine st (h := ?_) | refine stE (h := ?_)
      refine nl (h := ?_)
      refine q_blk_norm (h := ?_)
      refine q_seq (h := ?_)
      refine rg (h := ?_)
      refine WL.y (hy := addI) (h := ?_)
      refine WL.y (hy := mv) (h := ?_)
      refine nl (h := ?_)
      refine rn (x := z) ⟨z.k + 1, A1, c1⟩ hkn (by dsimp only; omega) (by repeat (first | exact trivial | refine ⟨rfl, ?_⟩)) (by repeat (first | exact SubL.nil | (apply SubL.cons; (repeat (first | exact At.here | apply At.there))) | exact SubL.refl _ | apply SubL.skip))
  · skip
    have hkn : z.k = n := by have := of_decide_eq_false h0; omega
    refine et (h := ?_)
    refine q_then_exit (h := ?_)
    refine q_then_exit (h := ?_)
    refine q_blk_hit (h := ?_)
    refine q_seq (h := ?_)
    refine sq (h := ?_)
    refine rg (h := ?_)
    refine WL.y (hy := (by first | exact ld | exact ldE)) (h := ?_)
    refine WL.y (hy := lenS) (h := ?_)
    refine WL.y (hy := (by first | exact fa | exact faE)) (h := ?_)
    refine WL.y (hy := (by first | exact ld | exact ldE)) (h := ?_)
    refine WL.y (hy := lenS) (h := ?_)
    refine WL.y (hy := eql) (h := ?_)
    refine WL.y (hy := asg) (h := ?_)
    refine WL.cut (by repeat (first | exact Cut.nil | apply Cut.hit | apply Cut.miss (by exact rfl))) ?_
    refine nl (h := ?_)
    refine q_seq (h := ?_)
    refine rtn (h := ?_)
    refine q_ret (hR := ?_)
    exact fun w hS => ⟨by show Ending.returned (Value.bool (decide ((z.k : Int) = (p.jobs.length : Int)))) = _; rw [decide_eq_true (by omega)], hS.sub (by repeat (first | exact SubL.nil | (apply SubL.cons; (repeat (first | exact At.here | apply At.there))) | exact SubL.refl _ | apply SubL.skip))⟩
end Go.Proofs.Ytngelilffleimaa

namespace Go.Proofs.Ytngelilffleimaa
open Go Go.RowKit

section rules
variable {P : Program} {n : Nat} {D : List Deferred} {l : Env} {w0 : World} {L : List Ent}
theorem ixvI {x i : Operand} {t e : TypeId} {len bytes : Nat} {z : Value} {zl : List Value} {k : IntKind} {j : Int} {cs : List Value} {v : Value} (hT : ArrayTy P t len e := by infer_instance) (hE : Ty P e false 1 bytes z zl := by infer_instance)
    (hx : ev l x = some (.agg cs.toArray) := by exact rfl) (hi : ev l i = some (.int k j) := by exact rfl) (hb : 0 ≤ j ∧ j < len := by omega) (hv : cs[j.toNat]? = some v) : Yd P n D l w0 L (.index t x i) v :=
  ⟨by simp, by simp, fun oo ho ac w hfr hst => by
    simp [execOp, ho, hfr.eval hx, hfr.eval hi, Instr.index, asIntOf, run_underlying hT.und, hb, run_sizeOf hE, part, run_isAgg hE, hv]⟩
end rules
theorem T_share1 (p : Pg) (x y : Int) (jx : Jb) (hx : 0 ≤ x ∧ x < p.jobs.length) (hj : p.jobs[x.toNat]? = some jx) (hn : PgN p) (b : Nat) : Tr Try.prog 77 [.int .i64 x, .int .i64 y, .pointer (some ⟨b, 0, none⟩)] [.blk b 25 p.cells, .ro p.jA 6 p.jobs.length (encJb p.jobs), .ro jx.fA 1 jx.af.length (enI jx.af), .ro jx.wA 1 jx.wi.length (enI jx.wi)] (fun _ : Unit => True) (fun _ => .bool (jx.af.contains y || jx.wi.contains y)) (fun _ => [.blk b 25 p.cells, .ro p.jA 6 p.jobs.length (encJb p.jobs), .ro jx.fA 1 jx.af.length (enI jx.af), .ro jx.wA 1 jx.wi.length (enI jx.wi)]) := by
  refine ⟨fun w0 w R hst => ?_⟩
  have hjm := List.mem_of_getElem? hj
  refine en Try.func77 Try.ntmps77 hst (h := fun F => ?_)
  refine sq (h := ?_)
  refine rg (h := ?_)
  refine WL.y (hy := asg) (h := ?_)
  refine nl (h := ?_)
  refine q_seq (h := ?_)
  refine sq (h := ?_)
  refine rg (h := ?_)
  refine WL.y (hy := (by first | exact fa | exact faE)) (h := ?_)
  refine WL.y (hy := (by first | exact ld | exact ldE)) (h := ?_)
  refine WL.y (hy := mv) (h := ?_)
  refine WL.y (hy := ix (A := p.jA) (m := p.jobs.length) (hb := by omega)) (h := ?_)
  refine WL.y (hy := ldEW (A := p.jA) (hk := encJb_at hj)) (h := ?_)
  refine al (h := fun b0 => ?_)
  first | refine stA (h := ?_) | refine stEA (h := ?_)
  refine nl (h := ?_)
  refine q_seq (h := ?_)
  refine sq (h := ?_)
  refine rg (h := ?_)
  refine WL.y (hy := (by first | exact fa | exact faE)) (h := ?_)
  refine WL.y (hy := (by first | exact ld | exact ldE)) (h := ?_)
  refine WL.y (hy := mv) (h := ?_)
  refine cl0 (hc := fun w hS => C_slices_Contains jx.af y jx.fA jx.af.length jx.fc w (hS.get (by repeat (first | exact Rds.ro | exact Rds.own | apply Rds.there))) (hn.fn jx hjm)) (h := ?_)
  rw [any_con]
  refine WL.y (hy := mv) (h := ?_)
  apply brOr 5 16 21 (by exact rfl)
  · intro hb0
    refine un (h := ?_)
    refine WL.y (hy := (by first | exact fa | exact faE)) (h := ?_)
    refine un (h := ?_)
    refine WL.y (hy := (by first | exact ld | exact ldE)) (h := ?_)
    refine un (h := ?_)
    refine WL.y (hy := mv) (h := ?_)
    refine un (h := ?_)
    refine cl0 (hc := fun w hS => C_slices_Contains jx.wi y jx.wA jx.wi.length jx.wc w (hS.get (by repeat (first | exact Rds.ro | exact Rds.own | apply Rds.there))) (hn.wn jx hjm)) (h := ?_)
    rw [any_con]
    refine WL.y (hy := (by first | exact pkT | exact pkF)) (h := ?_)
    exact mg (by repeat (first | exact trivial | refine ⟨rfl, ?_⟩ | refine ⟨by rw [hb0]; rfl, ?_⟩)) (by repeat (first | exact SubL.nil | (apply SubL.cons; (repeat (first | exact At.here | apply At.there))) | exact SubL.refl _ | apply SubL.skip))
  · intro hb0
    repeat (first | refine un (h := ?_) | refine sk (h := ?_) | refine WL.y (hy := pkF) (h := ?_) | refine WL.y (hy := pkT) (h := ?_))
    exact mg (by repeat (first | exact trivial | refine ⟨rfl, ?_⟩ | refine ⟨by rw [hb0]; rfl, ?_⟩)) (by repeat (first | exact SubL.nil | (apply SubL.cons; (repeat (first | exact At.here | apply At.there))) | exact SubL.refl _ | apply SubL.skip))
  refine WL.y (hy := asg) (h := ?_)
  refine nl (h := ?_)
  refine q_seq (h := ?_)
  refine rtn (h := ?_)
  refine q_ret (hR := ?_)
  exact fun w hS => ⟨(), trivial, rfl, hS.sub (by repeat (first | exact SubL.nil | (apply SubL.cons; (repeat (first | exact At.here | apply At.there))) | exact SubL.refl _ | apply SubL.skip))⟩
set_option maxRecDepth 100000 in
theorem C_play_share (p : Pg) (x y : Int) (jx jy : Jb) (hx : 0 ≤ x ∧ x < p.jobs.length) (hy : 0 ≤ y ∧ y < p.jobs.length) (hjx : p.jobs[x.toNat]? = some jx) (hjy : p.jobs[y.toNat]? = some jy) (w : World) (h : PgR w p) : C0 Try.prog 68 [p.val, .int .i64 x, .int .i64 y] w (.bool (shB p x y)) := by
  have hE : shB p x y = ((jx.af.contains y || jx.wi.contains y) || (jy.af.contains x || jy.wi.contains x)) := by unfold shB; rw [hjx, hjy]
  refine ⟨en Try.func68 Try.ntmps68 ((((((St.init w).share (e := .ro p.jA 6 p.jobs.length (encJb p.jobs)) h.j rfl rfl rfl).share (e := .ro jx.fA 1 jx.af.length (enI jx.af)) (h.f jx (List.mem_of_getElem? hjx)) rfl rfl rfl).share (e := .ro jx.wA 1 jx.wi.length (enI jx.wi)) (h.w jx (List.mem_of_getElem? hjx)) rfl rfl rfl).share (e := .ro jy.fA 1 jy.af.length (enI jy.af)) (h.f jy (List.mem_of_getElem? hjy)) rfl rfl rfl).share (e := .ro jy.wA 1 jy.wi.length (enI jy.wi)) (h.w jy (List.mem_of_getElem? hjy)) rfl rfl rfl) (h := fun F => ?_)⟩
  refine sq (h := ?_)
  refine rg (h := ?_)
  refine bxA (h := fun b0 => ?_)
  refine WL.y (hy := asg) (h := ?_)
  refine nl (h := ?_)
  refine q_seq (h := ?_)
  refine sq (h := ?_)
  refine rg (h := ?_)
  refine WL.y (hy := mkf) (h := ?_)
  refine WL.y (hy := asg) (h := ?_)
  refine nl (h := ?_)
  refine q_seq (h := ?_)
  refine sq (h := ?_)
  refine rg (h := ?_)
  refine WL.y (hy := mv) (h := ?_)
  refine WL.y (hy := mv) (h := ?_)
  refine WL.y (hy := mv) (h := ?_)
  refine clfT inferInstance (fi := []) (cap := [.pointer (some ⟨b0, 0, none⟩)]) (by exact rfl) (by repeat (first | exact Evs.nil | (apply Evs.cons; exact rfl))) (T_share1 p x y jx hx hjx h.nums b0) rfl (by repeat (first | exact Spl.nil | (apply Spl.cons; (repeat (first | exact At.here | apply At.there))))) (h := fun _ _ => ?_)
  refine WL.y (hy := mv) (h := ?_)
  apply brOr 5 13 18 (by exact rfl)
  · intro hb0
    refine un (h := ?_)
    refine WL.y (hy := mv) (h := ?_)
    refine un (h := ?_)
    refine WL.y (hy := mv) (h := ?_)
    refine un (h := ?_)
    refine WL.y (hy := mv) (h := ?_)
    refine un (h := ?_)
    refine clfT inferInstance (fi := []) (cap := [.pointer (some ⟨b0, 0, none⟩)]) (by exact rfl) (by repeat (first | exact Evs.nil | (apply Evs.cons; exact rfl))) (T_share1 p y x jy hy hjy h.nums b0) rfl (by repeat (first | exact Spl.nil | (apply Spl.cons; (repeat (first | exact At.here | apply At.there))))) (h := fun _ _ => ?_)
    refine WL.y (hy := (by first | exact pkT | exact pkF)) (h := ?_)
    exact mg (by repeat (first | exact trivial | refine ⟨rfl, ?_⟩ | refine ⟨by rw [hb0]; rfl, ?_⟩)) (by repeat (first | exact SubL.nil | (apply SubL.cons; (repeat (first | exact At.here | apply At.there))) | exact SubL.refl _ | apply SubL.skip))
  · intro hb0
    repeat (first | refine un (h := ?_) | refine sk (h := ?_) | refine WL.y (hy := pkF) (h := ?_) | refine WL.y (hy := pkT) (h := ?_))
    exact mg (by repeat (first | exact trivial | refine ⟨rfl, ?_⟩ | refine ⟨by rw [hb0]; rfl, ?_⟩)) (by repeat (first | exact SubL.nil | (apply SubL.cons; (repeat (first | exact At.here | apply At.there))) | exact SubL.refl _ | apply SubL.skip))
  refine WL.y (hy := asg) (h := ?_)
  refine nl (h := ?_)
  refine q_seq (h := ?_)
  refine rtn (h := ?_)
  refine q_ret (hR := ?_)
  rw [hE]
  exact fun w hS => ⟨rfl, hS.sub .nil⟩
set_option maxRecDepth 100000 in
theorem C_play_open (p : Pg) (hp : POk p) (m : Int) (hm : 0 ≤ m ∧ m < p.days.length) (w : World) (h : PgR w p) : C0 Try.prog 51 [p.val, .int .i64 m] w (openD p m).val := by
  have hnc := hp.nc
  obtain ⟨d, hd⟩ : ∃ d, p.days[m.toNat]? = some d := ⟨_, List.getElem?_eq_getElem (by omega)⟩
  have hdm := List.mem_of_getElem? hd
  have hdl := (hp.dy m.toNat d (by omega) hd).1
  have hE : openD p m = ⟨m, frTo d.sp d.sp.length, fun _ => 0⟩ := by unfold openD; rw [hd]
  refine ⟨en Try.func51 Try.ntmps51 (((St.init w).share (e := .ro p.dA 1 p.days.length (encDy p.days)) h.d rfl rfl rfl).share (e := .ro d.A 2 d.sp.length (encSn d.sp)) (h.s d hdm) rfl rfl rfl) (h := fun F => ?_)⟩
  refine sq (h := ?_)
  refine rg (h := ?_)
  refine bxA (h := fun b0 => ?_)
  refine al (h := fun b1 => ?_)
  refine nl (h := ?_)
  refine q_seq (h := ?_)
  refine sq (h := ?_)
  refine rg (h := ?_)
  refine WL.y (hy := mv) (h := ?_)
  refine WL.y (hy := bd) (h := ?_)
  refine al (h := fun b2 => ?_)
  first | refine stA (h := ?_) | refine stEA (h := ?_)
  refine nl (h := ?_)
  refine q_seq (h := ?_)
  refine sq (h := ?_)
  refine sq (h := ?_)
  refine rg (h := ?_)
  refine WL.y (hy := (by first | exact fa | exact faE)) (h := ?_)
  refine WL.y (hy := (by first | exact ld | exact ldE)) (h := ?_)
  refine WL.y (hy := mv) (h := ?_)
  refine WL.y (hy := ix (A := p.dA) (m := p.days.length) (hb := by omega)) (h := ?_)
  refine WL.y (hy := ldE (A := p.dA) (hk := encDy_at hd)) (h := ?_)
  refine WL.y (hy := lenS) (h := ?_)
  refine WL.y (hy := mv) (h := ?_)
  refine nl (h := ?_)
  refine q_seq (h := ?_)
  refine bk (h := ?_)
  refine lp (X := Nat) (I := fun k => k ≤ d.sp.length) (le := fun k => [(4, .pointer (some ⟨b1, 0, none⟩)), (5, .pointer (some ⟨b2, 0, none⟩)), (14, .slice d.A d.sp.length d.c), (15, .int .i64 d.sp.length), (16, .int .i64 k)]) (Le := fun k => [.blk b2 104 (⟨m, frTo d.sp k, fun _ => 0⟩ : DS).cells, .blk b1 104 (⟨0, fun _ => 0, fun _ => 0⟩ : DS).cells, .ro d.A 2 d.sp.length (encSn d.sp)]) (μ := fun k => d.sp.length - k) 0 (Nat.zero_le _) (by repeat (first | exact trivial | refine ⟨rfl, ?_⟩)) (by repeat (first | exact SubL.nil | (apply SubL.cons; (repeat (first | exact At.here | apply At.there))) | exact SubL.refl _ | apply SubL.skip)) (fun k hk => ?_)
  refine sq (h := ?_)
  refine rg (h := ?_)
  refine WL.y (hy := lss) (h := ?_)
  refine nl (h := ?_)
  refine q_seq (h := ?_)
  refine sq (h := ?_)
  refine cd (by exact rfl) (fun h0 => ?_) (fun h0 => ?_)
  · skip
    have hkn : k < d.sp.length := by have := of_decide_eq_true h0; omega
    obtain ⟨s, hs⟩ : ∃ s, d.sp[k]? = some s := ⟨_, List.getElem?_eq_getElem hkn⟩
    have hfs : frTo d.sp (k + 1) = upF (frTo d.sp k) k s.1 := by rw [frTo, hs]
    refine skp (h := ?_)
    refine q_seq (h := ?_)
    refine sq (h := ?_)
    refine bk (h := ?_)
    refine sq (h := ?_)
    refine rg (h := ?_)
    refine WL.y (hy := mv) (h := ?_)
    refine WL.y (hy := ix (A := d.A) (m := d.sp.length)) (h := ?_)
    refine WL.y (hy := ldEW (A := d.A) (hk := encSn_at hs)) (h := ?_)
    refine al (h := fun b3 => ?_)
    refine WL.y (hy := asg) (h := ?_)
    refine WL.cut (by repeat (first | exact Cut.nil | apply Cut.hit | apply Cut.miss (by exact rfl))) ?_
    first | refine stA (h := ?_) | refine stEA (h := ?_)
    refine nl (h := ?_)
    refine q_seq (h := ?_)
    refine rg (h := ?_)
    refine WL.y (hy := mv) (h := ?_)
    refine WL.y (hy := (by first | exact fa | exact faE)) (h := ?_)
    refine WL.y (hy := (by first | exact ld | exact ldE)) (h := ?_)
    refine WL.y (hy := (by first | exact fa | exact faE)) (h := ?_)
    refine WL.y (hy := ixA) (h := ?_)
    refine stI (ho := by show 1 + (k : Int).toNat * 1 < 10; omega) (h := ?_)
    rw [show 1 + (k : Int).toNat * 1 = 1 + k by omega, show (⟨m, frTo d.sp k, fun _ => 0⟩ : DS).cells.set (1 + k) (.int .i64 s.1) = (⟨m, frTo d.sp (k + 1), fun _ => 0⟩ : DS).cells from (fr_set ⟨m, frTo d.sp k, fun _ => 0⟩ (by omega) s.1).trans (by rw [hfs])]
    refine nl (h := ?_)
    refine q_blk_norm (h := ?_)
    refine q_seq (h := ?_)
    refine rg (h := ?_)
    refine WL.y (hy := addI) (h := ?_)
    refine WL.y (hy := mv) (h := ?_)
    refine nl (h := ?_)
    refine rn (x := k) (k + 1) hkn (by omega) (by repeat (first | exact trivial | refine ⟨rfl, ?_⟩)) (by repeat (first | exact SubL.nil | (apply SubL.cons; (repeat (first | exact At.here | apply At.there))) | exact SubL.refl _ | apply SubL.skip))
  · skip
    have hkn : k = d.sp.length := by have := of_decide_eq_false h0; omega
    rw [hkn]
    refine et (h := ?_)
    refine q_then_exit (h := ?_)
    refine q_then_exit (h := ?_)
    refine q_blk_hit (h := ?_)
    refine q_seq (h := ?_)
    refine sq (h := ?_)
    refine rg (h := ?_)
    refine WL.y (hy := (by first | exact ldA | exact ldEA)) (h := ?_)
    first | refine stA (h := ?_) | refine stEA (h := ?_)
    refine nl (h := ?_)
    refine q_seq (h := ?_)
    refine rtn (h := ?_)
    refine q_ret (hR := ?_)
    rw [hE]
    exact fun w hS => ⟨rfl, hS.sub .nil⟩
end Go.Proofs.Ytngelilffleimaa

namespace Go.Proofs.Ytngelilffleimaa
open Go Go.RowKit

set_option maxRecDepth 100000 in
theorem T_play (p : Pg) (hp : POk p) (hn : PgN p) (s : Se) (j : Jb) (hj : p.jobs[s.job.toNat]? = some j) (hmj : 0 ≤ s.job ∧ s.job < p.jobs.length) (hmc : 0 ≤ s.court ∧ s.court < 3) (d : DS) (B : Int) (hd : d.Ok B) (hB : 1440 ≤ B ∧ B ≤ 100000) (he : ∀ i, 0 < d.en i → i < p.jobs.length) (len : Int) (hlen : 0 ≤ len ∧ len ≤ 600) (bd : Nat) :
    Tr Try.prog 52 [.pointer (some ⟨bd, 0, none⟩), p.val, s.val, .int .i64 len] [.blk bd 104 d.cells, manyE false (pgU p)] (fun _ : Unit => True) (fun _ => .tuple #[.int .i64 (begV p d s), .int .i64 (begV p d s + len)]) (fun _ => [.blk bd 104 (playD p d s len).cells, manyE false (pgU p)]) := by
  refine ⟨fun w0 w R hst => ?_⟩
  have hnj := hp.nj
  have hre := hp.rest
  have hjo := hp.jb s.job.toNat j (by omega) hj
  have hje := hjo.ear
  have hear : p.ear s.job = j.ear := by unfold Pg.ear; rw [hj]
  have hbv : begV p d s = begTil p d s j.ear 6 := by unfold begV; rw [hear]
  have hfc : d.cells[1 + s.court.toNat * 1]? = some (.int .i64 (d.fr s.court.toNat)) := by rw [Nat.mul_one]; exact fr_at d (by omega)
  have hb0 : begTil p d s j.ear 0 = max (d.fr s.court.toNat) j.ear := rfl
  have hbr := begTil_rng p hre hd hB.1 s hje 6
  refine en Try.func52 Try.ntmps52 hst (h := fun F => ?_)
  refine sq (h := ?_)
  refine rg (h := ?_)
  refine bxA (h := fun b0 => ?_)
  refine bxA (h := fun b1 => ?_)
  refine WL.y (hy := asg) (h := ?_)
  refine WL.cut (by repeat (first | exact Cut.nil | apply Cut.hit | apply Cut.miss (by exact rfl))) ?_
  refine WL.y (hy := asg) (h := ?_)
  refine WL.cut (by repeat (first | exact Cut.nil | apply Cut.hit | apply Cut.miss (by exact rfl))) ?_
  refine nl (h := ?_)
  refine q_seq (h := ?_)
  refine sq (h := ?_)
  refine WC.getRowF (pgU_j p) (by repeat (first | exact At.here | apply At.there)) ?_
  refine rgD (by kernel_rfl) [(1000000, .blk bd 104 d.cells), (1000000, .ro p.jA 6 p.jobs.length (encJb p.jobs)), (1000000, .blk b0 25 p.cells), (1000000, .blk b1 41 s.cells)] (by repeat (first | exact HS.nil | (apply HS.keep; (repeat (first | exact At.here | apply At.there))) | (apply HS.ro; (repeat (first | exact Rds.ro | exact Rds.own | apply Rds.there))))) (h := ?_)
  refine tk 0 (hy := mv) (h := ?_)
  refine tk 1 (hy := (by first | exact fa | exact faE)) (h := ?_)
  refine tk 2 (hy := (by first | exact ld | exact ldE)) (h := ?_)
  refine tk 3 (hy := nck) (h := ?_)
  refine tk 4 (hy := (by first | exact fa | exact faE)) (h := ?_)
  refine tk 5 (hy := ixA (hb := by omega)) (h := ?_)
  refine tk 6 (hy := ld (hc := hfc)) (h := ?_)
  refine tk 7 (hy := (by first | exact fa | exact faE)) (h := ?_)
  refine tk 8 (hy := (by first | exact ld | exact ldE)) (h := ?_)
  refine tk 9 (hy := (by first | exact fa | exact faE)) (h := ?_)
  refine tk 10 (hy := (by first | exact ld | exact ldE)) (h := ?_)
  refine tk 11 (hy := ix (A := p.jA) (m := p.jobs.length) (hb := by omega)) (h := ?_)
  refine tk 12 (hy := (by first | exact fa | exact faE)) (h := ?_)
  refine tk 13 (hy := ldE (A := p.jA) (hk := encJb_at hj)) (h := ?_)
  refine tk 14 (hy := maxI) (h := ?_)
  refine tk 15 (hy := asg) (h := ?_)
  refine dn (h := ?_)
  refine q_seq (h := ?_)
  refine sq (h := ?_)
  refine sq (h := ?_)
  refine rg (h := ?_)
  refine WL.y (hy := mv) (h := ?_)
  refine WL.y (hy := nck) (h := ?_)
  refine WL.y (hy := (by first | exact fa | exact faE)) (h := ?_)
  refine WL.y (hy := (by first | exact ldA | exact ldEA)) (h := ?_)
  refine WL.y (hy := mv) (h := ?_)
  refine nl (h := ?_)
  refine q_seq (h := ?_)
  refine bk (h := ?_)
  refine lp (X := Nat) (I := fun k => k ≤ 6) (le := fun k => [(0, .pointer (some ⟨bd, 0, none⟩)), (3, .int .i64 len), (5, .pointer (some ⟨b0, 0, none⟩)), (6, .pointer (some ⟨b1, 0, none⟩)), (8, .int .i64 (begTil p d s j.ear k)), (30, .agg #[.int .i64 (d.en 0), .int .i64 (d.en 1), .int .i64 (d.en 2), .int .i64 (d.en 3), .int .i64 (d.en 4), .int .i64 (d.en 5)]), (31, .int .i64 k)]) (Le := fun _ => .blk bd 104 d.cells :: manyE false (pgU p) :: .blk b0 25 p.cells :: .blk b1 41 s.cells :: R) (μ := fun k => 6 - k) 0 (Nat.zero_le _) (by repeat (first | exact trivial | refine ⟨rfl, ?_⟩)) (by repeat (first | exact SubL.nil | (apply SubL.cons; (repeat (first | exact At.here | apply At.there))) | exact SubL.refl _ | apply SubL.skip)) (fun k hk => ?_)
  refine sq (h := ?_)
  refine rg (h := ?_)
  refine WL.y (hy := lss) (h := ?_)
  refine nl (h := ?_)
  refine q_seq (h := ?_)
  refine sq (h := ?_)
  refine cd (by exact rfl) (fun h0 => ?_) (fun h0 => ?_)
  · skip
    have hk6 : k < 6 := by have := of_decide_eq_true h0; omega
    have hev := enV_at d hk6
    have hek := hd.eb k
    have hbk := begTil_rng p hre hd hB.1 s hje k
    have hbe : begTil p d s j.ear (k + 1) = begK p d s.job (begTil p d s j.ear k) k := rfl
    refine skp (h := ?_)
    refine q_seq (h := ?_)
    refine sq (h := ?_)
    refine bk (h := ?_)
    refine sq (h := ?_)
    refine rg (h := ?_)
    refine WL.y (hy := mv) (h := ?_)
    refine WL.y (hy := ixvI (hb := by omega) (hv := by rw [Int.toNat_natCast]; simpa using hev)) (h := ?_)
    refine WL.y (hy := asg) (h := ?_)
    refine WL.cut (by repeat (first | exact Cut.nil | apply Cut.hit | apply Cut.miss (by exact rfl))) ?_
    refine WL.y (hy := asg) (h := ?_)
    refine WL.cut (by repeat (first | exact Cut.nil | apply Cut.hit | apply Cut.miss (by exact rfl))) ?_
    refine nl (h := ?_)
    refine q_seq (h := ?_)
    refine sq (h := ?_)
    refine rg (h := ?_)
    refine WL.y (hy := mv) (h := ?_)
    refine WL.y (hy := gtr) (h := ?_)
    refine WL.y (hy := mv) (h := ?_)
    apply brAnd 6 37 43 (by exact rfl)
    · intro hb1
      have hpos : 0 < d.en k := of_decide_eq_true hb1
      have hkj := he k hpos
      obtain ⟨jk, hjk⟩ : ∃ jk, p.jobs[((k : Int)).toNat]? = some jk := ⟨_, List.getElem?_eq_getElem (by omega)⟩
      refine un (h := ?_)
      refine WL.y (hy := (by first | exact ldA | exact ldEA)) (h := ?_)
      refine un (h := ?_)
      refine WL.y (hy := (by first | exact fa | exact faE)) (h := ?_)
      refine un (h := ?_)
      refine WL.y (hy := (by first | exact ld | exact ldE)) (h := ?_)
      refine un (h := ?_)
      refine WL.y (hy := mv) (h := ?_)
      refine un (h := ?_)
      refine cl0 (hc := fun w hS => C_play_share p s.job k j jk hmj (by omega) hj hjk w (PgR.of (fun r hr => hS.many (by repeat (first | exact At.here | apply At.there)) hr) hn)) (h := ?_)
      refine WL.y (hy := (by first | exact pkT | exact pkF)) (h := ?_)
      exact mg (by repeat (first | exact trivial | refine ⟨rfl, ?_⟩ | refine ⟨by rw [hb1]; rfl, ?_⟩)) (by repeat (first | exact SubL.nil | (apply SubL.cons; (repeat (first | exact At.here | apply At.there))) | exact SubL.refl _ | apply SubL.skip))
    · intro hb1
      repeat (first | refine un (h := ?_) | refine sk (h := ?_) | refine WL.y (hy := pkF) (h := ?_) | refine WL.y (hy := pkT) (h := ?_))
      exact mg (by repeat (first | exact trivial | refine ⟨rfl, ?_⟩ | refine ⟨by rw [hb1]; rfl, ?_⟩)) (by repeat (first | exact SubL.nil | (apply SubL.cons; (repeat (first | exact At.here | apply At.there))) | exact SubL.refl _ | apply SubL.skip))
    refine nl (h := ?_)
    refine q_seq (h := ?_)
    refine cd (by exact rfl) (fun h2 => ?_) (fun h2 => ?_)
    · skip
      have hE : begTil p d s j.ear (k + 1) = max (begTil p d s j.ear k) (d.en k + p.rest) := by rw [hbe, begK, h2]; rfl
      refine rg (h := ?_)
      refine WL.y (hy := mv) (h := ?_)
      refine WL.y (hy := mv) (h := ?_)
      refine WL.y (hy := (by first | exact fa | exact faE)) (h := ?_)
      refine WL.y (hy := (by first | exact ld | exact ldE)) (h := ?_)
      refine WL.y (hy := addI (hb := by omega)) (h := ?_)
      refine WL.y (hy := maxI) (h := ?_)
      refine WL.y (hy := asg) (h := ?_)
      refine WL.cut (by repeat (first | exact Cut.nil | apply Cut.hit | apply Cut.miss (by exact rfl))) ?_
      refine nl (h := ?_)
      refine q_blk_norm (h := ?_)
      refine q_seq (h := ?_)
      refine rg (h := ?_)
      refine WL.y (hy := addI) (h := ?_)
      refine WL.y (hy := mv) (h := ?_)
      refine nl (h := ?_)
      refine rn (x := k) (k + 1) hk6 (by omega) (by rw [hE]; repeat (first | exact trivial | refine ⟨rfl, ?_⟩)) (by repeat (first | exact SubL.nil | (apply SubL.cons; (repeat (first | exact At.here | apply At.there))) | exact SubL.refl _ | apply SubL.skip))
    · skip
      have hE : begTil p d s j.ear (k + 1) = begTil p d s j.ear k := by rw [hbe, begK, h2]; rfl
      refine skp (h := ?_)
      refine q_blk_norm (h := ?_)
      refine q_seq (h := ?_)
      refine rg (h := ?_)
      refine WL.y (hy := addI) (h := ?_)
      refine WL.y (hy := mv) (h := ?_)
      refine nl (h := ?_)
      refine rn (x := k) (k + 1) hk6 (by omega) (by rw [hE]; repeat (first | exact trivial | refine ⟨rfl, ?_⟩)) (by repeat (first | exact SubL.nil | (apply SubL.cons; (repeat (first | exact At.here | apply At.there))) | exact SubL.refl _ | apply SubL.skip))
  · skip
    have hk6 : k = 6 := by have := of_decide_eq_false h0; omega
    rw [hk6, ← hbv]
    rw [← hbv] at hbr
    refine et (h := ?_)
    refine q_then_exit (h := ?_)
    refine q_then_exit (h := ?_)
    refine q_blk_hit (h := ?_)
    refine q_seq (h := ?_)
    refine sq (h := ?_)
    refine rg (h := ?_)
    refine WL.y (hy := mv) (h := ?_)
    refine WL.y (hy := mv) (h := ?_)
    refine WL.y (hy := addI (hb := by omega)) (h := ?_)
    refine WL.y (hy := asg) (h := ?_)
    refine WL.cut (by repeat (first | exact Cut.nil | apply Cut.hit | apply Cut.miss (by exact rfl))) ?_
    refine nl (h := ?_)
    refine q_seq (h := ?_)
    refine sq (h := ?_)
    refine rgD (by kernel_rfl) [(1000000, .blk b1 41 s.cells)] (by repeat (first | exact HS.nil | (apply HS.keep; (repeat (first | exact At.here | apply At.there))) | (apply HS.ro; (repeat (first | exact Rds.ro | exact Rds.own | apply Rds.there))))) (h := ?_)
    refine tk 0 (hy := mv) (h := ?_)
    refine tk 1 (hy := (by first | exact fa | exact faE)) (h := ?_)
    refine tk 2 (hy := (by first | exact ld | exact ldE)) (h := ?_)
    refine tk 3 (hy := mv) (h := ?_)
    refine tk 4 (hy := (by first | exact fa | exact faE)) (h := ?_)
    refine tk 5 (hy := (by first | exact ld | exact ldE)) (h := ?_)
    refine tk 6 (hy := mv) (h := ?_)
    refine tk 7 (hy := mv) (h := ?_)
    refine tk 8 (hy := nck) (h := ?_)
    refine tk 9 (hy := (by first | exact fa | exact faE)) (h := ?_)
    refine tk 12 (hy := nck) (h := ?_)
    refine tk 13 (hy := (by first | exact fa | exact faE)) (h := ?_)
    refine one 10 (h := ?_)
    refine WL.y (hy := ixA (hb := by omega)) (h := ?_)
    refine nx (h := ?_)
    refine one 11 (h := ?_)
    refine stI (ho := by show 1 + s.court.toNat * 1 < 10; omega) (h := ?_)
    rw [show 1 + s.court.toNat * 1 = 1 + s.court.toNat by omega, fr_set d (by omega)]
    refine nx (h := ?_)
    refine one 14 (h := ?_)
    refine WL.y (hy := ixA (hb := by omega)) (h := ?_)
    refine nx (h := ?_)
    refine one 15 (h := ?_)
    refine stI (ho := by show 4 + s.job.toNat * 1 < 10; omega) (h := ?_)
    rw [show 4 + s.job.toNat * 1 = 4 + s.job.toNat by omega, en_set ⟨d.num, upF d.fr s.court.toNat (begV p d s + len), d.en⟩ (by omega)]
    refine nx (h := ?_)
    refine dn (h := ?_)
    refine q_seq (h := ?_)
    refine sq (h := ?_)
    refine rg (h := ?_)
    refine WL.y (hy := mv) (h := ?_)
    refine WL.y (hy := mv) (h := ?_)
    refine WL.y (hy := asg) (h := ?_)
    refine WL.cut (by repeat (first | exact Cut.nil | apply Cut.hit | apply Cut.miss (by exact rfl))) ?_
    refine WL.y (hy := asg) (h := ?_)
    refine WL.cut (by repeat (first | exact Cut.nil | apply Cut.hit | apply Cut.miss (by exact rfl))) ?_
    refine nl (h := ?_)
    refine q_seq (h := ?_)
    refine rtn (h := ?_)
    refine q_ret (hR := ?_)
    exact fun w hS => ⟨(), trivial, rfl, hS.sub (by repeat (first | exact SubL.nil | (apply SubL.cons; (repeat (first | exact At.here | apply At.there))) | exact SubL.refl _ | apply SubL.skip))⟩
end Go.Proofs.Ytngelilffleimaa

namespace Go.Proofs.Ytngelilffleimaa
open Go Go.RowKit

structure TsI (p : Pg) (k : Nat) (t : TS) : Prop where
  ok : t.d.Ok (1440 + 1200 * (k : Int))
  pos : ∀ i, 0 < t.d.en i → i < p.jobs.length
  lb : t.bs.length = p.jobs.length
  le : t.es.length = p.jobs.length
theorem runT_succ {p : Pg} {gl : Sn → Int} {o : List Se} {k : Nat} {s : Se} (h : o[k]? = some s) : runT p gl (o.take (k + 1)) = stepT p gl (runT p gl (o.take k)) s := by
  unfold runT
  rw [List.take_add_one, h, List.foldl_append]; rfl
theorem TsI.start {p : Pg} (hp : POk p) (gl : Sn → Int) : TsI p 0 (runT p gl []) :=
  ⟨(open_ok hp 0).mono (by omega), fun i hi => absurd hi (by show ¬ (0 : Int) < 0; omega), List.length_replicate, List.length_replicate⟩
theorem TsI.next {p : Pg} (hp : POk p) {k : Nat} {t : TS} (h : TsI p k t) {D : DS} (hD : D.Ok (1440 + 1200 * (k : Int))) (hP : ∀ i, 0 < D.en i → i < p.jobs.length) {s : Se} (hj : 0 ≤ s.job ∧ s.job < p.jobs.length) {j : Jb} (hjs : p.jobs[s.job.toNat]? = some j) {v : Int} (hv : 0 ≤ v ∧ v ≤ 600) : TsI p (k + 1) ⟨playD p D s v, t.bs.set s.job.toNat (begV p D s), t.es.set s.job.toNat (begV p D s + v)⟩ := by
  have hje := (hp.jb s.job.toNat j (by omega) hjs).ear
  have hb : begV p D s = begTil p D s j.ear 6 := by unfold begV Pg.ear; rw [hjs]
  have hr := begTil_rng p hp.rest hD (by omega) s hje 6
  have hnj := hp.nj
  rw [← hb] at hr
  refine ⟨?_, fun i hi => ?_, by rw [List.length_set]; exact h.lb, by rw [List.length_set]; exact h.le⟩
  · exact hD.put (by omega) (by omega) (by omega)
  · have hi2 : 0 < upF D.en s.job.toNat (begV p D s + v) i := hi
    unfold upF at hi2
    by_cases e : i = s.job.toNat
    · omega
    · rw [if_neg e] at hi2; exact hP i hi2
theorem enI_put8 (xs : List Int) (k : Nat) (y v : Int) : (enI xs).set k ([Value.int .i64 y].set 0 (.int .i64 v)) = enI (xs.set k v) := by
  unfold enI
  rw [List.map_set]; rfl
theorem enI_rep8 (m : Nat) : List.replicate m [Value.int .i64 0] = enI (List.replicate m 0) := by unfold enI; rw [List.map_replicate]; rfl
set_option maxRecDepth 100000 in
set_option maxHeartbeats 1000000 in
theorem C_play_times (p : Pg) (hp : POk p) (o : List Se) (hO : OOk p o) (g : FuncId) (hg : FnOk Try.prog g) (gl : Sn → Int) (hgc : ∀ (s : Sn) (w : World), C0 Try.prog g [.agg #[.int .i64 s.1, .int .i64 s.2]] w (.int .i64 (gl s))) (hgr : ∀ (i : Nat) (j : Jb), p.jobs[i]? = some j → 0 ≤ gl j.len ∧ gl j.len ≤ 600) (oA : Option Addr) (n oc : Nat) (w : World) (h : PgR w p) (ho : Rd w oA 3 n (encSe o)) :
    CR Try.prog 27 [p.val, .slice oA n oc, .func (.func g) #[] #[]] w (fun _ : Nat × Nat => True) (fun q => .tuple #[.slice (some ⟨q.1, 0, none⟩) p.jobs.length p.jobs.length, .slice (some ⟨q.2, 0, none⟩) p.jobs.length p.jobs.length]) (fun q => [.own (some ⟨q.1, 0, none⟩) p.jobs.length 3 1 p.jobs.length (enI (runT p gl o).bs), .own (some ⟨q.2, 0, none⟩) p.jobs.length 3 1 p.jobs.length (enI (runT p gl o).es)]) := by
  have hlen : o.length = n := by have := ho.len; rwa [encSe_len] at this
  have hnd := hp.nd
  have hnj := hp.nj
  have hnc := hp.nc
  have hon := hO.n
  refine ⟨en Try.func27 Try.ntmps27 (((St.init w).share (e := .ro p.jA 6 p.jobs.length (encJb p.jobs)) h.j rfl rfl rfl).share (e := .ro oA 3 n (encSe o)) ho rfl rfl rfl) (h := fun F => ?_)⟩
  refine sq (h := ?_)
  refine rg (h := ?_)
  refine bxA (h := fun b0 => ?_)
  refine WL.y (hy := asg) (h := ?_)
  refine WL.cut (by repeat (first | exact Cut.nil | apply Cut.hit | apply Cut.miss (by exact rfl))) ?_
  refine WL.y (hy := asg) (h := ?_)
  refine WL.cut (by repeat (first | exact Cut.nil | apply Cut.hit | apply Cut.miss (by exact rfl))) ?_
  refine nl (h := ?_)
  refine q_seq (h := ?_)
  refine ct (X := Nat × Nat) (fun _ => True) (fun x => [(1, .slice oA n oc), (2, .func (.func g) #[] #[]), (3, .pointer (some ⟨b0, 0, none⟩)), (6, .slice (some ⟨x.1, 0, none⟩) p.jobs.length p.jobs.length), (7, .slice (some ⟨x.2, 0, none⟩) p.jobs.length p.jobs.length)]) (fun x => [.own (some ⟨x.1, 0, none⟩) p.jobs.length 3 1 p.jobs.length (enI (List.replicate p.jobs.length 0)), .own (some ⟨x.2, 0, none⟩) p.jobs.length 3 1 p.jobs.length (enI (List.replicate p.jobs.length 0)), .blk b0 25 p.cells, .ro p.jA 6 p.jobs.length (encJb p.jobs), .ro oA 3 n (encSe o)]) (h1 := ?_) (h2 := ?_)
  · skip
    refine rgD0 (by kernel_rfl) (h := ?_)
    refine tk 0 (hy := (by first | exact fa | exact faE)) (h := ?_)
    refine tk 1 (hy := (by first | exact ld | exact ldE)) (h := ?_)
    refine tk 2 (hy := lenS) (h := ?_)
    refine tk 4 (hy := (by first | exact fa | exact faE)) (h := ?_)
    refine tk 5 (hy := (by first | exact ld | exact ldE)) (h := ?_)
    refine tk 6 (hy := lenS) (h := ?_)
    refine two 3 7 (h1 := ?_) (h2 := ?_)
    · skip
      refine mks p.jobs.length (hx := by exact rfl) (hy := by exact rfl) (h := fun bA => ?_)
      rw [enI_rep8]
      refine nx (h := ?_)
      refine tk 8 (hy := asg) (h := ?_)
      refine one 7 (h := ?_)
      refine mks p.jobs.length (hx := by exact rfl) (hy := by exact rfl) (h := fun bB => ?_)
      rw [enI_rep8]
      refine nx (h := ?_)
      refine tk 9 (hy := asg) (h := ?_)
      refine dn (h := ?_)
      exact ctn (x := (bA, bB)) trivial (by repeat (first | exact trivial | refine ⟨rfl, ?_⟩)) (by repeat (first | exact SubL.nil | (apply SubL.cons; (repeat (first | exact At.here | apply At.there))) | exact SubL.refl _ | apply SubL.skip))
    · skip
      refine mks p.jobs.length (hx := by exact rfl) (hy := by exact rfl) (h := fun bB => ?_)
      rw [enI_rep8]
      refine nx (h := ?_)
      refine one 3 (h := ?_)
      refine mks p.jobs.length (hx := by exact rfl) (hy := by exact rfl) (h := fun bA => ?_)
      rw [enI_rep8]
      refine nx (h := ?_)
      refine tk 8 (hy := asg) (h := ?_)
      refine tk 9 (hy := asg) (h := ?_)
      refine dn (h := ?_)
      exact ctn (x := (bA, bB)) trivial (by repeat (first | exact trivial | refine ⟨rfl, ?_⟩)) (by repeat (first | exact SubL.nil | (apply SubL.cons; (repeat (first | exact At.here | apply At.there))) | exact SubL.refl _ | apply SubL.skip))
  rintro ⟨m1, m2⟩ -
  refine sq (h := ?_)
  refine WC.manyOld h.rows ?_
  refine rg (h := ?_)
  refine WL.y (hy := (by first | exact ldA | exact ldEA)) (h := ?_)
  refine cl0 (hc := fun w hS => C_play_open p hp 0 (by omega) w (h.old hS)) (h := ?_)
  refine al (h := fun b1 => ?_)
  first | refine stA (h := ?_) | refine stEA (h := ?_)
  refine nl (h := ?_)
  refine q_seq (h := ?_)
  refine sq (h := ?_)
  refine sq (h := ?_)
  refine rg (h := ?_)
  refine WL.y (hy := mv) (h := ?_)
  refine WL.y (hy := lenS) (h := ?_)
  refine WL.y (hy := mv) (h := ?_)
  refine nl (h := ?_)
  refine q_seq (h := ?_)
  refine bk (h := ?_)
  refine lp (X := Nat) (I := fun k => k ≤ n ∧ TsI p k (runT p gl (o.take k))) (le := fun k => [(1, .slice oA n oc), (2, .func (.func g) #[] #[]), (3, .pointer (some ⟨b0, 0, none⟩)), (6, .slice (some ⟨m1, 0, none⟩) p.jobs.length p.jobs.length), (7, .slice (some ⟨m2, 0, none⟩) p.jobs.length p.jobs.length), (8, .pointer (some ⟨b1, 0, none⟩)), (21, .slice oA n oc), (22, .int .i64 n), (23, .int .i64 k)]) (Le := fun k => [.blk b1 104 (runT p gl (o.take k)).d.cells, .own (some ⟨m1, 0, none⟩) p.jobs.length 3 1 p.jobs.length (enI (runT p gl (o.take k)).bs), .own (some ⟨m2, 0, none⟩) p.jobs.length 3 1 p.jobs.length (enI (runT p gl (o.take k)).es), .blk b0 25 p.cells, manyE false (pgU p), .ro p.jA 6 p.jobs.length (encJb p.jobs), .ro oA 3 n (encSe o)]) (μ := fun k => n - k) 0 ⟨Nat.zero_le _, TsI.start hp gl⟩ (by repeat (first | exact trivial | refine ⟨rfl, ?_⟩)) (by repeat (first | exact SubL.nil | (apply SubL.cons; (repeat (first | exact At.here | apply At.there))) | exact SubL.refl _ | apply SubL.skip)) (fun k hk => ?_)
  obtain ⟨hkN, hT⟩ := hk
  refine sq (h := ?_)
  refine rg (h := ?_)
  refine WL.y (hy := lss) (h := ?_)
  refine nl (h := ?_)
  refine q_seq (h := ?_)
  refine sq (h := ?_)
  refine cd (by exact rfl) (fun h0 => ?_) (fun h0 => ?_)
  · skip
    have hkn : k < n := by have := of_decide_eq_true h0; omega
    obtain ⟨s, hs⟩ : ∃ s, o[k]? = some s := ⟨_, List.getElem?_eq_getElem (by omega)⟩
    have hm := hO.at_ k s (by omega) hs
    have hmj := hm.job
    have hmd := hm.day
    have hmc := hm.court
    obtain ⟨j, hj⟩ : ∃ j, p.jobs[s.job.toNat]? = some j := ⟨_, List.getElem?_eq_getElem (by omega)⟩
    have hjm := List.mem_of_getElem? hj
    have hgj := hgr _ j hj
    have hl8 : p.len gl s.job = gl j.len := by unfold Pg.len; rw [hj]
    have hrs := runT_succ (p := p) (gl := gl) hs
    obtain ⟨t, ht⟩ : ∃ t, t = runT p gl (o.take k) := ⟨_, rfl⟩
    rw [← ht] at hT ⊢
    have hlb := hT.lb
    have hle := hT.le
    refine skp (h := ?_)
    refine q_seq (h := ?_)
    refine sq (h := ?_)
    refine bk (h := ?_)
    refine sq (h := ?_)
    refine rg (h := ?_)
    refine WL.y (hy := ix (A := oA) (m := n)) (h := ?_)
    refine WL.y (hy := ldEW (A := oA) (hk := encSe_at hs)) (h := ?_)
    refine al (h := fun b2 => ?_)
    first | refine stA (h := ?_) | refine stEA (h := ?_)
    refine nl (h := ?_)
    refine q_seq (h := ?_)
    refine sq (h := ?_)
    refine sq (h := ?_)
    refine rg (h := ?_)
    refine WL.y (hy := (by first | exact fa | exact faE)) (h := ?_)
    refine WL.y (hy := (by first | exact ld | exact ldE)) (h := ?_)
    refine WL.y (hy := (by first | exact fa | exact faE)) (h := ?_)
    refine WL.y (hy := (by first | exact ld | exact ldE)) (h := ?_)
    refine WL.y (hy := neq) (h := ?_)
    refine nl (h := ?_)
    refine q_seq (h := ?_)
    refine cd (by exact rfl) (fun h1 => ?_) (fun h1 => ?_)
    · skip
      have hq : (bif decide (s.day = t.d.num) then t.d else openD p s.day) = openD p s.day := by have g9 := h1; rw [Bool.not_eq_true'] at g9; rw [g9]; rfl
      have hO2 := (open_ok hp s.day).mono (C := 1440 + 1200 * (k : Int)) (by omega)
      have hP2 : ∀ i, 0 < (openD p s.day).en i → i < p.jobs.length := fun i hi => absurd hi (by show ¬ (0 : Int) < 0; omega)
      refine rg (h := ?_)
      refine WL.y (hy := (by first | exact ldA | exact ldEA)) (h := ?_)
      refine WL.y (hy := (by first | exact fa | exact faE)) (h := ?_)
      refine WL.y (hy := (by first | exact ld | exact ldE)) (h := ?_)
      refine cl0 (hc := fun w hS => C_play_open p hp s.day hmd w (h.old hS)) (h := ?_)
      first | refine stA (h := ?_) | refine stEA (h := ?_)
      refine nl (h := ?_)
      refine q_seq (h := ?_)
      obtain ⟨D, hD⟩ : ∃ D, D = (bif decide (s.day = t.d.num) then t.d else openD p s.day) := ⟨_, rfl⟩
      have hnx : runT p gl (o.take (k + 1)) = ⟨playD p D s (gl j.len), t.bs.set s.job.toNat (begV p D s), t.es.set s.job.toNat (begV p D s + gl j.len)⟩ := by
        rw [hrs, ← ht, ← hl8, hD]; rfl
      rw [hq] at hD
      rw [← hD] at hO2 hP2 ⊢
      have hT2 := hT.next hp hO2 hP2 hmj hj hgj
      refine rgD (by kernel_rfl) [(1000000, .blk b0 25 p.cells), (1000000, .blk b2 41 s.cells), (1000000, .ro p.jA 6 p.jobs.length (encJb p.jobs))] (by repeat (first | exact HS.nil | (apply HS.keep; (repeat (first | exact At.here | apply At.there))) | (apply HS.ro; (repeat (first | exact Rds.ro | exact Rds.own | apply Rds.there))))) (h := ?_)
      refine tk 0 (hy := mv) (h := ?_)
      refine tk 1 (hy := (by first | exact fa | exact faE)) (h := ?_)
      refine tk 2 (hy := (by first | exact ld | exact ldE)) (h := ?_)
      refine tk 3 (hy := mv) (h := ?_)
      refine tk 4 (hy := (by first | exact fa | exact faE)) (h := ?_)
      refine tk 5 (hy := (by first | exact ld | exact ldE)) (h := ?_)
      refine tk 6 (hy := (by first | exact ldA | exact ldEA)) (h := ?_)
      refine tk 7 (hy := (by first | exact ldA | exact ldEA)) (h := ?_)
      refine tk 8 (hy := mv) (h := ?_)
      refine tk 9 (hy := (by first | exact fa | exact faE)) (h := ?_)
      refine tk 10 (hy := (by first | exact ld | exact ldE)) (h := ?_)
      refine tk 11 (hy := (by first | exact fa | exact faE)) (h := ?_)
      refine tk 12 (hy := (by first | exact ld | exact ldE)) (h := ?_)
      refine tk 13 (hy := ix (A := p.jA) (m := p.jobs.length) (hb := by omega)) (h := ?_)
      refine tk 14 (hy := (by first | exact fa | exact faE)) (h := ?_)
      refine tk 15 (hy := ldEA (A := p.jA) (hk := encJb_at hj)) (h := ?_)
      refine one 16 (h := ?_)
      refine clf0 (hf := hg) (f := g) (fi := []) (cap := []) (hx := by exact rfl) (hc := fun w hS => hgc j.len w) (h := ?_)
      refine nx (h := ?_)
      refine one 17 (h := ?_)
      refine clT (hc := T_play p hp h.nums s j hj hmj (by omega) D (1440 + 1200 * (k : Int)) hO2 (by omega) hP2 (gl j.len) hgj b1) (h := fun _ _ => ?_)
      refine nx (h := ?_)
      refine tk 18 (hy := mv) (h := ?_)
      refine tk 19 (hy := ex) (h := ?_)
      refine tk 20 (hy := ex) (h := ?_)
      refine one 21 (h := ?_)
      refine WL.y (hy := ix (A := some ⟨m1, 0, none⟩) (m := p.jobs.length) (hb := by omega)) (h := ?_)
      refine nx (h := ?_)
      refine one 22 (h := ?_)
      refine stE (A := some ⟨m1, 0, none⟩) (k := s.job.toNat) (j := 0) (hk := enI_at (getD_get (by omega))) (h := ?_)
      rw [enI_put8]
      refine nx (h := ?_)
      refine one 23 (h := ?_)
      refine WL.y (hy := ix (A := some ⟨m2, 0, none⟩) (m := p.jobs.length) (hb := by omega)) (h := ?_)
      refine nx (h := ?_)
      refine one 24 (h := ?_)
      refine stE (A := some ⟨m2, 0, none⟩) (k := s.job.toNat) (j := 0) (hk := enI_at (getD_get (by omega))) (h := ?_)
      rw [enI_put8]
      refine nx (h := ?_)
      refine dn (h := ?_)
      refine q_blk_norm (h := ?_)
      refine q_seq (h := ?_)
      refine rg (h := ?_)
      refine WL.y (hy := addI) (h := ?_)
      refine WL.y (hy := mv) (h := ?_)
      refine nl (h := ?_)
      refine rn (x := k) (k + 1) ⟨hkn, by rw [hnx]; exact hT2⟩ (by omega) (by repeat (first | exact trivial | refine ⟨rfl, ?_⟩)) (by rw [hnx]; exact (by repeat (first | exact SubL.nil | (apply SubL.cons; (repeat (first | exact At.here | apply At.there))) | exact SubL.refl _ | apply SubL.skip)))
    · skip
      have hq : (bif decide (s.day = t.d.num) then t.d else openD p s.day) = t.d := by have g9 := h1; rw [Bool.not_eq_false'] at g9; rw [g9]; rfl
      have hO2 := hT.ok
      have hP2 := hT.pos
      refine skp (h := ?_)
      refine q_seq (h := ?_)
      obtain ⟨D, hD⟩ : ∃ D, D = (bif decide (s.day = t.d.num) then t.d else openD p s.day) := ⟨_, rfl⟩
      have hnx : runT p gl (o.take (k + 1)) = ⟨playD p D s (gl j.len), t.bs.set s.job.toNat (begV p D s), t.es.set s.job.toNat (begV p D s + gl j.len)⟩ := by
        rw [hrs, ← ht, ← hl8, hD]; rfl
      rw [hq] at hD
      rw [← hD] at hO2 hP2 ⊢
      have hT2 := hT.next hp hO2 hP2 hmj hj hgj
      refine rgD (by kernel_rfl) [(1000000, .blk b0 25 p.cells), (1000000, .blk b2 41 s.cells), (1000000, .ro p.jA 6 p.jobs.length (encJb p.jobs))] (by repeat (first | exact HS.nil | (apply HS.keep; (repeat (first | exact At.here | apply At.there))) | (apply HS.ro; (repeat (first | exact Rds.ro | exact Rds.own | apply Rds.there))))) (h := ?_)
      refine tk 0 (hy := mv) (h := ?_)
      refine tk 1 (hy := (by first | exact fa | exact faE)) (h := ?_)
      refine tk 2 (hy := (by first | exact ld | exact ldE)) (h := ?_)
      refine tk 3 (hy := mv) (h := ?_)
      refine tk 4 (hy := (by first | exact fa | exact faE)) (h := ?_)
      refine tk 5 (hy := (by first | exact ld | exact ldE)) (h := ?_)
      refine tk 6 (hy := (by first | exact ldA | exact ldEA)) (h := ?_)
      refine tk 7 (hy := (by first | exact ldA | exact ldEA)) (h := ?_)
      refine tk 8 (hy := mv) (h := ?_)
      refine tk 9 (hy := (by first | exact fa | exact faE)) (h := ?_)
      refine tk 10 (hy := (by first | exact ld | exact ldE)) (h := ?_)
      refine tk 11 (hy := (by first | exact fa | exact faE)) (h := ?_)
      refine tk 12 (hy := (by first | exact ld | exact ldE)) (h := ?_)
      refine tk 13 (hy := ix (A := p.jA) (m := p.jobs.length) (hb := by omega)) (h := ?_)
      refine tk 14 (hy := (by first | exact fa | exact faE)) (h := ?_)
      refine tk 15 (hy := ldEA (A := p.jA) (hk := encJb_at hj)) (h := ?_)
      refine one 16 (h := ?_)
      refine clf0 (hf := hg) (f := g) (fi := []) (cap := []) (hx := by exact rfl) (hc := fun w hS => hgc j.len w) (h := ?_)
      refine nx (h := ?_)
      refine one 17 (h := ?_)
      refine clT (hc := T_play p hp h.nums s j hj hmj (by omega) D (1440 + 1200 * (k : Int)) hO2 (by omega) hP2 (gl j.len) hgj b1) (h := fun _ _ => ?_)
      refine nx (h := ?_)
      refine tk 18 (hy := mv) (h := ?_)
      refine tk 19 (hy := ex) (h := ?_)
      refine tk 20 (hy := ex) (h := ?_)
      refine one 21 (h := ?_)
      refine WL.y (hy := ix (A := some ⟨m1, 0, none⟩) (m := p.jobs.length) (hb := by omega)) (h := ?_)
      refine nx (h := ?_)
      refine one 22 (h := ?_)
      refine stE (A := some ⟨m1, 0, none⟩) (k := s.job.toNat) (j := 0) (hk := enI_at (getD_get (by omega))) (h := ?_)
      rw [enI_put8]
      refine nx (h := ?_)
      refine one 23 (h := ?_)
      refine WL.y (hy := ix (A := some ⟨m2, 0, none⟩) (m := p.jobs.length) (hb := by omega)) (h := ?_)
      refine nx (h := ?_)
      refine one 24 (h := ?_)
      refine stE (A := some ⟨m2, 0, none⟩) (k := s.job.toNat) (j := 0) (hk := enI_at (getD_get (by omega))) (h := ?_)
      rw [enI_put8]
      refine nx (h := ?_)
      refine dn (h := ?_)
      refine q_blk_norm (h := ?_)
      refine q_seq (h := ?_)
      refine rg (h := ?_)
      refine WL.y (hy := addI) (h := ?_)
      refine WL.y (hy := mv) (h := ?_)
      refine nl (h := ?_)
      refine rn (x := k) (k + 1) ⟨hkn, by rw [hnx]; exact hT2⟩ (by omega) (by repeat (first | exact trivial | refine ⟨rfl, ?_⟩)) (by rw [hnx]; exact (by repeat (first | exact SubL.nil | (apply SubL.cons; (repeat (first | exact At.here | apply At.there))) | exact SubL.refl _ | apply SubL.skip)))
  · skip
    have hkn : k = n := by have := of_decide_eq_false h0; omega
    rw [show o.take k = o by rw [hkn, ← hlen, List.take_length]]
    refine et (h := ?_)
    refine q_then_exit (h := ?_)
    refine q_then_exit (h := ?_)
    refine q_blk_hit (h := ?_)
    refine q_seq (h := ?_)
    refine sq (h := ?_)
    refine rg (h := ?_)
    refine WL.y (hy := mv) (h := ?_)
    refine WL.y (hy := mv) (h := ?_)
    refine WL.y (hy := asg) (h := ?_)
    refine WL.cut (by repeat (first | exact Cut.nil | apply Cut.hit | apply Cut.miss (by exact rfl))) ?_
    refine WL.y (hy := asg) (h := ?_)
    refine WL.cut (by repeat (first | exact Cut.nil | apply Cut.hit | apply Cut.miss (by exact rfl))) ?_
    refine nl (h := ?_)
    refine q_seq (h := ?_)
    refine rtn (h := ?_)
    refine q_ret (hR := ?_)
    exact fun w hS => ⟨(m1, m2), trivial, rfl, hS.sub (by repeat (first | exact SubL.nil | (apply SubL.cons; (repeat (first | exact At.here | apply At.there))) | exact SubL.refl _ | apply SubL.skip))⟩
end Go.Proofs.Ytngelilffleimaa
