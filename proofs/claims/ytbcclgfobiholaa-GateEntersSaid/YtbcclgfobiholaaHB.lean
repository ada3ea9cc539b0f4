/- The document's answer on Enter, Sure, Inside, Enough: walked, it is what the program finds. -/
import Derived.Test.YtbcclgfobiholaaHA
import Derived.Test.YtbcclgfobiholaaGZ
import Derived.Test.YtbcclgfobiholaaGW
namespace Go.Proofs.Ytbcclgfobiholaa
open Go Go.RowKit

theorem C_ref11_Enter (q : Qu) (a : QA) (rate : Int) (w : World) (h : QRd w q a) :
    CR Try.prog 32 [q.val a, .int .i64 rate] w (fun _ : Option Addr × Nat => True) (fun p => .tuple #[.slice p.1 (enterL q rate).length p.2, .int .i64 (enterE q rate)]) (fun p => [.own p.1 p.2 3 1 (enterL q rate).length (enI (enterL q rate))]) := by
  obtain ⟨hg, hf, hgn, hfn⟩ := h
  refine ⟨en Try.func32 Try.ntmps32 (((St.init w).share (e := .ro a.gA 4 q.gs.length (encPt q.gs)) hg rfl rfl rfl).share (e := .ro a.fA 2 q.fs.length (encF q.fs)) hf rfl rfl rfl) (h := fun F => ?_)⟩
  refine sq (h := ?_)
  refine rg (h := ?_)
  refine bxA (h := fun b0 => ?_)
  refine WL.y (hy := asg) (h := ?_)
  refine WL.y (hy := asg) (h := ?_)
  refine nl (h := ?_)
  refine q_seq (h := ?_)
  refine sq (h := ?_)
  refine sq (h := ?_)
  refine rg (h := ?_)
  refine WL.y (hy := (by first | exact ldA | exact ldEA)) (h := ?_)
  refine cl0 (hc := fun w hS => C_ref11_Check q a w ⟨hS.get, hS.get, hgn, hfn⟩) (h := ?_)
  refine WL.y (hy := neq) (h := ?_)
  refine nl (h := ?_)
  refine q_seq (h := ?_)
  refine cd (by exact rfl) (fun h0 => ?_) (fun h0 => ?_)
  · skip
    have hb : qOk q = false := chkQ_no h0
    have hE : enterE q rate = 110 := by rw [enterE, hb]; rfl
    have hL : enterL q rate = [] := by rw [enterL, hE]; rfl
    refine sq (h := ?_)
    refine WC.nilOwn 3 1 (h := ?_)
    refine rg (h := ?_)
    refine WL.y (hy := asg) (h := ?_)
    refine WL.y (hy := asg) (h := ?_)
    refine nl (h := ?_)
    refine q_seq (h := ?_)
    refine rtn (h := ?_)
    refine q_then_ret (h := ?_)
    refine q_ret (hR := ?_)
    rw [hE, hL]
    exact fun w hS => ⟨(none, 0), trivial, rfl, hS.sub (by repeat (first | exact SubL.nil | (apply SubL.cons; (repeat (first | exact At.here | apply At.there))) | exact SubL.refl _ | apply SubL.skip))⟩
  · skip
    obtain ⟨hq, hqb⟩ := chkQ_ok h0
    have hqr := hq.r
    refine skp (h := ?_)
    refine q_seq (h := ?_)
    refine sq (h := ?_)
    refine sq (h := ?_)
    refine rg (h := ?_)
    refine WL.y (hy := mv) (h := ?_)
    refine WL.y (hy := (by first | exact fa | exact faE)) (h := ?_)
    refine WL.y (hy := (by first | exact fa | exact faE)) (h := ?_)
    refine WL.y (hy := (by first | exact ld | exact ldE)) (h := ?_)
    refine WL.y (hy := (by first | exact fa | exact faE)) (h := ?_)
    refine WL.y (hy := (by first | exact fa | exact faE)) (h := ?_)
    refine WL.y (hy := (by first | exact ld | exact ldE)) (h := ?_)
    refine cl0 (hc := fun w hS => C_ref11_within ..) (h := ?_)
    refine WL.y (hy := notB) (h := ?_)
    refine nl (h := ?_)
    refine q_seq (h := ?_)
    refine cd (by exact rfl) (fun h1 => ?_) (fun h1 => ?_)
    · skip
      have hw : win rate q.lo q.hi = false := by simpa using h1
      have hE : enterE q rate = 1 := by rw [enterE, hqb, hw]; rfl
      have hL : enterL q rate = [] := by rw [enterL, hE]; rfl
      refine sq (h := ?_)
      refine WC.nilOwn 3 1 (h := ?_)
      refine rg (h := ?_)
      refine WL.y (hy := asg) (h := ?_)
      refine WL.y (hy := asg) (h := ?_)
      refine nl (h := ?_)
      refine q_seq (h := ?_)
      refine rtn (h := ?_)
      refine q_then_ret (h := ?_)
      refine q_ret (hR := ?_)
      rw [hE, hL]
      exact fun w hS => ⟨(none, 0), trivial, rfl, hS.sub (by repeat (first | exact SubL.nil | (apply SubL.cons; (repeat (first | exact At.here | apply At.there))) | exact SubL.refl _ | apply SubL.skip))⟩
    · skip
      have hw : win rate q.lo q.hi = true := by simpa using h1
      have hE : enterE q rate = 0 := enter_ok hqb hw
      have hL : enterL q rate = runV q rate 0 := by rw [enterL, hE]; rfl
      have hwr := win_iff.1 hw
      have hrl := runV_len hq (rate := rate) (more := 0) (by omega)
      refine skp (h := ?_)
      refine q_seq (h := ?_)
      refine sq (h := ?_)
      refine rg (h := ?_)
      refine WL.y (hy := (by first | exact ldA | exact ldEA)) (h := ?_)
      refine WL.y (hy := mv) (h := ?_)
      refine cl (hc := fun w hS => C_ref11_enter q a rate hq (by omega) w ⟨hS.get, hS.get, hgn, hfn⟩) (h := fun x0 _ => ?_)
      refine WL.y (hy := asg) (h := ?_)
      refine WL.y (hy := asg) (h := ?_)
      refine nl (h := ?_)
      refine q_seq (h := ?_)
      refine rtn (h := ?_)
      refine q_ret (hR := ?_)
      rw [hE, hL, hrl]
      exact fun w hS => ⟨x0, trivial, rfl, hS.sub (by repeat (first | exact SubL.nil | (apply SubL.cons; (repeat (first | exact At.here | apply At.there))) | exact SubL.refl _ | apply SubL.skip))⟩
theorem C_ref11_group (q : Qu) (a : QA) (id : Int) (w : World) (h : QRd w q a) : C0 Try.prog 38 [q.val a, .int .i64 id] w (.int .i64 (grpI q.gs id)) := by
  obtain ⟨hg, hf, hgn, hfn⟩ := h
  refine ⟨en Try.func38 Try.ntmps38 (((St.init w).share (e := .ro a.gA 4 q.gs.length (encPt q.gs)) hg rfl rfl rfl).share (e := .ro a.fA 2 q.fs.length (encF q.fs)) hf rfl rfl rfl) (h := fun F => ?_)⟩
  refine sq (h := ?_)
  refine rg (h := ?_)
  refine bxA (h := fun b0 => ?_)
  refine WL.y (hy := asg) (h := ?_)
  refine nl (h := ?_)
  refine q_seq (h := ?_)
  refine sq (h := ?_)
  refine sq (h := ?_)
  refine rg (h := ?_)
  refine WL.y (hy := asg) (h := ?_)
  refine nl (h := ?_)
  refine q_seq (h := ?_)
  refine bk (h := ?_)
  refine lp (X := IZ) (I := fun z => z.k ≤ q.gs.length ∧ ∀ j, j < z.k → pAt q.gs (fun g => decide (g.id = id)) j = false) (le := fun z => [(1, .int .i64 id), (2, .pointer (some ⟨b0, 0, none⟩)), (5, .int .i64 z.k)]) (Le := fun _ => quL q a b0) (μ := fun z => q.gs.length - z.k) ⟨0⟩ ⟨Nat.zero_le _, fun j hj => by cases hj⟩ (by repeat (first | exact trivial | refine ⟨rfl, ?_⟩)) (by repeat (first | exact SubL.nil | (apply SubL.cons; (repeat (first | exact At.here | apply At.there))) | exact SubL.refl _ | apply SubL.skip)) (fun z hz => ?_)
  obtain ⟨hz1, hz2⟩ := hz
  refine sq (h := ?_)
  refine sq (h := ?_)
  refine rg (h := ?_)
  refine WL.y (hy := mv) (h := ?_)
  refine WL.y (hy := (by first | exact fa | exact faE)) (h := ?_)
  refine WL.y (hy := (by first | exact ld | exact ldE)) (h := ?_)
  refine WL.y (hy := lenS) (h := ?_)
  refine WL.y (hy := lss) (h := ?_)
  refine nl (h := ?_)
  refine q_seq (h := ?_)
  refine cd (by exact rfl) (fun h0 => ?_) (fun h0 => ?_)
  · skip
    have hkn : z.k < q.gs.length := by simp only [decide_eq_true_eq] at h0; omega
    obtain ⟨g, hg1⟩ : ∃ g, q.gs[z.k]? = some g := ⟨_, List.getElem?_eq_getElem hkn⟩
    have hge := encPt_at hg1
    refine skp (h := ?_)
    refine q_seq (h := ?_)
    refine sq (h := ?_)
    refine bk (h := ?_)
    refine sq (h := ?_)
    refine rg (h := ?_)
    refine WL.y (hy := (by first | exact fa | exact faE)) (h := ?_)
    refine WL.y (hy := (by first | exact ld | exact ldE)) (h := ?_)
    refine WL.y (hy := mv) (h := ?_)
    refine WL.y (hy := ix (A := a.gA)) (h := ?_)
    refine WL.y (hy := (by first | exact fa | exact faE)) (h := ?_)
    refine WL.y (hy := ldE (A := a.gA) (hk := hge)) (h := ?_)
    refine WL.y (hy := mv) (h := ?_)
    refine WL.y (hy := eql) (h := ?_)
    refine nl (h := ?_)
    refine q_seq (h := ?_)
    refine cd (by exact rfl) (fun h1 => ?_) (fun h1 => ?_)
    · skip
      have hE : grpI q.gs id = z.k := (idxF_spec _ _).uniq (.inl ⟨z.k, hkn, rfl, by rw [pAt_eq hg1]; exact h1, hz2⟩)
      refine sq (h := ?_)
      refine rg (h := ?_)
      refine WL.y (hy := mv) (h := ?_)
      refine WL.y (hy := asg) (h := ?_)
      refine nl (h := ?_)
      refine q_seq (h := ?_)
      refine rtn (h := ?_)
      refine q_blk_ret (h := ?_)
      refine q_then_ret (h := ?_)
      refine q_then_ret (h := ?_)
      refine q_blk_ret (h := ?_)
      refine q_then_ret (h := ?_)
      refine q_ret (hR := ?_)
      rw [hE]
      exact fun w hS => ⟨rfl, hS.sub (by repeat (first | exact SubL.nil | (apply SubL.cons; (repeat (first | exact At.here | apply At.there))) | exact SubL.refl _ | apply SubL.skip))⟩
    · skip
      have hno : pAt q.gs (fun g => decide (g.id = id)) z.k = false := by rw [pAt_eq hg1]; exact h1
      refine skp (h := ?_)
      refine q_blk_norm (h := ?_)
      refine q_seq (h := ?_)
      refine rg (h := ?_)
      refine WL.y (hy := mv) (h := ?_)
      refine WL.y (hy := addI) (h := ?_)
      refine WL.y (hy := asg) (h := ?_)
      refine nl (h := ?_)
      refine rn (x := z) ⟨z.k + 1⟩ ⟨by dsimp only; omega, fun j hj => by
        rcases Nat.lt_succ_iff_lt_or_eq.1 hj with h | rfl
        · exact hz2 j h
        · exact hno⟩ (by dsimp only; omega) (by repeat (first | exact trivial | refine ⟨rfl, ?_⟩)) (by repeat (first | exact SubL.nil | (apply SubL.cons; (repeat (first | exact At.here | apply At.there))) | exact SubL.refl _ | apply SubL.skip))
  · skip
    have hkn : z.k = q.gs.length := by simp only [decide_eq_false_iff_not] at h0; omega
    have hE : grpI q.gs id = -1 := (idxF_spec _ _).uniq (.inr ⟨rfl, by rw [← hkn]; exact hz2⟩)
    refine et (h := ?_)
    refine q_then_exit (h := ?_)
    refine q_then_exit (h := ?_)
    refine q_blk_hit (h := ?_)
    refine q_seq (h := ?_)
    refine sq (h := ?_)
    refine rg (h := ?_)
    refine WL.y (hy := asg) (h := ?_)
    refine nl (h := ?_)
    refine q_seq (h := ?_)
    refine rtn (h := ?_)
    refine q_ret (hR := ?_)
    rw [hE]
    exact fun w hS => ⟨rfl, hS.sub (by repeat (first | exact SubL.nil | (apply SubL.cons; (repeat (first | exact At.here | apply At.there))) | exact SubL.refl _ | apply SubL.skip))⟩
theorem in_len {q : Qu} (hq : q.Ok) (k : Nat) {i : Int} (hi : 0 ≤ i ∧ i < q.gs.length) : (runV q (q.lo + k) 0)[i.toNat]? = some (inI q 0 k i) := by
  have hrl := runV_len hq (rate := q.lo + k) (more := 0) (by omega)
  unfold inI
  rw [List.getD_eq_getElem?_getD, List.getElem?_eq_getElem (by omega)]; rfl
structure SuZ where
  (k : Nat) (s : Int × Int)
set_option maxHeartbeats 2000000 in
theorem C_ref11_sure (q : Qu) (a : QA) (i : Int) (hq : q.Ok) (hi : 0 ≤ i ∧ i < q.gs.length) (w : World) (h : QRd w q a) :
    CR Try.prog 39 [q.val a, .int .i64 i] w (fun x : Int × Int => ∀ s, sureV q i 0 = some s → x = s) (fun x => .tuple #[.agg #[.int .i64 x.1, .int .i64 x.2], .bool (sureV q i 0).isSome]) (fun _ => []) := by
  obtain ⟨hg, hf, hgn, hfn⟩ := h
  have hqr := hq.r
  have hN : (nR q : Int) = q.hi - q.lo + 1 := by unfold nR; omega
  refine ⟨en Try.func39 Try.ntmps39 (((St.init w).share (e := .ro a.gA 4 q.gs.length (encPt q.gs)) hg rfl rfl rfl).share (e := .ro a.fA 2 q.fs.length (encF q.fs)) hf rfl rfl rfl) (h := fun F => ?_)⟩
  refine sq (h := ?_)
  refine rg (h := ?_)
  refine bxA (h := fun b0 => ?_)
  refine al (h := fun b1 => ?_)
  refine WL.y (hy := asg) (h := ?_)
  refine nl (h := ?_)
  refine q_seq (h := ?_)
  refine sq (h := ?_)
  refine rg (h := ?_)
  refine WL.y (hy := bd) (h := ?_)
  refine al (h := fun b2 => ?_)
  first | refine stA (h := ?_) | refine stEA (h := ?_)
  refine nl (h := ?_)
  refine q_seq (h := ?_)
  refine sq (h := ?_)
  refine sq (h := ?_)
  refine rg (h := ?_)
  refine WL.y (hy := (by first | exact fa | exact faE)) (h := ?_)
  refine WL.y (hy := (by first | exact fa | exact faE)) (h := ?_)
  refine WL.y (hy := (by first | exact ld | exact ldE)) (h := ?_)
  refine WL.y (hy := asg) (h := ?_)
  refine nl (h := ?_)
  refine q_seq (h := ?_)
  refine bk (h := ?_)
  refine lp (X := SuZ) (I := fun z => z.k ≤ nR q ∧ sureTo q i 0 z.k = some z.s ∧ (0 < z.k → 0 ≤ z.s.2)) (le := fun z => [(1, .int .i64 i), (2, .pointer (some ⟨b0, 0, none⟩)), (4, .pointer (some ⟨b1, 0, none⟩)), (6, .pointer (some ⟨b2, 0, none⟩)), (7, .int .i64 (q.lo + z.k))]) (Le := fun z => .blk b1 23 [.int .i64 0, .int .i64 0] :: .blk b2 23 [.int .i64 z.s.1, .int .i64 (max 0 z.s.2)] :: quL q a b0) (μ := fun z => nR q - z.k) ⟨0, (1440, -1)⟩ ⟨Nat.zero_le _, rfl, fun h => by cases h⟩ (by repeat (first | exact trivial | refine ⟨rfl, ?_⟩ | refine ⟨by show some (Value.int .i64 q.lo) = some (Value.int .i64 (q.lo + ((0 : Nat) : Int))); congr 2; omega, ?_⟩)) (by repeat (first | exact SubL.nil | (apply SubL.cons; (repeat (first | exact At.here | apply At.there))) | exact SubL.refl _ | apply SubL.skip)) (fun z hz => ?_)
  obtain ⟨hz1, hz2, hz3⟩ := hz
  refine sq (h := ?_)
  refine sq (h := ?_)
  refine rg (h := ?_)
  refine WL.y (hy := mv) (h := ?_)
  refine WL.y (hy := (by first | exact fa | exact faE)) (h := ?_)
  refine WL.y (hy := (by first | exact fa | exact faE)) (h := ?_)
  refine WL.y (hy := (by first | exact ld | exact ldE)) (h := ?_)
  refine WL.y (hy := leq) (h := ?_)
  refine nl (h := ?_)
  refine q_seq (h := ?_)
  refine cd (by exact rfl) (fun h0 => ?_) (fun h0 => ?_)
  · skip
    have hkn : z.k < nR q := by simp only [decide_eq_true_eq] at h0; omega
    have hxe := enI_at (in_len hq z.k hi)
    refine skp (h := ?_)
    refine q_seq (h := ?_)
    refine sq (h := ?_)
    refine bk (h := ?_)
    refine sq (h := ?_)
    refine rg (h := ?_)
    refine WL.y (hy := (by first | exact ldA | exact ldEA)) (h := ?_)
    refine WL.y (hy := mv) (h := ?_)
    refine cl (hc := fun w hS => C_ref11_enter q a (q.lo + z.k) hq (by omega) w ⟨hS.get, hS.get, hgn, hfn⟩) (h := fun x0 _ => ?_)
    refine WL.y (hy := mv) (h := ?_)
    refine WL.y (hy := ix (A := x0.1)) (h := ?_)
    refine WL.y (hy := ldE (A := x0.1) (hk := hxe)) (h := ?_)
    refine WL.y (hy := asg) (h := ?_)
    refine nl (h := ?_)
    refine q_seq (h := ?_)
    refine sq (h := ?_)
    refine sq (h := ?_)
    refine rg (h := ?_)
    refine WL.y (hy := mv) (h := ?_)
    refine WL.y (hy := lss) (h := ?_)
    refine nl (h := ?_)
    refine q_seq (h := ?_)
    refine cd (by exact rfl) (fun h1 => ?_) (fun h1 => ?_)
    · skip
      have hV : sureV q i 0 = none := sureTo_none (j := z.k + 1) (by rw [sureTo, hz2]; simp only; rw [h1]; rfl) (by omega)
      refine sq (h := ?_)
      refine rg (h := ?_)
      refine WL.y (hy := bd) (h := ?_)
      first | refine stA (h := ?_) | refine stEA (h := ?_)
      refine WL.y (hy := asg) (h := ?_)
      refine nl (h := ?_)
      refine q_seq (h := ?_)
      refine rtn (h := ?_)
      refine q_then_ret (h := ?_)
      refine q_blk_ret (h := ?_)
      refine q_then_ret (h := ?_)
      refine q_then_ret (h := ?_)
      refine q_blk_ret (h := ?_)
      refine q_then_ret (h := ?_)
      refine q_ret (hR := ?_)
      rw [hV]
      exact fun w hS => ⟨(0, 0), (fun s hs => by cases hs), rfl, hS.sub (by repeat (first | exact SubL.nil | (apply SubL.cons; (repeat (first | exact At.here | apply At.there))) | exact SubL.refl _ | apply SubL.skip))⟩
    · skip
      have hnext : sureTo q i 0 (z.k + 1) = some (min z.s.1 (inI q 0 z.k i), max z.s.2 (inI q 0 z.k i)) := by rw [sureTo, hz2]; simp only; rw [h1]; rfl
      have hnn : 0 ≤ inI q 0 z.k i := by have := of_decide_eq_false h1; omega
      have hmx : max (max 0 z.s.2) (inI q 0 z.k i) = max 0 (max z.s.2 (inI q 0 z.k i)) := by omega
      refine skp (h := ?_)
      refine q_seq (h := ?_)
      refine rg (h := ?_)
      refine WL.y (hy := (by first | exact fa | exact faE)) (h := ?_)
      refine WL.y (hy := (by first | exact ld | exact ldE)) (h := ?_)
      refine WL.y (hy := mv) (h := ?_)
      refine WL.y (hy := minI) (h := ?_)
      refine WL.y (hy := (by first | exact fa | exact faE)) (h := ?_)
      refine WL.y (hy := (by first | exact ld | exact ldE)) (h := ?_)
      refine WL.y (hy := mv) (h := ?_)
      refine WL.y (hy := maxI) (h := ?_)
      refine WL.y (hy := bd) (h := ?_)
      first | refine stA (h := ?_) | refine stEA (h := ?_)
      refine nl (h := ?_)
      refine q_blk_norm (h := ?_)
      refine q_seq (h := ?_)
      refine rg (h := ?_)
      refine WL.y (hy := mv) (h := ?_)
      refine WL.y (hy := addI) (h := ?_)
      refine WL.y (hy := asg) (h := ?_)
      refine nl (h := ?_)
      refine rn (x := z) ⟨z.k + 1, (min z.s.1 (inI q 0 z.k i), max z.s.2 (inI q 0 z.k i))⟩ ⟨by dsimp only; omega, hnext, fun _ => by dsimp only; omega⟩ (by dsimp only; omega) (by repeat (first | exact trivial | refine ⟨rfl, ?_⟩ | refine ⟨by show some (Value.int .i64 (q.lo + (z.k : Int) + 1)) = some (Value.int .i64 (q.lo + ((z.k + 1 : Nat) : Int))); congr 2; omega, ?_⟩)) (by dsimp only; rw [← hmx]; repeat (first | exact SubL.nil | (apply SubL.cons; (repeat (first | exact At.here | apply At.there))) | exact SubL.refl _ | apply SubL.skip))
  · skip
    have hkn : z.k = nR q := by simp only [decide_eq_false_iff_not] at h0; omega
    have hV : sureV q i 0 = some z.s := by rw [sureV, ← hkn]; exact hz2
    have hp2 : 0 ≤ z.s.2 := hz3 (by omega)
    have hm2 : max 0 z.s.2 = z.s.2 := by omega
    rw [hm2]
    refine et (h := ?_)
    refine q_then_exit (h := ?_)
    refine q_then_exit (h := ?_)
    refine q_blk_hit (h := ?_)
    refine q_seq (h := ?_)
    refine sq (h := ?_)
    refine rg (h := ?_)
    refine WL.y (hy := (by first | exact ldA | exact ldEA)) (h := ?_)
    first | refine stA (h := ?_) | refine stEA (h := ?_)
    refine WL.y (hy := asg) (h := ?_)
    refine nl (h := ?_)
    refine q_seq (h := ?_)
    refine rtn (h := ?_)
    refine q_ret (hR := ?_)
    rw [hV]
    exact fun w hS => ⟨z.s, (fun s hs => by injection hs), rfl, hS.sub (by repeat (first | exact SubL.nil | (apply SubL.cons; (repeat (first | exact At.here | apply At.there))) | exact SubL.refl _ | apply SubL.skip))⟩
theorem C_ref11_Sure (q : Qu) (a : QA) (id : Int) (w : World) (h : QRd w q a) : C0 Try.prog 16 [q.val a, .int .i64 id] w (sureP q id).val := by
  obtain ⟨hg, hf, hgn, hfn⟩ := h
  have hgr := grp_rng q.gs id
  refine ⟨en Try.func16 Try.ntmps16 (((St.init w).share (e := .ro a.gA 4 q.gs.length (encPt q.gs)) hg rfl rfl rfl).share (e := .ro a.fA 2 q.fs.length (encF q.fs)) hf rfl rfl rfl) (h := fun F => ?_)⟩
  refine sq (h := ?_)
  refine rg (h := ?_)
  refine bxA (h := fun b0 => ?_)
  refine al (h := fun b1 => ?_)
  refine WL.y (hy := asg) (h := ?_)
  refine nl (h := ?_)
  refine q_seq (h := ?_)
  refine sq (h := ?_)
  refine sq (h := ?_)
  refine rg (h := ?_)
  refine WL.y (hy := (by first | exact ldA | exact ldEA)) (h := ?_)
  refine cl0 (hc := fun w hS => C_ref11_Check q a w ⟨hS.get, hS.get, hgn, hfn⟩) (h := ?_)
  refine WL.y (hy := neq) (h := ?_)
  refine nl (h := ?_)
  refine q_seq (h := ?_)
  refine cd (by exact rfl) (fun h0 => ?_) (fun h0 => ?_)
  · skip
    have hb : qOk q = false := chkQ_no h0
    have hE : sureP q id = ⟨0, 0, 110⟩ := by rw [sureP, grpE, hb]; rfl
    refine sq (h := ?_)
    refine rg (h := ?_)
    refine WL.y (hy := bd) (h := ?_)
    first | refine stA (h := ?_) | refine stEA (h := ?_)
    refine WL.y (hy := asg) (h := ?_)
    refine nl (h := ?_)
    refine q_seq (h := ?_)
    refine rtn (h := ?_)
    refine q_then_ret (h := ?_)
    refine q_ret (hR := ?_)
    rw [hE]
    exact fun w hS => ⟨rfl, hS.sub (by repeat (first | exact SubL.nil | (apply SubL.cons; (repeat (first | exact At.here | apply At.there))) | exact SubL.refl _ | apply SubL.skip))⟩
  · skip
    obtain ⟨hq, hqb⟩ := chkQ_ok h0
    refine skp (h := ?_)
    refine q_seq (h := ?_)
    refine sq (h := ?_)
    refine rg (h := ?_)
    refine WL.y (hy := (by first | exact ldA | exact ldEA)) (h := ?_)
    refine WL.y (hy := mv) (h := ?_)
    refine cl0 (hc := fun w hS => C_ref11_group q a id w ⟨hS.get, hS.get, hgn, hfn⟩) (h := ?_)
    refine WL.y (hy := asg) (h := ?_)
    refine nl (h := ?_)
    refine q_seq (h := ?_)
    refine sq (h := ?_)
    refine sq (h := ?_)
    refine rg (h := ?_)
    refine WL.y (hy := mv) (h := ?_)
    refine WL.y (hy := lss) (h := ?_)
    refine nl (h := ?_)
    refine q_seq (h := ?_)
    refine cd (by exact rfl) (fun h1 => ?_) (fun h1 => ?_)
    · skip
      have hE : sureP q id = ⟨0, 0, 1⟩ := by rw [sureP, grpE, hqb, h1]; rfl
      refine sq (h := ?_)
      refine rg (h := ?_)
      refine WL.y (hy := bd) (h := ?_)
      first | refine stA (h := ?_) | refine stEA (h := ?_)
      refine WL.y (hy := asg) (h := ?_)
      refine nl (h := ?_)
      refine q_seq (h := ?_)
      refine rtn (h := ?_)
      refine q_then_ret (h := ?_)
      refine q_ret (hR := ?_)
      rw [hE]
      exact fun w hS => ⟨rfl, hS.sub (by repeat (first | exact SubL.nil | (apply SubL.cons; (repeat (first | exact At.here | apply At.there))) | exact SubL.refl _ | apply SubL.skip))⟩
    · skip
      have hge : grpE q id = 0 := by rw [grpE, hqb, h1]; rfl
      have hlt := of_decide_eq_false h1
      refine skp (h := ?_)
      refine q_seq (h := ?_)
      refine sq (h := ?_)
      refine rg (h := ?_)
      refine WL.y (hy := (by first | exact ldA | exact ldEA)) (h := ?_)
      refine WL.y (hy := mv) (h := ?_)
      refine cl (hc := fun w hS => C_ref11_sure q a (grpI q.gs id) hq (by omega) w ⟨hS.get, hS.get, hgn, hfn⟩) (h := fun x0 hx0 => ?_)
      refine WL.y (hy := mv) (h := ?_)
      refine WL.y (hy := ex) (h := ?_)
      refine WL.y (hy := ex) (h := ?_)
      refine al (h := fun b2 => ?_)
      first | refine stA (h := ?_) | refine stEA (h := ?_)
      refine WL.y (hy := asg) (h := ?_)
      refine nl (h := ?_)
      refine q_seq (h := ?_)
      refine sq (h := ?_)
      refine sq (h := ?_)
      refine rg (h := ?_)
      refine WL.y (hy := mv) (h := ?_)
      refine WL.y (hy := notB) (h := ?_)
      refine nl (h := ?_)
      refine q_seq (h := ?_)
      refine cd (by exact rfl) (fun h2 => ?_) (fun h2 => ?_)
      · skip
        have hE : sureP q id = ⟨0, 0, 3⟩ := by
          have h' : (sureV q (grpI q.gs id) 0).isSome = false := by simpa only [Bool.not_eq_true'] using h2
          cases hs : sureV q (grpI q.gs id) 0 with
          | none => rw [sureP, hge, hs]; rfl
          | some s => rw [hs] at h'; cases h'
        refine sq (h := ?_)
        refine rg (h := ?_)
        refine WL.y (hy := bd) (h := ?_)
        first | refine stA (h := ?_) | refine stEA (h := ?_)
        refine WL.y (hy := asg) (h := ?_)
        refine nl (h := ?_)
        refine q_seq (h := ?_)
        refine rtn (h := ?_)
        refine q_then_ret (h := ?_)
        refine q_ret (hR := ?_)
        rw [hE]
        exact fun w hS => ⟨rfl, hS.sub (by repeat (first | exact SubL.nil | (apply SubL.cons; (repeat (first | exact At.here | apply At.there))) | exact SubL.refl _ | apply SubL.skip))⟩
      · skip
        have hE : sureP q id = ⟨x0.1, x0.2, 0⟩ := by
          have h' : (sureV q (grpI q.gs id) 0).isSome = true := by simpa only [Bool.not_eq_false'] using h2
          obtain ⟨s, hs⟩ := Option.isSome_iff_exists.1 h'
          rw [hx0 s hs, sureP, hge, hs]; rfl
        refine skp (h := ?_)
        refine q_seq (h := ?_)
        refine sq (h := ?_)
        refine rg (h := ?_)
        refine WL.y (hy := (by first | exact ldA | exact ldEA)) (h := ?_)
        first | refine stA (h := ?_) | refine stEA (h := ?_)
        refine WL.y (hy := asg) (h := ?_)
        refine nl (h := ?_)
        refine q_seq (h := ?_)
        refine rtn (h := ?_)
        refine q_ret (hR := ?_)
        rw [hE]
        exact fun w hS => ⟨rfl, hS.sub (by repeat (first | exact SubL.nil | (apply SubL.cons; (repeat (first | exact At.here | apply At.there))) | exact SubL.refl _ | apply SubL.skip))⟩
set_option maxHeartbeats 2000000 in
theorem C_ref11_Inside (q : Qu) (a : QA) (minute : Int) (w : World) (h : QRd w q a) : C0 Try.prog 34 [q.val a, .int .i64 minute] w (insP q minute).val := by
  obtain ⟨hg, hf, hgn, hfn⟩ := h
  refine ⟨en Try.func34 Try.ntmps34 (((St.init w).share (e := .ro a.gA 4 q.gs.length (encPt q.gs)) hg rfl rfl rfl).share (e := .ro a.fA 2 q.fs.length (encF q.fs)) hf rfl rfl rfl) (h := fun F => ?_)⟩
  refine sq (h := ?_)
  refine rg (h := ?_)
  refine bxA (h := fun b0 => ?_)
  refine al (h := fun b1 => ?_)
  refine WL.y (hy := asg) (h := ?_)
  refine nl (h := ?_)
  refine q_seq (h := ?_)
  refine sq (h := ?_)
  refine sq (h := ?_)
  refine rg (h := ?_)
  refine WL.y (hy := (by first | exact ldA | exact ldEA)) (h := ?_)
  refine cl0 (hc := fun w hS => C_ref11_Check q a w ⟨hS.get, hS.get, hgn, hfn⟩) (h := ?_)
  refine WL.y (hy := neq) (h := ?_)
  refine nl (h := ?_)
  refine q_seq (h := ?_)
  refine cd (by exact rfl) (fun h0 => ?_) (fun h0 => ?_)
  · skip
    have hb : qOk q = false := chkQ_no h0
    have hE : insP q minute = ⟨0, 0, 110⟩ := by rw [insP, hb]; rfl
    refine sq (h := ?_)
    refine rg (h := ?_)
    refine WL.y (hy := bd) (h := ?_)
    first | refine stA (h := ?_) | refine stEA (h := ?_)
    refine WL.y (hy := asg) (h := ?_)
    refine nl (h := ?_)
    refine q_seq (h := ?_)
    refine rtn (h := ?_)
    refine q_then_ret (h := ?_)
    refine q_ret (hR := ?_)
    rw [hE]
    exact fun w hS => ⟨rfl, hS.sub (by repeat (first | exact SubL.nil | (apply SubL.cons; (repeat (first | exact At.here | apply At.there))) | exact SubL.refl _ | apply SubL.skip))⟩
  · skip
    obtain ⟨hq, hqb⟩ := chkQ_ok h0
    have hqr := hq.r
    have hgl := hq.g
    have hN : (nR q : Int) = q.hi - q.lo + 1 := by unfold nR; omega
    refine skp (h := ?_)
    refine q_seq (h := ?_)
    refine sq (h := ?_)
    refine sq (h := ?_)
    refine rg (h := ?_)
    refine WL.y (hy := mv) (h := ?_)
    refine cl0 (hc := fun w hS => C_ref11_within ..) (h := ?_)
    refine WL.y (hy := notB) (h := ?_)
    refine nl (h := ?_)
    refine q_seq (h := ?_)
    refine cd (by exact rfl) (fun h1 => ?_) (fun h1 => ?_)
    · skip
      have hE : insP q minute = ⟨0, 0, 1⟩ := by
        have h' : isT minute = false := by show win minute 0 1440 = false; simpa only [Bool.not_eq_true'] using h1
        rw [insP, hqb, h']; rfl
      refine sq (h := ?_)
      refine rg (h := ?_)
      refine WL.y (hy := bd) (h := ?_)
      first | refine stA (h := ?_) | refine stEA (h := ?_)
      refine WL.y (hy := asg) (h := ?_)
      refine nl (h := ?_)
      refine q_seq (h := ?_)
      refine rtn (h := ?_)
      refine q_then_ret (h := ?_)
      refine q_ret (hR := ?_)
      rw [hE]
      exact fun w hS => ⟨rfl, hS.sub (by repeat (first | exact SubL.nil | (apply SubL.cons; (repeat (first | exact At.here | apply At.there))) | exact SubL.refl _ | apply SubL.skip))⟩
    · skip
      have hE : insP q minute = ⟨(insTo q minute (nR q)).1, (insTo q minute (nR q)).2, 0⟩ := by
        have h' : isT minute = true := by show win minute 0 1440 = true; simpa only [Bool.not_eq_false'] using h1
        rw [insP, hqb, h']; rfl
      refine skp (h := ?_)
      refine q_seq (h := ?_)
      refine sq (h := ?_)
      refine rg (h := ?_)
      refine al (h := fun b2 => ?_)
      refine nl (h := ?_)
      refine q_seq (h := ?_)
      refine sq (h := ?_)
      refine sq (h := ?_)
      refine rg (h := ?_)
      refine WL.y (hy := (by first | exact fa | exact faE)) (h := ?_)
      refine WL.y (hy := (by first | exact fa | exact faE)) (h := ?_)
      refine WL.y (hy := (by first | exact ld | exact ldE)) (h := ?_)
      refine WL.y (hy := asg) (h := ?_)
      refine nl (h := ?_)
      refine q_seq (h := ?_)
      refine bk (h := ?_)
      refine lp (X := MM0) (I := fun z => z.k ≤ nR q) (le := fun z => [(1, .int .i64 minute), (2, .pointer (some ⟨b0, 0, none⟩)), (4, .pointer (some ⟨b1, 0, none⟩)), (6, .pointer (some ⟨b2, 0, none⟩)), (7, .int .i64 (q.lo + z.k))]) (Le := fun z => .blk b1 23 [.int .i64 0, .int .i64 0] :: .blk b2 23 [.int .i64 (insTo q minute z.k).1, .int .i64 (insTo q minute z.k).2] :: quL q a b0) (μ := fun z => nR q - z.k) ⟨0⟩ (Nat.zero_le _) (by repeat (first | exact trivial | refine ⟨rfl, ?_⟩ | refine ⟨by show some (Value.int .i64 q.lo) = some (Value.int .i64 (q.lo + ((0 : Nat) : Int))); congr 2; omega, ?_⟩)) (by repeat (first | exact SubL.nil | (apply SubL.cons; (repeat (first | exact At.here | apply At.there))) | exact SubL.refl _ | apply SubL.skip)) (fun z hz => ?_)
      refine sq (h := ?_)
      refine sq (h := ?_)
      refine rg (h := ?_)
      refine WL.y (hy := mv) (h := ?_)
      refine WL.y (hy := (by first | exact fa | exact faE)) (h := ?_)
      refine WL.y (hy := (by first | exact fa | exact faE)) (h := ?_)
      refine WL.y (hy := (by first | exact ld | exact ldE)) (h := ?_)
      refine WL.y (hy := leq) (h := ?_)
      refine nl (h := ?_)
      refine q_seq (h := ?_)
      refine cd (by exact rfl) (fun h2 => ?_) (fun h2 => ?_)
      · skip
        have hkn : z.k < nR q := by simp only [decide_eq_true_eq] at h2; omega
        have hrl := runV_len hq (rate := q.lo + z.k) (more := 0) (by omega)
        refine skp (h := ?_)
        refine q_seq (h := ?_)
        refine sq (h := ?_)
        refine bk (h := ?_)
        refine sq (h := ?_)
        refine rg (h := ?_)
        refine WL.y (hy := (by first | exact ldA | exact ldEA)) (h := ?_)
        refine WL.y (hy := mv) (h := ?_)
        refine cl (hc := fun w hS => C_ref11_enter q a (q.lo + z.k) hq (by omega) w ⟨hS.get, hS.get, hgn, hfn⟩) (h := fun x0 _ => ?_)
        refine WL.y (hy := asg) (h := ?_)
        refine nl (h := ?_)
        refine q_seq (h := ?_)
        refine sq (h := ?_)
        refine rg (h := ?_)
        refine WL.y (hy := asg) (h := ?_)
        refine nl (h := ?_)
        refine q_seq (h := ?_)
        refine sq (h := ?_)
        refine sq (h := ?_)
        refine rg (h := ?_)
        refine WL.y (hy := asg) (h := ?_)
        refine nl (h := ?_)
        refine q_seq (h := ?_)
        refine bk (h := ?_)
        refine lpC (X := IZ) (I := fun y => y.k ≤ q.gs.length) (le := fun y => [(1, .int .i64 minute), (2, .pointer (some ⟨b0, 0, none⟩)), (4, .pointer (some ⟨b1, 0, none⟩)), (6, .pointer (some ⟨b2, 0, none⟩)), (7, .int .i64 (q.lo + z.k)), (8, .slice x0.1 q.gs.length x0.2), (9, .int .i64 (insNTo q.gs minute (runV q (q.lo + z.k) 0) y.k)), (10, .int .i64 y.k)]) (μ := fun y => q.gs.length - y.k) ⟨0⟩ (Nat.zero_le _) (by repeat (first | exact trivial | refine ⟨rfl, ?_⟩)) (fun y hy => ?_)
        refine sq (h := ?_)
        refine sq (h := ?_)
        refine rg (h := ?_)
        refine WL.y (hy := mv) (h := ?_)
        refine WL.y (hy := mv) (h := ?_)
        refine WL.y (hy := lenS) (h := ?_)
        refine WL.y (hy := lss) (h := ?_)
        refine nl (h := ?_)
        refine q_seq (h := ?_)
        refine cd (by exact rfl) (fun h3 => ?_) (fun h3 => ?_)
        · skip
          have hyn : y.k < q.gs.length := by simp only [decide_eq_true_eq] at h3; omega
          obtain ⟨x, hx⟩ : ∃ x, (runV q (q.lo + z.k) 0)[y.k]? = some x := ⟨_, List.getElem?_eq_getElem (by omega)⟩
          have hxe := enI_at hx
          obtain ⟨g, hg1⟩ : ∃ g, q.gs[y.k]? = some g := ⟨_, List.getElem?_eq_getElem hyn⟩
          have hge := encPt_at hg1
          have hszg : szV q.gs y.k = g.size := by rw [szV, Int.toNat_natCast, hg1]
          have hgo := pt_rng (hq.pt g (List.mem_of_getElem? hg1))
          have hnr := insNTo_rng hq minute (runV q (q.lo + z.k) 0) (by omega) y.k (by omega)
          have hns := insNTo_succ (gs := q.gs) (u := minute) hx
          refine skp (h := ?_)
          refine q_seq (h := ?_)
          refine sq (h := ?_)
          refine bk (h := ?_)
          refine sq (h := ?_)
          refine rg (h := ?_)
          refine WL.y (hy := mv) (h := ?_)
          refine WL.y (hy := mv) (h := ?_)
          refine WL.y (hy := ix (A := x0.1)) (h := ?_)
          refine WL.y (hy := ldE (A := x0.1) (hk := hxe)) (h := ?_)
          refine WL.y (hy := mv) (h := ?_)
          refine cl0 (hc := fun w hS => C_ref11_within ..) (h := ?_)
          refine nl (h := ?_)
          refine q_seq (h := ?_)
          refine cd (by exact rfl) (fun h4 => ?_) (fun h4 => ?_)
          · skip
            have hns2 : insNTo q.gs minute (runV q (q.lo + z.k) 0) (y.k + 1) = insNTo q.gs minute (runV q (q.lo + z.k) 0) y.k + g.size := by rw [hns, h4, hszg]; rfl
            refine rg (h := ?_)
            refine WL.y (hy := mv) (h := ?_)
            refine WL.y (hy := (by first | exact fa | exact faE)) (h := ?_)
            refine WL.y (hy := (by first | exact ld | exact ldE)) (h := ?_)
            refine WL.y (hy := mv) (h := ?_)
            refine WL.y (hy := ix (A := a.gA)) (h := ?_)
            refine WL.y (hy := (by first | exact fa | exact faE)) (h := ?_)
            refine WL.y (hy := ldE (A := a.gA) (hk := hge)) (h := ?_)
            refine WL.y (hy := addI) (h := ?_)
            refine WL.y (hy := asg) (h := ?_)
            refine nl (h := ?_)
            refine q_blk_norm (h := ?_)
            refine q_seq (h := ?_)
            refine rg (h := ?_)
            refine WL.y (hy := mv) (h := ?_)
            refine WL.y (hy := addI) (h := ?_)
            refine WL.y (hy := asg) (h := ?_)
            refine nl (h := ?_)
            refine rn (x := y) ⟨y.k + 1⟩ (by dsimp only; omega) (by dsimp only; omega) (by dsimp only; rw [hns2]; repeat (first | exact trivial | refine ⟨rfl, ?_⟩)) (SubL.refl _)
          · skip
            have hns2 : insNTo q.gs minute (runV q (q.lo + z.k) 0) (y.k + 1) = insNTo q.gs minute (runV q (q.lo + z.k) 0) y.k := by rw [hns, h4]; simp
            refine skp (h := ?_)
            refine q_blk_norm (h := ?_)
            refine q_seq (h := ?_)
            refine rg (h := ?_)
            refine WL.y (hy := mv) (h := ?_)
            refine WL.y (hy := addI) (h := ?_)
            refine WL.y (hy := asg) (h := ?_)
            refine nl (h := ?_)
            refine rn (x := y) ⟨y.k + 1⟩ (by dsimp only; omega) (by dsimp only; omega) (by dsimp only; rw [hns2]; repeat (first | exact trivial | refine ⟨rfl, ?_⟩)) (SubL.refl _)
        · skip
          have hyn : y.k = q.gs.length := by simp only [decide_eq_false_iff_not] at h3; omega
          have hNv : insNTo q.gs minute (runV q (q.lo + z.k) 0) y.k = insN q minute (runV q (q.lo + z.k) 0) := by rw [insN, hrl, hyn]
          rw [hNv]
          refine et (h := ?_)
          refine q_then_exit (h := ?_)
          refine q_then_exit (h := ?_)
          refine q_blk_hit (h := ?_)
          refine q_seq (h := ?_)
          refine sq (h := ?_)
          refine sq (h := ?_)
          refine rg (h := ?_)
          refine WL.y (hy := mv) (h := ?_)
          refine WL.y (hy := (by first | exact fa | exact faE)) (h := ?_)
          refine WL.y (hy := (by first | exact fa | exact faE)) (h := ?_)
          refine WL.y (hy := (by first | exact ld | exact ldE)) (h := ?_)
          refine WL.y (hy := eql) (h := ?_)
          refine nl (h := ?_)
          refine q_seq (h := ?_)
          refine cd (by exact rfl) (fun h5 => ?_) (fun h5 => ?_)
          · skip
            have hk0 : z.k = 0 := by have := of_decide_eq_true h5; omega
            have hnext : insTo q minute (z.k + 1) = (min (insN q minute (runV q (q.lo + z.k) 0)) (insN q minute (runV q (q.lo + z.k) 0)), max (insN q minute (runV q (q.lo + z.k) 0)) (insN q minute (runV q (q.lo + z.k) 0))) := by rw [insTo, decide_eq_true hk0, Int.min_self, Int.max_self]; rfl
            refine rg (h := ?_)
            refine WL.y (hy := mv) (h := ?_)
            refine WL.y (hy := mv) (h := ?_)
            refine WL.y (hy := bd) (h := ?_)
            first | refine stA (h := ?_) | refine stEA (h := ?_)
            refine nl (h := ?_)
            refine q_seq (h := ?_)
            refine rg (h := ?_)
            refine WL.y (hy := (by first | exact fa | exact faE)) (h := ?_)
            refine WL.y (hy := (by first | exact ld | exact ldE)) (h := ?_)
            refine WL.y (hy := mv) (h := ?_)
            refine WL.y (hy := minI) (h := ?_)
            refine WL.y (hy := (by first | exact fa | exact faE)) (h := ?_)
            refine WL.y (hy := (by first | exact ld | exact ldE)) (h := ?_)
            refine WL.y (hy := mv) (h := ?_)
            refine WL.y (hy := maxI) (h := ?_)
            refine WL.y (hy := bd) (h := ?_)
            first | refine stA (h := ?_) | refine stEA (h := ?_)
            refine nl (h := ?_)
            refine q_blk_norm (h := ?_)
            refine q_seq (h := ?_)
            refine rg (h := ?_)
            refine WL.y (hy := mv) (h := ?_)
            refine WL.y (hy := addI) (h := ?_)
            refine WL.y (hy := asg) (h := ?_)
            refine nl (h := ?_)
            refine rn (x := z) ⟨z.k + 1⟩ (by dsimp only; omega) (by dsimp only; omega) (by repeat (first | exact trivial | refine ⟨rfl, ?_⟩ | refine ⟨by show some (Value.int .i64 (q.lo + (z.k : Int) + 1)) = some (Value.int .i64 (q.lo + ((z.k + 1 : Nat) : Int))); congr 2; omega, ?_⟩)) (by dsimp only; rw [hnext]; repeat (first | exact SubL.nil | (apply SubL.cons; (repeat (first | exact At.here | apply At.there))) | exact SubL.refl _ | apply SubL.skip))
          · skip
            have hk0 : z.k ≠ 0 := by have := of_decide_eq_false h5; omega
            have hnext : insTo q minute (z.k + 1) = (min (insTo q minute z.k).1 (insN q minute (runV q (q.lo + z.k) 0)), max (insTo q minute z.k).2 (insN q minute (runV q (q.lo + z.k) 0))) := by rw [insTo, decide_eq_false hk0]; rfl
            refine skp (h := ?_)
            refine q_seq (h := ?_)
            refine rg (h := ?_)
            refine WL.y (hy := (by first | exact fa | exact faE)) (h := ?_)
            refine WL.y (hy := (by first | exact ld | exact ldE)) (h := ?_)
            refine WL.y (hy := mv) (h := ?_)
            refine WL.y (hy := minI) (h := ?_)
            refine WL.y (hy := (by first | exact fa | exact faE)) (h := ?_)
            refine WL.y (hy := (by first | exact ld | exact ldE)) (h := ?_)
            refine WL.y (hy := mv) (h := ?_)
            refine WL.y (hy := maxI) (h := ?_)
            refine WL.y (hy := bd) (h := ?_)
            first | refine stA (h := ?_) | refine stEA (h := ?_)
            refine nl (h := ?_)
            refine q_blk_norm (h := ?_)
            refine q_seq (h := ?_)
            refine rg (h := ?_)
            refine WL.y (hy := mv) (h := ?_)
            refine WL.y (hy := addI) (h := ?_)
            refine WL.y (hy := asg) (h := ?_)
            refine nl (h := ?_)
            refine rn (x := z) ⟨z.k + 1⟩ (by dsimp only; omega) (by dsimp only; omega) (by repeat (first | exact trivial | refine ⟨rfl, ?_⟩ | refine ⟨by show some (Value.int .i64 (q.lo + (z.k : Int) + 1)) = some (Value.int .i64 (q.lo + ((z.k + 1 : Nat) : Int))); congr 2; omega, ?_⟩)) (by dsimp only; rw [hnext]; repeat (first | exact SubL.nil | (apply SubL.cons; (repeat (first | exact At.here | apply At.there))) | exact SubL.refl _ | apply SubL.skip))
      · skip
        have hkn : z.k = nR q := by simp only [decide_eq_false_iff_not] at h2; omega
        rw [hkn]
        refine et (h := ?_)
        refine q_then_exit (h := ?_)
        refine q_then_exit (h := ?_)
        refine q_blk_hit (h := ?_)
        refine q_seq (h := ?_)
        refine sq (h := ?_)
        refine rg (h := ?_)
        refine WL.y (hy := (by first | exact ldA | exact ldEA)) (h := ?_)
        first | refine stA (h := ?_) | refine stEA (h := ?_)
        refine WL.y (hy := asg) (h := ?_)
        refine nl (h := ?_)
        refine q_seq (h := ?_)
        refine rtn (h := ?_)
        refine q_ret (hR := ?_)
        rw [hE]
        exact fun w hS => ⟨rfl, hS.sub (by repeat (first | exact SubL.nil | (apply SubL.cons; (repeat (first | exact At.here | apply At.there))) | exact SubL.refl _ | apply SubL.skip))⟩
set_option maxHeartbeats 2000000 in
theorem C_ref11_Enough (q : Qu) (a : QA) (id : Int) (hn : qOk q = true → q.gs.length ≤ 12) (w : World) (h : QRd w q a) : C0 Try.prog 18 [q.val a, .int .i64 id] w (enouP q id).val := by
  obtain ⟨hg, hf, hgn, hfn⟩ := h
  have hgr := grp_rng q.gs id
  refine ⟨en Try.func18 Try.ntmps18 (((St.init w).share (e := .ro a.gA 4 q.gs.length (encPt q.gs)) hg rfl rfl rfl).share (e := .ro a.fA 2 q.fs.length (encF q.fs)) hf rfl rfl rfl) (h := fun F => ?_)⟩
  refine sq (h := ?_)
  refine rg (h := ?_)
  refine bxA (h := fun b0 => ?_)
  refine WL.y (hy := asg) (h := ?_)
  refine WL.y (hy := asg) (h := ?_)
  refine nl (h := ?_)
  refine q_seq (h := ?_)
  refine sq (h := ?_)
  refine sq (h := ?_)
  refine rg (h := ?_)
  refine WL.y (hy := (by first | exact ldA | exact ldEA)) (h := ?_)
  refine cl0 (hc := fun w hS => C_ref11_Check q a w ⟨hS.get, hS.get, hgn, hfn⟩) (h := ?_)
  refine WL.y (hy := neq) (h := ?_)
  refine nl (h := ?_)
  refine q_seq (h := ?_)
  refine cd (by exact rfl) (fun h0 => ?_) (fun h0 => ?_)
  · skip
    have hb : qOk q = false := chkQ_no h0
    have hE : enouP q id = ⟨0, 110⟩ := by rw [enouP, grpE, hb]; rfl
    refine sq (h := ?_)
    refine rg (h := ?_)
    refine WL.y (hy := asg) (h := ?_)
    refine WL.y (hy := asg) (h := ?_)
    refine nl (h := ?_)
    refine q_seq (h := ?_)
    refine rtn (h := ?_)
    refine q_then_ret (h := ?_)
    refine q_ret (hR := ?_)
    rw [hE]
    exact fun w hS => ⟨rfl, hS.sub (by repeat (first | exact SubL.nil | (apply SubL.cons; (repeat (first | exact At.here | apply At.there))) | exact SubL.refl _ | apply SubL.skip))⟩
  · skip
    obtain ⟨hq, hqb⟩ := chkQ_ok h0
    have hqs := hq.s
    have hn12 := hn hqb
    have hpp := pplTo_rng hq q.gs.length (Nat.le_refl _)
    rw [show pplTo q.gs q.gs.length = pplV q.gs from rfl] at hpp
    refine skp (h := ?_)
    refine q_seq (h := ?_)
    refine sq (h := ?_)
    refine rg (h := ?_)
    refine WL.y (hy := (by first | exact ldA | exact ldEA)) (h := ?_)
    refine WL.y (hy := mv) (h := ?_)
    refine cl0 (hc := fun w hS => C_ref11_group q a id w ⟨hS.get, hS.get, hgn, hfn⟩) (h := ?_)
    refine WL.y (hy := asg) (h := ?_)
    refine nl (h := ?_)
    refine q_seq (h := ?_)
    refine sq (h := ?_)
    refine sq (h := ?_)
    refine rg (h := ?_)
    refine WL.y (hy := mv) (h := ?_)
    refine WL.y (hy := lss) (h := ?_)
    refine nl (h := ?_)
    refine q_seq (h := ?_)
    refine cd (by exact rfl) (fun h1 => ?_) (fun h1 => ?_)
    · skip
      have hE : enouP q id = ⟨0, 1⟩ := by rw [enouP, grpE, hqb, h1]; rfl
      refine sq (h := ?_)
      refine rg (h := ?_)
      refine WL.y (hy := asg) (h := ?_)
      refine WL.y (hy := asg) (h := ?_)
      refine nl (h := ?_)
      refine q_seq (h := ?_)
      refine rtn (h := ?_)
      refine q_then_ret (h := ?_)
      refine q_ret (hR := ?_)
      rw [hE]
      exact fun w hS => ⟨rfl, hS.sub (by repeat (first | exact SubL.nil | (apply SubL.cons; (repeat (first | exact At.here | apply At.there))) | exact SubL.refl _ | apply SubL.skip))⟩
    · skip
      have hge : grpE q id = 0 := by rw [grpE, hqb, h1]; rfl
      have hlt := of_decide_eq_false h1
      have hEn : enouP q id = bif decide (enouI q (grpI q.gs id) < 0) then ⟨0, 3⟩ else ⟨enouI q (grpI q.gs id), 0⟩ := by rw [enouP, hge]; rfl
      refine skp (h := ?_)
      refine q_seq (h := ?_)
      refine sq (h := ?_)
      refine sq (h := ?_)
      refine rg (h := ?_)
      refine WL.y (hy := asg) (h := ?_)
      refine nl (h := ?_)
      refine q_seq (h := ?_)
      refine bk (h := ?_)
      refine lp (X := IZ) (I := fun z => z.k ≤ (pplV q.gs).toNat.succ ∧ ∀ j, j < z.k → (sureV q (grpI q.gs id) (j : Int)).isSome = false) (le := fun z => [(2, .pointer (some ⟨b0, 0, none⟩)), (6, .int .i64 (grpI q.gs id)), (7, .int .i64 z.k)]) (Le := fun _ => quL q a b0) (μ := fun z => (pplV q.gs).toNat.succ - z.k) ⟨0⟩ ⟨Nat.zero_le _, fun j hj => by cases hj⟩ (by repeat (first | exact trivial | refine ⟨rfl, ?_⟩)) (by repeat (first | exact SubL.nil | (apply SubL.cons; (repeat (first | exact At.here | apply At.there))) | exact SubL.refl _ | apply SubL.skip)) (fun z hz => ?_)
      obtain ⟨hz1, hz2⟩ := hz
      refine sq (h := ?_)
      refine sq (h := ?_)
      refine rg (h := ?_)
      refine WL.y (hy := mv) (h := ?_)
      refine WL.y (hy := (by first | exact ldA | exact ldEA)) (h := ?_)
      refine cl0 (hc := fun w hS => C_ref11_People q a hq w ⟨hS.get, hS.get, hgn, hfn⟩) (h := ?_)
      refine WL.y (hy := leq) (h := ?_)
      refine WL.y (hy := mv) (h := ?_)
      apply brAnd 6 23 29 (by exact rfl)
      · intro hb2
        refine un (h := ?_)
        refine WL.y (hy := (by first | exact fa | exact faE)) (h := ?_)
        refine un (h := ?_)
        refine WL.y (hy := (by first | exact ld | exact ldE)) (h := ?_)
        refine un (h := ?_)
        refine WL.y (hy := mv) (h := ?_)
        refine un (h := ?_)
        refine WL.y (hy := addI) (h := ?_)
        refine un (h := ?_)
        refine WL.y (hy := leq) (h := ?_)
        refine WL.y (hy := (by first | exact pkT | exact pkF)) (h := ?_)
        exact mg (by repeat (first | exact trivial | refine ⟨rfl, ?_⟩ | refine ⟨by rw [hb2]; rfl, ?_⟩)) (by repeat (first | exact SubL.nil | (apply SubL.cons; (repeat (first | exact At.here | apply At.there))) | exact SubL.refl _ | apply SubL.skip))
      · intro hb2
        repeat (first | refine un (h := ?_) | refine sk (h := ?_) | refine WL.y (hy := pkF) (h := ?_) | refine WL.y (hy := pkT) (h := ?_))
        exact mg (by repeat (first | exact trivial | refine ⟨rfl, ?_⟩ | refine ⟨by rw [hb2]; rfl, ?_⟩)) (by repeat (first | exact SubL.nil | (apply SubL.cons; (repeat (first | exact At.here | apply At.there))) | exact SubL.refl _ | apply SubL.skip))
      refine nl (h := ?_)
      refine q_seq (h := ?_)
      refine cd (by exact rfl) (fun h3 => ?_) (fun h3 => ?_)
      · skip
        obtain ⟨hm1, hm2⟩ : (z.k : Int) ≤ pplV q.gs ∧ q.seats + z.k ≤ 9999 := by simpa only [Bool.and_eq_true, decide_eq_true_eq] using h3
        have hmo := more_ok hqb (n := (z.k : Int)) (by omega)
        have hmq := q_ok hmo
        refine skp (h := ?_)
        refine q_seq (h := ?_)
        refine sq (h := ?_)
        refine bk (h := ?_)
        refine sq (h := ?_)
        refine rg (h := ?_)
        refine WL.y (hy := (by first | exact ldA | exact ldEA)) (h := ?_)
        refine al (h := fun b1 => ?_)
        first | refine stA (h := ?_) | refine stEA (h := ?_)
        refine nl (h := ?_)
        refine q_seq (h := ?_)
        refine sq (h := ?_)
        refine rg (h := ?_)
        refine WL.y (hy := (by first | exact fa | exact faE)) (h := ?_)
        refine WL.y (hy := (by first | exact ld | exact ldE)) (h := ?_)
        refine WL.y (hy := mv) (h := ?_)
        refine WL.y (hy := addI) (h := ?_)
        refine WL.y (hy := (by first | exact fa | exact faE)) (h := ?_)
        first | refine st (h := ?_) | refine stE (h := ?_)
        refine nl (h := ?_)
        refine q_seq (h := ?_)
        refine sq (h := ?_)
        refine rg (h := ?_)
        refine WL.y (hy := (by first | exact ldA | exact ldEA)) (h := ?_)
        refine WL.y (hy := mv) (h := ?_)
        refine cl (hc := fun w hS => C_ref11_sure (moreQ q z.k) a (grpI q.gs id) hmq (by show 0 ≤ grpI q.gs id ∧ grpI q.gs id < q.gs.length; omega) w ⟨hS.get, hS.get, hgn, hfn⟩) (h := fun x0 hx0 => ?_)
        refine WL.y (hy := mv) (h := ?_)
        refine WL.y (hy := ex) (h := ?_)
        refine WL.y (hy := ex) (h := ?_)
        refine al (h := fun b2 => ?_)
        first | refine stA (h := ?_) | refine stEA (h := ?_)
        refine WL.y (hy := asg) (h := ?_)
        refine nl (h := ?_)
        refine q_seq (h := ?_)
        refine sq (h := ?_)
        refine rg (h := ?_)
        refine WL.y (hy := mv) (h := ?_)
        refine nl (h := ?_)
        refine q_seq (h := ?_)
        refine cd (by exact rfl) (fun h4 => ?_) (fun h4 => ?_)
        · skip
          have hI : enouI q (grpI q.gs id) = z.k := (idxF_spec _ _).uniq (.inl ⟨z.k, by omega, rfl, by show (sureV q (grpI q.gs id) (z.k : Int)).isSome = true; rw [← more_sure]; exact h4, hz2⟩)
          have hE : enouP q id = ⟨z.k, 0⟩ := by rw [hEn, hI, decide_eq_false (by omega)]; rfl
          refine sq (h := ?_)
          refine rg (h := ?_)
          refine WL.y (hy := mv) (h := ?_)
          refine WL.y (hy := asg) (h := ?_)
          refine WL.y (hy := asg) (h := ?_)
          refine nl (h := ?_)
          refine q_seq (h := ?_)
          refine rtn (h := ?_)
          refine q_blk_ret (h := ?_)
          refine q_then_ret (h := ?_)
          refine q_then_ret (h := ?_)
          refine q_blk_ret (h := ?_)
          refine q_then_ret (h := ?_)
          refine q_ret (hR := ?_)
          rw [hE]
          exact fun w hS => ⟨rfl, hS.sub (by repeat (first | exact SubL.nil | (apply SubL.cons; (repeat (first | exact At.here | apply At.there))) | exact SubL.refl _ | apply SubL.skip))⟩
        · skip
          have hno : (sureV q (grpI q.gs id) (z.k : Int)).isSome = false := by rw [← more_sure]; exact h4
          refine skp (h := ?_)
          refine q_blk_norm (h := ?_)
          refine q_seq (h := ?_)
          refine rg (h := ?_)
          refine WL.y (hy := mv) (h := ?_)
          refine WL.y (hy := addI) (h := ?_)
          refine WL.y (hy := asg) (h := ?_)
          refine nl (h := ?_)
          refine rn (x := z) ⟨z.k + 1⟩ ⟨by dsimp only; omega, fun j hj => by
            rcases Nat.lt_succ_iff_lt_or_eq.1 hj with h | rfl
            · exact hz2 j h
            · exact hno⟩ (by dsimp only; omega) (by repeat (first | exact trivial | refine ⟨rfl, ?_⟩)) (by repeat (first | exact SubL.nil | (apply SubL.cons; (repeat (first | exact At.here | apply At.there))) | exact SubL.refl _ | apply SubL.skip))
      · skip
        have hI : enouI q (grpI q.gs id) = -1 := (idxF_spec _ _).uniq (.inr ⟨rfl, fun j hj => by
          by_cases hjk : j < z.k
          · exact hz2 j hjk
          · have hnn : ¬ ((z.k : Int) ≤ pplV q.gs ∧ q.seats + z.k ≤ 9999) := by
              intro hc
              rw [decide_eq_true hc.1, decide_eq_true hc.2] at h3; cases h3
            have hsp : pplV q.gs ≤ q.seats := by omega
            have h0 := hz2 0 (by omega)
            have h1 := sure_up hq (i := grpI q.gs id) (more := 0) (d := (j : Int)) (by omega) (by omega) (by omega)
            rw [Int.zero_add] at h1
            show (sureV q (grpI q.gs id) (j : Int)).isSome = false
            rw [h1]; exact h0⟩)
        have hE : enouP q id = ⟨0, 3⟩ := by rw [hEn, hI]; rfl
        refine et (h := ?_)
        refine q_then_exit (h := ?_)
        refine q_then_exit (h := ?_)
        refine q_blk_hit (h := ?_)
        refine q_seq (h := ?_)
        refine sq (h := ?_)
        refine rg (h := ?_)
        refine WL.y (hy := asg) (h := ?_)
        refine WL.y (hy := asg) (h := ?_)
        refine nl (h := ?_)
        refine q_seq (h := ?_)
        refine rtn (h := ?_)
        refine q_ret (hR := ?_)
        rw [hE]
        exact fun w hS => ⟨rfl, hS.sub (by repeat (first | exact SubL.nil | (apply SubL.cons; (repeat (first | exact At.here | apply At.there))) | exact SubL.refl _ | apply SubL.skip))⟩
end Go.Proofs.Ytbcclgfobiholaa
