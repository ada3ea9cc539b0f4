/- Walks of score: Ways, takes, arises. -/
import Derived.Test.YtacaojifempclaaS8
namespace Go.Proofs.Ytacaojifempclaa
open Go Go.RowKit

def waysR (f : Fmt) (l : List Pr) : List Value := bif !decide (chkF f = 0) then [.int .i64 0, .int .i64 (chkF f)] else bif !brdOk ⟨l, (0, 0), (0, 0)⟩ then [.int .i64 0, .int .i64 12] else bif !(setsV f l).ok then [.int .i64 0, .int .i64 12] else bif decide (1000000000000 < (setsV f l).ord) then [.int .i64 0, .int .i64 2] else [.int .i64 (setsV f l).ord, .int .i64 0]
theorem brd_len {b : Brd} (h : brdOk b = true) : b.st.length ≤ 5 := by
  simp only [brdOk, Bool.and_eq_true, decide_eq_true_eq] at h
  omega
theorem brd_fit {b : Brd} (h : brdOk b = true) : ∀ p ∈ b.all, (0 ≤ p.1 ∧ p.1 ≤ 40) ∧ 0 ≤ p.2 ∧ p.2 ≤ 40 := fun p hp => by
  simp only [brdOk, Bool.and_eq_true, Bool.not_eq_true', List.any_eq_false] at h
  have := h.2 p hp
  have h2 : fitP p = true := by simpa using this
  simp only [fitP, Bool.and_eq_true, wi_iff] at h2
  exact h2

theorem C_score_Ways (f : Fmt) (l : List Pr) (A : Option Addr) (n c : Nat) (w : World) (h : Rd w A 2 n (encP l)) (hn : n ≤ 9223372036854775807) : C0 Try.prog 37 [f.val, .slice A n c] w (.tuple (waysR f l).toArray) := by
  have hlen : l.length = n := by have := h.len; simpa [encP] using this
  refine ⟨en Try.func37 Try.ntmps37 ((St.init w).share (e := .ro A 2 n (encP l)) h rfl rfl rfl) (h := fun F => ?_)⟩
  refine sq (h := ?_)
  refine rg (h := ?_)
  refine bxA (h := fun b0 => ?_)
  refine WL.y (hy := asg) (h := ?_)
  refine WL.y (hy := asg) (h := ?_)
  refine nl (h := ?_)
  refine q_seq (h := ?_)
  refine sq (h := ?_)
  refine sq (h := ?_)
  refine rg (h := ?_)
  refine WL.y (hy := (by first | exact ldA | exact ldEA)) (h := ?_)
  refine cl0 (hc := fun w hS => C_score_Check _ w) (h := ?_)
  refine WL.y (hy := asg) (h := ?_)
  refine nl (h := ?_)
  refine q_seq (h := ?_)
  refine sq (h := ?_)
  refine rg (h := ?_)
  refine WL.y (hy := mv) (h := ?_)
  refine WL.y (hy := neq) (h := ?_)
  refine nl (h := ?_)
  refine q_seq (h := ?_)
  refine cd (by exact rfl) (fun h0 => ?_) (fun h0 => ?_)
  · skip
    refine sq (h := ?_)
    refine rg (h := ?_)
    refine WL.y (hy := mv) (h := ?_)
    refine WL.y (hy := asg) (h := ?_)
    refine WL.y (hy := asg) (h := ?_)
    refine nl (h := ?_)
    refine q_seq (h := ?_)
    refine rtn (h := ?_)
    refine q_then_ret (h := ?_)
    refine q_ret (hR := ?_)
    exact fun w hS => ⟨cdT' (fun x : List Value => Ending.returned (Value.tuple x.toArray)) h0, hS.sub (by repeat (first | exact SubL.nil | (apply SubL.cons; (repeat (first | exact At.here | apply At.there))) | exact SubL.refl _ | apply SubL.skip))⟩
  · skip
    have hf := chkF_ok h0
    refine skp (h := ?_)
    refine q_seq (h := ?_)
    refine sq (h := ?_)
    refine rg (h := ?_)
    refine WL.y (hy := (by first | exact ldA | exact ldEA)) (h := ?_)
    refine WL.y (hy := bd) (h := ?_)
    refine al (h := fun b1 => ?_)
    first | refine stA (h := ?_) | refine stEA (h := ?_)
    refine nl (h := ?_)
    refine q_seq (h := ?_)
    refine sq (h := ?_)
    refine sq (h := ?_)
    refine rg (h := ?_)
    refine WL.y (hy := mv) (h := ?_)
    refine WL.y (hy := bd) (h := ?_)
    refine cl0 (hc := fun w hS => C_isBoard ⟨l, (0, 0), (0, 0)⟩ A n c w (hS.get (by repeat (first | exact Rds.ro | exact Rds.own | apply Rds.there))) hn) (h := ?_)
    refine WL.y (hy := notB) (h := ?_)
    refine nl (h := ?_)
    refine q_seq (h := ?_)
    refine cd (by exact rfl) (fun h1 => ?_) (fun h1 => ?_)
    · skip
      refine sq (h := ?_)
      refine rg (h := ?_)
      refine WL.y (hy := asg) (h := ?_)
      refine WL.y (hy := asg) (h := ?_)
      refine nl (h := ?_)
      refine q_seq (h := ?_)
      refine rtn (h := ?_)
      refine q_then_ret (h := ?_)
      refine q_ret (hR := ?_)
      exact fun w hS => ⟨(cdT' (fun x : List Value => Ending.returned (Value.tuple x.toArray)) h1).trans (cdF' (fun x : List Value => Ending.returned (Value.tuple x.toArray)) h0), hS.sub (by repeat (first | exact SubL.nil | (apply SubL.cons; (repeat (first | exact At.here | apply At.there))) | exact SubL.refl _ | apply SubL.skip))⟩
    · skip
      have hbl := brd_len (b := ⟨l, (0, 0), (0, 0)⟩) (by simpa using h1)
      simp only at hbl
      refine skp (h := ?_)
      refine q_seq (h := ?_)
      refine sq (h := ?_)
      refine rg (h := ?_)
      refine WL.y (hy := (by first | exact ldA | exact ldEA)) (h := ?_)
      refine WL.y (hy := mv) (h := ?_)
      refine cl0 (hc := fun w hS => C_rules_sets _ _ (by assumption) _ _ _ w (hS.get (by repeat (first | exact Rds.ro | exact Rds.own | apply Rds.there))) (by omega)) (h := ?_)
      refine WL.y (hy := mv) (h := ?_)
      refine WL.y (hy := ex) (h := ?_)
      refine WL.y (hy := ex) (h := ?_)
      refine WL.y (hy := ex) (h := ?_)
      refine al (h := fun b2 => ?_)
      first | refine stA (h := ?_) | refine stEA (h := ?_)
      refine WL.y (hy := asg) (h := ?_)
      refine WL.y (hy := asg) (h := ?_)
      refine nl (h := ?_)
      refine q_seq (h := ?_)
      refine sq (h := ?_)
      refine bk (h := ?_)
      refine sq (h := ?_)
      refine rg (h := ?_)
      refine WL.y (hy := mv) (h := ?_)
      refine WL.y (hy := notB) (h := ?_)
      refine WL.y (hy := asg) (h := ?_)
      refine nl (h := ?_)
      refine q_seq (h := ?_)
      refine cd (by exact rfl) (fun h2 => ?_) (fun h2 => ?_)
      · skip
        refine sq (h := ?_)
        refine rg (h := ?_)
        refine WL.y (hy := asg) (h := ?_)
        refine WL.y (hy := asg) (h := ?_)
        refine nl (h := ?_)
        refine q_seq (h := ?_)
        refine rtn (h := ?_)
        refine q_blk_ret (h := ?_)
        refine q_then_ret (h := ?_)
        refine q_ret (hR := ?_)
        exact fun w hS => ⟨((cdT' (fun x : List Value => Ending.returned (Value.tuple x.toArray)) h2).trans (cdF' (fun x : List Value => Ending.returned (Value.tuple x.toArray)) h1)).trans (cdF' (fun x : List Value => Ending.returned (Value.tuple x.toArray)) h0), hS.sub (by repeat (first | exact SubL.nil | (apply SubL.cons; (repeat (first | exact At.here | apply At.there))) | exact SubL.refl _ | apply SubL.skip))⟩
      · skip
        refine sq (h := ?_)
        refine rg (h := ?_)
        refine WL.y (hy := mv) (h := ?_)
        refine WL.y (hy := gtr) (h := ?_)
        refine WL.y (hy := asg) (h := ?_)
        refine nl (h := ?_)
        refine q_seq (h := ?_)
        refine cd (by exact rfl) (fun h3 => ?_) (fun h3 => ?_)
        · skip
          refine sq (h := ?_)
          refine rg (h := ?_)
          refine WL.y (hy := asg) (h := ?_)
          refine WL.y (hy := asg) (h := ?_)
          refine nl (h := ?_)
          refine q_seq (h := ?_)
          refine rtn (h := ?_)
          refine q_blk_ret (h := ?_)
          refine q_then_ret (h := ?_)
          refine q_ret (hR := ?_)
          exact fun w hS => ⟨(((cdT' (fun x : List Value => Ending.returned (Value.tuple x.toArray)) h3).trans (cdF' (fun x : List Value => Ending.returned (Value.tuple x.toArray)) h2)).trans (cdF' (fun x : List Value => Ending.returned (Value.tuple x.toArray)) h1)).trans (cdF' (fun x : List Value => Ending.returned (Value.tuple x.toArray)) h0), hS.sub (by repeat (first | exact SubL.nil | (apply SubL.cons; (repeat (first | exact At.here | apply At.there))) | exact SubL.refl _ | apply SubL.skip))⟩
        · skip
          refine skp (h := ?_)
          refine q_blk_norm (h := ?_)
          refine q_seq (h := ?_)
          refine sq (h := ?_)
          refine rg (h := ?_)
          refine WL.y (hy := mv) (h := ?_)
          refine WL.y (hy := asg) (h := ?_)
          refine WL.y (hy := asg) (h := ?_)
          refine nl (h := ?_)
          refine q_seq (h := ?_)
          refine rtn (h := ?_)
          refine q_ret (hR := ?_)
          exact fun w hS => ⟨(((cdF' (fun x : List Value => Ending.returned (Value.tuple x.toArray)) h3).trans (cdF' (fun x : List Value => Ending.returned (Value.tuple x.toArray)) h2)).trans (cdF' (fun x : List Value => Ending.returned (Value.tuple x.toArray)) h1)).trans (cdF' (fun x : List Value => Ending.returned (Value.tuple x.toArray)) h0), hS.sub (by repeat (first | exact SubL.nil | (apply SubL.cons; (repeat (first | exact At.here | apply At.there))) | exact SubL.refl _ | apply SubL.skip))⟩

/-! #### how few points a side needs to win a game -/
def takesN (f : Fmt) (s : Pr) (tie : Bool) (side : Int) : Nat → Pr → Int
  | 0, _ => 0
  | k + 1, p => bif !decide (gameV f s tie p = side) then takesN f s tie side k (addV p side) + 1 else 0
/-- How far a side is from having won. -/
def gap (p : Pr) (side : Int) : Int := bif decide (side = 0) then max (p.2 + 2) 16 - p.1 else max (p.1 + 2) 16 - p.2
def takesV (f : Fmt) (s : Pr) (tie : Bool) (p : Pr) (side : Int) : Int := takesN f s tie side (gap p side).toNat p
theorem leads_gap {p : Pr} {l b side : Int} (hl : l ≤ 15) (hb : 1 ≤ b ∧ b ≤ 2) (hs : side = 0 ∨ side = 1) (h : ¬ leadsV p l b = side) : 0 < gap p side := by
  unfold leadsV at h
  unfold gap
  rcases hs with rfl | rfl
  · simp only [decide_true, cond_true]
    by_cases h1 : l ≤ p.1 ∧ b ≤ p.1 - p.2
    · simp [h1.1, h1.2] at h
    · omega
  · rw [show decide ((1 : Int) = 0) = false from rfl]
    simp only [cond_false]
    by_cases h1 : l ≤ p.1 ∧ b ≤ p.1 - p.2
    · omega
    · by_cases h2 : l ≤ p.2 ∧ b ≤ p.2 - p.1
      · have e1 : (decide (l ≤ p.1) && decide (b ≤ p.1 - p.2)) = false := by
          rw [Bool.and_eq_false_iff, decide_eq_false_iff_not, decide_eq_false_iff_not]; omega
        simp [e1, h2.1, h2.2] at h
      · omega
theorem game_gap {f : Fmt} {s p : Pr} {tie : Bool} {side : Int} (hl : s.2 ≤ 15) (hs : side = 0 ∨ side = 1) (h : ¬ gameV f s tie p = side) : 0 < gap p side := by
  unfold gameV at h
  cases tie
  · cases hn : f.noAd
    · rw [hn] at h; exact leads_gap (l := 4) (b := 2) (by omega) (by omega) hs h
    · rw [hn] at h; exact leads_gap (l := 4) (b := 1) (by omega) (by omega) hs h
  · exact leads_gap hl (by omega) hs h
theorem gap_add {p : Pr} {side : Int} (hs : side = 0 ∨ side = 1) : gap (addV p side) side = gap p side - 1 := by
  rcases hs with rfl | rfl
  · simp only [gap, addV, decide_true, cond_true]; omega
  · simp only [gap, addV, show decide ((1 : Int) = 0) = false from rfl, cond_false]; omega
theorem takesN_more {f : Fmt} {s : Pr} {tie : Bool} {side : Int} (hl : s.2 ≤ 15) (hs : side = 0 ∨ side = 1) : ∀ (k : Nat) (p : Pr), gap p side ≤ k → takesN f s tie side k p = takesV f s tie p side
  | 0, p, h => by
    rw [takesV, show (gap p side).toNat = 0 by omega]
  | k + 1, p, h => by
    unfold takesV
    cases hg : decide (gameV f s tie p = side) with
    | true =>
      rw [takesN, hg]
      cases hgn : (gap p side).toNat with
      | zero => rfl
      | succ j => rw [takesN, hg]; rfl
    | false =>
      have hgp := game_gap hl hs (by simpa using hg)
      obtain ⟨j, hj⟩ : ∃ j : Nat, (gap p side).toNat = j + 1 := ⟨(gap p side).toNat - 1, by omega⟩
      have hga := gap_add (p := p) hs
      rw [takesN, hg, hj, takesN, hg, takesN_more hl hs k _ (by omega), takesV, show (gap (addV p side) side).toNat = j by omega]
theorem takesV_done {f : Fmt} {s p : Pr} {tie : Bool} {side : Int} (h : gameV f s tie p = side) : takesV f s tie p side = 0 := by
  unfold takesV
  cases (gap p side).toNat with
  | zero => rfl
  | succ j => rw [takesN, decide_eq_true h]; rfl
theorem takesV_step {f : Fmt} {s p : Pr} {tie : Bool} {side : Int} (hl : s.2 ≤ 15) (hs : side = 0 ∨ side = 1) (h : ¬ gameV f s tie p = side) : takesV f s tie p side = takesV f s tie (addV p side) side + 1 := by
  have hgp := game_gap hl hs h
  have hga := gap_add (p := p) hs
  obtain ⟨j, hj⟩ : ∃ j : Nat, (gap p side).toNat = j + 1 := ⟨(gap p side).toNat - 1, by omega⟩
  rw [takesV, hj, takesN, decide_eq_false h]
  simp only [Bool.not_false, cond_true]
  rw [takesN_more hl hs j _ (by omega)]
structure KZ where
  (k : Nat) (p : Pr)
theorem C_rules_takes (f : Fmt) (s : Pr) (tie : Bool) (p : Pr) (side : Int) (hl : s.2 ≤ 15) (hs : side = 0 ∨ side = 1) (hp : (0 ≤ p.1 ∧ p.1 ≤ 1000) ∧ 0 ≤ p.2 ∧ p.2 ≤ 1000) (w : World) :
    C0 Try.prog 93 [f.val, pv s, .bool tie, pv p, .int .i64 side] w (.int .i64 (takesV f s tie p side)) := by
  have hgb : gap p side ≤ 2000 := by unfold gap; rcases hs with rfl | rfl <;> simp <;> omega
  refine ⟨en Try.func93 Try.ntmps93 (St.init w) (h := fun F => ?_)⟩
  refine sq (h := ?_)
  refine rg (h := ?_)
  refine bxA (h := fun b0 => ?_)
  refine bxA (h := fun b1 => ?_)
  refine bxA (h := fun b2 => ?_)
  refine WL.y (hy := asg) (h := ?_)
  refine nl (h := ?_)
  refine q_seq (h := ?_)
  refine sq (h := ?_)
  refine rg (h := ?_)
  refine WL.y (hy := asg) (h := ?_)
  refine nl (h := ?_)
  refine q_seq (h := ?_)
  refine sq (h := ?_)
  refine bk (h := ?_)
  refine lp (X := KZ) (I := fun z => (z.k : Int) + gap z.p side = gap p side ∧ (z.k : Int) ≤ 2016 ∧ ((0 ≤ z.p.1 ∧ z.p.1 ≤ 1000 + (z.k : Int)) ∧ 0 ≤ z.p.2 ∧ z.p.2 ≤ 1000 + (z.k : Int)) ∧ takesV f s tie p side = z.k + takesV f s tie z.p side) (le := fun z => [(2, .bool tie), (4, .int .i64 side), (5, .pointer (some ⟨b0, 0, none⟩)), (6, .pointer (some ⟨b1, 0, none⟩)), (8, .pointer (some ⟨b2, 0, none⟩)), (11, .int .i64 z.k)]) (Le := fun z => [.blk b0 80 f.cells, .blk b1 137 [.int .i64 s.1, .int .i64 s.2], .blk b2 26 [.int .i64 z.p.1, .int .i64 z.p.2]]) (μ := fun z => (gap z.p side).toNat) ⟨0, p⟩ ⟨by dsimp only; omega, by dsimp only; omega, by dsimp only; omega, by dsimp only; omega⟩ (by repeat (first | exact trivial | refine ⟨rfl, ?_⟩)) (by repeat (first | exact SubL.nil | (apply SubL.cons; (repeat (first | exact At.here | apply At.there))) | exact SubL.refl _ | apply SubL.skip)) (fun z hz => ?_)
  obtain ⟨hzg, hzk, hzp, hzt⟩ := hz
  have hSz : Sm z.p := sm_of hzp (by omega)
  refine sq (h := ?_)
  refine sq (h := ?_)
  refine rg (h := ?_)
  refine WL.y (hy := (by first | exact ldA | exact ldEA)) (h := ?_)
  refine WL.y (hy := (by first | exact ldA | exact ldEA)) (h := ?_)
  refine WL.y (hy := mv) (h := ?_)
  refine WL.y (hy := (by first | exact ldA | exact ldEA)) (h := ?_)
  refine cl0 (hc := fun w hS => C_rules_game f s tie z.p hSz w) (h := ?_)
  refine WL.y (hy := mv) (h := ?_)
  refine WL.y (hy := neq) (h := ?_)
  refine nl (h := ?_)
  refine q_seq (h := ?_)
  refine cd (by exact rfl) (fun h0 => ?_) (fun h0 => ?_)
  · skip
    have hne : ¬ gameV f s tie z.p = side := by simpa using h0
    have hgp := game_gap hl hs hne
    have hga := gap_add (p := z.p) hs
    have htk := takesV_step hl hs hne
    refine skp (h := ?_)
    refine q_seq (h := ?_)
    refine sq (h := ?_)
    refine bk (h := ?_)
    refine rg (h := ?_)
    refine WL.y (hy := (by first | exact ldA | exact ldEA)) (h := ?_)
    refine WL.y (hy := mv) (h := ?_)
    refine cl0 (hc := fun w hS => C_score_add z.p side hSz w) (h := ?_)
    first | refine stA (h := ?_) | refine stEA (h := ?_)
    refine nl (h := ?_)
    refine q_blk_norm (h := ?_)
    refine q_seq (h := ?_)
    refine rg (h := ?_)
    refine WL.y (hy := mv) (h := ?_)
    refine WL.y (hy := addI) (h := ?_)
    refine WL.y (hy := asg) (h := ?_)
    refine nl (h := ?_)
    refine rn (x := z) ⟨z.k + 1, addV z.p side⟩ ⟨by dsimp only; omega, by dsimp only; omega, by have := addV_bd (side := side) hzp; dsimp only; omega, by dsimp only; omega⟩ (by dsimp only; omega) (by repeat (first | exact trivial | refine ⟨rfl, ?_⟩)) (by repeat (first | exact SubL.nil | (apply SubL.cons; (repeat (first | exact At.here | apply At.there))) | exact SubL.refl _ | apply SubL.skip))
  · skip
    have heq : gameV f s tie z.p = side := by simpa using h0
    have htk := takesV_done heq
    refine et (h := ?_)
    refine q_then_exit (h := ?_)
    refine q_then_exit (h := ?_)
    refine q_blk_hit (h := ?_)
    refine q_seq (h := ?_)
    refine sq (h := ?_)
    refine rg (h := ?_)
    refine WL.y (hy := mv) (h := ?_)
    refine WL.y (hy := asg) (h := ?_)
    refine nl (h := ?_)
    refine q_seq (h := ?_)
    refine rtn (h := ?_)
    refine q_ret (hR := ?_)
    exact fun w hS => ⟨by rw [hzt, htk, Int.add_zero]; rfl, hS.sub (by repeat (first | exact SubL.nil | (apply SubL.cons; (repeat (first | exact At.here | apply At.there))) | exact SubL.refl _ | apply SubL.skip))⟩

def mostV (f : Fmt) : Int := 2 * f.games + 4
theorem C_rules_most (f : Fmt) (hf : f.Ok) (w : World) : C0 Try.prog 47 [f.val] w (.int .i64 (mostV f)) := by
  have h1 := hf.g0
  have h2 := hf.g1
  refine ⟨en Try.func47 Try.ntmps47 (St.init w) (h := fun F => ?_)⟩
  refine sq (h := ?_)
  refine rg (h := ?_)
  refine bxA (h := fun b0 => ?_)
  refine WL.y (hy := asg) (h := ?_)
  refine nl (h := ?_)
  refine q_seq (h := ?_)
  refine sq (h := ?_)
  refine rg (h := ?_)
  refine WL.y (hy := (by first | exact fa | exact faE)) (h := ?_)
  refine WL.y (hy := (by first | exact fa | exact faE)) (h := ?_)
  refine WL.y (hy := (by first | exact ld | exact ldE)) (h := ?_)
  refine WL.y (hy := mulI) (h := ?_)
  refine WL.y (hy := addI) (h := ?_)
  refine WL.y (hy := asg) (h := ?_)
  refine nl (h := ?_)
  refine q_seq (h := ?_)
  refine rtn (h := ?_)
  refine q_ret (hR := ?_)
  exact fun w hS => ⟨rfl, hS.sub (by repeat (first | exact SubL.nil | (apply SubL.cons; (repeat (first | exact At.here | apply At.there))) | exact SubL.refl _ | apply SubL.skip))⟩
end Go.Proofs.Ytacaojifempclaa
