/- The texts of the walk, part 4. -/
import Derived.Test.YtpejgebcmhmpaaaGreatJ3
namespace Go.Proofs.YtpejgebcmhmpaaaGreat
open Go Go.RowKit

set_option maxRecDepth 100000 in
set_option maxHeartbeats 1000000 in
theorem T_next_some (f : Fmt) (hf : f.Ok) (cf : Int) (A : Option Addr) (n c : Nat) (N : List Nd) (mn : Nat → Pr) (x : Nd) (side : Int) (hs : side = 0 ∨ side = 1) (K : Int) (hK : K ≤ 10000) (hP : PoolOk f N mn K) (hx : x ∈ N) (u : Spot) (hn : nxtS f x.s side = some u) :
    Tr Tryz.prog 113 [.agg (cardC f cf A n c).toArray, bp x.b, .int .i64 side] [poolE 94 N mn none] (fun k : Nat => ∀ y ∈ N, y.b ≠ k) (fun k => bp k) (fun k => [poolE 94 (⟨k, u, some x.b, side⟩ :: N) (upN mn k ((mn x.b).1 + 1, (mn x.b).2 + 1)) none]) := by
  refine ⟨fun w0 w R hst => ?_⟩
  have hxo := hP.ok x hx
  have hB := hxo.bd hf
  have h5 := hB.len hf
  have hlo := hxo.lo
  have hhi := hxo.hi
  have hg := hB.g
  have hp := hB.p
  have hw := hB.won
  have hsum := (won_sum x.s.st).1
  have hs0 := hf.s0
  have hs1 := hf.s1
  have htop : topS x.s ≠ f.sets := fun e => by rw [nxtS, decide_eq_true e] at hn; cases hn
  have hu : stepS f x.s side = u := by rw [nxtS, decide_eq_false htop] at hn; exact Option.some.inj hn
  have hgm : Sm x.s.g := ⟨by omega, by omega⟩
  have hpm : Sm x.s.p := ⟨by omega, by omega⟩
  have hga := addV_rng side hg
  have hpa := addV_rng side hp
  have hgam : Sm (addV x.s.g side) := ⟨by omega, by omega⟩
  have hpam : Sm (addV x.s.p side) := ⟨by omega, by omega⟩
  have hl4 : x.s.st.length ≤ 4 := by
    have : max (wonV x.s.st).1 (wonV x.s.st).2 ≠ f.sets := htop
    omega
  have hle : (((x.s.st ++ [addV x.s.g side]).length : Nat) : Int) = (x.s.st.length : Int) + 1 := by rw [List.length_append]; rfl
  refine en Tryz.func113 Tryz.ntmps113 hst (h := fun F => ?_)
  refine sq (h := ?_)
  refine rg (h := ?_)
  refine bxA (h := fun b0 => ?_)
  refine WL.y (hy := asg) (h := ?_)
  refine nl (h := ?_)
  refine q_seq (h := ?_)
  refine sq (h := ?_)
  refine rg (h := ?_)
  refine WL.y (hy := mv) (h := ?_)
  refine WL.y (hy := nck) (h := ?_)
  refine WL.y (hy := (by first | exact fa | exact faE)) (h := ?_)
  refine WL.y (hy := ldQA (hy := hx)) (h := ?_)
  refine cl0 (hc := fun w hS => C_spot_won x.s h5 w) (h := ?_)
  refine al (h := fun b1 => ?_)
  first | refine stA (h := ?_) | refine stEA (h := ?_)
  refine nl (h := ?_)
  refine q_seq (h := ?_)
  refine sq (h := ?_)
  refine sq (h := ?_)
  refine rg (h := ?_)
  refine WL.y (hy := (by first | exact fa | exact faE)) (h := ?_)
  refine WL.y (hy := (by first | exact ld | exact ldE)) (h := ?_)
  refine WL.y (hy := (by first | exact fa | exact faE)) (h := ?_)
  refine WL.y (hy := (by first | exact ld | exact ldE)) (h := ?_)
  refine WL.y (hy := maxI) (h := ?_)
  refine WL.y (hy := (by first | exact fa | exact faE)) (h := ?_)
  refine WL.y (hy := (by first | exact fa | exact faE)) (h := ?_)
  refine WL.y (hy := (by first | exact fa | exact faE)) (h := ?_)
  refine WL.y (hy := (by first | exact ld | exact ldE)) (h := ?_)
  refine WL.y (hy := eql) (h := ?_)
  refine nl (h := ?_)
  refine q_seq (h := ?_)
  refine cd (by exact rfl) (fun h0 => ?_) (fun h0 => ?_)
  · skip
    exact absurd (of_decide_eq_true h0) htop
  · skip
    refine skp (h := ?_)
    refine q_seq (h := ?_)
    refine ct (X := Nat × Nat) (fun _ => True) (fun q => [(1, bp x.b), (2, .int .i64 side), (3, .pointer (some ⟨b0, 0, none⟩)), (7, .pointer (some ⟨b1, 0, none⟩)), (8, .pointer (some ⟨q.1, 0, none⟩)), (9, .pointer (some ⟨q.2, 0, none⟩))]) (fun q => .blk q.2 43 [.int .i64 f.tie, .int .i64 f.to] :: .blk q.1 77 (spotC x.s) :: .blk b1 43 [.int .i64 (wonV x.s.st).1, .int .i64 (wonV x.s.st).2] :: .blk b0 111 (cardC f cf A n c) :: poolE 94 N mn none :: R) (h1 := ?_) (h2 := ?_)
    · skip
      refine rgD (by kernel_rfl) [(1000000, poolE 94 N mn none), (1000000, .blk b0 111 (cardC f cf A n c))] (by repeat (first | exact HS.nil | (apply HS.keep; (repeat (first | exact At.here | apply At.there))) | (apply HS.ro; (repeat (first | exact Rds.ro | exact Rds.own | apply Rds.there))))) (h := ?_)
      refine tk 0 (hy := mv) (h := ?_)
      refine tk 1 (hy := nck) (h := ?_)
      refine tk 2 (hy := (by first | exact fa | exact faE)) (h := ?_)
      refine tk 3 (hy := ldQA (hy := hx)) (h := ?_)
      refine tk 4 (hy := (by first | exact fa | exact faE)) (h := ?_)
      refine tk 5 (hy := (by first | exact fa | exact faE)) (h := ?_)
      refine tk 6 (hy := (by first | exact fa | exact faE)) (h := ?_)
      refine tk 7 (hy := (by first | exact ld | exact ldE)) (h := ?_)
      refine tk 8 (hy := (by first | exact fa | exact faE)) (h := ?_)
      refine tk 9 (hy := (by first | exact fa | exact faE)) (h := ?_)
      refine tk 10 (hy := (by first | exact fa | exact faE)) (h := ?_)
      refine tk 11 (hy := (by first | exact ld | exact ldE)) (h := ?_)
      refine tk 12 (hy := bd) (h := ?_)
      refine two 13 14 (h1 := ?_) (h2 := ?_)
      · skip
        refine al (h := fun b2 => ?_)
        refine nx (h := ?_)
        refine one 14 (h := ?_)
        refine al (h := fun b3 => ?_)
        refine nx (h := ?_)
        refine one 15 (h := ?_)
        first | refine stA (h := ?_) | refine stEA (h := ?_)
        refine nx (h := ?_)
        refine one 16 (h := ?_)
        first | refine stA (h := ?_) | refine stEA (h := ?_)
        refine nx (h := ?_)
        refine dn (h := ?_)
        exact ctn (_, _) trivial (by repeat (first | exact trivial | refine ⟨rfl, ?_⟩)) (by repeat (first | exact SubL.nil | (apply SubL.cons; (repeat (first | exact At.here | apply At.there))) | exact SubL.refl _ | apply SubL.skip))
      · skip
        refine al (h := fun b4 => ?_)
        refine nx (h := ?_)
        refine one 13 (h := ?_)
        refine al (h := fun b5 => ?_)
        refine nx (h := ?_)
        refine one 15 (h := ?_)
        first | refine stA (h := ?_) | refine stEA (h := ?_)
        refine nx (h := ?_)
        refine one 16 (h := ?_)
        first | refine stA (h := ?_) | refine stEA (h := ?_)
        refine nx (h := ?_)
        refine dn (h := ?_)
        exact ctn (_, _) trivial (by repeat (first | exact trivial | refine ⟨rfl, ?_⟩)) (by repeat (first | exact SubL.nil | (apply SubL.cons; (repeat (first | exact At.here | apply At.there))) | exact SubL.refl _ | apply SubL.skip))
    rintro ⟨b2, b3⟩ -
    refine ct (X := Unit) (fun _ => True) (fun _ => [(1, bp x.b), (2, .int .i64 side), (3, .pointer (some ⟨b0, 0, none⟩)), (8, .pointer (some ⟨b2, 0, none⟩)), (9, .pointer (some ⟨b3, 0, none⟩))]) (fun _ => .blk b3 43 [.int .i64 (setV f (wonV x.s.st)).1, .int .i64 (setV f (wonV x.s.st)).2] :: .blk b2 77 (spotC x.s) :: .blk b0 111 (cardC f cf A n c) :: poolE 94 N mn none :: R) (h1 := ?_) (h2 := ?_)
    · skip
      refine sq (h := ?_)
      refine rg (h := ?_)
      refine WL.y (hy := (by first | exact fa | exact faE)) (h := ?_)
      refine WL.y (hy := (by first | exact ld | exact ldE)) (h := ?_)
      refine WL.y (hy := (by first | exact fa | exact faE)) (h := ?_)
      refine WL.y (hy := (by first | exact ld | exact ldE)) (h := ?_)
      refine WL.y (hy := eql) (h := ?_)
      refine WL.y (hy := mv) (h := ?_)
      apply brAnd 9 46 55 (by exact rfl)
      · intro hb1
        refine un (h := ?_)
        refine WL.y (hy := (by first | exact fa | exact faE)) (h := ?_)
        refine un (h := ?_)
        refine WL.y (hy := (by first | exact ld | exact ldE)) (h := ?_)
        refine un (h := ?_)
        refine WL.y (hy := (by first | exact fa | exact faE)) (h := ?_)
        refine un (h := ?_)
        refine WL.y (hy := (by first | exact fa | exact faE)) (h := ?_)
        refine un (h := ?_)
        refine WL.y (hy := (by first | exact fa | exact faE)) (h := ?_)
        refine un (h := ?_)
        refine WL.y (hy := (by first | exact ld | exact ldE)) (h := ?_)
        refine un (h := ?_)
        refine WL.y (hy := subI (hb := by omega)) (h := ?_)
        refine un (h := ?_)
        refine WL.y (hy := eql) (h := ?_)
        refine WL.y (hy := (by first | exact pkT | exact pkF)) (h := ?_)
        exact mg (by repeat (first | exact trivial | refine ⟨rfl, ?_⟩ | refine ⟨by rw [hb1]; rfl, ?_⟩)) (by repeat (first | exact SubL.nil | (apply SubL.cons; (repeat (first | exact At.here | apply At.there))) | exact SubL.refl _ | apply SubL.skip))
      · intro hb1
        repeat (first | refine un (h := ?_) | refine sk (h := ?_) | refine WL.y (hy := pkF) (h := ?_) | refine WL.y (hy := pkT) (h := ?_))
        exact mg (by repeat (first | exact trivial | refine ⟨rfl, ?_⟩ | refine ⟨by rw [hb1]; rfl, ?_⟩)) (by repeat (first | exact SubL.nil | (apply SubL.cons; (repeat (first | exact At.here | apply At.there))) | exact SubL.refl _ | apply SubL.skip))
      refine nl (h := ?_)
      refine q_seq (h := ?_)
      refine cd (by exact rfl) (fun h2 => ?_) (fun h2 => ?_)
      · skip
        have hset : setV f (wonV x.s.st) = (f.ltie, f.lto) := by
          have h' : (decide ((wonV x.s.st).1 = (wonV x.s.st).2) && decide ((wonV x.s.st).1 = f.sets - 1)) = true := h2
          rw [set_cond] at h'
          rw [setV, h']; rfl
        refine rg (h := ?_)
        refine WL.y (hy := (by first | exact fa | exact faE)) (h := ?_)
        refine WL.y (hy := (by first | exact fa | exact faE)) (h := ?_)
        refine WL.y (hy := (by first | exact fa | exact faE)) (h := ?_)
        refine WL.y (hy := (by first | exact ld | exact ldE)) (h := ?_)
        refine WL.y (hy := (by first | exact fa | exact faE)) (h := ?_)
        refine WL.y (hy := (by first | exact fa | exact faE)) (h := ?_)
        refine WL.y (hy := (by first | exact fa | exact faE)) (h := ?_)
        refine WL.y (hy := (by first | exact ld | exact ldE)) (h := ?_)
        refine WL.y (hy := bd) (h := ?_)
        first | refine stA (h := ?_) | refine stEA (h := ?_)
        refine nl (h := ?_)
        rw [hset]
        exact ctn () trivial (by repeat (first | exact trivial | refine ⟨rfl, ?_⟩)) (by repeat (first | exact SubL.nil | (apply SubL.cons; (repeat (first | exact At.here | apply At.there))) | exact SubL.refl _ | apply SubL.skip))
      · skip
        have hset : setV f (wonV x.s.st) = (f.tie, f.to) := by
          have h' : (decide ((wonV x.s.st).1 = (wonV x.s.st).2) && decide ((wonV x.s.st).1 = f.sets - 1)) = false := h2
          rw [set_cond] at h'
          rw [setV, h']; rfl
        refine skp (h := ?_)
        rw [hset]
        exact ctn () trivial (by repeat (first | exact trivial | refine ⟨rfl, ?_⟩)) (by repeat (first | exact SubL.nil | (apply SubL.cons; (repeat (first | exact At.here | apply At.there))) | exact SubL.refl _ | apply SubL.skip))
    rintro ⟨⟩ -
    refine sq (h := ?_)
    refine rg (h := ?_)
    refine WL.y (hy := (by first | exact fa | exact faE)) (h := ?_)
    refine WL.y (hy := (by first | exact ldA | exact ldEA)) (h := ?_)
    refine WL.y (hy := (by first | exact fa | exact faE)) (h := ?_)
    refine WL.y (hy := (by first | exact ld | exact ldE)) (h := ?_)
    refine WL.y (hy := (by first | exact fa | exact faE)) (h := ?_)
    refine WL.y (hy := (by first | exact ld | exact ldE)) (h := ?_)
    refine WL.y (hy := bd) (h := ?_)
    refine WL.y (hy := eqlT) (h := ?_)
    rw [pair_eq2]
    refine WL.y (hy := asg) (h := ?_)
    refine nl (h := ?_)
    refine q_seq (h := ?_)
    refine sq (h := ?_)
    refine rg (h := ?_)
    refine WL.y (hy := (by first | exact fa | exact faE)) (h := ?_)
    refine WL.y (hy := (by first | exact ldA | exact ldEA)) (h := ?_)
    refine WL.y (hy := mv) (h := ?_)
    refine cl0 (hc := fun w hS => C_card_more x.s.p side hpm w) (h := ?_)
    refine WL.y (hy := (by first | exact fa | exact faE)) (h := ?_)
    first | refine stA (h := ?_) | refine stEA (h := ?_)
    refine nl (h := ?_)
    refine q_seq (h := ?_)
    refine sq (h := ?_)
    refine rg (h := ?_)
    refine WL.y (hy := asg) (h := ?_)
    refine WL.cut (by repeat (first | exact Cut.nil | apply Cut.hit | apply Cut.miss (by exact rfl))) ?_
    refine WL.y (hy := asg) (h := ?_)
    refine WL.cut (by repeat (first | exact Cut.nil | apply Cut.hit | apply Cut.miss (by exact rfl))) ?_
    refine nl (h := ?_)
    refine q_seq (h := ?_)
    refine sq (h := ?_)
    refine bk (h := ?_)
    refine sq (h := ?_)
    refine rg (h := ?_)
    refine WL.y (hy := mv) (h := ?_)
    refine WL.y (hy := asg) (h := ?_)
    refine nl (h := ?_)
    refine q_seq (h := ?_)
    refine cd (by exact rfl) (fun h3 => ?_) (fun h3 => ?_)
    · skip
      have hT : tieS f x.s = true := h3
      have hleast : leastS f x.s = (setV f (wonV x.s.st)).2 := by rw [leastS, hT]; rfl
      have hby : byS f x.s = 2 := by rw [byS, hT]; rfl
      refine rg (h := ?_)
      refine WL.y (hy := (by first | exact fa | exact faE)) (h := ?_)
      refine WL.y (hy := (by first | exact ld | exact ldE)) (h := ?_)
      refine WL.y (hy := asg) (h := ?_)
      refine WL.cut (by repeat (first | exact Cut.nil | apply Cut.hit | apply Cut.miss (by exact rfl))) ?_
      refine nl (h := ?_)
      refine q_blk_norm (h := ?_)
      refine q_seq (h := ?_)
      refine sq (h := ?_)
      refine sq (h := ?_)
      refine rg (h := ?_)
      refine WL.y (hy := (by first | exact fa | exact faE)) (h := ?_)
      refine WL.y (hy := (by first | exact ldA | exact ldEA)) (h := ?_)
      refine WL.y (hy := mv) (h := ?_)
      refine WL.y (hy := mv) (h := ?_)
      refine WL.y (hy := mv) (h := ?_)
      refine cl0 (hc := fun w hS => C_card_leads (addV x.s.p side) side _ _ hpam w) (h := ?_)
      refine nl (h := ?_)
      refine q_seq (h := ?_)
      refine cd (by exact rfl) (fun h4 => ?_) (fun h4 => ?_)
      · skip
        have hG : gotS f x.s side = true := by rw [gotS, hleast, hby]; exact h4
        refine sq (h := ?_)
        refine rg (h := ?_)
        refine WL.y (hy := bd) (h := ?_)
        refine WL.y (hy := (by first | exact fa | exact faE)) (h := ?_)
        refine WL.y (hy := (by first | exact ldA | exact ldEA)) (h := ?_)
        refine WL.y (hy := mv) (h := ?_)
        refine cl0 (hc := fun w hS => C_card_more x.s.g side hgm w) (h := ?_)
        refine WL.y (hy := (by first | exact fa | exact faE)) (h := ?_)
        first | refine stA (h := ?_) | refine stEA (h := ?_)
        refine WL.y (hy := (by first | exact fa | exact faE)) (h := ?_)
        first | refine stA (h := ?_) | refine stEA (h := ?_)
        refine nl (h := ?_)
        refine q_seq (h := ?_)
        refine sq (h := ?_)
        refine rg (h := ?_)
        refine WL.y (hy := mv) (h := ?_)
        refine WL.y (hy := mv) (h := ?_)
        apply brOr 9 101 110 (by exact rfl)
        · intro hb5
          refine un (h := ?_)
          refine WL.y (hy := (by first | exact fa | exact faE)) (h := ?_)
          refine un (h := ?_)
          refine WL.y (hy := (by first | exact ldA | exact ldEA)) (h := ?_)
          refine un (h := ?_)
          refine WL.y (hy := mv) (h := ?_)
          refine un (h := ?_)
          refine WL.y (hy := (by first | exact fa | exact faE)) (h := ?_)
          refine un (h := ?_)
          refine WL.y (hy := (by first | exact fa | exact faE)) (h := ?_)
          refine un (h := ?_)
          refine WL.y (hy := (by first | exact fa | exact faE)) (h := ?_)
          refine un (h := ?_)
          refine WL.y (hy := (by first | exact ld | exact ldE)) (h := ?_)
          refine un (h := ?_)
          refine cl0 (hc := fun w hS => C_card_leads (addV x.s.g side) side f.games 2 hgam w) (h := ?_)
          refine WL.y (hy := (by first | exact pkT | exact pkF)) (h := ?_)
          exact mg (by repeat (first | exact trivial | refine ⟨rfl, ?_⟩ | refine ⟨by rw [hb5]; rfl, ?_⟩)) (by repeat (first | exact SubL.nil | (apply SubL.cons; (repeat (first | exact At.here | apply At.there))) | exact SubL.refl _ | apply SubL.skip))
        · intro hb5
          repeat (first | refine un (h := ?_) | refine sk (h := ?_) | refine WL.y (hy := pkF) (h := ?_) | refine WL.y (hy := pkT) (h := ?_))
          exact mg (by repeat (first | exact trivial | refine ⟨rfl, ?_⟩ | refine ⟨by rw [hb5]; rfl, ?_⟩)) (by repeat (first | exact SubL.nil | (apply SubL.cons; (repeat (first | exact At.here | apply At.there))) | exact SubL.refl _ | apply SubL.skip))
        refine nl (h := ?_)
        refine q_seq (h := ?_)
        refine cd (by exact rfl) (fun h6 => ?_) (fun h6 => ?_)
        · skip
          have hE : endS' f x.s side = true := by unfold endS'; exact h6
          obtain rfl : u = ⟨x.s.first, x.s.st ++ [addV x.s.g side], (0, 0), (0, 0)⟩ := by rw [← hu, stepS, hG, hE]; rfl
          refine sq (h := ?_)
          refine rg (h := ?_)
          refine WL.y (hy := (by first | exact fa | exact faE)) (h := ?_)
          refine WL.y (hy := (by first | exact ld | exact ldE)) (h := ?_)
          refine WL.y (hy := (by first | exact fa | exact faE)) (h := ?_)
          refine WL.y (hy := (by first | exact ldA | exact ldEA)) (h := ?_)
          refine WL.y (hy := (by first | exact fa | exact faE)) (h := ?_)
          refine WL.y (hy := ixA (hb := by omega)) (h := ?_)
          refine stP (vs := [.int .i64 (addV x.s.g side).1, .int .i64 (addV x.s.g side).2]) (h1 := by simp [Value.oneCell']) (hsz := rfl) (ho := by show 0 + 2 + ((x.s.st.length : Int)).toNat * 2 + 2 ≤ 16; omega) (h := ?_)
          refine WL.blkTo _ .here (put_sets hl4 _ (addV x.s.g side) (0, 0) (addV x.s.g side)) ?_
          refine nl (h := ?_)
          refine q_seq (h := ?_)
          refine sq (h := ?_)
          refine rg (h := ?_)
          refine WL.y (hy := bd) (h := ?_)
          refine WL.y (hy := (by first | exact fa | exact faE)) (h := ?_)
          first | refine stA (h := ?_) | refine stEA (h := ?_)
          refine nl (h := ?_)
          refine q_seq (h := ?_)
          refine rg (h := ?_)
          refine WL.y (hy := (by first | exact fa | exact faE)) (h := ?_)
          refine WL.y (hy := (by first | exact ld | exact ldE)) (h := ?_)
          refine WL.y (hy := addI) (h := ?_)
          refine WL.y (hy := (by first | exact fa | exact faE)) (h := ?_)
          first | refine st (h := ?_) | refine stE (h := ?_)
          refine nl (h := ?_)
          refine q_seq (h := ?_)
          refine sq (h := ?_)
          refine rgD (by kernel_rfl) [(1000000, poolE 94 N mn none), (1000000, .blk b2 77 _)] (by repeat (first | exact HS.nil | (apply HS.keep; (repeat (first | exact At.here | apply At.there))) | (apply HS.ro; (repeat (first | exact Rds.ro | exact Rds.own | apply Rds.there))))) (h := ?_)
          refine tk 0 (hy := (by first | exact ldA | exact ldEA)) (h := ?_)
          refine tk 1 (hy := mv) (h := ?_)
          refine tk 2 (hy := mv) (h := ?_)
          refine tk 3 (hy := mv) (h := ?_)
          refine tk 4 (hy := nck) (h := ?_)
          refine tk 5 (hy := (by first | exact fa | exact faE)) (h := ?_)
          refine tk 6 (hy := (by first | exact fa | exact faE)) (h := ?_)
          refine tk 7 (hy := ldQ (hy := hx)) (h := ?_)
          refine tk 8 (hy := addI (hb := by omega)) (h := ?_)
          refine tk 9 (hy := mv) (h := ?_)
          refine tk 10 (hy := nck) (h := ?_)
          refine tk 11 (hy := (by first | exact fa | exact faE)) (h := ?_)
          refine tk 12 (hy := (by first | exact fa | exact faE)) (h := ?_)
          refine tk 13 (hy := ldQ (hy := hx)) (h := ?_)
          refine tk 14 (hy := addI (hb := by omega)) (h := ?_)
          refine tk 15 (hy := bd) (h := ?_)
          refine tk 16 (hy := bd) (h := ?_)
          refine one 17 (h := ?_)
          refine bxA (h := fun b6 => ?_)
          refine nx (h := ?_)
          refine tk 18 (hy := asg) (h := ?_)
          refine dn (h := ?_)
          refine q_seq (h := ?_)
          refine rtn (h := ?_)
          refine q_ret (hR := ?_)
          intro w hS
          have hS2 := hS.sub (L' := .blk _ 94 _ :: poolE 94 N mn none :: R) (by repeat (first | exact SubL.nil | (apply SubL.cons; (repeat (first | exact At.here | apply At.there))) | exact SubL.refl _ | apply SubL.skip))
          first
            | exact ret_next hS2 rfl
            | exact ret_next hS2 (by rw [← hle]; rfl)
        · skip
          have hE : endS' f x.s side = false := by unfold endS'; exact h6
          obtain rfl : u = ⟨x.s.first, x.s.st, addV x.s.g side, (0, 0)⟩ := by rw [← hu, stepS, hG, hE]; rfl
          refine skp (h := ?_)
          refine q_seq (h := ?_)
          refine sq (h := ?_)
          refine rgD (by kernel_rfl) [(1000000, poolE 94 N mn none), (1000000, .blk b2 77 _)] (by repeat (first | exact HS.nil | (apply HS.keep; (repeat (first | exact At.here | apply At.there))) | (apply HS.ro; (repeat (first | exact Rds.ro | exact Rds.own | apply Rds.there))))) (h := ?_)
          refine tk 0 (hy := (by first | exact ldA | exact ldEA)) (h := ?_)
          refine tk 1 (hy := mv) (h := ?_)
          refine tk 2 (hy := mv) (h := ?_)
          refine tk 3 (hy := mv) (h := ?_)
          refine tk 4 (hy := nck) (h := ?_)
          refine tk 5 (hy := (by first | exact fa | exact faE)) (h := ?_)
          refine tk 6 (hy := (by first | exact fa | exact faE)) (h := ?_)
          refine tk 7 (hy := ldQ (hy := hx)) (h := ?_)
          refine tk 8 (hy := addI (hb := by omega)) (h := ?_)
          refine tk 9 (hy := mv) (h := ?_)
          refine tk 10 (hy := nck) (h := ?_)
          refine tk 11 (hy := (by first | exact fa | exact faE)) (h := ?_)
          refine tk 12 (hy := (by first | exact fa | exact faE)) (h := ?_)
          refine tk 13 (hy := ldQ (hy := hx)) (h := ?_)
          refine tk 14 (hy := addI (hb := by omega)) (h := ?_)
          refine tk 15 (hy := bd) (h := ?_)
          refine tk 16 (hy := bd) (h := ?_)
          refine one 17 (h := ?_)
          refine bxA (h := fun b7 => ?_)
          refine nx (h := ?_)
          refine tk 18 (hy := asg) (h := ?_)
          refine dn (h := ?_)
          refine q_seq (h := ?_)
          refine rtn (h := ?_)
          refine q_ret (hR := ?_)
          intro w hS
          have hS2 := hS.sub (L' := .blk _ 94 _ :: poolE 94 N mn none :: R) (by repeat (first | exact SubL.nil | (apply SubL.cons; (repeat (first | exact At.here | apply At.there))) | exact SubL.refl _ | apply SubL.skip))
          first
            | exact ret_next hS2 rfl
            | exact ret_next hS2 (by rw [← hle]; rfl)
      · skip
        have hG : gotS f x.s side = false := by rw [gotS, hleast, hby]; exact h4
        obtain rfl : u = ⟨x.s.first, x.s.st, x.s.g, addV x.s.p side⟩ := by rw [← hu, stepS, hG]; rfl
        refine skp (h := ?_)
        refine q_seq (h := ?_)
        refine sq (h := ?_)
        refine rgD (by kernel_rfl) [(1000000, poolE 94 N mn none), (1000000, .blk b2 77 _)] (by repeat (first | exact HS.nil | (apply HS.keep; (repeat (first | exact At.here | apply At.there))) | (apply HS.ro; (repeat (first | exact Rds.ro | exact Rds.own | apply Rds.there))))) (h := ?_)
        refine tk 0 (hy := (by first | exact ldA | exact ldEA)) (h := ?_)
        refine tk 1 (hy := mv) (h := ?_)
        refine tk 2 (hy := mv) (h := ?_)
        refine tk 3 (hy := mv) (h := ?_)
        refine tk 4 (hy := nck) (h := ?_)
        refine tk 5 (hy := (by first | exact fa | exact faE)) (h := ?_)
        refine tk 6 (hy := (by first | exact fa | exact faE)) (h := ?_)
        refine tk 7 (hy := ldQ (hy := hx)) (h := ?_)
        refine tk 8 (hy := addI (hb := by omega)) (h := ?_)
        refine tk 9 (hy := mv) (h := ?_)
        refine tk 10 (hy := nck) (h := ?_)
        refine tk 11 (hy := (by first | exact fa | exact faE)) (h := ?_)
        refine tk 12 (hy := (by first | exact fa | exact faE)) (h := ?_)
        refine tk 13 (hy := ldQ (hy := hx)) (h := ?_)
        refine tk 14 (hy := addI (hb := by omega)) (h := ?_)
        refine tk 15 (hy := bd) (h := ?_)
        refine tk 16 (hy := bd) (h := ?_)
        refine one 17 (h := ?_)
        refine bxA (h := fun b8 => ?_)
        refine nx (h := ?_)
        refine tk 18 (hy := asg) (h := ?_)
        refine dn (h := ?_)
        refine q_seq (h := ?_)
        refine rtn (h := ?_)
        refine q_ret (hR := ?_)
        intro w hS
        have hS2 := hS.sub (L' := .blk _ 94 _ :: poolE 94 N mn none :: R) (by repeat (first | exact SubL.nil | (apply SubL.cons; (repeat (first | exact At.here | apply At.there))) | exact SubL.refl _ | apply SubL.skip))
        first
          | exact ret_next hS2 rfl
          | exact ret_next hS2 (by rw [← hle]; rfl)
    · skip
      have hT : tieS f x.s = false := h3
      have hleast : leastS f x.s = 4 := by rw [leastS, hT]; rfl
      refine sq (h := ?_)
      refine rg (h := ?_)
      refine WL.y (hy := (by first | exact fa | exact faE)) (h := ?_)
      refine WL.y (hy := (by first | exact fa | exact faE)) (h := ?_)
      refine WL.y (hy := (by first | exact fa | exact faE)) (h := ?_)
      refine WL.y (hy := (by first | exact ld | exact ldE)) (h := ?_)
      refine WL.y (hy := asg) (h := ?_)
      refine nl (h := ?_)
      refine q_seq (h := ?_)
      refine cd (by exact rfl) (fun h7 => ?_) (fun h7 => ?_)
      · skip
        have hby : byS f x.s = 1 := by rw [byS, hT, h7]; rfl
        refine rg (h := ?_)
        refine WL.y (hy := asg) (h := ?_)
        refine WL.cut (by repeat (first | exact Cut.nil | apply Cut.hit | apply Cut.miss (by exact rfl))) ?_
        refine nl (h := ?_)
        refine q_blk_norm (h := ?_)
        refine q_seq (h := ?_)
        refine sq (h := ?_)
        refine sq (h := ?_)
        refine rg (h := ?_)
        refine WL.y (hy := (by first | exact fa | exact faE)) (h := ?_)
        refine WL.y (hy := (by first | exact ldA | exact ldEA)) (h := ?_)
        refine WL.y (hy := mv) (h := ?_)
        refine WL.y (hy := mv) (h := ?_)
        refine WL.y (hy := mv) (h := ?_)
        refine cl0 (hc := fun w hS => C_card_leads (addV x.s.p side) side _ _ hpam w) (h := ?_)
        refine nl (h := ?_)
        refine q_seq (h := ?_)
        refine cd (by exact rfl) (fun h8 => ?_) (fun h8 => ?_)
        · skip
          have hG : gotS f x.s side = true := by rw [gotS, hleast, hby]; exact h8
          refine sq (h := ?_)
          refine rg (h := ?_)
          refine WL.y (hy := bd) (h := ?_)
          refine WL.y (hy := (by first | exact fa | exact faE)) (h := ?_)
          refine WL.y (hy := (by first | exact ldA | exact ldEA)) (h := ?_)
          refine WL.y (hy := mv) (h := ?_)
          refine cl0 (hc := fun w hS => C_card_more x.s.g side hgm w) (h := ?_)
          refine WL.y (hy := (by first | exact fa | exact faE)) (h := ?_)
          first | refine stA (h := ?_) | refine stEA (h := ?_)
          refine WL.y (hy := (by first | exact fa | exact faE)) (h := ?_)
          first | refine stA (h := ?_) | refine stEA (h := ?_)
          refine nl (h := ?_)
          refine q_seq (h := ?_)
          refine sq (h := ?_)
          refine rg (h := ?_)
          refine WL.y (hy := mv) (h := ?_)
          refine WL.y (hy := mv) (h := ?_)
          apply brOr 9 101 110 (by exact rfl)
          · intro hb9
            refine un (h := ?_)
            refine WL.y (hy := (by first | exact fa | exact faE)) (h := ?_)
            refine un (h := ?_)
            refine WL.y (hy := (by first | exact ldA | exact ldEA)) (h := ?_)
            refine un (h := ?_)
            refine WL.y (hy := mv) (h := ?_)
            refine un (h := ?_)
            refine WL.y (hy := (by first | exact fa | exact faE)) (h := ?_)
            refine un (h := ?_)
            refine WL.y (hy := (by first | exact fa | exact faE)) (h := ?_)
            refine un (h := ?_)
            refine WL.y (hy := (by first | exact fa | exact faE)) (h := ?_)
            refine un (h := ?_)
            refine WL.y (hy := (by first | exact ld | exact ldE)) (h := ?_)
            refine un (h := ?_)
            refine cl0 (hc := fun w hS => C_card_leads (addV x.s.g side) side f.games 2 hgam w) (h := ?_)
            refine WL.y (hy := (by first | exact pkT | exact pkF)) (h := ?_)
            exact mg (by repeat (first | exact trivial | refine ⟨rfl, ?_⟩ | refine ⟨by rw [hb9]; rfl, ?_⟩)) (by repeat (first | exact SubL.nil | (apply SubL.cons; (repeat (first | exact At.here | apply At.there))) | exact SubL.refl _ | apply SubL.skip))
          · intro hb9
            repeat (first | refine un (h := ?_) | refine sk (h := ?_) | refine WL.y (hy := pkF) (h := ?_) | refine WL.y (hy := pkT) (h := ?_))
            exact mg (by repeat (first | exact trivial | refine ⟨rfl, ?_⟩ | refine ⟨by rw [hb9]; rfl, ?_⟩)) (by repeat (first | exact SubL.nil | (apply SubL.cons; (repeat (first | exact At.here | apply At.there))) | exact SubL.refl _ | apply SubL.skip))
          refine nl (h := ?_)
          refine q_seq (h := ?_)
          refine cd (by exact rfl) (fun h10 => ?_) (fun h10 => ?_)
          · skip
            have hE : endS' f x.s side = true := by unfold endS'; exact h10
            obtain rfl : u = ⟨x.s.first, x.s.st ++ [addV x.s.g side], (0, 0), (0, 0)⟩ := by rw [← hu, stepS, hG, hE]; rfl
            refine sq (h := ?_)
            refine rg (h := ?_)
            refine WL.y (hy := (by first | exact fa | exact faE)) (h := ?_)
            refine WL.y (hy := (by first | exact ld | exact ldE)) (h := ?_)
            refine WL.y (hy := (by first | exact fa | exact faE)) (h := ?_)
            refine WL.y (hy := (by first | exact ldA | exact ldEA)) (h := ?_)
            refine WL.y (hy := (by first | exact fa | exact faE)) (h := ?_)
            refine WL.y (hy := ixA (hb := by omega)) (h := ?_)
            refine stP (vs := [.int .i64 (addV x.s.g side).1, .int .i64 (addV x.s.g side).2]) (h1 := by simp [Value.oneCell']) (hsz := rfl) (ho := by show 0 + 2 + ((x.s.st.length : Int)).toNat * 2 + 2 ≤ 16; omega) (h := ?_)
            refine WL.blkTo _ .here (put_sets hl4 _ (addV x.s.g side) (0, 0) (addV x.s.g side)) ?_
            refine nl (h := ?_)
            refine q_seq (h := ?_)
            refine sq (h := ?_)
            refine rg (h := ?_)
            refine WL.y (hy := bd) (h := ?_)
            refine WL.y (hy := (by first | exact fa | exact faE)) (h := ?_)
            first | refine stA (h := ?_) | refine stEA (h := ?_)
            refine nl (h := ?_)
            refine q_seq (h := ?_)
            refine rg (h := ?_)
            refine WL.y (hy := (by first | exact fa | exact faE)) (h := ?_)
            refine WL.y (hy := (by first | exact ld | exact ldE)) (h := ?_)
            refine WL.y (hy := addI) (h := ?_)
            refine WL.y (hy := (by first | exact fa | exact faE)) (h := ?_)
            first | refine st (h := ?_) | refine stE (h := ?_)
            refine nl (h := ?_)
            refine q_seq (h := ?_)
            refine sq (h := ?_)
            refine rgD (by kernel_rfl) [(1000000, poolE 94 N mn none), (1000000, .blk b2 77 _)] (by repeat (first | exact HS.nil | (apply HS.keep; (repeat (first | exact At.here | apply At.there))) | (apply HS.ro; (repeat (first | exact Rds.ro | exact Rds.own | apply Rds.there))))) (h := ?_)
            refine tk 0 (hy := (by first | exact ldA | exact ldEA)) (h := ?_)
            refine tk 1 (hy := mv) (h := ?_)
            refine tk 2 (hy := mv) (h := ?_)
            refine tk 3 (hy := mv) (h := ?_)
            refine tk 4 (hy := nck) (h := ?_)
            refine tk 5 (hy := (by first | exact fa | exact faE)) (h := ?_)
            refine tk 6 (hy := (by first | exact fa | exact faE)) (h := ?_)
            refine tk 7 (hy := ldQ (hy := hx)) (h := ?_)
            refine tk 8 (hy := addI (hb := by omega)) (h := ?_)
            refine tk 9 (hy := mv) (h := ?_)
            refine tk 10 (hy := nck) (h := ?_)
            refine tk 11 (hy := (by first | exact fa | exact faE)) (h := ?_)
            refine tk 12 (hy := (by first | exact fa | exact faE)) (h := ?_)
            refine tk 13 (hy := ldQ (hy := hx)) (h := ?_)
            refine tk 14 (hy := addI (hb := by omega)) (h := ?_)
            refine tk 15 (hy := bd) (h := ?_)
            refine tk 16 (hy := bd) (h := ?_)
            refine one 17 (h := ?_)
            refine bxA (h := fun b9 => ?_)
            refine nx (h := ?_)
            refine tk 18 (hy := asg) (h := ?_)
            refine dn (h := ?_)
            refine q_seq (h := ?_)
            refine rtn (h := ?_)
            refine q_ret (hR := ?_)
            intro w hS
            have hS2 := hS.sub (L' := .blk _ 94 _ :: poolE 94 N mn none :: R) (by repeat (first | exact SubL.nil | (apply SubL.cons; (repeat (first | exact At.here | apply At.there))) | exact SubL.refl _ | apply SubL.skip))
            first
              | exact ret_next hS2 rfl
              | exact ret_next hS2 (by rw [← hle]; rfl)
          · skip
            have hE : endS' f x.s side = false := by unfold endS'; exact h10
            obtain rfl : u = ⟨x.s.first, x.s.st, addV x.s.g side, (0, 0)⟩ := by rw [← hu, stepS, hG, hE]; rfl
            refine skp (h := ?_)
            refine q_seq (h := ?_)
            refine sq (h := ?_)
            refine rgD (by kernel_rfl) [(1000000, poolE 94 N mn none), (1000000, .blk b2 77 _)] (by repeat (first | exact HS.nil | (apply HS.keep; (repeat (first | exact At.here | apply At.there))) | (apply HS.ro; (repeat (first | exact Rds.ro | exact Rds.own | apply Rds.there))))) (h := ?_)
            refine tk 0 (hy := (by first | exact ldA | exact ldEA)) (h := ?_)
            refine tk 1 (hy := mv) (h := ?_)
            refine tk 2 (hy := mv) (h := ?_)
            refine tk 3 (hy := mv) (h := ?_)
            refine tk 4 (hy := nck) (h := ?_)
            refine tk 5 (hy := (by first | exact fa | exact faE)) (h := ?_)
            refine tk 6 (hy := (by first | exact fa | exact faE)) (h := ?_)
            refine tk 7 (hy := ldQ (hy := hx)) (h := ?_)
            refine tk 8 (hy := addI (hb := by omega)) (h := ?_)
            refine tk 9 (hy := mv) (h := ?_)
            refine tk 10 (hy := nck) (h := ?_)
            refine tk 11 (hy := (by first | exact fa | exact faE)) (h := ?_)
            refine tk 12 (hy := (by first | exact fa | exact faE)) (h := ?_)
            refine tk 13 (hy := ldQ (hy := hx)) (h := ?_)
            refine tk 14 (hy := addI (hb := by omega)) (h := ?_)
            refine tk 15 (hy := bd) (h := ?_)
            refine tk 16 (hy := bd) (h := ?_)
            refine one 17 (h := ?_)
            refine bxA (h := fun b10 => ?_)
            refine nx (h := ?_)
            refine tk 18 (hy := asg) (h := ?_)
            refine dn (h := ?_)
            refine q_seq (h := ?_)
            refine rtn (h := ?_)
            refine q_ret (hR := ?_)
            intro w hS
            have hS2 := hS.sub (L' := .blk _ 94 _ :: poolE 94 N mn none :: R) (by repeat (first | exact SubL.nil | (apply SubL.cons; (repeat (first | exact At.here | apply At.there))) | exact SubL.refl _ | apply SubL.skip))
            first
              | exact ret_next hS2 rfl
              | exact ret_next hS2 (by rw [← hle]; rfl)
        · skip
          have hG : gotS f x.s side = false := by rw [gotS, hleast, hby]; exact h8
          obtain rfl : u = ⟨x.s.first, x.s.st, x.s.g, addV x.s.p side⟩ := by rw [← hu, stepS, hG]; rfl
          refine skp (h := ?_)
          refine q_seq (h := ?_)
          refine sq (h := ?_)
          refine rgD (by kernel_rfl) [(1000000, poolE 94 N mn none), (1000000, .blk b2 77 _)] (by repeat (first | exact HS.nil | (apply HS.keep; (repeat (first | exact At.here | apply At.there))) | (apply HS.ro; (repeat (first | exact Rds.ro | exact Rds.own | apply Rds.there))))) (h := ?_)
          refine tk 0 (hy := (by first | exact ldA | exact ldEA)) (h := ?_)
          refine tk 1 (hy := mv) (h := ?_)
          refine tk 2 (hy := mv) (h := ?_)
          refine tk 3 (hy := mv) (h := ?_)
          refine tk 4 (hy := nck) (h := ?_)
          refine tk 5 (hy := (by first | exact fa | exact faE)) (h := ?_)
          refine tk 6 (hy := (by first | exact fa | exact faE)) (h := ?_)
          refine tk 7 (hy := ldQ (hy := hx)) (h := ?_)
          refine tk 8 (hy := addI (hb := by omega)) (h := ?_)
          refine tk 9 (hy := mv) (h := ?_)
          refine tk 10 (hy := nck) (h := ?_)
          refine tk 11 (hy := (by first | exact fa | exact faE)) (h := ?_)
          refine tk 12 (hy := (by first | exact fa | exact faE)) (h := ?_)
          refine tk 13 (hy := ldQ (hy := hx)) (h := ?_)
          refine tk 14 (hy := addI (hb := by omega)) (h := ?_)
          refine tk 15 (hy := bd) (h := ?_)
          refine tk 16 (hy := bd) (h := ?_)
          refine one 17 (h := ?_)
          refine bxA (h := fun b11 => ?_)
          refine nx (h := ?_)
          refine tk 18 (hy := asg) (h := ?_)
          refine dn (h := ?_)
          refine q_seq (h := ?_)
          refine rtn (h := ?_)
          refine q_ret (hR := ?_)
          intro w hS
          have hS2 := hS.sub (L' := .blk _ 94 _ :: poolE 94 N mn none :: R) (by repeat (first | exact SubL.nil | (apply SubL.cons; (repeat (first | exact At.here | apply At.there))) | exact SubL.refl _ | apply SubL.skip))
          first
            | exact ret_next hS2 rfl
            | exact ret_next hS2 (by rw [← hle]; rfl)
      · skip
        have hby : byS f x.s = 2 := by rw [byS, hT, h7]; rfl
        refine skp (h := ?_)
        refine q_blk_norm (h := ?_)
        refine q_seq (h := ?_)
        refine sq (h := ?_)
        refine sq (h := ?_)
        refine rg (h := ?_)
        refine WL.y (hy := (by first | exact fa | exact faE)) (h := ?_)
        refine WL.y (hy := (by first | exact ldA | exact ldEA)) (h := ?_)
        refine WL.y (hy := mv) (h := ?_)
        refine WL.y (hy := mv) (h := ?_)
        refine WL.y (hy := mv) (h := ?_)
        refine cl0 (hc := fun w hS => C_card_leads (addV x.s.p side) side _ _ hpam w) (h := ?_)
        refine nl (h := ?_)
        refine q_seq (h := ?_)
        refine cd (by exact rfl) (fun h11 => ?_) (fun h11 => ?_)
        · skip
          have hG : gotS f x.s side = true := by rw [gotS, hleast, hby]; exact h11
          refine sq (h := ?_)
          refine rg (h := ?_)
          refine WL.y (hy := bd) (h := ?_)
          refine WL.y (hy := (by first | exact fa | exact faE)) (h := ?_)
          refine WL.y (hy := (by first | exact ldA | exact ldEA)) (h := ?_)
          refine WL.y (hy := mv) (h := ?_)
          refine cl0 (hc := fun w hS => C_card_more x.s.g side hgm w) (h := ?_)
          refine WL.y (hy := (by first | exact fa | exact faE)) (h := ?_)
          first | refine stA (h := ?_) | refine stEA (h := ?_)
          refine WL.y (hy := (by first | exact fa | exact faE)) (h := ?_)
          first | refine stA (h := ?_) | refine stEA (h := ?_)
          refine nl (h := ?_)
          refine q_seq (h := ?_)
          refine sq (h := ?_)
          refine rg (h := ?_)
          refine WL.y (hy := mv) (h := ?_)
          refine WL.y (hy := mv) (h := ?_)
          apply brOr 9 101 110 (by exact rfl)
          · intro hb12
            refine un (h := ?_)
            refine WL.y (hy := (by first | exact fa | exact faE)) (h := ?_)
            refine un (h := ?_)
            refine WL.y (hy := (by first | exact ldA | exact ldEA)) (h := ?_)
            refine un (h := ?_)
            refine WL.y (hy := mv) (h := ?_)
            refine un (h := ?_)
            refine WL.y (hy := (by first | exact fa | exact faE)) (h := ?_)
            refine un (h := ?_)
            refine WL.y (hy := (by first | exact fa | exact faE)) (h := ?_)
            refine un (h := ?_)
            refine WL.y (hy := (by first | exact fa | exact faE)) (h := ?_)
            refine un (h := ?_)
            refine WL.y (hy := (by first | exact ld | exact ldE)) (h := ?_)
            refine un (h := ?_)
            refine cl0 (hc := fun w hS => C_card_leads (addV x.s.g side) side f.games 2 hgam w) (h := ?_)
            refine WL.y (hy := (by first | exact pkT | exact pkF)) (h := ?_)
            exact mg (by repeat (first | exact trivial | refine ⟨rfl, ?_⟩ | refine ⟨by rw [hb12]; rfl, ?_⟩)) (by repeat (first | exact SubL.nil | (apply SubL.cons; (repeat (first | exact At.here | apply At.there))) | exact SubL.refl _ | apply SubL.skip))
          · intro hb12
            repeat (first | refine un (h := ?_) | refine sk (h := ?_) | refine WL.y (hy := pkF) (h := ?_) | refine WL.y (hy := pkT) (h := ?_))
            exact mg (by repeat (first | exact trivial | refine ⟨rfl, ?_⟩ | refine ⟨by rw [hb12]; rfl, ?_⟩)) (by repeat (first | exact SubL.nil | (apply SubL.cons; (repeat (first | exact At.here | apply At.there))) | exact SubL.refl _ | apply SubL.skip))
          refine nl (h := ?_)
          refine q_seq (h := ?_)
          refine cd (by exact rfl) (fun h13 => ?_) (fun h13 => ?_)
          · skip
            have hE : endS' f x.s side = true := by unfold endS'; exact h13
            obtain rfl : u = ⟨x.s.first, x.s.st ++ [addV x.s.g side], (0, 0), (0, 0)⟩ := by rw [← hu, stepS, hG, hE]; rfl
            refine sq (h := ?_)
            refine rg (h := ?_)
            refine WL.y (hy := (by first | exact fa | exact faE)) (h := ?_)
            refine WL.y (hy := (by first | exact ld | exact ldE)) (h := ?_)
            refine WL.y (hy := (by first | exact fa | exact faE)) (h := ?_)
            refine WL.y (hy := (by first | exact ldA | exact ldEA)) (h := ?_)
            refine WL.y (hy := (by first | exact fa | exact faE)) (h := ?_)
            refine WL.y (hy := ixA (hb := by omega)) (h := ?_)
            refine stP (vs := [.int .i64 (addV x.s.g side).1, .int .i64 (addV x.s.g side).2]) (h1 := by simp [Value.oneCell']) (hsz := rfl) (ho := by show 0 + 2 + ((x.s.st.length : Int)).toNat * 2 + 2 ≤ 16; omega) (h := ?_)
            refine WL.blkTo _ .here (put_sets hl4 _ (addV x.s.g side) (0, 0) (addV x.s.g side)) ?_
            refine nl (h := ?_)
            refine q_seq (h := ?_)
            refine sq (h := ?_)
            refine rg (h := ?_)
            refine WL.y (hy := bd) (h := ?_)
            refine WL.y (hy := (by first | exact fa | exact faE)) (h := ?_)
            first | refine stA (h := ?_) | refine stEA (h := ?_)
            refine nl (h := ?_)
            refine q_seq (h := ?_)
            refine rg (h := ?_)
            refine WL.y (hy := (by first | exact fa | exact faE)) (h := ?_)
            refine WL.y (hy := (by first | exact ld | exact ldE)) (h := ?_)
            refine WL.y (hy := addI) (h := ?_)
            refine WL.y (hy := (by first | exact fa | exact faE)) (h := ?_)
            first | refine st (h := ?_) | refine stE (h := ?_)
            refine nl (h := ?_)
            refine q_seq (h := ?_)
            refine sq (h := ?_)
            refine rgD (by kernel_rfl) [(1000000, poolE 94 N mn none), (1000000, .blk b2 77 _)] (by repeat (first | exact HS.nil | (apply HS.keep; (repeat (first | exact At.here | apply At.there))) | (apply HS.ro; (repeat (first | exact Rds.ro | exact Rds.own | apply Rds.there))))) (h := ?_)
            refine tk 0 (hy := (by first | exact ldA | exact ldEA)) (h := ?_)
            refine tk 1 (hy := mv) (h := ?_)
            refine tk 2 (hy := mv) (h := ?_)
            refine tk 3 (hy := mv) (h := ?_)
            refine tk 4 (hy := nck) (h := ?_)
            refine tk 5 (hy := (by first | exact fa | exact faE)) (h := ?_)
            refine tk 6 (hy := (by first | exact fa | exact faE)) (h := ?_)
            refine tk 7 (hy := ldQ (hy := hx)) (h := ?_)
            refine tk 8 (hy := addI (hb := by omega)) (h := ?_)
            refine tk 9 (hy := mv) (h := ?_)
            refine tk 10 (hy := nck) (h := ?_)
            refine tk 11 (hy := (by first | exact fa | exact faE)) (h := ?_)
            refine tk 12 (hy := (by first | exact fa | exact faE)) (h := ?_)
            refine tk 13 (hy := ldQ (hy := hx)) (h := ?_)
            refine tk 14 (hy := addI (hb := by omega)) (h := ?_)
            refine tk 15 (hy := bd) (h := ?_)
            refine tk 16 (hy := bd) (h := ?_)
            refine one 17 (h := ?_)
            refine bxA (h := fun b12 => ?_)
            refine nx (h := ?_)
            refine tk 18 (hy := asg) (h := ?_)
            refine dn (h := ?_)
            refine q_seq (h := ?_)
            refine rtn (h := ?_)
            refine q_ret (hR := ?_)
            intro w hS
            have hS2 := hS.sub (L' := .blk _ 94 _ :: poolE 94 N mn none :: R) (by repeat (first | exact SubL.nil | (apply SubL.cons; (repeat (first | exact At.here | apply At.there))) | exact SubL.refl _ | apply SubL.skip))
            first
              | exact ret_next hS2 rfl
              | exact ret_next hS2 (by rw [← hle]; rfl)
          · skip
            have hE : endS' f x.s side = false := by unfold endS'; exact h13
            obtain rfl : u = ⟨x.s.first, x.s.st, addV x.s.g side, (0, 0)⟩ := by rw [← hu, stepS, hG, hE]; rfl
            refine skp (h := ?_)
            refine q_seq (h := ?_)
            refine sq (h := ?_)
            refine rgD (by kernel_rfl) [(1000000, poolE 94 N mn none), (1000000, .blk b2 77 _)] (by repeat (first | exact HS.nil | (apply HS.keep; (repeat (first | exact At.here | apply At.there))) | (apply HS.ro; (repeat (first | exact Rds.ro | exact Rds.own | apply Rds.there))))) (h := ?_)
            refine tk 0 (hy := (by first | exact ldA | exact ldEA)) (h := ?_)
            refine tk 1 (hy := mv) (h := ?_)
            refine tk 2 (hy := mv) (h := ?_)
            refine tk 3 (hy := mv) (h := ?_)
            refine tk 4 (hy := nck) (h := ?_)
            refine tk 5 (hy := (by first | exact fa | exact faE)) (h := ?_)
            refine tk 6 (hy := (by first | exact fa | exact faE)) (h := ?_)
            refine tk 7 (hy := ldQ (hy := hx)) (h := ?_)
            refine tk 8 (hy := addI (hb := by omega)) (h := ?_)
            refine tk 9 (hy := mv) (h := ?_)
            refine tk 10 (hy := nck) (h := ?_)
            refine tk 11 (hy := (by first | exact fa | exact faE)) (h := ?_)
            refine tk 12 (hy := (by first | exact fa | exact faE)) (h := ?_)
            refine tk 13 (hy := ldQ (hy := hx)) (h := ?_)
            refine tk 14 (hy := addI (hb := by omega)) (h := ?_)
            refine tk 15 (hy := bd) (h := ?_)
            refine tk 16 (hy := bd) (h := ?_)
            refine one 17 (h := ?_)
            refine bxA (h := fun b13 => ?_)
            refine nx (h := ?_)
            refine tk 18 (hy := asg) (h := ?_)
            refine dn (h := ?_)
            refine q_seq (h := ?_)
            refine rtn (h := ?_)
            refine q_ret (hR := ?_)
            intro w hS
            have hS2 := hS.sub (L' := .blk _ 94 _ :: poolE 94 N mn none :: R) (by repeat (first | exact SubL.nil | (apply SubL.cons; (repeat (first | exact At.here | apply At.there))) | exact SubL.refl _ | apply SubL.skip))
            first
              | exact ret_next hS2 rfl
              | exact ret_next hS2 (by rw [← hle]; rfl)
        · skip
          have hG : gotS f x.s side = false := by rw [gotS, hleast, hby]; exact h11
          obtain rfl : u = ⟨x.s.first, x.s.st, x.s.g, addV x.s.p side⟩ := by rw [← hu, stepS, hG]; rfl
          refine skp (h := ?_)
          refine q_seq (h := ?_)
          refine sq (h := ?_)
          refine rgD (by kernel_rfl) [(1000000, poolE 94 N mn none), (1000000, .blk b2 77 _)] (by repeat (first | exact HS.nil | (apply HS.keep; (repeat (first | exact At.here | apply At.there))) | (apply HS.ro; (repeat (first | exact Rds.ro | exact Rds.own | apply Rds.there))))) (h := ?_)
          refine tk 0 (hy := (by first | exact ldA | exact ldEA)) (h := ?_)
          refine tk 1 (hy := mv) (h := ?_)
          refine tk 2 (hy := mv) (h := ?_)
          refine tk 3 (hy := mv) (h := ?_)
          refine tk 4 (hy := nck) (h := ?_)
          refine tk 5 (hy := (by first | exact fa | exact faE)) (h := ?_)
          refine tk 6 (hy := (by first | exact fa | exact faE)) (h := ?_)
          refine tk 7 (hy := ldQ (hy := hx)) (h := ?_)
          refine tk 8 (hy := addI (hb := by omega)) (h := ?_)
          refine tk 9 (hy := mv) (h := ?_)
          refine tk 10 (hy := nck) (h := ?_)
          refine tk 11 (hy := (by first | exact fa | exact faE)) (h := ?_)
          refine tk 12 (hy := (by first | exact fa | exact faE)) (h := ?_)
          refine tk 13 (hy := ldQ (hy := hx)) (h := ?_)
          refine tk 14 (hy := addI (hb := by omega)) (h := ?_)
          refine tk 15 (hy := bd) (h := ?_)
          refine tk 16 (hy := bd) (h := ?_)
          refine one 17 (h := ?_)
          refine bxA (h := fun b14 => ?_)
          refine nx (h := ?_)
          refine tk 18 (hy := asg) (h := ?_)
          refine dn (h := ?_)
          refine q_seq (h := ?_)
          refine rtn (h := ?_)
          refine q_ret (hR := ?_)
          intro w hS
          have hS2 := hS.sub (L' := .blk _ 94 _ :: poolE 94 N mn none :: R) (by repeat (first | exact SubL.nil | (apply SubL.cons; (repeat (first | exact At.here | apply At.there))) | exact SubL.refl _ | apply SubL.skip))
          first
            | exact ret_next hS2 rfl
            | exact ret_next hS2 (by rw [← hle]; rfl)
end Go.Proofs.YtpejgebcmhmpaaaGreat

namespace Go.Proofs.YtpejgebcmhmpaaaGreat
open Go Go.RowKit

structure CrIs (N ns : List Nd) (es : Array MapEntry) (c : Nat) : Prop where
  m : MapIs es (crE ns)
  s : Stm es c
  sub : ∀ y ∈ ns, y ∈ N
  keys : (spotKs ns).Nodup
theorem CrIs.nil (N : List Nd) : CrIs N [] #[] 0 := ⟨mapIs0, stm0, fun y hy => (by cases hy), List.nodup_nil⟩
theorem CrIs.up {N N' ns : List Nd} {es : Array MapEntry} {c : Nat} (h : CrIs N ns es c) (hs : ∀ y ∈ N, y ∈ N') : CrIs N' ns es c := ⟨h.m, h.s, fun y hy => hs y (h.sub y hy), h.keys⟩
theorem CrIs.put {N ns : List Nd} {es es' : Array MapEntry} {c c' : Nat} {x : Nd} (h : CrIs N ns es c) (hx : x ∈ N) (hm : MapIs es' (crE (putNs ns x)) ∧ Stm es' c') : CrIs N (putNs ns x) es' c' :=
  ⟨hm.1, hm.2, fun y hy => by rcases putNs_mem hy with h2 | h2; exact h.sub y h2; exact h2 ▸ hx, putNs_keys h.keys⟩
abbrev ndKV (x : Nd) : KV := (.agg (spotC x.s).toArray, bp x.b)
theorem cr_kv {N ns : List Nd} {es : Array MapEntry} {c : Nat} (h : CrIs N ns es c) : es.toList.map kvOf = ns.map ndKV := by
  have := h.m
  unfold MapIs at this
  rw [show es.toList.map kvOf = es.toList.map (fun e => (e.key, e.val)) from rfl, this, crE, List.map_map]
  rfl
theorem todo_nd {todo : List KV} {ts : List Nd} {o : Option KV} {todo' : List KV} (ht : todo.Perm (ts.map ndKV)) (h : NxO todo o todo') : (o = none ∧ ts = [] ∧ todo'.Perm (([] : List Nd).map ndKV)) ∨ ∃ x ts', o = some (ndKV x) ∧ ts.Perm (x :: ts') ∧ todo'.Perm (ts'.map ndKV) := by
  cases o with
  | none =>
    obtain ⟨rfl, rfl⟩ := h
    have := ht.nil_eq
    left
    refine ⟨rfl, ?_, .refl _⟩
    cases ts with
    | nil => rfl
    | cons _ _ => cases this
  | some kv =>
    right
    have hp : (kv :: todo').Perm (ts.map ndKV) := (show todo.Perm (kv :: todo') from h).symm.trans ht
    have hm : kv ∈ ts.map ndKV := hp.subset List.mem_cons_self
    obtain ⟨x, hx, rfl⟩ := List.mem_map.1 hm
    obtain ⟨l1, l2, rfl⟩ := List.append_of_mem hx
    refine ⟨x, l1 ++ l2, rfl, List.perm_middle, ?_⟩
    have : (ndKV x :: todo').Perm (ndKV x :: (l1 ++ l2).map ndKV) := hp.trans (by
      rw [List.map_append, List.map_cons, List.map_append]
      exact List.perm_middle)
    exact (List.perm_cons _).1 this

theorem T_reader_score (f : Fmt) (cf : Int) (A : Option Addr) (n c : Nat) (N : List Nd) (mn : Nat → Pr) (x : Nd) (hx : x ∈ N) (r : List Int) (hr : RowN N x r) (hrl : r.length ≤ 600) :
    Tr Tryz.prog 87 [.agg (cardC f cf A n c).toArray, bp x.b] [poolE 94 N mn none] (fun _ : Option Addr × Nat => True) (fun p => (scO (playO f x.s.first r)).val p.1 p.2) (fun p => [.own p.1 p.2 43 2 (scO (playO f x.s.first r)).st.length (encP (scO (playO f x.s.first r)).st), poolE 94 N mn none]) := by
  refine ⟨fun w0 w R hst => ?_⟩
  refine en Tryz.func87 Tryz.ntmps87 hst (h := fun F => ?_)
  refine sq (h := ?_)
  refine rg (h := ?_)
  refine bxA (h := fun b0 => ?_)
  refine al (h := fun b1 => ?_)
  refine nl (h := ?_)
  refine q_seq (h := ?_)
  refine sq (h := ?_)
  refine rgD (by kernel_rfl) [(1000000, poolE 94 N mn none), (1000000, .blk b0 111 (cardC f cf A n c))] (by repeat (first | exact HS.nil | (apply HS.keep; (repeat (first | exact At.here | apply At.there))) | (apply HS.ro; (repeat (first | exact Rds.ro | exact Rds.own | apply Rds.there))))) (h := ?_)
  refine tk 0 (hy := (by first | exact fa | exact faE)) (h := ?_)
  refine tk 1 (hy := (by first | exact fa | exact faE)) (h := ?_)
  refine tk 2 (hy := (by first | exact ldA | exact ldEA)) (h := ?_)
  refine tk 3 (hy := mv) (h := ?_)
  refine tk 4 (hy := nck) (h := ?_)
  refine tk 5 (hy := (by first | exact fa | exact faE)) (h := ?_)
  refine tk 6 (hy := (by first | exact fa | exact faE)) (h := ?_)
  refine tk 7 (hy := ldQ (hy := hx)) (h := ?_)
  refine tk 8 (hy := mv) (h := ?_)
  refine two 9 14 (h1 := ?_) (h2 := ?_)
  · skip
    refine clT (hc := T_node_row N mn x hx r hr (by omega)) (h := fun p1 _ => ?_)
    refine nx (h := ?_)
    refine two 10 14 (h1 := ?_) (h2 := ?_)
    · skip
      refine cl (hc := fun w hS => C_score_Play f x.s.first r _ _ _ w (hS.get (by repeat (first | exact Rds.ro | exact Rds.own | apply Rds.there))) (by omega)) (h := fun p2 _ => ?_)
      refine nx (h := ?_)
      refine tk 11 (hy := mv) (h := ?_)
      refine tk 12 (hy := ex) (h := ?_)
      refine tk 13 (hy := ex) (h := ?_)
      refine one 14 (h := ?_)
      refine al (h := fun b2 => ?_)
      refine nx (h := ?_)
      refine one 15 (h := ?_)
      first | refine stA (h := ?_) | refine stEA (h := ?_)
      refine nx (h := ?_)
      refine tk 16 (hy := asg) (h := ?_)
      refine dn (h := ?_)
      refine q_seq (h := ?_)
      refine sq (h := ?_)
      refine rg (h := ?_)
      refine WL.y (hy := (by first | exact ldA | exact ldEA)) (h := ?_)
      first | refine stA (h := ?_) | refine stEA (h := ?_)
      refine nl (h := ?_)
      refine q_seq (h := ?_)
      refine rtn (h := ?_)
      refine q_ret (hR := ?_)
      exact fun w hS => ⟨p2, trivial, rfl, hS.sub (by repeat (first | exact SubL.nil | (apply SubL.cons; (repeat (first | exact At.here | apply At.there))) | exact SubL.refl _ | apply SubL.skip))⟩
    · skip
      refine al (h := fun b3 => ?_)
      refine nx (h := ?_)
      refine one 10 (h := ?_)
      refine cl (hc := fun w hS => C_score_Play f x.s.first r _ _ _ w (hS.get (by repeat (first | exact Rds.ro | exact Rds.own | apply Rds.there))) (by omega)) (h := fun p2 _ => ?_)
      refine nx (h := ?_)
      refine tk 11 (hy := mv) (h := ?_)
      refine tk 12 (hy := ex) (h := ?_)
      refine tk 13 (hy := ex) (h := ?_)
      refine one 15 (h := ?_)
      first | refine stA (h := ?_) | refine stEA (h := ?_)
      refine nx (h := ?_)
      refine tk 16 (hy := asg) (h := ?_)
      refine dn (h := ?_)
      refine q_seq (h := ?_)
      refine sq (h := ?_)
      refine rg (h := ?_)
      refine WL.y (hy := (by first | exact ldA | exact ldEA)) (h := ?_)
      first | refine stA (h := ?_) | refine stEA (h := ?_)
      refine nl (h := ?_)
      refine q_seq (h := ?_)
      refine rtn (h := ?_)
      refine q_ret (hR := ?_)
      exact fun w hS => ⟨p2, trivial, rfl, hS.sub (by repeat (first | exact SubL.nil | (apply SubL.cons; (repeat (first | exact At.here | apply At.there))) | exact SubL.refl _ | apply SubL.skip))⟩
  · skip
    refine al (h := fun b4 => ?_)
    refine nx (h := ?_)
    refine one 9 (h := ?_)
    refine clT (hc := T_node_row N mn x hx r hr (by omega)) (h := fun p1 _ => ?_)
    refine nx (h := ?_)
    refine one 10 (h := ?_)
    refine cl (hc := fun w hS => C_score_Play f x.s.first r _ _ _ w (hS.get (by repeat (first | exact Rds.ro | exact Rds.own | apply Rds.there))) (by omega)) (h := fun p2 _ => ?_)
    refine nx (h := ?_)
    refine tk 11 (hy := mv) (h := ?_)
    refine tk 12 (hy := ex) (h := ?_)
    refine tk 13 (hy := ex) (h := ?_)
    refine one 15 (h := ?_)
    first | refine stA (h := ?_) | refine stEA (h := ?_)
    refine nx (h := ?_)
    refine tk 16 (hy := asg) (h := ?_)
    refine dn (h := ?_)
    refine q_seq (h := ?_)
    refine sq (h := ?_)
    refine rg (h := ?_)
    refine WL.y (hy := (by first | exact ldA | exact ldEA)) (h := ?_)
    first | refine stA (h := ?_) | refine stEA (h := ?_)
    refine nl (h := ?_)
    refine q_seq (h := ?_)
    refine rtn (h := ?_)
    refine q_ret (hR := ?_)
    exact fun w hS => ⟨p2, trivial, rfl, hS.sub (by repeat (first | exact SubL.nil | (apply SubL.cons; (repeat (first | exact At.here | apply At.there))) | exact SubL.refl _ | apply SubL.skip))⟩
abbrev Nt.val (x : Nt) : Value := .agg #[.int .i64 x.kind, .int .i64 x.side, .int .i64 x.pair.1, .int .i64 x.pair.2]
abbrev Nt.cells (x : Nt) : List Value := [.int .i64 x.kind, .int .i64 x.side, .int .i64 x.pair.1, .int .i64 x.pair.2]
theorem dec_pr (a b : Pr) : (decide (a.1 = b.1) && decide (a.2 = b.2)) = decide (a = b) := by
  rw [Bool.eq_iff_iff, Bool.and_eq_true, decide_eq_true_eq, decide_eq_true_eq, decide_eq_true_eq]
  exact ⟨fun h => Prod.ext h.1 h.2, fun h => by rw [h]; exact ⟨rfl, rfl⟩⟩
set_option maxRecDepth 100000 in
theorem T_reader_holds (f : Fmt) (hf : f.Ok) (hc0 : chkF f = 0) (cf : Int) (A : Option Addr) (n c : Nat) (N : List Nd) (mn : Nat → Pr) (K : Int) (hK : K ≤ 600) (hP : PoolOk f N mn K) (x : Nd) (hx : x ∈ N) (t : Nt) :
    Tr Tryz.prog 56 [.agg (cardC f cf A n c).toArray, t.val, bp x.b] [poolE 94 N mn none] (fun _ : Unit => True) (fun _ => .bool (holdS f t x.s)) (fun _ => [poolE 94 N mn none]) := by
  refine ⟨fun w0 w R hst => ?_⟩
  have hxo := hP.ok x hx
  have h5 := hxo.len hf
  obtain ⟨r, hr, hrk, _⟩ := hxo.row
  obtain ⟨m, hm⟩ := hxo.play hf hc0 hK hP.nd hr
  have hrl : r.length ≤ 600 := by omega
  have hsc : (scO (playO f x.s.first r)).server = srvS f x.s ∧ (scO (playO f x.s.first r)).winner = winS f x.s := by rw [hm.o]; exact ⟨hm.sv, hm.w⟩
  have eP : decide ([x.s.p.1, x.s.p.2] = [t.pair.1, t.pair.2]) = decide (x.s.p = t.pair) := by rw [pair_eq2, dec_pr]
  have eG : decide ([x.s.g.1, x.s.g.2] = [t.pair.1, t.pair.2]) = decide (x.s.g = t.pair) := by rw [pair_eq2, dec_pr]
  have eW : decide ([(wonV x.s.st).1, (wonV x.s.st).2] = [t.pair.1, t.pair.2]) = decide (wonV x.s.st = t.pair) := by rw [pair_eq2, dec_pr]
  have zP : decide ([x.s.p.1, x.s.p.2] = [(0 : Int), 0]) = decide (x.s.p = (0, 0)) := by rw [pair_eq2]; exact dec_pr x.s.p (0, 0)
  have zG : decide ([x.s.g.1, x.s.g.2] = [(0 : Int), 0]) = decide (x.s.g = (0, 0)) := by rw [pair_eq2]; exact dec_pr x.s.g (0, 0)
  refine en Tryz.func56 Tryz.ntmps56 hst (h := fun F => ?_)
  refine sq (h := ?_)
  refine rg (h := ?_)
  refine bxA (h := fun b0 => ?_)
  refine bxA (h := fun b1 => ?_)
  refine WL.y (hy := asg) (h := ?_)
  refine nl (h := ?_)
  refine q_seq (h := ?_)
  refine sq (h := ?_)
  refine rg (h := ?_)
  refine WL.y (hy := bd) (h := ?_)
  refine al (h := fun b2 => ?_)
  first | refine stA (h := ?_) | refine stEA (h := ?_)
  refine nl (h := ?_)
  refine q_seq (h := ?_)
  refine sq (h := ?_)
  refine sq (h := ?_)
  refine rg (h := ?_)
  refine WL.y (hy := (by first | exact fa | exact faE)) (h := ?_)
  refine WL.y (hy := (by first | exact ld | exact ldE)) (h := ?_)
  refine nl (h := ?_)
  refine q_seq (h := ?_)
  refine bk (h := ?_)
  refine sq (h := ?_)
  refine rg (h := ?_)
  refine WL.y (hy := eql) (h := ?_)
  refine WL.y (hy := asg) (h := ?_)
  refine nl (h := ?_)
  refine q_seq (h := ?_)
  refine cd (by exact rfl) (fun h0 => ?_) (fun h0 => ?_)
  · skip
    have hH : holdS f t x.s = decide (x.s.p = t.pair) := by rw [holdS, h0]; rfl
    refine sq (h := ?_)
    refine rgD (by kernel_rfl) [(1000000, poolE 94 N mn none), (1000000, .blk b1 45 t.cells)] (by repeat (first | exact HS.nil | (apply HS.keep; (repeat (first | exact At.here | apply At.there))) | (apply HS.ro; (repeat (first | exact Rds.ro | exact Rds.own | apply Rds.there))))) (h := ?_)
    refine tk 0 (hy := mv) (h := ?_)
    refine tk 1 (hy := nck) (h := ?_)
    refine tk 2 (hy := (by first | exact fa | exact faE)) (h := ?_)
    refine tk 3 (hy := (by first | exact fa | exact faE)) (h := ?_)
    refine tk 4 (hy := ldQA (hy := hx)) (h := ?_)
    refine tk 5 (hy := (by first | exact fa | exact faE)) (h := ?_)
    refine tk 6 (hy := (by first | exact ldA | exact ldEA)) (h := ?_)
    refine tk 7 (hy := eqlT) (h := ?_)
    refine tk 8 (hy := asg) (h := ?_)
    refine dn (h := ?_)
    refine q_seq (h := ?_)
    refine rtn (h := ?_)
    refine q_blk_ret (h := ?_)
    refine q_then_ret (h := ?_)
    refine q_ret (hR := ?_)
    rw [hH]
    first
      | (rw [← eP]; exact fun w hS => ⟨(), trivial, rfl, hS.sub (by repeat (first | exact SubL.nil | (apply SubL.cons; (repeat (first | exact At.here | apply At.there))) | exact SubL.refl _ | apply SubL.skip))⟩)
      | (rw [← eG, ← zP, kA]; exact fun w hS => ⟨(), trivial, rfl, hS.sub (by repeat (first | exact SubL.nil | (apply SubL.cons; (repeat (first | exact At.here | apply At.there))) | exact SubL.refl _ | apply SubL.skip))⟩)
      | (rw [← eW, ← zG, ← zP, kA, kB]; exact fun w hS => ⟨(), trivial, rfl, hS.sub (by repeat (first | exact SubL.nil | (apply SubL.cons; (repeat (first | exact At.here | apply At.there))) | exact SubL.refl _ | apply SubL.skip))⟩)
      | (rw [← eW, ← zG, ← zP, kA]; exact fun w hS => ⟨(), trivial, rfl, hS.sub (by repeat (first | exact SubL.nil | (apply SubL.cons; (repeat (first | exact At.here | apply At.there))) | exact SubL.refl _ | apply SubL.skip))⟩)
      | (rw [← hsc.1]; exact fun w hS => ⟨(), trivial, rfl, hS.sub (by repeat (first | exact SubL.nil | (apply SubL.cons; (repeat (first | exact At.here | apply At.there))) | exact SubL.refl _ | apply SubL.skip))⟩)
      | (rw [← hsc.2]; exact fun w hS => ⟨(), trivial, rfl, hS.sub (by repeat (first | exact SubL.nil | (apply SubL.cons; (repeat (first | exact At.here | apply At.there))) | exact SubL.refl _ | apply SubL.skip))⟩)
  · skip
    have n3 := h0
    refine sq (h := ?_)
    refine rg (h := ?_)
    refine WL.y (hy := eql) (h := ?_)
    refine WL.y (hy := asg) (h := ?_)
    refine nl (h := ?_)
    refine q_seq (h := ?_)
    refine cd (by exact rfl) (fun h1 => ?_) (fun h1 => ?_)
    · skip
      have hH : holdS f t x.s = (decide (x.s.g = t.pair) && decide (x.s.p = (0, 0))) := by rw [holdS, n3, h1]; rfl
      refine sq (h := ?_)
      refine rgD (by kernel_rfl) [(1000000, poolE 94 N mn none), (1000000, .blk b1 45 t.cells), (1000000, .blk b2 43 [.int .i64 0, .int .i64 0])] (by repeat (first | exact HS.nil | (apply HS.keep; (repeat (first | exact At.here | apply At.there))) | (apply HS.ro; (repeat (first | exact Rds.ro | exact Rds.own | apply Rds.there))))) (h := ?_)
      refine tk 0 (hy := mv) (h := ?_)
      refine tk 1 (hy := nck) (h := ?_)
      refine tk 2 (hy := (by first | exact fa | exact faE)) (h := ?_)
      refine tk 3 (hy := (by first | exact fa | exact faE)) (h := ?_)
      refine tk 4 (hy := ldQA (hy := hx)) (h := ?_)
      refine tk 5 (hy := (by first | exact fa | exact faE)) (h := ?_)
      refine tk 6 (hy := (by first | exact ldA | exact ldEA)) (h := ?_)
      refine tk 7 (hy := eqlT) (h := ?_)
      refine tk 8 (hy := mv) (h := ?_)
      refine brH (g := 32) (by exact rfl) (fun hb2 => ?_) (fun hb2 => ?_)
      · skip
        have kA := hb2
        refine tk 9 (hy := mv) (h := ?_)
        refine tk 10 (hy := nck) (h := ?_)
        refine tk 11 (hy := (by first | exact fa | exact faE)) (h := ?_)
        refine tk 12 (hy := (by first | exact fa | exact faE)) (h := ?_)
        refine tk 13 (hy := ldQA (hy := hx)) (h := ?_)
        refine tk 14 (hy := (by first | exact ldA | exact ldEA)) (h := ?_)
        refine tk 15 (hy := eqlT) (h := ?_)
        refine tk 16 (hy := (by first | exact pkT | exact pkF)) (h := ?_)
        refine tk 17 (hy := asg) (h := ?_)
        refine dn (h := ?_)
        refine q_seq (h := ?_)
        refine rtn (h := ?_)
        refine q_blk_ret (h := ?_)
        refine q_then_ret (h := ?_)
        refine q_ret (hR := ?_)
        rw [hH]
        first
          | (rw [← eP]; exact fun w hS => ⟨(), trivial, rfl, hS.sub (by repeat (first | exact SubL.nil | (apply SubL.cons; (repeat (first | exact At.here | apply At.there))) | exact SubL.refl _ | apply SubL.skip))⟩)
          | (rw [← eG, ← zP, kA]; exact fun w hS => ⟨(), trivial, rfl, hS.sub (by repeat (first | exact SubL.nil | (apply SubL.cons; (repeat (first | exact At.here | apply At.there))) | exact SubL.refl _ | apply SubL.skip))⟩)
          | (rw [← eW, ← zG, ← zP, kA, kB]; exact fun w hS => ⟨(), trivial, rfl, hS.sub (by repeat (first | exact SubL.nil | (apply SubL.cons; (repeat (first | exact At.here | apply At.there))) | exact SubL.refl _ | apply SubL.skip))⟩)
          | (rw [← eW, ← zG, ← zP, kA]; exact fun w hS => ⟨(), trivial, rfl, hS.sub (by repeat (first | exact SubL.nil | (apply SubL.cons; (repeat (first | exact At.here | apply At.there))) | exact SubL.refl _ | apply SubL.skip))⟩)
          | (rw [← hsc.1]; exact fun w hS => ⟨(), trivial, rfl, hS.sub (by repeat (first | exact SubL.nil | (apply SubL.cons; (repeat (first | exact At.here | apply At.there))) | exact SubL.refl _ | apply SubL.skip))⟩)
          | (rw [← hsc.2]; exact fun w hS => ⟨(), trivial, rfl, hS.sub (by repeat (first | exact SubL.nil | (apply SubL.cons; (repeat (first | exact At.here | apply At.there))) | exact SubL.refl _ | apply SubL.skip))⟩)
      · skip
        have kA := hb2
        refine tkS 9 (h := ?_)
        refine tkS 10 (h := ?_)
        refine tkS 11 (h := ?_)
        refine tkS 12 (h := ?_)
        refine tkS 13 (h := ?_)
        refine tkS 14 (h := ?_)
        refine tkS 15 (h := ?_)
        refine tk 16 (hy := (by first | exact pkT | exact pkF)) (h := ?_)
        refine tk 17 (hy := asg) (h := ?_)
        refine dn (h := ?_)
        refine q_seq (h := ?_)
        refine rtn (h := ?_)
        refine q_blk_ret (h := ?_)
        refine q_then_ret (h := ?_)
        refine q_ret (hR := ?_)
        rw [hH]
        first
          | (rw [← eP]; exact fun w hS => ⟨(), trivial, rfl, hS.sub (by repeat (first | exact SubL.nil | (apply SubL.cons; (repeat (first | exact At.here | apply At.there))) | exact SubL.refl _ | apply SubL.skip))⟩)
          | (rw [← eG, ← zP, kA]; exact fun w hS => ⟨(), trivial, rfl, hS.sub (by repeat (first | exact SubL.nil | (apply SubL.cons; (repeat (first | exact At.here | apply At.there))) | exact SubL.refl _ | apply SubL.skip))⟩)
          | (rw [← eW, ← zG, ← zP, kA, kB]; exact fun w hS => ⟨(), trivial, rfl, hS.sub (by repeat (first | exact SubL.nil | (apply SubL.cons; (repeat (first | exact At.here | apply At.there))) | exact SubL.refl _ | apply SubL.skip))⟩)
          | (rw [← eW, ← zG, ← zP, kA]; exact fun w hS => ⟨(), trivial, rfl, hS.sub (by repeat (first | exact SubL.nil | (apply SubL.cons; (repeat (first | exact At.here | apply At.there))) | exact SubL.refl _ | apply SubL.skip))⟩)
          | (rw [← hsc.1]; exact fun w hS => ⟨(), trivial, rfl, hS.sub (by repeat (first | exact SubL.nil | (apply SubL.cons; (repeat (first | exact At.here | apply At.there))) | exact SubL.refl _ | apply SubL.skip))⟩)
          | (rw [← hsc.2]; exact fun w hS => ⟨(), trivial, rfl, hS.sub (by repeat (first | exact SubL.nil | (apply SubL.cons; (repeat (first | exact At.here | apply At.there))) | exact SubL.refl _ | apply SubL.skip))⟩)
    · skip
      have n4 := h1
      refine sq (h := ?_)
      refine rg (h := ?_)
      refine WL.y (hy := eql) (h := ?_)
      refine WL.y (hy := asg) (h := ?_)
      refine nl (h := ?_)
      refine q_seq (h := ?_)
      refine cd (by exact rfl) (fun h3 => ?_) (fun h3 => ?_)
      · skip
        have hH : holdS f t x.s = (decide (wonV x.s.st = t.pair) && (decide (x.s.g = (0, 0)) && decide (x.s.p = (0, 0)))) := by rw [holdS, n3, n4, h3]; rfl
        refine sq (h := ?_)
        refine rgD (by kernel_rfl) [(1000000, poolE 94 N mn none), (1000000, .blk b1 45 t.cells), (1000000, .blk b2 43 [.int .i64 0, .int .i64 0])] (by repeat (first | exact HS.nil | (apply HS.keep; (repeat (first | exact At.here | apply At.there))) | (apply HS.ro; (repeat (first | exact Rds.ro | exact Rds.own | apply Rds.there))))) (h := ?_)
        refine tk 0 (hy := mv) (h := ?_)
        refine tk 1 (hy := nck) (h := ?_)
        refine tk 2 (hy := (by first | exact fa | exact faE)) (h := ?_)
        refine tk 3 (hy := ldQA (hy := hx)) (h := ?_)
        refine tk 5 (hy := (by first | exact fa | exact faE)) (h := ?_)
        refine tk 6 (hy := (by first | exact ldA | exact ldEA)) (h := ?_)
        refine one 4 (h := ?_)
        refine cl0 (hc := fun w hS => C_spot_won x.s h5 w) (h := ?_)
        refine nx (h := ?_)
        refine tk 7 (hy := eqlT) (h := ?_)
        refine tk 8 (hy := mv) (h := ?_)
        refine brH (g := 51) (by exact rfl) (fun hb4 => ?_) (fun hb4 => ?_)
        · skip
          have kA := hb4
          refine tk 9 (hy := mv) (h := ?_)
          refine tk 10 (hy := nck) (h := ?_)
          refine tk 11 (hy := (by first | exact fa | exact faE)) (h := ?_)
          refine tk 12 (hy := (by first | exact fa | exact faE)) (h := ?_)
          refine tk 13 (hy := ldQA (hy := hx)) (h := ?_)
          refine tk 14 (hy := (by first | exact ldA | exact ldEA)) (h := ?_)
          refine tk 15 (hy := eqlT) (h := ?_)
          refine tk 16 (hy := (by first | exact pkT | exact pkF)) (h := ?_)
          refine tk 17 (hy := mv) (h := ?_)
          refine brH (g := 60) (by exact rfl) (fun hb5 => ?_) (fun hb5 => ?_)
          · skip
            have kB := hb5
            refine tk 18 (hy := mv) (h := ?_)
            refine tk 19 (hy := nck) (h := ?_)
            refine tk 20 (hy := (by first | exact fa | exact faE)) (h := ?_)
            refine tk 21 (hy := (by first | exact fa | exact faE)) (h := ?_)
            refine tk 22 (hy := ldQA (hy := hx)) (h := ?_)
            refine tk 23 (hy := (by first | exact ldA | exact ldEA)) (h := ?_)
            refine tk 24 (hy := eqlT) (h := ?_)
            refine tk 25 (hy := (by first | exact pkT | exact pkF)) (h := ?_)
            refine tk 26 (hy := asg) (h := ?_)
            refine dn (h := ?_)
            refine q_seq (h := ?_)
            refine rtn (h := ?_)
            refine q_blk_ret (h := ?_)
            refine q_then_ret (h := ?_)
            refine q_ret (hR := ?_)
            rw [hH]
            first
              | (rw [← eP]; exact fun w hS => ⟨(), trivial, rfl, hS.sub (by repeat (first | exact SubL.nil | (apply SubL.cons; (repeat (first | exact At.here | apply At.there))) | exact SubL.refl _ | apply SubL.skip))⟩)
              | (rw [← eG, ← zP, kA]; exact fun w hS => ⟨(), trivial, rfl, hS.sub (by repeat (first | exact SubL.nil | (apply SubL.cons; (repeat (first | exact At.here | apply At.there))) | exact SubL.refl _ | apply SubL.skip))⟩)
              | (rw [← eW, ← zG, ← zP, kA, kB]; exact fun w hS => ⟨(), trivial, rfl, hS.sub (by repeat (first | exact SubL.nil | (apply SubL.cons; (repeat (first | exact At.here | apply At.there))) | exact SubL.refl _ | apply SubL.skip))⟩)
              | (rw [← eW, ← zG, ← zP, kA]; exact fun w hS => ⟨(), trivial, rfl, hS.sub (by repeat (first | exact SubL.nil | (apply SubL.cons; (repeat (first | exact At.here | apply At.there))) | exact SubL.refl _ | apply SubL.skip))⟩)
              | (rw [← hsc.1]; exact fun w hS => ⟨(), trivial, rfl, hS.sub (by repeat (first | exact SubL.nil | (apply SubL.cons; (repeat (first | exact At.here | apply At.there))) | exact SubL.refl _ | apply SubL.skip))⟩)
              | (rw [← hsc.2]; exact fun w hS => ⟨(), trivial, rfl, hS.sub (by repeat (first | exact SubL.nil | (apply SubL.cons; (repeat (first | exact At.here | apply At.there))) | exact SubL.refl _ | apply SubL.skip))⟩)
          · skip
            have kB := hb5
            refine tkS 18 (h := ?_)
            refine tkS 19 (h := ?_)
            refine tkS 20 (h := ?_)
            refine tkS 21 (h := ?_)
            refine tkS 22 (h := ?_)
            refine tkS 23 (h := ?_)
            refine tkS 24 (h := ?_)
            refine tk 25 (hy := (by first | exact pkT | exact pkF)) (h := ?_)
            refine tk 26 (hy := asg) (h := ?_)
            refine dn (h := ?_)
            refine q_seq (h := ?_)
            refine rtn (h := ?_)
            refine q_blk_ret (h := ?_)
            refine q_then_ret (h := ?_)
            refine q_ret (hR := ?_)
            rw [hH]
            first
              | (rw [← eP]; exact fun w hS => ⟨(), trivial, rfl, hS.sub (by repeat (first | exact SubL.nil | (apply SubL.cons; (repeat (first | exact At.here | apply At.there))) | exact SubL.refl _ | apply SubL.skip))⟩)
              | (rw [← eG, ← zP, kA]; exact fun w hS => ⟨(), trivial, rfl, hS.sub (by repeat (first | exact SubL.nil | (apply SubL.cons; (repeat (first | exact At.here | apply At.there))) | exact SubL.refl _ | apply SubL.skip))⟩)
              | (rw [← eW, ← zG, ← zP, kA, kB]; exact fun w hS => ⟨(), trivial, rfl, hS.sub (by repeat (first | exact SubL.nil | (apply SubL.cons; (repeat (first | exact At.here | apply At.there))) | exact SubL.refl _ | apply SubL.skip))⟩)
              | (rw [← eW, ← zG, ← zP, kA]; exact fun w hS => ⟨(), trivial, rfl, hS.sub (by repeat (first | exact SubL.nil | (apply SubL.cons; (repeat (first | exact At.here | apply At.there))) | exact SubL.refl _ | apply SubL.skip))⟩)
              | (rw [← hsc.1]; exact fun w hS => ⟨(), trivial, rfl, hS.sub (by repeat (first | exact SubL.nil | (apply SubL.cons; (repeat (first | exact At.here | apply At.there))) | exact SubL.refl _ | apply SubL.skip))⟩)
              | (rw [← hsc.2]; exact fun w hS => ⟨(), trivial, rfl, hS.sub (by repeat (first | exact SubL.nil | (apply SubL.cons; (repeat (first | exact At.here | apply At.there))) | exact SubL.refl _ | apply SubL.skip))⟩)
        · skip
          have kA := hb4
          refine tkS 9 (h := ?_)
          refine tkS 10 (h := ?_)
          refine tkS 11 (h := ?_)
          refine tkS 12 (h := ?_)
          refine tkS 13 (h := ?_)
          refine tkS 14 (h := ?_)
          refine tkS 15 (h := ?_)
          refine tk 16 (hy := (by first | exact pkT | exact pkF)) (h := ?_)
          refine tk 17 (hy := mv) (h := ?_)
          refine tkS 18 (h := ?_)
          refine tkS 19 (h := ?_)
          refine tkS 20 (h := ?_)
          refine tkS 21 (h := ?_)
          refine tkS 22 (h := ?_)
          refine tkS 23 (h := ?_)
          refine tkS 24 (h := ?_)
          refine tk 25 (hy := (by first | exact pkT | exact pkF)) (h := ?_)
          refine tk 26 (hy := asg) (h := ?_)
          refine dn (h := ?_)
          refine q_seq (h := ?_)
          refine rtn (h := ?_)
          refine q_blk_ret (h := ?_)
          refine q_then_ret (h := ?_)
          refine q_ret (hR := ?_)
          rw [hH]
          first
            | (rw [← eP]; exact fun w hS => ⟨(), trivial, rfl, hS.sub (by repeat (first | exact SubL.nil | (apply SubL.cons; (repeat (first | exact At.here | apply At.there))) | exact SubL.refl _ | apply SubL.skip))⟩)
            | (rw [← eG, ← zP, kA]; exact fun w hS => ⟨(), trivial, rfl, hS.sub (by repeat (first | exact SubL.nil | (apply SubL.cons; (repeat (first | exact At.here | apply At.there))) | exact SubL.refl _ | apply SubL.skip))⟩)
            | (rw [← eW, ← zG, ← zP, kA, kB]; exact fun w hS => ⟨(), trivial, rfl, hS.sub (by repeat (first | exact SubL.nil | (apply SubL.cons; (repeat (first | exact At.here | apply At.there))) | exact SubL.refl _ | apply SubL.skip))⟩)
            | (rw [← eW, ← zG, ← zP, kA]; exact fun w hS => ⟨(), trivial, rfl, hS.sub (by repeat (first | exact SubL.nil | (apply SubL.cons; (repeat (first | exact At.here | apply At.there))) | exact SubL.refl _ | apply SubL.skip))⟩)
            | (rw [← hsc.1]; exact fun w hS => ⟨(), trivial, rfl, hS.sub (by repeat (first | exact SubL.nil | (apply SubL.cons; (repeat (first | exact At.here | apply At.there))) | exact SubL.refl _ | apply SubL.skip))⟩)
            | (rw [← hsc.2]; exact fun w hS => ⟨(), trivial, rfl, hS.sub (by repeat (first | exact SubL.nil | (apply SubL.cons; (repeat (first | exact At.here | apply At.there))) | exact SubL.refl _ | apply SubL.skip))⟩)
      · skip
        have n5 := h3
        refine sq (h := ?_)
        refine rg (h := ?_)
        refine WL.y (hy := eql) (h := ?_)
        refine WL.y (hy := asg) (h := ?_)
        refine nl (h := ?_)
        refine q_seq (h := ?_)
        refine cd (by exact rfl) (fun h6 => ?_) (fun h6 => ?_)
        · skip
          have hH : holdS f t x.s = (decide (0 ≤ srvS f x.s) && decide (srvS f x.s % 2 = t.side)) := by rw [holdS, n3, n4, n5, h6]; rfl
          refine sq (h := ?_)
          refine rg (h := ?_)
          refine WL.y (hy := (by first | exact ldA | exact ldEA)) (h := ?_)
          refine WL.y (hy := mv) (h := ?_)
          refine clT (hc := T_reader_score f cf A n c N mn x hx r hr hrl) (h := fun p1 _ => ?_)
          refine WL.y (hy := (by first | exact fdv1 | exact fdvA)) (h := ?_)
          refine WL.y (hy := asg) (h := ?_)
          refine nl (h := ?_)
          refine q_seq (h := ?_)
          refine sq (h := ?_)
          refine rg (h := ?_)
          refine WL.y (hy := mv) (h := ?_)
          refine WL.y (hy := geq) (h := ?_)
          refine WL.y (hy := mv) (h := ?_)
          apply brAnd 6 77 83 (by exact rfl)
          · intro hb7
            have hnn := of_decide_eq_true hb7
            refine un (h := ?_)
            refine WL.y (hy := mv) (h := ?_)
            refine un (h := ?_)
            refine WL.y (hy := remI) (h := ?_)
            refine un (h := ?_)
            refine WL.y (hy := (by first | exact fa | exact faE)) (h := ?_)
            refine un (h := ?_)
            refine WL.y (hy := (by first | exact ld | exact ldE)) (h := ?_)
            refine un (h := ?_)
            refine WL.y (hy := eql) (h := ?_)
            refine WL.y (hy := (by first | exact pkT | exact pkF)) (h := ?_)
            exact mg (by repeat (first | exact trivial | refine ⟨rfl, ?_⟩ | refine ⟨by rw [hb7]; rfl, ?_⟩)) (by repeat (first | exact SubL.nil | (apply SubL.cons; (repeat (first | exact At.here | apply At.there))) | exact SubL.refl _ | apply SubL.skip))
          · intro hb7
            repeat (first | refine un (h := ?_) | refine sk (h := ?_) | refine WL.y (hy := pkF) (h := ?_) | refine WL.y (hy := pkT) (h := ?_))
            exact mg (by repeat (first | exact trivial | refine ⟨rfl, ?_⟩ | refine ⟨by rw [hb7]; rfl, ?_⟩)) (by repeat (first | exact SubL.nil | (apply SubL.cons; (repeat (first | exact At.here | apply At.there))) | exact SubL.refl _ | apply SubL.skip))
          refine WL.y (hy := asg) (h := ?_)
          refine nl (h := ?_)
          refine q_seq (h := ?_)
          refine rtn (h := ?_)
          refine q_blk_ret (h := ?_)
          refine q_then_ret (h := ?_)
          refine q_ret (hR := ?_)
          rw [hH]
          first
            | (rw [← eP]; exact fun w hS => ⟨(), trivial, rfl, hS.sub (by repeat (first | exact SubL.nil | (apply SubL.cons; (repeat (first | exact At.here | apply At.there))) | exact SubL.refl _ | apply SubL.skip))⟩)
            | (rw [← eG, ← zP, kA]; exact fun w hS => ⟨(), trivial, rfl, hS.sub (by repeat (first | exact SubL.nil | (apply SubL.cons; (repeat (first | exact At.here | apply At.there))) | exact SubL.refl _ | apply SubL.skip))⟩)
            | (rw [← eW, ← zG, ← zP, kA, kB]; exact fun w hS => ⟨(), trivial, rfl, hS.sub (by repeat (first | exact SubL.nil | (apply SubL.cons; (repeat (first | exact At.here | apply At.there))) | exact SubL.refl _ | apply SubL.skip))⟩)
            | (rw [← eW, ← zG, ← zP, kA]; exact fun w hS => ⟨(), trivial, rfl, hS.sub (by repeat (first | exact SubL.nil | (apply SubL.cons; (repeat (first | exact At.here | apply At.there))) | exact SubL.refl _ | apply SubL.skip))⟩)
            | (rw [← hsc.1]; exact fun w hS => ⟨(), trivial, rfl, hS.sub (by repeat (first | exact SubL.nil | (apply SubL.cons; (repeat (first | exact At.here | apply At.there))) | exact SubL.refl _ | apply SubL.skip))⟩)
            | (rw [← hsc.2]; exact fun w hS => ⟨(), trivial, rfl, hS.sub (by repeat (first | exact SubL.nil | (apply SubL.cons; (repeat (first | exact At.here | apply At.there))) | exact SubL.refl _ | apply SubL.skip))⟩)
        · skip
          have hH : holdS f t x.s = decide (winS f x.s = t.side) := by rw [holdS, n3, n4, n5, h6]; rfl
          refine skp (h := ?_)
          refine q_blk_norm (h := ?_)
          refine q_seq (h := ?_)
          refine sq (h := ?_)
          refine rgD (by kernel_rfl) [(1000000, poolE 94 N mn none), (1000000, .blk b1 45 t.cells), (1000000, .blk b0 111 (cardC f cf A n c))] (by repeat (first | exact HS.nil | (apply HS.keep; (repeat (first | exact At.here | apply At.there))) | (apply HS.ro; (repeat (first | exact Rds.ro | exact Rds.own | apply Rds.there))))) (h := ?_)
          refine tk 0 (hy := (by first | exact ldA | exact ldEA)) (h := ?_)
          refine tk 1 (hy := mv) (h := ?_)
          refine tk 4 (hy := (by first | exact fa | exact faE)) (h := ?_)
          refine tk 5 (hy := (by first | exact ld | exact ldE)) (h := ?_)
          refine one 2 (h := ?_)
          refine clT (hc := T_reader_score f cf A n c N mn x hx r hr hrl) (h := fun p1 _ => ?_)
          refine nx (h := ?_)
          refine tk 3 (hy := (by first | exact fdv1 | exact fdvA)) (h := ?_)
          refine tk 6 (hy := eql) (h := ?_)
          refine tk 7 (hy := asg) (h := ?_)
          refine dn (h := ?_)
          refine q_seq (h := ?_)
          refine rtn (h := ?_)
          refine q_ret (hR := ?_)
          rw [hH]
          first
            | (rw [← eP]; exact fun w hS => ⟨(), trivial, rfl, hS.sub (by repeat (first | exact SubL.nil | (apply SubL.cons; (repeat (first | exact At.here | apply At.there))) | exact SubL.refl _ | apply SubL.skip))⟩)
            | (rw [← eG, ← zP, kA]; exact fun w hS => ⟨(), trivial, rfl, hS.sub (by repeat (first | exact SubL.nil | (apply SubL.cons; (repeat (first | exact At.here | apply At.there))) | exact SubL.refl _ | apply SubL.skip))⟩)
            | (rw [← eW, ← zG, ← zP, kA, kB]; exact fun w hS => ⟨(), trivial, rfl, hS.sub (by repeat (first | exact SubL.nil | (apply SubL.cons; (repeat (first | exact At.here | apply At.there))) | exact SubL.refl _ | apply SubL.skip))⟩)
            | (rw [← eW, ← zG, ← zP, kA]; exact fun w hS => ⟨(), trivial, rfl, hS.sub (by repeat (first | exact SubL.nil | (apply SubL.cons; (repeat (first | exact At.here | apply At.there))) | exact SubL.refl _ | apply SubL.skip))⟩)
            | (rw [← hsc.1]; exact fun w hS => ⟨(), trivial, rfl, hS.sub (by repeat (first | exact SubL.nil | (apply SubL.cons; (repeat (first | exact At.here | apply At.there))) | exact SubL.refl _ | apply SubL.skip))⟩)
            | (rw [← hsc.2]; exact fun w hS => ⟨(), trivial, rfl, hS.sub (by repeat (first | exact SubL.nil | (apply SubL.cons; (repeat (first | exact At.here | apply At.there))) | exact SubL.refl _ | apply SubL.skip))⟩)
end Go.Proofs.YtpejgebcmhmpaaaGreat

namespace Go.Proofs.YtpejgebcmhmpaaaGreat
open Go Go.RowKit

def addN (f : Fmt) (N : List Nd) (x : Nd) (side : Int) (o : Option Nat) : List Nd := match o, nxtS f x.s side with
  | some k, some u => ⟨k, u, some x.b, side⟩ :: N
  | _, _ => N
def addM (mn : Nat → Pr) (x : Nd) (o : Option Nat) : Nat → Pr := match o with
  | some k => upN mn k ((mn x.b).1 + 1, (mn x.b).2 + 1)
  | none => mn
def NxtOk (f : Fmt) (N : List Nd) (x : Nd) (side : Int) (o : Option Nat) : Prop := match o with
  | none => nxtS f x.s side = none
  | some k => (∃ u, nxtS f x.s side = some u) ∧ ∀ y ∈ N, y.b ≠ k
theorem T_nextO (f : Fmt) (hf : f.Ok) (cf : Int) (A : Option Addr) (n c : Nat) (N : List Nd) (mn : Nat → Pr) (x : Nd) (side : Int) (hs : side = 0 ∨ side = 1) (K : Int) (hK : K ≤ 10000) (hP : PoolOk f N mn K) (hx : x ∈ N) :
    Tr Tryz.prog 113 [.agg (cardC f cf A n c).toArray, bp x.b, .int .i64 side] [poolE 94 N mn none] (NxtOk f N x side) (fun o => bpO o) (fun o => [poolE 94 (addN f N x side o) (addM mn x o) none]) := by
  cases hn : nxtS f x.s side with
  | none =>
    have h := T_next_none f cf A n c N mn x side ((hP.ok x hx).len hf) hx hn
    exact ⟨fun w0 w R hst => (h.out w0 w R hst).mono fun e w' ⟨_, _, he, hs⟩ => ⟨none, hn, he, hs⟩⟩
  | some u =>
    have h := T_next_some f hf cf A n c N mn x side hs K hK hP hx u hn
    refine ⟨fun w0 w R hst => (h.out w0 w R hst).mono fun e w' ⟨k, hk, he, hs⟩ => ⟨some k, ⟨⟨u, hn⟩, hk⟩, he, ?_⟩⟩
    show St w0 w' ([poolE _ (addN f N x side (some k)) (addM mn x (some k)) none] ++ R)
    rw [show addN f N x side (some k) = ⟨k, u, some x.b, side⟩ :: N by simp only [addN, hn]]
    exact hs

theorem norm_snoc (l : List En) (e : En) : normC (l ++ [e]) = putC (normC l) e := by unfold normC; rw [List.foldl_append]; rfl
abbrev ndE (mn : Nat → Pr) (x : Nd) : En := (x.s, ((mn x.b).1, (mn x.b).2, 0))
def partE (f : Fmt) (side : Int) (e : En) : Nat → List En
  | 0 => []
  | k + 1 => partE f side e k ++ goE f side e k
theorem part_two (f : Fmt) (side : Int) (e : En) : partE f side e 2 = goE f side e 0 ++ goE f side e 1 := by
  show (([] : List En) ++ goE f side e ((0 : Nat) : Int)) ++ goE f side e ((1 : Nat) : Int) = _
  rfl
theorem stepI_snoc (f : Fmt) (mn : Nat → Pr) (dn : List Nd) (x : Nd) (side : Int) : stepI f (toC mn (dn ++ [x])) side = stepI f (toC mn dn) side ++ partE f side (ndE mn x) 2 := by
  rw [part_two]
  unfold stepI toC
  rw [List.map_append, List.flatMap_append]
  simp
structure PlI (f : Fmt) (N : List Nd) (mn : Nat → Pr) (ns : List Nd) (side K : Int) (l : List En) (N' : List Nd) (mn' : Nat → Pr) (ns' : List Nd) (es' : Array MapEntry) (c' : Nat) : Prop where
  ok : PoolOk f N' mn' (K + 1)
  sub : ∀ y ∈ N, y ∈ N'
  mn : ∀ y ∈ N, mn' y.b = mn y.b
  cr : CrIs N' ns' es' c'
  new : ∀ y ∈ ns', ∀ z ∈ N, z.b ≠ y.b
  fr : ∀ y ∈ ns', ∃ x ∈ ns, y.bf = some x.b ∧ (y.sd = 0 ∨ y.sd = 1) ∧ (side = -1 ∨ side = y.sd) ∧ nxtS f x.s y.sd = some y.s
  toC : toC mn' ns' = normC l
theorem PlI.start {f : Fmt} {N : List Nd} {mn : Nat → Pr} {ns : List Nd} {side K : Int} (h : PoolOk f N mn K) : PlI f N mn ns side K [] N mn [] #[] 0 :=
  ⟨h.up (by omega), fun y hy => hy, fun y hy => rfl, CrIs.nil N, fun y hy => (by cases hy), fun y hy => (by cases hy), rfl⟩
theorem PlI.skip {f : Fmt} {N : List Nd} {mn : Nat → Pr} {ns : List Nd} {side K : Int} {l l2 : List En} {N' : List Nd} {mn' : Nat → Pr} {ns' : List Nd} {es' : Array MapEntry} {c' : Nat} (h : PlI f N mn ns side K l N' mn' ns' es' c') (e : l2 = []) : PlI f N mn ns side K (l ++ l2) N' mn' ns' es' c' := by
  subst e; rw [List.append_nil]; exact h
theorem PlI.point {f : Fmt} {N : List Nd} {mn : Nat → Pr} {ns : List Nd} {side K : Int} {l : List En} {N' : List Nd} {mn' : Nat → Pr} {ns' : List Nd} {es' : Array MapEntry} {c' : Nat} (h : PlI f N mn ns side K l N' mn' ns' es' c') (hP : PoolOk f N mn K) (hns : ∀ y ∈ ns, y ∈ N) {x : Nd} (hx : x ∈ ns) {p : Int} (hp : p = 0 ∨ p = 1) (hs : side = -1 ∨ side = p) {u : Spot} (hn : nxtS f x.s p = some u) {k : Nat} (hk : ∀ y ∈ N', y.b ≠ k) {es2 : Array MapEntry} {c2 : Nat} (hm : MapIs es2 (crE (putNs ns' ⟨k, u, some x.b, p⟩)) ∧ Stm es2 c2) :
    PlI f N mn ns side K (l ++ goE f side (ndE mn x) p) (⟨k, u, some x.b, p⟩ :: N') (putM ns' (upN mn' k ((mn' x.b).1 + 1, (mn' x.b).2 + 1)) ⟨k, u, some x.b, p⟩) (putNs ns' ⟨k, u, some x.b, p⟩) es2 c2 := by
  have hxN := hns x hx
  have hxo := hP.ok x hxN
  have hmx := h.mn x hxN
  have hlo := hxo.lo; have hhi := hxo.hi
  obtain ⟨h1, r, h2, h3, h4⟩ := row_next (y := ⟨k, u, some x.b, p⟩) hxN hxo.row rfl hp hn
  have hok : PoolOk f (⟨k, u, some x.b, p⟩ :: N') (upN mn' k ((mn' x.b).1 + 1, (mn' x.b).2 + 1)) (K + 1) :=
    h.ok.add (x := ⟨k, u, some x.b, p⟩) hk (by rw [h1]; exact hxo.fs) ⟨r, h2.mono h.sub, h3, h4⟩ (by rw [hmx]; dsimp only; omega) (by rw [hmx]; dsimp only; omega)
  have hsub' : ∀ y ∈ ns', y ∈ (⟨k, u, some x.b, p⟩ :: N' : List Nd) := fun y hy => List.mem_cons_of_mem _ (h.cr.sub y hy)
  have hne : ∀ y ∈ N, y.b ≠ k := fun y hy => hk y (h.sub y hy)
  refine ⟨putM_ok hok hsub' List.mem_cons_self, fun y hy => List.mem_cons_of_mem _ (h.sub y hy), fun y hy => ?_, (h.cr.up fun y hy => List.mem_cons_of_mem _ hy).put List.mem_cons_self hm, fun y hy z hz => ?_, fun y hy => ?_, ?_⟩
  · rw [putM_other fun z hz e => h.new z hz y hy e.symm, upN_other (hne y hy), h.mn y hy]
  · rcases putNs_mem hy with h5 | rfl
    · exact h.new y h5 z hz
    · exact hne z hz
  · rcases putNs_mem hy with h5 | rfl
    · exact h.fr y h5
    · exact ⟨x, hx, rfl, hp, hs, hn⟩
  · have hg : goE f side (ndE mn x) p = [upE (ndE mn x) u] := by unfold goE; rw [if_pos hs]; simp only [hn]
    rw [hg, norm_snoc, ← h.toC, put_toC h.cr.keys (fun y hy z hz e => nd_one h.ok.nd (h.cr.sub y hy) (h.cr.sub z hz) e)]
    rw [toC_congr (mn := mn') fun y hy => upN_other (hk y (h.cr.sub y hy))]
    congr 1
    show (u, ((upN mn' k _ k).1, (upN mn' k _ k).2, (0 : Int))) = _
    rw [upN_same, hmx]
    rfl
theorem nxt_top {f : Fmt} {s u : Spot} {p : Int} (h : nxtS f s p = some u) : topS s ≠ f.sets := fun e => by rw [nxtS, decide_eq_true e] at h; cases h
theorem nxt_step {f : Fmt} {s u : Spot} {p : Int} (h : nxtS f s p = some u) : stepS f s p = u := by
  rw [nxtS, decide_eq_false (nxt_top h)] at h; exact Option.some.inj h
structure PZ2 where
  (N : List Nd) (mn : Nat → Pr) (ns : List Nd) (es : Array MapEntry) (c : Nat) (dn ts : List Nd) (tk : List KV) (o : Option KV)
structure PZ3 where
  (N : List Nd) (mn : Nat → Pr) (ns : List Nd) (es : Array MapEntry) (c k : Nat)
structure PR where
  (N : List Nd) (mn : Nat → Pr) (ns : List Nd) (b : Nat) (es : Array MapEntry) (c : Nat)
set_option maxRecDepth 100000 in
theorem T_reader_play (f : Fmt) (hf : f.Ok) (cf : Int) (A : Option Addr) (n c : Nat) (N ns : List Nd) (mn : Nat → Pr) (side K : Int) (hK : K ≤ 9000) (hP : PoolOk f N mn K) (b : Nat) (es : Array MapEntry) (cl : Nat) (hC : CrIs N ns es cl) :
    Tr Tryz.prog 88 [.agg (cardC f cf A n c).toArray, .map (some b), .int .i64 side] [poolE 94 N mn none, roM b es cl] (fun q : PR => ∃ dn, dn.Perm ns ∧ PlI f N mn ns side K (stepI f (toC mn dn) side) q.N q.mn q.ns q.es q.c) (fun q => .map (some q.b)) (fun q => [poolE 94 q.N q.mn none, .obj q.b (.map q.es q.c), roM b es cl]) := by
  refine ⟨fun w0 w R hst => ?_⟩
  refine en Tryz.func88 Tryz.ntmps88 hst (h := fun F => ?_)
  refine sq (h := ?_)
  refine rg (h := ?_)
  refine bxA (h := fun b0 => ?_)
  refine WL.y (hy := asg) (h := ?_)
  refine nl (h := ?_)
  refine q_seq (h := ?_)
  refine sq (h := ?_)
  refine rg (h := ?_)
  refine mkm (h := fun b1 => ?_)
  refine WL.y (hy := asg) (h := ?_)
  refine nl (h := ?_)
  refine q_seq (h := ?_)
  refine sq (h := ?_)
  refine sq (h := ?_)
  refine rg (h := ?_)
  refine WL.y (hy := mv) (h := ?_)
  refine rngM (h := fun r1 => ?_)
  rw [cr_kv hC]
  refine nl (h := ?_)
  refine q_seq (h := ?_)
  refine bk (h := ?_)
  refine lp (X := PZ2) (I := fun z => (z.dn ++ z.ts).Perm ns ∧ z.tk.Perm (z.ts.map ndKV) ∧ PlI f N mn ns side K (stepI f (toC mn z.dn) side) z.N z.mn z.ns z.es z.c) (le := fun z => [(2, .int .i64 side), (3, .pointer (some ⟨b0, 0, none⟩)), (7, .map (some b1)), (14, .pointer (some ⟨r1, 0, none⟩))]) (Le := fun z => itE r1 b es cl z.tk z.o :: .obj b1 (.map z.es z.c) :: .blk b0 111 (cardC f cf A n c) :: poolE 94 z.N z.mn none :: roM b es cl :: R) (μ := fun z => z.ts.length) ⟨N, mn, [], #[], 0, [], ns, ns.map ndKV, none⟩ ⟨.refl _, .refl _, PlI.start hP⟩ (by repeat (first | exact trivial | refine ⟨rfl, ?_⟩)) (by repeat (first | exact SubL.nil | (apply SubL.cons; (repeat (first | exact At.here | apply At.there))) | exact SubL.refl _ | apply SubL.skip)) (fun z hz => ?_)
  obtain ⟨hzd, hzt, hzp⟩ := hz
  refine sq (h := ?_)
  refine rg (h := ?_)
  refine nxtM (hs := hC.s) (h := fun o2 tk2 ho2 => ?_)
  refine WL.y (hy := exN) (h := ?_)
  refine nl (h := ?_)
  refine q_seq (h := ?_)
  refine sq (h := ?_)
  refine cd (by exact rfl) (fun h0 => ?_) (fun h0 => ?_)
  · skip
    obtain ⟨kv, rfl⟩ := Option.isSome_iff_exists.1 h0
    rcases todo_nd hzt ho2 with ⟨e, _⟩ | ⟨x, ts', e, hts, htk⟩
    · cases e
    obtain rfl := Option.some.inj e
    have hxn : x ∈ ns := hzd.subset (List.mem_append.2 (.inr (hts.symm.subset List.mem_cons_self)))
    refine skp (h := ?_)
    refine q_seq (h := ?_)
    refine bk (h := ?_)
    refine sq (h := ?_)
    refine rg (h := ?_)
    refine WL.y (hy := entM (hs := hC.s)) (h := ?_)
    refine WL.y (hy := ex) (h := ?_)
    refine WL.y (hy := asg) (h := ?_)
    refine nl (h := ?_)
    refine q_seq (h := ?_)
    refine sq (h := ?_)
    refine rg (h := ?_)
    refine WL.y (hy := mv) (h := ?_)
    refine nl (h := ?_)
    refine q_seq (h := ?_)
    refine bk (h := ?_)
    refine lp (X := PZ3) (I := fun v => v.k ≤ 2 ∧ PlI f N mn ns side K (stepI f (toC mn z.dn) side ++ partE f side (ndE mn x) v.k) v.N v.mn v.ns v.es v.c) (le := fun v => [(2, .int .i64 side), (3, .pointer (some ⟨b0, 0, none⟩)), (7, .map (some b1)), (14, .pointer (some ⟨r1, 0, none⟩)), (9, bp x.b), (19, .int .i64 v.k)]) (Le := fun v => itE r1 b es cl tk2 (some (ndKV x)) :: .obj b1 (.map v.es v.c) :: .blk b0 111 (cardC f cf A n c) :: poolE 94 v.N v.mn none :: roM b es cl :: R) (μ := fun v => 2 - v.k) ⟨z.N, z.mn, z.ns, z.es, z.c, 0⟩ ⟨Nat.zero_le _, hzp.skip rfl⟩ (by repeat (first | exact trivial | refine ⟨rfl, ?_⟩)) (by repeat (first | exact SubL.nil | (apply SubL.cons; (repeat (first | exact At.here | apply At.there))) | exact SubL.refl _ | apply SubL.skip)) (fun v hv0 => ?_)
    obtain ⟨hvk, hv⟩ := hv0
    refine sq (h := ?_)
    refine rg (h := ?_)
    refine WL.y (hy := lss) (h := ?_)
    refine nl (h := ?_)
    refine q_seq (h := ?_)
    refine sq (h := ?_)
    refine cd (by exact rfl) (fun h1 => ?_) (fun h1 => ?_)
    · skip
      have hk2 : v.k < 2 := by simp only [decide_eq_true_eq] at h1; omega
      have hp : ((v.k : Nat) : Int) = 0 ∨ ((v.k : Nat) : Int) = 1 := by omega
      refine skp (h := ?_)
      refine q_seq (h := ?_)
      refine sq (h := ?_)
      refine bk (h := ?_)
      refine sq (h := ?_)
      refine rg (h := ?_)
      refine WL.y (hy := mv) (h := ?_)
      refine WL.y (hy := asg) (h := ?_)
      refine nl (h := ?_)
      refine q_seq (h := ?_)
      refine sq (h := ?_)
      refine sq (h := ?_)
      refine rg (h := ?_)
      refine WL.y (hy := mv) (h := ?_)
      refine WL.y (hy := neq) (h := ?_)
      refine WL.y (hy := mv) (h := ?_)
      apply brAnd 4 24 28 (by exact rfl)
      · intro hb2
        refine un (h := ?_)
        refine WL.y (hy := mv) (h := ?_)
        refine un (h := ?_)
        refine WL.y (hy := mv) (h := ?_)
        refine un (h := ?_)
        refine WL.y (hy := neq) (h := ?_)
        refine WL.y (hy := (by first | exact pkT | exact pkF)) (h := ?_)
        exact mg (by repeat (first | exact trivial | refine ⟨rfl, ?_⟩ | refine ⟨by rw [hb2]; rfl, ?_⟩)) (by repeat (first | exact SubL.nil | (apply SubL.cons; (repeat (first | exact At.here | apply At.there))) | exact SubL.refl _ | apply SubL.skip))
      · intro hb2
        repeat (first | refine un (h := ?_) | refine sk (h := ?_) | refine WL.y (hy := pkF) (h := ?_) | refine WL.y (hy := pkT) (h := ?_))
        exact mg (by repeat (first | exact trivial | refine ⟨rfl, ?_⟩ | refine ⟨by rw [hb2]; rfl, ?_⟩)) (by repeat (first | exact SubL.nil | (apply SubL.cons; (repeat (first | exact At.here | apply At.there))) | exact SubL.refl _ | apply SubL.skip))
      refine nl (h := ?_)
      refine q_seq (h := ?_)
      refine cd (by exact rfl) (fun h3 => ?_) (fun h3 => ?_)
      · skip
        have hgo : goE f side (ndE mn x) ((v.k : Nat) : Int) = [] := by
          unfold goE
          rw [if_neg]
          have h' : (!decide (side = -1) && !decide (side = (v.k : Int))) = true := h3
          simp only [Bool.and_eq_true, Bool.not_eq_true', decide_eq_false_iff_not] at h'
          omega
        refine et (h := ?_)
        refine q_then_exit (h := ?_)
        refine q_blk_hit (h := ?_)
        refine q_seq (h := ?_)
        refine rg (h := ?_)
        refine WL.y (hy := addI) (h := ?_)
        refine WL.y (hy := mv) (h := ?_)
        refine nl (h := ?_)
        first
          | (refine rn (x := v) ⟨v.N, v.mn, v.ns, v.es, v.c, v.k + 1⟩ ⟨by dsimp only; omega, by
              show PlI f N mn ns side K (_ ++ (partE f side (ndE mn x) v.k ++ goE f side (ndE mn x) ((v.k : Nat) : Int))) _ _ _ _ _
              rw [hgo, List.append_nil]; exact hv⟩ (by dsimp only; omega) (by repeat (first | exact trivial | refine ⟨rfl, ?_⟩)) (by repeat (first | exact SubL.nil | (apply SubL.cons; (repeat (first | exact At.here | apply At.there))) | exact SubL.refl _ | apply SubL.skip)))
          | (refine rn (x := v) ⟨_, _, putNs v.ns ⟨k1, u, some x.b, ((v.k : Nat) : Int)⟩, q.1, q.2, v.k + 1⟩ ⟨by dsimp only; omega, by
              show PlI f N mn ns side K (_ ++ (partE f side (ndE mn x) v.k ++ goE f side (ndE mn x) ((v.k : Nat) : Int))) _ _ _ _ _
              rw [← List.append_assoc]; exact hv.point hP hC.sub hxn hp hsd hu hk1 hq⟩ (by dsimp only; omega) (by repeat (first | exact trivial | refine ⟨rfl, ?_⟩)) (by repeat (first | exact SubL.nil | (apply SubL.cons; (repeat (first | exact At.here | apply At.there))) | exact SubL.refl _ | apply SubL.skip)))
      · skip
        have hsd : side = -1 ∨ side = ((v.k : Nat) : Int) := by
          have h' : (!decide (side = -1) && !decide (side = (v.k : Int))) = false := h3
          simp only [Bool.and_eq_false_iff, Bool.not_eq_false', decide_eq_true_eq] at h'
          exact h'
        refine skp (h := ?_)
        refine q_seq (h := ?_)
        refine sq (h := ?_)
        refine rg (h := ?_)
        refine WL.y (hy := (by first | exact ldA | exact ldEA)) (h := ?_)
        refine WL.y (hy := mv) (h := ?_)
        refine WL.y (hy := mv) (h := ?_)
        refine clT (hc := T_nextO f hf cf A n c v.N v.mn x ((v.k : Nat) : Int) hp (K + 1) (by omega) hv.ok (hv.sub x (hC.sub x hxn))) (h := fun o4 ho4 => ?_)
        refine WL.y (hy := asg) (h := ?_)
        refine nl (h := ?_)
        refine q_seq (h := ?_)
        refine sq (h := ?_)
        refine rg (h := ?_)
        refine WL.y (hy := mv) (h := ?_)
        refine WL.y (hy := neqN (by kernel_rfl)) (h := ?_)
        refine nl (h := ?_)
        refine q_seq (h := ?_)
        refine cd (by exact rfl) (fun h4 => ?_) (fun h4 => ?_)
        · skip
          obtain ⟨k1, rfl⟩ := Option.isSome_iff_exists.1 h4
          obtain ⟨⟨u, hu⟩, hk1⟩ := ho4
          have hXN : v.N ⊆ addN f v.N x ((v.k : Nat) : Int) (some k1) := by simp only [addN, hu]; exact fun y hy => List.mem_cons_of_mem _ hy
          have eN : addN f v.N x ((v.k : Nat) : Int) (some k1) = ⟨k1, u, some x.b, ((v.k : Nat) : Int)⟩ :: v.N := by simp only [addN, hu]
          rw [eN]
          refine rg (h := ?_)
          refine WL.y (hy := mv) (h := ?_)
          refine WL.y (hy := mv) (h := ?_)
          refine clT (hc := T_put (⟨k1, u, some x.b, ((v.k : Nat) : Int)⟩ :: v.N) v.ns (addM v.mn x (some k1)) ⟨k1, u, some x.b, ((v.k : Nat) : Int)⟩ b1 v.es v.c hv.cr.m hv.cr.s (by rw [List.map_cons]; exact List.nodup_cons.2 ⟨fun hm => by obtain ⟨y, hy, e⟩ := List.mem_map.1 hm; exact hk1 y hy e, hv.ok.nd⟩) (fun y hy => by
            rcases List.mem_cons.1 hy with rfl | hy
            · exact (SpBd.step ((hP.ok x (hC.sub x hxn)).bd hf) (hP.ok x (hC.sub x hxn)).k0 (nxt_top hu) _ |> fun h => by rw [nxt_step hu] at h; exact h.len hf)
            · exact (hv.ok.ok y hy).len hf) (fun y hy => List.mem_cons_of_mem _ (hv.cr.sub y hy)) List.mem_cons_self) (h := fun q hq => ?_)
          refine nl (h := ?_)
          refine q_blk_norm (h := ?_)
          refine q_seq (h := ?_)
          refine rg (h := ?_)
          refine WL.y (hy := addI) (h := ?_)
          refine WL.y (hy := mv) (h := ?_)
          refine nl (h := ?_)
          first
            | (refine rn (x := v) ⟨v.N, v.mn, v.ns, v.es, v.c, v.k + 1⟩ ⟨by dsimp only; omega, by
                show PlI f N mn ns side K (_ ++ (partE f side (ndE mn x) v.k ++ goE f side (ndE mn x) ((v.k : Nat) : Int))) _ _ _ _ _
                rw [hgo, List.append_nil]; exact hv⟩ (by dsimp only; omega) (by repeat (first | exact trivial | refine ⟨rfl, ?_⟩)) (by repeat (first | exact SubL.nil | (apply SubL.cons; (repeat (first | exact At.here | apply At.there))) | exact SubL.refl _ | apply SubL.skip)))
            | (refine rn (x := v) ⟨_, _, putNs v.ns ⟨k1, u, some x.b, ((v.k : Nat) : Int)⟩, q.1, q.2, v.k + 1⟩ ⟨by dsimp only; omega, by
                show PlI f N mn ns side K (_ ++ (partE f side (ndE mn x) v.k ++ goE f side (ndE mn x) ((v.k : Nat) : Int))) _ _ _ _ _
                rw [← List.append_assoc]; exact hv.point hP hC.sub hxn hp hsd hu hk1 hq⟩ (by dsimp only; omega) (by repeat (first | exact trivial | refine ⟨rfl, ?_⟩)) (by repeat (first | exact SubL.nil | (apply SubL.cons; (repeat (first | exact At.here | apply At.there))) | exact SubL.refl _ | apply SubL.skip)))
        · skip
          have ho5 : o4 = none := by simpa using h4
          subst ho5
          have hgo : goE f side (ndE mn x) ((v.k : Nat) : Int) = [] := by
            unfold goE
            rw [if_pos hsd]; simp only [show nxtS f x.s ((v.k : Nat) : Int) = none from ho4]
          refine skp (h := ?_)
          refine q_blk_norm (h := ?_)
          refine q_seq (h := ?_)
          refine rg (h := ?_)
          refine WL.y (hy := addI) (h := ?_)
          refine WL.y (hy := mv) (h := ?_)
          refine nl (h := ?_)
          first
            | (refine rn (x := v) ⟨v.N, v.mn, v.ns, v.es, v.c, v.k + 1⟩ ⟨by dsimp only; omega, by
                show PlI f N mn ns side K (_ ++ (partE f side (ndE mn x) v.k ++ goE f side (ndE mn x) ((v.k : Nat) : Int))) _ _ _ _ _
                rw [hgo, List.append_nil]; exact hv⟩ (by dsimp only; omega) (by repeat (first | exact trivial | refine ⟨rfl, ?_⟩)) (by repeat (first | exact SubL.nil | (apply SubL.cons; (repeat (first | exact At.here | apply At.there))) | exact SubL.refl _ | apply SubL.skip)))
            | (refine rn (x := v) ⟨_, _, putNs v.ns ⟨k1, u, some x.b, ((v.k : Nat) : Int)⟩, q.1, q.2, v.k + 1⟩ ⟨by dsimp only; omega, by
                show PlI f N mn ns side K (_ ++ (partE f side (ndE mn x) v.k ++ goE f side (ndE mn x) ((v.k : Nat) : Int))) _ _ _ _ _
                rw [← List.append_assoc]; exact hv.point hP hC.sub hxn hp hsd hu hk1 hq⟩ (by dsimp only; omega) (by repeat (first | exact trivial | refine ⟨rfl, ?_⟩)) (by repeat (first | exact SubL.nil | (apply SubL.cons; (repeat (first | exact At.here | apply At.there))) | exact SubL.refl _ | apply SubL.skip)))
    · skip
      have hk2 : v.k = 2 := by simp only [decide_eq_false_iff_not] at h1; omega
      refine et (h := ?_)
      refine q_then_exit (h := ?_)
      refine q_then_exit (h := ?_)
      refine q_blk_hit (h := ?_)
      refine q_blk_norm (h := ?_)
      refine rn (x := z) ⟨v.N, v.mn, v.ns, v.es, v.c, z.dn ++ [x], ts', tk2, some (ndKV x)⟩ ⟨by rw [List.append_assoc]; exact ((List.Perm.append_left z.dn (hts.symm)).trans hzd), htk, by rw [stepI_snoc]; rw [hk2] at hv; exact hv⟩ (by have := hts.length_eq; rw [List.length_cons] at this; dsimp only; omega) (by repeat (first | exact trivial | refine ⟨rfl, ?_⟩)) (by repeat (first | exact SubL.nil | (apply SubL.cons; (repeat (first | exact At.here | apply At.there))) | exact SubL.refl _ | apply SubL.skip))
  · skip
    have ho3 : o2 = none := by simpa using h0
    have hts : z.ts = [] := by
      rcases todo_nd hzt ho2 with ⟨_, h9, _⟩ | ⟨x, ts', e, _⟩
      · exact h9
      · rw [ho3] at e; cases e
    refine et (h := ?_)
    refine q_then_exit (h := ?_)
    refine q_then_exit (h := ?_)
    refine q_blk_hit (h := ?_)
    refine q_seq (h := ?_)
    refine sq (h := ?_)
    refine rg (h := ?_)
    refine WL.y (hy := mv) (h := ?_)
    refine WL.y (hy := asg) (h := ?_)
    refine nl (h := ?_)
    refine q_seq (h := ?_)
    refine rtn (h := ?_)
    refine q_ret (hR := ?_)
    exact fun w hS => ⟨⟨z.N, z.mn, z.ns, b1, z.es, z.c⟩, ⟨z.dn, by rw [hts, List.append_nil] at hzd; exact hzd, hzp⟩, rfl, hS.sub (by repeat (first | exact SubL.nil | (apply SubL.cons; (repeat (first | exact At.here | apply At.there))) | exact SubL.refl _ | apply SubL.skip))⟩
end Go.Proofs.YtpejgebcmhmpaaaGreat

namespace Go.Proofs.YtpejgebcmhmpaaaGreat
open Go Go.RowKit

def RowF (N ns N' : List Nd) (y : Nd) (j : Nat) : Prop := ∃ x ∈ ns, ∃ r p, RowN N x r ∧ RowN N' y (r ++ p) ∧ y.s.first = x.s.first ∧ p.length = j
theorem RowF.mono {N ns N' N2 : List Nd} {y : Nd} {j : Nat} (h : RowF N ns N' y j) (hs : ∀ z ∈ N', z ∈ N2) : RowF N ns N2 y j := by
  obtain ⟨x, hx, r, p, h1, h2, h3⟩ := h
  exact ⟨x, hx, r, p, h1, h2.mono hs, h3⟩
structure MsI (f : Fmt) (N : List Nd) (mn : Nat → Pr) (ns : List Nd) (a K : Int) (k : Nat) (cs : List Nd) (esC : Array MapEntry) (cC : Nat) (l : List En) (N' : List Nd) (mn' : Nat → Pr) (ns' : List Nd) (es' : Array MapEntry) (c' : Nat) : Prop where
  ok : PoolOk f N' mn' (K + (k : Int))
  sub : ∀ y ∈ N, y ∈ N'
  mnE : ∀ y ∈ N, mn' y.b = mn y.b
  cr : CrIs N' ns' es' c'
  cur : CrIs N' cs esC cC
  new : ∀ y ∈ ns', (∀ z ∈ N, z.b ≠ y.b) ∧ ∀ z ∈ cs, z.b ≠ y.b
  csP : (toC mn' cs).Perm (iterC f (toC mn ns) k)
  csR : ∀ y ∈ cs, RowF N ns N' y k
  outR : ∀ y ∈ ns', ∃ j : Nat, a ≤ (j : Int) ∧ j ≤ k ∧ RowF N ns N' y j
  eqC : toC mn' ns' = normC l
section
variable {f : Fmt} {N : List Nd} {mn : Nat → Pr} {ns : List Nd} {a K : Int} {k : Nat} {cs : List Nd} {esC : Array MapEntry} {cC : Nat} {l : List En} {N' : List Nd} {mn' : Nat → Pr} {ns' : List Nd} {es' : Array MapEntry} {c' : Nat}
theorem MsI.start (hP : PoolOk f N mn K) (hC : CrIs N ns es' c') : MsI f N mn ns a K 0 ns es' c' [] N mn [] #[] 0 :=
  ⟨hP.up (by omega), fun y hy => hy, fun y hy => rfl, CrIs.nil N, hC, fun y hy => (by cases hy), .refl _, fun y hy => by
    obtain ⟨r, hr, _⟩ := (hP.ok y (hC.sub y hy)).row
    exact ⟨y, hy, r, [], hr, by rw [List.append_nil]; exact hr, rfl, rfl⟩, fun y hy => (by cases hy), rfl⟩
theorem MsI.copy (h : MsI f N mn ns a K k cs esC cC l N' mn' ns' es' c') (ha : a ≤ (k : Int)) {x : Nd} (hx : x ∈ cs) {k0 : Nat} (hk0 : ∀ z ∈ N', z.b ≠ k0) {es2 : Array MapEntry} {c2 : Nat} (hm : MapIs es2 (crE (putNs ns' ⟨k0, x.s, x.bf, x.sd⟩)) ∧ Stm es2 c2) :
    MsI f N mn ns a K k cs esC cC (l ++ [ndE mn' x]) (⟨k0, x.s, x.bf, x.sd⟩ :: N') (putM ns' (upN mn' k0 (mn' x.b)) ⟨k0, x.s, x.bf, x.sd⟩) (putNs ns' ⟨k0, x.s, x.bf, x.sd⟩) es2 c2 ∧ ∀ z ∈ cs, putM ns' (upN mn' k0 (mn' x.b)) ⟨k0, x.s, x.bf, x.sd⟩ z.b = mn' z.b := by
  have hxN := h.cur.sub x hx
  have hok := h.ok.copy (y := ⟨k0, x.s, x.bf, x.sd⟩) hxN hk0 rfl rfl rfl
  have hup : ∀ z ∈ N', z ∈ (⟨k0, x.s, x.bf, x.sd⟩ :: N' : List Nd) := fun z hz => List.mem_cons_of_mem _ hz
  have hcm : ∀ z ∈ cs, putM ns' (upN mn' k0 (mn' x.b)) ⟨k0, x.s, x.bf, x.sd⟩ z.b = mn' z.b := fun z hz => by
    rw [putM_other fun y hy e => (h.new y hy).2 z hz e.symm, upN_other (hk0 z (h.cur.sub z hz))]
  refine ⟨⟨putM_ok hok (fun y hy => hup y (h.cr.sub y hy)) List.mem_cons_self, fun y hy => hup y (h.sub y hy), fun y hy => ?_, (h.cr.up hup).put List.mem_cons_self hm, h.cur.up hup, fun y hy => ?_, ?_, fun y hy => (h.csR y hy).mono hup, fun y hy => ?_, ?_⟩, hcm⟩
  · rw [putM_other fun z hz e => (h.new z hz).1 y hy e.symm, upN_other (hk0 y (h.sub y hy)), h.mnE y hy]
  · rcases putNs_mem hy with h5 | rfl
    · exact h.new y h5
    · exact ⟨fun z hz => hk0 z (h.sub z hz), fun z hz => hk0 z (h.cur.sub z hz)⟩
  · rw [toC_congr hcm]; exact h.csP
  · rcases putNs_mem hy with h5 | rfl
    · obtain ⟨j, h6, h7, h8⟩ := h.outR y h5
      exact ⟨j, h6, h7, h8.mono hup⟩
    · obtain ⟨x0, hx0, r, p, h6, h7, h8, h9⟩ := h.csR x hx
      exact ⟨k, ha, Nat.le_refl _, x0, hx0, r, p, h6, (h7.copy (y := ⟨k0, x.s, x.bf, x.sd⟩) rfl rfl).mono hup, h8, h9⟩
  · rw [norm_snoc, ← h.eqC, put_toC h.cr.keys (fun y hy z hz e => nd_one h.ok.nd (h.cr.sub y hy) (h.cr.sub z hz) e)]
    rw [toC_congr (mn := mn') fun y hy => upN_other (hk0 y (h.cr.sub y hy))]
    congr 1
    show (x.s, ((upN mn' k0 _ k0).1, (upN mn' k0 _ k0).2, (0 : Int))) = _
    rw [upN_same]
theorem MsI.play (h : MsI f N mn ns a K k cs esC cC l N' mn' ns' es' c') {dn cs2 N2 : List Nd} {mn2 : Nat → Pr} {es2 : Array MapEntry} {c2 : Nat} (hd : dn.Perm cs) (hq : PlI f N' mn' cs (-1) (K + (k : Int)) (stepI f (toC mn' dn) (-1)) N2 mn2 cs2 es2 c2) : MsI f N mn ns a K (k + 1) cs2 es2 c2 l N2 mn2 ns' es' c' := by
  refine ⟨by rw [show K + ((k + 1 : Nat) : Int) = K + (k : Int) + 1 by omega]; exact hq.ok, fun y hy => hq.sub y (h.sub y hy), fun y hy => by rw [hq.mn y (h.sub y hy), h.mnE y hy], h.cr.up hq.sub, hq.cr, fun y hy => ⟨(h.new y hy).1, fun z hz e => hq.new z hz y (h.cr.sub y hy) e.symm⟩, ?_, fun y hy => ?_, fun y hy => ?_, ?_⟩
  · rw [hq.toC]
    show (normC _).Perm (normC (stepI f (iterC f (toC mn ns) k) (-1)))
    have hp : (toC mn' dn).Perm (iterC f (toC mn ns) k) := (hd.map _).trans h.csP
    exact norm_perm (hp.flatMap_right _)
  · obtain ⟨x, hx, h1, h2, h3, h4⟩ := hq.fr y hy
    obtain ⟨x0, hx0, r, p, h5, h6, h7, h8⟩ := h.csR x hx
    refine ⟨x0, hx0, r, p ++ [y.sd], h5, ?_, ?_, by rw [List.length_append, h8]; rfl⟩
    · rw [← List.append_assoc]
      exact .snoc (hq.sub x (h.cur.sub x hx)) h1 (h6.mono hq.sub)
    · rw [← h7, ← nxt_step h4, step_first]
  · obtain ⟨j, h1, h2, h3⟩ := h.outR y hy
    exact ⟨j, h1, by omega, h3.mono hq.sub⟩
  · rw [toC_congr fun y hy => hq.mn y (h.cr.sub y hy)]; exact h.eqC
structure RdOk (f : Fmt) (N : List Nd) (mn : Nat → Pr) (ns : List Nd) (t : Nt) (K : Int) (q : PR) : Prop where
  ok : PoolOk f q.N q.mn (K + mostN t + 1)
  sub : ∀ y ∈ N, y ∈ q.N
  mnE : ∀ y ∈ N, q.mn y.b = mn y.b
  cr : CrIs q.N q.ns q.es q.c
  eqC : (toC q.mn q.ns).Perm (afterC f (toC mn ns) t)
  fr : ∀ y ∈ q.ns, ∃ x ∈ ns, ∃ r p, RowN N x r ∧ RowN q.N y (r ++ p) ∧ y.s.first = x.s.first ∧ QOk f t y.s p
theorem rd_noted {t : Nt} (hP : PoolOk f N mn K) (hC : CrIs N ns es' c') (ht : t.kind = 1) {q : PR} {dn : List Nd} (hd : dn.Perm ns) (hq : PlI f N mn ns t.side K (stepI f (toC mn dn) t.side) q.N q.mn q.ns q.es q.c) : RdOk f N mn ns t K q := by
  refine ⟨hq.ok.up (by unfold mostN; rw [if_pos ht]; omega), hq.sub, hq.mn, hq.cr, ?_, fun y hy => ?_⟩
  · rw [hq.toC, afterC, if_pos ht]
    exact norm_perm ((hd.map (ndE mn)).flatMap_right _)
  · obtain ⟨x, hx, h1, h2, h3, h4⟩ := hq.fr y hy
    obtain ⟨r, hr, _⟩ := (hP.ok x (hC.sub x hx)).row
    refine ⟨x, hx, r, [y.sd], hr, .snoc (hq.sub x (hC.sub x hx)) h1 (hr.mono hq.sub), by rw [← nxt_step h4, step_first], ?_⟩
    unfold QOk
    rw [if_pos ht]
    exact ⟨y.sd, rfl, h3⟩
theorem rd_missed {t : Nt} {B : Nat} (h1 : t.kind = 2) (hB : t.pair.2 = (B : Int)) {b' : Nat} (hl : l.Perm (missI f (toC mn ns) t.pair.1 (B + 1))) (h : MsI f N mn ns t.pair.1 K (B + 1) cs esC cC l N' mn' ns' es' c') (hj : ∀ y ∈ ns', ∃ j : Nat, t.pair.1 ≤ (j : Int) ∧ j ≤ B ∧ RowF N ns N' y j) : RdOk f N mn ns t K ⟨N', mn', ns', b', es', c'⟩ := by
  have hne : t.kind ≠ 1 := by omega
  refine ⟨h.ok.up (by unfold mostN; rw [if_neg hne, if_pos h1]; omega), h.sub, h.mnE, h.cr, ?_, fun y hy => ?_⟩
  · show (Go.Proofs.YtpejgebcmhmpaaaGreat.toC mn' ns').Perm _
    rw [h.eqC, afterC, if_neg hne, if_pos h1, missC, hB, Int.toNat_natCast]
    exact norm_perm hl
  · obtain ⟨j, h3, h4, x, hx, r, p, h5, h6, h7, h8⟩ := hj y hy
    refine ⟨x, hx, r, p, h5, h6, h7, ?_⟩
    unfold QOk
    rw [if_neg hne, if_pos h1]
    omega
def tstN (f : Fmt) (t : Nt) (dn : List Nd) : List Nd := dn.filter fun x => holdS f t x.s
theorem tst_toC (t : Nt) (dn : List Nd) : toC mn (tstN f t dn) = testC f t (toC mn dn) := by
  unfold tstN testC toC
  rw [List.filter_map]; rfl
theorem tst_snoc (t : Nt) (dn : List Nd) (x : Nd) : tstN f t (dn ++ [x]) = bif holdS f t x.s then tstN f t dn ++ [x] else tstN f t dn := by
  unfold tstN
  rw [List.filter_append]
  cases hh : holdS f t x.s
  · simp [hh]
  · simp [hh]
theorem get_fresh {dn ts : List Nd} {x : Nd} (hk : (spotKs ns).Nodup) (hp : (dn ++ x :: ts).Perm ns) (t : Nt) : getN (tstN f t dn) x.s = none := by
  refine List.find?_eq_none.2 fun y hy => ?_
  have hy' : y ∈ dn := (List.mem_filter.1 hy).1
  have hn : (spotKs (dn ++ x :: ts)).Nodup := (hp.map _).nodup_iff.2 hk
  unfold spotKs at hn
  rw [List.map_append, List.nodup_append] at hn
  rw [decide_eq_true_eq]
  exact hn.2.2 y.s (List.mem_map.2 ⟨y, hy', rfl⟩) x.s (List.mem_map.2 ⟨x, List.mem_cons_self, rfl⟩)
theorem putM_none {x : Nd} (h : getN ns x.s = none) : putM ns mn x = mn := by unfold putM; rw [h]
theorem putNs_none {x : Nd} (h : getN ns x.s = none) : putNs ns x = ns ++ [x] := by unfold putNs; rw [h]
theorem rd_test {t : Nt} (hP : PoolOk f N mn K) (hC : CrIs N ns esC cC) (h1 : t.kind ≠ 1) (h2 : t.kind ≠ 2) {b' : Nat} {dn : List Nd} (hd : dn.Perm ns) (hc : CrIs N (tstN f t dn) es' c') : RdOk f N mn ns t K ⟨N, mn, tstN f t dn, b', es', c'⟩ := by
  refine ⟨hP.up (by unfold mostN; rw [if_neg h1, if_neg h2]; omega), fun y hy => hy, fun y hy => rfl, hc, ?_, fun y hy => ?_⟩
  · show (Go.Proofs.YtpejgebcmhmpaaaGreat.toC mn (tstN f t dn)).Perm _
    rw [tst_toC, afterC, if_neg h1, if_neg h2]
    exact (hd.map _).filter _
  · obtain ⟨h3, h4⟩ := List.mem_filter.1 hy
    have hyn := hd.subset h3
    obtain ⟨r, hr, _⟩ := (hP.ok y (hC.sub y hyn)).row
    refine ⟨y, hyn, r, [], hr, by rw [List.append_nil]; exact hr, rfl, ?_⟩
    unfold QOk
    rw [if_neg h1, if_neg h2]
    exact ⟨rfl, h4⟩
end
end Go.Proofs.YtpejgebcmhmpaaaGreat

namespace Go.Proofs.YtpejgebcmhmpaaaGreat
open Go Go.RowKit

structure MZ where
  (N : List Nd) (mn : Nat → Pr) (ns : List Nd) (es : Array MapEntry) (c : Nat) (cs : List Nd) (cb : Nat) (esC : Array MapEntry) (cC : Nat) (l : List En) (k : Nat)
structure MZ2 where
  (N : List Nd) (mn : Nat → Pr) (ns : List Nd) (es : Array MapEntry) (c : Nat) (dn ts : List Nd) (tk : List KV) (o : Option KV)
structure MZ3 where
  (es : Array MapEntry) (c : Nat) (dn ts : List Nd) (tk : List KV) (o : Option KV)
theorem T_read_noted (f : Fmt) (hf : f.Ok) (cf : Int) (A : Option Addr) (n c : Nat) (N ns : List Nd) (mn : Nat → Pr) (t : Nt) (K : Int) (hK : K ≤ 500) (hP : PoolOk f N mn K) (b : Nat) (es : Array MapEntry) (cl : Nat) (hC : CrIs N ns es cl) (ht : t.kind = 1) :
    Tr Tryz.prog 59 [.agg (cardC f cf A n c).toArray, .map (some b), t.val] [poolE 94 N mn none, roM b es cl] (RdOk f N mn ns t K) (fun q => .map (some q.b)) (fun q => [poolE 94 q.N q.mn none, .obj q.b (.map q.es q.c), roM b es cl]) := by
  refine ⟨fun w0 w R hst => ?_⟩
  refine en Tryz.func59 Tryz.ntmps59 hst (h := fun F => ?_)
  refine sq (h := ?_)
  refine rg (h := ?_)
  refine bxA (h := fun b0 => ?_)
  refine bxA (h := fun b1 => ?_)
  refine WL.y (hy := asg) (h := ?_)
  refine nl (h := ?_)
  refine q_seq (h := ?_)
  refine sq (h := ?_)
  refine rg (h := ?_)
  refine mkm (h := fun b2 => ?_)
  refine WL.y (hy := asg) (h := ?_)
  refine nl (h := ?_)
  refine q_seq (h := ?_)
  refine sq (h := ?_)
  refine sq (h := ?_)
  refine rg (h := ?_)
  refine WL.y (hy := (by first | exact fa | exact faE)) (h := ?_)
  refine WL.y (hy := (by first | exact ld | exact ldE)) (h := ?_)
  refine nl (h := ?_)
  refine q_seq (h := ?_)
  refine bk (h := ?_)
  refine sq (h := ?_)
  refine rg (h := ?_)
  refine WL.y (hy := eql) (h := ?_)
  refine WL.y (hy := asg) (h := ?_)
  refine nl (h := ?_)
  refine q_seq (h := ?_)
  refine cd (by exact rfl) (fun h0 => ?_) (fun h0 => ?_)
  · skip
    refine sq (h := ?_)
    refine rg (h := ?_)
    refine WL.y (hy := (by first | exact ldA | exact ldEA)) (h := ?_)
    refine WL.y (hy := mv) (h := ?_)
    refine WL.y (hy := (by first | exact fa | exact faE)) (h := ?_)
    refine WL.y (hy := (by first | exact ld | exact ldE)) (h := ?_)
    refine clT (hc := T_reader_play f hf cf A n c N ns mn t.side K (by omega) hP b es cl hC) (h := fun q hq => ?_)
    obtain ⟨dn, hd, hq⟩ := hq
    refine WL.y (hy := asg) (h := ?_)
    refine nl (h := ?_)
    refine q_seq (h := ?_)
    refine rtn (h := ?_)
    refine q_blk_ret (h := ?_)
    refine q_then_ret (h := ?_)
    refine q_ret (hR := ?_)
    exact fun w hS => ⟨q, rd_noted hP hC ht hd hq, rfl, hS.sub (by repeat (first | exact SubL.nil | (apply SubL.cons; (repeat (first | exact At.here | apply At.there))) | exact SubL.refl _ | apply SubL.skip))⟩
  · skip
    exact absurd ht (of_decide_eq_false h0)
set_option maxRecDepth 100000 in
theorem T_read_test (f : Fmt) (hf : f.Ok) (hc0 : chkF f = 0) (cf : Int) (A : Option Addr) (n c : Nat) (N ns : List Nd) (mn : Nat → Pr) (t : Nt) (K : Int) (hK : K ≤ 500) (hP : PoolOk f N mn K) (b : Nat) (es : Array MapEntry) (cl : Nat) (hC : CrIs N ns es cl) (hk1 : t.kind ≠ 1) (hk2 : t.kind ≠ 2) :
    Tr Tryz.prog 59 [.agg (cardC f cf A n c).toArray, .map (some b), t.val] [poolE 94 N mn none, roM b es cl] (RdOk f N mn ns t K) (fun q => .map (some q.b)) (fun q => [poolE 94 q.N q.mn none, .obj q.b (.map q.es q.c), roM b es cl]) := by
  refine ⟨fun w0 w R hst => ?_⟩
  refine en Tryz.func59 Tryz.ntmps59 hst (h := fun F => ?_)
  refine sq (h := ?_)
  refine rg (h := ?_)
  refine bxA (h := fun b0 => ?_)
  refine bxA (h := fun b1 => ?_)
  refine WL.y (hy := asg) (h := ?_)
  refine nl (h := ?_)
  refine q_seq (h := ?_)
  refine sq (h := ?_)
  refine rg (h := ?_)
  refine mkm (h := fun b2 => ?_)
  refine WL.y (hy := asg) (h := ?_)
  refine nl (h := ?_)
  refine q_seq (h := ?_)
  refine sq (h := ?_)
  refine sq (h := ?_)
  refine rg (h := ?_)
  refine WL.y (hy := (by first | exact fa | exact faE)) (h := ?_)
  refine WL.y (hy := (by first | exact ld | exact ldE)) (h := ?_)
  refine nl (h := ?_)
  refine q_seq (h := ?_)
  refine bk (h := ?_)
  refine sq (h := ?_)
  refine rg (h := ?_)
  refine WL.y (hy := eql) (h := ?_)
  refine WL.y (hy := asg) (h := ?_)
  refine nl (h := ?_)
  refine q_seq (h := ?_)
  refine cd (by exact rfl) (fun h0 => ?_) (fun h0 => ?_)
  · skip
    exact absurd (of_decide_eq_true h0) hk1
  · skip
    refine sq (h := ?_)
    refine rg (h := ?_)
    refine WL.y (hy := eql) (h := ?_)
    refine WL.y (hy := asg) (h := ?_)
    refine nl (h := ?_)
    refine q_seq (h := ?_)
    refine cd (by exact rfl) (fun h1 => ?_) (fun h1 => ?_)
    · skip
      exact absurd (of_decide_eq_true h1) hk2
    · skip
      refine sq (h := ?_)
      refine rg (h := ?_)
      refine WL.y (hy := mv) (h := ?_)
      refine rngM (h := fun r1 => ?_)
      rw [cr_kv hC]
      refine nl (h := ?_)
      refine q_seq (h := ?_)
      refine bk (h := ?_)
      refine lp (X := MZ3) (I := fun z => (z.dn ++ z.ts).Perm ns ∧ z.tk.Perm (z.ts.map ndKV) ∧ CrIs N (tstN f t z.dn) z.es z.c) (le := fun z => [(3, .pointer (some ⟨b0, 0, none⟩)), (5, .pointer (some ⟨b1, 0, none⟩)), (7, .map (some b2)), (18, .pointer (some ⟨r1, 0, none⟩))]) (Le := fun z => itE r1 b es cl z.tk z.o :: .obj b2 (.map z.es z.c) :: .blk b1 45 t.cells :: .blk b0 111 (cardC f cf A n c) :: poolE 94 N mn none :: roM b es cl :: R) (μ := fun z => z.ts.length) ⟨#[], 0, [], ns, ns.map ndKV, none⟩ ⟨.refl _, .refl _, CrIs.nil N⟩ (by repeat (first | exact trivial | refine ⟨rfl, ?_⟩)) (by repeat (first | exact SubL.nil | (apply SubL.cons; (repeat (first | exact At.here | apply At.there))) | exact SubL.refl _ | apply SubL.skip)) (fun z hz => ?_)
      obtain ⟨hzd, hzt, hzc⟩ := hz
      refine sq (h := ?_)
      refine rg (h := ?_)
      refine nxtM (hs := hC.s) (h := fun o2 tk2 ho2 => ?_)
      refine WL.y (hy := exN) (h := ?_)
      refine nl (h := ?_)
      refine q_seq (h := ?_)
      refine sq (h := ?_)
      refine cd (by exact rfl) (fun h2 => ?_) (fun h2 => ?_)
      · skip
        obtain ⟨kv, rfl⟩ := Option.isSome_iff_exists.1 h2
        rcases todo_nd hzt ho2 with ⟨e, _⟩ | ⟨x, ts', e, hts, htk⟩
        · cases e
        obtain rfl := Option.some.inj e
        have hxn : x ∈ ns := hzd.subset (List.mem_append.2 (.inr (hts.symm.subset List.mem_cons_self)))
        have hdx : (z.dn ++ x :: ts').Perm ns := ((List.Perm.append_left z.dn hts.symm)).trans hzd
        have hgf := get_fresh (f := f) hC.keys hdx t
        refine skp (h := ?_)
        refine q_seq (h := ?_)
        refine bk (h := ?_)
        refine sq (h := ?_)
        refine rg (h := ?_)
        refine WL.y (hy := entM (hs := hC.s)) (h := ?_)
        refine WL.y (hy := ex) (h := ?_)
        refine WL.y (hy := asg) (h := ?_)
        refine nl (h := ?_)
        refine q_seq (h := ?_)
        refine sq (h := ?_)
        refine rg (h := ?_)
        refine WL.y (hy := (by first | exact ldA | exact ldEA)) (h := ?_)
        refine WL.y (hy := (by first | exact ldA | exact ldEA)) (h := ?_)
        refine WL.y (hy := mv) (h := ?_)
        refine clT (hc := T_reader_holds f hf hc0 cf A n c N mn K (by omega) hP x (hC.sub x hxn) t) (h := fun _ _ => ?_)
        refine nl (h := ?_)
        refine q_seq (h := ?_)
        refine cd (by exact rfl) (fun h3 => ?_) (fun h3 => ?_)
        · skip
          have hH : holdS f t x.s = true := h3
          have hsn : tstN f t (z.dn ++ [x]) = tstN f t z.dn ++ [x] := by rw [tst_snoc, hH]; rfl
          refine rg (h := ?_)
          refine WL.y (hy := mv) (h := ?_)
          refine WL.y (hy := mv) (h := ?_)
          refine clT (hc := T_put N (tstN f t z.dn) mn x b2 z.es z.c hzc.m hzc.s hP.nd (fun y hy => (hP.ok y hy).len hf) hzc.sub (hC.sub x hxn)) (h := fun q hq => ?_)
          rw [putM_none hgf]
          rw [putNs_none hgf, ← hsn] at hq
          refine nl (h := ?_)
          refine q_blk_norm (h := ?_)
          first
            | (refine rn (x := z) ⟨q.1, q.2, z.dn ++ [x], ts', tk2, some (ndKV x)⟩ ⟨by rw [List.append_assoc]; exact hdx, htk, ⟨hq.1, hq.2, fun y hy => hC.sub y (hdx.subset (by rw [hsn] at hy; rcases List.mem_append.1 hy with h9 | h9; exact List.mem_append.2 (.inl (List.mem_filter.1 h9).1); exact List.mem_append.2 (.inr (by rw [List.mem_singleton.1 h9]; exact List.mem_cons_self)))), by rw [hsn, ← putNs_none hgf]; exact putNs_keys hzc.keys⟩⟩ (by have := hts.length_eq; rw [List.length_cons] at this; dsimp only; omega) (by repeat (first | exact trivial | refine ⟨rfl, ?_⟩)) (by repeat (first | exact SubL.nil | (apply SubL.cons; (repeat (first | exact At.here | apply At.there))) | exact SubL.refl _ | apply SubL.skip)))
            | (refine rn (x := z) ⟨z.es, z.c, z.dn ++ [x], ts', tk2, some (ndKV x)⟩ ⟨by rw [List.append_assoc]; exact hdx, htk, by rw [hsn]; exact hzc⟩ (by have := hts.length_eq; rw [List.length_cons] at this; dsimp only; omega) (by repeat (first | exact trivial | refine ⟨rfl, ?_⟩)) (by repeat (first | exact SubL.nil | (apply SubL.cons; (repeat (first | exact At.here | apply At.there))) | exact SubL.refl _ | apply SubL.skip)))
        · skip
          have hH : holdS f t x.s = false := h3
          have hsn : tstN f t (z.dn ++ [x]) = tstN f t z.dn := by rw [tst_snoc, hH]; rfl
          refine skp (h := ?_)
          refine q_blk_norm (h := ?_)
          first
            | (refine rn (x := z) ⟨q.1, q.2, z.dn ++ [x], ts', tk2, some (ndKV x)⟩ ⟨by rw [List.append_assoc]; exact hdx, htk, ⟨hq.1, hq.2, fun y hy => hC.sub y (hdx.subset (by rw [hsn] at hy; rcases List.mem_append.1 hy with h9 | h9; exact List.mem_append.2 (.inl (List.mem_filter.1 h9).1); exact List.mem_append.2 (.inr (by rw [List.mem_singleton.1 h9]; exact List.mem_cons_self)))), by rw [hsn, ← putNs_none hgf]; exact putNs_keys hzc.keys⟩⟩ (by have := hts.length_eq; rw [List.length_cons] at this; dsimp only; omega) (by repeat (first | exact trivial | refine ⟨rfl, ?_⟩)) (by repeat (first | exact SubL.nil | (apply SubL.cons; (repeat (first | exact At.here | apply At.there))) | exact SubL.refl _ | apply SubL.skip)))
            | (refine rn (x := z) ⟨z.es, z.c, z.dn ++ [x], ts', tk2, some (ndKV x)⟩ ⟨by rw [List.append_assoc]; exact hdx, htk, by rw [hsn]; exact hzc⟩ (by have := hts.length_eq; rw [List.length_cons] at this; dsimp only; omega) (by repeat (first | exact trivial | refine ⟨rfl, ?_⟩)) (by repeat (first | exact SubL.nil | (apply SubL.cons; (repeat (first | exact At.here | apply At.there))) | exact SubL.refl _ | apply SubL.skip)))
      · skip
        have ho3 : o2 = none := by simpa using h2
        have hts : z.ts = [] := by
          rcases todo_nd hzt ho2 with ⟨_, h9, _⟩ | ⟨x, ts', e, _⟩
          · exact h9
          · rw [ho3] at e; cases e
        refine et (h := ?_)
        refine q_then_exit (h := ?_)
        refine q_then_exit (h := ?_)
        refine q_blk_hit (h := ?_)
        refine q_blk_norm (h := ?_)
        refine q_seq (h := ?_)
        refine sq (h := ?_)
        refine rg (h := ?_)
        refine WL.y (hy := mv) (h := ?_)
        refine WL.y (hy := asg) (h := ?_)
        refine nl (h := ?_)
        refine q_seq (h := ?_)
        refine rtn (h := ?_)
        refine q_ret (hR := ?_)
        exact fun w hS => ⟨⟨N, mn, tstN f t z.dn, b2, z.es, z.c⟩, rd_test hP hC hk1 hk2 (by rw [hts, List.append_nil] at hzd; exact hzd) hzc, rfl, hS.sub (by repeat (first | exact SubL.nil | (apply SubL.cons; (repeat (first | exact At.here | apply At.there))) | exact SubL.refl _ | apply SubL.skip))⟩
theorem ndE_eq {mn mn' : Nat → Pr} {x : Nd} (h : mn' x.b = mn x.b) : ndE mn' x = ndE mn x := by unfold ndE; rw [h]
theorem toC_snoc (mn : Nat → Pr) (dn : List Nd) (x : Nd) : toC mn (dn ++ [x]) = toC mn dn ++ [ndE mn x] := by unfold toC; rw [List.map_append]; rfl
set_option maxRecDepth 100000 in
set_option maxHeartbeats 1000000 in
theorem T_read_missed (f : Fmt) (hf : f.Ok) (cf : Int) (A : Option Addr) (n c : Nat) (N ns : List Nd) (mn : Nat → Pr) (t : Nt) (K : Int) (hK : K ≤ 500) (hP : PoolOk f N mn K) (b : Nat) (es : Array MapEntry) (cl : Nat) (hC : CrIs N ns es cl) (ht : t.kind = 2) (B : Nat) (hB : t.pair.2 = (B : Int)) (hB3 : B ≤ 30) :
    Tr Tryz.prog 59 [.agg (cardC f cf A n c).toArray, .map (some b), t.val] [poolE 94 N mn none, roM b es cl] (RdOk f N mn ns t K) (fun q => .map (some q.b)) (fun q => [poolE 94 q.N q.mn none, .obj q.b (.map q.es q.c), roM b es cl]) := by
  refine ⟨fun w0 w R hst => ?_⟩
  refine en Tryz.func59 Tryz.ntmps59 hst (h := fun F => ?_)
  refine sq (h := ?_)
  refine rg (h := ?_)
  refine bxA (h := fun b0 => ?_)
  refine bxA (h := fun b1 => ?_)
  refine WL.y (hy := asg) (h := ?_)
  refine nl (h := ?_)
  refine q_seq (h := ?_)
  refine sq (h := ?_)
  refine rg (h := ?_)
  refine mkm (h := fun b2 => ?_)
  refine WL.y (hy := asg) (h := ?_)
  refine nl (h := ?_)
  refine q_seq (h := ?_)
  refine sq (h := ?_)
  refine sq (h := ?_)
  refine rg (h := ?_)
  refine WL.y (hy := (by first | exact fa | exact faE)) (h := ?_)
  refine WL.y (hy := (by first | exact ld | exact ldE)) (h := ?_)
  refine nl (h := ?_)
  refine q_seq (h := ?_)
  refine bk (h := ?_)
  refine sq (h := ?_)
  refine rg (h := ?_)
  refine WL.y (hy := eql) (h := ?_)
  refine WL.y (hy := asg) (h := ?_)
  refine nl (h := ?_)
  refine q_seq (h := ?_)
  refine cd (by exact rfl) (fun h0 => ?_) (fun h0 => ?_)
  · skip
    exact absurd (of_decide_eq_true h0) (by omega)
  · skip
    refine sq (h := ?_)
    refine rg (h := ?_)
    refine WL.y (hy := eql) (h := ?_)
    refine WL.y (hy := asg) (h := ?_)
    refine nl (h := ?_)
    refine q_seq (h := ?_)
    refine cd (by exact rfl) (fun h1 => ?_) (fun h1 => ?_)
    · skip
      refine sq (h := ?_)
      refine rg (h := ?_)
      refine WL.y (hy := (by first | exact fa | exact faE)) (h := ?_)
      refine WL.y (hy := (by first | exact fa | exact faE)) (h := ?_)
      refine WL.y (hy := (by first | exact ld | exact ldE)) (h := ?_)
      refine WL.y (hy := addI (hb := by omega)) (h := ?_)
      refine WL.y (hy := mv) (h := ?_)
      refine nl (h := ?_)
      refine q_seq (h := ?_)
      refine bk (h := ?_)
      refine WC.dupM (b := b) (es := es) (c := cl) (by repeat (first | exact At.here | apply At.there)) ?_
      refine lp (X := MZ) (I := fun z => z.k ≤ B + 1 ∧ MsI f N mn ns t.pair.1 K z.k z.cs z.esC z.cC z.l z.N z.mn z.ns z.es z.c ∧ z.l.Perm (missI f (toC mn ns) t.pair.1 z.k) ∧ ∀ y ∈ z.ns, ∃ j : Nat, t.pair.1 ≤ (j : Int) ∧ j + 1 ≤ z.k ∧ RowF N ns z.N y j) (le := fun z => [(1, .map (some z.cb)), (3, .pointer (some ⟨b0, 0, none⟩)), (5, .pointer (some ⟨b1, 0, none⟩)), (7, .map (some b2)), (42, .int .i64 (t.pair.2 + 1)), (43, .int .i64 z.k)]) (Le := fun z => .obj b2 (.map z.es z.c) :: .blk b1 45 t.cells :: .blk b0 111 (cardC f cf A n c) :: poolE 94 z.N z.mn none :: roM z.cb z.esC z.cC :: roM b es cl :: R) (μ := fun z => B + 1 - z.k) ⟨N, mn, [], #[], 0, ns, b, es, cl, [], 0⟩ ⟨Nat.zero_le _, MsI.start hP hC, .refl _, fun y hy => (by cases hy)⟩ (by repeat (first | exact trivial | refine ⟨rfl, ?_⟩)) (by repeat (first | exact SubL.nil | (apply SubL.cons; (repeat (first | exact At.here | apply At.there))) | exact SubL.refl _ | apply SubL.skip)) (fun z hz => ?_)
      obtain ⟨hzk, hzm, hzl, hzj⟩ := hz
      refine sq (h := ?_)
      refine rg (h := ?_)
      refine WL.y (hy := lss) (h := ?_)
      refine nl (h := ?_)
      refine q_seq (h := ?_)
      refine sq (h := ?_)
      refine cd (by exact rfl) (fun h2 => ?_) (fun h2 => ?_)
      · skip
        have hkB : z.k ≤ B := by simp only [decide_eq_true_eq] at h2; omega
        refine skp (h := ?_)
        refine q_seq (h := ?_)
        refine sq (h := ?_)
        refine bk (h := ?_)
        refine sq (h := ?_)
        refine rg (h := ?_)
        refine WL.y (hy := mv) (h := ?_)
        refine WL.y (hy := asg) (h := ?_)
        refine nl (h := ?_)
        refine q_seq (h := ?_)
        refine sq (h := ?_)
        refine sq (h := ?_)
        refine rg (h := ?_)
        refine WL.y (hy := mv) (h := ?_)
        refine WL.y (hy := (by first | exact fa | exact faE)) (h := ?_)
        refine WL.y (hy := (by first | exact fa | exact faE)) (h := ?_)
        refine WL.y (hy := (by first | exact ld | exact ldE)) (h := ?_)
        refine WL.y (hy := geq) (h := ?_)
        refine nl (h := ?_)
        refine q_seq (h := ?_)
        refine cd (by exact rfl) (fun h3 => ?_) (fun h3 => ?_)
        · skip
          have hak : t.pair.1 ≤ (z.k : Int) := of_decide_eq_true h3
          refine sq (h := ?_)
          refine rg (h := ?_)
          refine WL.y (hy := mv) (h := ?_)
          refine rngM (b := z.cb) (es := z.esC) (c := z.cC) (h := fun r1 => ?_)
          rw [cr_kv hzm.cur]
          refine nl (h := ?_)
          refine q_seq (h := ?_)
          refine bk (h := ?_)
          refine lp (X := MZ2) (I := fun v => MsI f N mn ns t.pair.1 K z.k z.cs z.esC z.cC (z.l ++ toC z.mn v.dn) v.N v.mn v.ns v.es v.c ∧ (∀ y ∈ z.cs, v.mn y.b = z.mn y.b) ∧ (v.dn ++ v.ts).Perm z.cs ∧ v.tk.Perm (v.ts.map ndKV)) (le := fun v => [(1, .map (some z.cb)), (3, .pointer (some ⟨b0, 0, none⟩)), (5, .pointer (some ⟨b1, 0, none⟩)), (7, .map (some b2)), (42, .int .i64 (t.pair.2 + 1)), (43, .int .i64 z.k), (52, .pointer (some ⟨r1, 0, none⟩))]) (Le := fun v => itE r1 z.cb z.esC z.cC v.tk v.o :: .obj b2 (.map v.es v.c) :: .blk b1 45 t.cells :: .blk b0 111 (cardC f cf A n c) :: poolE 94 v.N v.mn none :: roM z.cb z.esC z.cC :: roM b es cl :: R) (μ := fun v => v.ts.length) ⟨z.N, z.mn, z.ns, z.es, z.c, [], z.cs, z.cs.map ndKV, none⟩ ⟨by show MsI _ _ _ _ _ _ _ _ _ _ (z.l ++ []) _ _ _ _ _; rw [List.append_nil]; exact hzm, fun y hy => rfl, .refl _, .refl _⟩ (by repeat (first | exact trivial | refine ⟨rfl, ?_⟩)) (by repeat (first | exact SubL.nil | (apply SubL.cons; (repeat (first | exact At.here | apply At.there))) | exact SubL.refl _ | apply SubL.skip)) (fun v hv0 => ?_)
          obtain ⟨hvm, hvc, hvd, hvt⟩ := hv0
          refine sq (h := ?_)
          refine rg (h := ?_)
          refine nxtM (b := z.cb) (es := z.esC) (c := z.cC) (hs := hzm.cur.s) (h := fun o2 tk2 ho2 => ?_)
          refine WL.y (hy := exN) (h := ?_)
          refine nl (h := ?_)
          refine q_seq (h := ?_)
          refine sq (h := ?_)
          refine cd (by exact rfl) (fun h4 => ?_) (fun h4 => ?_)
          · skip
            obtain ⟨kv, rfl⟩ := Option.isSome_iff_exists.1 h4
            rcases todo_nd hvt ho2 with ⟨e, _⟩ | ⟨x, ts', e, hts, htk⟩
            · cases e
            obtain rfl := Option.some.inj e
            have hxn : x ∈ z.cs := hvd.subset (List.mem_append.2 (.inr (hts.symm.subset List.mem_cons_self)))
            refine skp (h := ?_)
            refine q_seq (h := ?_)
            refine bk (h := ?_)
            refine sq (h := ?_)
            refine rg (h := ?_)
            refine WL.y (hy := entM (b := z.cb) (es := z.esC) (c := z.cC) (hs := hzm.cur.s)) (h := ?_)
            refine WL.y (hy := ex) (h := ?_)
            refine WL.y (hy := asg) (h := ?_)
            refine nl (h := ?_)
            refine q_seq (h := ?_)
            refine sq (h := ?_)
            refine rg (h := ?_)
            refine WL.y (hy := mv) (h := ?_)
            refine WL.y (hy := nck) (h := ?_)
            refine WL.y (hy := ldQA (hy := hvm.cur.sub x hxn)) (h := ?_)
            refine al (h := fun b3 => ?_)
            first | refine stA (h := ?_) | refine stEA (h := ?_)
            refine nl (h := ?_)
            refine q_seq (h := ?_)
            refine WC.pNew ⟨b3, x.s, x.bf, x.sd⟩ (v.mn x.b) .here (by repeat (first | exact At.here | apply At.there)) (fun hne => ?_)
            have hcp := hvm.ok.copy (y := ⟨b3, x.s, x.bf, x.sd⟩) (hvm.cur.sub x hxn) hne rfl rfl rfl
            refine rg (h := ?_)
            refine WL.y (hy := mv) (h := ?_)
            refine clT (hc := T_put (⟨b3, x.s, x.bf, x.sd⟩ :: v.N) v.ns (upN v.mn b3 (v.mn x.b)) ⟨b3, x.s, x.bf, x.sd⟩ b2 v.es v.c hvm.cr.m hvm.cr.s hcp.nd (fun y hy => (hcp.ok y hy).len hf) (fun y hy => List.mem_cons_of_mem _ (hvm.cr.sub y hy)) List.mem_cons_self) (h := fun q hq => ?_)
            have hcy := hvm.copy hak hxn hne hq
            refine nl (h := ?_)
            refine q_blk_norm (h := ?_)
            refine rn (x := v) ⟨⟨b3, x.s, x.bf, x.sd⟩ :: v.N, putM v.ns (upN v.mn b3 (v.mn x.b)) ⟨b3, x.s, x.bf, x.sd⟩, putNs v.ns ⟨b3, x.s, x.bf, x.sd⟩, q.1, q.2, v.dn ++ [x], ts', tk2, some (ndKV x)⟩ ⟨by rw [toC_snoc, ← List.append_assoc, ← ndE_eq (hvc x hxn)]; exact hcy.1, fun y hy => (hcy.2 y hy).trans (hvc y hy), by rw [List.append_assoc]; exact ((List.Perm.append_left v.dn hts.symm)).trans hvd, htk⟩ (by have := hts.length_eq; rw [List.length_cons] at this; dsimp only; omega) (by repeat (first | exact trivial | refine ⟨rfl, ?_⟩)) (by repeat (first | exact SubL.nil | (apply SubL.cons; (repeat (first | exact At.here | apply At.there))) | exact SubL.refl _ | apply SubL.skip))
          · skip
            have ho3 : o2 = none := by simpa using h4
            have hts : v.ts = [] := by
              rcases todo_nd hvt ho2 with ⟨_, h9, _⟩ | ⟨x, ts', e, _⟩
              · exact h9
              · rw [ho3] at e; cases e
            have hdn : v.dn.Perm z.cs := by rw [hts, List.append_nil] at hvd; exact hvd
            have hyl : (z.l ++ toC z.mn v.dn).Perm (missI f (toC mn ns) t.pair.1 (z.k + 1)) := by
              rw [missI, if_pos hak]
              exact hzl.append ((hdn.map (ndE z.mn)).trans hzm.csP)
            refine et (h := ?_)
            refine q_then_exit (h := ?_)
            refine q_then_exit (h := ?_)
            refine q_blk_hit (h := ?_)
            refine q_seq (h := ?_)
            refine rg (h := ?_)
            refine WL.y (hy := (by first | exact ldA | exact ldEA)) (h := ?_)
            refine WL.y (hy := mv) (h := ?_)
            first
              | refine clT (hc := T_reader_play f hf cf A n c v.N z.cs v.mn (-1) (K + (z.k : Int)) (by omega) hvm.ok z.cb z.esC z.cC hvm.cur) (h := fun q hq => ?_)
              | refine clT (hc := T_reader_play f hf cf A n c z.N z.cs z.mn (-1) (K + (z.k : Int)) (by omega) hzm.ok z.cb z.esC z.cC hzm.cur) (h := fun q hq => ?_)
            obtain ⟨dn2, hd2, hq⟩ := hq
            refine WL.y (hy := asg) (h := ?_)
            refine WL.toRoM (b := q.b) (es := q.es) (c := q.c) (by repeat (first | exact At.here | apply At.there)) ?_
            refine nl (h := ?_)
            refine q_blk_norm (h := ?_)
            refine q_seq (h := ?_)
            refine rg (h := ?_)
            refine WL.y (hy := addI) (h := ?_)
            refine WL.y (hy := mv) (h := ?_)
            refine nl (h := ?_)
            first
              | (refine rn (x := z) ⟨q.N, q.mn, v.ns, v.es, v.c, q.ns, q.b, q.es, q.c, z.l ++ toC z.mn v.dn, z.k + 1⟩ ⟨by dsimp only; omega, hvm.play hd2 hq, hyl, fun y hy => by
                  obtain ⟨j, h7, h8, h9⟩ := hvm.outR y hy
                  exact ⟨j, h7, by dsimp only; omega, h9.mono hq.sub⟩⟩ (by dsimp only; omega) (by repeat (first | exact trivial | refine ⟨rfl, ?_⟩)) (by repeat (first | exact SubL.nil | (apply SubL.cons; (repeat (first | exact At.here | apply At.there))) | exact SubL.refl _ | apply SubL.skip)))
              | (refine rn (x := z) ⟨q.N, q.mn, z.ns, z.es, z.c, q.ns, q.b, q.es, q.c, z.l, z.k + 1⟩ ⟨by dsimp only; omega, hzm.play hd2 hq, hnl, fun y hy => by
                  obtain ⟨j, h7, h8, h9⟩ := hzj y hy
                  exact ⟨j, h7, by dsimp only; omega, h9.mono hq.sub⟩⟩ (by dsimp only; omega) (by repeat (first | exact trivial | refine ⟨rfl, ?_⟩)) (by repeat (first | exact SubL.nil | (apply SubL.cons; (repeat (first | exact At.here | apply At.there))) | exact SubL.refl _ | apply SubL.skip)))
        · skip
          have hak : ¬ t.pair.1 ≤ (z.k : Int) := of_decide_eq_false h3
          have hnl : (z.l).Perm (missI f (toC mn ns) t.pair.1 (z.k + 1)) := by
            rw [missI, if_neg hak, List.append_nil]; exact hzl
          refine skp (h := ?_)
          refine q_seq (h := ?_)
          refine rg (h := ?_)
          refine WL.y (hy := (by first | exact ldA | exact ldEA)) (h := ?_)
          refine WL.y (hy := mv) (h := ?_)
          first
            | refine clT (hc := T_reader_play f hf cf A n c v.N z.cs v.mn (-1) (K + (z.k : Int)) (by omega) hvm.ok z.cb z.esC z.cC hvm.cur) (h := fun q hq => ?_)
            | refine clT (hc := T_reader_play f hf cf A n c z.N z.cs z.mn (-1) (K + (z.k : Int)) (by omega) hzm.ok z.cb z.esC z.cC hzm.cur) (h := fun q hq => ?_)
          obtain ⟨dn2, hd2, hq⟩ := hq
          refine WL.y (hy := asg) (h := ?_)
          refine WL.toRoM (b := q.b) (es := q.es) (c := q.c) (by repeat (first | exact At.here | apply At.there)) ?_
          refine nl (h := ?_)
          refine q_blk_norm (h := ?_)
          refine q_seq (h := ?_)
          refine rg (h := ?_)
          refine WL.y (hy := addI) (h := ?_)
          refine WL.y (hy := mv) (h := ?_)
          refine nl (h := ?_)
          first
            | (refine rn (x := z) ⟨q.N, q.mn, v.ns, v.es, v.c, q.ns, q.b, q.es, q.c, z.l ++ toC z.mn v.dn, z.k + 1⟩ ⟨by dsimp only; omega, hvm.play hd2 hq, hyl, fun y hy => by
                obtain ⟨j, h7, h8, h9⟩ := hvm.outR y hy
                exact ⟨j, h7, by dsimp only; omega, h9.mono hq.sub⟩⟩ (by dsimp only; omega) (by repeat (first | exact trivial | refine ⟨rfl, ?_⟩)) (by repeat (first | exact SubL.nil | (apply SubL.cons; (repeat (first | exact At.here | apply At.there))) | exact SubL.refl _ | apply SubL.skip)))
            | (refine rn (x := z) ⟨q.N, q.mn, z.ns, z.es, z.c, q.ns, q.b, q.es, q.c, z.l, z.k + 1⟩ ⟨by dsimp only; omega, hzm.play hd2 hq, hnl, fun y hy => by
                obtain ⟨j, h7, h8, h9⟩ := hzj y hy
                exact ⟨j, h7, by dsimp only; omega, h9.mono hq.sub⟩⟩ (by dsimp only; omega) (by repeat (first | exact trivial | refine ⟨rfl, ?_⟩)) (by repeat (first | exact SubL.nil | (apply SubL.cons; (repeat (first | exact At.here | apply At.there))) | exact SubL.refl _ | apply SubL.skip)))
      · skip
        have hkB : z.k = B + 1 := by simp only [decide_eq_false_iff_not] at h2; omega
        refine et (h := ?_)
        refine q_then_exit (h := ?_)
        refine q_then_exit (h := ?_)
        refine q_blk_hit (h := ?_)
        refine q_blk_norm (h := ?_)
        refine q_seq (h := ?_)
        refine sq (h := ?_)
        refine rg (h := ?_)
        refine WL.y (hy := mv) (h := ?_)
        refine WL.y (hy := asg) (h := ?_)
        refine nl (h := ?_)
        refine q_seq (h := ?_)
        refine rtn (h := ?_)
        refine q_ret (hR := ?_)
        rw [hkB] at hzm hzl
        exact fun w hS => ⟨⟨z.N, z.mn, z.ns, b2, z.es, z.c⟩, rd_missed ht hB hzl hzm (fun y hy => by obtain ⟨j, h7, h8, h9⟩ := hzj y hy; exact ⟨j, h7, by omega, h9⟩), rfl, hS.sub (by repeat (first | exact SubL.nil | (apply SubL.cons; (repeat (first | exact At.here | apply At.there))) | exact SubL.refl _ | apply SubL.skip))⟩
    · skip
      exact absurd ht (of_decide_eq_false h1)
end Go.Proofs.YtpejgebcmhmpaaaGreat

namespace Go.Proofs.YtpejgebcmhmpaaaGreat
open Go Go.RowKit

def sdV (x : Nt) (least : Int) : Bool := wi x.side least 1 && decide (x.pair = (0, 0))
def prV (x : Nt) (most : Int) : Bool := decide (x.side = 0) && wi x.pair.1 0 most && wi x.pair.2 0 most
def mkV (x : Nt) : Bool := bif decide (x.kind = 1) then sdV x (-1) else bif decide (x.kind = 2) then prV x 30 && decide (x.pair.1 ≤ x.pair.2) else
  bif decide (x.kind = 3) || (decide (x.kind = 4) || decide (x.kind = 5)) then prV x 40 else bif decide (x.kind = 6) || decide (x.kind = 7) then sdV x 0 else false
theorem T_isMark1 (x : Nt) (least : Int) (b : Nat) : Tr Tryz.prog 69 [.int .i64 least, .pointer (some ⟨b, 0, none⟩)] [.blk b 45 x.cells] (fun _ : Unit => True) (fun _ => .bool (sdV x least)) (fun _ => [.blk b 45 x.cells]) := by
  refine ⟨fun w0 w R hst => ?_⟩
  have zP : decide ([x.pair.1, x.pair.2] = [(0 : Int), 0]) = decide (x.pair = (0, 0)) := by rw [pair_eq2]; exact dec_pr x.pair (0, 0)
  refine en Tryz.func69 Tryz.ntmps69 hst (h := fun F => ?_)
  refine sq (h := ?_)
  refine rg (h := ?_)
  refine WL.y (hy := asg) (h := ?_)
  refine nl (h := ?_)
  refine q_seq (h := ?_)
  refine sq (h := ?_)
  refine rg (h := ?_)
  refine WL.y (hy := (by first | exact fa | exact faE)) (h := ?_)
  refine WL.y (hy := (by first | exact ld | exact ldE)) (h := ?_)
  refine WL.y (hy := mv) (h := ?_)
  refine cl0 (hc := fun w hS => C_card_within ..) (h := ?_)
  refine WL.y (hy := mv) (h := ?_)
  apply brAnd 5 8 13 (by exact rfl)
  · intro hb0
    refine un (h := ?_)
    refine WL.y (hy := (by first | exact fa | exact faE)) (h := ?_)
    refine un (h := ?_)
    refine WL.y (hy := (by first | exact ldA | exact ldEA)) (h := ?_)
    refine un (h := ?_)
    refine WL.y (hy := bd) (h := ?_)
    refine un (h := ?_)
    refine WL.y (hy := eqlT) (h := ?_)
    refine WL.y (hy := (by first | exact pkT | exact pkF)) (h := ?_)
    exact mg (by repeat (first | exact trivial | refine ⟨rfl, ?_⟩ | refine ⟨by rw [hb0]; rfl, ?_⟩)) (by repeat (first | exact SubL.nil | (apply SubL.cons; (repeat (first | exact At.here | apply At.there))) | exact SubL.refl _ | apply SubL.skip))
  · intro hb0
    repeat (first | refine un (h := ?_) | refine sk (h := ?_) | refine WL.y (hy := pkF) (h := ?_) | refine WL.y (hy := pkT) (h := ?_))
    exact mg (by repeat (first | exact trivial | refine ⟨rfl, ?_⟩ | refine ⟨by rw [hb0]; rfl, ?_⟩)) (by repeat (first | exact SubL.nil | (apply SubL.cons; (repeat (first | exact At.here | apply At.there))) | exact SubL.refl _ | apply SubL.skip))
  refine WL.y (hy := asg) (h := ?_)
  refine nl (h := ?_)
  refine q_seq (h := ?_)
  refine rtn (h := ?_)
  refine q_ret (hR := ?_)
  exact fun w hS => ⟨(), trivial, by rw [sdV, ← zP]; rfl, hS⟩
theorem T_isMark2 (x : Nt) (most : Int) (b : Nat) : Tr Tryz.prog 70 [.int .i64 most, .pointer (some ⟨b, 0, none⟩)] [.blk b 45 x.cells] (fun _ : Unit => True) (fun _ => .bool (prV x most)) (fun _ => [.blk b 45 x.cells]) := by
  refine ⟨fun w0 w R hst => ?_⟩
  refine en Tryz.func70 Tryz.ntmps70 hst (h := fun F => ?_)
  refine sq (h := ?_)
  refine rg (h := ?_)
  refine WL.y (hy := asg) (h := ?_)
  refine nl (h := ?_)
  refine q_seq (h := ?_)
  refine sq (h := ?_)
  refine rg (h := ?_)
  refine WL.y (hy := (by first | exact fa | exact faE)) (h := ?_)
  refine WL.y (hy := (by first | exact ld | exact ldE)) (h := ?_)
  refine WL.y (hy := eql) (h := ?_)
  refine WL.y (hy := mv) (h := ?_)
  apply brAnd 6 7 13 (by exact rfl)
  · intro hb0
    refine un (h := ?_)
    refine WL.y (hy := (by first | exact fa | exact faE)) (h := ?_)
    refine un (h := ?_)
    refine WL.y (hy := (by first | exact fa | exact faE)) (h := ?_)
    refine un (h := ?_)
    refine WL.y (hy := (by first | exact ld | exact ldE)) (h := ?_)
    refine un (h := ?_)
    refine WL.y (hy := mv) (h := ?_)
    refine un (h := ?_)
    refine cl0 (hc := fun w hS => C_card_within ..) (h := ?_)
    refine WL.y (hy := (by first | exact pkT | exact pkF)) (h := ?_)
    exact mg (by repeat (first | exact trivial | refine ⟨rfl, ?_⟩ | refine ⟨by rw [hb0]; rfl, ?_⟩)) (by repeat (first | exact SubL.nil | (apply SubL.cons; (repeat (first | exact At.here | apply At.there))) | exact SubL.refl _ | apply SubL.skip))
  · intro hb0
    repeat (first | refine un (h := ?_) | refine sk (h := ?_) | refine WL.y (hy := pkF) (h := ?_) | refine WL.y (hy := pkT) (h := ?_))
    exact mg (by repeat (first | exact trivial | refine ⟨rfl, ?_⟩ | refine ⟨by rw [hb0]; rfl, ?_⟩)) (by repeat (first | exact SubL.nil | (apply SubL.cons; (repeat (first | exact At.here | apply At.there))) | exact SubL.refl _ | apply SubL.skip))
  refine WL.y (hy := mv) (h := ?_)
  apply brAnd 6 14 20 (by exact rfl)
  · intro hb1
    refine un (h := ?_)
    refine WL.y (hy := (by first | exact fa | exact faE)) (h := ?_)
    refine un (h := ?_)
    refine WL.y (hy := (by first | exact fa | exact faE)) (h := ?_)
    refine un (h := ?_)
    refine WL.y (hy := (by first | exact ld | exact ldE)) (h := ?_)
    refine un (h := ?_)
    refine WL.y (hy := mv) (h := ?_)
    refine un (h := ?_)
    refine cl0 (hc := fun w hS => C_card_within ..) (h := ?_)
    refine WL.y (hy := (by first | exact pkT | exact pkF)) (h := ?_)
    exact mg (by repeat (first | exact trivial | refine ⟨rfl, ?_⟩ | refine ⟨by rw [hb1]; rfl, ?_⟩)) (by repeat (first | exact SubL.nil | (apply SubL.cons; (repeat (first | exact At.here | apply At.there))) | exact SubL.refl _ | apply SubL.skip))
  · intro hb1
    repeat (first | refine un (h := ?_) | refine sk (h := ?_) | refine WL.y (hy := pkF) (h := ?_) | refine WL.y (hy := pkT) (h := ?_))
    exact mg (by repeat (first | exact trivial | refine ⟨rfl, ?_⟩ | refine ⟨by rw [hb1]; rfl, ?_⟩)) (by repeat (first | exact SubL.nil | (apply SubL.cons; (repeat (first | exact At.here | apply At.there))) | exact SubL.refl _ | apply SubL.skip))
  refine WL.y (hy := asg) (h := ?_)
  refine nl (h := ?_)
  refine q_seq (h := ?_)
  refine rtn (h := ?_)
  refine q_ret (hR := ?_)
  exact fun w hS => ⟨(), trivial, rfl, hS⟩
theorem C_card_isMark (x : Nt) (w : World) : C0 Tryz.prog 32 [x.val] w (.bool (mkV x)) := by
  refine ⟨en Tryz.func32 Tryz.ntmps32 (St.init w) (h := fun F => ?_)⟩
  refine sq (h := ?_)
  refine rg (h := ?_)
  refine bxA (h := fun b0 => ?_)
  refine WL.y (hy := asg) (h := ?_)
  refine nl (h := ?_)
  refine q_seq (h := ?_)
  refine sq (h := ?_)
  refine rg (h := ?_)
  refine WL.y (hy := mkf) (h := ?_)
  refine WL.y (hy := asg) (h := ?_)
  refine nl (h := ?_)
  refine q_seq (h := ?_)
  refine sq (h := ?_)
  refine rg (h := ?_)
  refine WL.y (hy := mkf) (h := ?_)
  refine WL.y (hy := asg) (h := ?_)
  refine nl (h := ?_)
  refine q_seq (h := ?_)
  refine sq (h := ?_)
  refine sq (h := ?_)
  refine rg (h := ?_)
  refine WL.y (hy := (by first | exact fa | exact faE)) (h := ?_)
  refine WL.y (hy := (by first | exact ld | exact ldE)) (h := ?_)
  refine nl (h := ?_)
  refine q_seq (h := ?_)
  refine bk (h := ?_)
  refine sq (h := ?_)
  refine rg (h := ?_)
  refine WL.y (hy := eql) (h := ?_)
  refine WL.y (hy := asg) (h := ?_)
  refine nl (h := ?_)
  refine q_seq (h := ?_)
  refine cd (by exact rfl) (fun h0 => ?_) (fun h0 => ?_)
  · skip
    refine sq (h := ?_)
    refine rg (h := ?_)
    refine WL.y (hy := mv) (h := ?_)
    refine clfT inferInstance (fi := []) (cap := [.pointer (some ⟨b0, 0, none⟩)]) (by exact rfl) (by repeat (first | exact Evs.nil | (apply Evs.cons; exact rfl))) (T_isMark1 x (-1) b0) rfl (by repeat (first | exact Spl.nil | (apply Spl.cons; (repeat (first | exact At.here | apply At.there))))) (h := fun _ _ => ?_)
    refine WL.y (hy := asg) (h := ?_)
    refine nl (h := ?_)
    refine q_seq (h := ?_)
    refine rtn (h := ?_)
    refine q_blk_ret (h := ?_)
    refine q_then_ret (h := ?_)
    refine q_ret (hR := ?_)
    refine fun w hS => ⟨?_, hS.sub (by repeat (first | exact SubL.nil | (apply SubL.cons; (repeat (first | exact At.here | apply At.there))) | exact SubL.refl _ | apply SubL.skip))⟩
    clear hS
    simp_all [mkV, resV]
  · skip
    refine sq (h := ?_)
    refine rg (h := ?_)
    refine WL.y (hy := eql) (h := ?_)
    refine WL.y (hy := asg) (h := ?_)
    refine nl (h := ?_)
    refine q_seq (h := ?_)
    refine cd (by exact rfl) (fun h1 => ?_) (fun h1 => ?_)
    · skip
      refine sq (h := ?_)
      refine rg (h := ?_)
      refine WL.y (hy := mv) (h := ?_)
      refine clfT inferInstance (fi := []) (cap := [.pointer (some ⟨b0, 0, none⟩)]) (by exact rfl) (by repeat (first | exact Evs.nil | (apply Evs.cons; exact rfl))) (T_isMark2 x 30 b0) rfl (by repeat (first | exact Spl.nil | (apply Spl.cons; (repeat (first | exact At.here | apply At.there))))) (h := fun _ _ => ?_)
      refine WL.y (hy := mv) (h := ?_)
      apply brAnd 8 17 25 (by exact rfl)
      · intro hb2
        refine un (h := ?_)
        refine WL.y (hy := (by first | exact fa | exact faE)) (h := ?_)
        refine un (h := ?_)
        refine WL.y (hy := (by first | exact fa | exact faE)) (h := ?_)
        refine un (h := ?_)
        refine WL.y (hy := (by first | exact ld | exact ldE)) (h := ?_)
        refine un (h := ?_)
        refine WL.y (hy := (by first | exact fa | exact faE)) (h := ?_)
        refine un (h := ?_)
        refine WL.y (hy := (by first | exact fa | exact faE)) (h := ?_)
        refine un (h := ?_)
        refine WL.y (hy := (by first | exact ld | exact ldE)) (h := ?_)
        refine un (h := ?_)
        refine WL.y (hy := leq) (h := ?_)
        refine WL.y (hy := (by first | exact pkT | exact pkF)) (h := ?_)
        exact mg (by repeat (first | exact trivial | refine ⟨rfl, ?_⟩ | refine ⟨by rw [hb2]; rfl, ?_⟩)) (by repeat (first | exact SubL.nil | (apply SubL.cons; (repeat (first | exact At.here | apply At.there))) | exact SubL.refl _ | apply SubL.skip))
      · intro hb2
        repeat (first | refine un (h := ?_) | refine sk (h := ?_) | refine WL.y (hy := pkF) (h := ?_) | refine WL.y (hy := pkT) (h := ?_))
        exact mg (by repeat (first | exact trivial | refine ⟨rfl, ?_⟩ | refine ⟨by rw [hb2]; rfl, ?_⟩)) (by repeat (first | exact SubL.nil | (apply SubL.cons; (repeat (first | exact At.here | apply At.there))) | exact SubL.refl _ | apply SubL.skip))
      refine WL.y (hy := asg) (h := ?_)
      refine nl (h := ?_)
      refine q_seq (h := ?_)
      refine rtn (h := ?_)
      refine q_blk_ret (h := ?_)
      refine q_then_ret (h := ?_)
      refine q_ret (hR := ?_)
      refine fun w hS => ⟨?_, hS.sub (by repeat (first | exact SubL.nil | (apply SubL.cons; (repeat (first | exact At.here | apply At.there))) | exact SubL.refl _ | apply SubL.skip))⟩
      clear hS
      simp_all [mkV, resV]
    · skip
      refine sq (h := ?_)
      refine sq (h := ?_)
      refine rg (h := ?_)
      refine WL.y (hy := eql) (h := ?_)
      refine WL.y (hy := asg) (h := ?_)
      refine nl (h := ?_)
      refine q_seq (h := ?_)
      refine cd (by exact rfl) (fun h3 => ?_) (fun h3 => ?_)
      · skip
        refine skp (h := ?_)
        refine q_seq (h := ?_)
        refine cd (by exact rfl) (fun h4 => ?_) (fun h4 => ?_)
        · skip
          refine sq (h := ?_)
          refine rg (h := ?_)
          refine WL.y (hy := mv) (h := ?_)
          refine clfT inferInstance (fi := []) (cap := [.pointer (some ⟨b0, 0, none⟩)]) (by exact rfl) (by repeat (first | exact Evs.nil | (apply Evs.cons; exact rfl))) (T_isMark2 x 40 b0) rfl (by repeat (first | exact Spl.nil | (apply Spl.cons; (repeat (first | exact At.here | apply At.there))))) (h := fun _ _ => ?_)
          refine WL.y (hy := asg) (h := ?_)
          refine nl (h := ?_)
          refine q_seq (h := ?_)
          refine rtn (h := ?_)
          refine q_blk_ret (h := ?_)
          refine q_then_ret (h := ?_)
          refine q_ret (hR := ?_)
          refine fun w hS => ⟨?_, hS.sub (by repeat (first | exact SubL.nil | (apply SubL.cons; (repeat (first | exact At.here | apply At.there))) | exact SubL.refl _ | apply SubL.skip))⟩
          clear hS
          simp_all [mkV, resV]
        · skip
          refine sq (h := ?_)
          refine sq (h := ?_)
          refine rg (h := ?_)
          refine WL.y (hy := eql) (h := ?_)
          refine WL.y (hy := asg) (h := ?_)
          refine nl (h := ?_)
          refine q_seq (h := ?_)
          refine cd (by exact rfl) (fun h5 => ?_) (fun h5 => ?_)
          · skip
            refine skp (h := ?_)
            refine q_seq (h := ?_)
            refine cd (by exact rfl) (fun h6 => ?_) (fun h6 => ?_)
            · skip
              refine sq (h := ?_)
              refine rg (h := ?_)
              refine WL.y (hy := mv) (h := ?_)
              refine clfT inferInstance (fi := []) (cap := [.pointer (some ⟨b0, 0, none⟩)]) (by exact rfl) (by repeat (first | exact Evs.nil | (apply Evs.cons; exact rfl))) (T_isMark1 x 0 b0) rfl (by repeat (first | exact Spl.nil | (apply Spl.cons; (repeat (first | exact At.here | apply At.there))))) (h := fun _ _ => ?_)
              refine WL.y (hy := asg) (h := ?_)
              refine nl (h := ?_)
              refine q_seq (h := ?_)
              refine rtn (h := ?_)
              refine q_blk_ret (h := ?_)
              refine q_then_ret (h := ?_)
              refine q_ret (hR := ?_)
              refine fun w hS => ⟨?_, hS.sub (by repeat (first | exact SubL.nil | (apply SubL.cons; (repeat (first | exact At.here | apply At.there))) | exact SubL.refl _ | apply SubL.skip))⟩
              clear hS
              simp_all [mkV, resV]
            · skip
              refine skp (h := ?_)
              refine q_blk_norm (h := ?_)
              refine q_seq (h := ?_)
              refine sq (h := ?_)
              refine rg (h := ?_)
              refine WL.y (hy := asg) (h := ?_)
              refine nl (h := ?_)
              refine q_seq (h := ?_)
              refine rtn (h := ?_)
              refine q_ret (hR := ?_)
              refine fun w hS => ⟨?_, hS.sub (by repeat (first | exact SubL.nil | (apply SubL.cons; (repeat (first | exact At.here | apply At.there))) | exact SubL.refl _ | apply SubL.skip))⟩
              clear hS
              simp_all [mkV, resV]
          · skip
            refine rg (h := ?_)
            refine WL.y (hy := eql) (h := ?_)
            refine WL.y (hy := asg) (h := ?_)
            refine nl (h := ?_)
            refine q_seq (h := ?_)
            refine cd (by exact rfl) (fun h7 => ?_) (fun h7 => ?_)
            · skip
              refine sq (h := ?_)
              refine rg (h := ?_)
              refine WL.y (hy := mv) (h := ?_)
              refine clfT inferInstance (fi := []) (cap := [.pointer (some ⟨b0, 0, none⟩)]) (by exact rfl) (by repeat (first | exact Evs.nil | (apply Evs.cons; exact rfl))) (T_isMark1 x 0 b0) rfl (by repeat (first | exact Spl.nil | (apply Spl.cons; (repeat (first | exact At.here | apply At.there))))) (h := fun _ _ => ?_)
              refine WL.y (hy := asg) (h := ?_)
              refine nl (h := ?_)
              refine q_seq (h := ?_)
              refine rtn (h := ?_)
              refine q_blk_ret (h := ?_)
              refine q_then_ret (h := ?_)
              refine q_ret (hR := ?_)
              refine fun w hS => ⟨?_, hS.sub (by repeat (first | exact SubL.nil | (apply SubL.cons; (repeat (first | exact At.here | apply At.there))) | exact SubL.refl _ | apply SubL.skip))⟩
              clear hS
              simp_all [mkV, resV]
            · skip
              refine skp (h := ?_)
              refine q_blk_norm (h := ?_)
              refine q_seq (h := ?_)
              refine sq (h := ?_)
              refine rg (h := ?_)
              refine WL.y (hy := asg) (h := ?_)
              refine nl (h := ?_)
              refine q_seq (h := ?_)
              refine rtn (h := ?_)
              refine q_ret (hR := ?_)
              refine fun w hS => ⟨?_, hS.sub (by repeat (first | exact SubL.nil | (apply SubL.cons; (repeat (first | exact At.here | apply At.there))) | exact SubL.refl _ | apply SubL.skip))⟩
              clear hS
              simp_all [mkV, resV]
      · skip
        refine sq (h := ?_)
        refine rg (h := ?_)
        refine WL.y (hy := eql) (h := ?_)
        refine WL.y (hy := asg) (h := ?_)
        refine nl (h := ?_)
        refine q_seq (h := ?_)
        refine cd (by exact rfl) (fun h8 => ?_) (fun h8 => ?_)
        · skip
          refine skp (h := ?_)
          refine q_seq (h := ?_)
          refine cd (by exact rfl) (fun h9 => ?_) (fun h9 => ?_)
          · skip
            refine sq (h := ?_)
            refine rg (h := ?_)
            refine WL.y (hy := mv) (h := ?_)
            refine clfT inferInstance (fi := []) (cap := [.pointer (some ⟨b0, 0, none⟩)]) (by exact rfl) (by repeat (first | exact Evs.nil | (apply Evs.cons; exact rfl))) (T_isMark2 x 40 b0) rfl (by repeat (first | exact Spl.nil | (apply Spl.cons; (repeat (first | exact At.here | apply At.there))))) (h := fun _ _ => ?_)
            refine WL.y (hy := asg) (h := ?_)
            refine nl (h := ?_)
            refine q_seq (h := ?_)
            refine rtn (h := ?_)
            refine q_blk_ret (h := ?_)
            refine q_then_ret (h := ?_)
            refine q_ret (hR := ?_)
            refine fun w hS => ⟨?_, hS.sub (by repeat (first | exact SubL.nil | (apply SubL.cons; (repeat (first | exact At.here | apply At.there))) | exact SubL.refl _ | apply SubL.skip))⟩
            clear hS
            simp_all [mkV, resV]
          · skip
            refine sq (h := ?_)
            refine sq (h := ?_)
            refine rg (h := ?_)
            refine WL.y (hy := eql) (h := ?_)
            refine WL.y (hy := asg) (h := ?_)
            refine nl (h := ?_)
            refine q_seq (h := ?_)
            refine cd (by exact rfl) (fun h10 => ?_) (fun h10 => ?_)
            · skip
              refine skp (h := ?_)
              refine q_seq (h := ?_)
              refine cd (by exact rfl) (fun h11 => ?_) (fun h11 => ?_)
              · skip
                refine sq (h := ?_)
                refine rg (h := ?_)
                refine WL.y (hy := mv) (h := ?_)
                refine clfT inferInstance (fi := []) (cap := [.pointer (some ⟨b0, 0, none⟩)]) (by exact rfl) (by repeat (first | exact Evs.nil | (apply Evs.cons; exact rfl))) (T_isMark1 x 0 b0) rfl (by repeat (first | exact Spl.nil | (apply Spl.cons; (repeat (first | exact At.here | apply At.there))))) (h := fun _ _ => ?_)
                refine WL.y (hy := asg) (h := ?_)
                refine nl (h := ?_)
                refine q_seq (h := ?_)
                refine rtn (h := ?_)
                refine q_blk_ret (h := ?_)
                refine q_then_ret (h := ?_)
                refine q_ret (hR := ?_)
                refine fun w hS => ⟨?_, hS.sub (by repeat (first | exact SubL.nil | (apply SubL.cons; (repeat (first | exact At.here | apply At.there))) | exact SubL.refl _ | apply SubL.skip))⟩
                clear hS
                simp_all [mkV, resV]
              · skip
                refine skp (h := ?_)
                refine q_blk_norm (h := ?_)
                refine q_seq (h := ?_)
                refine sq (h := ?_)
                refine rg (h := ?_)
                refine WL.y (hy := asg) (h := ?_)
                refine nl (h := ?_)
                refine q_seq (h := ?_)
                refine rtn (h := ?_)
                refine q_ret (hR := ?_)
                refine fun w hS => ⟨?_, hS.sub (by repeat (first | exact SubL.nil | (apply SubL.cons; (repeat (first | exact At.here | apply At.there))) | exact SubL.refl _ | apply SubL.skip))⟩
                clear hS
                simp_all [mkV, resV]
            · skip
              refine rg (h := ?_)
              refine WL.y (hy := eql) (h := ?_)
              refine WL.y (hy := asg) (h := ?_)
              refine nl (h := ?_)
              refine q_seq (h := ?_)
              refine cd (by exact rfl) (fun h12 => ?_) (fun h12 => ?_)
              · skip
                refine sq (h := ?_)
                refine rg (h := ?_)
                refine WL.y (hy := mv) (h := ?_)
                refine clfT inferInstance (fi := []) (cap := [.pointer (some ⟨b0, 0, none⟩)]) (by exact rfl) (by repeat (first | exact Evs.nil | (apply Evs.cons; exact rfl))) (T_isMark1 x 0 b0) rfl (by repeat (first | exact Spl.nil | (apply Spl.cons; (repeat (first | exact At.here | apply At.there))))) (h := fun _ _ => ?_)
                refine WL.y (hy := asg) (h := ?_)
                refine nl (h := ?_)
                refine q_seq (h := ?_)
                refine rtn (h := ?_)
                refine q_blk_ret (h := ?_)
                refine q_then_ret (h := ?_)
                refine q_ret (hR := ?_)
                refine fun w hS => ⟨?_, hS.sub (by repeat (first | exact SubL.nil | (apply SubL.cons; (repeat (first | exact At.here | apply At.there))) | exact SubL.refl _ | apply SubL.skip))⟩
                clear hS
                simp_all [mkV, resV]
              · skip
                refine skp (h := ?_)
                refine q_blk_norm (h := ?_)
                refine q_seq (h := ?_)
                refine sq (h := ?_)
                refine rg (h := ?_)
                refine WL.y (hy := asg) (h := ?_)
                refine nl (h := ?_)
                refine q_seq (h := ?_)
                refine rtn (h := ?_)
                refine q_ret (hR := ?_)
                refine fun w hS => ⟨?_, hS.sub (by repeat (first | exact SubL.nil | (apply SubL.cons; (repeat (first | exact At.here | apply At.there))) | exact SubL.refl _ | apply SubL.skip))⟩
                clear hS
                simp_all [mkV, resV]
        · skip
          refine rg (h := ?_)
          refine WL.y (hy := eql) (h := ?_)
          refine WL.y (hy := asg) (h := ?_)
          refine nl (h := ?_)
          refine q_seq (h := ?_)
          refine cd (by exact rfl) (fun h13 => ?_) (fun h13 => ?_)
          · skip
            refine sq (h := ?_)
            refine rg (h := ?_)
            refine WL.y (hy := mv) (h := ?_)
            refine clfT inferInstance (fi := []) (cap := [.pointer (some ⟨b0, 0, none⟩)]) (by exact rfl) (by repeat (first | exact Evs.nil | (apply Evs.cons; exact rfl))) (T_isMark2 x 40 b0) rfl (by repeat (first | exact Spl.nil | (apply Spl.cons; (repeat (first | exact At.here | apply At.there))))) (h := fun _ _ => ?_)
            refine WL.y (hy := asg) (h := ?_)
            refine nl (h := ?_)
            refine q_seq (h := ?_)
            refine rtn (h := ?_)
            refine q_blk_ret (h := ?_)
            refine q_then_ret (h := ?_)
            refine q_ret (hR := ?_)
            refine fun w hS => ⟨?_, hS.sub (by repeat (first | exact SubL.nil | (apply SubL.cons; (repeat (first | exact At.here | apply At.there))) | exact SubL.refl _ | apply SubL.skip))⟩
            clear hS
            simp_all [mkV, resV]
          · skip
            refine sq (h := ?_)
            refine sq (h := ?_)
            refine rg (h := ?_)
            refine WL.y (hy := eql) (h := ?_)
            refine WL.y (hy := asg) (h := ?_)
            refine nl (h := ?_)
            refine q_seq (h := ?_)
            refine cd (by exact rfl) (fun h14 => ?_) (fun h14 => ?_)
            · skip
              refine skp (h := ?_)
              refine q_seq (h := ?_)
              refine cd (by exact rfl) (fun h15 => ?_) (fun h15 => ?_)
              · skip
                refine sq (h := ?_)
                refine rg (h := ?_)
                refine WL.y (hy := mv) (h := ?_)
                refine clfT inferInstance (fi := []) (cap := [.pointer (some ⟨b0, 0, none⟩)]) (by exact rfl) (by repeat (first | exact Evs.nil | (apply Evs.cons; exact rfl))) (T_isMark1 x 0 b0) rfl (by repeat (first | exact Spl.nil | (apply Spl.cons; (repeat (first | exact At.here | apply At.there))))) (h := fun _ _ => ?_)
                refine WL.y (hy := asg) (h := ?_)
                refine nl (h := ?_)
                refine q_seq (h := ?_)
                refine rtn (h := ?_)
                refine q_blk_ret (h := ?_)
                refine q_then_ret (h := ?_)
                refine q_ret (hR := ?_)
                refine fun w hS => ⟨?_, hS.sub (by repeat (first | exact SubL.nil | (apply SubL.cons; (repeat (first | exact At.here | apply At.there))) | exact SubL.refl _ | apply SubL.skip))⟩
                clear hS
                simp_all [mkV, resV]
              · skip
                refine skp (h := ?_)
                refine q_blk_norm (h := ?_)
                refine q_seq (h := ?_)
                refine sq (h := ?_)
                refine rg (h := ?_)
                refine WL.y (hy := asg) (h := ?_)
                refine nl (h := ?_)
                refine q_seq (h := ?_)
                refine rtn (h := ?_)
                refine q_ret (hR := ?_)
                refine fun w hS => ⟨?_, hS.sub (by repeat (first | exact SubL.nil | (apply SubL.cons; (repeat (first | exact At.here | apply At.there))) | exact SubL.refl _ | apply SubL.skip))⟩
                clear hS
                simp_all [mkV, resV]
            · skip
              refine rg (h := ?_)
              refine WL.y (hy := eql) (h := ?_)
              refine WL.y (hy := asg) (h := ?_)
              refine nl (h := ?_)
              refine q_seq (h := ?_)
              refine cd (by exact rfl) (fun h16 => ?_) (fun h16 => ?_)
              · skip
                refine sq (h := ?_)
                refine rg (h := ?_)
                refine WL.y (hy := mv) (h := ?_)
                refine clfT inferInstance (fi := []) (cap := [.pointer (some ⟨b0, 0, none⟩)]) (by exact rfl) (by repeat (first | exact Evs.nil | (apply Evs.cons; exact rfl))) (T_isMark1 x 0 b0) rfl (by repeat (first | exact Spl.nil | (apply Spl.cons; (repeat (first | exact At.here | apply At.there))))) (h := fun _ _ => ?_)
                refine WL.y (hy := asg) (h := ?_)
                refine nl (h := ?_)
                refine q_seq (h := ?_)
                refine rtn (h := ?_)
                refine q_blk_ret (h := ?_)
                refine q_then_ret (h := ?_)
                refine q_ret (hR := ?_)
                refine fun w hS => ⟨?_, hS.sub (by repeat (first | exact SubL.nil | (apply SubL.cons; (repeat (first | exact At.here | apply At.there))) | exact SubL.refl _ | apply SubL.skip))⟩
                clear hS
                simp_all [mkV, resV]
              · skip
                refine skp (h := ?_)
                refine q_blk_norm (h := ?_)
                refine q_seq (h := ?_)
                refine sq (h := ?_)
                refine rg (h := ?_)
                refine WL.y (hy := asg) (h := ?_)
                refine nl (h := ?_)
                refine q_seq (h := ?_)
                refine rtn (h := ?_)
                refine q_ret (hR := ?_)
                refine fun w hS => ⟨?_, hS.sub (by repeat (first | exact SubL.nil | (apply SubL.cons; (repeat (first | exact At.here | apply At.there))) | exact SubL.refl _ | apply SubL.skip))⟩
                clear hS
                simp_all [mkV, resV]
def encN (xs : List Nt) : List (List Value) := xs.map Nt.cells
theorem encN_len (xs : List Nt) : (encN xs).length = xs.length := List.length_map _
theorem encN_at {xs : List Nt} {k : Nat} {x : Nt} (h : xs[k]? = some x) : (encN xs)[k]? = some x.cells := by unfold encN; rw [List.getElem?_map, h]; rfl
def headB (f : Fmt) (first : Int) (n : Nat) : Bool := !decide (chkF f = 0) || !wi first (-1) 1 || decide ((30 : Int) < n)
def chkC (f : Fmt) (first : Int) (xs : List Nt) : Int := bif headB f first xs.length then 30 else bif !xs.all mkV then 30 else bif decide (600 < mostS xs) then 30 else 0
theorem mostS_succ {xs : List Nt} {k : Nat} {x : Nt} (h : xs[k]? = some x) : mostS (xs.take (k + 1)) = mostS (xs.take k) + mostN x := by
  unfold mostS
  rw [List.take_add_one, h, List.map_append, List.sum_append]
  show _ + (mostN x + 0) = _
  omega
theorem mk_kind {x : Nt} (h : mkV x = true) : (1 ≤ x.kind ∧ x.kind ≤ 7) ∧ (x.kind = 1 → -1 ≤ x.side ∧ x.side ≤ 1 ∧ x.pair = (0, 0)) ∧ (x.kind = 2 → x.side = 0 ∧ 0 ≤ x.pair.1 ∧ x.pair.1 ≤ x.pair.2 ∧ x.pair.2 ≤ 30) ∧ (3 ≤ x.kind → x.kind ≤ 5 → x.side = 0 ∧ (0 ≤ x.pair.1 ∧ x.pair.1 ≤ 40) ∧ 0 ≤ x.pair.2 ∧ x.pair.2 ≤ 40) ∧ (6 ≤ x.kind → 0 ≤ x.side ∧ x.side ≤ 1 ∧ x.pair = (0, 0)) := by
  unfold mkV at h
  by_cases h1 : x.kind = 1
  · rw [decide_eq_true h1, cond_true, sdV, Bool.and_eq_true, wi_iff, decide_eq_true_eq] at h
    exact ⟨by omega, fun _ => ⟨h.1.1, h.1.2, h.2⟩, by omega, by omega, by omega⟩
  rw [decide_eq_false h1, cond_false] at h
  by_cases h2 : x.kind = 2
  · rw [decide_eq_true h2, cond_true, prV, Bool.and_eq_true, Bool.and_eq_true, Bool.and_eq_true, wi_iff, wi_iff, decide_eq_true_eq, decide_eq_true_eq] at h
    exact ⟨by omega, by omega, fun _ => by omega, by omega, by omega⟩
  rw [decide_eq_false h2, cond_false] at h
  by_cases h3 : (decide (x.kind = 3) || (decide (x.kind = 4) || decide (x.kind = 5))) = true
  · rw [h3, cond_true, prV, Bool.and_eq_true, Bool.and_eq_true, wi_iff, wi_iff, decide_eq_true_eq] at h
    simp only [Bool.or_eq_true, decide_eq_true_eq] at h3
    exact ⟨by omega, by omega, by omega, fun _ _ => by omega, by omega⟩
  rw [Bool.not_eq_true] at h3
  rw [h3, cond_false] at h
  by_cases h4 : (decide (x.kind = 6) || decide (x.kind = 7)) = true
  · rw [h4, cond_true, sdV, Bool.and_eq_true, wi_iff, decide_eq_true_eq] at h
    simp only [Bool.or_eq_true, decide_eq_true_eq] at h4
    exact ⟨by omega, by omega, by omega, by omega, fun _ => ⟨h.1.1, h.1.2, h.2⟩⟩
  · rw [Bool.not_eq_true] at h4
    rw [h4, cond_false] at h
    cases h
theorem most_bd {x : Nt} (h : mkV x = true) : 0 ≤ mostN x ∧ mostN x ≤ 30 := by
  have hk := mk_kind h
  unfold mostN
  by_cases h1 : x.kind = 1
  · rw [if_pos h1]; omega
  · rw [if_neg h1]
    by_cases h2 : x.kind = 2
    · rw [if_pos h2]; have := hk.2.2.1 h2; omega
    · rw [if_neg h2]; omega
structure CKZ where
  (k : Nat)
theorem all_take {xs : List Nt} {k : Nat} {x : Nt} (h : xs[k]? = some x) : (xs.take (k + 1)).all mkV = ((xs.take k).all mkV && mkV x) := by
  rw [List.take_add_one, h, List.all_append]
  simp
theorem all_bad {xs : List Nt} {k : Nat} (h : (xs.take k).all mkV = false) : xs.all mkV = false := by
  cases hh : xs.all mkV
  · rfl
  · rw [List.all_eq_true] at hh
    have : (xs.take k).all mkV = true := List.all_eq_true.2 fun x hx => hh x (List.mem_of_mem_take hx)
    rw [this] at h; cases h
theorem C_card_Check (f : Fmt) (first : Int) (xs : List Nt) (A : Option Addr) (n c : Nat) (w : World) (h : Rd w A 4 n (encN xs)) (hn : n ≤ 9223372036854775807) : C0 Tryz.prog 10 [.agg (cardC f first A n c).toArray] w (.int .i64 (chkC f first xs)) := by
  have hlen : xs.length = n := by have := h.len; rwa [encN_len] at this
  refine ⟨en Tryz.func10 Tryz.ntmps10 ((St.init w).share (e := .ro A 4 n (encN xs)) h rfl rfl rfl) (h := fun F => ?_)⟩
  refine sq (h := ?_)
  refine rg (h := ?_)
  refine bxA (h := fun b0 => ?_)
  refine WL.y (hy := asg) (h := ?_)
  refine nl (h := ?_)
  refine q_seq (h := ?_)
  refine sq (h := ?_)
  refine sq (h := ?_)
  refine rg (h := ?_)
  refine WL.y (hy := (by first | exact fa | exact faE)) (h := ?_)
  refine WL.y (hy := (by first | exact ldA | exact ldEA)) (h := ?_)
  refine cl0 (hc := fun w hS => C_score_Check _ w) (h := ?_)
  refine WL.y (hy := neq) (h := ?_)
  refine WL.y (hy := mv) (h := ?_)
  apply brOr 5 10 15 (by exact rfl)
  · intro hb0
    refine un (h := ?_)
    refine WL.y (hy := (by first | exact fa | exact faE)) (h := ?_)
    refine un (h := ?_)
    refine WL.y (hy := (by first | exact ld | exact ldE)) (h := ?_)
    refine un (h := ?_)
    refine cl0 (hc := fun w hS => C_card_within ..) (h := ?_)
    refine un (h := ?_)
    refine WL.y (hy := notB) (h := ?_)
    refine WL.y (hy := (by first | exact pkT | exact pkF)) (h := ?_)
    exact mg (by repeat (first | exact trivial | refine ⟨rfl, ?_⟩ | refine ⟨by rw [hb0]; rfl, ?_⟩)) (by repeat (first | exact SubL.nil | (apply SubL.cons; (repeat (first | exact At.here | apply At.there))) | exact SubL.refl _ | apply SubL.skip))
  · intro hb0
    repeat (first | refine un (h := ?_) | refine sk (h := ?_) | refine WL.y (hy := pkF) (h := ?_) | refine WL.y (hy := pkT) (h := ?_))
    exact mg (by repeat (first | exact trivial | refine ⟨rfl, ?_⟩ | refine ⟨by rw [hb0]; rfl, ?_⟩)) (by repeat (first | exact SubL.nil | (apply SubL.cons; (repeat (first | exact At.here | apply At.there))) | exact SubL.refl _ | apply SubL.skip))
  refine WL.y (hy := mv) (h := ?_)
  apply brOr 5 16 21 (by exact rfl)
  · intro hb1
    refine un (h := ?_)
    refine WL.y (hy := (by first | exact fa | exact faE)) (h := ?_)
    refine un (h := ?_)
    refine WL.y (hy := (by first | exact ld | exact ldE)) (h := ?_)
    refine un (h := ?_)
    refine WL.y (hy := lenS) (h := ?_)
    refine un (h := ?_)
    refine WL.y (hy := gtr) (h := ?_)
    refine WL.y (hy := (by first | exact pkT | exact pkF)) (h := ?_)
    exact mg (by repeat (first | exact trivial | refine ⟨rfl, ?_⟩ | refine ⟨by rw [hb1]; rfl, ?_⟩)) (by repeat (first | exact SubL.nil | (apply SubL.cons; (repeat (first | exact At.here | apply At.there))) | exact SubL.refl _ | apply SubL.skip))
  · intro hb1
    repeat (first | refine un (h := ?_) | refine sk (h := ?_) | refine WL.y (hy := pkF) (h := ?_) | refine WL.y (hy := pkT) (h := ?_))
    exact mg (by repeat (first | exact trivial | refine ⟨rfl, ?_⟩ | refine ⟨by rw [hb1]; rfl, ?_⟩)) (by repeat (first | exact SubL.nil | (apply SubL.cons; (repeat (first | exact At.here | apply At.there))) | exact SubL.refl _ | apply SubL.skip))
  refine nl (h := ?_)
  refine q_seq (h := ?_)
  refine cd (by exact rfl) (fun h2 => ?_) (fun h2 => ?_)
  · skip
    have hE : chkC f first xs = 30 := by
      have h' : headB f first xs.length = true := by rw [hlen]; exact h2
      rw [chkC, h']; rfl
    refine sq (h := ?_)
    refine rg (h := ?_)
    refine WL.y (hy := asg) (h := ?_)
    refine nl (h := ?_)
    refine q_seq (h := ?_)
    refine rtn (h := ?_)
    refine q_then_ret (h := ?_)
    refine q_ret (hR := ?_)
    rw [hE]
    exact fun w hS => ⟨rfl, hS.sub (by repeat (first | exact SubL.nil | (apply SubL.cons; (repeat (first | exact At.here | apply At.there))) | exact SubL.refl _ | apply SubL.skip))⟩
  · skip
    have hH : headB f first xs.length = false := by rw [hlen]; exact h2
    have hn30 : n ≤ 30 := by
      have h' := hH
      unfold headB at h'
      simp only [Bool.or_eq_false_iff, decide_eq_false_iff_not] at h'
      omega
    refine skp (h := ?_)
    refine q_seq (h := ?_)
    refine sq (h := ?_)
    refine rg (h := ?_)
    refine WL.y (hy := asg) (h := ?_)
    refine WL.cut (by repeat (first | exact Cut.nil | apply Cut.hit | apply Cut.miss (by exact rfl))) ?_
    refine nl (h := ?_)
    refine q_seq (h := ?_)
    refine sq (h := ?_)
    refine sq (h := ?_)
    refine rg (h := ?_)
    refine WL.y (hy := (by first | exact fa | exact faE)) (h := ?_)
    refine WL.y (hy := (by first | exact ld | exact ldE)) (h := ?_)
    refine WL.y (hy := lenS) (h := ?_)
    refine WL.y (hy := mv) (h := ?_)
    refine nl (h := ?_)
    refine q_seq (h := ?_)
    refine bk (h := ?_)
    refine lp (X := CKZ) (I := fun z => z.k ≤ n ∧ (xs.take z.k).all mkV = true ∧ 0 ≤ mostS (xs.take z.k) ∧ mostS (xs.take z.k) ≤ 30 * (z.k : Int)) (le := fun z => [(3, .int .i64 (mostS (xs.take z.k))), (23, .slice A n c), (24, .int .i64 n), (25, .int .i64 z.k)]) (Le := fun z => [.ro A 4 n (encN xs)]) (μ := fun z => n - z.k) ⟨0⟩ ⟨Nat.zero_le _, rfl, by exact Int.le_refl _, by exact Int.le_refl _⟩ (by repeat (first | exact trivial | refine ⟨rfl, ?_⟩)) (by repeat (first | exact SubL.nil | (apply SubL.cons; (repeat (first | exact At.here | apply At.there))) | exact SubL.refl _ | apply SubL.skip)) (fun z hz => ?_)
    obtain ⟨hzk, hza, hz0, hzm⟩ := hz
    refine sq (h := ?_)
    refine rg (h := ?_)
    refine WL.y (hy := lss) (h := ?_)
    refine nl (h := ?_)
    refine q_seq (h := ?_)
    refine sq (h := ?_)
    refine cd (by exact rfl) (fun h3 => ?_) (fun h3 => ?_)
    · skip
      have hkn : z.k < n := by simp only [decide_eq_true_eq] at h3; omega
      obtain ⟨x, hx⟩ : ∃ x, xs[z.k]? = some x := ⟨_, List.getElem?_eq_getElem (by omega)⟩
      have hxe := encN_at hx
      have hms := mostS_succ hx
      have hal := all_take hx
      refine skp (h := ?_)
      refine q_seq (h := ?_)
      refine sq (h := ?_)
      refine bk (h := ?_)
      refine sq (h := ?_)
      refine rg (h := ?_)
      refine WL.y (hy := ix (hb := by omega)) (h := ?_)
      refine WL.y (hy := ldEA (hk := hxe)) (h := ?_)
      refine al (h := fun b1 => ?_)
      first | refine stA (h := ?_) | refine stEA (h := ?_)
      refine nl (h := ?_)
      refine q_seq (h := ?_)
      refine sq (h := ?_)
      refine sq (h := ?_)
      refine rg (h := ?_)
      refine WL.y (hy := (by first | exact ldA | exact ldEA)) (h := ?_)
      refine cl0 (hc := fun w hS => C_card_isMark _ w) (h := ?_)
      refine WL.y (hy := notB) (h := ?_)
      refine nl (h := ?_)
      refine q_seq (h := ?_)
      refine cd (by exact rfl) (fun h4 => ?_) (fun h4 => ?_)
      · skip
        have hE : chkC f first xs = 30 := by
          have h1 : (!mkV x) = true := h4
          have h2 : xs.all mkV = false := all_bad (k := z.k + 1) (by rw [hal, show mkV x = false by simpa using h1, Bool.and_false])
          rw [chkC, hH, h2]; rfl
        refine sq (h := ?_)
        refine rg (h := ?_)
        refine WL.y (hy := asg) (h := ?_)
        refine nl (h := ?_)
        refine q_seq (h := ?_)
        refine rtn (h := ?_)
        refine q_then_ret (h := ?_)
        refine q_blk_ret (h := ?_)
        refine q_then_ret (h := ?_)
        refine q_then_ret (h := ?_)
        refine q_blk_ret (h := ?_)
        refine q_then_ret (h := ?_)
        refine q_ret (hR := ?_)
        rw [hE]
        exact fun w hS => ⟨rfl, hS.sub (by repeat (first | exact SubL.nil | (apply SubL.cons; (repeat (first | exact At.here | apply At.there))) | exact SubL.refl _ | apply SubL.skip))⟩
      · skip
        have hmk : mkV x = true := by simpa using h4
        have hmb := most_bd hmk
        have hal2 : (xs.take (z.k + 1)).all mkV = true := by rw [hal, hza, hmk]; rfl
        refine skp (h := ?_)
        refine q_seq (h := ?_)
        refine sq (h := ?_)
        refine rg (h := ?_)
        refine WL.y (hy := (by first | exact fa | exact faE)) (h := ?_)
        refine WL.y (hy := (by first | exact ld | exact ldE)) (h := ?_)
        refine nl (h := ?_)
        refine q_seq (h := ?_)
        refine bk (h := ?_)
        refine sq (h := ?_)
        refine rg (h := ?_)
        refine WL.y (hy := eql) (h := ?_)
        refine WL.y (hy := asg) (h := ?_)
        refine nl (h := ?_)
        refine q_seq (h := ?_)
        refine cd (by exact rfl) (fun h5 => ?_) (fun h5 => ?_)
        · skip
          have hmo : mostN x = 1 := by unfold mostN; rw [if_pos (of_decide_eq_true h5)]
          refine rg (h := ?_)
          refine WL.y (hy := mv) (h := ?_)
          refine WL.y (hy := addI (hb := by omega)) (h := ?_)
          refine WL.y (hy := asg) (h := ?_)
          refine WL.cut (by repeat (first | exact Cut.nil | apply Cut.hit | apply Cut.miss (by exact rfl))) ?_
          refine nl (h := ?_)
          refine q_blk_norm (h := ?_)
          refine q_blk_norm (h := ?_)
          refine q_seq (h := ?_)
          refine rg (h := ?_)
          refine WL.y (hy := addI) (h := ?_)
          refine WL.y (hy := mv) (h := ?_)
          refine nl (h := ?_)
          refine rn (x := z) ⟨z.k + 1⟩ ⟨by dsimp only; omega, hal2, by dsimp only; omega, by dsimp only; omega⟩ (by dsimp only; omega) (by dsimp only; rw [hms, hmo]; (try rw [Int.add_zero]); repeat (first | exact trivial | refine ⟨rfl, ?_⟩)) (by repeat (first | exact SubL.nil | (apply SubL.cons; (repeat (first | exact At.here | apply At.there))) | exact SubL.refl _ | apply SubL.skip))
        · skip
          have hk1 : ¬ x.kind = 1 := of_decide_eq_false h5
          refine sq (h := ?_)
          refine rg (h := ?_)
          refine WL.y (hy := eql) (h := ?_)
          refine WL.y (hy := asg) (h := ?_)
          refine nl (h := ?_)
          refine q_seq (h := ?_)
          refine cd (by exact rfl) (fun h6 => ?_) (fun h6 => ?_)
          · skip
            have hmo : mostN x = x.pair.2 := by unfold mostN; rw [if_neg hk1, if_pos (of_decide_eq_true h6)]
            have hpb : 0 ≤ x.pair.2 ∧ x.pair.2 ≤ 30 := by rw [← hmo]; exact hmb
            refine rg (h := ?_)
            refine WL.y (hy := mv) (h := ?_)
            refine WL.y (hy := (by first | exact fa | exact faE)) (h := ?_)
            refine WL.y (hy := (by first | exact fa | exact faE)) (h := ?_)
            refine WL.y (hy := (by first | exact ld | exact ldE)) (h := ?_)
            refine WL.y (hy := addI (hb := by omega)) (h := ?_)
            refine WL.y (hy := asg) (h := ?_)
            refine WL.cut (by repeat (first | exact Cut.nil | apply Cut.hit | apply Cut.miss (by exact rfl))) ?_
            refine nl (h := ?_)
            refine q_blk_norm (h := ?_)
            refine q_blk_norm (h := ?_)
            refine q_seq (h := ?_)
            refine rg (h := ?_)
            refine WL.y (hy := addI) (h := ?_)
            refine WL.y (hy := mv) (h := ?_)
            refine nl (h := ?_)
            refine rn (x := z) ⟨z.k + 1⟩ ⟨by dsimp only; omega, hal2, by dsimp only; omega, by dsimp only; omega⟩ (by dsimp only; omega) (by dsimp only; rw [hms, hmo]; (try rw [Int.add_zero]); repeat (first | exact trivial | refine ⟨rfl, ?_⟩)) (by repeat (first | exact SubL.nil | (apply SubL.cons; (repeat (first | exact At.here | apply At.there))) | exact SubL.refl _ | apply SubL.skip))
          · skip
            have hmo : mostN x = 0 := by unfold mostN; rw [if_neg hk1, if_neg (of_decide_eq_false h6)]
            refine skp (h := ?_)
            refine q_blk_norm (h := ?_)
            refine q_blk_norm (h := ?_)
            refine q_seq (h := ?_)
            refine rg (h := ?_)
            refine WL.y (hy := addI) (h := ?_)
            refine WL.y (hy := mv) (h := ?_)
            refine nl (h := ?_)
            refine rn (x := z) ⟨z.k + 1⟩ ⟨by dsimp only; omega, hal2, by dsimp only; omega, by dsimp only; omega⟩ (by dsimp only; omega) (by dsimp only; rw [hms, hmo]; (try rw [Int.add_zero]); repeat (first | exact trivial | refine ⟨rfl, ?_⟩)) (by repeat (first | exact SubL.nil | (apply SubL.cons; (repeat (first | exact At.here | apply At.there))) | exact SubL.refl _ | apply SubL.skip))
    · skip
      have hkn : z.k = n := by simp only [decide_eq_false_iff_not] at h3; omega
      have htk : xs.take z.k = xs := by rw [hkn, ← hlen, List.take_length]
      rw [htk] at hza hzm
      refine et (h := ?_)
      refine q_then_exit (h := ?_)
      refine q_then_exit (h := ?_)
      refine q_blk_hit (h := ?_)
      refine q_seq (h := ?_)
      refine sq (h := ?_)
      refine sq (h := ?_)
      refine rg (h := ?_)
      refine WL.y (hy := mv) (h := ?_)
      refine WL.y (hy := gtr) (h := ?_)
      refine nl (h := ?_)
      refine q_seq (h := ?_)
      refine cd (by exact rfl) (fun h7 => ?_) (fun h7 => ?_)
      · skip
        have h8 := h7
        rw [htk] at h8
        have hE : chkC f first xs = 30 := by rw [chkC, hH, hza, show decide (600 < mostS xs) = true from h8]; rfl
        refine sq (h := ?_)
        refine rg (h := ?_)
        refine WL.y (hy := asg) (h := ?_)
        refine nl (h := ?_)
        refine q_seq (h := ?_)
        refine rtn (h := ?_)
        refine q_then_ret (h := ?_)
        refine q_ret (hR := ?_)
        rw [hE]
        exact fun w hS => ⟨rfl, hS.sub (by repeat (first | exact SubL.nil | (apply SubL.cons; (repeat (first | exact At.here | apply At.there))) | exact SubL.refl _ | apply SubL.skip))⟩
      · skip
        have h8 := h7
        rw [htk] at h8
        have hE : chkC f first xs = 0 := by rw [chkC, hH, hza, show decide (600 < mostS xs) = false from h8]; rfl
        refine skp (h := ?_)
        refine q_seq (h := ?_)
        refine sq (h := ?_)
        refine rg (h := ?_)
        refine WL.y (hy := asg) (h := ?_)
        refine nl (h := ?_)
        refine q_seq (h := ?_)
        refine rtn (h := ?_)
        refine q_ret (hR := ?_)
        rw [hE]
        exact fun w hS => ⟨rfl, hS.sub (by repeat (first | exact SubL.nil | (apply SubL.cons; (repeat (first | exact At.here | apply At.there))) | exact SubL.refl _ | apply SubL.skip))⟩
end Go.Proofs.YtpejgebcmhmpaaaGreat

namespace Go.Proofs.YtpejgebcmhmpaaaGreat
open Go Go.RowKit

abbrev noteSp : List Sp := [.int .i64, .int .i64, .int .i64, .int .i64]
abbrev cardSp : List Sp := [.int .i64, .int .i64, .bool, .int .i64, .int .i64, .int .i64, .int .i64, .int .i64, .int .i64, .bool, .int .i64, .sl noteSp]
theorem note_cells {w : World} {cs : List Value} (h : Mts w noteSp cs) : ∃ x : Nt, cs = x.cells := by
  obtain ⟨a1, cs, rfl, _, h⟩ := Mts.int_inv h
  obtain ⟨a2, cs, rfl, _, h⟩ := h.int_inv
  obtain ⟨a3, cs, rfl, _, h⟩ := h.int_inv
  obtain ⟨a4, cs, rfl, _, h⟩ := h.int_inv
  rw [h.nil_inv]
  exact ⟨⟨a1, a2, (a3, a4)⟩, rfl⟩
theorem card_open {w : World} {cs : List Value} (h : Mts w cardSp cs) : ∃ (f : Fmt) (z : Int) (l : List Nt) (A : Option Addr) (n c : Nat), Value.agg cs.toArray = .agg (cardC f z A n c).toArray ∧ Rd w A 4 n (encN l) ∧ n ≤ c ∧ n ≤ 9223372036854775807 := by
  obtain ⟨a1, cs, rfl, _, h⟩ := Mts.int_inv h
  obtain ⟨a2, cs, rfl, _, h⟩ := h.int_inv
  obtain ⟨a3, cs, rfl, h3⟩ := h.bool_inv
  obtain ⟨a4, cs, rfl, _, h⟩ := h3.int_inv
  obtain ⟨a5, cs, rfl, _, h⟩ := h.int_inv
  obtain ⟨a6, cs, rfl, _, h⟩ := h.int_inv
  obtain ⟨a7, cs, rfl, _, h⟩ := h.int_inv
  obtain ⟨a8, cs, rfl, _, h⟩ := h.int_inv
  obtain ⟨a9, cs, rfl, _, h⟩ := h.int_inv
  obtain ⟨a10, cs, rfl, h10⟩ := h.bool_inv
  obtain ⟨z, cs, rfl, _, h⟩ := h10.int_inv
  obtain ⟨A, n, c, xs, cs, rfl, hr, hn, hx, h⟩ := h.sl_invc
  rw [h.nil_inv]
  obtain ⟨ys, rfl⟩ := map_of (f := Nt.cells) (xs := xs) fun x hxm => note_cells (hx x hxm)
  exact ⟨⟨a1, a2, a3, a4, a5, a6, a7, a8, a9, a10⟩, z, ys, A, n, c, rfl, hr, by omega, by omega⟩
end Go.Proofs.YtpejgebcmhmpaaaGreat

namespace Go.Proofs.YtpejgebcmhmpaaaGreat
open Go Go.RowKit

def begTo (cf : Int) : Nat → List En
  | 0 => []
  | k + 1 => begTo cf k ++ if cf = -1 ∨ cf = (k : Int) then [(⟨(k : Int), [], (0, 0), (0, 0)⟩, (0, 0, 0))] else []
theorem begTo_two (cf : Int) : begTo cf 2 = begC cf := by
  show (([] : List En) ++ _) ++ _ = _
  unfold begC
  rw [List.nil_append]
  rfl
structure BgI (f : Fmt) (cf : Int) (k : Nat) (N : List Nd) (mn : Nat → Pr) (ns : List Nd) (es : Array MapEntry) (c : Nat) : Prop where
  ok : PoolOk f N mn 0
  cr : CrIs N ns es c
  eqC : toC mn ns = begTo cf k
  row : ∀ y ∈ ns, RowN N y [] ∧ y.s = ⟨y.s.first, [], (0, 0), (0, 0)⟩ ∧ (cf = -1 ∨ cf = y.s.first) ∧ 0 ≤ y.s.first ∧ y.s.first < (k : Int)
theorem BgI.skip {f : Fmt} {cf : Int} {k : Nat} {N : List Nd} {mn : Nat → Pr} {ns : List Nd} {es : Array MapEntry} {c : Nat} (h : BgI f cf k N mn ns es c) (hc : ¬ (cf = -1 ∨ cf = (k : Int))) : BgI f cf (k + 1) N mn ns es c :=
  ⟨h.ok, h.cr, by rw [begTo, if_neg hc, List.append_nil]; exact h.eqC, fun y hy => by have := h.row y hy; exact ⟨this.1, this.2.1, this.2.2.1, this.2.2.2.1, by omega⟩⟩
theorem BgI.get {f : Fmt} {cf : Int} {k : Nat} {N : List Nd} {mn : Nat → Pr} {ns : List Nd} {es : Array MapEntry} {c : Nat} (h : BgI f cf k N mn ns es c) : getN ns ⟨(k : Int), [], (0, 0), (0, 0)⟩ = none :=
  List.find?_eq_none.2 fun y hy => by
    rw [decide_eq_true_eq]
    intro e
    have := (h.row y hy).2.2.2.2
    rw [e] at this
    exact absurd this (by show ¬ (k : Int) < (k : Int); omega)
theorem BgI.add {f : Fmt} {cf : Int} {k : Nat} {N : List Nd} {mn : Nat → Pr} {ns : List Nd} {es es2 : Array MapEntry} {c c2 : Nat} (h : BgI f cf k N mn ns es c) (hk : k < 2) (hc : cf = -1 ∨ cf = (k : Int)) {b : Nat} (hne : ∀ z ∈ N, z.b ≠ b) (hm : MapIs es2 (crE (putNs ns ⟨b, ⟨(k : Int), [], (0, 0), (0, 0)⟩, none, 0⟩)) ∧ Stm es2 c2) :
    BgI f cf (k + 1) (⟨b, ⟨(k : Int), [], (0, 0), (0, 0)⟩, none, 0⟩ :: N) (upN mn b (0, 0)) (putNs ns ⟨b, ⟨(k : Int), [], (0, 0), (0, 0)⟩, none, 0⟩) es2 c2 := by
  have hup : ∀ z ∈ N, z ∈ (⟨b, ⟨(k : Int), [], (0, 0), (0, 0)⟩, none, 0⟩ :: N : List Nd) := fun z hz => List.mem_cons_of_mem _ hz
  have hok := h.ok.first (y := ⟨b, ⟨(k : Int), [], (0, 0), (0, 0)⟩, none, 0⟩) (Int.le_refl _) hne (by dsimp only; omega) rfl rfl
  have hg := h.get
  refine ⟨hok, (h.cr.up hup).put List.mem_cons_self hm, ?_, fun y hy => ?_⟩
  · rw [putNs_none hg]
    show toC _ (ns ++ [_]) = _
    unfold toC
    rw [List.map_append, begTo, if_pos hc, ← h.eqC]
    congr 1
    · exact toC_congr fun y hy => upN_other (hne y (h.cr.sub y hy))
    · show [((⟨(k : Int), [], (0, 0), (0, 0)⟩ : Spot), ((upN mn b (0, 0) b).1, (upN mn b (0, 0) b).2, (0 : Int)))] = _
      rw [upN_same]
  · rcases putNs_mem hy with h5 | rfl
    · have := h.row y h5
      exact ⟨this.1.mono hup, this.2.1, this.2.2.1, this.2.2.2.1, by omega⟩
    · exact ⟨.nil rfl, rfl, hc, by dsimp only; omega, by dsimp only; omega⟩
structure BGZ where
  (N : List Nd) (mn : Nat → Pr) (ns : List Nd) (es : Array MapEntry) (c k : Nat)
set_option maxRecDepth 100000 in
theorem T_reader_begin (f : Fmt) (hf : f.Ok) (cf : Int) (A : Option Addr) (n c : Nat) (mn : Nat → Pr) :
    Tr Tryz.prog 58 [.agg (cardC f cf A n c).toArray] [poolE 94 [] mn none] (fun q : PR => BgI f cf 2 q.N q.mn q.ns q.es q.c) (fun q => .map (some q.b)) (fun q => [poolE 94 q.N q.mn none, .obj q.b (.map q.es q.c)]) := by
  refine ⟨fun w0 w R hst => ?_⟩
  refine en Tryz.func58 Tryz.ntmps58 hst (h := fun F => ?_)
  refine sq (h := ?_)
  refine rg (h := ?_)
  refine bxA (h := fun b0 => ?_)
  refine WL.y (hy := asg) (h := ?_)
  refine nl (h := ?_)
  refine q_seq (h := ?_)
  refine sq (h := ?_)
  refine rg (h := ?_)
  refine mkm (h := fun b1 => ?_)
  refine WL.y (hy := asg) (h := ?_)
  refine nl (h := ?_)
  refine q_seq (h := ?_)
  refine sq (h := ?_)
  refine sq (h := ?_)
  refine rg (h := ?_)
  refine WL.y (hy := mv) (h := ?_)
  refine nl (h := ?_)
  refine q_seq (h := ?_)
  refine bk (h := ?_)
  refine lp (X := BGZ) (I := fun z => z.k ≤ 2 ∧ BgI f cf z.k z.N z.mn z.ns z.es z.c) (le := fun z => [(1, .pointer (some ⟨b0, 0, none⟩)), (3, .map (some b1)), (6, .int .i64 z.k)]) (Le := fun z => .obj b1 (.map z.es z.c) :: .blk b0 111 (cardC f cf A n c) :: poolE 94 z.N z.mn none :: R) (μ := fun z => 2 - z.k) ⟨[], mn, [], #[], 0, 0⟩ ⟨Nat.zero_le _, ⟨PoolOk.nil f mn 0, CrIs.nil [], rfl, fun y hy => (by cases hy)⟩⟩ (by repeat (first | exact trivial | refine ⟨rfl, ?_⟩)) (by repeat (first | exact SubL.nil | (apply SubL.cons; (repeat (first | exact At.here | apply At.there))) | exact SubL.refl _ | apply SubL.skip)) (fun z hz => ?_)
  obtain ⟨hzk, hzb⟩ := hz
  refine sq (h := ?_)
  refine rg (h := ?_)
  refine WL.y (hy := lss) (h := ?_)
  refine nl (h := ?_)
  refine q_seq (h := ?_)
  refine sq (h := ?_)
  refine cd (by exact rfl) (fun h0 => ?_) (fun h0 => ?_)
  · skip
    have hk2 : z.k < 2 := by simp only [decide_eq_true_eq] at h0; omega
    refine skp (h := ?_)
    refine q_seq (h := ?_)
    refine sq (h := ?_)
    refine bk (h := ?_)
    refine sq (h := ?_)
    refine rg (h := ?_)
    refine WL.y (hy := mv) (h := ?_)
    refine WL.y (hy := asg) (h := ?_)
    refine nl (h := ?_)
    refine q_seq (h := ?_)
    refine sq (h := ?_)
    refine rg (h := ?_)
    refine WL.y (hy := (by first | exact fa | exact faE)) (h := ?_)
    refine WL.y (hy := (by first | exact fa | exact faE)) (h := ?_)
    refine WL.y (hy := (by first | exact ld | exact ldE)) (h := ?_)
    refine WL.y (hy := eql) (h := ?_)
    refine WL.y (hy := mv) (h := ?_)
    apply brOr 6 13 19 (by exact rfl)
    · intro hb1
      refine un (h := ?_)
      refine WL.y (hy := (by first | exact fa | exact faE)) (h := ?_)
      refine un (h := ?_)
      refine WL.y (hy := (by first | exact fa | exact faE)) (h := ?_)
      refine un (h := ?_)
      refine WL.y (hy := (by first | exact ld | exact ldE)) (h := ?_)
      refine un (h := ?_)
      refine WL.y (hy := mv) (h := ?_)
      refine un (h := ?_)
      refine WL.y (hy := eql) (h := ?_)
      refine WL.y (hy := (by first | exact pkT | exact pkF)) (h := ?_)
      exact mg (by repeat (first | exact trivial | refine ⟨rfl, ?_⟩ | refine ⟨by rw [hb1]; rfl, ?_⟩)) (by repeat (first | exact SubL.nil | (apply SubL.cons; (repeat (first | exact At.here | apply At.there))) | exact SubL.refl _ | apply SubL.skip))
    · intro hb1
      repeat (first | refine un (h := ?_) | refine sk (h := ?_) | refine WL.y (hy := pkF) (h := ?_) | refine WL.y (hy := pkT) (h := ?_))
      exact mg (by repeat (first | exact trivial | refine ⟨rfl, ?_⟩ | refine ⟨by rw [hb1]; rfl, ?_⟩)) (by repeat (first | exact SubL.nil | (apply SubL.cons; (repeat (first | exact At.here | apply At.there))) | exact SubL.refl _ | apply SubL.skip))
    refine nl (h := ?_)
    refine q_seq (h := ?_)
    refine cd (by exact rfl) (fun h2 => ?_) (fun h2 => ?_)
    · skip
      have hcf : cf = -1 ∨ cf = ((z.k : Nat) : Int) := by
        have h' : (decide (cf = -1) || decide (cf = (z.k : Int))) = true := h2
        simpa using h'
      refine rg (h := ?_)
      refine WL.y (hy := mv) (h := ?_)
      refine WL.y (hy := mv) (h := ?_)
      refine WL.y (hy := bd) (h := ?_)
      refine WL.y (hy := bd) (h := ?_)
      refine bxA (h := fun b2 => ?_)
      refine WL.pNew ⟨b2, ⟨((z.k : Nat) : Int), [], (0, 0), (0, 0)⟩, none, 0⟩ (0, 0) .here (by repeat (first | exact At.here | apply At.there)) (fun hne => ?_)
      have hcp := hzb.ok.first (y := ⟨b2, ⟨((z.k : Nat) : Int), [], (0, 0), (0, 0)⟩, none, 0⟩) (Int.le_refl _) hne (by dsimp only; omega) rfl rfl
      refine clT (hc := T_put (⟨b2, ⟨((z.k : Nat) : Int), [], (0, 0), (0, 0)⟩, none, 0⟩ :: z.N) z.ns (upN z.mn b2 (0, 0)) ⟨b2, ⟨((z.k : Nat) : Int), [], (0, 0), (0, 0)⟩, none, 0⟩ b1 z.es z.c hzb.cr.m hzb.cr.s hcp.nd (fun y hy => (hcp.ok y hy).len hf) (fun y hy => List.mem_cons_of_mem _ (hzb.cr.sub y hy)) List.mem_cons_self) (h := fun q hq => ?_)
      rw [putM_none hzb.get]
      refine nl (h := ?_)
      refine q_blk_norm (h := ?_)
      refine q_seq (h := ?_)
      refine rg (h := ?_)
      refine WL.y (hy := addI) (h := ?_)
      refine WL.y (hy := mv) (h := ?_)
      refine nl (h := ?_)
      first
        | (refine rn (x := z) ⟨⟨b2, ⟨((z.k : Nat) : Int), [], (0, 0), (0, 0)⟩, none, 0⟩ :: z.N, upN z.mn b2 (0, 0), putNs z.ns ⟨b2, ⟨((z.k : Nat) : Int), [], (0, 0), (0, 0)⟩, none, 0⟩, q.1, q.2, z.k + 1⟩ ⟨by dsimp only; omega, hzb.add hk2 hcf hne hq⟩ (by dsimp only; omega) (by repeat (first | exact trivial | refine ⟨rfl, ?_⟩)) (by repeat (first | exact SubL.nil | (apply SubL.cons; (repeat (first | exact At.here | apply At.there))) | exact SubL.refl _ | apply SubL.skip)))
        | (refine rn (x := z) ⟨z.N, z.mn, z.ns, z.es, z.c, z.k + 1⟩ ⟨by dsimp only; omega, hzb.skip hcf⟩ (by dsimp only; omega) (by repeat (first | exact trivial | refine ⟨rfl, ?_⟩)) (by repeat (first | exact SubL.nil | (apply SubL.cons; (repeat (first | exact At.here | apply At.there))) | exact SubL.refl _ | apply SubL.skip)))
    · skip
      have hcf : ¬ (cf = -1 ∨ cf = ((z.k : Nat) : Int)) := by
        have h' : (decide (cf = -1) || decide (cf = (z.k : Int))) = false := h2
        simpa using h'
      refine skp (h := ?_)
      refine q_blk_norm (h := ?_)
      refine q_seq (h := ?_)
      refine rg (h := ?_)
      refine WL.y (hy := addI) (h := ?_)
      refine WL.y (hy := mv) (h := ?_)
      refine nl (h := ?_)
      first
        | (refine rn (x := z) ⟨⟨b2, ⟨((z.k : Nat) : Int), [], (0, 0), (0, 0)⟩, none, 0⟩ :: z.N, upN z.mn b2 (0, 0), putNs z.ns ⟨b2, ⟨((z.k : Nat) : Int), [], (0, 0), (0, 0)⟩, none, 0⟩, q.1, q.2, z.k + 1⟩ ⟨by dsimp only; omega, hzb.add hk2 hcf hne hq⟩ (by dsimp only; omega) (by repeat (first | exact trivial | refine ⟨rfl, ?_⟩)) (by repeat (first | exact SubL.nil | (apply SubL.cons; (repeat (first | exact At.here | apply At.there))) | exact SubL.refl _ | apply SubL.skip)))
        | (refine rn (x := z) ⟨z.N, z.mn, z.ns, z.es, z.c, z.k + 1⟩ ⟨by dsimp only; omega, hzb.skip hcf⟩ (by dsimp only; omega) (by repeat (first | exact trivial | refine ⟨rfl, ?_⟩)) (by repeat (first | exact SubL.nil | (apply SubL.cons; (repeat (first | exact At.here | apply At.there))) | exact SubL.refl _ | apply SubL.skip)))
  · skip
    have hk2 : z.k = 2 := by simp only [decide_eq_false_iff_not] at h0; omega
    refine et (h := ?_)
    refine q_then_exit (h := ?_)
    refine q_then_exit (h := ?_)
    refine q_blk_hit (h := ?_)
    refine q_seq (h := ?_)
    refine sq (h := ?_)
    refine rg (h := ?_)
    refine WL.y (hy := mv) (h := ?_)
    refine WL.y (hy := asg) (h := ?_)
    refine nl (h := ?_)
    refine q_seq (h := ?_)
    refine rtn (h := ?_)
    refine q_ret (hR := ?_)
    rw [hk2] at hzb
    exact fun w hS => ⟨⟨z.N, z.mn, z.ns, b1, z.es, z.c⟩, hzb, rfl, hS.sub (by repeat (first | exact SubL.nil | (apply SubL.cons; (repeat (first | exact At.here | apply At.there))) | exact SubL.refl _ | apply SubL.skip))⟩
end Go.Proofs.YtpejgebcmhmpaaaGreat

namespace Go.Proofs.YtpejgebcmhmpaaaGreat
open Go Go.RowKit

section rules
variable {F : Fence} {P : Program} {ops : Array Oper} {Q : Exit → Act → World → Prop} {rest : List Oper} {n : Nat} {D : List Deferred} {l : Env} {w0 : World} {L M : List Ent}
theorem lenR {x : Operand} {b : Nat} {es : Array MapEntry} {c : Nat} {t k e : TypeId} (hT : MapTy P t k e := by infer_instance) (hx : ev l x = some (.map (some b)) := by exact rfl) (ha : At L (roM b es c) M := by repeat (first | exact At.here | apply At.there)) : Yd P n D l w0 L (.call { callee := .builtin .len, args := #[x], argTypes := #[t] }) (.int .i64 es.size) :=
  ⟨by simp, by simp, fun oo ho ac w hfr hst => by
    have hb : w.heap[b]? = some (.map es c) := hst _ ha.mem
    simp [execOp, ho, resolve, invoke, builtin, hfr.eval hx, Builtin.len_, run_underlying hT.und, getMap hb, goInt]⟩
end rules
theorem CrIs.size {N ns : List Nd} {es : Array MapEntry} {c : Nat} (h : CrIs N ns es c) : es.size = ns.length := by
  have := congrArg List.length (cr_kv h)
  simpa using this
theorem T_read (f : Fmt) (hf : f.Ok) (hc0 : chkF f = 0) (cf : Int) (A : Option Addr) (n c : Nat) (N ns : List Nd) (mn : Nat → Pr) (t : Nt) (ht : mkV t = true) (K : Int) (hK : K ≤ 500) (hP : PoolOk f N mn K) (b : Nat) (es : Array MapEntry) (cl : Nat) (hC : CrIs N ns es cl) :
    Tr Tryz.prog 59 [.agg (cardC f cf A n c).toArray, .map (some b), t.val] [poolE 94 N mn none, roM b es cl] (RdOk f N mn ns t K) (fun q => .map (some q.b)) (fun q => [poolE 94 q.N q.mn none, .obj q.b (.map q.es q.c), roM b es cl]) := by
  have hk := mk_kind ht
  by_cases h1 : t.kind = 1
  · exact T_read_noted f hf cf A n c N ns mn t K hK hP b es cl hC h1
  by_cases h2 : t.kind = 2
  · have h3 := hk.2.2.1 h2
    exact T_read_missed f hf cf A n c N ns mn t K hK hP b es cl hC h2 t.pair.2.toNat (by omega) (by omega)
  · exact T_read_test f hf hc0 cf A n c N ns mn t K hK hP b es cl hC h1 h2
structure StI (f : Fmt) (cf : Int) (xs : List Nt) (j : Nat) (q : PR) : Prop where
  ok : PoolOk f q.N q.mn (mostS (xs.take j) + (j : Int))
  cr : CrIs q.N q.ns q.es q.c
  eqC : (toC q.mn q.ns).Perm (crowdC f cf (xs.take j))
  row : ∀ y ∈ q.ns, ∃ r, RowN q.N y r ∧ Row_ f cf xs j y.s y.s.first r
theorem StI.start {f : Fmt} {cf : Int} {xs : List Nt} {q : PR} (h : BgI f cf 2 q.N q.mn q.ns q.es q.c) : StI f cf xs 0 q := by
  refine ⟨h.ok, h.cr, ?_, fun y hy => ?_⟩
  · rw [h.eqC, begTo_two]; exact .refl _
  · obtain ⟨h1, h2, h3, h4, h5⟩ := h.row y hy
    refine ⟨[], h1, ?_⟩
    rw [h2]
    exact row_begin (by omega) h3
theorem StI.read {f : Fmt} {cf : Int} {xs : List Nt} {j : Nat} {q q2 : PR} {x : Nt} (h : StI f cf xs j q) (hx : xs[j]? = some x) (hr : RdOk f q.N q.mn q.ns x (mostS (xs.take j) + (j : Int)) q2) : StI f cf xs (j + 1) q2 := by
  refine ⟨?_, hr.cr, ?_, fun y hy => ?_⟩
  · have := hr.ok
    rw [mostS_succ hx, show mostS (xs.take j) + mostN x + ((j + 1 : Nat) : Int) = mostS (xs.take j) + (j : Int) + mostN x + 1 by omega]
    exact this
  · rw [crowd_succ f cf hx]
    exact hr.eqC.trans (after_perm f x h.eqC)
  · obtain ⟨x0, hx0, r, p, h1, h2, h3, h4⟩ := hr.fr y hy
    obtain ⟨r0, h5, h6⟩ := h.row x0 hx0
    obtain rfl := h5.uniq h.ok.nd h1
    obtain ⟨r', h7, _, h8, h9⟩ := (hr.ok.ok y (hr.cr.sub y hy)).row
    obtain rfl := h7.uniq hr.ok.nd h2
    rw [h3] at h8 h9 ⊢
    exact ⟨_, h2, row_read h6 hx h8 h9 h4⟩
theorem StI.none {f : Fmt} {cf : Int} {xs : List Nt} {j : Nat} {q : PR} (h : StI f cf xs j q) : q.es.size = 0 ↔ crowdC f cf (xs.take j) = [] := by
  rw [h.cr.size, ← List.length_eq_zero_iff (l := crowdC f cf (xs.take j)), ← h.eqC.length_eq]
  unfold toC
  rw [List.length_map]
theorem bad_at {f : Fmt} {cf : Int} {xs : List Nt} {i : Nat} (hi : i < xs.length) (h0 : crowdC f cf (xs.take (i + 1)) = []) (h1 : ∀ j, j ≤ i → crowdC f cf (xs.take j) ≠ []) : badC f cf xs = i := by
  unfold badC
  rcases fstC_spec (fun i => (crowdC f cf (xs.take (i + 1))).isEmpty) xs.length with ⟨_, h3⟩ | ⟨k, hk, h2, h3, h4⟩
  · have := h3 i hi
    rw [h0] at this; cases this
  · rw [h2]
    congr 1
    by_cases e1 : k < i
    · exact absurd (List.isEmpty_iff.1 h3) (h1 (k + 1) (by omega))
    · by_cases e2 : i < k
      · have := h4 i e2
        rw [h0] at this; cases this
      · omega
structure AZ where
  (q : PR) (k : Nat)
def AllOk (f : Fmt) (cf : Int) (xs : List Nt) (o : Option PR) : Prop := match o with
  | none => chkC f cf xs ≠ 0 ∨ 0 ≤ badC f cf xs
  | some q => chkC f cf xs = 0 ∧ badC f cf xs = -1 ∧ StI f cf xs xs.length q
def allB (f : Fmt) (cf : Int) (xs : List Nt) : Int := bif decide (chkC f cf xs = 0) then badC f cf xs else 0
def allV (o : Option PR) : Value := match o with
  | none => .map none
  | some q => .map (some q.b)
def allE (T : TypeId) (o : Option PR) : List Ent := match o with
  | none => []
  | some q => [poolE T q.N q.mn none, roM q.b q.es q.c]
theorem chk_facts {f : Fmt} {cf : Int} {xs : List Nt} (h : chkC f cf xs = 0) : chkF f = 0 ∧ f.Ok ∧ (-1 ≤ cf ∧ cf ≤ 1) ∧ xs.length ≤ 30 ∧ (∀ x ∈ xs, mkV x = true) ∧ mostS xs ≤ 600 := by
  unfold chkC at h
  cases hh : headB f cf xs.length
  · rw [hh, cond_false] at h
    cases ha : xs.all mkV
    · rw [ha] at h; cases h
    · rw [ha] at h
      have h2 : decide (600 < mostS xs) = false := by
        cases hm : decide (600 < mostS xs)
        · rfl
        · rw [hm] at h; cases h
      unfold headB at hh
      simp only [Bool.or_eq_false_iff, decide_eq_false_iff_not] at hh
      have h3 := chkF_ok hh.1.1
      have h4 : chkF f = 0 := by simpa using hh.1.1
      exact ⟨h4, h3, wi_not.1 hh.1.2, by have := hh.2; omega, List.all_eq_true.1 ha, by have := of_decide_eq_false h2; omega⟩
  · rw [hh] at h; cases h
theorem mostS_le {xs : List Nt} (h : ∀ x ∈ xs, mkV x = true) (j : Nat) : 0 ≤ mostS (xs.take j) ∧ mostS (xs.take j) ≤ mostS xs := by
  have nn : ∀ l : List Nt, (∀ x ∈ l, mkV x = true) → 0 ≤ mostS l := fun l => by
    induction l with
    | nil => exact fun _ => Int.le_refl _
    | cons x l ih =>
      intro h
      have h1 := ih fun y hy => h y (by simp [hy])
      have h2 := most_bd (h x (by simp))
      show 0 ≤ mostN x + mostS l
      omega
  have e : mostS xs = mostS (xs.take j) + mostS (xs.drop j) := by
    unfold mostS
    rw [← List.sum_append, ← List.map_append, List.take_append_drop]
  have h1 := nn (xs.take j) fun x hx => h x (List.mem_of_mem_take hx)
  have h2 := nn (xs.drop j) fun x hx => h x (List.mem_of_mem_drop hx)
  omega
theorem C_card_all (f : Fmt) (cf : Int) (xs : List Nt) (A : Option Addr) (n c : Nat) (w : World) (h : Rd w A 4 n (encN xs)) (hn : n ≤ 9223372036854775807) (hsm : chkC f cf xs = 0 → mostS xs ≤ 400) :
    CR Tryz.prog 37 [.agg (cardC f cf A n c).toArray] w (AllOk f cf xs) (fun o => .tuple #[allV o, .int .i64 (allB f cf xs), .int .i64 (chkC f cf xs)]) (allE 94) := by
  have hlen : xs.length = n := by have := h.len; rwa [encN_len] at this
  refine ⟨en Tryz.func37 Tryz.ntmps37 ((St.init w).share (e := .ro A 4 n (encN xs)) h rfl rfl rfl) (h := fun F => ?_)⟩
  refine sq (h := ?_)
  refine rg (h := ?_)
  refine bxA (h := fun b0 => ?_)
  refine WL.y (hy := asg) (h := ?_)
  refine WL.cut (by repeat (first | exact Cut.nil | apply Cut.hit | apply Cut.miss (by exact rfl))) ?_
  refine WL.y (hy := asg) (h := ?_)
  refine WL.y (hy := asg) (h := ?_)
  refine nl (h := ?_)
  refine q_seq (h := ?_)
  refine sq (h := ?_)
  refine sq (h := ?_)
  refine rg (h := ?_)
  refine WL.y (hy := (by first | exact ldA | exact ldEA)) (h := ?_)
  refine cl0 (hc := fun w hS => C_card_Check f cf xs A n c w (hS.get (by repeat (first | exact Rds.ro | exact Rds.own | apply Rds.there))) hn) (h := ?_)
  refine WL.y (hy := asg) (h := ?_)
  refine nl (h := ?_)
  refine q_seq (h := ?_)
  refine sq (h := ?_)
  refine rg (h := ?_)
  refine WL.y (hy := mv) (h := ?_)
  refine WL.y (hy := neq) (h := ?_)
  refine nl (h := ?_)
  refine q_seq (h := ?_)
  refine cd (by exact rfl) (fun h0 => ?_) (fun h0 => ?_)
  · skip
    have hcn : chkC f cf xs ≠ 0 := by simpa using h0
    have hB : allB f cf xs = 0 := by rw [allB, decide_eq_false hcn]; rfl
    refine sq (h := ?_)
    refine rg (h := ?_)
    refine WL.y (hy := mv) (h := ?_)
    refine WL.y (hy := asg) (h := ?_)
    refine WL.cut (by repeat (first | exact Cut.nil | apply Cut.hit | apply Cut.miss (by exact rfl))) ?_
    refine WL.y (hy := asg) (h := ?_)
    refine WL.y (hy := asg) (h := ?_)
    refine nl (h := ?_)
    refine q_seq (h := ?_)
    refine rtn (h := ?_)
    refine q_then_ret (h := ?_)
    refine q_ret (hR := ?_)
    rw [hB]
    exact fun w hS => ⟨none, .inl hcn, rfl, hS.sub (by repeat (first | exact SubL.nil | (apply SubL.cons; (repeat (first | exact At.here | apply At.there))) | exact SubL.refl _ | apply SubL.skip))⟩
  · skip
    have hcn : chkC f cf xs = 0 := by simpa using h0
    obtain ⟨hc0, hf, hcf, hl30, hmk, -⟩ := chk_facts hcn
    have hms := hsm hcn
    have hB : allB f cf xs = badC f cf xs := by rw [allB, decide_eq_true hcn]; rfl
    rw [hcn]
    refine skp (h := ?_)
    refine q_seq (h := ?_)
    refine sq (h := ?_)
    refine rg (h := ?_)
    refine WL.y (hy := (by first | exact ldA | exact ldEA)) (h := ?_)
    refine WL.y (hy := bd) (h := ?_)
    refine al (h := fun b1 => ?_)
    first | refine stA (h := ?_) | refine stEA (h := ?_)
    refine nl (h := ?_)
    refine q_seq (h := ?_)
    refine sq (h := ?_)
    refine WC.pool0 94 (fun _ => (0, 0)) ?_
    refine rg (h := ?_)
    refine WL.y (hy := (by first | exact ldA | exact ldEA)) (h := ?_)
    refine clT (hc := T_reader_begin f hf cf A n c (fun _ => (0, 0))) (h := fun q1 hq1 => ?_)
    refine WL.y (hy := asg) (h := ?_)
    refine WL.cut (by repeat (first | exact Cut.nil | apply Cut.hit | apply Cut.miss (by exact rfl))) ?_
    refine WL.toRoM (b := q1.b) (es := q1.es) (c := q1.c) (by repeat (first | exact At.here | apply At.there)) ?_
    refine nl (h := ?_)
    refine q_seq (h := ?_)
    refine sq (h := ?_)
    refine sq (h := ?_)
    refine rg (h := ?_)
    refine WL.y (hy := (by first | exact fa | exact faE)) (h := ?_)
    refine WL.y (hy := (by first | exact ld | exact ldE)) (h := ?_)
    refine WL.y (hy := lenS) (h := ?_)
    refine WL.y (hy := mv) (h := ?_)
    refine nl (h := ?_)
    refine q_seq (h := ?_)
    refine bk (h := ?_)
    refine lp (X := AZ) (I := fun z => z.k ≤ n ∧ StI f cf xs z.k z.q ∧ ∀ j, j ≤ z.k → crowdC f cf (xs.take j) ≠ []) (le := fun z => [(2, .map (some z.q.b)), (6, .pointer (some ⟨b1, 0, none⟩)), (19, .slice A n c), (20, .int .i64 n), (21, .int .i64 z.k)]) (Le := fun z => [roM z.q.b z.q.es z.q.c, poolE 94 z.q.N z.q.mn none, .blk b1 111 (cardC f cf A n c), .ro A 4 n (encN xs)]) (μ := fun z => n - z.k) ⟨q1, 0⟩ ⟨Nat.zero_le _, StI.start hq1, fun j hj => by rw [show j = 0 from Nat.le_zero.1 hj]; exact beg_ne hcf⟩ (by repeat (first | exact trivial | refine ⟨rfl, ?_⟩)) (by repeat (first | exact SubL.nil | (apply SubL.cons; (repeat (first | exact At.here | apply At.there))) | exact SubL.refl _ | apply SubL.skip)) (fun z hz => ?_)
    obtain ⟨hzk, hzs, hzn⟩ := hz
    refine sq (h := ?_)
    refine rg (h := ?_)
    refine WL.y (hy := lss) (h := ?_)
    refine nl (h := ?_)
    refine q_seq (h := ?_)
    refine sq (h := ?_)
    refine cd (by exact rfl) (fun h1 => ?_) (fun h1 => ?_)
    · skip
      have hkn : z.k < n := by simp only [decide_eq_true_eq] at h1; omega
      obtain ⟨x, hx⟩ : ∃ x, xs[z.k]? = some x := ⟨_, List.getElem?_eq_getElem (by omega)⟩
      have hxe := encN_at hx
      have hmx := hmk x (List.mem_of_getElem? hx)
      have hml := mostS_le hmk z.k
      refine skp (h := ?_)
      refine q_seq (h := ?_)
      refine sq (h := ?_)
      refine bk (h := ?_)
      refine sq (h := ?_)
      refine rg (h := ?_)
      refine WL.y (hy := mv) (h := ?_)
      refine WL.y (hy := ix (hb := by omega)) (h := ?_)
      refine WL.y (hy := ldEA (hk := hxe)) (h := ?_)
      refine al (h := fun b2 => ?_)
      refine WL.y (hy := asg) (h := ?_)
      first | refine stA (h := ?_) | refine stEA (h := ?_)
      refine nl (h := ?_)
      refine q_seq (h := ?_)
      refine sq (h := ?_)
      refine rg (h := ?_)
      refine WL.y (hy := (by first | exact ldA | exact ldEA)) (h := ?_)
      refine WL.y (hy := mv) (h := ?_)
      refine WL.y (hy := (by first | exact ldA | exact ldEA)) (h := ?_)
      refine clT (hc := T_read f hf hc0 cf A n c z.q.N z.q.ns z.q.mn x hmx _ (by omega) hzs.ok z.q.b z.q.es z.q.c hzs.cr) (h := fun q2 hq2 => ?_)
      have hs2 := hzs.read hx hq2
      refine WL.y (hy := asg) (h := ?_)
      refine WL.cut (by repeat (first | exact Cut.nil | apply Cut.hit | apply Cut.miss (by exact rfl))) ?_
      refine WL.toRoM (b := q2.b) (es := q2.es) (c := q2.c) (by repeat (first | exact At.here | apply At.there)) ?_
      refine nl (h := ?_)
      refine q_seq (h := ?_)
      refine sq (h := ?_)
      refine rg (h := ?_)
      refine WL.y (hy := mv) (h := ?_)
      refine WL.y (hy := lenR (b := q2.b) (es := q2.es) (c := q2.c)) (h := ?_)
      refine WL.y (hy := eql) (h := ?_)
      refine nl (h := ?_)
      refine q_seq (h := ?_)
      refine cd (by exact rfl) (fun h2 => ?_) (fun h2 => ?_)
      · skip
        have hem : q2.es.size = 0 := by have h9 := of_decide_eq_true h2; omega
        have hE : badC f cf xs = (z.k : Int) := bad_at (by omega) (hs2.none.1 hem) hzn
        refine sq (h := ?_)
        refine rg (h := ?_)
        refine WL.y (hy := mv) (h := ?_)
        refine WL.y (hy := asg) (h := ?_)
        refine WL.cut (by repeat (first | exact Cut.nil | apply Cut.hit | apply Cut.miss (by exact rfl))) ?_
        refine WL.y (hy := asg) (h := ?_)
        refine WL.y (hy := asg) (h := ?_)
        refine nl (h := ?_)
        refine q_seq (h := ?_)
        refine rtn (h := ?_)
        refine q_blk_ret (h := ?_)
        refine q_then_ret (h := ?_)
        refine q_then_ret (h := ?_)
        refine q_blk_ret (h := ?_)
        refine q_then_ret (h := ?_)
        refine q_ret (hR := ?_)
        rw [hB, hE]
        first
          | exact fun w hS => ⟨none, .inr (by rw [hE]; omega), rfl, hS.sub (by repeat (first | exact SubL.nil | (apply SubL.cons; (repeat (first | exact At.here | apply At.there))) | exact SubL.refl _ | apply SubL.skip))⟩
          | exact fun w hS => ⟨some z.q, ⟨hcn, hE, hzs⟩, rfl, hS.sub (L' := [poolE 94 z.q.N z.q.mn none, roM z.q.b z.q.es z.q.c]) (by repeat (first | exact SubL.nil | (apply SubL.cons; (repeat (first | exact At.here | apply At.there))) | exact SubL.refl _ | apply SubL.skip))⟩
      · skip
        have hem : q2.es.size ≠ 0 := by have h9 := of_decide_eq_false h2; omega
        have hne2 : crowdC f cf (xs.take (z.k + 1)) ≠ [] := fun e => hem (hs2.none.2 e)
        refine skp (h := ?_)
        refine q_blk_norm (h := ?_)
        refine q_seq (h := ?_)
        refine rg (h := ?_)
        refine WL.y (hy := addI) (h := ?_)
        refine WL.y (hy := mv) (h := ?_)
        refine nl (h := ?_)
        refine rn (x := z) ⟨q2, z.k + 1⟩ ⟨by dsimp only; omega, hs2, fun j hj => by
            by_cases e : j ≤ z.k
            · exact hzn j e
            · rw [show j = z.k + 1 by dsimp only at hj; omega]; exact hne2⟩ (by dsimp only; omega) (by repeat (first | exact trivial | refine ⟨rfl, ?_⟩)) (by repeat (first | exact SubL.nil | (apply SubL.cons; (repeat (first | exact At.here | apply At.there))) | exact SubL.refl _ | apply SubL.skip))
    · skip
      have hkn : z.k = xs.length := by simp only [decide_eq_false_iff_not] at h1; omega
      have hE : badC f cf xs = -1 := by
        have h9 := hzn z.k (Nat.le_refl _)
        rw [hkn, List.take_length] at h9
        exact (bad_none hcf).2 h9
      rw [hkn] at hzs
      refine et (h := ?_)
      refine q_then_exit (h := ?_)
      refine q_then_exit (h := ?_)
      refine q_blk_hit (h := ?_)
      refine q_seq (h := ?_)
      refine sq (h := ?_)
      refine rg (h := ?_)
      refine WL.y (hy := mv) (h := ?_)
      refine WL.y (hy := asg) (h := ?_)
      refine WL.cut (by repeat (first | exact Cut.nil | apply Cut.hit | apply Cut.miss (by exact rfl))) ?_
      refine WL.y (hy := asg) (h := ?_)
      refine WL.y (hy := asg) (h := ?_)
      refine nl (h := ?_)
      refine q_seq (h := ?_)
      refine rtn (h := ?_)
      refine q_ret (hR := ?_)
      rw [hB, hE]
      first
        | exact fun w hS => ⟨none, .inr (by rw [hE]; omega), rfl, hS.sub (by repeat (first | exact SubL.nil | (apply SubL.cons; (repeat (first | exact At.here | apply At.there))) | exact SubL.refl _ | apply SubL.skip))⟩
        | exact fun w hS => ⟨some z.q, ⟨hcn, hE, hzs⟩, rfl, hS.sub (L' := [poolE 94 z.q.N z.q.mn none, roM z.q.b z.q.es z.q.c]) (by repeat (first | exact SubL.nil | (apply SubL.cons; (repeat (first | exact At.here | apply At.there))) | exact SubL.refl _ | apply SubL.skip))⟩
end Go.Proofs.YtpejgebcmhmpaaaGreat

namespace Go.Proofs.YtpejgebcmhmpaaaGreat
open Go Go.RowKit

theorem sub_app : ∀ (L R : List Ent), SubL L (L ++ R)
  | [], _ => .nil
  | _ :: L, R => .cons .here (sub_app L R)
def posE (f : Fmt) (cf : Int) (xs : List Nt) : Int := bif decide (chkC f cf xs = 0) then (bif decide (0 ≤ badC f cf xs) then 3 else 0) else chkC f cf xs
theorem posE_some {f : Fmt} {cf : Int} {xs : List Nt} {q : PR} (h : AllOk f cf xs (some q)) : posE f cf xs = 0 := by
  obtain ⟨h1, h2, _⟩ := h
  rw [posE, h1, h2]; rfl
theorem posE_none {f : Fmt} {cf : Int} {xs : List Nt} (h : AllOk f cf xs none) : posE f cf xs ≠ 0 := by
  unfold posE
  by_cases h1 : chkC f cf xs = 0
  · rw [decide_eq_true h1, cond_true, decide_eq_true (h.resolve_left (fun e => e h1))]; decide
  · rw [decide_eq_false h1, cond_false]; exact h1
theorem C_card_First (f : Fmt) (cf : Int) (xs : List Nt) (A : Option Addr) (n c : Nat) (w : World) (h : Rd w A 4 n (encN xs)) (hn : n ≤ 9223372036854775807) (hsm : chkC f cf xs = 0 → mostS xs ≤ 400) :
    C0 Tryz.prog 12 [.agg (cardC f cf A n c).toArray] w (.tuple #[.int .i64 (allB f cf xs), .int .i64 (chkC f cf xs)]) := by
  refine ⟨en Tryz.func12 Tryz.ntmps12 ((St.init w).share (e := .ro A 4 n (encN xs)) h rfl rfl rfl) (h := fun F => ?_)⟩
  refine sq (h := ?_)
  refine rg (h := ?_)
  refine bxA (h := fun b0 => ?_)
  refine WL.y (hy := asg) (h := ?_)
  refine WL.y (hy := asg) (h := ?_)
  refine nl (h := ?_)
  refine q_seq (h := ?_)
  refine sq (h := ?_)
  refine rg (h := ?_)
  refine WL.y (hy := (by first | exact ldA | exact ldEA)) (h := ?_)
  refine cl (hfresh := fun o => by cases o <;> rfl) (hc := fun w hS => C_card_all f cf xs A n c w (hS.get (by repeat (first | exact Rds.ro | exact Rds.own | apply Rds.there))) hn hsm) (h := fun o ho => ?_)
  refine WL.y (hy := mv) (h := ?_)
  refine WL.y (hy := ex) (h := ?_)
  refine WL.y (hy := ex) (h := ?_)
  refine WL.y (hy := ex) (h := ?_)
  refine WL.y (hy := asg) (h := ?_)
  refine WL.y (hy := asg) (h := ?_)
  refine WL.y (hy := asg) (h := ?_)
  refine nl (h := ?_)
  refine q_seq (h := ?_)
  refine sq (h := ?_)
  refine rg (h := ?_)
  refine WL.y (hy := mv) (h := ?_)
  refine WL.y (hy := mv) (h := ?_)
  refine WL.y (hy := asg) (h := ?_)
  refine WL.y (hy := asg) (h := ?_)
  refine nl (h := ?_)
  refine q_seq (h := ?_)
  refine rtn (h := ?_)
  refine q_ret (hR := ?_)
  exact fun w hS => ⟨rfl, hS.sub .nil⟩
theorem C_card_possible (f : Fmt) (cf : Int) (xs : List Nt) (A : Option Addr) (n c : Nat) (w : World) (h : Rd w A 4 n (encN xs)) (hn : n ≤ 9223372036854775807) (hsm : chkC f cf xs = 0 → mostS xs ≤ 400) :
    CR Tryz.prog 39 [.agg (cardC f cf A n c).toArray] w (AllOk f cf xs) (fun o => .tuple #[allV o, .int .i64 (posE f cf xs)]) (allE 94) := by
  refine ⟨en Tryz.func39 Tryz.ntmps39 ((St.init w).share (e := .ro A 4 n (encN xs)) h rfl rfl rfl) (h := fun F => ?_)⟩
  refine sq (h := ?_)
  refine rg (h := ?_)
  refine bxA (h := fun b0 => ?_)
  refine WL.y (hy := asg) (h := ?_)
  refine WL.y (hy := asg) (h := ?_)
  refine nl (h := ?_)
  refine q_seq (h := ?_)
  refine sq (h := ?_)
  refine rg (h := ?_)
  refine WL.y (hy := (by first | exact ldA | exact ldEA)) (h := ?_)
  refine cl (hfresh := fun o => by cases o <;> rfl) (hc := fun w hS => C_card_all f cf xs A n c w (hS.get (by repeat (first | exact Rds.ro | exact Rds.own | apply Rds.there))) hn hsm) (h := fun o ho => ?_)
  refine WL.y (hy := mv) (h := ?_)
  refine WL.y (hy := ex) (h := ?_)
  refine WL.y (hy := ex) (h := ?_)
  refine WL.y (hy := ex) (h := ?_)
  refine WL.y (hy := asg) (h := ?_)
  refine WL.y (hy := asg) (h := ?_)
  refine WL.y (hy := asg) (h := ?_)
  refine nl (h := ?_)
  refine q_seq (h := ?_)
  refine sq (h := ?_)
  refine sq (h := ?_)
  refine rg (h := ?_)
  refine WL.y (hy := mv) (h := ?_)
  refine WL.y (hy := eql) (h := ?_)
  refine WL.y (hy := mv) (h := ?_)
  apply brAnd 3 15 18 (by exact rfl)
  · intro hb0
    refine un (h := ?_)
    refine WL.y (hy := mv) (h := ?_)
    refine un (h := ?_)
    refine WL.y (hy := geq) (h := ?_)
    refine WL.y (hy := (by first | exact pkT | exact pkF)) (h := ?_)
    exact mg (by repeat (first | exact trivial | refine ⟨rfl, ?_⟩ | refine ⟨by rw [hb0]; rfl, ?_⟩)) (by repeat (first | exact SubL.nil | (apply SubL.cons; (repeat (first | exact At.here | apply At.there))) | exact SubL.refl _ | apply SubL.skip))
  · intro hb0
    repeat (first | refine un (h := ?_) | refine sk (h := ?_) | refine WL.y (hy := pkF) (h := ?_) | refine WL.y (hy := pkT) (h := ?_))
    exact mg (by repeat (first | exact trivial | refine ⟨rfl, ?_⟩ | refine ⟨by rw [hb0]; rfl, ?_⟩)) (by repeat (first | exact SubL.nil | (apply SubL.cons; (repeat (first | exact At.here | apply At.there))) | exact SubL.refl _ | apply SubL.skip))
  refine nl (h := ?_)
  refine q_seq (h := ?_)
  refine cd (by exact rfl) (fun h1 => ?_) (fun h1 => ?_)
  · skip
    have hp : posE f cf xs = 3 := by
      have h' : (decide (chkC f cf xs = 0) && decide (0 ≤ allB f cf xs)) = true := h1
      rw [Bool.and_eq_true] at h'
      have h2 := h'.2
      rw [allB, h'.1, cond_true] at h2
      rw [posE, h'.1, h2]; rfl
    refine rg (h := ?_)
    refine WL.y (hy := asg) (h := ?_)
    refine nl (h := ?_)
    refine q_seq (h := ?_)
    refine sq (h := ?_)
    refine rg (h := ?_)
    refine WL.y (hy := mv) (h := ?_)
    refine WL.y (hy := mv) (h := ?_)
    refine WL.y (hy := asg) (h := ?_)
    refine WL.y (hy := asg) (h := ?_)
    refine nl (h := ?_)
    refine q_seq (h := ?_)
    refine rtn (h := ?_)
    refine q_ret (hR := ?_)
    rw [hp]
    exact fun w hS => ⟨o, ho, rfl, hS.sub (sub_app _ _)⟩
  · skip
    have hp : posE f cf xs = chkC f cf xs := by
      have h' : (decide (chkC f cf xs = 0) && decide (0 ≤ allB f cf xs)) = false := h1
      unfold posE
      cases hd : decide (chkC f cf xs = 0)
      · rfl
      · rw [hd, Bool.true_and, allB, hd, cond_true] at h'
        rw [h']; exact (of_decide_eq_true hd).symm
    refine skp (h := ?_)
    refine q_seq (h := ?_)
    refine sq (h := ?_)
    refine rg (h := ?_)
    refine WL.y (hy := mv) (h := ?_)
    refine WL.y (hy := mv) (h := ?_)
    refine WL.y (hy := asg) (h := ?_)
    refine WL.y (hy := asg) (h := ?_)
    refine nl (h := ?_)
    refine q_seq (h := ?_)
    refine rtn (h := ?_)
    refine q_ret (hR := ?_)
    rw [hp]
    exact fun w hS => ⟨o, ho, rfl, hS.sub (sub_app _ _)⟩
end Go.Proofs.YtpejgebcmhmpaaaGreat

namespace Go.Proofs.YtpejgebcmhmpaaaGreat
open Go Go.RowKit

theorem all_none {f : Fmt} {cf : Int} {xs : List Nt} {o : Option PR} (h : AllOk f cf xs o) (he : posE f cf xs ≠ 0) : o = none := by
  cases o with
  | none => rfl
  | some q => exact absurd (posE_some h) he
theorem all_some {f : Fmt} {cf : Int} {xs : List Nt} {o : Option PR} (h : AllOk f cf xs o) (he : posE f cf xs = 0) : ∃ q, o = some q ∧ StI f cf xs xs.length q ∧ q.ns ≠ [] ∧ chkC f cf xs = 0 := by
  cases o with
  | none => exact absurd he (posE_none h)
  | some q =>
    refine ⟨q, rfl, h.2.2, fun e => ?_, h.1⟩
    have h1 := h.2.2.none
    rw [h.2.2.cr.size, e, List.take_length] at h1
    exact (bad_none (chk_facts h.1).2.2.1).1 h.2.1 (h1.1 rfl)
theorem StI.keys {f : Fmt} {cf : Int} {xs : List Nt} {q : PR} (h : StI f cf xs xs.length q) {y : Nd} (hy : y ∈ q.ns) : y.s ∈ keyC (crowdC f cf xs) := by
  have h1 := h.eqC
  rw [List.take_length] at h1
  have : y.s ∈ keyC (toC q.mn q.ns) := by rw [toC_keys]; exact List.mem_map.2 ⟨y, hy, rfl⟩
  exact (h1.map _).subset this
structure ITZ where
  (dn ts : List Nd) (tk : List KV) (o : Option KV)
def cntC (f : Fmt) (cf : Int) (xs : List Nt) : Pr := spanC (crowdC f cf xs) (600, 0)
def cntV (f : Fmt) (cf : Int) (xs : List Nt) : Pr := bif decide (posE f cf xs = 0) then cntC f cf xs else (0, 0)
theorem span_snoc (mn : Nat → Pr) (dn : List Nd) (x : Nd) (v : Pr) : spanC (toC mn (dn ++ [x])) v = (min (spanC (toC mn dn) v).1 (mn x.b).1, max (spanC (toC mn dn) v).2 (mn x.b).2) := by
  rw [toC_snoc]
  unfold spanC
  rw [List.foldl_append]
  rfl
theorem C_card_Count (f : Fmt) (cf : Int) (xs : List Nt) (A : Option Addr) (n c : Nat) (w : World) (h : Rd w A 4 n (encN xs)) (hn : n ≤ 9223372036854775807) (hsm : chkC f cf xs = 0 → mostS xs ≤ 400) :
    C0 Tryz.prog 16 [.agg (cardC f cf A n c).toArray] w (.tuple #[pv (cntV f cf xs), .int .i64 (posE f cf xs)]) := by
  refine ⟨en Tryz.func16 Tryz.ntmps16 ((St.init w).share (e := .ro A 4 n (encN xs)) h rfl rfl rfl) (h := fun F => ?_)⟩
  refine sq (h := ?_)
  refine rg (h := ?_)
  refine bxA (h := fun b0 => ?_)
  refine al (h := fun b1 => ?_)
  refine WL.y (hy := asg) (h := ?_)
  refine WL.cut (by repeat (first | exact Cut.nil | apply Cut.hit | apply Cut.miss (by exact rfl))) ?_
  refine nl (h := ?_)
  refine q_seq (h := ?_)
  refine sq (h := ?_)
  refine rg (h := ?_)
  refine WL.y (hy := (by first | exact ldA | exact ldEA)) (h := ?_)
  refine cl (hfresh := fun o => by cases o <;> rfl) (hc := fun w hS => C_card_possible f cf xs A n c w (hS.get (by repeat (first | exact Rds.ro | exact Rds.own | apply Rds.there))) hn hsm) (h := fun o ho => ?_)
  refine WL.y (hy := mv) (h := ?_)
  refine WL.y (hy := ex) (h := ?_)
  refine WL.y (hy := ex) (h := ?_)
  refine WL.y (hy := asg) (h := ?_)
  refine WL.y (hy := asg) (h := ?_)
  refine nl (h := ?_)
  refine q_seq (h := ?_)
  refine sq (h := ?_)
  refine sq (h := ?_)
  refine rg (h := ?_)
  refine WL.y (hy := mv) (h := ?_)
  refine WL.y (hy := neq) (h := ?_)
  refine nl (h := ?_)
  refine q_seq (h := ?_)
  refine cd (by exact rfl) (fun h0 => ?_) (fun h0 => ?_)
  · skip
    have he : posE f cf xs ≠ 0 := by simpa using h0
    obtain rfl := all_none ho he
    have hv : cntV f cf xs = (0, 0) := by rw [cntV, decide_eq_false he]; rfl
    refine sq (h := ?_)
    refine rg (h := ?_)
    refine WL.y (hy := bd) (h := ?_)
    refine WL.y (hy := mv) (h := ?_)
    first | refine stA (h := ?_) | refine stEA (h := ?_)
    refine WL.y (hy := asg) (h := ?_)
    refine WL.cut (by repeat (first | exact Cut.nil | apply Cut.hit | apply Cut.miss (by exact rfl))) ?_
    refine nl (h := ?_)
    refine q_seq (h := ?_)
    refine rtn (h := ?_)
    refine q_then_ret (h := ?_)
    refine q_ret (hR := ?_)
    first
      | (rw [hv]; exact fun w hS => ⟨rfl, hS.sub .nil⟩)
      | (rw [hv, ← hfin, he]; exact fun w hS => ⟨rfl, hS.sub .nil⟩)
  · skip
    have he : posE f cf xs = 0 := by simpa using h0
    obtain ⟨q, rfl, hq, hqn, hck⟩ := all_some ho he
    have hv : cntV f cf xs = cntC f cf xs := by rw [cntV, decide_eq_true he]; rfl
    refine WC.subL (L' := [poolE 94 q.N q.mn none, roM q.b q.es q.c, .blk b1 38 [.int .i64 0, .int .i64 0]]) (by repeat (first | exact SubL.nil | (apply SubL.cons; (repeat (first | exact At.here | apply At.there))) | exact SubL.refl _ | apply SubL.skip)) ?_
    refine skp (h := ?_)
    refine q_seq (h := ?_)
    refine sq (h := ?_)
    refine rg (h := ?_)
    refine WL.y (hy := bd) (h := ?_)
    refine al (h := fun b2 => ?_)
    first | refine stA (h := ?_) | refine stEA (h := ?_)
    refine nl (h := ?_)
    refine q_seq (h := ?_)
    refine sq (h := ?_)
    refine sq (h := ?_)
    refine rg (h := ?_)
    refine WL.y (hy := mv) (h := ?_)
    refine rngM (b := q.b) (es := q.es) (c := q.c) (h := fun r1 => ?_)
    rw [cr_kv hq.cr]
    refine nl (h := ?_)
    refine q_seq (h := ?_)
    refine bk (h := ?_)
    refine lp (X := ITZ) (I := fun z => (z.dn ++ z.ts).Perm q.ns ∧ z.tk.Perm (z.ts.map ndKV)) (le := fun z => [(2, .pointer (some ⟨b1, 0, none⟩)), (6, .pointer (some ⟨b2, 0, none⟩)), (20, .pointer (some ⟨r1, 0, none⟩))]) (Le := fun z => [itE r1 q.b q.es q.c z.tk z.o, .blk b2 38 [.int .i64 (spanC (toC q.mn z.dn) (600, 0)).1, .int .i64 (spanC (toC q.mn z.dn) (600, 0)).2], poolE 94 q.N q.mn none, roM q.b q.es q.c, .blk b1 38 [.int .i64 0, .int .i64 0]]) (μ := fun z => z.ts.length) ⟨[], q.ns, q.ns.map ndKV, none⟩ ⟨.refl _, .refl _⟩ (by repeat (first | exact trivial | refine ⟨rfl, ?_⟩)) (by repeat (first | exact SubL.nil | (apply SubL.cons; (repeat (first | exact At.here | apply At.there))) | exact SubL.refl _ | apply SubL.skip)) (fun z hz => ?_)
    obtain ⟨hzd, hzt⟩ := hz
    refine sq (h := ?_)
    refine rg (h := ?_)
    refine nxtM (b := q.b) (es := q.es) (c := q.c) (hs := hq.cr.s) (h := fun o2 tk2 ho2 => ?_)
    refine WL.y (hy := exN) (h := ?_)
    refine nl (h := ?_)
    refine q_seq (h := ?_)
    refine sq (h := ?_)
    refine cd (by exact rfl) (fun h1 => ?_) (fun h1 => ?_)
    · skip
      obtain ⟨kv, rfl⟩ := Option.isSome_iff_exists.1 h1
      rcases todo_nd hzt ho2 with ⟨e, _⟩ | ⟨x, ts', e, hts, htk⟩
      · cases e
      obtain rfl := Option.some.inj e
      have hxn : x ∈ q.ns := hzd.subset (List.mem_append.2 (.inr (hts.symm.subset List.mem_cons_self)))
      have hsp := span_snoc q.mn z.dn x (600, 0)
      refine skp (h := ?_)
      refine q_seq (h := ?_)
      refine bk (h := ?_)
      refine sq (h := ?_)
      refine rg (h := ?_)
      refine WL.y (hy := entM (b := q.b) (es := q.es) (c := q.c) (hs := hq.cr.s)) (h := ?_)
      refine WL.y (hy := ex) (h := ?_)
      refine WL.y (hy := asg) (h := ?_)
      refine nl (h := ?_)
      refine q_seq (h := ?_)
      refine rgD (by kernel_rfl) [(17, .blk b2 38 [.int .i64 (spanC (toC q.mn z.dn) (600, 0)).1, .int .i64 (spanC (toC q.mn z.dn) (600, 0)).2]), (1000000, poolE 94 q.N q.mn none)] (by repeat (first | exact HS.nil | (apply HS.keep; (repeat (first | exact At.here | apply At.there))) | (apply HS.ro; (repeat (first | exact Rds.ro | exact Rds.own | apply Rds.there))))) (h := ?_)
      refine tk 0 (hy := (by first | exact fa | exact faE)) (h := ?_)
      refine tk 1 (hy := (by first | exact ld | exact ldE)) (h := ?_)
      refine tk 2 (hy := mv) (h := ?_)
      refine tk 3 (hy := nck) (h := ?_)
      refine tk 4 (hy := (by first | exact fa | exact faE)) (h := ?_)
      refine tk 5 (hy := (by first | exact fa | exact faE)) (h := ?_)
      refine tk 6 (hy := ldQ (hy := hq.cr.sub x hxn)) (h := ?_)
      refine tk 7 (hy := minI) (h := ?_)
      refine tk 8 (hy := (by first | exact fa | exact faE)) (h := ?_)
      refine tk 9 (hy := (by first | exact ld | exact ldE)) (h := ?_)
      refine tk 10 (hy := mv) (h := ?_)
      refine tk 11 (hy := nck) (h := ?_)
      refine tk 12 (hy := (by first | exact fa | exact faE)) (h := ?_)
      refine tk 13 (hy := (by first | exact fa | exact faE)) (h := ?_)
      refine tk 14 (hy := ldQ (hy := hq.cr.sub x hxn)) (h := ?_)
      refine tk 15 (hy := maxI) (h := ?_)
      refine tk 16 (hy := bd) (h := ?_)
      refine one 17 (h := ?_)
      first | refine stA (h := ?_) | refine stEA (h := ?_)
      refine nx (h := ?_)
      refine dn (h := ?_)
      refine q_blk_norm (h := ?_)
      refine rn (x := z) ⟨z.dn ++ [x], ts', tk2, some (ndKV x)⟩ ⟨by rw [List.append_assoc]; exact ((List.Perm.append_left z.dn hts.symm)).trans hzd, htk⟩ (by have := hts.length_eq; rw [List.length_cons] at this; dsimp only; omega) (by repeat (first | exact trivial | refine ⟨rfl, ?_⟩)) (by dsimp only; rw [hsp]; exact (by repeat (first | exact SubL.nil | (apply SubL.cons; (repeat (first | exact At.here | apply At.there))) | exact SubL.refl _ | apply SubL.skip)))
    · skip
      have ho3 : o2 = none := by simpa using h1
      have hts : z.ts = [] := by
        rcases todo_nd hzt ho2 with ⟨_, h9, _⟩ | ⟨x, ts', e, _⟩
        · exact h9
        · rw [ho3] at e; cases e
      have hfin : spanC (toC q.mn z.dn) (600, 0) = cntC f cf xs := by
        rw [hts, List.append_nil] at hzd
        have h9 := hq.eqC
        rw [List.take_length] at h9
        exact span_perm ((hzd.map (ndE q.mn)).trans h9) _
      refine et (h := ?_)
      refine q_then_exit (h := ?_)
      refine q_then_exit (h := ?_)
      refine q_blk_hit (h := ?_)
      refine q_seq (h := ?_)
      refine sq (h := ?_)
      refine rg (h := ?_)
      refine WL.y (hy := (by first | exact ldA | exact ldEA)) (h := ?_)
      first | refine stA (h := ?_) | refine stEA (h := ?_)
      refine WL.y (hy := asg) (h := ?_)
      refine WL.cut (by repeat (first | exact Cut.nil | apply Cut.hit | apply Cut.miss (by exact rfl))) ?_
      refine nl (h := ?_)
      refine q_seq (h := ?_)
      refine rtn (h := ?_)
      refine q_ret (hR := ?_)
      first
        | (rw [hv]; exact fun w hS => ⟨rfl, hS.sub .nil⟩)
        | (rw [hv, ← hfin, he]; exact fun w hS => ⟨rfl, hS.sub .nil⟩)
end Go.Proofs.YtpejgebcmhmpaaaGreat

namespace Go.Proofs.YtpejgebcmhmpaaaGreat
open Go Go.RowKit

def sureB (f : Fmt) (cf : Int) (xs : List Nt) (x : Nt) : Bool := (keyC (crowdC f cf xs)).all (holdS f x)
def sureE (f : Fmt) (cf : Int) (xs : List Nt) (x : Nt) : Int := bif decide (chkC f cf xs = 0) then (bif decide (x.kind < 3) || !mkV x then 1 else posE f cf xs) else chkC f cf xs
def sureV (f : Fmt) (cf : Int) (xs : List Nt) (x : Nt) : Bool := decide (sureE f cf xs x = 0) && sureB f cf xs x
theorem C_card_Sure (f : Fmt) (cf : Int) (xs : List Nt) (x : Nt) (A : Option Addr) (n c : Nat) (w : World) (h : Rd w A 4 n (encN xs)) (hn : n ≤ 9223372036854775807) (hsm : chkC f cf xs = 0 → mostS xs ≤ 400) :
    C0 Tryz.prog 25 [.agg (cardC f cf A n c).toArray, x.val] w (.tuple #[.bool (sureV f cf xs x), .int .i64 (sureE f cf xs x)]) := by
  refine ⟨en Tryz.func25 Tryz.ntmps25 ((St.init w).share (e := .ro A 4 n (encN xs)) h rfl rfl rfl) (h := fun F => ?_)⟩
  refine sq (h := ?_)
  refine rg (h := ?_)
  refine bxA (h := fun b0 => ?_)
  refine bxA (h := fun b1 => ?_)
  refine WL.y (hy := asg) (h := ?_)
  refine WL.cut (by repeat (first | exact Cut.nil | apply Cut.hit | apply Cut.miss (by exact rfl))) ?_
  refine WL.y (hy := asg) (h := ?_)
  refine WL.cut (by repeat (first | exact Cut.nil | apply Cut.hit | apply Cut.miss (by exact rfl))) ?_
  refine nl (h := ?_)
  refine q_seq (h := ?_)
  refine sq (h := ?_)
  refine sq (h := ?_)
  refine rg (h := ?_)
  refine WL.y (hy := (by first | exact ldA | exact ldEA)) (h := ?_)
  refine cl0 (hc := fun w hS => C_card_Check f cf xs A n c w (hS.get (by repeat (first | exact Rds.ro | exact Rds.own | apply Rds.there))) hn) (h := ?_)
  refine WL.y (hy := asg) (h := ?_)
  refine nl (h := ?_)
  refine q_seq (h := ?_)
  refine sq (h := ?_)
  refine rg (h := ?_)
  refine WL.y (hy := mv) (h := ?_)
  refine WL.y (hy := neq) (h := ?_)
  refine nl (h := ?_)
  refine q_seq (h := ?_)
  refine cd (by exact rfl) (fun h0 => ?_) (fun h0 => ?_)
  · skip
    have hcn : chkC f cf xs ≠ 0 := by simpa using h0
    have hE : sureE f cf xs x = chkC f cf xs := by rw [sureE, decide_eq_false hcn]; rfl
    have hV : sureV f cf xs x = false := by rw [sureV, hE, decide_eq_false hcn]; rfl
    refine sq (h := ?_)
    refine rg (h := ?_)
    refine WL.y (hy := mv) (h := ?_)
    refine WL.y (hy := asg) (h := ?_)
    refine WL.cut (by repeat (first | exact Cut.nil | apply Cut.hit | apply Cut.miss (by exact rfl))) ?_
    refine WL.y (hy := asg) (h := ?_)
    refine WL.cut (by repeat (first | exact Cut.nil | apply Cut.hit | apply Cut.miss (by exact rfl))) ?_
    refine nl (h := ?_)
    refine q_seq (h := ?_)
    refine rtn (h := ?_)
    refine q_then_ret (h := ?_)
    refine q_ret (hR := ?_)
    first
      | (rw [hV, hE]; exact fun w hS => ⟨rfl, hS.sub .nil⟩)
      | (rw [hV, hE, he]; exact fun w hS => ⟨rfl, hS.sub .nil⟩)
  · skip
    have hcn : chkC f cf xs = 0 := by simpa using h0
    refine skp (h := ?_)
    refine q_seq (h := ?_)
    refine sq (h := ?_)
    refine sq (h := ?_)
    refine rg (h := ?_)
    refine WL.y (hy := (by first | exact fa | exact faE)) (h := ?_)
    refine WL.y (hy := (by first | exact ld | exact ldE)) (h := ?_)
    refine WL.y (hy := lss) (h := ?_)
    refine WL.y (hy := mv) (h := ?_)
    apply brOr 4 19 23 (by exact rfl)
    · intro hb1
      refine un (h := ?_)
      refine WL.y (hy := (by first | exact ldA | exact ldEA)) (h := ?_)
      refine un (h := ?_)
      refine cl0 (hc := fun w hS => C_card_isMark _ w) (h := ?_)
      refine un (h := ?_)
      refine WL.y (hy := notB) (h := ?_)
      refine WL.y (hy := (by first | exact pkT | exact pkF)) (h := ?_)
      exact mg (by repeat (first | exact trivial | refine ⟨rfl, ?_⟩ | refine ⟨by rw [hb1]; rfl, ?_⟩)) (by repeat (first | exact SubL.nil | (apply SubL.cons; (repeat (first | exact At.here | apply At.there))) | exact SubL.refl _ | apply SubL.skip))
    · intro hb1
      repeat (first | refine un (h := ?_) | refine sk (h := ?_) | refine WL.y (hy := pkF) (h := ?_) | refine WL.y (hy := pkT) (h := ?_))
      exact mg (by repeat (first | exact trivial | refine ⟨rfl, ?_⟩ | refine ⟨by rw [hb1]; rfl, ?_⟩)) (by repeat (first | exact SubL.nil | (apply SubL.cons; (repeat (first | exact At.here | apply At.there))) | exact SubL.refl _ | apply SubL.skip))
    refine nl (h := ?_)
    refine q_seq (h := ?_)
    refine cd (by exact rfl) (fun h2 => ?_) (fun h2 => ?_)
    · skip
      have hE : sureE f cf xs x = 1 := by
        have h' : (decide (x.kind < 3) || !mkV x) = true := h2
        rw [sureE, decide_eq_true hcn, h']; rfl
      have hV : sureV f cf xs x = false := by rw [sureV, hE]; rfl
      refine sq (h := ?_)
      refine rg (h := ?_)
      refine WL.y (hy := asg) (h := ?_)
      refine WL.cut (by repeat (first | exact Cut.nil | apply Cut.hit | apply Cut.miss (by exact rfl))) ?_
      refine WL.y (hy := asg) (h := ?_)
      refine WL.cut (by repeat (first | exact Cut.nil | apply Cut.hit | apply Cut.miss (by exact rfl))) ?_
      refine nl (h := ?_)
      refine q_seq (h := ?_)
      refine rtn (h := ?_)
      refine q_then_ret (h := ?_)
      refine q_ret (hR := ?_)
      first
        | (rw [hV, hE]; exact fun w hS => ⟨rfl, hS.sub .nil⟩)
        | (rw [hV, hE, he]; exact fun w hS => ⟨rfl, hS.sub .nil⟩)
    · skip
      have hE : sureE f cf xs x = posE f cf xs := by
        have h' : (decide (x.kind < 3) || !mkV x) = false := h2
        rw [sureE, decide_eq_true hcn, h']; rfl
      refine skp (h := ?_)
      refine q_seq (h := ?_)
      refine sq (h := ?_)
      refine rg (h := ?_)
      refine WL.y (hy := (by first | exact ldA | exact ldEA)) (h := ?_)
      refine cl (hfresh := fun o => by cases o <;> rfl) (hc := fun w hS => C_card_possible f cf xs A n c w (hS.get (by repeat (first | exact Rds.ro | exact Rds.own | apply Rds.there))) hn hsm) (h := fun o ho => ?_)
      refine WL.y (hy := mv) (h := ?_)
      refine WL.y (hy := ex) (h := ?_)
      refine WL.y (hy := ex) (h := ?_)
      refine WL.y (hy := asg) (h := ?_)
      refine WL.y (hy := asg) (h := ?_)
      refine nl (h := ?_)
      refine q_seq (h := ?_)
      refine sq (h := ?_)
      refine sq (h := ?_)
      refine rg (h := ?_)
      refine WL.y (hy := mv) (h := ?_)
      refine WL.y (hy := neq) (h := ?_)
      refine nl (h := ?_)
      refine q_seq (h := ?_)
      refine cd (by exact rfl) (fun h3 => ?_) (fun h3 => ?_)
      · skip
        have he : posE f cf xs ≠ 0 := by simpa using h3
        obtain rfl := all_none ho he
        have hV : sureV f cf xs x = false := by rw [sureV, hE, decide_eq_false he]; rfl
        refine sq (h := ?_)
        refine rg (h := ?_)
        refine WL.y (hy := mv) (h := ?_)
        refine WL.y (hy := asg) (h := ?_)
        refine WL.cut (by repeat (first | exact Cut.nil | apply Cut.hit | apply Cut.miss (by exact rfl))) ?_
        refine WL.y (hy := asg) (h := ?_)
        refine WL.cut (by repeat (first | exact Cut.nil | apply Cut.hit | apply Cut.miss (by exact rfl))) ?_
        refine nl (h := ?_)
        refine q_seq (h := ?_)
        refine rtn (h := ?_)
        refine q_then_ret (h := ?_)
        refine q_ret (hR := ?_)
        first
          | (rw [hV, hE]; exact fun w hS => ⟨rfl, hS.sub .nil⟩)
          | (rw [hV, hE, he]; exact fun w hS => ⟨rfl, hS.sub .nil⟩)
      · skip
        have he : posE f cf xs = 0 := by simpa using h3
        obtain ⟨q, rfl, hq, hqn, hck⟩ := all_some ho he
        obtain ⟨hc0, hf, _, hl30, _, _⟩ := chk_facts hck
        have hms := hsm hck
        have hqok := hq.ok
        rw [List.take_length] at hqok
        refine WC.subL (L' := [poolE 94 q.N q.mn none, roM q.b q.es q.c, .blk b0 26 (cardC f cf A n c), .blk b1 45 x.cells]) (by repeat (first | exact SubL.nil | (apply SubL.cons; (repeat (first | exact At.here | apply At.there))) | exact SubL.refl _ | apply SubL.skip)) ?_
        refine skp (h := ?_)
        refine q_seq (h := ?_)
        refine sq (h := ?_)
        refine sq (h := ?_)
        refine rg (h := ?_)
        refine WL.y (hy := mv) (h := ?_)
        refine rngM (b := q.b) (es := q.es) (c := q.c) (h := fun r1 => ?_)
        rw [cr_kv hq.cr]
        refine nl (h := ?_)
        refine q_seq (h := ?_)
        refine bk (h := ?_)
        refine lp (X := ITZ) (I := fun z => (z.dn ++ z.ts).Perm q.ns ∧ z.tk.Perm (z.ts.map ndKV) ∧ ∀ y ∈ z.dn, holdS f x y.s = true) (le := fun z => [(2, .pointer (some ⟨b0, 0, none⟩)), (3, .pointer (some ⟨b1, 0, none⟩)), (33, .pointer (some ⟨r1, 0, none⟩))]) (Le := fun z => [itE r1 q.b q.es q.c z.tk z.o, poolE 94 q.N q.mn none, roM q.b q.es q.c, .blk b0 26 (cardC f cf A n c), .blk b1 45 x.cells]) (μ := fun z => z.ts.length) ⟨[], q.ns, q.ns.map ndKV, none⟩ ⟨.refl _, .refl _, fun y hy => (by cases hy)⟩ (by repeat (first | exact trivial | refine ⟨rfl, ?_⟩)) (by repeat (first | exact SubL.nil | (apply SubL.cons; (repeat (first | exact At.here | apply At.there))) | exact SubL.refl _ | apply SubL.skip)) (fun z hz => ?_)
        obtain ⟨hzd, hzt, hza⟩ := hz
        refine sq (h := ?_)
        refine rg (h := ?_)
        refine nxtM (b := q.b) (es := q.es) (c := q.c) (hs := hq.cr.s) (h := fun o2 tk2 ho2 => ?_)
        refine WL.y (hy := exN) (h := ?_)
        refine nl (h := ?_)
        refine q_seq (h := ?_)
        refine sq (h := ?_)
        refine cd (by exact rfl) (fun h4 => ?_) (fun h4 => ?_)
        · skip
          obtain ⟨kv, rfl⟩ := Option.isSome_iff_exists.1 h4
          rcases todo_nd hzt ho2 with ⟨e, _⟩ | ⟨y, ts', e, hts, htk⟩
          · cases e
          obtain rfl := Option.some.inj e
          have hyn : y ∈ q.ns := hzd.subset (List.mem_append.2 (.inr (hts.symm.subset List.mem_cons_self)))
          refine skp (h := ?_)
          refine q_seq (h := ?_)
          refine bk (h := ?_)
          refine sq (h := ?_)
          refine rg (h := ?_)
          refine WL.y (hy := entM (b := q.b) (es := q.es) (c := q.c) (hs := hq.cr.s)) (h := ?_)
          refine WL.y (hy := ex) (h := ?_)
          refine WL.y (hy := asg) (h := ?_)
          refine nl (h := ?_)
          refine q_seq (h := ?_)
          refine sq (h := ?_)
          refine rg (h := ?_)
          refine WL.y (hy := (by first | exact ldA | exact ldEA)) (h := ?_)
          refine WL.y (hy := bd) (h := ?_)
          refine WL.y (hy := (by first | exact ldA | exact ldEA)) (h := ?_)
          refine WL.y (hy := mv) (h := ?_)
          refine clT (hc := T_reader_holds f hf hc0 cf A n c q.N q.mn _ (by omega) hqok y (hq.cr.sub y hyn) x) (h := fun _ _ => ?_)
          refine WL.y (hy := notB) (h := ?_)
          refine nl (h := ?_)
          refine q_seq (h := ?_)
          refine cd (by exact rfl) (fun h5 => ?_) (fun h5 => ?_)
          · skip
            have hV : sureV f cf xs x = false := by
              have h8 : holdS f x y.s = false := by simpa using h5
              unfold sureV sureB
              rw [Bool.and_eq_false_iff]
              right
              cases h7 : (keyC (crowdC f cf xs)).all (holdS f x)
              · rfl
              · have := List.all_eq_true.1 h7 y.s (hq.keys hyn)
                rw [h8] at this; cases this
            refine sq (h := ?_)
            refine rg (h := ?_)
            refine WL.y (hy := asg) (h := ?_)
            refine WL.cut (by repeat (first | exact Cut.nil | apply Cut.hit | apply Cut.miss (by exact rfl))) ?_
            refine WL.y (hy := asg) (h := ?_)
            refine WL.cut (by repeat (first | exact Cut.nil | apply Cut.hit | apply Cut.miss (by exact rfl))) ?_
            refine nl (h := ?_)
            refine q_seq (h := ?_)
            refine rtn (h := ?_)
            refine q_blk_ret (h := ?_)
            refine q_then_ret (h := ?_)
            refine q_blk_ret (h := ?_)
            refine q_then_ret (h := ?_)
            refine q_ret (hR := ?_)
            first
              | (rw [hV, hE]; exact fun w hS => ⟨rfl, hS.sub .nil⟩)
              | (rw [hV, hE, he]; exact fun w hS => ⟨rfl, hS.sub .nil⟩)
          · skip
            have hHy : holdS f x y.s = true := by simpa using h5
            refine skp (h := ?_)
            refine q_blk_norm (h := ?_)
            refine rn (x := z) ⟨z.dn ++ [y], ts', tk2, some (ndKV y)⟩ ⟨by rw [List.append_assoc]; exact ((List.Perm.append_left z.dn hts.symm)).trans hzd, htk, fun v hv => by
                rcases List.mem_append.1 hv with h9 | h9
                · exact hza v h9
                · rw [List.mem_singleton.1 h9]; exact hHy⟩ (by have := hts.length_eq; rw [List.length_cons] at this; dsimp only; omega) (by repeat (first | exact trivial | refine ⟨rfl, ?_⟩)) (by repeat (first | exact SubL.nil | (apply SubL.cons; (repeat (first | exact At.here | apply At.there))) | exact SubL.refl _ | apply SubL.skip))
        · skip
          have ho3 : o2 = none := by simpa using h4
          have hts : z.ts = [] := by
            rcases todo_nd hzt ho2 with ⟨_, h9, _⟩ | ⟨y, ts', e, _⟩
            · exact h9
            · rw [ho3] at e; cases e
          have hV : sureV f cf xs x = true := by
            rw [hts, List.append_nil] at hzd
            have h9 := hq.eqC
            rw [List.take_length] at h9
            rw [sureV, hE, he]
            show sureB f cf xs x = true
            refine List.all_eq_true.2 fun s hs => ?_
            have h8 : s ∈ keyC (toC q.mn q.ns) := (h9.map _).symm.subset hs
            rw [toC_keys] at h8
            obtain ⟨y, hy, rfl⟩ := List.mem_map.1 h8
            exact hza y (hzd.symm.subset hy)
          refine et (h := ?_)
          refine q_then_exit (h := ?_)
          refine q_then_exit (h := ?_)
          refine q_blk_hit (h := ?_)
          refine q_seq (h := ?_)
          refine sq (h := ?_)
          refine rg (h := ?_)
          refine WL.y (hy := asg) (h := ?_)
          refine WL.cut (by repeat (first | exact Cut.nil | apply Cut.hit | apply Cut.miss (by exact rfl))) ?_
          refine WL.y (hy := asg) (h := ?_)
          refine WL.cut (by repeat (first | exact Cut.nil | apply Cut.hit | apply Cut.miss (by exact rfl))) ?_
          refine nl (h := ?_)
          refine q_seq (h := ?_)
          refine rtn (h := ?_)
          refine q_ret (hR := ?_)
          first
            | (rw [hV, hE]; exact fun w hS => ⟨rfl, hS.sub .nil⟩)
            | (rw [hV, hE, he]; exact fun w hS => ⟨rfl, hS.sub .nil⟩)
end Go.Proofs.YtpejgebcmhmpaaaGreat

namespace Go.Proofs.YtpejgebcmhmpaaaGreat
open Go Go.RowKit

def orC : List Int → Int
  | [] => 0
  | x :: xs => bif !decide (x = 0) then x else orC xs
theorem C_cmpOrC (xs : List Int) (A : Option Addr) (n c : Nat) (w : World) (h : Rd w A 1 n (encI xs)) (hn : n ≤ 9223372036854775807) : C0 Tryz.prog 42 [.slice A n c] w (.int .i64 (orC xs)) := by
  have hlen : xs.length = n := by have := h.len; rwa [encI_len] at this
  refine ⟨en Tryz.func42 Tryz.ntmps42 ((St.init w).share (e := .ro A 1 n (encI xs)) h rfl rfl rfl) (h := fun F => ?_)⟩
  refine sq (h := ?_)
  refine rg (h := ?_)
  refine WL.y (hy := asg) (h := ?_)
  refine nl (h := ?_)
  refine q_seq (h := ?_)
  refine sq (h := ?_)
  refine rg (h := ?_)
  refine WL.y (hy := asg) (h := ?_)
  refine nl (h := ?_)
  refine q_seq (h := ?_)
  refine sq (h := ?_)
  refine sq (h := ?_)
  refine rg (h := ?_)
  refine WL.y (hy := mv) (h := ?_)
  refine WL.y (hy := lenS) (h := ?_)
  refine WL.y (hy := mv) (h := ?_)
  refine nl (h := ?_)
  refine q_seq (h := ?_)
  refine bk (h := ?_)
  refine lp (X := Nat) (I := fun k => k ≤ n ∧ orC (xs.drop k) = orC xs) (le := fun k => [(3, .int .i64 0), (6, .slice A n c), (7, .int .i64 n), (8, .int .i64 k)]) (Le := fun _ => [.ro A 1 n (encI xs)]) (μ := fun k => n - k) 0 ⟨Nat.zero_le _, rfl⟩ (by repeat (first | exact trivial | refine ⟨rfl, ?_⟩)) (by repeat (first | exact SubL.nil | (apply SubL.cons; (repeat (first | exact At.here | apply At.there))) | exact SubL.refl _ | apply SubL.skip)) (fun k hk => ?_)
  obtain ⟨hk, hko⟩ := hk
  refine sq (h := ?_)
  refine rg (h := ?_)
  refine WL.y (hy := lss) (h := ?_)
  refine nl (h := ?_)
  refine q_seq (h := ?_)
  refine sq (h := ?_)
  refine cd (by exact rfl) (fun h0 => ?_) (fun h0 => ?_)
  · skip
    have hkn : k < n := by simp only [decide_eq_true_eq] at h0; omega
    obtain ⟨x, hx⟩ : ∃ x, xs[k]? = some x := ⟨_, List.getElem?_eq_getElem (by omega)⟩
    have hxe := encI_at hx
    have hdr : xs.drop k = x :: xs.drop (k + 1) := by
      rw [List.drop_eq_getElem_cons (by omega)]
      congr 1
      rw [List.getElem?_eq_getElem (by omega)] at hx
      injection hx
    refine skp (h := ?_)
    refine q_seq (h := ?_)
    refine sq (h := ?_)
    refine bk (h := ?_)
    refine sq (h := ?_)
    refine rg (h := ?_)
    refine WL.y (hy := ix (A := A) (m := n)) (h := ?_)
    refine WL.y (hy := ldE (A := A) (hk := hxe)) (h := ?_)
    refine WL.y (hy := asg) (h := ?_)
    refine nl (h := ?_)
    refine q_seq (h := ?_)
    refine sq (h := ?_)
    refine rg (h := ?_)
    refine WL.y (hy := mv) (h := ?_)
    refine WL.y (hy := mv) (h := ?_)
    refine WL.y (hy := neq) (h := ?_)
    refine nl (h := ?_)
    refine q_seq (h := ?_)
    refine cd (by exact rfl) (fun h1 => ?_) (fun h1 => ?_)
    · skip
      have hE : orC xs = x := by rw [← hko, hdr, orC, h1]; rfl
      refine sq (h := ?_)
      refine rg (h := ?_)
      refine WL.y (hy := mv) (h := ?_)
      refine WL.y (hy := asg) (h := ?_)
      refine nl (h := ?_)
      refine q_seq (h := ?_)
      refine rtn (h := ?_)
      refine q_blk_ret (h := ?_)
      refine q_then_ret (h := ?_)
      refine q_then_ret (h := ?_)
      refine q_blk_ret (h := ?_)
      refine q_then_ret (h := ?_)
      refine q_ret (hR := ?_)
      rw [hE]
      exact fun w hS => ⟨rfl, hS.sub (by repeat (first | exact SubL.nil | (apply SubL.cons; (repeat (first | exact At.here | apply At.there))) | exact SubL.refl _ | apply SubL.skip))⟩
    · skip
      have hE : orC (xs.drop (k + 1)) = orC xs := by
        rw [← hko, hdr, orC]
        have h' : (!decide (x = 0)) = false := h1
        rw [h']; rfl
      refine skp (h := ?_)
      refine q_blk_norm (h := ?_)
      refine q_seq (h := ?_)
      refine rg (h := ?_)
      refine WL.y (hy := addI) (h := ?_)
      refine WL.y (hy := mv) (h := ?_)
      refine nl (h := ?_)
      refine rn (x := k) (k + 1) ⟨by omega, hE⟩ (by omega) (by repeat (first | exact trivial | refine ⟨rfl, ?_⟩)) (by repeat (first | exact SubL.nil | (apply SubL.cons; (repeat (first | exact At.here | apply At.there))) | exact SubL.refl _ | apply SubL.skip))
  · skip
    have hkn : k = n := by simp only [decide_eq_false_iff_not] at h0; omega
    have hE : orC xs = 0 := by rw [← hko, List.drop_of_length_le (by omega)]; rfl
    refine et (h := ?_)
    refine q_then_exit (h := ?_)
    refine q_then_exit (h := ?_)
    refine q_blk_hit (h := ?_)
    refine q_seq (h := ?_)
    refine sq (h := ?_)
    refine rg (h := ?_)
    refine WL.y (hy := mv) (h := ?_)
    refine WL.y (hy := asg) (h := ?_)
    refine nl (h := ?_)
    refine q_seq (h := ?_)
    refine rtn (h := ?_)
    refine q_ret (hR := ?_)
    rw [hE]
    exact fun w hS => ⟨rfl, hS.sub (by repeat (first | exact SubL.nil | (apply SubL.cons; (repeat (first | exact At.here | apply At.there))) | exact SubL.refl _ | apply SubL.skip))⟩
theorem orC2 (x y : Int) : orC [x, y] = orI x y := by
  unfold orI
  by_cases h : x = 0
  · rw [if_neg (by simpa using h), orC, decide_eq_true h]
    show orC [y] = y
    by_cases h2 : y = 0
    · subst h2; rfl
    · rw [orC, decide_eq_false h2]; rfl
  · rw [if_pos h, orC, decide_eq_false h]; rfl
theorem orC3 (x y z : Int) : orC [x, y, z] = orI (orI x y) z := by
  by_cases h : x = 0
  · rw [orC, decide_eq_true h]
    show orC [y, z] = _
    rw [orC2]
    subst h
    unfold orI
    simp
  · rw [orC, decide_eq_false h]
    show x = _
    unfold orI
    rw [if_pos h, if_pos h]
def SmP (p : Pr) : Prop := (0 ≤ p.1 ∧ p.1 ≤ 100000) ∧ 0 ≤ p.2 ∧ p.2 ≤ 100000
theorem C_card_order (a b : Pr) (ha : SmP a) (hb : SmP b) (w : World) : C0 Tryz.prog 44 [pv a, pv b] w (.int .i64 (cmpP a b)) := by
  obtain ⟨⟨a1, a2⟩, a3, a4⟩ := ha
  obtain ⟨⟨b1, b2⟩, b3, b4⟩ := hb
  refine ⟨en Tryz.func44 Tryz.ntmps44 (St.init w) (h := fun F => ?_)⟩
  refine sq (h := ?_)
  refine rg (h := ?_)
  refine bxA (h := fun b0 => ?_)
  refine bxA (h := fun b1 => ?_)
  refine WL.y (hy := asg) (h := ?_)
  refine nl (h := ?_)
  refine q_seq (h := ?_)
  refine sq (h := ?_)
  refine rg (h := ?_)
  refine WL.y (hy := (by first | exact fa | exact faE)) (h := ?_)
  refine WL.y (hy := (by first | exact ld | exact ldE)) (h := ?_)
  refine WL.y (hy := (by first | exact fa | exact faE)) (h := ?_)
  refine WL.y (hy := (by first | exact ld | exact ldE)) (h := ?_)
  refine WL.y (hy := subI) (h := ?_)
  refine WL.y (hy := (by first | exact fa | exact faE)) (h := ?_)
  refine WL.y (hy := (by first | exact ld | exact ldE)) (h := ?_)
  refine WL.y (hy := (by first | exact fa | exact faE)) (h := ?_)
  refine WL.y (hy := (by first | exact ld | exact ldE)) (h := ?_)
  refine WL.y (hy := subI) (h := ?_)
  refine bs (h := fun b2 => ?_)
  refine cl0 (hc := fun w hS => C_cmpOrC [a.1 - b.1, a.2 - b.2] _ _ _ w (hS.get (by repeat (first | exact Rds.ro | exact Rds.own | apply Rds.there))) (by omega)) (h := ?_)
  rw [orC2]
  refine WL.y (hy := asg) (h := ?_)
  refine nl (h := ?_)
  refine q_seq (h := ?_)
  refine rtn (h := ?_)
  refine q_ret (hR := ?_)
  exact fun w hS => ⟨rfl, hS.sub (by repeat (first | exact SubL.nil | (apply SubL.cons; (repeat (first | exact At.here | apply At.there))) | exact SubL.refl _ | apply SubL.skip))⟩
theorem drop_at {α : Type} {xs : List α} {k : Nat} {x : α} (h : xs[k]? = some x) : xs.drop k = x :: xs.drop (k + 1) := by
  have hk := (List.getElem?_eq_some_iff.1 h).1
  rw [List.drop_eq_getElem_cons hk]
  congr 1
  rw [List.getElem?_eq_getElem hk] at h
  exact Option.some.inj h
theorem C_CompareFunc (a b : List Pr) (A B : Option Addr) (n c m d : Nat) (w : World) (h : Rd w A 2 n (encP a)) (h' : Rd w B 2 m (encP b)) (hn : n ≤ 100000) (hm : m ≤ 100000) (ha : ∀ p ∈ a, SmP p) (hb : ∀ p ∈ b, SmP p) :
    C0 Tryz.prog 43 [.slice A n c, .slice B m d, .func (.func 44) #[] #[]] w (.int .i64 (cmpL a b)) := by
  have hla : a.length = n := by have := h.len; simpa [encP] using this
  have hlb : b.length = m := by have := h'.len; simpa [encP] using this
  refine ⟨en Tryz.func43 Tryz.ntmps43 (((St.init w).share (e := .ro A 2 n (encP a)) h rfl rfl rfl).share (e := .ro B 2 m (encP b)) h' rfl rfl rfl) (h := fun F => ?_)⟩
  refine sq (h := ?_)
  refine rg (h := ?_)
  refine WL.y (hy := asg) (h := ?_)
  refine nl (h := ?_)
  refine q_seq (h := ?_)
  refine sq (h := ?_)
  refine sq (h := ?_)
  refine rg (h := ?_)
  refine WL.y (hy := mv) (h := ?_)
  refine WL.y (hy := lenS) (h := ?_)
  refine WL.y (hy := mv) (h := ?_)
  refine nl (h := ?_)
  refine q_seq (h := ?_)
  refine bk (h := ?_)
  refine lp (X := Nat) (I := fun k => k ≤ n ∧ cmpL (a.drop k) (b.drop k) = cmpL a b) (le := fun k => [(0, .slice A n c), (1, .slice B m d), (2, .func (.func 44) #[] #[]), (11, .slice A n c), (12, .int .i64 n), (13, .int .i64 k)]) (Le := fun _ => [.ro A 2 n (encP a), .ro B 2 m (encP b)]) (μ := fun k => n - k) 0 ⟨Nat.zero_le _, rfl⟩ (by repeat (first | exact trivial | refine ⟨rfl, ?_⟩)) (by repeat (first | exact SubL.nil | (apply SubL.cons; (repeat (first | exact At.here | apply At.there))) | exact SubL.refl _ | apply SubL.skip)) (fun k hk => ?_)
  obtain ⟨hk, hko⟩ := hk
  refine sq (h := ?_)
  refine rg (h := ?_)
  refine WL.y (hy := lss) (h := ?_)
  refine nl (h := ?_)
  refine q_seq (h := ?_)
  refine sq (h := ?_)
  refine cd (by exact rfl) (fun h0 => ?_) (fun h0 => ?_)
  · skip
    have hkn : k < n := by simp only [decide_eq_true_eq] at h0; omega
    obtain ⟨x, hx⟩ : ∃ x, a[k]? = some x := ⟨_, List.getElem?_eq_getElem (by omega)⟩
    have hxe := encP_at hx
    have hda := drop_at hx
    have hxs := ha x (List.mem_of_getElem? hx)
    refine skp (h := ?_)
    refine q_seq (h := ?_)
    refine sq (h := ?_)
    refine bk (h := ?_)
    refine sq (h := ?_)
    refine rg (h := ?_)
    refine WL.y (hy := mv) (h := ?_)
    refine WL.y (hy := ix (A := A) (m := n)) (h := ?_)
    refine WL.y (hy := ldEA (A := A) (hk := hxe)) (h := ?_)
    refine al (h := fun b0 => ?_)
    refine WL.y (hy := asg) (h := ?_)
    first | refine stA (h := ?_) | refine stEA (h := ?_)
    refine nl (h := ?_)
    refine q_seq (h := ?_)
    refine sq (h := ?_)
    refine sq (h := ?_)
    refine rg (h := ?_)
    refine WL.y (hy := mv) (h := ?_)
    refine WL.y (hy := mv) (h := ?_)
    refine WL.y (hy := lenS) (h := ?_)
    refine WL.y (hy := geq) (h := ?_)
    refine nl (h := ?_)
    refine q_seq (h := ?_)
    refine cd (by exact rfl) (fun h1 => ?_) (fun h1 => ?_)
    · skip
      have hkm : m ≤ k := by simp only [decide_eq_true_eq] at h1; omega
      have hE : cmpL a b = 1 := by rw [← hko, hda, List.drop_of_length_le (l := b) (by omega)]; rfl
      refine sq (h := ?_)
      refine rg (h := ?_)
      refine WL.y (hy := asg) (h := ?_)
      refine nl (h := ?_)
      refine q_seq (h := ?_)
      refine rtn (h := ?_)
      refine q_then_ret (h := ?_)
      refine q_blk_ret (h := ?_)
      refine q_then_ret (h := ?_)
      refine q_then_ret (h := ?_)
      refine q_blk_ret (h := ?_)
      refine q_then_ret (h := ?_)
      refine q_ret (hR := ?_)
      rw [hE]
      exact fun w hS => ⟨rfl, hS.sub (by repeat (first | exact SubL.nil | (apply SubL.cons; (repeat (first | exact At.here | apply At.there))) | exact SubL.refl _ | apply SubL.skip))⟩
    · skip
      have hkm : k < m := by simp only [decide_eq_false_iff_not] at h1; omega
      obtain ⟨y, hy⟩ : ∃ y, b[k]? = some y := ⟨_, List.getElem?_eq_getElem (by omega)⟩
      have hye := encP_at hy
      have hdb := drop_at hy
      have hys := hb y (List.mem_of_getElem? hy)
      refine skp (h := ?_)
      refine q_seq (h := ?_)
      refine sq (h := ?_)
      refine rg (h := ?_)
      refine WL.y (hy := mv) (h := ?_)
      refine WL.y (hy := mv) (h := ?_)
      refine WL.y (hy := ix (A := B) (m := m)) (h := ?_)
      refine WL.y (hy := ldEA (A := B) (hk := hye)) (h := ?_)
      refine al (h := fun b1 => ?_)
      first | refine stA (h := ?_) | refine stEA (h := ?_)
      refine nl (h := ?_)
      refine q_seq (h := ?_)
      refine sq (h := ?_)
      refine rg (h := ?_)
      refine WL.y (hy := mv) (h := ?_)
      refine WL.y (hy := (by first | exact ldA | exact ldEA)) (h := ?_)
      refine WL.y (hy := (by first | exact ldA | exact ldEA)) (h := ?_)
      refine clf0 (f := 44) (fi := []) (cap := []) (hx := by exact rfl) (hc := fun w hS => C_card_order x y hxs hys w) (h := ?_)
      refine WL.y (hy := asg) (h := ?_)
      refine nl (h := ?_)
      refine q_seq (h := ?_)
      refine sq (h := ?_)
      refine rg (h := ?_)
      refine WL.y (hy := mv) (h := ?_)
      refine WL.y (hy := neq) (h := ?_)
      refine nl (h := ?_)
      refine q_seq (h := ?_)
      refine cd (by exact rfl) (fun h2 => ?_) (fun h2 => ?_)
      · skip
        have hE : cmpL a b = cmpP x y := by
          have h9 : cmpP x y ≠ 0 := by simpa using h2
          rw [← hko, hda, hdb, cmpL, orI, if_pos h9]
        refine sq (h := ?_)
        refine rg (h := ?_)
        refine WL.y (hy := mv) (h := ?_)
        refine WL.y (hy := asg) (h := ?_)
        refine nl (h := ?_)
        refine q_seq (h := ?_)
        refine rtn (h := ?_)
        refine q_blk_ret (h := ?_)
        refine q_then_ret (h := ?_)
        refine q_then_ret (h := ?_)
        refine q_blk_ret (h := ?_)
        refine q_then_ret (h := ?_)
        refine q_ret (hR := ?_)
        rw [hE]
        exact fun w hS => ⟨rfl, hS.sub (by repeat (first | exact SubL.nil | (apply SubL.cons; (repeat (first | exact At.here | apply At.there))) | exact SubL.refl _ | apply SubL.skip))⟩
      · skip
        have hst : cmpL (a.drop (k + 1)) (b.drop (k + 1)) = cmpL a b := by
          have h9 : cmpP x y = 0 := by simpa using h2
          rw [← hko, hda, hdb, cmpL, orI, if_neg (by rw [h9]; decide)]
        refine skp (h := ?_)
        refine q_blk_norm (h := ?_)
        refine q_seq (h := ?_)
        refine rg (h := ?_)
        refine WL.y (hy := addI) (h := ?_)
        refine WL.y (hy := mv) (h := ?_)
        refine nl (h := ?_)
        refine rn (x := k) (k + 1) ⟨by omega, hst⟩ (by omega) (by repeat (first | exact trivial | refine ⟨rfl, ?_⟩)) (by repeat (first | exact SubL.nil | (apply SubL.cons; (repeat (first | exact At.here | apply At.there))) | exact SubL.refl _ | apply SubL.skip))
  · skip
    have hkn : k = n := by simp only [decide_eq_false_iff_not] at h0; omega
    have hda : a.drop k = [] := List.drop_of_length_le (by omega)
    refine et (h := ?_)
    refine q_then_exit (h := ?_)
    refine q_then_exit (h := ?_)
    refine q_blk_hit (h := ?_)
    refine q_seq (h := ?_)
    refine sq (h := ?_)
    refine sq (h := ?_)
    refine rg (h := ?_)
    refine WL.y (hy := mv) (h := ?_)
    refine WL.y (hy := lenS) (h := ?_)
    refine WL.y (hy := mv) (h := ?_)
    refine WL.y (hy := lenS) (h := ?_)
    refine WL.y (hy := lss) (h := ?_)
    refine nl (h := ?_)
    refine q_seq (h := ?_)
    refine cd (by exact rfl) (fun h3 => ?_) (fun h3 => ?_)
    · skip
      have hE : cmpL a b = -1 := by
        have h9 : (n : Int) < m := of_decide_eq_true h3
        obtain ⟨y, hy⟩ : ∃ y, b[k]? = some y := ⟨_, List.getElem?_eq_getElem (by omega)⟩
        rw [← hko, hda, drop_at hy]; rfl
      refine sq (h := ?_)
      refine rg (h := ?_)
      refine WL.y (hy := asg) (h := ?_)
      refine nl (h := ?_)
      refine q_seq (h := ?_)
      refine rtn (h := ?_)
      refine q_then_ret (h := ?_)
      refine q_ret (hR := ?_)
      rw [hE]
      exact fun w hS => ⟨rfl, hS.sub (by repeat (first | exact SubL.nil | (apply SubL.cons; (repeat (first | exact At.here | apply At.there))) | exact SubL.refl _ | apply SubL.skip))⟩
    · skip
      have hE : cmpL a b = 0 := by
        have h9 : ¬ (n : Int) < m := of_decide_eq_false h3
        rw [← hko, hda, List.drop_of_length_le (l := b) (by omega)]; rfl
      refine skp (h := ?_)
      refine q_seq (h := ?_)
      refine sq (h := ?_)
      refine rg (h := ?_)
      refine WL.y (hy := asg) (h := ?_)
      refine nl (h := ?_)
      refine q_seq (h := ?_)
      refine rtn (h := ?_)
      refine q_ret (hR := ?_)
      rw [hE]
      exact fun w hS => ⟨rfl, hS.sub (by repeat (first | exact SubL.nil | (apply SubL.cons; (repeat (first | exact At.here | apply At.there))) | exact SubL.refl _ | apply SubL.skip))⟩
structure BrdSm (b : Brd) : Prop where
  st : ∀ p ∈ b.st, SmP p
  g : SmP b.g
  p : SmP b.p
  n : b.st.length ≤ 100000
set_option maxRecDepth 100000 in
theorem C_Boards1 (a b : Brd) (A B : Option Addr) (c d : Nat) (ha : BrdSm a) (hb : BrdSm b) (w : World) (h : Rd w A 2 a.st.length (encP a.st)) (h' : Rd w B 2 b.st.length (encP b.st)) :
    C0 Tryz.prog 41 [a.val A a.st.length c, b.val B b.st.length d] w (.int .i64 (cmpB a b)) := by
  refine ⟨en Tryz.func41 Tryz.ntmps41 (((St.init w).share (e := .ro A 2 a.st.length (encP a.st)) h rfl rfl rfl).share (e := .ro B 2 b.st.length (encP b.st)) h' rfl rfl rfl) (h := fun F => ?_)⟩
  refine sq (h := ?_)
  refine rg (h := ?_)
  refine bxA (h := fun b0 => ?_)
  refine bxA (h := fun b1 => ?_)
  refine WL.y (hy := asg) (h := ?_)
  refine nl (h := ?_)
  refine q_seq (h := ?_)
  refine sq (h := ?_)
  refine rgD0 (by kernel_rfl) (h := ?_)
  refine tk 0 (hy := (by first | exact fa | exact faE)) (h := ?_)
  refine tk 1 (hy := (by first | exact ld | exact ldE)) (h := ?_)
  refine tk 2 (hy := (by first | exact fa | exact faE)) (h := ?_)
  refine tk 3 (hy := (by first | exact ld | exact ldE)) (h := ?_)
  refine tk 5 (hy := (by first | exact fa | exact faE)) (h := ?_)
  refine tk 6 (hy := (by first | exact ldA | exact ldEA)) (h := ?_)
  refine tk 7 (hy := (by first | exact fa | exact faE)) (h := ?_)
  refine tk 8 (hy := (by first | exact ldA | exact ldEA)) (h := ?_)
  refine tk 10 (hy := (by first | exact fa | exact faE)) (h := ?_)
  refine tk 11 (hy := (by first | exact ldA | exact ldEA)) (h := ?_)
  refine tk 12 (hy := (by first | exact fa | exact faE)) (h := ?_)
  refine tk 13 (hy := (by first | exact ldA | exact ldEA)) (h := ?_)
  refine one 4 (h := ?_)
  refine cl0 (hc := fun w hS => C_CompareFunc a.st b.st A B _ c _ d w (hS.get (by repeat (first | exact Rds.ro | exact Rds.own | apply Rds.there))) (hS.get (by repeat (first | exact Rds.ro | exact Rds.own | apply Rds.there))) ha.n hb.n ha.st hb.st) (h := ?_)
  refine nx (h := ?_)
  refine one 9 (h := ?_)
  refine cl0 (hc := fun w hS => C_card_order a.g b.g ha.g hb.g w) (h := ?_)
  refine nx (h := ?_)
  refine one 14 (h := ?_)
  refine cl0 (hc := fun w hS => C_card_order a.p b.p ha.p hb.p w) (h := ?_)
  refine nx (h := ?_)
  refine one 15 (h := ?_)
  refine bs (h := fun b2 => ?_)
  refine nx (h := ?_)
  refine one 16 (h := ?_)
  refine cl0 (hc := fun w hS => C_cmpOrC [cmpL a.st b.st, cmpP a.g b.g, cmpP a.p b.p] _ _ _ w (hS.get (by repeat (first | exact Rds.ro | exact Rds.own | apply Rds.there))) (by omega)) (h := ?_)
  rw [orC3]
  refine nx (h := ?_)
  refine tk 17 (hy := asg) (h := ?_)
  refine dn (h := ?_)
  refine q_seq (h := ?_)
  refine rtn (h := ?_)
  refine q_ret (hR := ?_)
  exact fun w hS => ⟨rfl, hS.sub (by repeat (first | exact SubL.nil | (apply SubL.cons; (repeat (first | exact At.here | apply At.there))) | exact SubL.refl _ | apply SubL.skip))⟩
set_option maxRecDepth 100000 in
theorem C_spot_board (s : Spot) (h5 : s.st.length ≤ 5) (w : World) : CR Tryz.prog 40 [.agg (spotC s).toArray] w (fun _ : Option Addr × Nat => True) (fun p => (brdOf s).val p.1 s.st.length p.2) (fun p => [.own p.1 p.2 43 2 s.st.length (encP s.st)]) := by
  refine ⟨en Tryz.func40 Tryz.ntmps40 (St.init w) (h := fun F => ?_)⟩
  refine sq (h := ?_)
  refine rg (h := ?_)
  refine bxA (h := fun b0 => ?_)
  refine al (h := fun b1 => ?_)
  refine nl (h := ?_)
  refine q_seq (h := ?_)
  refine sq (h := ?_)
  refine rgD (by kernel_rfl) [(10, .blk b1 52 [.slice none 0 0, .int .i64 0, .int .i64 0, .int .i64 0, .int .i64 0]), (1000000, .blk b0 77 (spotC s))] (by repeat (first | exact HS.nil | (apply HS.keep; (repeat (first | exact At.here | apply At.there))) | (apply HS.ro; (repeat (first | exact Rds.ro | exact Rds.own | apply Rds.there))))) (h := ?_)
  refine tk 0 (hy := (by first | exact fa | exact faE)) (h := ?_)
  refine tk 1 (hy := (by first | exact fa | exact faE)) (h := ?_)
  refine tk 2 (hy := (by first | exact ld | exact ldE)) (h := ?_)
  refine tk 3 (hy := slAh (hb := by omega) (hne := by decide)) (h := ?_)
  refine tk 5 (hy := (by first | exact fa | exact faE)) (h := ?_)
  refine tk 6 (hy := (by first | exact ldA | exact ldEA)) (h := ?_)
  refine tk 7 (hy := (by first | exact fa | exact faE)) (h := ?_)
  refine tk 8 (hy := (by first | exact ldA | exact ldEA)) (h := ?_)
  refine one 4 (h := ?_)
  rw [Int.toNat_natCast]
  refine cl (hc := fun w hS => C_ClonePairs _ _ _ (encP s.st) w (hS.get (Rds.there (Rds.any fun w hw => rd_sets h5 hw))) (by omega)) (h := fun p1 _ => ?_)
  refine nx (h := ?_)
  refine tk 9 (hy := bd) (h := ?_)
  refine one 10 (h := ?_)
  first | refine stA (h := ?_) | refine stEA (h := ?_)
  refine nx (h := ?_)
  refine dn (h := ?_)
  refine q_seq (h := ?_)
  refine rtn (h := ?_)
  refine q_ret (hR := ?_)
  exact fun w hS => ⟨p1, trivial, rfl, hS.sub (by repeat (first | exact SubL.nil | (apply SubL.cons; (repeat (first | exact At.here | apply At.there))) | exact SubL.refl _ | apply SubL.skip))⟩
end Go.Proofs.YtpejgebcmhmpaaaGreat
