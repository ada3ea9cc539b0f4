/- The texts of the walk, part 4. -/
import Derived.Test.YtpmmgljndceplaaGreatJ3
namespace Go.Proofs.YtpmmgljndceplaaGreat
open Go Go.RowKit

abbrev MC := Array MapEntry × Nat
theorem flL_ints : ∀ xs : List Int, FlL (xs.map vI) (xs.map Fl.i)
  | [] => .nil
  | _ :: xs => .int (flL_ints xs)
theorem flL_spot (s : Spot) : FlL (spotC s) (spotF s) := flL_ints [s.first, (s.st.length : Int), (ep s 0).1, (ep s 0).2, (ep s 1).1, (ep s 1).2, (ep s 2).1, (ep s 2).2, (ep s 3).1, (ep s 3).2, (ep s 4).1, (ep s 4).2, s.g.1, s.g.2, s.p.1, s.p.2]
set_option maxRecDepth 100000 in
theorem T_put_old (N ns : List Nd) (mn : Nat → Pr) (x o : Nd) (bm : Nat) (es : Array MapEntry) (c : Nat) (hm : MapIs es (crE ns)) (hs : Stm es c) (hn : (N.map (·.b)).Nodup) (h5 : ∀ y ∈ N, y.s.st.length ≤ 5) (hN : ∀ y ∈ ns, y ∈ N) (hx : x ∈ N) (hg : getN ns x.s = some o) :
    Tr Tryz.prog 125 [.map (some bm), bp x.b] [poolE 213 N mn none, .obj bm (.map es c)] (fun p : MC => MapIs p.1 (crE (putNs ns x)) ∧ Stm p.1 p.2) (fun _ => .tuple #[]) (fun p => [poolE 213 N (putM ns mn x) none, .obj bm (.map p.1 p.2)]) := by
  refine ⟨fun w0 w R hst => ?_⟩
  have hoN := hN o (getN_some hg).1
  have hl : lkp (crE ns) (spotF x.s) = some (bp o.b) := by rw [lkp_cr (fun y hy => h5 y (hN y hy)) (h5 x hx), hg]; rfl
  have hM : putM ns mn x = upN mn o.b (min (mn o.b).1 (mn x.b).1, max (mn o.b).2 (mn x.b).2) := by unfold putM; rw [hg]
  have hS : putNs ns x = ns := by unfold putNs; rw [hg]
  refine en Tryz.func125 Tryz.ntmps125 hst (h := fun F => ?_)
  refine sq (h := ?_)
  refine sq (h := ?_)
  refine rg (h := ?_)
  refine wy mv ?_
  refine wy mv ?_
  refine wy nck ?_
  refine wy (by first | exact fa | exact faE) ?_
  refine wy (ldQA (hy := hx)) ?_
  refine wy (lkC (kv := crE ns) (hm := hm) (hs := crE_shape ns) (hl := flL_spot x.s)) ?_
  rw [hl]
  refine wy mv ?_
  refine wy ex ?_
  refine wy ex ?_
  refine wy asg ?_
  refine wy asg ?_
  refine nl (h := ?_)
  refine q_seq (h := ?_)
  refine sq (h := ?_)
  refine rg (h := ?_)
  refine wy mv ?_
  refine nl (h := ?_)
  refine q_seq (h := ?_)
  refine cdT (h := ?_)
  refine sq (h := ?_)
  refine rgD (by kernel_rfl) [(26, poolE 213 N mn none)] (by repeat (first | exact HS.nil | (apply HS.keep; (repeat (first | exact At.here | apply At.there))) | (apply HS.ro; (repeat (first | exact Rds.ro | exact Rds.own | apply Rds.there))))) (h := ?_)
  refine tk 0 (hy := mv) (h := ?_)
  refine tk 1 (hy := mv) (h := ?_)
  refine tk 2 (hy := nck) (h := ?_)
  refine tk 3 (hy := (by first | exact fa | exact faE)) (h := ?_)
  refine tk 4 (hy := (by first | exact fa | exact faE)) (h := ?_)
  refine tk 5 (hy := ldQ (hy := hoN)) (h := ?_)
  refine tk 6 (hy := mv) (h := ?_)
  refine tk 7 (hy := nck) (h := ?_)
  refine tk 8 (hy := (by first | exact fa | exact faE)) (h := ?_)
  refine tk 9 (hy := (by first | exact fa | exact faE)) (h := ?_)
  refine tk 10 (hy := ldQ (hy := hx)) (h := ?_)
  refine tk 11 (hy := minI) (h := ?_)
  refine tk 12 (hy := mv) (h := ?_)
  refine tk 13 (hy := nck) (h := ?_)
  refine tk 14 (hy := (by first | exact fa | exact faE)) (h := ?_)
  refine tk 15 (hy := (by first | exact fa | exact faE)) (h := ?_)
  refine tk 16 (hy := ldQ (hy := hoN)) (h := ?_)
  refine tk 17 (hy := mv) (h := ?_)
  refine tk 18 (hy := nck) (h := ?_)
  refine tk 19 (hy := (by first | exact fa | exact faE)) (h := ?_)
  refine tk 20 (hy := (by first | exact fa | exact faE)) (h := ?_)
  refine tk 21 (hy := ldQ (hy := hx)) (h := ?_)
  refine tk 22 (hy := maxI) (h := ?_)
  refine tk 23 (hy := bd) (h := ?_)
  refine tk 24 (hy := nck) (h := ?_)
  refine tk 25 (hy := (by first | exact fa | exact faE)) (h := ?_)
  refine one 26 (h := ?_)
  refine stQ (v := (min (mn o.b).1 (mn x.b).1, max (mn o.b).2 (mn x.b).2)) (ho := hoN) (hn := hn) (h := ?_)
  refine nx (h := ?_)
  refine dn (h := ?_)
  refine q_seq (h := ?_)
  refine rtn (h := ?_)
  refine q_then_ret (h := ?_)
  refine q_ret (hR := ?_)
  rw [hM, hS]
  exact fun w hS => ⟨(es, c), ⟨hm, hs⟩, rfl, hS.sub slz_⟩
set_option maxRecDepth 100000 in
theorem T_put_new (N ns : List Nd) (mn : Nat → Pr) (x : Nd) (bm : Nat) (es : Array MapEntry) (c : Nat) (hm : MapIs es (crE ns)) (hs : Stm es c) (h5 : ∀ y ∈ N, y.s.st.length ≤ 5) (hN : ∀ y ∈ ns, y ∈ N) (hx : x ∈ N) (hg : getN ns x.s = none) :
    Tr Tryz.prog 125 [.map (some bm), bp x.b] [poolE 213 N mn none, .obj bm (.map es c)] (fun p : MC => MapIs p.1 (crE (putNs ns x)) ∧ Stm p.1 p.2) (fun _ => .tuple #[]) (fun p => [poolE 213 N (putM ns mn x) none, .obj bm (.map p.1 p.2)]) := by
  refine ⟨fun w0 w R hst => ?_⟩
  have hl : lkp (crE ns) (spotF x.s) = none := by rw [lkp_cr (fun y hy => h5 y (hN y hy)) (h5 x hx), hg]; rfl
  have hM : putM ns mn x = mn := by unfold putM; rw [hg]
  have hS : putNs ns x = ns ++ [x] := by unfold putNs; rw [hg]
  have hU := upd_cr (fun y hy => h5 y (hN y hy)) (h5 x hx) hg
  refine en Tryz.func125 Tryz.ntmps125 hst (h := fun F => ?_)
  refine sq (h := ?_)
  refine sq (h := ?_)
  refine rg (h := ?_)
  refine wy mv ?_
  refine wy mv ?_
  refine wy nck ?_
  refine wy (by first | exact fa | exact faE) ?_
  refine wy (ldQA (hy := hx)) ?_
  refine wy (lkC (kv := crE ns) (hm := hm) (hs := crE_shape ns) (hl := flL_spot x.s)) ?_
  rw [hl]
  refine wy mv ?_
  refine wy ex ?_
  refine wy ex ?_
  refine wy asg ?_
  refine wy asg ?_
  refine nl (h := ?_)
  refine q_seq (h := ?_)
  refine sq (h := ?_)
  refine rg (h := ?_)
  refine wy mv ?_
  refine nl (h := ?_)
  refine q_seq (h := ?_)
  refine cdF (h := ?_)
  refine skp (h := ?_)
  refine q_seq (h := ?_)
  refine rg (h := ?_)
  refine wy mv ?_
  refine wy mv ?_
  refine wy nck ?_
  refine wy (by first | exact fa | exact faE) ?_
  refine wy (ldQA (hy := hx)) ?_
  refine wy mv ?_
  refine mupS (kv := crE ns) (hm := hm) (hs := crE_shape ns) (hst0 := hs) (hl := flL_spot x.s) (h := fun es1 c1 hm1 hs1 => ?_)
  rw [show updM (crE ns) _ _ = _ from hU] at hm1
  refine nl (h := ?_)
  refine q_end (hR := ?_)
  rw [hM, hS]
  exact fun w hS => ⟨(es1, c1), ⟨hm1, hs1⟩, rfl, hS.sub slz_⟩
theorem T_put (N ns : List Nd) (mn : Nat → Pr) (x : Nd) (bm : Nat) (es : Array MapEntry) (c : Nat) (hm : MapIs es (crE ns)) (hs : Stm es c) (hn : (N.map (·.b)).Nodup) (h5 : ∀ y ∈ N, y.s.st.length ≤ 5) (hN : ∀ y ∈ ns, y ∈ N) (hx : x ∈ N) :
    Tr Tryz.prog 125 [.map (some bm), bp x.b] [poolE 213 N mn none, .obj bm (.map es c)] (fun p : MC => MapIs p.1 (crE (putNs ns x)) ∧ Stm p.1 p.2) (fun _ => .tuple #[]) (fun p => [poolE 213 N (putM ns mn x) none, .obj bm (.map p.1 p.2)]) := by
  cases hg : getN ns x.s with
  | some o => exact T_put_old N ns mn x o bm es c hm hs hn h5 hN hx hg
  | none => exact T_put_new N ns mn x bm es c hm hs h5 hN hx hg
end Go.Proofs.YtpmmgljndceplaaGreat

namespace Go.Proofs.YtpmmgljndceplaaGreat
open Go Go.RowKit

abbrev cardC (f : Fmt) (first : Int) (A : Option Addr) (n c : Nat) : List Value := [.int .i64 f.sets, .int .i64 f.games, .bool f.noAd, .int .i64 f.tie, .int .i64 f.to, .int .i64 f.ltie, .int .i64 f.lto, .int .i64 f.first, .int .i64 f.thn, .bool f.dbl, .int .i64 first, .slice A n c]
theorem ret_next {w0 w : World} {R : List Ent} {T : TypeId} {N : List Nd} {mn : Nat → Pr} {b bx : Nat} {cells : List Value} {u : Spot} {side : Int} {v : Pr} (h : St w0 w (.blk b T cells :: poolE T N mn none :: R)) (hc : cells = nodeC ⟨b, u, some bx, side⟩ v) :
    ∃ k : Nat, (∀ y ∈ N, y.b ≠ k) ∧ Ending.returned (bp b) = Ending.returned (bp k) ∧ St w0 w ([poolE T (⟨k, u, some bx, side⟩ :: N) (upN mn k v) none] ++ R) := by
  subst hc
  have := St.pNew (x := ⟨b, u, some bx, side⟩) h
  exact ⟨b, this.1, rfl, this.2⟩
theorem pair_eq2 (a b c d : Int) : decide ([a, b] = [c, d]) = (decide (a = c) && decide (b = d)) := by
  rw [Bool.eq_iff_iff, Bool.and_eq_true, decide_eq_true_eq, decide_eq_true_eq, decide_eq_true_eq]
  simp
theorem set_cond (f : Fmt) (won : Pr) : (decide (won.1 = won.2) && decide (won.1 = f.sets - 1)) = (decide (won.1 = f.sets - 1) && decide (won.2 = f.sets - 1)) := by
  rw [Bool.eq_iff_iff, Bool.and_eq_true, Bool.and_eq_true, decide_eq_true_eq, decide_eq_true_eq, decide_eq_true_eq]
  omega
theorem put_sets {s : Spot} (h : s.st.length ≤ 4) (o : Value) (g p q : Pr) : putAll [.int .i64 s.first, o, .int .i64 (ep s 0).1, .int .i64 (ep s 0).2, .int .i64 (ep s 1).1, .int .i64 (ep s 1).2, .int .i64 (ep s 2).1, .int .i64 (ep s 2).2, .int .i64 (ep s 3).1, .int .i64 (ep s 3).2, .int .i64 (ep s 4).1, .int .i64 (ep s 4).2, .int .i64 g.1, .int .i64 g.2, .int .i64 p.1, .int .i64 p.2] (2 + ((s.st.length : Int)).toNat * 2) [.int .i64 q.1, .int .i64 q.2]
    = [.int .i64 s.first, o, .int .i64 ((s.st ++ [q]).getD 0 (0, 0)).1, .int .i64 ((s.st ++ [q]).getD 0 (0, 0)).2, .int .i64 ((s.st ++ [q]).getD 1 (0, 0)).1, .int .i64 ((s.st ++ [q]).getD 1 (0, 0)).2, .int .i64 ((s.st ++ [q]).getD 2 (0, 0)).1, .int .i64 ((s.st ++ [q]).getD 2 (0, 0)).2, .int .i64 ((s.st ++ [q]).getD 3 (0, 0)).1, .int .i64 ((s.st ++ [q]).getD 3 (0, 0)).2, .int .i64 ((s.st ++ [q]).getD 4 (0, 0)).1, .int .i64 ((s.st ++ [q]).getD 4 (0, 0)).2, .int .i64 g.1, .int .i64 g.2, .int .i64 p.1, .int .i64 p.2] := by
  obtain ⟨fs, st, g', p'⟩ := s
  match st, h with
  | [], _ => rfl
  | [_], _ => rfl
  | [_, _], _ => rfl
  | [_, _, _], _ => rfl
  | [_, _, _, _], _ => rfl
  | _ :: _ :: _ :: _ :: _ :: _, h => simp at h
set_option maxRecDepth 100000 in
theorem T_next_none (f : Fmt) (cf : Int) (A : Option Addr) (n c : Nat) (N : List Nd) (mn : Nat → Pr) (x : Nd) (side : Int) (h5 : x.s.st.length ≤ 5) (hx : x ∈ N) (hn : nxtS f x.s side = none) :
    Tr Tryz.prog 136 [.agg (cardC f cf A n c).toArray, bp x.b, .int .i64 side] [poolE 213 N mn none] (fun _ : Unit => True) (fun _ => .pointer none) (fun _ => [poolE 213 N mn none]) := by
  refine ⟨fun w0 w R hst => ?_⟩
  have htop : topS x.s = f.sets := by
    by_cases e : topS x.s = f.sets
    · exact e
    · rw [nxtS, decide_eq_false e] at hn; cases hn
  refine en Tryz.func136 Tryz.ntmps136 hst (h := fun F => ?_)
  refine sq (h := ?_)
  refine rg (h := ?_)
  refine bxA (h := fun b0 => ?_)
  refine wy asg ?_
  refine nl (h := ?_)
  refine q_seq (h := ?_)
  refine sq (h := ?_)
  refine rg (h := ?_)
  refine wy mv ?_
  refine wy nck ?_
  refine wy (by first | exact fa | exact faE) ?_
  refine wy (ldQA (hy := hx)) ?_
  refine cl0 (hc := fun w hS => C_spot_won x.s h5 w) (h := ?_)
  refine al (h := fun b1 => ?_)
  first | refine stA (h := ?_) | refine stEA (h := ?_)
  refine nl (h := ?_)
  refine q_seq (h := ?_)
  refine sq (h := ?_)
  refine sq (h := ?_)
  refine rg (h := ?_)
  refine wy (by first | exact fa | exact faE) ?_
  refine wy (by first | exact ld | exact ldE) ?_
  refine wy (by first | exact fa | exact faE) ?_
  refine wy (by first | exact ld | exact ldE) ?_
  refine wy maxI ?_
  refine wy (by first | exact fa | exact faE) ?_
  refine wy (by first | exact fa | exact faE) ?_
  refine wy (by first | exact fa | exact faE) ?_
  refine wy (by first | exact ld | exact ldE) ?_
  refine wy eql ?_
  refine nl (h := ?_)
  refine q_seq (h := ?_)
  refine cd (by exact rfl) (fun h0 => ?_) (fun h0 => ?_)
  · skip
    refine sq (h := ?_)
    refine rg (h := ?_)
    refine wy asg ?_
    refine nl (h := ?_)
    refine q_seq (h := ?_)
    refine rtn (h := ?_)
    refine q_then_ret (h := ?_)
    refine q_ret (hR := ?_)
    exact fun w hS => ⟨(), trivial, rfl, hS.sub slz_⟩
  · skip
    exact absurd htop (of_decide_eq_false h0)
end Go.Proofs.YtpmmgljndceplaaGreat

namespace Go.Proofs.YtpmmgljndceplaaGreat
open Go Go.RowKit

set_option maxRecDepth 100000 in
set_option maxHeartbeats 1000000 in
theorem T_next_some (f : Fmt) (hf : f.Ok) (cf : Int) (A : Option Addr) (n c : Nat) (N : List Nd) (mn : Nat → Pr) (x : Nd) (side : Int) (hs : side = 0 ∨ side = 1) (K : Int) (hK : K ≤ 10000) (hP : PoolOk f N mn K) (hx : x ∈ N) (u : Spot) (hn : nxtS f x.s side = some u) :
    Tr Tryz.prog 136 [.agg (cardC f cf A n c).toArray, bp x.b, .int .i64 side] [poolE 213 N mn none] (fun k : Nat => ∀ y ∈ N, y.b ≠ k) (fun k => bp k) (fun k => [poolE 213 (⟨k, u, some x.b, side⟩ :: N) (upN mn k ((mn x.b).1 + 1, (mn x.b).2 + 1)) none]) := by
  refine ⟨fun w0 w R hst => ?_⟩
  have hxo := hP.ok x hx
  have hB := hxo.bd hf
  have h5 := hB.len hf
  have hlo := hxo.lo
  have hhi := hxo.hi
  have hg := hB.g
  have hp := hB.p
  have hw := hB.won
  have hsum := (won_sum x.s.st).1
  have hs0 := hf.s0
  have hs1 := hf.s1
  have htop : topS x.s ≠ f.sets := fun e => by rw [nxtS, decide_eq_true e] at hn; cases hn
  have hu : stepS f x.s side = u := by rw [nxtS, decide_eq_false htop] at hn; exact Option.some.inj hn
  have hgm : Sm x.s.g := ⟨by omega, by omega⟩
  have hpm : Sm x.s.p := ⟨by omega, by omega⟩
  have hga := addV_rng side hg
  have hpa := addV_rng side hp
  have hgam : Sm (addV x.s.g side) := ⟨by omega, by omega⟩
  have hpam : Sm (addV x.s.p side) := ⟨by omega, by omega⟩
  have hl4 : x.s.st.length ≤ 4 := by
    have : max (wonV x.s.st).1 (wonV x.s.st).2 ≠ f.sets := htop
    omega
  have hle : (((x.s.st ++ [addV x.s.g side]).length : Nat) : Int) = (x.s.st.length : Int) + 1 := by rw [List.length_append]; rfl
  refine en Tryz.func136 Tryz.ntmps136 hst (h := fun F => ?_)
  refine sq (h := ?_)
  refine rg (h := ?_)
  refine bxA (h := fun b0 => ?_)
  refine wy asg ?_
  refine nl (h := ?_)
  refine q_seq (h := ?_)
  refine sq (h := ?_)
  refine rg (h := ?_)
  refine wy mv ?_
  refine wy nck ?_
  refine wy (by first | exact fa | exact faE) ?_
  refine wy (ldQA (hy := hx)) ?_
  refine cl0 (hc := fun w hS => C_spot_won x.s h5 w) (h := ?_)
  refine al (h := fun b1 => ?_)
  first | refine stA (h := ?_) | refine stEA (h := ?_)
  refine nl (h := ?_)
  refine q_seq (h := ?_)
  refine sq (h := ?_)
  refine sq (h := ?_)
  refine rg (h := ?_)
  refine wy (by first | exact fa | exact faE) ?_
  refine wy (by first | exact ld | exact ldE) ?_
  refine wy (by first | exact fa | exact faE) ?_
  refine wy (by first | exact ld | exact ldE) ?_
  refine wy maxI ?_
  refine wy (by first | exact fa | exact faE) ?_
  refine wy (by first | exact fa | exact faE) ?_
  refine wy (by first | exact fa | exact faE) ?_
  refine wy (by first | exact ld | exact ldE) ?_
  refine wy eql ?_
  refine nl (h := ?_)
  refine q_seq (h := ?_)
  refine cd (by exact rfl) (fun h0 => ?_) (fun h0 => ?_)
  · skip
    exact absurd (of_decide_eq_true h0) htop
  · skip
    refine skp (h := ?_)
    refine q_seq (h := ?_)
    refine ct (X := Nat × Nat) (fun _ => True) (fun q => [(1, bp x.b), (2, .int .i64 side), (3, .pointer (some ⟨b0, 0, none⟩)), (7, .pointer (some ⟨b1, 0, none⟩)), (8, .pointer (some ⟨q.1, 0, none⟩)), (9, .pointer (some ⟨q.2, 0, none⟩))]) (fun q => .blk q.2 38 [.int .i64 f.tie, .int .i64 f.to] :: .blk q.1 114 (spotC x.s) :: .blk b1 38 [.int .i64 (wonV x.s.st).1, .int .i64 (wonV x.s.st).2] :: .blk b0 185 (cardC f cf A n c) :: poolE 213 N mn none :: R) (h1 := ?_) (h2 := ?_)
    · skip
      refine rgD (by kernel_rfl) [(1000000, poolE 213 N mn none), (1000000, .blk b0 185 (cardC f cf A n c))] (by repeat (first | exact HS.nil | (apply HS.keep; (repeat (first | exact At.here | apply At.there))) | (apply HS.ro; (repeat (first | exact Rds.ro | exact Rds.own | apply Rds.there))))) (h := ?_)
      refine tk 0 (hy := mv) (h := ?_)
      refine tk 1 (hy := nck) (h := ?_)
      refine tk 2 (hy := (by first | exact fa | exact faE)) (h := ?_)
      refine tk 3 (hy := ldQA (hy := hx)) (h := ?_)
      refine tk 4 (hy := (by first | exact fa | exact faE)) (h := ?_)
      refine tk 5 (hy := (by first | exact fa | exact faE)) (h := ?_)
      refine tk 6 (hy := (by first | exact fa | exact faE)) (h := ?_)
      refine tk 7 (hy := (by first | exact ld | exact ldE)) (h := ?_)
      refine tk 8 (hy := (by first | exact fa | exact faE)) (h := ?_)
      refine tk 9 (hy := (by first | exact fa | exact faE)) (h := ?_)
      refine tk 10 (hy := (by first | exact fa | exact faE)) (h := ?_)
      refine tk 11 (hy := (by first | exact ld | exact ldE)) (h := ?_)
      refine tk 12 (hy := bd) (h := ?_)
      refine two 13 14 (h1 := ?_) (h2 := ?_)
      · skip
        refine al (h := fun b2 => ?_)
        refine nx (h := ?_)
        refine one 14 (h := ?_)
        refine al (h := fun b3 => ?_)
        refine nx (h := ?_)
        refine one 15 (h := ?_)
        first | refine stA (h := ?_) | refine stEA (h := ?_)
        refine nx (h := ?_)
        refine one 16 (h := ?_)
        first | refine stA (h := ?_) | refine stEA (h := ?_)
        refine nx (h := ?_)
        refine dn (h := ?_)
        exact ctn (_, _) trivial sbz_ slz_
      · skip
        refine al (h := fun b4 => ?_)
        refine nx (h := ?_)
        refine one 13 (h := ?_)
        refine al (h := fun b5 => ?_)
        refine nx (h := ?_)
        refine one 15 (h := ?_)
        first | refine stA (h := ?_) | refine stEA (h := ?_)
        refine nx (h := ?_)
        refine one 16 (h := ?_)
        first | refine stA (h := ?_) | refine stEA (h := ?_)
        refine nx (h := ?_)
        refine dn (h := ?_)
        exact ctn (_, _) trivial sbz_ slz_
    rintro ⟨b2, b3⟩ -
    refine ct (X := Unit) (fun _ => True) (fun _ => [(1, bp x.b), (2, .int .i64 side), (3, .pointer (some ⟨b0, 0, none⟩)), (8, .pointer (some ⟨b2, 0, none⟩)), (9, .pointer (some ⟨b3, 0, none⟩))]) (fun _ => .blk b3 38 [.int .i64 (setV f (wonV x.s.st)).1, .int .i64 (setV f (wonV x.s.st)).2] :: .blk b2 114 (spotC x.s) :: .blk b0 185 (cardC f cf A n c) :: poolE 213 N mn none :: R) (h1 := ?_) (h2 := ?_)
    · skip
      refine sq (h := ?_)
      refine rg (h := ?_)
      refine wy (by first | exact fa | exact faE) ?_
      refine wy (by first | exact ld | exact ldE) ?_
      refine wy (by first | exact fa | exact faE) ?_
      refine wy (by first | exact ld | exact ldE) ?_
      refine wy eql ?_
      refine wy mv ?_
      apply brAnd 9 46 55 (by exact rfl)
      · intro hb1
        refine un (h := ?_)
        refine wy (by first | exact fa | exact faE) ?_
        refine un (h := ?_)
        refine wy (by first | exact ld | exact ldE) ?_
        refine un (h := ?_)
        refine wy (by first | exact fa | exact faE) ?_
        refine un (h := ?_)
        refine wy (by first | exact fa | exact faE) ?_
        refine un (h := ?_)
        refine wy (by first | exact fa | exact faE) ?_
        refine un (h := ?_)
        refine wy (by first | exact ld | exact ldE) ?_
        refine un (h := ?_)
        refine wy (subI (hb := by omega)) ?_
        refine un (h := ?_)
        refine wy eql ?_
        refine wy (by first | exact pkT | exact pkF) ?_
        exact mg (by repeat (first | exact trivial | refine ⟨rfl, ?_⟩ | refine ⟨by rw [hb1]; rfl, ?_⟩)) slz_
      · intro hb1
        repeat (first | refine un (h := ?_) | refine sk (h := ?_) | refine WL.y (hy := pkF) (h := ?_) | refine WL.y (hy := pkT) (h := ?_))
        exact mg (by repeat (first | exact trivial | refine ⟨rfl, ?_⟩ | refine ⟨by rw [hb1]; rfl, ?_⟩)) slz_
      refine nl (h := ?_)
      refine q_seq (h := ?_)
      refine cd (by exact rfl) (fun h2 => ?_) (fun h2 => ?_)
      · skip
        have hset : setV f (wonV x.s.st) = (f.ltie, f.lto) := by
          have h' : (decide ((wonV x.s.st).1 = (wonV x.s.st).2) && decide ((wonV x.s.st).1 = f.sets - 1)) = true := h2
          rw [set_cond] at h'
          rw [setV, h']; rfl
        refine rg (h := ?_)
        refine wy (by first | exact fa | exact faE) ?_
        refine wy (by first | exact fa | exact faE) ?_
        refine wy (by first | exact fa | exact faE) ?_
        refine wy (by first | exact ld | exact ldE) ?_
        refine wy (by first | exact fa | exact faE) ?_
        refine wy (by first | exact fa | exact faE) ?_
        refine wy (by first | exact fa | exact faE) ?_
        refine wy (by first | exact ld | exact ldE) ?_
        refine wy bd ?_
        first | refine stA (h := ?_) | refine stEA (h := ?_)
        refine nl (h := ?_)
        rw [hset]
        exact ctn () trivial sbz_ slz_
      · skip
        have hset : setV f (wonV x.s.st) = (f.tie, f.to) := by
          have h' : (decide ((wonV x.s.st).1 = (wonV x.s.st).2) && decide ((wonV x.s.st).1 = f.sets - 1)) = false := h2
          rw [set_cond] at h'
          rw [setV, h']; rfl
        refine skp (h := ?_)
        rw [hset]
        exact ctn () trivial sbz_ slz_
    rintro ⟨⟩ -
    refine sq (h := ?_)
    refine rg (h := ?_)
    refine wy (by first | exact fa | exact faE) ?_
    refine wy (by first | exact ldA | exact ldEA) ?_
    refine wy (by first | exact fa | exact faE) ?_
    refine wy (by first | exact ld | exact ldE) ?_
    refine wy (by first | exact fa | exact faE) ?_
    refine wy (by first | exact ld | exact ldE) ?_
    refine wy bd ?_
    refine wy eqlT ?_
    rw [pair_eq2]
    refine wy asg ?_
    refine nl (h := ?_)
    refine q_seq (h := ?_)
    refine sq (h := ?_)
    refine rg (h := ?_)
    refine wy (by first | exact fa | exact faE) ?_
    refine wy (by first | exact ldA | exact ldEA) ?_
    refine wy mv ?_
    refine cl0 (hc := fun w hS => C_card_more x.s.p side hpm w) (h := ?_)
    refine wy (by first | exact fa | exact faE) ?_
    first | refine stA (h := ?_) | refine stEA (h := ?_)
    refine nl (h := ?_)
    refine q_seq (h := ?_)
    refine sq (h := ?_)
    refine rg (h := ?_)
    refine wy asg ?_
    refine WL.cut (by repeat (first | exact Cut.nil | apply Cut.hit | apply Cut.miss (by exact rfl))) ?_
    refine wy asg ?_
    refine WL.cut (by repeat (first | exact Cut.nil | apply Cut.hit | apply Cut.miss (by exact rfl))) ?_
    refine nl (h := ?_)
    refine q_seq (h := ?_)
    refine sq (h := ?_)
    refine bk (h := ?_)
    refine sq (h := ?_)
    refine rg (h := ?_)
    refine wy mv ?_
    refine wy asg ?_
    refine nl (h := ?_)
    refine q_seq (h := ?_)
    refine cd (by exact rfl) (fun h3 => ?_) (fun h3 => ?_)
    · skip
      have hT : tieS f x.s = true := h3
      have hleast : leastS f x.s = (setV f (wonV x.s.st)).2 := by rw [leastS, hT]; rfl
      have hby : byS f x.s = 2 := by rw [byS, hT]; rfl
      refine rg (h := ?_)
      refine wy (by first | exact fa | exact faE) ?_
      refine wy (by first | exact ld | exact ldE) ?_
      refine wy asg ?_
      refine WL.cut (by repeat (first | exact Cut.nil | apply Cut.hit | apply Cut.miss (by exact rfl))) ?_
      refine nl (h := ?_)
      refine q_blk_norm (h := ?_)
      refine q_seq (h := ?_)
      refine sq (h := ?_)
      refine sq (h := ?_)
      refine rg (h := ?_)
      refine wy (by first | exact fa | exact faE) ?_
      refine wy (by first | exact ldA | exact ldEA) ?_
      refine wy mv ?_
      refine wy mv ?_
      refine wy mv ?_
      refine cl0 (hc := fun w hS => C_card_leads (addV x.s.p side) side _ _ hpam w) (h := ?_)
      refine nl (h := ?_)
      refine q_seq (h := ?_)
      refine cd (by exact rfl) (fun h4 => ?_) (fun h4 => ?_)
      · skip
        have hG : gotS f x.s side = true := by rw [gotS, hleast, hby]; exact h4
        refine sq (h := ?_)
        refine rg (h := ?_)
        refine wy bd ?_
        refine wy (by first | exact fa | exact faE) ?_
        refine wy (by first | exact ldA | exact ldEA) ?_
        refine wy mv ?_
        refine cl0 (hc := fun w hS => C_card_more x.s.g side hgm w) (h := ?_)
        refine wy (by first | exact fa | exact faE) ?_
        first | refine stA (h := ?_) | refine stEA (h := ?_)
        refine wy (by first | exact fa | exact faE) ?_
        first | refine stA (h := ?_) | refine stEA (h := ?_)
        refine nl (h := ?_)
        refine q_seq (h := ?_)
        refine sq (h := ?_)
        refine rg (h := ?_)
        refine wy mv ?_
        refine wy mv ?_
        apply brOr 9 101 110 (by exact rfl)
        · intro hb5
          refine un (h := ?_)
          refine wy (by first | exact fa | exact faE) ?_
          refine un (h := ?_)
          refine wy (by first | exact ldA | exact ldEA) ?_
          refine un (h := ?_)
          refine wy mv ?_
          refine un (h := ?_)
          refine wy (by first | exact fa | exact faE) ?_
          refine un (h := ?_)
          refine wy (by first | exact fa | exact faE) ?_
          refine un (h := ?_)
          refine wy (by first | exact fa | exact faE) ?_
          refine un (h := ?_)
          refine wy (by first | exact ld | exact ldE) ?_
          refine un (h := ?_)
          refine cl0 (hc := fun w hS => C_card_leads (addV x.s.g side) side f.games 2 hgam w) (h := ?_)
          refine wy (by first | exact pkT | exact pkF) ?_
          exact mg (by repeat (first | exact trivial | refine ⟨rfl, ?_⟩ | refine ⟨by rw [hb5]; rfl, ?_⟩)) slz_
        · intro hb5
          repeat (first | refine un (h := ?_) | refine sk (h := ?_) | refine WL.y (hy := pkF) (h := ?_) | refine WL.y (hy := pkT) (h := ?_))
          exact mg (by repeat (first | exact trivial | refine ⟨rfl, ?_⟩ | refine ⟨by rw [hb5]; rfl, ?_⟩)) slz_
        refine nl (h := ?_)
        refine q_seq (h := ?_)
        refine cd (by exact rfl) (fun h6 => ?_) (fun h6 => ?_)
        · skip
          have hE : endS' f x.s side = true := by unfold endS'; exact h6
          obtain rfl : u = ⟨x.s.first, x.s.st ++ [addV x.s.g side], (0, 0), (0, 0)⟩ := by rw [← hu, stepS, hG, hE]; rfl
          refine sq (h := ?_)
          refine rg (h := ?_)
          refine wy (by first | exact fa | exact faE) ?_
          refine wy (by first | exact ld | exact ldE) ?_
          refine wy (by first | exact fa | exact faE) ?_
          refine wy (by first | exact ldA | exact ldEA) ?_
          refine wy (by first | exact fa | exact faE) ?_
          refine wy (ixA (hb := by omega)) ?_
          refine stP (vs := [.int .i64 (addV x.s.g side).1, .int .i64 (addV x.s.g side).2]) (h1 := by simp [Value.oneCell']) (hsz := rfl) (ho := by show 0 + 2 + ((x.s.st.length : Int)).toNat * 2 + 2 ≤ 16; omega) (h := ?_)
          refine WL.blkTo _ .here (put_sets hl4 _ (addV x.s.g side) (0, 0) (addV x.s.g side)) ?_
          refine nl (h := ?_)
          refine q_seq (h := ?_)
          refine sq (h := ?_)
          refine rg (h := ?_)
          refine wy bd ?_
          refine wy (by first | exact fa | exact faE) ?_
          first | refine stA (h := ?_) | refine stEA (h := ?_)
          refine nl (h := ?_)
          refine q_seq (h := ?_)
          refine rg (h := ?_)
          refine wy (by first | exact fa | exact faE) ?_
          refine wy (by first | exact ld | exact ldE) ?_
          refine wy addI ?_
          refine wy (by first | exact fa | exact faE) ?_
          first | refine st (h := ?_) | refine stE (h := ?_)
          refine nl (h := ?_)
          refine q_seq (h := ?_)
          refine sq (h := ?_)
          refine rgD (by kernel_rfl) [(1000000, poolE 213 N mn none), (1000000, .blk b2 114 _)] (by repeat (first | exact HS.nil | (apply HS.keep; (repeat (first | exact At.here | apply At.there))) | (apply HS.ro; (repeat (first | exact Rds.ro | exact Rds.own | apply Rds.there))))) (h := ?_)
          refine tk 0 (hy := (by first | exact ldA | exact ldEA)) (h := ?_)
          refine tk 1 (hy := mv) (h := ?_)
          refine tk 2 (hy := mv) (h := ?_)
          refine tk 3 (hy := mv) (h := ?_)
          refine tk 4 (hy := nck) (h := ?_)
          refine tk 5 (hy := (by first | exact fa | exact faE)) (h := ?_)
          refine tk 6 (hy := (by first | exact fa | exact faE)) (h := ?_)
          refine tk 7 (hy := ldQ (hy := hx)) (h := ?_)
          refine tk 8 (hy := addI (hb := by omega)) (h := ?_)
          refine tk 9 (hy := mv) (h := ?_)
          refine tk 10 (hy := nck) (h := ?_)
          refine tk 11 (hy := (by first | exact fa | exact faE)) (h := ?_)
          refine tk 12 (hy := (by first | exact fa | exact faE)) (h := ?_)
          refine tk 13 (hy := ldQ (hy := hx)) (h := ?_)
          refine tk 14 (hy := addI (hb := by omega)) (h := ?_)
          refine tk 15 (hy := bd) (h := ?_)
          refine tk 16 (hy := bd) (h := ?_)
          refine one 17 (h := ?_)
          refine bxA (h := fun b6 => ?_)
          refine nx (h := ?_)
          refine tk 18 (hy := asg) (h := ?_)
          refine dn (h := ?_)
          refine q_seq (h := ?_)
          refine rtn (h := ?_)
          refine q_ret (hR := ?_)
          intro w hS
          have hS2 := hS.sub (L' := .blk _ 213 _ :: poolE 213 N mn none :: R) slz_
          first
            | exact ret_next hS2 rfl
            | exact ret_next hS2 (by rw [← hle]; rfl)
        · skip
          have hE : endS' f x.s side = false := by unfold endS'; exact h6
          obtain rfl : u = ⟨x.s.first, x.s.st, addV x.s.g side, (0, 0)⟩ := by rw [← hu, stepS, hG, hE]; rfl
          refine skp (h := ?_)
          refine q_seq (h := ?_)
          refine sq (h := ?_)
          refine rgD (by kernel_rfl) [(1000000, poolE 213 N mn none), (1000000, .blk b2 114 _)] (by repeat (first | exact HS.nil | (apply HS.keep; (repeat (first | exact At.here | apply At.there))) | (apply HS.ro; (repeat (first | exact Rds.ro | exact Rds.own | apply Rds.there))))) (h := ?_)
          refine tk 0 (hy := (by first | exact ldA | exact ldEA)) (h := ?_)
          refine tk 1 (hy := mv) (h := ?_)
          refine tk 2 (hy := mv) (h := ?_)
          refine tk 3 (hy := mv) (h := ?_)
          refine tk 4 (hy := nck) (h := ?_)
          refine tk 5 (hy := (by first | exact fa | exact faE)) (h := ?_)
          refine tk 6 (hy := (by first | exact fa | exact faE)) (h := ?_)
          refine tk 7 (hy := ldQ (hy := hx)) (h := ?_)
          refine tk 8 (hy := addI (hb := by omega)) (h := ?_)
          refine tk 9 (hy := mv) (h := ?_)
          refine tk 10 (hy := nck) (h := ?_)
          refine tk 11 (hy := (by first | exact fa | exact faE)) (h := ?_)
          refine tk 12 (hy := (by first | exact fa | exact faE)) (h := ?_)
          refine tk 13 (hy := ldQ (hy := hx)) (h := ?_)
          refine tk 14 (hy := addI (hb := by omega)) (h := ?_)
          refine tk 15 (hy := bd) (h := ?_)
          refine tk 16 (hy := bd) (h := ?_)
          refine one 17 (h := ?_)
          refine bxA (h := fun b7 => ?_)
          refine nx (h := ?_)
          refine tk 18 (hy := asg) (h := ?_)
          refine dn (h := ?_)
          refine q_seq (h := ?_)
          refine rtn (h := ?_)
          refine q_ret (hR := ?_)
          intro w hS
          have hS2 := hS.sub (L' := .blk _ 213 _ :: poolE 213 N mn none :: R) slz_
          first
            | exact ret_next hS2 rfl
            | exact ret_next hS2 (by rw [← hle]; rfl)
      · skip
        have hG : gotS f x.s side = false := by rw [gotS, hleast, hby]; exact h4
        obtain rfl : u = ⟨x.s.first, x.s.st, x.s.g, addV x.s.p side⟩ := by rw [← hu, stepS, hG]; rfl
        refine skp (h := ?_)
        refine q_seq (h := ?_)
        refine sq (h := ?_)
        refine rgD (by kernel_rfl) [(1000000, poolE 213 N mn none), (1000000, .blk b2 114 _)] (by repeat (first | exact HS.nil | (apply HS.keep; (repeat (first | exact At.here | apply At.there))) | (apply HS.ro; (repeat (first | exact Rds.ro | exact Rds.own | apply Rds.there))))) (h := ?_)
        refine tk 0 (hy := (by first | exact ldA | exact ldEA)) (h := ?_)
        refine tk 1 (hy := mv) (h := ?_)
        refine tk 2 (hy := mv) (h := ?_)
        refine tk 3 (hy := mv) (h := ?_)
        refine tk 4 (hy := nck) (h := ?_)
        refine tk 5 (hy := (by first | exact fa | exact faE)) (h := ?_)
        refine tk 6 (hy := (by first | exact fa | exact faE)) (h := ?_)
        refine tk 7 (hy := ldQ (hy := hx)) (h := ?_)
        refine tk 8 (hy := addI (hb := by omega)) (h := ?_)
        refine tk 9 (hy := mv) (h := ?_)
        refine tk 10 (hy := nck) (h := ?_)
        refine tk 11 (hy := (by first | exact fa | exact faE)) (h := ?_)
        refine tk 12 (hy := (by first | exact fa | exact faE)) (h := ?_)
        refine tk 13 (hy := ldQ (hy := hx)) (h := ?_)
        refine tk 14 (hy := addI (hb := by omega)) (h := ?_)
        refine tk 15 (hy := bd) (h := ?_)
        refine tk 16 (hy := bd) (h := ?_)
        refine one 17 (h := ?_)
        refine bxA (h := fun b8 => ?_)
        refine nx (h := ?_)
        refine tk 18 (hy := asg) (h := ?_)
        refine dn (h := ?_)
        refine q_seq (h := ?_)
        refine rtn (h := ?_)
        refine q_ret (hR := ?_)
        intro w hS
        have hS2 := hS.sub (L' := .blk _ 213 _ :: poolE 213 N mn none :: R) slz_
        first
          | exact ret_next hS2 rfl
          | exact ret_next hS2 (by rw [← hle]; rfl)
    · skip
      have hT : tieS f x.s = false := h3
      have hleast : leastS f x.s = 4 := by rw [leastS, hT]; rfl
      refine sq (h := ?_)
      refine rg (h := ?_)
      refine wy (by first | exact fa | exact faE) ?_
      refine wy (by first | exact fa | exact faE) ?_
      refine wy (by first | exact fa | exact faE) ?_
      refine wy (by first | exact ld | exact ldE) ?_
      refine wy asg ?_
      refine nl (h := ?_)
      refine q_seq (h := ?_)
      refine cd (by exact rfl) (fun h7 => ?_) (fun h7 => ?_)
      · skip
        have hby : byS f x.s = 1 := by rw [byS, hT, h7]; rfl
        refine rg (h := ?_)
        refine wy asg ?_
        refine WL.cut (by repeat (first | exact Cut.nil | apply Cut.hit | apply Cut.miss (by exact rfl))) ?_
        refine nl (h := ?_)
        refine q_blk_norm (h := ?_)
        refine q_seq (h := ?_)
        refine sq (h := ?_)
        refine sq (h := ?_)
        refine rg (h := ?_)
        refine wy (by first | exact fa | exact faE) ?_
        refine wy (by first | exact ldA | exact ldEA) ?_
        refine wy mv ?_
        refine wy mv ?_
        refine wy mv ?_
        refine cl0 (hc := fun w hS => C_card_leads (addV x.s.p side) side _ _ hpam w) (h := ?_)
        refine nl (h := ?_)
        refine q_seq (h := ?_)
        refine cd (by exact rfl) (fun h8 => ?_) (fun h8 => ?_)
        · skip
          have hG : gotS f x.s side = true := by rw [gotS, hleast, hby]; exact h8
          refine sq (h := ?_)
          refine rg (h := ?_)
          refine wy bd ?_
          refine wy (by first | exact fa | exact faE) ?_
          refine wy (by first | exact ldA | exact ldEA) ?_
          refine wy mv ?_
          refine cl0 (hc := fun w hS => C_card_more x.s.g side hgm w) (h := ?_)
          refine wy (by first | exact fa | exact faE) ?_
          first | refine stA (h := ?_) | refine stEA (h := ?_)
          refine wy (by first | exact fa | exact faE) ?_
          first | refine stA (h := ?_) | refine stEA (h := ?_)
          refine nl (h := ?_)
          refine q_seq (h := ?_)
          refine sq (h := ?_)
          refine rg (h := ?_)
          refine wy mv ?_
          refine wy mv ?_
          apply brOr 9 101 110 (by exact rfl)
          · intro hb9
            refine un (h := ?_)
            refine wy (by first | exact fa | exact faE) ?_
            refine un (h := ?_)
            refine wy (by first | exact ldA | exact ldEA) ?_
            refine un (h := ?_)
            refine wy mv ?_
            refine un (h := ?_)
            refine wy (by first | exact fa | exact faE) ?_
            refine un (h := ?_)
            refine wy (by first | exact fa | exact faE) ?_
            refine un (h := ?_)
            refine wy (by first | exact fa | exact faE) ?_
            refine un (h := ?_)
            refine wy (by first | exact ld | exact ldE) ?_
            refine un (h := ?_)
            refine cl0 (hc := fun w hS => C_card_leads (addV x.s.g side) side f.games 2 hgam w) (h := ?_)
            refine wy (by first | exact pkT | exact pkF) ?_
            exact mg (by repeat (first | exact trivial | refine ⟨rfl, ?_⟩ | refine ⟨by rw [hb9]; rfl, ?_⟩)) slz_
          · intro hb9
            repeat (first | refine un (h := ?_) | refine sk (h := ?_) | refine WL.y (hy := pkF) (h := ?_) | refine WL.y (hy := pkT) (h := ?_))
            exact mg (by repeat (first | exact trivial | refine ⟨rfl, ?_⟩ | refine ⟨by rw [hb9]; rfl, ?_⟩)) slz_
          refine nl (h := ?_)
          refine q_seq (h := ?_)
          refine cd (by exact rfl) (fun h10 => ?_) (fun h10 => ?_)
          · skip
            have hE : endS' f x.s side = true := by unfold endS'; exact h10
            obtain rfl : u = ⟨x.s.first, x.s.st ++ [addV x.s.g side], (0, 0), (0, 0)⟩ := by rw [← hu, stepS, hG, hE]; rfl
            refine sq (h := ?_)
            refine rg (h := ?_)
            refine wy (by first | exact fa | exact faE) ?_
            refine wy (by first | exact ld | exact ldE) ?_
            refine wy (by first | exact fa | exact faE) ?_
            refine wy (by first | exact ldA | exact ldEA) ?_
            refine wy (by first | exact fa | exact faE) ?_
            refine wy (ixA (hb := by omega)) ?_
            refine stP (vs := [.int .i64 (addV x.s.g side).1, .int .i64 (addV x.s.g side).2]) (h1 := by simp [Value.oneCell']) (hsz := rfl) (ho := by show 0 + 2 + ((x.s.st.length : Int)).toNat * 2 + 2 ≤ 16; omega) (h := ?_)
            refine WL.blkTo _ .here (put_sets hl4 _ (addV x.s.g side) (0, 0) (addV x.s.g side)) ?_
            refine nl (h := ?_)
            refine q_seq (h := ?_)
            refine sq (h := ?_)
            refine rg (h := ?_)
            refine wy bd ?_
            refine wy (by first | exact fa | exact faE) ?_
            first | refine stA (h := ?_) | refine stEA (h := ?_)
            refine nl (h := ?_)
            refine q_seq (h := ?_)
            refine rg (h := ?_)
            refine wy (by first | exact fa | exact faE) ?_
            refine wy (by first | exact ld | exact ldE) ?_
            refine wy addI ?_
            refine wy (by first | exact fa | exact faE) ?_
            first | refine st (h := ?_) | refine stE (h := ?_)
            refine nl (h := ?_)
            refine q_seq (h := ?_)
            refine sq (h := ?_)
            refine rgD (by kernel_rfl) [(1000000, poolE 213 N mn none), (1000000, .blk b2 114 _)] (by repeat (first | exact HS.nil | (apply HS.keep; (repeat (first | exact At.here | apply At.there))) | (apply HS.ro; (repeat (first | exact Rds.ro | exact Rds.own | apply Rds.there))))) (h := ?_)
            refine tk 0 (hy := (by first | exact ldA | exact ldEA)) (h := ?_)
            refine tk 1 (hy := mv) (h := ?_)
            refine tk 2 (hy := mv) (h := ?_)
            refine tk 3 (hy := mv) (h := ?_)
            refine tk 4 (hy := nck) (h := ?_)
            refine tk 5 (hy := (by first | exact fa | exact faE)) (h := ?_)
            refine tk 6 (hy := (by first | exact fa | exact faE)) (h := ?_)
            refine tk 7 (hy := ldQ (hy := hx)) (h := ?_)
            refine tk 8 (hy := addI (hb := by omega)) (h := ?_)
            refine tk 9 (hy := mv) (h := ?_)
            refine tk 10 (hy := nck) (h := ?_)
            refine tk 11 (hy := (by first | exact fa | exact faE)) (h := ?_)
            refine tk 12 (hy := (by first | exact fa | exact faE)) (h := ?_)
            refine tk 13 (hy := ldQ (hy := hx)) (h := ?_)
            refine tk 14 (hy := addI (hb := by omega)) (h := ?_)
            refine tk 15 (hy := bd) (h := ?_)
            refine tk 16 (hy := bd) (h := ?_)
            refine one 17 (h := ?_)
            refine bxA (h := fun b9 => ?_)
            refine nx (h := ?_)
            refine tk 18 (hy := asg) (h := ?_)
            refine dn (h := ?_)
            refine q_seq (h := ?_)
            refine rtn (h := ?_)
            refine q_ret (hR := ?_)
            intro w hS
            have hS2 := hS.sub (L' := .blk _ 213 _ :: poolE 213 N mn none :: R) slz_
            first
              | exact ret_next hS2 rfl
              | exact ret_next hS2 (by rw [← hle]; rfl)
          · skip
            have hE : endS' f x.s side = false := by unfold endS'; exact h10
            obtain rfl : u = ⟨x.s.first, x.s.st, addV x.s.g side, (0, 0)⟩ := by rw [← hu, stepS, hG, hE]; rfl
            refine skp (h := ?_)
            refine q_seq (h := ?_)
            refine sq (h := ?_)
            refine rgD (by kernel_rfl) [(1000000, poolE 213 N mn none), (1000000, .blk b2 114 _)] (by repeat (first | exact HS.nil | (apply HS.keep; (repeat (first | exact At.here | apply At.there))) | (apply HS.ro; (repeat (first | exact Rds.ro | exact Rds.own | apply Rds.there))))) (h := ?_)
            refine tk 0 (hy := (by first | exact ldA | exact ldEA)) (h := ?_)
            refine tk 1 (hy := mv) (h := ?_)
            refine tk 2 (hy := mv) (h := ?_)
            refine tk 3 (hy := mv) (h := ?_)
            refine tk 4 (hy := nck) (h := ?_)
            refine tk 5 (hy := (by first | exact fa | exact faE)) (h := ?_)
            refine tk 6 (hy := (by first | exact fa | exact faE)) (h := ?_)
            refine tk 7 (hy := ldQ (hy := hx)) (h := ?_)
            refine tk 8 (hy := addI (hb := by omega)) (h := ?_)
            refine tk 9 (hy := mv) (h := ?_)
            refine tk 10 (hy := nck) (h := ?_)
            refine tk 11 (hy := (by first | exact fa | exact faE)) (h := ?_)
            refine tk 12 (hy := (by first | exact fa | exact faE)) (h := ?_)
            refine tk 13 (hy := ldQ (hy := hx)) (h := ?_)
            refine tk 14 (hy := addI (hb := by omega)) (h := ?_)
            refine tk 15 (hy := bd) (h := ?_)
            refine tk 16 (hy := bd) (h := ?_)
            refine one 17 (h := ?_)
            refine bxA (h := fun b10 => ?_)
            refine nx (h := ?_)
            refine tk 18 (hy := asg) (h := ?_)
            refine dn (h := ?_)
            refine q_seq (h := ?_)
            refine rtn (h := ?_)
            refine q_ret (hR := ?_)
            intro w hS
            have hS2 := hS.sub (L' := .blk _ 213 _ :: poolE 213 N mn none :: R) slz_
            first
              | exact ret_next hS2 rfl
              | exact ret_next hS2 (by rw [← hle]; rfl)
        · skip
          have hG : gotS f x.s side = false := by rw [gotS, hleast, hby]; exact h8
          obtain rfl : u = ⟨x.s.first, x.s.st, x.s.g, addV x.s.p side⟩ := by rw [← hu, stepS, hG]; rfl
          refine skp (h := ?_)
          refine q_seq (h := ?_)
          refine sq (h := ?_)
          refine rgD (by kernel_rfl) [(1000000, poolE 213 N mn none), (1000000, .blk b2 114 _)] (by repeat (first | exact HS.nil | (apply HS.keep; (repeat (first | exact At.here | apply At.there))) | (apply HS.ro; (repeat (first | exact Rds.ro | exact Rds.own | apply Rds.there))))) (h := ?_)
          refine tk 0 (hy := (by first | exact ldA | exact ldEA)) (h := ?_)
          refine tk 1 (hy := mv) (h := ?_)
          refine tk 2 (hy := mv) (h := ?_)
          refine tk 3 (hy := mv) (h := ?_)
          refine tk 4 (hy := nck) (h := ?_)
          refine tk 5 (hy := (by first | exact fa | exact faE)) (h := ?_)
          refine tk 6 (hy := (by first | exact fa | exact faE)) (h := ?_)
          refine tk 7 (hy := ldQ (hy := hx)) (h := ?_)
          refine tk 8 (hy := addI (hb := by omega)) (h := ?_)
          refine tk 9 (hy := mv) (h := ?_)
          refine tk 10 (hy := nck) (h := ?_)
          refine tk 11 (hy := (by first | exact fa | exact faE)) (h := ?_)
          refine tk 12 (hy := (by first | exact fa | exact faE)) (h := ?_)
          refine tk 13 (hy := ldQ (hy := hx)) (h := ?_)
          refine tk 14 (hy := addI (hb := by omega)) (h := ?_)
          refine tk 15 (hy := bd) (h := ?_)
          refine tk 16 (hy := bd) (h := ?_)
          refine one 17 (h := ?_)
          refine bxA (h := fun b11 => ?_)
          refine nx (h := ?_)
          refine tk 18 (hy := asg) (h := ?_)
          refine dn (h := ?_)
          refine q_seq (h := ?_)
          refine rtn (h := ?_)
          refine q_ret (hR := ?_)
          intro w hS
          have hS2 := hS.sub (L' := .blk _ 213 _ :: poolE 213 N mn none :: R) slz_
          first
            | exact ret_next hS2 rfl
            | exact ret_next hS2 (by rw [← hle]; rfl)
      · skip
        have hby : byS f x.s = 2 := by rw [byS, hT, h7]; rfl
        refine skp (h := ?_)
        refine q_blk_norm (h := ?_)
        refine q_seq (h := ?_)
        refine sq (h := ?_)
        refine sq (h := ?_)
        refine rg (h := ?_)
        refine wy (by first | exact fa | exact faE) ?_
        refine wy (by first | exact ldA | exact ldEA) ?_
        refine wy mv ?_
        refine wy mv ?_
        refine wy mv ?_
        refine cl0 (hc := fun w hS => C_card_leads (addV x.s.p side) side _ _ hpam w) (h := ?_)
        refine nl (h := ?_)
        refine q_seq (h := ?_)
        refine cd (by exact rfl) (fun h11 => ?_) (fun h11 => ?_)
        · skip
          have hG : gotS f x.s side = true := by rw [gotS, hleast, hby]; exact h11
          refine sq (h := ?_)
          refine rg (h := ?_)
          refine wy bd ?_
          refine wy (by first | exact fa | exact faE) ?_
          refine wy (by first | exact ldA | exact ldEA) ?_
          refine wy mv ?_
          refine cl0 (hc := fun w hS => C_card_more x.s.g side hgm w) (h := ?_)
          refine wy (by first | exact fa | exact faE) ?_
          first | refine stA (h := ?_) | refine stEA (h := ?_)
          refine wy (by first | exact fa | exact faE) ?_
          first | refine stA (h := ?_) | refine stEA (h := ?_)
          refine nl (h := ?_)
          refine q_seq (h := ?_)
          refine sq (h := ?_)
          refine rg (h := ?_)
          refine wy mv ?_
          refine wy mv ?_
          apply brOr 9 101 110 (by exact rfl)
          · intro hb12
            refine un (h := ?_)
            refine wy (by first | exact fa | exact faE) ?_
            refine un (h := ?_)
            refine wy (by first | exact ldA | exact ldEA) ?_
            refine un (h := ?_)
            refine wy mv ?_
            refine un (h := ?_)
            refine wy (by first | exact fa | exact faE) ?_
            refine un (h := ?_)
            refine wy (by first | exact fa | exact faE) ?_
            refine un (h := ?_)
            refine wy (by first | exact fa | exact faE) ?_
            refine un (h := ?_)
            refine wy (by first | exact ld | exact ldE) ?_
            refine un (h := ?_)
            refine cl0 (hc := fun w hS => C_card_leads (addV x.s.g side) side f.games 2 hgam w) (h := ?_)
            refine wy (by first | exact pkT | exact pkF) ?_
            exact mg (by repeat (first | exact trivial | refine ⟨rfl, ?_⟩ | refine ⟨by rw [hb12]; rfl, ?_⟩)) slz_
          · intro hb12
            repeat (first | refine un (h := ?_) | refine sk (h := ?_) | refine WL.y (hy := pkF) (h := ?_) | refine WL.y (hy := pkT) (h := ?_))
            exact mg (by repeat (first | exact trivial | refine ⟨rfl, ?_⟩ | refine ⟨by rw [hb12]; rfl, ?_⟩)) slz_
          refine nl (h := ?_)
          refine q_seq (h := ?_)
          refine cd (by exact rfl) (fun h13 => ?_) (fun h13 => ?_)
          · skip
            have hE : endS' f x.s side = true := by unfold endS'; exact h13
            obtain rfl : u = ⟨x.s.first, x.s.st ++ [addV x.s.g side], (0, 0), (0, 0)⟩ := by rw [← hu, stepS, hG, hE]; rfl
            refine sq (h := ?_)
            refine rg (h := ?_)
            refine wy (by first | exact fa | exact faE) ?_
            refine wy (by first | exact ld | exact ldE) ?_
            refine wy (by first | exact fa | exact faE) ?_
            refine wy (by first | exact ldA | exact ldEA) ?_
            refine wy (by first | exact fa | exact faE) ?_
            refine wy (ixA (hb := by omega)) ?_
            refine stP (vs := [.int .i64 (addV x.s.g side).1, .int .i64 (addV x.s.g side).2]) (h1 := by simp [Value.oneCell']) (hsz := rfl) (ho := by show 0 + 2 + ((x.s.st.length : Int)).toNat * 2 + 2 ≤ 16; omega) (h := ?_)
            refine WL.blkTo _ .here (put_sets hl4 _ (addV x.s.g side) (0, 0) (addV x.s.g side)) ?_
            refine nl (h := ?_)
            refine q_seq (h := ?_)
            refine sq (h := ?_)
            refine rg (h := ?_)
            refine wy bd ?_
            refine wy (by first | exact fa | exact faE) ?_
            first | refine stA (h := ?_) | refine stEA (h := ?_)
            refine nl (h := ?_)
            refine q_seq (h := ?_)
            refine rg (h := ?_)
            refine wy (by first | exact fa | exact faE) ?_
            refine wy (by first | exact ld | exact ldE) ?_
            refine wy addI ?_
            refine wy (by first | exact fa | exact faE) ?_
            first | refine st (h := ?_) | refine stE (h := ?_)
            refine nl (h := ?_)
            refine q_seq (h := ?_)
            refine sq (h := ?_)
            refine rgD (by kernel_rfl) [(1000000, poolE 213 N mn none), (1000000, .blk b2 114 _)] (by repeat (first | exact HS.nil | (apply HS.keep; (repeat (first | exact At.here | apply At.there))) | (apply HS.ro; (repeat (first | exact Rds.ro | exact Rds.own | apply Rds.there))))) (h := ?_)
            refine tk 0 (hy := (by first | exact ldA | exact ldEA)) (h := ?_)
            refine tk 1 (hy := mv) (h := ?_)
            refine tk 2 (hy := mv) (h := ?_)
            refine tk 3 (hy := mv) (h := ?_)
            refine tk 4 (hy := nck) (h := ?_)
            refine tk 5 (hy := (by first | exact fa | exact faE)) (h := ?_)
            refine tk 6 (hy := (by first | exact fa | exact faE)) (h := ?_)
            refine tk 7 (hy := ldQ (hy := hx)) (h := ?_)
            refine tk 8 (hy := addI (hb := by omega)) (h := ?_)
            refine tk 9 (hy := mv) (h := ?_)
            refine tk 10 (hy := nck) (h := ?_)
            refine tk 11 (hy := (by first | exact fa | exact faE)) (h := ?_)
            refine tk 12 (hy := (by first | exact fa | exact faE)) (h := ?_)
            refine tk 13 (hy := ldQ (hy := hx)) (h := ?_)
            refine tk 14 (hy := addI (hb := by omega)) (h := ?_)
            refine tk 15 (hy := bd) (h := ?_)
            refine tk 16 (hy := bd) (h := ?_)
            refine one 17 (h := ?_)
            refine bxA (h := fun b12 => ?_)
            refine nx (h := ?_)
            refine tk 18 (hy := asg) (h := ?_)
            refine dn (h := ?_)
            refine q_seq (h := ?_)
            refine rtn (h := ?_)
            refine q_ret (hR := ?_)
            intro w hS
            have hS2 := hS.sub (L' := .blk _ 213 _ :: poolE 213 N mn none :: R) slz_
            first
              | exact ret_next hS2 rfl
              | exact ret_next hS2 (by rw [← hle]; rfl)
          · skip
            have hE : endS' f x.s side = false := by unfold endS'; exact h13
            obtain rfl : u = ⟨x.s.first, x.s.st, addV x.s.g side, (0, 0)⟩ := by rw [← hu, stepS, hG, hE]; rfl
            refine skp (h := ?_)
            refine q_seq (h := ?_)
            refine sq (h := ?_)
            refine rgD (by kernel_rfl) [(1000000, poolE 213 N mn none), (1000000, .blk b2 114 _)] (by repeat (first | exact HS.nil | (apply HS.keep; (repeat (first | exact At.here | apply At.there))) | (apply HS.ro; (repeat (first | exact Rds.ro | exact Rds.own | apply Rds.there))))) (h := ?_)
            refine tk 0 (hy := (by first | exact ldA | exact ldEA)) (h := ?_)
            refine tk 1 (hy := mv) (h := ?_)
            refine tk 2 (hy := mv) (h := ?_)
            refine tk 3 (hy := mv) (h := ?_)
            refine tk 4 (hy := nck) (h := ?_)
            refine tk 5 (hy := (by first | exact fa | exact faE)) (h := ?_)
            refine tk 6 (hy := (by first | exact fa | exact faE)) (h := ?_)
            refine tk 7 (hy := ldQ (hy := hx)) (h := ?_)
            refine tk 8 (hy := addI (hb := by omega)) (h := ?_)
            refine tk 9 (hy := mv) (h := ?_)
            refine tk 10 (hy := nck) (h := ?_)
            refine tk 11 (hy := (by first | exact fa | exact faE)) (h := ?_)
            refine tk 12 (hy := (by first | exact fa | exact faE)) (h := ?_)
            refine tk 13 (hy := ldQ (hy := hx)) (h := ?_)
            refine tk 14 (hy := addI (hb := by omega)) (h := ?_)
            refine tk 15 (hy := bd) (h := ?_)
            refine tk 16 (hy := bd) (h := ?_)
            refine one 17 (h := ?_)
            refine bxA (h := fun b13 => ?_)
            refine nx (h := ?_)
            refine tk 18 (hy := asg) (h := ?_)
            refine dn (h := ?_)
            refine q_seq (h := ?_)
            refine rtn (h := ?_)
            refine q_ret (hR := ?_)
            intro w hS
            have hS2 := hS.sub (L' := .blk _ 213 _ :: poolE 213 N mn none :: R) slz_
            first
              | exact ret_next hS2 rfl
              | exact ret_next hS2 (by rw [← hle]; rfl)
        · skip
          have hG : gotS f x.s side = false := by rw [gotS, hleast, hby]; exact h11
          obtain rfl : u = ⟨x.s.first, x.s.st, x.s.g, addV x.s.p side⟩ := by rw [← hu, stepS, hG]; rfl
          refine skp (h := ?_)
          refine q_seq (h := ?_)
          refine sq (h := ?_)
          refine rgD (by kernel_rfl) [(1000000, poolE 213 N mn none), (1000000, .blk b2 114 _)] (by repeat (first | exact HS.nil | (apply HS.keep; (repeat (first | exact At.here | apply At.there))) | (apply HS.ro; (repeat (first | exact Rds.ro | exact Rds.own | apply Rds.there))))) (h := ?_)
          refine tk 0 (hy := (by first | exact ldA | exact ldEA)) (h := ?_)
          refine tk 1 (hy := mv) (h := ?_)
          refine tk 2 (hy := mv) (h := ?_)
          refine tk 3 (hy := mv) (h := ?_)
          refine tk 4 (hy := nck) (h := ?_)
          refine tk 5 (hy := (by first | exact fa | exact faE)) (h := ?_)
          refine tk 6 (hy := (by first | exact fa | exact faE)) (h := ?_)
          refine tk 7 (hy := ldQ (hy := hx)) (h := ?_)
          refine tk 8 (hy := addI (hb := by omega)) (h := ?_)
          refine tk 9 (hy := mv) (h := ?_)
          refine tk 10 (hy := nck) (h := ?_)
          refine tk 11 (hy := (by first | exact fa | exact faE)) (h := ?_)
          refine tk 12 (hy := (by first | exact fa | exact faE)) (h := ?_)
          refine tk 13 (hy := ldQ (hy := hx)) (h := ?_)
          refine tk 14 (hy := addI (hb := by omega)) (h := ?_)
          refine tk 15 (hy := bd) (h := ?_)
          refine tk 16 (hy := bd) (h := ?_)
          refine one 17 (h := ?_)
          refine bxA (h := fun b14 => ?_)
          refine nx (h := ?_)
          refine tk 18 (hy := asg) (h := ?_)
          refine dn (h := ?_)
          refine q_seq (h := ?_)
          refine rtn (h := ?_)
          refine q_ret (hR := ?_)
          intro w hS
          have hS2 := hS.sub (L' := .blk _ 213 _ :: poolE 213 N mn none :: R) slz_
          first
            | exact ret_next hS2 rfl
            | exact ret_next hS2 (by rw [← hle]; rfl)
end Go.Proofs.YtpmmgljndceplaaGreat

namespace Go.Proofs.YtpmmgljndceplaaGreat
open Go Go.RowKit

structure CrIs (N ns : List Nd) (es : Array MapEntry) (c : Nat) : Prop where
  m : MapIs es (crE ns)
  s : Stm es c
  sub : ∀ y ∈ ns, y ∈ N
  keys : (spotKs ns).Nodup
theorem CrIs.nil (N : List Nd) : CrIs N [] #[] 0 := ⟨mapIs0, stm0, fun y hy => (by cases hy), List.nodup_nil⟩
theorem CrIs.up {N N' ns : List Nd} {es : Array MapEntry} {c : Nat} (h : CrIs N ns es c) (hs : ∀ y ∈ N, y ∈ N') : CrIs N' ns es c := ⟨h.m, h.s, fun y hy => hs y (h.sub y hy), h.keys⟩
theorem CrIs.put {N ns : List Nd} {es es' : Array MapEntry} {c c' : Nat} {x : Nd} (h : CrIs N ns es c) (hx : x ∈ N) (hm : MapIs es' (crE (putNs ns x)) ∧ Stm es' c') : CrIs N (putNs ns x) es' c' :=
  ⟨hm.1, hm.2, fun y hy => by rcases putNs_mem hy with h2 | h2; exact h.sub y h2; exact h2 ▸ hx, putNs_keys h.keys⟩
abbrev ndKV (x : Nd) : KV := (.agg (spotC x.s).toArray, bp x.b)
theorem cr_kv {N ns : List Nd} {es : Array MapEntry} {c : Nat} (h : CrIs N ns es c) : es.toList.map kvOf = ns.map ndKV := by
  have := h.m
  unfold MapIs at this
  rw [show es.toList.map kvOf = es.toList.map (fun e => (e.key, e.val)) from rfl, this, crE, List.map_map]
  rfl
theorem todo_nd {todo : List KV} {ts : List Nd} {o : Option KV} {todo' : List KV} (ht : todo.Perm (ts.map ndKV)) (h : NxO todo o todo') : (o = none ∧ ts = [] ∧ todo'.Perm (([] : List Nd).map ndKV)) ∨ ∃ x ts', o = some (ndKV x) ∧ ts.Perm (x :: ts') ∧ todo'.Perm (ts'.map ndKV) := by
  cases o with
  | none =>
    obtain ⟨rfl, rfl⟩ := h
    have := ht.nil_eq
    left
    refine ⟨rfl, ?_, .refl _⟩
    cases ts with
    | nil => rfl
    | cons _ _ => cases this
  | some kv =>
    right
    have hp : (kv :: todo').Perm (ts.map ndKV) := (show todo.Perm (kv :: todo') from h).symm.trans ht
    have hm : kv ∈ ts.map ndKV := hp.subset List.mem_cons_self
    obtain ⟨x, hx, rfl⟩ := List.mem_map.1 hm
    obtain ⟨l1, l2, rfl⟩ := List.append_of_mem hx
    refine ⟨x, l1 ++ l2, rfl, List.perm_middle, ?_⟩
    have : (ndKV x :: todo').Perm (ndKV x :: (l1 ++ l2).map ndKV) := hp.trans (by
      rw [List.map_append, List.map_cons, List.map_append]
      exact List.perm_middle)
    exact (List.perm_cons _).1 this

theorem T_reader_score (f : Fmt) (cf : Int) (A : Option Addr) (n c : Nat) (N : List Nd) (mn : Nat → Pr) (x : Nd) (hx : x ∈ N) (r : List Int) (hr : RowN N x r) (hrl : r.length ≤ 600) :
    Tr Tryz.prog 138 [.agg (cardC f cf A n c).toArray, bp x.b] [poolE 213 N mn none] (fun _ : Option Addr × Nat => True) (fun p => (scO (playO f x.s.first r)).val p.1 p.2) (fun p => [.own p.1 p.2 38 2 (scO (playO f x.s.first r)).st.length (encP (scO (playO f x.s.first r)).st), poolE 213 N mn none]) := by
  refine ⟨fun w0 w R hst => ?_⟩
  refine en Tryz.func138 Tryz.ntmps138 hst (h := fun F => ?_)
  refine sq (h := ?_)
  refine rg (h := ?_)
  refine bxA (h := fun b0 => ?_)
  refine al (h := fun b1 => ?_)
  refine nl (h := ?_)
  refine q_seq (h := ?_)
  refine sq (h := ?_)
  refine rgD (by kernel_rfl) [(1000000, poolE 213 N mn none), (1000000, .blk b0 185 (cardC f cf A n c))] (by repeat (first | exact HS.nil | (apply HS.keep; (repeat (first | exact At.here | apply At.there))) | (apply HS.ro; (repeat (first | exact Rds.ro | exact Rds.own | apply Rds.there))))) (h := ?_)
  refine tk 0 (hy := (by first | exact fa | exact faE)) (h := ?_)
  refine tk 1 (hy := (by first | exact fa | exact faE)) (h := ?_)
  refine tk 2 (hy := (by first | exact ldA | exact ldEA)) (h := ?_)
  refine tk 3 (hy := mv) (h := ?_)
  refine tk 4 (hy := nck) (h := ?_)
  refine tk 5 (hy := (by first | exact fa | exact faE)) (h := ?_)
  refine tk 6 (hy := (by first | exact fa | exact faE)) (h := ?_)
  refine tk 7 (hy := ldQ (hy := hx)) (h := ?_)
  refine tk 8 (hy := mv) (h := ?_)
  refine two 9 14 (h1 := ?_) (h2 := ?_)
  · skip
    refine clT (hc := T_node_row N mn x hx r hr (by omega)) (h := fun p1 _ => ?_)
    refine nx (h := ?_)
    refine two 10 14 (h1 := ?_) (h2 := ?_)
    · skip
      refine cl (hc := fun w hS => C_score_Play f x.s.first r _ _ _ w (hS.get rdz_) (by omega)) (h := fun p2 _ => ?_)
      refine nx (h := ?_)
      refine tk 11 (hy := mv) (h := ?_)
      refine tk 12 (hy := ex) (h := ?_)
      refine tk 13 (hy := ex) (h := ?_)
      refine one 14 (h := ?_)
      refine al (h := fun b2 => ?_)
      refine nx (h := ?_)
      refine one 15 (h := ?_)
      first | refine stA (h := ?_) | refine stEA (h := ?_)
      refine nx (h := ?_)
      refine tk 16 (hy := asg) (h := ?_)
      refine dn (h := ?_)
      refine q_seq (h := ?_)
      refine sq (h := ?_)
      refine rg (h := ?_)
      refine wy (by first | exact ldA | exact ldEA) ?_
      first | refine stA (h := ?_) | refine stEA (h := ?_)
      refine nl (h := ?_)
      refine q_seq (h := ?_)
      refine rtn (h := ?_)
      refine q_ret (hR := ?_)
      exact fun w hS => ⟨p2, trivial, rfl, hS.sub slz_⟩
    · skip
      refine al (h := fun b3 => ?_)
      refine nx (h := ?_)
      refine one 10 (h := ?_)
      refine cl (hc := fun w hS => C_score_Play f x.s.first r _ _ _ w (hS.get rdz_) (by omega)) (h := fun p2 _ => ?_)
      refine nx (h := ?_)
      refine tk 11 (hy := mv) (h := ?_)
      refine tk 12 (hy := ex) (h := ?_)
      refine tk 13 (hy := ex) (h := ?_)
      refine one 15 (h := ?_)
      first | refine stA (h := ?_) | refine stEA (h := ?_)
      refine nx (h := ?_)
      refine tk 16 (hy := asg) (h := ?_)
      refine dn (h := ?_)
      refine q_seq (h := ?_)
      refine sq (h := ?_)
      refine rg (h := ?_)
      refine wy (by first | exact ldA | exact ldEA) ?_
      first | refine stA (h := ?_) | refine stEA (h := ?_)
      refine nl (h := ?_)
      refine q_seq (h := ?_)
      refine rtn (h := ?_)
      refine q_ret (hR := ?_)
      exact fun w hS => ⟨p2, trivial, rfl, hS.sub slz_⟩
  · skip
    refine al (h := fun b4 => ?_)
    refine nx (h := ?_)
    refine one 9 (h := ?_)
    refine clT (hc := T_node_row N mn x hx r hr (by omega)) (h := fun p1 _ => ?_)
    refine nx (h := ?_)
    refine one 10 (h := ?_)
    refine cl (hc := fun w hS => C_score_Play f x.s.first r _ _ _ w (hS.get rdz_) (by omega)) (h := fun p2 _ => ?_)
    refine nx (h := ?_)
    refine tk 11 (hy := mv) (h := ?_)
    refine tk 12 (hy := ex) (h := ?_)
    refine tk 13 (hy := ex) (h := ?_)
    refine one 15 (h := ?_)
    first | refine stA (h := ?_) | refine stEA (h := ?_)
    refine nx (h := ?_)
    refine tk 16 (hy := asg) (h := ?_)
    refine dn (h := ?_)
    refine q_seq (h := ?_)
    refine sq (h := ?_)
    refine rg (h := ?_)
    refine wy (by first | exact ldA | exact ldEA) ?_
    first | refine stA (h := ?_) | refine stEA (h := ?_)
    refine nl (h := ?_)
    refine q_seq (h := ?_)
    refine rtn (h := ?_)
    refine q_ret (hR := ?_)
    exact fun w hS => ⟨p2, trivial, rfl, hS.sub slz_⟩
abbrev Nt.val (x : Nt) : Value := .agg #[.int .i64 x.kind, .int .i64 x.side, .int .i64 x.pair.1, .int .i64 x.pair.2]
abbrev Nt.cells (x : Nt) : List Value := [.int .i64 x.kind, .int .i64 x.side, .int .i64 x.pair.1, .int .i64 x.pair.2]
theorem dec_pr (a b : Pr) : (decide (a.1 = b.1) && decide (a.2 = b.2)) = decide (a = b) := by
  rw [Bool.eq_iff_iff, Bool.and_eq_true, decide_eq_true_eq, decide_eq_true_eq, decide_eq_true_eq]
  exact ⟨fun h => Prod.ext h.1 h.2, fun h => by rw [h]; exact ⟨rfl, rfl⟩⟩
set_option maxRecDepth 100000 in
theorem T_reader_holds (f : Fmt) (hf : f.Ok) (hc0 : chkF f = 0) (cf : Int) (A : Option Addr) (n c : Nat) (N : List Nd) (mn : Nat → Pr) (K : Int) (hK : K ≤ 600) (hP : PoolOk f N mn K) (x : Nd) (hx : x ∈ N) (t : Nt) :
    Tr Tryz.prog 127 [.agg (cardC f cf A n c).toArray, t.val, bp x.b] [poolE 213 N mn none] (fun _ : Unit => True) (fun _ => .bool (holdS f t x.s)) (fun _ => [poolE 213 N mn none]) := by
  refine ⟨fun w0 w R hst => ?_⟩
  have hxo := hP.ok x hx
  have h5 := hxo.len hf
  obtain ⟨r, hr, hrk, _⟩ := hxo.row
  obtain ⟨m, hm⟩ := hxo.play hf hc0 hK hP.nd hr
  have hrl : r.length ≤ 600 := by omega
  have hsc : (scO (playO f x.s.first r)).server = srvS f x.s ∧ (scO (playO f x.s.first r)).winner = winS f x.s := by rw [hm.o]; exact ⟨hm.sv, hm.w⟩
  have eP : decide ([x.s.p.1, x.s.p.2] = [t.pair.1, t.pair.2]) = decide (x.s.p = t.pair) := by rw [pair_eq2, dec_pr]
  have eG : decide ([x.s.g.1, x.s.g.2] = [t.pair.1, t.pair.2]) = decide (x.s.g = t.pair) := by rw [pair_eq2, dec_pr]
  have eW : decide ([(wonV x.s.st).1, (wonV x.s.st).2] = [t.pair.1, t.pair.2]) = decide (wonV x.s.st = t.pair) := by rw [pair_eq2, dec_pr]
  have zP : decide ([x.s.p.1, x.s.p.2] = [(0 : Int), 0]) = decide (x.s.p = (0, 0)) := by rw [pair_eq2]; exact dec_pr x.s.p (0, 0)
  have zG : decide ([x.s.g.1, x.s.g.2] = [(0 : Int), 0]) = decide (x.s.g = (0, 0)) := by rw [pair_eq2]; exact dec_pr x.s.g (0, 0)
  refine en Tryz.func127 Tryz.ntmps127 hst (h := fun F => ?_)
  refine sq (h := ?_)
  refine rg (h := ?_)
  refine bxA (h := fun b0 => ?_)
  refine bxA (h := fun b1 => ?_)
  refine wy asg ?_
  refine nl (h := ?_)
  refine q_seq (h := ?_)
  refine sq (h := ?_)
  refine rg (h := ?_)
  refine wy bd ?_
  refine al (h := fun b2 => ?_)
  first | refine stA (h := ?_) | refine stEA (h := ?_)
  refine nl (h := ?_)
  refine q_seq (h := ?_)
  refine sq (h := ?_)
  refine sq (h := ?_)
  refine rg (h := ?_)
  refine wy (by first | exact fa | exact faE) ?_
  refine wy (by first | exact ld | exact ldE) ?_
  refine nl (h := ?_)
  refine q_seq (h := ?_)
  refine bk (h := ?_)
  refine sq (h := ?_)
  refine rg (h := ?_)
  refine wy eql ?_
  refine wy asg ?_
  refine nl (h := ?_)
  refine q_seq (h := ?_)
  refine cd (by exact rfl) (fun h0 => ?_) (fun h0 => ?_)
  · skip
    have hH : holdS f t x.s = decide (x.s.p = t.pair) := by rw [holdS, h0]; rfl
    refine sq (h := ?_)
    refine rgD (by kernel_rfl) [(1000000, poolE 213 N mn none), (1000000, .blk b1 101 t.cells)] (by repeat (first | exact HS.nil | (apply HS.keep; (repeat (first | exact At.here | apply At.there))) | (apply HS.ro; (repeat (first | exact Rds.ro | exact Rds.own | apply Rds.there))))) (h := ?_)
    refine tk 0 (hy := mv) (h := ?_)
    refine tk 1 (hy := nck) (h := ?_)
    refine tk 2 (hy := (by first | exact fa | exact faE)) (h := ?_)
    refine tk 3 (hy := (by first | exact fa | exact faE)) (h := ?_)
    refine tk 4 (hy := ldQA (hy := hx)) (h := ?_)
    refine tk 5 (hy := (by first | exact fa | exact faE)) (h := ?_)
    refine tk 6 (hy := (by first | exact ldA | exact ldEA)) (h := ?_)
    refine tk 7 (hy := eqlT) (h := ?_)
    refine tk 8 (hy := asg) (h := ?_)
    refine dn (h := ?_)
    refine q_seq (h := ?_)
    refine rtn (h := ?_)
    refine q_blk_ret (h := ?_)
    refine q_then_ret (h := ?_)
    refine q_ret (hR := ?_)
    rw [hH]
    first
      | (rw [← eP]; exact fun w hS => ⟨(), trivial, rfl, hS.sub slz_⟩)
      | (rw [← eG, ← zP, kA]; exact fun w hS => ⟨(), trivial, rfl, hS.sub slz_⟩)
      | (rw [← eW, ← zG, ← zP, kA, kB]; exact fun w hS => ⟨(), trivial, rfl, hS.sub slz_⟩)
      | (rw [← eW, ← zG, ← zP, kA]; exact fun w hS => ⟨(), trivial, rfl, hS.sub slz_⟩)
      | (rw [← hsc.1]; exact fun w hS => ⟨(), trivial, rfl, hS.sub slz_⟩)
      | (rw [← hsc.2]; exact fun w hS => ⟨(), trivial, rfl, hS.sub slz_⟩)
  · skip
    have n3 := h0
    refine sq (h := ?_)
    refine rg (h := ?_)
    refine wy eql ?_
    refine wy asg ?_
    refine nl (h := ?_)
    refine q_seq (h := ?_)
    refine cd (by exact rfl) (fun h1 => ?_) (fun h1 => ?_)
    · skip
      have hH : holdS f t x.s = (decide (x.s.g = t.pair) && decide (x.s.p = (0, 0))) := by rw [holdS, n3, h1]; rfl
      refine sq (h := ?_)
      refine rgD (by kernel_rfl) [(1000000, poolE 213 N mn none), (1000000, .blk b1 101 t.cells), (1000000, .blk b2 38 [.int .i64 0, .int .i64 0])] (by repeat (first | exact HS.nil | (apply HS.keep; (repeat (first | exact At.here | apply At.there))) | (apply HS.ro; (repeat (first | exact Rds.ro | exact Rds.own | apply Rds.there))))) (h := ?_)
      refine tk 0 (hy := mv) (h := ?_)
      refine tk 1 (hy := nck) (h := ?_)
      refine tk 2 (hy := (by first | exact fa | exact faE)) (h := ?_)
      refine tk 3 (hy := (by first | exact fa | exact faE)) (h := ?_)
      refine tk 4 (hy := ldQA (hy := hx)) (h := ?_)
      refine tk 5 (hy := (by first | exact fa | exact faE)) (h := ?_)
      refine tk 6 (hy := (by first | exact ldA | exact ldEA)) (h := ?_)
      refine tk 7 (hy := eqlT) (h := ?_)
      refine tk 8 (hy := mv) (h := ?_)
      refine brH (g := 32) (by exact rfl) (fun hb2 => ?_) (fun hb2 => ?_)
      · skip
        have kA := hb2
        refine tk 9 (hy := mv) (h := ?_)
        refine tk 10 (hy := nck) (h := ?_)
        refine tk 11 (hy := (by first | exact fa | exact faE)) (h := ?_)
        refine tk 12 (hy := (by first | exact fa | exact faE)) (h := ?_)
        refine tk 13 (hy := ldQA (hy := hx)) (h := ?_)
        refine tk 14 (hy := (by first | exact ldA | exact ldEA)) (h := ?_)
        refine tk 15 (hy := eqlT) (h := ?_)
        refine tk 16 (hy := (by first | exact pkT | exact pkF)) (h := ?_)
        refine tk 17 (hy := asg) (h := ?_)
        refine dn (h := ?_)
        refine q_seq (h := ?_)
        refine rtn (h := ?_)
        refine q_blk_ret (h := ?_)
        refine q_then_ret (h := ?_)
        refine q_ret (hR := ?_)
        rw [hH]
        first
          | (rw [← eP]; exact fun w hS => ⟨(), trivial, rfl, hS.sub slz_⟩)
          | (rw [← eG, ← zP, kA]; exact fun w hS => ⟨(), trivial, rfl, hS.sub slz_⟩)
          | (rw [← eW, ← zG, ← zP, kA, kB]; exact fun w hS => ⟨(), trivial, rfl, hS.sub slz_⟩)
          | (rw [← eW, ← zG, ← zP, kA]; exact fun w hS => ⟨(), trivial, rfl, hS.sub slz_⟩)
          | (rw [← hsc.1]; exact fun w hS => ⟨(), trivial, rfl, hS.sub slz_⟩)
          | (rw [← hsc.2]; exact fun w hS => ⟨(), trivial, rfl, hS.sub slz_⟩)
      · skip
        have kA := hb2
        refine tkS 9 (h := ?_)
        refine tkS 10 (h := ?_)
        refine tkS 11 (h := ?_)
        refine tkS 12 (h := ?_)
        refine tkS 13 (h := ?_)
        refine tkS 14 (h := ?_)
        refine tkS 15 (h := ?_)
        refine tk 16 (hy := (by first | exact pkT | exact pkF)) (h := ?_)
        refine tk 17 (hy := asg) (h := ?_)
        refine dn (h := ?_)
        refine q_seq (h := ?_)
        refine rtn (h := ?_)
        refine q_blk_ret (h := ?_)
        refine q_then_ret (h := ?_)
        refine q_ret (hR := ?_)
        rw [hH]
        first
          | (rw [← eP]; exact fun w hS => ⟨(), trivial, rfl, hS.sub slz_⟩)
          | (rw [← eG, ← zP, kA]; exact fun w hS => ⟨(), trivial, rfl, hS.sub slz_⟩)
          | (rw [← eW, ← zG, ← zP, kA, kB]; exact fun w hS => ⟨(), trivial, rfl, hS.sub slz_⟩)
          | (rw [← eW, ← zG, ← zP, kA]; exact fun w hS => ⟨(), trivial, rfl, hS.sub slz_⟩)
          | (rw [← hsc.1]; exact fun w hS => ⟨(), trivial, rfl, hS.sub slz_⟩)
          | (rw [← hsc.2]; exact fun w hS => ⟨(), trivial, rfl, hS.sub slz_⟩)
    · skip
      have n4 := h1
      refine sq (h := ?_)
      refine rg (h := ?_)
      refine wy eql ?_
      refine wy asg ?_
      refine nl (h := ?_)
      refine q_seq (h := ?_)
      refine cd (by exact rfl) (fun h3 => ?_) (fun h3 => ?_)
      · skip
        have hH : holdS f t x.s = (decide (wonV x.s.st = t.pair) && (decide (x.s.g = (0, 0)) && decide (x.s.p = (0, 0)))) := by rw [holdS, n3, n4, h3]; rfl
        refine sq (h := ?_)
        refine rgD (by kernel_rfl) [(1000000, poolE 213 N mn none), (1000000, .blk b1 101 t.cells), (1000000, .blk b2 38 [.int .i64 0, .int .i64 0])] (by repeat (first | exact HS.nil | (apply HS.keep; (repeat (first | exact At.here | apply At.there))) | (apply HS.ro; (repeat (first | exact Rds.ro | exact Rds.own | apply Rds.there))))) (h := ?_)
        refine tk 0 (hy := mv) (h := ?_)
        refine tk 1 (hy := nck) (h := ?_)
        refine tk 2 (hy := (by first | exact fa | exact faE)) (h := ?_)
        refine tk 3 (hy := ldQA (hy := hx)) (h := ?_)
        refine tk 5 (hy := (by first | exact fa | exact faE)) (h := ?_)
        refine tk 6 (hy := (by first | exact ldA | exact ldEA)) (h := ?_)
        refine one 4 (h := ?_)
        refine cl0 (hc := fun w hS => C_spot_won x.s h5 w) (h := ?_)
        refine nx (h := ?_)
        refine tk 7 (hy := eqlT) (h := ?_)
        refine tk 8 (hy := mv) (h := ?_)
        refine brH (g := 51) (by exact rfl) (fun hb4 => ?_) (fun hb4 => ?_)
        · skip
          have kA := hb4
          refine tk 9 (hy := mv) (h := ?_)
          refine tk 10 (hy := nck) (h := ?_)
          refine tk 11 (hy := (by first | exact fa | exact faE)) (h := ?_)
          refine tk 12 (hy := (by first | exact fa | exact faE)) (h := ?_)
          refine tk 13 (hy := ldQA (hy := hx)) (h := ?_)
          refine tk 14 (hy := (by first | exact ldA | exact ldEA)) (h := ?_)
          refine tk 15 (hy := eqlT) (h := ?_)
          refine tk 16 (hy := (by first | exact pkT | exact pkF)) (h := ?_)
          refine tk 17 (hy := mv) (h := ?_)
          refine brH (g := 60) (by exact rfl) (fun hb5 => ?_) (fun hb5 => ?_)
          · skip
            have kB := hb5
            refine tk 18 (hy := mv) (h := ?_)
            refine tk 19 (hy := nck) (h := ?_)
            refine tk 20 (hy := (by first | exact fa | exact faE)) (h := ?_)
            refine tk 21 (hy := (by first | exact fa | exact faE)) (h := ?_)
            refine tk 22 (hy := ldQA (hy := hx)) (h := ?_)
            refine tk 23 (hy := (by first | exact ldA | exact ldEA)) (h := ?_)
            refine tk 24 (hy := eqlT) (h := ?_)
            refine tk 25 (hy := (by first | exact pkT | exact pkF)) (h := ?_)
            refine tk 26 (hy := asg) (h := ?_)
            refine dn (h := ?_)
            refine q_seq (h := ?_)
            refine rtn (h := ?_)
            refine q_blk_ret (h := ?_)
            refine q_then_ret (h := ?_)
            refine q_ret (hR := ?_)
            rw [hH]
            first
              | (rw [← eP]; exact fun w hS => ⟨(), trivial, rfl, hS.sub slz_⟩)
              | (rw [← eG, ← zP, kA]; exact fun w hS => ⟨(), trivial, rfl, hS.sub slz_⟩)
              | (rw [← eW, ← zG, ← zP, kA, kB]; exact fun w hS => ⟨(), trivial, rfl, hS.sub slz_⟩)
              | (rw [← eW, ← zG, ← zP, kA]; exact fun w hS => ⟨(), trivial, rfl, hS.sub slz_⟩)
              | (rw [← hsc.1]; exact fun w hS => ⟨(), trivial, rfl, hS.sub slz_⟩)
              | (rw [← hsc.2]; exact fun w hS => ⟨(), trivial, rfl, hS.sub slz_⟩)
          · skip
            have kB := hb5
            refine tkS 18 (h := ?_)
            refine tkS 19 (h := ?_)
            refine tkS 20 (h := ?_)
            refine tkS 21 (h := ?_)
            refine tkS 22 (h := ?_)
            refine tkS 23 (h := ?_)
            refine tkS 24 (h := ?_)
            refine tk 25 (hy := (by first | exact pkT | exact pkF)) (h := ?_)
            refine tk 26 (hy := asg) (h := ?_)
            refine dn (h := ?_)
            refine q_seq (h := ?_)
            refine rtn (h := ?_)
            refine q_blk_ret (h := ?_)
            refine q_then_ret (h := ?_)
            refine q_ret (hR := ?_)
            rw [hH]
            first
              | (rw [← eP]; exact fun w hS => ⟨(), trivial, rfl, hS.sub slz_⟩)
              | (rw [← eG, ← zP, kA]; exact fun w hS => ⟨(), trivial, rfl, hS.sub slz_⟩)
              | (rw [← eW, ← zG, ← zP, kA, kB]; exact fun w hS => ⟨(), trivial, rfl, hS.sub slz_⟩)
              | (rw [← eW, ← zG, ← zP, kA]; exact fun w hS => ⟨(), trivial, rfl, hS.sub slz_⟩)
              | (rw [← hsc.1]; exact fun w hS => ⟨(), trivial, rfl, hS.sub slz_⟩)
              | (rw [← hsc.2]; exact fun w hS => ⟨(), trivial, rfl, hS.sub slz_⟩)
        · skip
          have kA := hb4
          refine tkS 9 (h := ?_)
          refine tkS 10 (h := ?_)
          refine tkS 11 (h := ?_)
          refine tkS 12 (h := ?_)
          refine tkS 13 (h := ?_)
          refine tkS 14 (h := ?_)
          refine tkS 15 (h := ?_)
          refine tk 16 (hy := (by first | exact pkT | exact pkF)) (h := ?_)
          refine tk 17 (hy := mv) (h := ?_)
          refine tkS 18 (h := ?_)
          refine tkS 19 (h := ?_)
          refine tkS 20 (h := ?_)
          refine tkS 21 (h := ?_)
          refine tkS 22 (h := ?_)
          refine tkS 23 (h := ?_)
          refine tkS 24 (h := ?_)
          refine tk 25 (hy := (by first | exact pkT | exact pkF)) (h := ?_)
          refine tk 26 (hy := asg) (h := ?_)
          refine dn (h := ?_)
          refine q_seq (h := ?_)
          refine rtn (h := ?_)
          refine q_blk_ret (h := ?_)
          refine q_then_ret (h := ?_)
          refine q_ret (hR := ?_)
          rw [hH]
          first
            | (rw [← eP]; exact fun w hS => ⟨(), trivial, rfl, hS.sub slz_⟩)
            | (rw [← eG, ← zP, kA]; exact fun w hS => ⟨(), trivial, rfl, hS.sub slz_⟩)
            | (rw [← eW, ← zG, ← zP, kA, kB]; exact fun w hS => ⟨(), trivial, rfl, hS.sub slz_⟩)
            | (rw [← eW, ← zG, ← zP, kA]; exact fun w hS => ⟨(), trivial, rfl, hS.sub slz_⟩)
            | (rw [← hsc.1]; exact fun w hS => ⟨(), trivial, rfl, hS.sub slz_⟩)
            | (rw [← hsc.2]; exact fun w hS => ⟨(), trivial, rfl, hS.sub slz_⟩)
      · skip
        have n5 := h3
        refine sq (h := ?_)
        refine rg (h := ?_)
        refine wy eql ?_
        refine wy asg ?_
        refine nl (h := ?_)
        refine q_seq (h := ?_)
        refine cd (by exact rfl) (fun h6 => ?_) (fun h6 => ?_)
        · skip
          have hH : holdS f t x.s = (decide (0 ≤ srvS f x.s) && decide (srvS f x.s % 2 = t.side)) := by rw [holdS, n3, n4, n5, h6]; rfl
          refine sq (h := ?_)
          refine rg (h := ?_)
          refine wy (by first | exact ldA | exact ldEA) ?_
          refine wy mv ?_
          refine clT (hc := T_reader_score f cf A n c N mn x hx r hr hrl) (h := fun p1 _ => ?_)
          refine wy (by first | exact fdv1 | exact fdvA) ?_
          refine wy asg ?_
          refine nl (h := ?_)
          refine q_seq (h := ?_)
          refine sq (h := ?_)
          refine rg (h := ?_)
          refine wy mv ?_
          refine wy geq ?_
          refine wy mv ?_
          apply brAnd 6 77 83 (by exact rfl)
          · intro hb7
            have hnn := of_decide_eq_true hb7
            refine un (h := ?_)
            refine wy mv ?_
            refine un (h := ?_)
            refine wy remI ?_
            refine un (h := ?_)
            refine wy (by first | exact fa | exact faE) ?_
            refine un (h := ?_)
            refine wy (by first | exact ld | exact ldE) ?_
            refine un (h := ?_)
            refine wy eql ?_
            refine wy (by first | exact pkT | exact pkF) ?_
            exact mg (by repeat (first | exact trivial | refine ⟨rfl, ?_⟩ | refine ⟨by rw [hb7]; rfl, ?_⟩)) slz_
          · intro hb7
            repeat (first | refine un (h := ?_) | refine sk (h := ?_) | refine WL.y (hy := pkF) (h := ?_) | refine WL.y (hy := pkT) (h := ?_))
            exact mg (by repeat (first | exact trivial | refine ⟨rfl, ?_⟩ | refine ⟨by rw [hb7]; rfl, ?_⟩)) slz_
          refine wy asg ?_
          refine nl (h := ?_)
          refine q_seq (h := ?_)
          refine rtn (h := ?_)
          refine q_blk_ret (h := ?_)
          refine q_then_ret (h := ?_)
          refine q_ret (hR := ?_)
          rw [hH]
          first
            | (rw [← eP]; exact fun w hS => ⟨(), trivial, rfl, hS.sub slz_⟩)
            | (rw [← eG, ← zP, kA]; exact fun w hS => ⟨(), trivial, rfl, hS.sub slz_⟩)
            | (rw [← eW, ← zG, ← zP, kA, kB]; exact fun w hS => ⟨(), trivial, rfl, hS.sub slz_⟩)
            | (rw [← eW, ← zG, ← zP, kA]; exact fun w hS => ⟨(), trivial, rfl, hS.sub slz_⟩)
            | (rw [← hsc.1]; exact fun w hS => ⟨(), trivial, rfl, hS.sub slz_⟩)
            | (rw [← hsc.2]; exact fun w hS => ⟨(), trivial, rfl, hS.sub slz_⟩)
        · skip
          have hH : holdS f t x.s = decide (winS f x.s = t.side) := by rw [holdS, n3, n4, n5, h6]; rfl
          refine skp (h := ?_)
          refine q_blk_norm (h := ?_)
          refine q_seq (h := ?_)
          refine sq (h := ?_)
          refine rgD (by kernel_rfl) [(1000000, poolE 213 N mn none), (1000000, .blk b1 101 t.cells), (1000000, .blk b0 185 (cardC f cf A n c))] (by repeat (first | exact HS.nil | (apply HS.keep; (repeat (first | exact At.here | apply At.there))) | (apply HS.ro; (repeat (first | exact Rds.ro | exact Rds.own | apply Rds.there))))) (h := ?_)
          refine tk 0 (hy := (by first | exact ldA | exact ldEA)) (h := ?_)
          refine tk 1 (hy := mv) (h := ?_)
          refine tk 4 (hy := (by first | exact fa | exact faE)) (h := ?_)
          refine tk 5 (hy := (by first | exact ld | exact ldE)) (h := ?_)
          refine one 2 (h := ?_)
          refine clT (hc := T_reader_score f cf A n c N mn x hx r hr hrl) (h := fun p1 _ => ?_)
          refine nx (h := ?_)
          refine tk 3 (hy := (by first | exact fdv1 | exact fdvA)) (h := ?_)
          refine tk 6 (hy := eql) (h := ?_)
          refine tk 7 (hy := asg) (h := ?_)
          refine dn (h := ?_)
          refine q_seq (h := ?_)
          refine rtn (h := ?_)
          refine q_ret (hR := ?_)
          rw [hH]
          first
            | (rw [← eP]; exact fun w hS => ⟨(), trivial, rfl, hS.sub slz_⟩)
            | (rw [← eG, ← zP, kA]; exact fun w hS => ⟨(), trivial, rfl, hS.sub slz_⟩)
            | (rw [← eW, ← zG, ← zP, kA, kB]; exact fun w hS => ⟨(), trivial, rfl, hS.sub slz_⟩)
            | (rw [← eW, ← zG, ← zP, kA]; exact fun w hS => ⟨(), trivial, rfl, hS.sub slz_⟩)
            | (rw [← hsc.1]; exact fun w hS => ⟨(), trivial, rfl, hS.sub slz_⟩)
            | (rw [← hsc.2]; exact fun w hS => ⟨(), trivial, rfl, hS.sub slz_⟩)
end Go.Proofs.YtpmmgljndceplaaGreat

namespace Go.Proofs.YtpmmgljndceplaaGreat
open Go Go.RowKit

def addN (f : Fmt) (N : List Nd) (x : Nd) (side : Int) (o : Option Nat) : List Nd := match o, nxtS f x.s side with
  | some k, some u => ⟨k, u, some x.b, side⟩ :: N
  | _, _ => N
def addM (mn : Nat → Pr) (x : Nd) (o : Option Nat) : Nat → Pr := match o with
  | some k => upN mn k ((mn x.b).1 + 1, (mn x.b).2 + 1)
  | none => mn
def NxtOk (f : Fmt) (N : List Nd) (x : Nd) (side : Int) (o : Option Nat) : Prop := match o with
  | none => nxtS f x.s side = none
  | some k => (∃ u, nxtS f x.s side = some u) ∧ ∀ y ∈ N, y.b ≠ k
theorem T_nextO (f : Fmt) (hf : f.Ok) (cf : Int) (A : Option Addr) (n c : Nat) (N : List Nd) (mn : Nat → Pr) (x : Nd) (side : Int) (hs : side = 0 ∨ side = 1) (K : Int) (hK : K ≤ 10000) (hP : PoolOk f N mn K) (hx : x ∈ N) :
    Tr Tryz.prog 136 [.agg (cardC f cf A n c).toArray, bp x.b, .int .i64 side] [poolE 213 N mn none] (NxtOk f N x side) (fun o => bpO o) (fun o => [poolE 213 (addN f N x side o) (addM mn x o) none]) := by
  cases hn : nxtS f x.s side with
  | none =>
    have h := T_next_none f cf A n c N mn x side ((hP.ok x hx).len hf) hx hn
    exact ⟨fun w0 w R hst => (h.out w0 w R hst).mono fun e w' ⟨_, _, he, hs⟩ => ⟨none, hn, he, hs⟩⟩
  | some u =>
    have h := T_next_some f hf cf A n c N mn x side hs K hK hP hx u hn
    refine ⟨fun w0 w R hst => (h.out w0 w R hst).mono fun e w' ⟨k, hk, he, hs⟩ => ⟨some k, ⟨⟨u, hn⟩, hk⟩, he, ?_⟩⟩
    show St w0 w' ([poolE _ (addN f N x side (some k)) (addM mn x (some k)) none] ++ R)
    rw [show addN f N x side (some k) = ⟨k, u, some x.b, side⟩ :: N by simp only [addN, hn]]
    exact hs

theorem norm_snoc (l : List En) (e : En) : normC (l ++ [e]) = putC (normC l) e := by unfold normC; rw [List.foldl_append]; rfl
abbrev ndE (mn : Nat → Pr) (x : Nd) : En := (x.s, ((mn x.b).1, (mn x.b).2, 0))
def partE (f : Fmt) (side : Int) (e : En) : Nat → List En
  | 0 => []
  | k + 1 => partE f side e k ++ goE f side e k
theorem part_two (f : Fmt) (side : Int) (e : En) : partE f side e 2 = goE f side e 0 ++ goE f side e 1 := by
  show (([] : List En) ++ goE f side e ((0 : Nat) : Int)) ++ goE f side e ((1 : Nat) : Int) = _
  rfl
theorem stepI_snoc (f : Fmt) (mn : Nat → Pr) (dn : List Nd) (x : Nd) (side : Int) : stepI f (toC mn (dn ++ [x])) side = stepI f (toC mn dn) side ++ partE f side (ndE mn x) 2 := by
  rw [part_two]
  unfold stepI toC
  rw [List.map_append, List.flatMap_append]
  simp
structure PlI (f : Fmt) (N : List Nd) (mn : Nat → Pr) (ns : List Nd) (side K : Int) (l : List En) (N' : List Nd) (mn' : Nat → Pr) (ns' : List Nd) (es' : Array MapEntry) (c' : Nat) : Prop where
  ok : PoolOk f N' mn' (K + 1)
  sub : ∀ y ∈ N, y ∈ N'
  mn : ∀ y ∈ N, mn' y.b = mn y.b
  cr : CrIs N' ns' es' c'
  new : ∀ y ∈ ns', ∀ z ∈ N, z.b ≠ y.b
  fr : ∀ y ∈ ns', ∃ x ∈ ns, y.bf = some x.b ∧ (y.sd = 0 ∨ y.sd = 1) ∧ (side = -1 ∨ side = y.sd) ∧ nxtS f x.s y.sd = some y.s
  toC : toC mn' ns' = normC l
theorem PlI.start {f : Fmt} {N : List Nd} {mn : Nat → Pr} {ns : List Nd} {side K : Int} (h : PoolOk f N mn K) : PlI f N mn ns side K [] N mn [] #[] 0 :=
  ⟨h.up (by omega), fun y hy => hy, fun y hy => rfl, CrIs.nil N, fun y hy => (by cases hy), fun y hy => (by cases hy), rfl⟩
theorem PlI.skip {f : Fmt} {N : List Nd} {mn : Nat → Pr} {ns : List Nd} {side K : Int} {l l2 : List En} {N' : List Nd} {mn' : Nat → Pr} {ns' : List Nd} {es' : Array MapEntry} {c' : Nat} (h : PlI f N mn ns side K l N' mn' ns' es' c') (e : l2 = []) : PlI f N mn ns side K (l ++ l2) N' mn' ns' es' c' := by
  subst e; rw [List.append_nil]; exact h
theorem PlI.point {f : Fmt} {N : List Nd} {mn : Nat → Pr} {ns : List Nd} {side K : Int} {l : List En} {N' : List Nd} {mn' : Nat → Pr} {ns' : List Nd} {es' : Array MapEntry} {c' : Nat} (h : PlI f N mn ns side K l N' mn' ns' es' c') (hP : PoolOk f N mn K) (hns : ∀ y ∈ ns, y ∈ N) {x : Nd} (hx : x ∈ ns) {p : Int} (hp : p = 0 ∨ p = 1) (hs : side = -1 ∨ side = p) {u : Spot} (hn : nxtS f x.s p = some u) {k : Nat} (hk : ∀ y ∈ N', y.b ≠ k) {es2 : Array MapEntry} {c2 : Nat} (hm : MapIs es2 (crE (putNs ns' ⟨k, u, some x.b, p⟩)) ∧ Stm es2 c2) :
    PlI f N mn ns side K (l ++ goE f side (ndE mn x) p) (⟨k, u, some x.b, p⟩ :: N') (putM ns' (upN mn' k ((mn' x.b).1 + 1, (mn' x.b).2 + 1)) ⟨k, u, some x.b, p⟩) (putNs ns' ⟨k, u, some x.b, p⟩) es2 c2 := by
  have hxN := hns x hx
  have hxo := hP.ok x hxN
  have hmx := h.mn x hxN
  have hlo := hxo.lo; have hhi := hxo.hi
  obtain ⟨h1, r, h2, h3, h4⟩ := row_next (y := ⟨k, u, some x.b, p⟩) hxN hxo.row rfl hp hn
  have hok : PoolOk f (⟨k, u, some x.b, p⟩ :: N') (upN mn' k ((mn' x.b).1 + 1, (mn' x.b).2 + 1)) (K + 1) :=
    h.ok.add (x := ⟨k, u, some x.b, p⟩) hk (by rw [h1]; exact hxo.fs) ⟨r, h2.mono h.sub, h3, h4⟩ (by rw [hmx]; dsimp only; omega) (by rw [hmx]; dsimp only; omega)
  have hsub' : ∀ y ∈ ns', y ∈ (⟨k, u, some x.b, p⟩ :: N' : List Nd) := fun y hy => List.mem_cons_of_mem _ (h.cr.sub y hy)
  have hne : ∀ y ∈ N, y.b ≠ k := fun y hy => hk y (h.sub y hy)
  refine ⟨putM_ok hok hsub' List.mem_cons_self, fun y hy => List.mem_cons_of_mem _ (h.sub y hy), fun y hy => ?_, (h.cr.up fun y hy => List.mem_cons_of_mem _ hy).put List.mem_cons_self hm, fun y hy z hz => ?_, fun y hy => ?_, ?_⟩
  · rw [putM_other fun z hz e => h.new z hz y hy e.symm, upN_other (hne y hy), h.mn y hy]
  · rcases putNs_mem hy with h5 | rfl
    · exact h.new y h5 z hz
    · exact hne z hz
  · rcases putNs_mem hy with h5 | rfl
    · exact h.fr y h5
    · exact ⟨x, hx, rfl, hp, hs, hn⟩
  · have hg : goE f side (ndE mn x) p = [upE (ndE mn x) u] := by unfold goE; rw [if_pos hs]; simp only [hn]
    rw [hg, norm_snoc, ← h.toC, put_toC h.cr.keys (fun y hy z hz e => nd_one h.ok.nd (h.cr.sub y hy) (h.cr.sub z hz) e)]
    rw [toC_congr (mn := mn') fun y hy => upN_other (hk y (h.cr.sub y hy))]
    congr 1
    show (u, ((upN mn' k _ k).1, (upN mn' k _ k).2, (0 : Int))) = _
    rw [upN_same, hmx]
    rfl
theorem nxt_top {f : Fmt} {s u : Spot} {p : Int} (h : nxtS f s p = some u) : topS s ≠ f.sets := fun e => by rw [nxtS, decide_eq_true e] at h; cases h
theorem nxt_step {f : Fmt} {s u : Spot} {p : Int} (h : nxtS f s p = some u) : stepS f s p = u := by
  rw [nxtS, decide_eq_false (nxt_top h)] at h; exact Option.some.inj h
structure PZ2 where
  (N : List Nd) (mn : Nat → Pr) (ns : List Nd) (es : Array MapEntry) (c : Nat) (dn ts : List Nd) (tk : List KV) (o : Option KV)
structure PZ3 where
  (N : List Nd) (mn : Nat → Pr) (ns : List Nd) (es : Array MapEntry) (c k : Nat)
structure PR where
  (N : List Nd) (mn : Nat → Pr) (ns : List Nd) (b : Nat) (es : Array MapEntry) (c : Nat)
set_option maxRecDepth 100000 in
theorem T_reader_play (f : Fmt) (hf : f.Ok) (cf : Int) (A : Option Addr) (n c : Nat) (N ns : List Nd) (mn : Nat → Pr) (side K : Int) (hK : K ≤ 9000) (hP : PoolOk f N mn K) (b : Nat) (es : Array MapEntry) (cl : Nat) (hC : CrIs N ns es cl) :
    Tr Tryz.prog 126 [.agg (cardC f cf A n c).toArray, .map (some b), .int .i64 side] [poolE 213 N mn none, roM b es cl] (fun q : PR => ∃ dn, dn.Perm ns ∧ PlI f N mn ns side K (stepI f (toC mn dn) side) q.N q.mn q.ns q.es q.c) (fun q => .map (some q.b)) (fun q => [poolE 213 q.N q.mn none, .obj q.b (.map q.es q.c), roM b es cl]) := by
  refine ⟨fun w0 w R hst => ?_⟩
  refine en Tryz.func126 Tryz.ntmps126 hst (h := fun F => ?_)
  refine sq (h := ?_)
  refine rg (h := ?_)
  refine bxA (h := fun b0 => ?_)
  refine wy asg ?_
  refine nl (h := ?_)
  refine q_seq (h := ?_)
  refine sq (h := ?_)
  refine rg (h := ?_)
  refine mkm (h := fun b1 => ?_)
  refine wy asg ?_
  refine nl (h := ?_)
  refine q_seq (h := ?_)
  refine sq (h := ?_)
  refine sq (h := ?_)
  refine rg (h := ?_)
  refine wy mv ?_
  refine rngM (h := fun r1 => ?_)
  rw [cr_kv hC]
  refine nl (h := ?_)
  refine q_seq (h := ?_)
  refine bk (h := ?_)
  refine lp (X := PZ2) (I := fun z => (z.dn ++ z.ts).Perm ns ∧ z.tk.Perm (z.ts.map ndKV) ∧ PlI f N mn ns side K (stepI f (toC mn z.dn) side) z.N z.mn z.ns z.es z.c) (le := fun z => [(2, .int .i64 side), (3, .pointer (some ⟨b0, 0, none⟩)), (7, .map (some b1)), (14, .pointer (some ⟨r1, 0, none⟩))]) (Le := fun z => itE r1 b es cl z.tk z.o :: .obj b1 (.map z.es z.c) :: .blk b0 185 (cardC f cf A n c) :: poolE 213 z.N z.mn none :: roM b es cl :: R) (μ := fun z => z.ts.length) ⟨N, mn, [], #[], 0, [], ns, ns.map ndKV, none⟩ ⟨.refl _, .refl _, PlI.start hP⟩ sbz_ slz_ (fun z hz => ?_)
  obtain ⟨hzd, hzt, hzp⟩ := hz
  refine sq (h := ?_)
  refine rg (h := ?_)
  refine nxtM (hs := hC.s) (h := fun o2 tk2 ho2 => ?_)
  refine wy exN ?_
  refine nl (h := ?_)
  refine q_seq (h := ?_)
  refine sq (h := ?_)
  refine cd (by exact rfl) (fun h0 => ?_) (fun h0 => ?_)
  · skip
    obtain ⟨kv, rfl⟩ := Option.isSome_iff_exists.1 h0
    rcases todo_nd hzt ho2 with ⟨e, _⟩ | ⟨x, ts', e, hts, htk⟩
    · cases e
    obtain rfl := Option.some.inj e
    have hxn : x ∈ ns := hzd.subset (List.mem_append.2 (.inr (hts.symm.subset List.mem_cons_self)))
    refine skp (h := ?_)
    refine q_seq (h := ?_)
    refine bk (h := ?_)
    refine sq (h := ?_)
    refine rg (h := ?_)
    refine wy (entM (hs := hC.s)) ?_
    refine wy ex ?_
    refine wy asg ?_
    refine nl (h := ?_)
    refine q_seq (h := ?_)
    refine sq (h := ?_)
    refine rg (h := ?_)
    refine wy mv ?_
    refine nl (h := ?_)
    refine q_seq (h := ?_)
    refine bk (h := ?_)
    refine lp (X := PZ3) (I := fun v => v.k ≤ 2 ∧ PlI f N mn ns side K (stepI f (toC mn z.dn) side ++ partE f side (ndE mn x) v.k) v.N v.mn v.ns v.es v.c) (le := fun v => [(2, .int .i64 side), (3, .pointer (some ⟨b0, 0, none⟩)), (7, .map (some b1)), (14, .pointer (some ⟨r1, 0, none⟩)), (9, bp x.b), (19, .int .i64 v.k)]) (Le := fun v => itE r1 b es cl tk2 (some (ndKV x)) :: .obj b1 (.map v.es v.c) :: .blk b0 185 (cardC f cf A n c) :: poolE 213 v.N v.mn none :: roM b es cl :: R) (μ := fun v => 2 - v.k) ⟨z.N, z.mn, z.ns, z.es, z.c, 0⟩ ⟨Nat.zero_le _, hzp.skip rfl⟩ sbz_ slz_ (fun v hv0 => ?_)
    obtain ⟨hvk, hv⟩ := hv0
    refine sq (h := ?_)
    refine rg (h := ?_)
    refine wy lss ?_
    refine nl (h := ?_)
    refine q_seq (h := ?_)
    refine sq (h := ?_)
    refine cd (by exact rfl) (fun h1 => ?_) (fun h1 => ?_)
    · skip
      have hk2 : v.k < 2 := by simp only [decide_eq_true_eq] at h1; omega
      have hp : ((v.k : Nat) : Int) = 0 ∨ ((v.k : Nat) : Int) = 1 := by omega
      refine skp (h := ?_)
      refine q_seq (h := ?_)
      refine sq (h := ?_)
      refine bk (h := ?_)
      refine sq (h := ?_)
      refine rg (h := ?_)
      refine wy mv ?_
      refine wy asg ?_
      refine nl (h := ?_)
      refine q_seq (h := ?_)
      refine sq (h := ?_)
      refine sq (h := ?_)
      refine rg (h := ?_)
      refine wy mv ?_
      refine wy neq ?_
      refine wy mv ?_
      apply brAnd 4 24 28 (by exact rfl)
      · intro hb2
        refine un (h := ?_)
        refine wy mv ?_
        refine un (h := ?_)
        refine wy mv ?_
        refine un (h := ?_)
        refine wy neq ?_
        refine wy (by first | exact pkT | exact pkF) ?_
        exact mg (by repeat (first | exact trivial | refine ⟨rfl, ?_⟩ | refine ⟨by rw [hb2]; rfl, ?_⟩)) slz_
      · intro hb2
        repeat (first | refine un (h := ?_) | refine sk (h := ?_) | refine WL.y (hy := pkF) (h := ?_) | refine WL.y (hy := pkT) (h := ?_))
        exact mg (by repeat (first | exact trivial | refine ⟨rfl, ?_⟩ | refine ⟨by rw [hb2]; rfl, ?_⟩)) slz_
      refine nl (h := ?_)
      refine q_seq (h := ?_)
      refine cd (by exact rfl) (fun h3 => ?_) (fun h3 => ?_)
      · skip
        have hgo : goE f side (ndE mn x) ((v.k : Nat) : Int) = [] := by
          unfold goE
          rw [if_neg]
          have h' : (!decide (side = -1) && !decide (side = (v.k : Int))) = true := h3
          simp only [Bool.and_eq_true, Bool.not_eq_true', decide_eq_false_iff_not] at h'
          omega
        refine et (h := ?_)
        refine q_then_exit (h := ?_)
        refine q_blk_hit (h := ?_)
        refine q_seq (h := ?_)
        refine rg (h := ?_)
        refine wy addI ?_
        refine wy mv ?_
        refine nl (h := ?_)
        first
          | (refine rn (x := v) ⟨v.N, v.mn, v.ns, v.es, v.c, v.k + 1⟩ ⟨by dsimp only; omega, by
              show PlI f N mn ns side K (_ ++ (partE f side (ndE mn x) v.k ++ goE f side (ndE mn x) ((v.k : Nat) : Int))) _ _ _ _ _
              rw [hgo, List.append_nil]; exact hv⟩ (by dsimp only; omega) sbz_ slz_)
          | (refine rn (x := v) ⟨_, _, putNs v.ns ⟨k1, u, some x.b, ((v.k : Nat) : Int)⟩, q.1, q.2, v.k + 1⟩ ⟨by dsimp only; omega, by
              show PlI f N mn ns side K (_ ++ (partE f side (ndE mn x) v.k ++ goE f side (ndE mn x) ((v.k : Nat) : Int))) _ _ _ _ _
              rw [← List.append_assoc]; exact hv.point hP hC.sub hxn hp hsd hu hk1 hq⟩ (by dsimp only; omega) sbz_ slz_)
      · skip
        have hsd : side = -1 ∨ side = ((v.k : Nat) : Int) := by
          have h' : (!decide (side = -1) && !decide (side = (v.k : Int))) = false := h3
          simp only [Bool.and_eq_false_iff, Bool.not_eq_false', decide_eq_true_eq] at h'
          exact h'
        refine skp (h := ?_)
        refine q_seq (h := ?_)
        refine sq (h := ?_)
        refine rg (h := ?_)
        refine wy (by first | exact ldA | exact ldEA) ?_
        refine wy mv ?_
        refine wy mv ?_
        refine clT (hc := T_nextO f hf cf A n c v.N v.mn x ((v.k : Nat) : Int) hp (K + 1) (by omega) hv.ok (hv.sub x (hC.sub x hxn))) (h := fun o4 ho4 => ?_)
        refine wy asg ?_
        refine nl (h := ?_)
        refine q_seq (h := ?_)
        refine sq (h := ?_)
        refine rg (h := ?_)
        refine wy mv ?_
        refine wy (neqN (by kernel_rfl)) ?_
        refine nl (h := ?_)
        refine q_seq (h := ?_)
        refine cd (by exact rfl) (fun h4 => ?_) (fun h4 => ?_)
        · skip
          obtain ⟨k1, rfl⟩ := Option.isSome_iff_exists.1 h4
          obtain ⟨⟨u, hu⟩, hk1⟩ := ho4
          have hXN : v.N ⊆ addN f v.N x ((v.k : Nat) : Int) (some k1) := by simp only [addN, hu]; exact fun y hy => List.mem_cons_of_mem _ hy
          have eN : addN f v.N x ((v.k : Nat) : Int) (some k1) = ⟨k1, u, some x.b, ((v.k : Nat) : Int)⟩ :: v.N := by simp only [addN, hu]
          rw [eN]
          refine rg (h := ?_)
          refine wy mv ?_
          refine wy mv ?_
          refine clT (hc := T_put (⟨k1, u, some x.b, ((v.k : Nat) : Int)⟩ :: v.N) v.ns (addM v.mn x (some k1)) ⟨k1, u, some x.b, ((v.k : Nat) : Int)⟩ b1 v.es v.c hv.cr.m hv.cr.s (by rw [List.map_cons]; exact List.nodup_cons.2 ⟨fun hm => by obtain ⟨y, hy, e⟩ := List.mem_map.1 hm; exact hk1 y hy e, hv.ok.nd⟩) (fun y hy => by
            rcases List.mem_cons.1 hy with rfl | hy
            · exact (SpBd.step ((hP.ok x (hC.sub x hxn)).bd hf) (hP.ok x (hC.sub x hxn)).k0 (nxt_top hu) _ |> fun h => by rw [nxt_step hu] at h; exact h.len hf)
            · exact (hv.ok.ok y hy).len hf) (fun y hy => List.mem_cons_of_mem _ (hv.cr.sub y hy)) List.mem_cons_self) (h := fun q hq => ?_)
          refine nl (h := ?_)
          refine q_blk_norm (h := ?_)
          refine q_seq (h := ?_)
          refine rg (h := ?_)
          refine wy addI ?_
          refine wy mv ?_
          refine nl (h := ?_)
          first
            | (refine rn (x := v) ⟨v.N, v.mn, v.ns, v.es, v.c, v.k + 1⟩ ⟨by dsimp only; omega, by
                show PlI f N mn ns side K (_ ++ (partE f side (ndE mn x) v.k ++ goE f side (ndE mn x) ((v.k : Nat) : Int))) _ _ _ _ _
                rw [hgo, List.append_nil]; exact hv⟩ (by dsimp only; omega) sbz_ slz_)
            | (refine rn (x := v) ⟨_, _, putNs v.ns ⟨k1, u, some x.b, ((v.k : Nat) : Int)⟩, q.1, q.2, v.k + 1⟩ ⟨by dsimp only; omega, by
                show PlI f N mn ns side K (_ ++ (partE f side (ndE mn x) v.k ++ goE f side (ndE mn x) ((v.k : Nat) : Int))) _ _ _ _ _
                rw [← List.append_assoc]; exact hv.point hP hC.sub hxn hp hsd hu hk1 hq⟩ (by dsimp only; omega) sbz_ slz_)
        · skip
          have ho5 : o4 = none := by simpa using h4
          subst ho5
          have hgo : goE f side (ndE mn x) ((v.k : Nat) : Int) = [] := by
            unfold goE
            rw [if_pos hsd]; simp only [show nxtS f x.s ((v.k : Nat) : Int) = none from ho4]
          refine skp (h := ?_)
          refine q_blk_norm (h := ?_)
          refine q_seq (h := ?_)
          refine rg (h := ?_)
          refine wy addI ?_
          refine wy mv ?_
          refine nl (h := ?_)
          first
            | (refine rn (x := v) ⟨v.N, v.mn, v.ns, v.es, v.c, v.k + 1⟩ ⟨by dsimp only; omega, by
                show PlI f N mn ns side K (_ ++ (partE f side (ndE mn x) v.k ++ goE f side (ndE mn x) ((v.k : Nat) : Int))) _ _ _ _ _
                rw [hgo, List.append_nil]; exact hv⟩ (by dsimp only; omega) sbz_ slz_)
            | (refine rn (x := v) ⟨_, _, putNs v.ns ⟨k1, u, some x.b, ((v.k : Nat) : Int)⟩, q.1, q.2, v.k + 1⟩ ⟨by dsimp only; omega, by
                show PlI f N mn ns side K (_ ++ (partE f side (ndE mn x) v.k ++ goE f side (ndE mn x) ((v.k : Nat) : Int))) _ _ _ _ _
                rw [← List.append_assoc]; exact hv.point hP hC.sub hxn hp hsd hu hk1 hq⟩ (by dsimp only; omega) sbz_ slz_)
    · skip
      have hk2 : v.k = 2 := by simp only [decide_eq_false_iff_not] at h1; omega
      refine et (h := ?_)
      refine q_then_exit (h := ?_)
      refine q_then_exit (h := ?_)
      refine q_blk_hit (h := ?_)
      refine q_blk_norm (h := ?_)
      refine rn (x := z) ⟨v.N, v.mn, v.ns, v.es, v.c, z.dn ++ [x], ts', tk2, some (ndKV x)⟩ ⟨by rw [List.append_assoc]; exact ((List.Perm.append_left z.dn (hts.symm)).trans hzd), htk, by rw [stepI_snoc]; rw [hk2] at hv; exact hv⟩ (by have := hts.length_eq; rw [List.length_cons] at this; dsimp only; omega) sbz_ slz_
  · skip
    have ho3 : o2 = none := by simpa using h0
    have hts : z.ts = [] := by
      rcases todo_nd hzt ho2 with ⟨_, h9, _⟩ | ⟨x, ts', e, _⟩
      · exact h9
      · rw [ho3] at e; cases e
    refine et (h := ?_)
    refine q_then_exit (h := ?_)
    refine q_then_exit (h := ?_)
    refine q_blk_hit (h := ?_)
    refine q_seq (h := ?_)
    refine sq (h := ?_)
    refine rg (h := ?_)
    refine wy mv ?_
    refine wy asg ?_
    refine nl (h := ?_)
    refine q_seq (h := ?_)
    refine rtn (h := ?_)
    refine q_ret (hR := ?_)
    exact fun w hS => ⟨⟨z.N, z.mn, z.ns, b1, z.es, z.c⟩, ⟨z.dn, by rw [hts, List.append_nil] at hzd; exact hzd, hzp⟩, rfl, hS.sub slz_⟩
end Go.Proofs.YtpmmgljndceplaaGreat

namespace Go.Proofs.YtpmmgljndceplaaGreat
open Go Go.RowKit

def RowF (N ns N' : List Nd) (y : Nd) (j : Nat) : Prop := ∃ x ∈ ns, ∃ r p, RowN N x r ∧ RowN N' y (r ++ p) ∧ y.s.first = x.s.first ∧ p.length = j
theorem RowF.mono {N ns N' N2 : List Nd} {y : Nd} {j : Nat} (h : RowF N ns N' y j) (hs : ∀ z ∈ N', z ∈ N2) : RowF N ns N2 y j := by
  obtain ⟨x, hx, r, p, h1, h2, h3⟩ := h
  exact ⟨x, hx, r, p, h1, h2.mono hs, h3⟩
structure MsI (f : Fmt) (N : List Nd) (mn : Nat → Pr) (ns : List Nd) (a K : Int) (k : Nat) (cs : List Nd) (esC : Array MapEntry) (cC : Nat) (l : List En) (N' : List Nd) (mn' : Nat → Pr) (ns' : List Nd) (es' : Array MapEntry) (c' : Nat) : Prop where
  ok : PoolOk f N' mn' (K + (k : Int))
  sub : ∀ y ∈ N, y ∈ N'
  mnE : ∀ y ∈ N, mn' y.b = mn y.b
  cr : CrIs N' ns' es' c'
  cur : CrIs N' cs esC cC
  new : ∀ y ∈ ns', (∀ z ∈ N, z.b ≠ y.b) ∧ ∀ z ∈ cs, z.b ≠ y.b
  csP : (toC mn' cs).Perm (iterC f (toC mn ns) k)
  csR : ∀ y ∈ cs, RowF N ns N' y k
  outR : ∀ y ∈ ns', ∃ j : Nat, a ≤ (j : Int) ∧ j ≤ k ∧ RowF N ns N' y j
  eqC : toC mn' ns' = normC l
section
variable {f : Fmt} {N : List Nd} {mn : Nat → Pr} {ns : List Nd} {a K : Int} {k : Nat} {cs : List Nd} {esC : Array MapEntry} {cC : Nat} {l : List En} {N' : List Nd} {mn' : Nat → Pr} {ns' : List Nd} {es' : Array MapEntry} {c' : Nat}
theorem MsI.start (hP : PoolOk f N mn K) (hC : CrIs N ns es' c') : MsI f N mn ns a K 0 ns es' c' [] N mn [] #[] 0 :=
  ⟨hP.up (by omega), fun y hy => hy, fun y hy => rfl, CrIs.nil N, hC, fun y hy => (by cases hy), .refl _, fun y hy => by
    obtain ⟨r, hr, _⟩ := (hP.ok y (hC.sub y hy)).row
    exact ⟨y, hy, r, [], hr, by rw [List.append_nil]; exact hr, rfl, rfl⟩, fun y hy => (by cases hy), rfl⟩
theorem MsI.copy (h : MsI f N mn ns a K k cs esC cC l N' mn' ns' es' c') (ha : a ≤ (k : Int)) {x : Nd} (hx : x ∈ cs) {k0 : Nat} (hk0 : ∀ z ∈ N', z.b ≠ k0) {es2 : Array MapEntry} {c2 : Nat} (hm : MapIs es2 (crE (putNs ns' ⟨k0, x.s, x.bf, x.sd⟩)) ∧ Stm es2 c2) :
    MsI f N mn ns a K k cs esC cC (l ++ [ndE mn' x]) (⟨k0, x.s, x.bf, x.sd⟩ :: N') (putM ns' (upN mn' k0 (mn' x.b)) ⟨k0, x.s, x.bf, x.sd⟩) (putNs ns' ⟨k0, x.s, x.bf, x.sd⟩) es2 c2 ∧ ∀ z ∈ cs, putM ns' (upN mn' k0 (mn' x.b)) ⟨k0, x.s, x.bf, x.sd⟩ z.b = mn' z.b := by
  have hxN := h.cur.sub x hx
  have hok := h.ok.copy (y := ⟨k0, x.s, x.bf, x.sd⟩) hxN hk0 rfl rfl rfl
  have hup : ∀ z ∈ N', z ∈ (⟨k0, x.s, x.bf, x.sd⟩ :: N' : List Nd) := fun z hz => List.mem_cons_of_mem _ hz
  have hcm : ∀ z ∈ cs, putM ns' (upN mn' k0 (mn' x.b)) ⟨k0, x.s, x.bf, x.sd⟩ z.b = mn' z.b := fun z hz => by
    rw [putM_other fun y hy e => (h.new y hy).2 z hz e.symm, upN_other (hk0 z (h.cur.sub z hz))]
  refine ⟨⟨putM_ok hok (fun y hy => hup y (h.cr.sub y hy)) List.mem_cons_self, fun y hy => hup y (h.sub y hy), fun y hy => ?_, (h.cr.up hup).put List.mem_cons_self hm, h.cur.up hup, fun y hy => ?_, ?_, fun y hy => (h.csR y hy).mono hup, fun y hy => ?_, ?_⟩, hcm⟩
  · rw [putM_other fun z hz e => (h.new z hz).1 y hy e.symm, upN_other (hk0 y (h.sub y hy)), h.mnE y hy]
  · rcases putNs_mem hy with h5 | rfl
    · exact h.new y h5
    · exact ⟨fun z hz => hk0 z (h.sub z hz), fun z hz => hk0 z (h.cur.sub z hz)⟩
  · rw [toC_congr hcm]; exact h.csP
  · rcases putNs_mem hy with h5 | rfl
    · obtain ⟨j, h6, h7, h8⟩ := h.outR y h5
      exact ⟨j, h6, h7, h8.mono hup⟩
    · obtain ⟨x0, hx0, r, p, h6, h7, h8, h9⟩ := h.csR x hx
      exact ⟨k, ha, Nat.le_refl _, x0, hx0, r, p, h6, (h7.copy (y := ⟨k0, x.s, x.bf, x.sd⟩) rfl rfl).mono hup, h8, h9⟩
  · rw [norm_snoc, ← h.eqC, put_toC h.cr.keys (fun y hy z hz e => nd_one h.ok.nd (h.cr.sub y hy) (h.cr.sub z hz) e)]
    rw [toC_congr (mn := mn') fun y hy => upN_other (hk0 y (h.cr.sub y hy))]
    congr 1
    show (x.s, ((upN mn' k0 _ k0).1, (upN mn' k0 _ k0).2, (0 : Int))) = _
    rw [upN_same]
theorem MsI.play (h : MsI f N mn ns a K k cs esC cC l N' mn' ns' es' c') {dn cs2 N2 : List Nd} {mn2 : Nat → Pr} {es2 : Array MapEntry} {c2 : Nat} (hd : dn.Perm cs) (hq : PlI f N' mn' cs (-1) (K + (k : Int)) (stepI f (toC mn' dn) (-1)) N2 mn2 cs2 es2 c2) : MsI f N mn ns a K (k + 1) cs2 es2 c2 l N2 mn2 ns' es' c' := by
  refine ⟨by rw [show K + ((k + 1 : Nat) : Int) = K + (k : Int) + 1 by omega]; exact hq.ok, fun y hy => hq.sub y (h.sub y hy), fun y hy => by rw [hq.mn y (h.sub y hy), h.mnE y hy], h.cr.up hq.sub, hq.cr, fun y hy => ⟨(h.new y hy).1, fun z hz e => hq.new z hz y (h.cr.sub y hy) e.symm⟩, ?_, fun y hy => ?_, fun y hy => ?_, ?_⟩
  · rw [hq.toC]
    show (normC _).Perm (normC (stepI f (iterC f (toC mn ns) k) (-1)))
    have hp : (toC mn' dn).Perm (iterC f (toC mn ns) k) := (hd.map _).trans h.csP
    exact norm_perm (hp.flatMap_right _)
  · obtain ⟨x, hx, h1, h2, h3, h4⟩ := hq.fr y hy
    obtain ⟨x0, hx0, r, p, h5, h6, h7, h8⟩ := h.csR x hx
    refine ⟨x0, hx0, r, p ++ [y.sd], h5, ?_, ?_, by rw [List.length_append, h8]; rfl⟩
    · rw [← List.append_assoc]
      exact .snoc (hq.sub x (h.cur.sub x hx)) h1 (h6.mono hq.sub)
    · rw [← h7, ← nxt_step h4, step_first]
  · obtain ⟨j, h1, h2, h3⟩ := h.outR y hy
    exact ⟨j, h1, by omega, h3.mono hq.sub⟩
  · rw [toC_congr fun y hy => hq.mn y (h.cr.sub y hy)]; exact h.eqC
structure RdOk (f : Fmt) (N : List Nd) (mn : Nat → Pr) (ns : List Nd) (t : Nt) (K : Int) (q : PR) : Prop where
  ok : PoolOk f q.N q.mn (K + mostN t + 1)
  sub : ∀ y ∈ N, y ∈ q.N
  mnE : ∀ y ∈ N, q.mn y.b = mn y.b
  cr : CrIs q.N q.ns q.es q.c
  eqC : (toC q.mn q.ns).Perm (afterC f (toC mn ns) t)
  fr : ∀ y ∈ q.ns, ∃ x ∈ ns, ∃ r p, RowN N x r ∧ RowN q.N y (r ++ p) ∧ y.s.first = x.s.first ∧ QOk f t y.s p
theorem rd_noted {t : Nt} (hP : PoolOk f N mn K) (hC : CrIs N ns es' c') (ht : t.kind = 1) {q : PR} {dn : List Nd} (hd : dn.Perm ns) (hq : PlI f N mn ns t.side K (stepI f (toC mn dn) t.side) q.N q.mn q.ns q.es q.c) : RdOk f N mn ns t K q := by
  refine ⟨hq.ok.up (by unfold mostN; rw [if_pos ht]; omega), hq.sub, hq.mn, hq.cr, ?_, fun y hy => ?_⟩
  · rw [hq.toC, afterC, if_pos ht]
    exact norm_perm ((hd.map (ndE mn)).flatMap_right _)
  · obtain ⟨x, hx, h1, h2, h3, h4⟩ := hq.fr y hy
    obtain ⟨r, hr, _⟩ := (hP.ok x (hC.sub x hx)).row
    refine ⟨x, hx, r, [y.sd], hr, .snoc (hq.sub x (hC.sub x hx)) h1 (hr.mono hq.sub), by rw [← nxt_step h4, step_first], ?_⟩
    unfold QOk
    rw [if_pos ht]
    exact ⟨y.sd, rfl, h3⟩
theorem rd_missed {t : Nt} {B : Nat} (h1 : t.kind = 2) (hB : t.pair.2 = (B : Int)) {b' : Nat} (hl : l.Perm (missI f (toC mn ns) t.pair.1 (B + 1))) (h : MsI f N mn ns t.pair.1 K (B + 1) cs esC cC l N' mn' ns' es' c') (hj : ∀ y ∈ ns', ∃ j : Nat, t.pair.1 ≤ (j : Int) ∧ j ≤ B ∧ RowF N ns N' y j) : RdOk f N mn ns t K ⟨N', mn', ns', b', es', c'⟩ := by
  have hne : t.kind ≠ 1 := by omega
  refine ⟨h.ok.up (by unfold mostN; rw [if_neg hne, if_pos h1]; omega), h.sub, h.mnE, h.cr, ?_, fun y hy => ?_⟩
  · show (Go.Proofs.YtpmmgljndceplaaGreat.toC mn' ns').Perm _
    rw [h.eqC, afterC, if_neg hne, if_pos h1, missC, hB, Int.toNat_natCast]
    exact norm_perm hl
  · obtain ⟨j, h3, h4, x, hx, r, p, h5, h6, h7, h8⟩ := hj y hy
    refine ⟨x, hx, r, p, h5, h6, h7, ?_⟩
    unfold QOk
    rw [if_neg hne, if_pos h1]
    omega
def tstN (f : Fmt) (t : Nt) (dn : List Nd) : List Nd := dn.filter fun x => holdS f t x.s
theorem tst_toC (t : Nt) (dn : List Nd) : toC mn (tstN f t dn) = testC f t (toC mn dn) := by
  unfold tstN testC toC
  rw [List.filter_map]; rfl
theorem tst_snoc (t : Nt) (dn : List Nd) (x : Nd) : tstN f t (dn ++ [x]) = bif holdS f t x.s then tstN f t dn ++ [x] else tstN f t dn := by
  unfold tstN
  rw [List.filter_append]
  cases hh : holdS f t x.s
  · simp [hh]
  · simp [hh]
theorem get_fresh {dn ts : List Nd} {x : Nd} (hk : (spotKs ns).Nodup) (hp : (dn ++ x :: ts).Perm ns) (t : Nt) : getN (tstN f t dn) x.s = none := by
  refine List.find?_eq_none.2 fun y hy => ?_
  have hy' : y ∈ dn := (List.mem_filter.1 hy).1
  have hn : (spotKs (dn ++ x :: ts)).Nodup := (hp.map _).nodup_iff.2 hk
  unfold spotKs at hn
  rw [List.map_append, List.nodup_append] at hn
  rw [decide_eq_true_eq]
  exact hn.2.2 y.s (List.mem_map.2 ⟨y, hy', rfl⟩) x.s (List.mem_map.2 ⟨x, List.mem_cons_self, rfl⟩)
theorem putM_none {x : Nd} (h : getN ns x.s = none) : putM ns mn x = mn := by unfold putM; rw [h]
theorem putNs_none {x : Nd} (h : getN ns x.s = none) : putNs ns x = ns ++ [x] := by unfold putNs; rw [h]
theorem rd_test {t : Nt} (hP : PoolOk f N mn K) (hC : CrIs N ns esC cC) (h1 : t.kind ≠ 1) (h2 : t.kind ≠ 2) {b' : Nat} {dn : List Nd} (hd : dn.Perm ns) (hc : CrIs N (tstN f t dn) es' c') : RdOk f N mn ns t K ⟨N, mn, tstN f t dn, b', es', c'⟩ := by
  refine ⟨hP.up (by unfold mostN; rw [if_neg h1, if_neg h2]; omega), fun y hy => hy, fun y hy => rfl, hc, ?_, fun y hy => ?_⟩
  · show (Go.Proofs.YtpmmgljndceplaaGreat.toC mn (tstN f t dn)).Perm _
    rw [tst_toC, afterC, if_neg h1, if_neg h2]
    exact (hd.map _).filter _
  · obtain ⟨h3, h4⟩ := List.mem_filter.1 hy
    have hyn := hd.subset h3
    obtain ⟨r, hr, _⟩ := (hP.ok y (hC.sub y hyn)).row
    refine ⟨y, hyn, r, [], hr, by rw [List.append_nil]; exact hr, rfl, ?_⟩
    unfold QOk
    rw [if_neg h1, if_neg h2]
    exact ⟨rfl, h4⟩
end
end Go.Proofs.YtpmmgljndceplaaGreat

namespace Go.Proofs.YtpmmgljndceplaaGreat
open Go Go.RowKit

structure MZ where
  (N : List Nd) (mn : Nat → Pr) (ns : List Nd) (es : Array MapEntry) (c : Nat) (cs : List Nd) (cb : Nat) (esC : Array MapEntry) (cC : Nat) (l : List En) (k : Nat)
structure MZ2 where
  (N : List Nd) (mn : Nat → Pr) (ns : List Nd) (es : Array MapEntry) (c : Nat) (dn ts : List Nd) (tk : List KV) (o : Option KV)
structure MZ3 where
  (es : Array MapEntry) (c : Nat) (dn ts : List Nd) (tk : List KV) (o : Option KV)
theorem T_read_noted (f : Fmt) (hf : f.Ok) (cf : Int) (A : Option Addr) (n c : Nat) (N ns : List Nd) (mn : Nat → Pr) (t : Nt) (K : Int) (hK : K ≤ 500) (hP : PoolOk f N mn K) (b : Nat) (es : Array MapEntry) (cl : Nat) (hC : CrIs N ns es cl) (ht : t.kind = 1) :
    Tr Tryz.prog 103 [.agg (cardC f cf A n c).toArray, .map (some b), t.val] [poolE 213 N mn none, roM b es cl] (RdOk f N mn ns t K) (fun q => .map (some q.b)) (fun q => [poolE 213 q.N q.mn none, .obj q.b (.map q.es q.c), roM b es cl]) := by
  refine ⟨fun w0 w R hst => ?_⟩
  refine en Tryz.func103 Tryz.ntmps103 hst (h := fun F => ?_)
  refine sq (h := ?_)
  refine rg (h := ?_)
  refine bxA (h := fun b0 => ?_)
  refine bxA (h := fun b1 => ?_)
  refine wy asg ?_
  refine nl (h := ?_)
  refine q_seq (h := ?_)
  refine sq (h := ?_)
  refine rg (h := ?_)
  refine mkm (h := fun b2 => ?_)
  refine wy asg ?_
  refine nl (h := ?_)
  refine q_seq (h := ?_)
  refine sq (h := ?_)
  refine sq (h := ?_)
  refine rg (h := ?_)
  refine wy (by first | exact fa | exact faE) ?_
  refine wy (by first | exact ld | exact ldE) ?_
  refine nl (h := ?_)
  refine q_seq (h := ?_)
  refine bk (h := ?_)
  refine sq (h := ?_)
  refine rg (h := ?_)
  refine wy eql ?_
  refine wy asg ?_
  refine nl (h := ?_)
  refine q_seq (h := ?_)
  refine cd (by exact rfl) (fun h0 => ?_) (fun h0 => ?_)
  · skip
    refine sq (h := ?_)
    refine rg (h := ?_)
    refine wy (by first | exact ldA | exact ldEA) ?_
    refine wy mv ?_
    refine wy (by first | exact fa | exact faE) ?_
    refine wy (by first | exact ld | exact ldE) ?_
    refine clT (hc := T_reader_play f hf cf A n c N ns mn t.side K (by omega) hP b es cl hC) (h := fun q hq => ?_)
    obtain ⟨dn, hd, hq⟩ := hq
    refine wy asg ?_
    refine nl (h := ?_)
    refine q_seq (h := ?_)
    refine rtn (h := ?_)
    refine q_blk_ret (h := ?_)
    refine q_then_ret (h := ?_)
    refine q_ret (hR := ?_)
    exact fun w hS => ⟨q, rd_noted hP hC ht hd hq, rfl, hS.sub slz_⟩
  · skip
    exact absurd ht (of_decide_eq_false h0)
set_option maxRecDepth 100000 in
theorem T_read_test (f : Fmt) (hf : f.Ok) (hc0 : chkF f = 0) (cf : Int) (A : Option Addr) (n c : Nat) (N ns : List Nd) (mn : Nat → Pr) (t : Nt) (K : Int) (hK : K ≤ 500) (hP : PoolOk f N mn K) (b : Nat) (es : Array MapEntry) (cl : Nat) (hC : CrIs N ns es cl) (hk1 : t.kind ≠ 1) (hk2 : t.kind ≠ 2) :
    Tr Tryz.prog 103 [.agg (cardC f cf A n c).toArray, .map (some b), t.val] [poolE 213 N mn none, roM b es cl] (RdOk f N mn ns t K) (fun q => .map (some q.b)) (fun q => [poolE 213 q.N q.mn none, .obj q.b (.map q.es q.c), roM b es cl]) := by
  refine ⟨fun w0 w R hst => ?_⟩
  refine en Tryz.func103 Tryz.ntmps103 hst (h := fun F => ?_)
  refine sq (h := ?_)
  refine rg (h := ?_)
  refine bxA (h := fun b0 => ?_)
  refine bxA (h := fun b1 => ?_)
  refine wy asg ?_
  refine nl (h := ?_)
  refine q_seq (h := ?_)
  refine sq (h := ?_)
  refine rg (h := ?_)
  refine mkm (h := fun b2 => ?_)
  refine wy asg ?_
  refine nl (h := ?_)
  refine q_seq (h := ?_)
  refine sq (h := ?_)
  refine sq (h := ?_)
  refine rg (h := ?_)
  refine wy (by first | exact fa | exact faE) ?_
  refine wy (by first | exact ld | exact ldE) ?_
  refine nl (h := ?_)
  refine q_seq (h := ?_)
  refine bk (h := ?_)
  refine sq (h := ?_)
  refine rg (h := ?_)
  refine wy eql ?_
  refine wy asg ?_
  refine nl (h := ?_)
  refine q_seq (h := ?_)
  refine cd (by exact rfl) (fun h0 => ?_) (fun h0 => ?_)
  · skip
    exact absurd (of_decide_eq_true h0) hk1
  · skip
    refine sq (h := ?_)
    refine rg (h := ?_)
    refine wy eql ?_
    refine wy asg ?_
    refine nl (h := ?_)
    refine q_seq (h := ?_)
    refine cd (by exact rfl) (fun h1 => ?_) (fun h1 => ?_)
    · skip
      exact absurd (of_decide_eq_true h1) hk2
    · skip
      refine sq (h := ?_)
      refine rg (h := ?_)
      refine wy mv ?_
      refine rngM (h := fun r1 => ?_)
      rw [cr_kv hC]
      refine nl (h := ?_)
      refine q_seq (h := ?_)
      refine bk (h := ?_)
      refine lp (X := MZ3) (I := fun z => (z.dn ++ z.ts).Perm ns ∧ z.tk.Perm (z.ts.map ndKV) ∧ CrIs N (tstN f t z.dn) z.es z.c) (le := fun z => [(3, .pointer (some ⟨b0, 0, none⟩)), (5, .pointer (some ⟨b1, 0, none⟩)), (7, .map (some b2)), (18, .pointer (some ⟨r1, 0, none⟩))]) (Le := fun z => itE r1 b es cl z.tk z.o :: .obj b2 (.map z.es z.c) :: .blk b1 101 t.cells :: .blk b0 185 (cardC f cf A n c) :: poolE 213 N mn none :: roM b es cl :: R) (μ := fun z => z.ts.length) ⟨#[], 0, [], ns, ns.map ndKV, none⟩ ⟨.refl _, .refl _, CrIs.nil N⟩ sbz_ slz_ (fun z hz => ?_)
      obtain ⟨hzd, hzt, hzc⟩ := hz
      refine sq (h := ?_)
      refine rg (h := ?_)
      refine nxtM (hs := hC.s) (h := fun o2 tk2 ho2 => ?_)
      refine wy exN ?_
      refine nl (h := ?_)
      refine q_seq (h := ?_)
      refine sq (h := ?_)
      refine cd (by exact rfl) (fun h2 => ?_) (fun h2 => ?_)
      · skip
        obtain ⟨kv, rfl⟩ := Option.isSome_iff_exists.1 h2
        rcases todo_nd hzt ho2 with ⟨e, _⟩ | ⟨x, ts', e, hts, htk⟩
        · cases e
        obtain rfl := Option.some.inj e
        have hxn : x ∈ ns := hzd.subset (List.mem_append.2 (.inr (hts.symm.subset List.mem_cons_self)))
        have hdx : (z.dn ++ x :: ts').Perm ns := ((List.Perm.append_left z.dn hts.symm)).trans hzd
        have hgf := get_fresh (f := f) hC.keys hdx t
        refine skp (h := ?_)
        refine q_seq (h := ?_)
        refine bk (h := ?_)
        refine sq (h := ?_)
        refine rg (h := ?_)
        refine wy (entM (hs := hC.s)) ?_
        refine wy ex ?_
        refine wy asg ?_
        refine nl (h := ?_)
        refine q_seq (h := ?_)
        refine sq (h := ?_)
        refine rg (h := ?_)
        refine wy (by first | exact ldA | exact ldEA) ?_
        refine wy (by first | exact ldA | exact ldEA) ?_
        refine wy mv ?_
        refine clT (hc := T_reader_holds f hf hc0 cf A n c N mn K (by omega) hP x (hC.sub x hxn) t) (h := fun _ _ => ?_)
        refine nl (h := ?_)
        refine q_seq (h := ?_)
        refine cd (by exact rfl) (fun h3 => ?_) (fun h3 => ?_)
        · skip
          have hH : holdS f t x.s = true := h3
          have hsn : tstN f t (z.dn ++ [x]) = tstN f t z.dn ++ [x] := by rw [tst_snoc, hH]; rfl
          refine rg (h := ?_)
          refine wy mv ?_
          refine wy mv ?_
          refine clT (hc := T_put N (tstN f t z.dn) mn x b2 z.es z.c hzc.m hzc.s hP.nd (fun y hy => (hP.ok y hy).len hf) hzc.sub (hC.sub x hxn)) (h := fun q hq => ?_)
          rw [putM_none hgf]
          rw [putNs_none hgf, ← hsn] at hq
          refine nl (h := ?_)
          refine q_blk_norm (h := ?_)
          first
            | (refine rn (x := z) ⟨q.1, q.2, z.dn ++ [x], ts', tk2, some (ndKV x)⟩ ⟨by rw [List.append_assoc]; exact hdx, htk, ⟨hq.1, hq.2, fun y hy => hC.sub y (hdx.subset (by rw [hsn] at hy; rcases List.mem_append.1 hy with h9 | h9; exact List.mem_append.2 (.inl (List.mem_filter.1 h9).1); exact List.mem_append.2 (.inr (by rw [List.mem_singleton.1 h9]; exact List.mem_cons_self)))), by rw [hsn, ← putNs_none hgf]; exact putNs_keys hzc.keys⟩⟩ (by have := hts.length_eq; rw [List.length_cons] at this; dsimp only; omega) sbz_ slz_)
            | (refine rn (x := z) ⟨z.es, z.c, z.dn ++ [x], ts', tk2, some (ndKV x)⟩ ⟨by rw [List.append_assoc]; exact hdx, htk, by rw [hsn]; exact hzc⟩ (by have := hts.length_eq; rw [List.length_cons] at this; dsimp only; omega) sbz_ slz_)
        · skip
          have hH : holdS f t x.s = false := h3
          have hsn : tstN f t (z.dn ++ [x]) = tstN f t z.dn := by rw [tst_snoc, hH]; rfl
          refine skp (h := ?_)
          refine q_blk_norm (h := ?_)
          first
            | (refine rn (x := z) ⟨q.1, q.2, z.dn ++ [x], ts', tk2, some (ndKV x)⟩ ⟨by rw [List.append_assoc]; exact hdx, htk, ⟨hq.1, hq.2, fun y hy => hC.sub y (hdx.subset (by rw [hsn] at hy; rcases List.mem_append.1 hy with h9 | h9; exact List.mem_append.2 (.inl (List.mem_filter.1 h9).1); exact List.mem_append.2 (.inr (by rw [List.mem_singleton.1 h9]; exact List.mem_cons_self)))), by rw [hsn, ← putNs_none hgf]; exact putNs_keys hzc.keys⟩⟩ (by have := hts.length_eq; rw [List.length_cons] at this; dsimp only; omega) sbz_ slz_)
            | (refine rn (x := z) ⟨z.es, z.c, z.dn ++ [x], ts', tk2, some (ndKV x)⟩ ⟨by rw [List.append_assoc]; exact hdx, htk, by rw [hsn]; exact hzc⟩ (by have := hts.length_eq; rw [List.length_cons] at this; dsimp only; omega) sbz_ slz_)
      · skip
        have ho3 : o2 = none := by simpa using h2
        have hts : z.ts = [] := by
          rcases todo_nd hzt ho2 with ⟨_, h9, _⟩ | ⟨x, ts', e, _⟩
          · exact h9
          · rw [ho3] at e; cases e
        refine et (h := ?_)
        refine q_then_exit (h := ?_)
        refine q_then_exit (h := ?_)
        refine q_blk_hit (h := ?_)
        refine q_blk_norm (h := ?_)
        refine q_seq (h := ?_)
        refine sq (h := ?_)
        refine rg (h := ?_)
        refine wy mv ?_
        refine wy asg ?_
        refine nl (h := ?_)
        refine q_seq (h := ?_)
        refine rtn (h := ?_)
        refine q_ret (hR := ?_)
        exact fun w hS => ⟨⟨N, mn, tstN f t z.dn, b2, z.es, z.c⟩, rd_test hP hC hk1 hk2 (by rw [hts, List.append_nil] at hzd; exact hzd) hzc, rfl, hS.sub slz_⟩
theorem ndE_eq {mn mn' : Nat → Pr} {x : Nd} (h : mn' x.b = mn x.b) : ndE mn' x = ndE mn x := by unfold ndE; rw [h]
theorem toC_snoc (mn : Nat → Pr) (dn : List Nd) (x : Nd) : toC mn (dn ++ [x]) = toC mn dn ++ [ndE mn x] := by unfold toC; rw [List.map_append]; rfl
set_option maxRecDepth 100000 in
set_option maxHeartbeats 1000000 in
theorem T_read_missed (f : Fmt) (hf : f.Ok) (cf : Int) (A : Option Addr) (n c : Nat) (N ns : List Nd) (mn : Nat → Pr) (t : Nt) (K : Int) (hK : K ≤ 500) (hP : PoolOk f N mn K) (b : Nat) (es : Array MapEntry) (cl : Nat) (hC : CrIs N ns es cl) (ht : t.kind = 2) (B : Nat) (hB : t.pair.2 = (B : Int)) (hB3 : B ≤ 30) :
    Tr Tryz.prog 103 [.agg (cardC f cf A n c).toArray, .map (some b), t.val] [poolE 213 N mn none, roM b es cl] (RdOk f N mn ns t K) (fun q => .map (some q.b)) (fun q => [poolE 213 q.N q.mn none, .obj q.b (.map q.es q.c), roM b es cl]) := by
  refine ⟨fun w0 w R hst => ?_⟩
  refine en Tryz.func103 Tryz.ntmps103 hst (h := fun F => ?_)
  refine sq (h := ?_)
  refine rg (h := ?_)
  refine bxA (h := fun b0 => ?_)
  refine bxA (h := fun b1 => ?_)
  refine wy asg ?_
  refine nl (h := ?_)
  refine q_seq (h := ?_)
  refine sq (h := ?_)
  refine rg (h := ?_)
  refine mkm (h := fun b2 => ?_)
  refine wy asg ?_
  refine nl (h := ?_)
  refine q_seq (h := ?_)
  refine sq (h := ?_)
  refine sq (h := ?_)
  refine rg (h := ?_)
  refine wy (by first | exact fa | exact faE) ?_
  refine wy (by first | exact ld | exact ldE) ?_
  refine nl (h := ?_)
  refine q_seq (h := ?_)
  refine bk (h := ?_)
  refine sq (h := ?_)
  refine rg (h := ?_)
  refine wy eql ?_
  refine wy asg ?_
  refine nl (h := ?_)
  refine q_seq (h := ?_)
  refine cd (by exact rfl) (fun h0 => ?_) (fun h0 => ?_)
  · skip
    exact absurd (of_decide_eq_true h0) (by omega)
  · skip
    refine sq (h := ?_)
    refine rg (h := ?_)
    refine wy eql ?_
    refine wy asg ?_
    refine nl (h := ?_)
    refine q_seq (h := ?_)
    refine cd (by exact rfl) (fun h1 => ?_) (fun h1 => ?_)
    · skip
      refine sq (h := ?_)
      refine rg (h := ?_)
      refine wy (by first | exact fa | exact faE) ?_
      refine wy (by first | exact fa | exact faE) ?_
      refine wy (by first | exact ld | exact ldE) ?_
      refine wy (addI (hb := by omega)) ?_
      refine wy mv ?_
      refine nl (h := ?_)
      refine q_seq (h := ?_)
      refine bk (h := ?_)
      refine WC.dupM (b := b) (es := es) (c := cl) atz_ ?_
      refine lp (X := MZ) (I := fun z => z.k ≤ B + 1 ∧ MsI f N mn ns t.pair.1 K z.k z.cs z.esC z.cC z.l z.N z.mn z.ns z.es z.c ∧ z.l.Perm (missI f (toC mn ns) t.pair.1 z.k) ∧ ∀ y ∈ z.ns, ∃ j : Nat, t.pair.1 ≤ (j : Int) ∧ j + 1 ≤ z.k ∧ RowF N ns z.N y j) (le := fun z => [(1, .map (some z.cb)), (3, .pointer (some ⟨b0, 0, none⟩)), (5, .pointer (some ⟨b1, 0, none⟩)), (7, .map (some b2)), (42, .int .i64 (t.pair.2 + 1)), (43, .int .i64 z.k)]) (Le := fun z => .obj b2 (.map z.es z.c) :: .blk b1 101 t.cells :: .blk b0 185 (cardC f cf A n c) :: poolE 213 z.N z.mn none :: roM z.cb z.esC z.cC :: roM b es cl :: R) (μ := fun z => B + 1 - z.k) ⟨N, mn, [], #[], 0, ns, b, es, cl, [], 0⟩ ⟨Nat.zero_le _, MsI.start hP hC, .refl _, fun y hy => (by cases hy)⟩ sbz_ slz_ (fun z hz => ?_)
      obtain ⟨hzk, hzm, hzl, hzj⟩ := hz
      refine sq (h := ?_)
      refine rg (h := ?_)
      refine wy lss ?_
      refine nl (h := ?_)
      refine q_seq (h := ?_)
      refine sq (h := ?_)
      refine cd (by exact rfl) (fun h2 => ?_) (fun h2 => ?_)
      · skip
        have hkB : z.k ≤ B := by simp only [decide_eq_true_eq] at h2; omega
        refine skp (h := ?_)
        refine q_seq (h := ?_)
        refine sq (h := ?_)
        refine bk (h := ?_)
        refine sq (h := ?_)
        refine rg (h := ?_)
        refine wy mv ?_
        refine wy asg ?_
        refine nl (h := ?_)
        refine q_seq (h := ?_)
        refine sq (h := ?_)
        refine sq (h := ?_)
        refine rg (h := ?_)
        refine wy mv ?_
        refine wy (by first | exact fa | exact faE) ?_
        refine wy (by first | exact fa | exact faE) ?_
        refine wy (by first | exact ld | exact ldE) ?_
        refine wy geq ?_
        refine nl (h := ?_)
        refine q_seq (h := ?_)
        refine cd (by exact rfl) (fun h3 => ?_) (fun h3 => ?_)
        · skip
          have hak : t.pair.1 ≤ (z.k : Int) := of_decide_eq_true h3
          refine sq (h := ?_)
          refine rg (h := ?_)
          refine wy mv ?_
          refine rngM (b := z.cb) (es := z.esC) (c := z.cC) (h := fun r1 => ?_)
          rw [cr_kv hzm.cur]
          refine nl (h := ?_)
          refine q_seq (h := ?_)
          refine bk (h := ?_)
          refine lp (X := MZ2) (I := fun v => MsI f N mn ns t.pair.1 K z.k z.cs z.esC z.cC (z.l ++ toC z.mn v.dn) v.N v.mn v.ns v.es v.c ∧ (∀ y ∈ z.cs, v.mn y.b = z.mn y.b) ∧ (v.dn ++ v.ts).Perm z.cs ∧ v.tk.Perm (v.ts.map ndKV)) (le := fun v => [(1, .map (some z.cb)), (3, .pointer (some ⟨b0, 0, none⟩)), (5, .pointer (some ⟨b1, 0, none⟩)), (7, .map (some b2)), (42, .int .i64 (t.pair.2 + 1)), (43, .int .i64 z.k), (52, .pointer (some ⟨r1, 0, none⟩))]) (Le := fun v => itE r1 z.cb z.esC z.cC v.tk v.o :: .obj b2 (.map v.es v.c) :: .blk b1 101 t.cells :: .blk b0 185 (cardC f cf A n c) :: poolE 213 v.N v.mn none :: roM z.cb z.esC z.cC :: roM b es cl :: R) (μ := fun v => v.ts.length) ⟨z.N, z.mn, z.ns, z.es, z.c, [], z.cs, z.cs.map ndKV, none⟩ ⟨by show MsI _ _ _ _ _ _ _ _ _ _ (z.l ++ []) _ _ _ _ _; rw [List.append_nil]; exact hzm, fun y hy => rfl, .refl _, .refl _⟩ sbz_ slz_ (fun v hv0 => ?_)
          obtain ⟨hvm, hvc, hvd, hvt⟩ := hv0
          refine sq (h := ?_)
          refine rg (h := ?_)
          refine nxtM (b := z.cb) (es := z.esC) (c := z.cC) (hs := hzm.cur.s) (h := fun o2 tk2 ho2 => ?_)
          refine wy exN ?_
          refine nl (h := ?_)
          refine q_seq (h := ?_)
          refine sq (h := ?_)
          refine cd (by exact rfl) (fun h4 => ?_) (fun h4 => ?_)
          · skip
            obtain ⟨kv, rfl⟩ := Option.isSome_iff_exists.1 h4
            rcases todo_nd hvt ho2 with ⟨e, _⟩ | ⟨x, ts', e, hts, htk⟩
            · cases e
            obtain rfl := Option.some.inj e
            have hxn : x ∈ z.cs := hvd.subset (List.mem_append.2 (.inr (hts.symm.subset List.mem_cons_self)))
            refine skp (h := ?_)
            refine q_seq (h := ?_)
            refine bk (h := ?_)
            refine sq (h := ?_)
            refine rg (h := ?_)
            refine wy (entM (b := z.cb) (es := z.esC) (c := z.cC) (hs := hzm.cur.s)) ?_
            refine wy ex ?_
            refine wy asg ?_
            refine nl (h := ?_)
            refine q_seq (h := ?_)
            refine sq (h := ?_)
            refine rg (h := ?_)
            refine wy mv ?_
            refine wy nck ?_
            refine wy (ldQA (hy := hvm.cur.sub x hxn)) ?_
            refine al (h := fun b3 => ?_)
            first | refine stA (h := ?_) | refine stEA (h := ?_)
            refine nl (h := ?_)
            refine q_seq (h := ?_)
            refine WC.pNew ⟨b3, x.s, x.bf, x.sd⟩ (v.mn x.b) .here atz_ (fun hne => ?_)
            have hcp := hvm.ok.copy (y := ⟨b3, x.s, x.bf, x.sd⟩) (hvm.cur.sub x hxn) hne rfl rfl rfl
            refine rg (h := ?_)
            refine wy mv ?_
            refine clT (hc := T_put (⟨b3, x.s, x.bf, x.sd⟩ :: v.N) v.ns (upN v.mn b3 (v.mn x.b)) ⟨b3, x.s, x.bf, x.sd⟩ b2 v.es v.c hvm.cr.m hvm.cr.s hcp.nd (fun y hy => (hcp.ok y hy).len hf) (fun y hy => List.mem_cons_of_mem _ (hvm.cr.sub y hy)) List.mem_cons_self) (h := fun q hq => ?_)
            have hcy := hvm.copy hak hxn hne hq
            refine nl (h := ?_)
            refine q_blk_norm (h := ?_)
            refine rn (x := v) ⟨⟨b3, x.s, x.bf, x.sd⟩ :: v.N, putM v.ns (upN v.mn b3 (v.mn x.b)) ⟨b3, x.s, x.bf, x.sd⟩, putNs v.ns ⟨b3, x.s, x.bf, x.sd⟩, q.1, q.2, v.dn ++ [x], ts', tk2, some (ndKV x)⟩ ⟨by rw [toC_snoc, ← List.append_assoc, ← ndE_eq (hvc x hxn)]; exact hcy.1, fun y hy => (hcy.2 y hy).trans (hvc y hy), by rw [List.append_assoc]; exact ((List.Perm.append_left v.dn hts.symm)).trans hvd, htk⟩ (by have := hts.length_eq; rw [List.length_cons] at this; dsimp only; omega) sbz_ slz_
          · skip
            have ho3 : o2 = none := by simpa using h4
            have hts : v.ts = [] := by
              rcases todo_nd hvt ho2 with ⟨_, h9, _⟩ | ⟨x, ts', e, _⟩
              · exact h9
              · rw [ho3] at e; cases e
            have hdn : v.dn.Perm z.cs := by rw [hts, List.append_nil] at hvd; exact hvd
            have hyl : (z.l ++ toC z.mn v.dn).Perm (missI f (toC mn ns) t.pair.1 (z.k + 1)) := by
              rw [missI, if_pos hak]
              exact hzl.append ((hdn.map (ndE z.mn)).trans hzm.csP)
            refine et (h := ?_)
            refine q_then_exit (h := ?_)
            refine q_then_exit (h := ?_)
            refine q_blk_hit (h := ?_)
            refine q_seq (h := ?_)
            refine rg (h := ?_)
            refine wy (by first | exact ldA | exact ldEA) ?_
            refine wy mv ?_
            first
              | refine clT (hc := T_reader_play f hf cf A n c v.N z.cs v.mn (-1) (K + (z.k : Int)) (by omega) hvm.ok z.cb z.esC z.cC hvm.cur) (h := fun q hq => ?_)
              | refine clT (hc := T_reader_play f hf cf A n c z.N z.cs z.mn (-1) (K + (z.k : Int)) (by omega) hzm.ok z.cb z.esC z.cC hzm.cur) (h := fun q hq => ?_)
            obtain ⟨dn2, hd2, hq⟩ := hq
            refine wy asg ?_
            refine WL.toRoM (b := q.b) (es := q.es) (c := q.c) atz_ ?_
            refine nl (h := ?_)
            refine q_blk_norm (h := ?_)
            refine q_seq (h := ?_)
            refine rg (h := ?_)
            refine wy addI ?_
            refine wy mv ?_
            refine nl (h := ?_)
            first
              | (refine rn (x := z) ⟨q.N, q.mn, v.ns, v.es, v.c, q.ns, q.b, q.es, q.c, z.l ++ toC z.mn v.dn, z.k + 1⟩ ⟨by dsimp only; omega, hvm.play hd2 hq, hyl, fun y hy => by
                  obtain ⟨j, h7, h8, h9⟩ := hvm.outR y hy
                  exact ⟨j, h7, by dsimp only; omega, h9.mono hq.sub⟩⟩ (by dsimp only; omega) sbz_ slz_)
              | (refine rn (x := z) ⟨q.N, q.mn, z.ns, z.es, z.c, q.ns, q.b, q.es, q.c, z.l, z.k + 1⟩ ⟨by dsimp only; omega, hzm.play hd2 hq, hnl, fun y hy => by
                  obtain ⟨j, h7, h8, h9⟩ := hzj y hy
                  exact ⟨j, h7, by dsimp only; omega, h9.mono hq.sub⟩⟩ (by dsimp only; omega) sbz_ slz_)
        · skip
          have hak : ¬ t.pair.1 ≤ (z.k : Int) := of_decide_eq_false h3
          have hnl : (z.l).Perm (missI f (toC mn ns) t.pair.1 (z.k + 1)) := by
            rw [missI, if_neg hak, List.append_nil]; exact hzl
          refine skp (h := ?_)
          refine q_seq (h := ?_)
          refine rg (h := ?_)
          refine wy (by first | exact ldA | exact ldEA) ?_
          refine wy mv ?_
          first
            | refine clT (hc := T_reader_play f hf cf A n c v.N z.cs v.mn (-1) (K + (z.k : Int)) (by omega) hvm.ok z.cb z.esC z.cC hvm.cur) (h := fun q hq => ?_)
            | refine clT (hc := T_reader_play f hf cf A n c z.N z.cs z.mn (-1) (K + (z.k : Int)) (by omega) hzm.ok z.cb z.esC z.cC hzm.cur) (h := fun q hq => ?_)
          obtain ⟨dn2, hd2, hq⟩ := hq
          refine wy asg ?_
          refine WL.toRoM (b := q.b) (es := q.es) (c := q.c) atz_ ?_
          refine nl (h := ?_)
          refine q_blk_norm (h := ?_)
          refine q_seq (h := ?_)
          refine rg (h := ?_)
          refine wy addI ?_
          refine wy mv ?_
          refine nl (h := ?_)
          first
            | (refine rn (x := z) ⟨q.N, q.mn, v.ns, v.es, v.c, q.ns, q.b, q.es, q.c, z.l ++ toC z.mn v.dn, z.k + 1⟩ ⟨by dsimp only; omega, hvm.play hd2 hq, hyl, fun y hy => by
                obtain ⟨j, h7, h8, h9⟩ := hvm.outR y hy
                exact ⟨j, h7, by dsimp only; omega, h9.mono hq.sub⟩⟩ (by dsimp only; omega) sbz_ slz_)
            | (refine rn (x := z) ⟨q.N, q.mn, z.ns, z.es, z.c, q.ns, q.b, q.es, q.c, z.l, z.k + 1⟩ ⟨by dsimp only; omega, hzm.play hd2 hq, hnl, fun y hy => by
                obtain ⟨j, h7, h8, h9⟩ := hzj y hy
                exact ⟨j, h7, by dsimp only; omega, h9.mono hq.sub⟩⟩ (by dsimp only; omega) sbz_ slz_)
      · skip
        have hkB : z.k = B + 1 := by simp only [decide_eq_false_iff_not] at h2; omega
        refine et (h := ?_)
        refine q_then_exit (h := ?_)
        refine q_then_exit (h := ?_)
        refine q_blk_hit (h := ?_)
        refine q_blk_norm (h := ?_)
        refine q_seq (h := ?_)
        refine sq (h := ?_)
        refine rg (h := ?_)
        refine wy mv ?_
        refine wy asg ?_
        refine nl (h := ?_)
        refine q_seq (h := ?_)
        refine rtn (h := ?_)
        refine q_ret (hR := ?_)
        rw [hkB] at hzm hzl
        exact fun w hS => ⟨⟨z.N, z.mn, z.ns, b2, z.es, z.c⟩, rd_missed ht hB hzl hzm (fun y hy => by obtain ⟨j, h7, h8, h9⟩ := hzj y hy; exact ⟨j, h7, by omega, h9⟩), rfl, hS.sub slz_⟩
    · skip
      exact absurd ht (of_decide_eq_false h1)
end Go.Proofs.YtpmmgljndceplaaGreat

namespace Go.Proofs.YtpmmgljndceplaaGreat
open Go Go.RowKit

def sdV (x : Nt) (least : Int) : Bool := wi x.side least 1 && decide (x.pair = (0, 0))
def prV (x : Nt) (most : Int) : Bool := decide (x.side = 0) && wi x.pair.1 0 most && wi x.pair.2 0 most
def mkV (x : Nt) : Bool := bif decide (x.kind = 1) then sdV x (-1) else bif decide (x.kind = 2) then prV x 30 && decide (x.pair.1 ≤ x.pair.2) else
  bif decide (x.kind = 3) || (decide (x.kind = 4) || decide (x.kind = 5)) then prV x 40 else bif decide (x.kind = 6) || decide (x.kind = 7) then sdV x 0 else false
theorem T_isMark1 (x : Nt) (least : Int) (b : Nat) : Tr Tryz.prog 134 [.int .i64 least, .pointer (some ⟨b, 0, none⟩)] [.blk b 101 x.cells] (fun _ : Unit => True) (fun _ => .bool (sdV x least)) (fun _ => [.blk b 101 x.cells]) := by
  refine ⟨fun w0 w R hst => ?_⟩
  have zP : decide ([x.pair.1, x.pair.2] = [(0 : Int), 0]) = decide (x.pair = (0, 0)) := by rw [pair_eq2]; exact dec_pr x.pair (0, 0)
  refine en Tryz.func134 Tryz.ntmps134 hst (h := fun F => ?_)
  refine sq (h := ?_)
  refine rg (h := ?_)
  refine wy asg ?_
  refine nl (h := ?_)
  refine q_seq (h := ?_)
  refine sq (h := ?_)
  refine rg (h := ?_)
  refine wy (by first | exact fa | exact faE) ?_
  refine wy (by first | exact ld | exact ldE) ?_
  refine wy mv ?_
  refine cl0 (hc := fun w hS => C_card_within ..) (h := ?_)
  refine wy mv ?_
  apply brAnd 5 8 13 (by exact rfl)
  · intro hb0
    refine un (h := ?_)
    refine wy (by first | exact fa | exact faE) ?_
    refine un (h := ?_)
    refine wy (by first | exact ldA | exact ldEA) ?_
    refine un (h := ?_)
    refine wy bd ?_
    refine un (h := ?_)
    refine wy eqlT ?_
    refine wy (by first | exact pkT | exact pkF) ?_
    exact mg (by repeat (first | exact trivial | refine ⟨rfl, ?_⟩ | refine ⟨by rw [hb0]; rfl, ?_⟩)) slz_
  · intro hb0
    repeat (first | refine un (h := ?_) | refine sk (h := ?_) | refine WL.y (hy := pkF) (h := ?_) | refine WL.y (hy := pkT) (h := ?_))
    exact mg (by repeat (first | exact trivial | refine ⟨rfl, ?_⟩ | refine ⟨by rw [hb0]; rfl, ?_⟩)) slz_
  refine wy asg ?_
  refine nl (h := ?_)
  refine q_seq (h := ?_)
  refine rtn (h := ?_)
  refine q_ret (hR := ?_)
  exact fun w hS => ⟨(), trivial, by rw [sdV, ← zP]; rfl, hS⟩
theorem T_isMark2 (x : Nt) (most : Int) (b : Nat) : Tr Tryz.prog 135 [.int .i64 most, .pointer (some ⟨b, 0, none⟩)] [.blk b 101 x.cells] (fun _ : Unit => True) (fun _ => .bool (prV x most)) (fun _ => [.blk b 101 x.cells]) := by
  refine ⟨fun w0 w R hst => ?_⟩
  refine en Tryz.func135 Tryz.ntmps135 hst (h := fun F => ?_)
  refine sq (h := ?_)
  refine rg (h := ?_)
  refine wy asg ?_
  refine nl (h := ?_)
  refine q_seq (h := ?_)
  refine sq (h := ?_)
  refine rg (h := ?_)
  refine wy (by first | exact fa | exact faE) ?_
  refine wy (by first | exact ld | exact ldE) ?_
  refine wy eql ?_
  refine wy mv ?_
  apply brAnd 6 7 13 (by exact rfl)
  · intro hb0
    refine un (h := ?_)
    refine wy (by first | exact fa | exact faE) ?_
    refine un (h := ?_)
    refine wy (by first | exact fa | exact faE) ?_
    refine un (h := ?_)
    refine wy (by first | exact ld | exact ldE) ?_
    refine un (h := ?_)
    refine wy mv ?_
    refine un (h := ?_)
    refine cl0 (hc := fun w hS => C_card_within ..) (h := ?_)
    refine wy (by first | exact pkT | exact pkF) ?_
    exact mg (by repeat (first | exact trivial | refine ⟨rfl, ?_⟩ | refine ⟨by rw [hb0]; rfl, ?_⟩)) slz_
  · intro hb0
    repeat (first | refine un (h := ?_) | refine sk (h := ?_) | refine WL.y (hy := pkF) (h := ?_) | refine WL.y (hy := pkT) (h := ?_))
    exact mg (by repeat (first | exact trivial | refine ⟨rfl, ?_⟩ | refine ⟨by rw [hb0]; rfl, ?_⟩)) slz_
  refine wy mv ?_
  apply brAnd 6 14 20 (by exact rfl)
  · intro hb1
    refine un (h := ?_)
    refine wy (by first | exact fa | exact faE) ?_
    refine un (h := ?_)
    refine wy (by first | exact fa | exact faE) ?_
    refine un (h := ?_)
    refine wy (by first | exact ld | exact ldE) ?_
    refine un (h := ?_)
    refine wy mv ?_
    refine un (h := ?_)
    refine cl0 (hc := fun w hS => C_card_within ..) (h := ?_)
    refine wy (by first | exact pkT | exact pkF) ?_
    exact mg (by repeat (first | exact trivial | refine ⟨rfl, ?_⟩ | refine ⟨by rw [hb1]; rfl, ?_⟩)) slz_
  · intro hb1
    repeat (first | refine un (h := ?_) | refine sk (h := ?_) | refine WL.y (hy := pkF) (h := ?_) | refine WL.y (hy := pkT) (h := ?_))
    exact mg (by repeat (first | exact trivial | refine ⟨rfl, ?_⟩ | refine ⟨by rw [hb1]; rfl, ?_⟩)) slz_
  refine wy asg ?_
  refine nl (h := ?_)
  refine q_seq (h := ?_)
  refine rtn (h := ?_)
  refine q_ret (hR := ?_)
  exact fun w hS => ⟨(), trivial, rfl, hS⟩
theorem C_card_isMark (x : Nt) (w : World) : C0 Tryz.prog 124 [x.val] w (.bool (mkV x)) := by
  refine ⟨en Tryz.func124 Tryz.ntmps124 (St.init w) (h := fun F => ?_)⟩
  refine sq (h := ?_)
  refine rg (h := ?_)
  refine bxA (h := fun b0 => ?_)
  refine wy asg ?_
  refine nl (h := ?_)
  refine q_seq (h := ?_)
  refine sq (h := ?_)
  refine rg (h := ?_)
  refine wy mkf ?_
  refine wy asg ?_
  refine nl (h := ?_)
  refine q_seq (h := ?_)
  refine sq (h := ?_)
  refine rg (h := ?_)
  refine wy mkf ?_
  refine wy asg ?_
  refine nl (h := ?_)
  refine q_seq (h := ?_)
  refine sq (h := ?_)
  refine sq (h := ?_)
  refine rg (h := ?_)
  refine wy (by first | exact fa | exact faE) ?_
  refine wy (by first | exact ld | exact ldE) ?_
  refine nl (h := ?_)
  refine q_seq (h := ?_)
  refine bk (h := ?_)
  refine sq (h := ?_)
  refine rg (h := ?_)
  refine wy eql ?_
  refine wy asg ?_
  refine nl (h := ?_)
  refine q_seq (h := ?_)
  refine cd (by exact rfl) (fun h0 => ?_) (fun h0 => ?_)
  · skip
    refine sq (h := ?_)
    refine rg (h := ?_)
    refine wy mv ?_
    refine clfT inferInstance (fi := []) (cap := [.pointer (some ⟨b0, 0, none⟩)]) (by exact rfl) (by repeat (first | exact Evs.nil | (apply Evs.cons; exact rfl))) (T_isMark1 x (-1) b0) rfl (by repeat (first | exact Spl.nil | (apply Spl.cons; (repeat (first | exact At.here | apply At.there))))) (h := fun _ _ => ?_)
    refine wy asg ?_
    refine nl (h := ?_)
    refine q_seq (h := ?_)
    refine rtn (h := ?_)
    refine q_blk_ret (h := ?_)
    refine q_then_ret (h := ?_)
    refine q_ret (hR := ?_)
    refine fun w hS => ⟨?_, hS.sub slz_⟩
    clear hS
    simp_all [mkV, resV]
  · skip
    refine sq (h := ?_)
    refine rg (h := ?_)
    refine wy eql ?_
    refine wy asg ?_
    refine nl (h := ?_)
    refine q_seq (h := ?_)
    refine cd (by exact rfl) (fun h1 => ?_) (fun h1 => ?_)
    · skip
      refine sq (h := ?_)
      refine rg (h := ?_)
      refine wy mv ?_
      refine clfT inferInstance (fi := []) (cap := [.pointer (some ⟨b0, 0, none⟩)]) (by exact rfl) (by repeat (first | exact Evs.nil | (apply Evs.cons; exact rfl))) (T_isMark2 x 30 b0) rfl (by repeat (first | exact Spl.nil | (apply Spl.cons; (repeat (first | exact At.here | apply At.there))))) (h := fun _ _ => ?_)
      refine wy mv ?_
      apply brAnd 8 17 25 (by exact rfl)
      · intro hb2
        refine un (h := ?_)
        refine wy (by first | exact fa | exact faE) ?_
        refine un (h := ?_)
        refine wy (by first | exact fa | exact faE) ?_
        refine un (h := ?_)
        refine wy (by first | exact ld | exact ldE) ?_
        refine un (h := ?_)
        refine wy (by first | exact fa | exact faE) ?_
        refine un (h := ?_)
        refine wy (by first | exact fa | exact faE) ?_
        refine un (h := ?_)
        refine wy (by first | exact ld | exact ldE) ?_
        refine un (h := ?_)
        refine wy leq ?_
        refine wy (by first | exact pkT | exact pkF) ?_
        exact mg (by repeat (first | exact trivial | refine ⟨rfl, ?_⟩ | refine ⟨by rw [hb2]; rfl, ?_⟩)) slz_
      · intro hb2
        repeat (first | refine un (h := ?_) | refine sk (h := ?_) | refine WL.y (hy := pkF) (h := ?_) | refine WL.y (hy := pkT) (h := ?_))
        exact mg (by repeat (first | exact trivial | refine ⟨rfl, ?_⟩ | refine ⟨by rw [hb2]; rfl, ?_⟩)) slz_
      refine wy asg ?_
      refine nl (h := ?_)
      refine q_seq (h := ?_)
      refine rtn (h := ?_)
      refine q_blk_ret (h := ?_)
      refine q_then_ret (h := ?_)
      refine q_ret (hR := ?_)
      refine fun w hS => ⟨?_, hS.sub slz_⟩
      clear hS
      simp_all [mkV, resV]
    · skip
      refine sq (h := ?_)
      refine sq (h := ?_)
      refine rg (h := ?_)
      refine wy eql ?_
      refine wy asg ?_
      refine nl (h := ?_)
      refine q_seq (h := ?_)
      refine cd (by exact rfl) (fun h3 => ?_) (fun h3 => ?_)
      · skip
        refine skp (h := ?_)
        refine q_seq (h := ?_)
        refine cd (by exact rfl) (fun h4 => ?_) (fun h4 => ?_)
        · skip
          refine sq (h := ?_)
          refine rg (h := ?_)
          refine wy mv ?_
          refine clfT inferInstance (fi := []) (cap := [.pointer (some ⟨b0, 0, none⟩)]) (by exact rfl) (by repeat (first | exact Evs.nil | (apply Evs.cons; exact rfl))) (T_isMark2 x 40 b0) rfl (by repeat (first | exact Spl.nil | (apply Spl.cons; (repeat (first | exact At.here | apply At.there))))) (h := fun _ _ => ?_)
          refine wy asg ?_
          refine nl (h := ?_)
          refine q_seq (h := ?_)
          refine rtn (h := ?_)
          refine q_blk_ret (h := ?_)
          refine q_then_ret (h := ?_)
          refine q_ret (hR := ?_)
          refine fun w hS => ⟨?_, hS.sub slz_⟩
          clear hS
          simp_all [mkV, resV]
        · skip
          refine sq (h := ?_)
          refine sq (h := ?_)
          refine rg (h := ?_)
          refine wy eql ?_
          refine wy asg ?_
          refine nl (h := ?_)
          refine q_seq (h := ?_)
          refine cd (by exact rfl) (fun h5 => ?_) (fun h5 => ?_)
          · skip
            refine skp (h := ?_)
            refine q_seq (h := ?_)
            refine cd (by exact rfl) (fun h6 => ?_) (fun h6 => ?_)
            · skip
              refine sq (h := ?_)
              refine rg (h := ?_)
              refine wy mv ?_
              refine clfT inferInstance (fi := []) (cap := [.pointer (some ⟨b0, 0, none⟩)]) (by exact rfl) (by repeat (first | exact Evs.nil | (apply Evs.cons; exact rfl))) (T_isMark1 x 0 b0) rfl (by repeat (first | exact Spl.nil | (apply Spl.cons; (repeat (first | exact At.here | apply At.there))))) (h := fun _ _ => ?_)
              refine wy asg ?_
              refine nl (h := ?_)
              refine q_seq (h := ?_)
              refine rtn (h := ?_)
              refine q_blk_ret (h := ?_)
              refine q_then_ret (h := ?_)
              refine q_ret (hR := ?_)
              refine fun w hS => ⟨?_, hS.sub slz_⟩
              clear hS
              simp_all [mkV, resV]
            · skip
              refine skp (h := ?_)
              refine q_blk_norm (h := ?_)
              refine q_seq (h := ?_)
              refine sq (h := ?_)
              refine rg (h := ?_)
              refine wy asg ?_
              refine nl (h := ?_)
              refine q_seq (h := ?_)
              refine rtn (h := ?_)
              refine q_ret (hR := ?_)
              refine fun w hS => ⟨?_, hS.sub slz_⟩
              clear hS
              simp_all [mkV, resV]
          · skip
            refine rg (h := ?_)
            refine wy eql ?_
            refine wy asg ?_
            refine nl (h := ?_)
            refine q_seq (h := ?_)
            refine cd (by exact rfl) (fun h7 => ?_) (fun h7 => ?_)
            · skip
              refine sq (h := ?_)
              refine rg (h := ?_)
              refine wy mv ?_
              refine clfT inferInstance (fi := []) (cap := [.pointer (some ⟨b0, 0, none⟩)]) (by exact rfl) (by repeat (first | exact Evs.nil | (apply Evs.cons; exact rfl))) (T_isMark1 x 0 b0) rfl (by repeat (first | exact Spl.nil | (apply Spl.cons; (repeat (first | exact At.here | apply At.there))))) (h := fun _ _ => ?_)
              refine wy asg ?_
              refine nl (h := ?_)
              refine q_seq (h := ?_)
              refine rtn (h := ?_)
              refine q_blk_ret (h := ?_)
              refine q_then_ret (h := ?_)
              refine q_ret (hR := ?_)
              refine fun w hS => ⟨?_, hS.sub slz_⟩
              clear hS
              simp_all [mkV, resV]
            · skip
              refine skp (h := ?_)
              refine q_blk_norm (h := ?_)
              refine q_seq (h := ?_)
              refine sq (h := ?_)
              refine rg (h := ?_)
              refine wy asg ?_
              refine nl (h := ?_)
              refine q_seq (h := ?_)
              refine rtn (h := ?_)
              refine q_ret (hR := ?_)
              refine fun w hS => ⟨?_, hS.sub slz_⟩
              clear hS
              simp_all [mkV, resV]
      · skip
        refine sq (h := ?_)
        refine rg (h := ?_)
        refine wy eql ?_
        refine wy asg ?_
        refine nl (h := ?_)
        refine q_seq (h := ?_)
        refine cd (by exact rfl) (fun h8 => ?_) (fun h8 => ?_)
        · skip
          refine skp (h := ?_)
          refine q_seq (h := ?_)
          refine cd (by exact rfl) (fun h9 => ?_) (fun h9 => ?_)
          · skip
            refine sq (h := ?_)
            refine rg (h := ?_)
            refine wy mv ?_
            refine clfT inferInstance (fi := []) (cap := [.pointer (some ⟨b0, 0, none⟩)]) (by exact rfl) (by repeat (first | exact Evs.nil | (apply Evs.cons; exact rfl))) (T_isMark2 x 40 b0) rfl (by repeat (first | exact Spl.nil | (apply Spl.cons; (repeat (first | exact At.here | apply At.there))))) (h := fun _ _ => ?_)
            refine wy asg ?_
            refine nl (h := ?_)
            refine q_seq (h := ?_)
            refine rtn (h := ?_)
            refine q_blk_ret (h := ?_)
            refine q_then_ret (h := ?_)
            refine q_ret (hR := ?_)
            refine fun w hS => ⟨?_, hS.sub slz_⟩
            clear hS
            simp_all [mkV, resV]
          · skip
            refine sq (h := ?_)
            refine sq (h := ?_)
            refine rg (h := ?_)
            refine wy eql ?_
            refine wy asg ?_
            refine nl (h := ?_)
            refine q_seq (h := ?_)
            refine cd (by exact rfl) (fun h10 => ?_) (fun h10 => ?_)
            · skip
              refine skp (h := ?_)
              refine q_seq (h := ?_)
              refine cd (by exact rfl) (fun h11 => ?_) (fun h11 => ?_)
              · skip
                refine sq (h := ?_)
                refine rg (h := ?_)
                refine wy mv ?_
                refine clfT inferInstance (fi := []) (cap := [.pointer (some ⟨b0, 0, none⟩)]) (by exact rfl) (by repeat (first | exact Evs.nil | (apply Evs.cons; exact rfl))) (T_isMark1 x 0 b0) rfl (by repeat (first | exact Spl.nil | (apply Spl.cons; (repeat (first | exact At.here | apply At.there))))) (h := fun _ _ => ?_)
                refine wy asg ?_
                refine nl (h := ?_)
                refine q_seq (h := ?_)
                refine rtn (h := ?_)
                refine q_blk_ret (h := ?_)
                refine q_then_ret (h := ?_)
                refine q_ret (hR := ?_)
                refine fun w hS => ⟨?_, hS.sub slz_⟩
                clear hS
                simp_all [mkV, resV]
              · skip
                refine skp (h := ?_)
                refine q_blk_norm (h := ?_)
                refine q_seq (h := ?_)
                refine sq (h := ?_)
                refine rg (h := ?_)
                refine wy asg ?_
                refine nl (h := ?_)
                refine q_seq (h := ?_)
                refine rtn (h := ?_)
                refine q_ret (hR := ?_)
                refine fun w hS => ⟨?_, hS.sub slz_⟩
                clear hS
                simp_all [mkV, resV]
            · skip
              refine rg (h := ?_)
              refine wy eql ?_
              refine wy asg ?_
              refine nl (h := ?_)
              refine q_seq (h := ?_)
              refine cd (by exact rfl) (fun h12 => ?_) (fun h12 => ?_)
              · skip
                refine sq (h := ?_)
                refine rg (h := ?_)
                refine wy mv ?_
                refine clfT inferInstance (fi := []) (cap := [.pointer (some ⟨b0, 0, none⟩)]) (by exact rfl) (by repeat (first | exact Evs.nil | (apply Evs.cons; exact rfl))) (T_isMark1 x 0 b0) rfl (by repeat (first | exact Spl.nil | (apply Spl.cons; (repeat (first | exact At.here | apply At.there))))) (h := fun _ _ => ?_)
                refine wy asg ?_
                refine nl (h := ?_)
                refine q_seq (h := ?_)
                refine rtn (h := ?_)
                refine q_blk_ret (h := ?_)
                refine q_then_ret (h := ?_)
                refine q_ret (hR := ?_)
                refine fun w hS => ⟨?_, hS.sub slz_⟩
                clear hS
                simp_all [mkV, resV]
              · skip
                refine skp (h := ?_)
                refine q_blk_norm (h := ?_)
                refine q_seq (h := ?_)
                refine sq (h := ?_)
                refine rg (h := ?_)
                refine wy asg ?_
                refine nl (h := ?_)
                refine q_seq (h := ?_)
                refine rtn (h := ?_)
                refine q_ret (hR := ?_)
                refine fun w hS => ⟨?_, hS.sub slz_⟩
                clear hS
                simp_all [mkV, resV]
        · skip
          refine rg (h := ?_)
          refine wy eql ?_
          refine wy asg ?_
          refine nl (h := ?_)
          refine q_seq (h := ?_)
          refine cd (by exact rfl) (fun h13 => ?_) (fun h13 => ?_)
          · skip
            refine sq (h := ?_)
            refine rg (h := ?_)
            refine wy mv ?_
            refine clfT inferInstance (fi := []) (cap := [.pointer (some ⟨b0, 0, none⟩)]) (by exact rfl) (by repeat (first | exact Evs.nil | (apply Evs.cons; exact rfl))) (T_isMark2 x 40 b0) rfl (by repeat (first | exact Spl.nil | (apply Spl.cons; (repeat (first | exact At.here | apply At.there))))) (h := fun _ _ => ?_)
            refine wy asg ?_
            refine nl (h := ?_)
            refine q_seq (h := ?_)
            refine rtn (h := ?_)
            refine q_blk_ret (h := ?_)
            refine q_then_ret (h := ?_)
            refine q_ret (hR := ?_)
            refine fun w hS => ⟨?_, hS.sub slz_⟩
            clear hS
            simp_all [mkV, resV]
          · skip
            refine sq (h := ?_)
            refine sq (h := ?_)
            refine rg (h := ?_)
            refine wy eql ?_
            refine wy asg ?_
            refine nl (h := ?_)
            refine q_seq (h := ?_)
            refine cd (by exact rfl) (fun h14 => ?_) (fun h14 => ?_)
            · skip
              refine skp (h := ?_)
              refine q_seq (h := ?_)
              refine cd (by exact rfl) (fun h15 => ?_) (fun h15 => ?_)
              · skip
                refine sq (h := ?_)
                refine rg (h := ?_)
                refine wy mv ?_
                refine clfT inferInstance (fi := []) (cap := [.pointer (some ⟨b0, 0, none⟩)]) (by exact rfl) (by repeat (first | exact Evs.nil | (apply Evs.cons; exact rfl))) (T_isMark1 x 0 b0) rfl (by repeat (first | exact Spl.nil | (apply Spl.cons; (repeat (first | exact At.here | apply At.there))))) (h := fun _ _ => ?_)
                refine wy asg ?_
                refine nl (h := ?_)
                refine q_seq (h := ?_)
                refine rtn (h := ?_)
                refine q_blk_ret (h := ?_)
                refine q_then_ret (h := ?_)
                refine q_ret (hR := ?_)
                refine fun w hS => ⟨?_, hS.sub slz_⟩
                clear hS
                simp_all [mkV, resV]
              · skip
                refine skp (h := ?_)
                refine q_blk_norm (h := ?_)
                refine q_seq (h := ?_)
                refine sq (h := ?_)
                refine rg (h := ?_)
                refine wy asg ?_
                refine nl (h := ?_)
                refine q_seq (h := ?_)
                refine rtn (h := ?_)
                refine q_ret (hR := ?_)
                refine fun w hS => ⟨?_, hS.sub slz_⟩
                clear hS
                simp_all [mkV, resV]
            · skip
              refine rg (h := ?_)
              refine wy eql ?_
              refine wy asg ?_
              refine nl (h := ?_)
              refine q_seq (h := ?_)
              refine cd (by exact rfl) (fun h16 => ?_) (fun h16 => ?_)
              · skip
                refine sq (h := ?_)
                refine rg (h := ?_)
                refine wy mv ?_
                refine clfT inferInstance (fi := []) (cap := [.pointer (some ⟨b0, 0, none⟩)]) (by exact rfl) (by repeat (first | exact Evs.nil | (apply Evs.cons; exact rfl))) (T_isMark1 x 0 b0) rfl (by repeat (first | exact Spl.nil | (apply Spl.cons; (repeat (first | exact At.here | apply At.there))))) (h := fun _ _ => ?_)
                refine wy asg ?_
                refine nl (h := ?_)
                refine q_seq (h := ?_)
                refine rtn (h := ?_)
                refine q_blk_ret (h := ?_)
                refine q_then_ret (h := ?_)
                refine q_ret (hR := ?_)
                refine fun w hS => ⟨?_, hS.sub slz_⟩
                clear hS
                simp_all [mkV, resV]
              · skip
                refine skp (h := ?_)
                refine q_blk_norm (h := ?_)
                refine q_seq (h := ?_)
                refine sq (h := ?_)
                refine rg (h := ?_)
                refine wy asg ?_
                refine nl (h := ?_)
                refine q_seq (h := ?_)
                refine rtn (h := ?_)
                refine q_ret (hR := ?_)
                refine fun w hS => ⟨?_, hS.sub slz_⟩
                clear hS
                simp_all [mkV, resV]
def encN (xs : List Nt) : List (List Value) := xs.map Nt.cells
theorem encN_len (xs : List Nt) : (encN xs).length = xs.length := List.length_map _
theorem encN_at {xs : List Nt} {k : Nat} {x : Nt} (h : xs[k]? = some x) : (encN xs)[k]? = some x.cells := by unfold encN; rw [List.getElem?_map, h]; rfl
def headB (f : Fmt) (first : Int) (n : Nat) : Bool := !decide (chkF f = 0) || !wi first (-1) 1 || decide ((30 : Int) < n)
def chkC (f : Fmt) (first : Int) (xs : List Nt) : Int := bif headB f first xs.length then 30 else bif !xs.all mkV then 30 else bif decide (600 < mostS xs) then 30 else 0
theorem mostS_succ {xs : List Nt} {k : Nat} {x : Nt} (h : xs[k]? = some x) : mostS (xs.take (k + 1)) = mostS (xs.take k) + mostN x := by
  unfold mostS
  rw [List.take_add_one, h, List.map_append, List.sum_append]
  show _ + (mostN x + 0) = _
  omega
theorem mk_kind {x : Nt} (h : mkV x = true) : (1 ≤ x.kind ∧ x.kind ≤ 7) ∧ (x.kind = 1 → -1 ≤ x.side ∧ x.side ≤ 1 ∧ x.pair = (0, 0)) ∧ (x.kind = 2 → x.side = 0 ∧ 0 ≤ x.pair.1 ∧ x.pair.1 ≤ x.pair.2 ∧ x.pair.2 ≤ 30) ∧ (3 ≤ x.kind → x.kind ≤ 5 → x.side = 0 ∧ (0 ≤ x.pair.1 ∧ x.pair.1 ≤ 40) ∧ 0 ≤ x.pair.2 ∧ x.pair.2 ≤ 40) ∧ (6 ≤ x.kind → 0 ≤ x.side ∧ x.side ≤ 1 ∧ x.pair = (0, 0)) := by
  unfold mkV at h
  by_cases h1 : x.kind = 1
  · rw [decide_eq_true h1, cond_true, sdV, Bool.and_eq_true, wi_iff, decide_eq_true_eq] at h
    exact ⟨by omega, fun _ => ⟨h.1.1, h.1.2, h.2⟩, by omega, by omega, by omega⟩
  rw [decide_eq_false h1, cond_false] at h
  by_cases h2 : x.kind = 2
  · rw [decide_eq_true h2, cond_true, prV, Bool.and_eq_true, Bool.and_eq_true, Bool.and_eq_true, wi_iff, wi_iff, decide_eq_true_eq, decide_eq_true_eq] at h
    exact ⟨by omega, by omega, fun _ => by omega, by omega, by omega⟩
  rw [decide_eq_false h2, cond_false] at h
  by_cases h3 : (decide (x.kind = 3) || (decide (x.kind = 4) || decide (x.kind = 5))) = true
  · rw [h3, cond_true, prV, Bool.and_eq_true, Bool.and_eq_true, wi_iff, wi_iff, decide_eq_true_eq] at h
    simp only [Bool.or_eq_true, decide_eq_true_eq] at h3
    exact ⟨by omega, by omega, by omega, fun _ _ => by omega, by omega⟩
  rw [Bool.not_eq_true] at h3
  rw [h3, cond_false] at h
  by_cases h4 : (decide (x.kind = 6) || decide (x.kind = 7)) = true
  · rw [h4, cond_true, sdV, Bool.and_eq_true, wi_iff, decide_eq_true_eq] at h
    simp only [Bool.or_eq_true, decide_eq_true_eq] at h4
    exact ⟨by omega, by omega, by omega, by omega, fun _ => ⟨h.1.1, h.1.2, h.2⟩⟩
  · rw [Bool.not_eq_true] at h4
    rw [h4, cond_false] at h
    cases h
theorem most_bd {x : Nt} (h : mkV x = true) : 0 ≤ mostN x ∧ mostN x ≤ 30 := by
  have hk := mk_kind h
  unfold mostN
  by_cases h1 : x.kind = 1
  · rw [if_pos h1]; omega
  · rw [if_neg h1]
    by_cases h2 : x.kind = 2
    · rw [if_pos h2]; have := hk.2.2.1 h2; omega
    · rw [if_neg h2]; omega
structure CKZ where
  (k : Nat)
theorem all_take {xs : List Nt} {k : Nat} {x : Nt} (h : xs[k]? = some x) : (xs.take (k + 1)).all mkV = ((xs.take k).all mkV && mkV x) := by
  rw [List.take_add_one, h, List.all_append]
  simp
theorem all_bad {xs : List Nt} {k : Nat} (h : (xs.take k).all mkV = false) : xs.all mkV = false := by
  cases hh : xs.all mkV
  · rfl
  · rw [List.all_eq_true] at hh
    have : (xs.take k).all mkV = true := List.all_eq_true.2 fun x hx => hh x (List.mem_of_mem_take hx)
    rw [this] at h; cases h
theorem C_card_Check (f : Fmt) (first : Int) (xs : List Nt) (A : Option Addr) (n c : Nat) (w : World) (h : Rd w A 4 n (encN xs)) (hn : n ≤ 9223372036854775807) : C0 Tryz.prog 101 [.agg (cardC f first A n c).toArray] w (.int .i64 (chkC f first xs)) := by
  have hlen : xs.length = n := by have := h.len; rwa [encN_len] at this
  refine ⟨en Tryz.func101 Tryz.ntmps101 ((St.init w).share (e := .ro A 4 n (encN xs)) h rfl rfl rfl) (h := fun F => ?_)⟩
  refine sq (h := ?_)
  refine rg (h := ?_)
  refine bxA (h := fun b0 => ?_)
  refine wy asg ?_
  refine nl (h := ?_)
  refine q_seq (h := ?_)
  refine sq (h := ?_)
  refine sq (h := ?_)
  refine rg (h := ?_)
  refine wy (by first | exact fa | exact faE) ?_
  refine wy (by first | exact ldA | exact ldEA) ?_
  refine cl0 (hc := fun w hS => C_score_Check _ w) (h := ?_)
  refine wy neq ?_
  refine wy mv ?_
  apply brOr 5 10 15 (by exact rfl)
  · intro hb0
    refine un (h := ?_)
    refine wy (by first | exact fa | exact faE) ?_
    refine un (h := ?_)
    refine wy (by first | exact ld | exact ldE) ?_
    refine un (h := ?_)
    refine cl0 (hc := fun w hS => C_card_within ..) (h := ?_)
    refine un (h := ?_)
    refine wy notB ?_
    refine wy (by first | exact pkT | exact pkF) ?_
    exact mg (by repeat (first | exact trivial | refine ⟨rfl, ?_⟩ | refine ⟨by rw [hb0]; rfl, ?_⟩)) slz_
  · intro hb0
    repeat (first | refine un (h := ?_) | refine sk (h := ?_) | refine WL.y (hy := pkF) (h := ?_) | refine WL.y (hy := pkT) (h := ?_))
    exact mg (by repeat (first | exact trivial | refine ⟨rfl, ?_⟩ | refine ⟨by rw [hb0]; rfl, ?_⟩)) slz_
  refine wy mv ?_
  apply brOr 5 16 21 (by exact rfl)
  · intro hb1
    refine un (h := ?_)
    refine wy (by first | exact fa | exact faE) ?_
    refine un (h := ?_)
    refine wy (by first | exact ld | exact ldE) ?_
    refine un (h := ?_)
    refine wy lenS ?_
    refine un (h := ?_)
    refine wy gtr ?_
    refine wy (by first | exact pkT | exact pkF) ?_
    exact mg (by repeat (first | exact trivial | refine ⟨rfl, ?_⟩ | refine ⟨by rw [hb1]; rfl, ?_⟩)) slz_
  · intro hb1
    repeat (first | refine un (h := ?_) | refine sk (h := ?_) | refine WL.y (hy := pkF) (h := ?_) | refine WL.y (hy := pkT) (h := ?_))
    exact mg (by repeat (first | exact trivial | refine ⟨rfl, ?_⟩ | refine ⟨by rw [hb1]; rfl, ?_⟩)) slz_
  refine nl (h := ?_)
  refine q_seq (h := ?_)
  refine cd (by exact rfl) (fun h2 => ?_) (fun h2 => ?_)
  · skip
    have hE : chkC f first xs = 30 := by
      have h' : headB f first xs.length = true := by rw [hlen]; exact h2
      rw [chkC, h']; rfl
    refine sq (h := ?_)
    refine rg (h := ?_)
    refine wy asg ?_
    refine nl (h := ?_)
    refine q_seq (h := ?_)
    refine rtn (h := ?_)
    refine q_then_ret (h := ?_)
    refine q_ret (hR := ?_)
    rw [hE]
    exact fun w hS => ⟨rfl, hS.sub slz_⟩
  · skip
    have hH : headB f first xs.length = false := by rw [hlen]; exact h2
    have hn30 : n ≤ 30 := by
      have h' := hH
      unfold headB at h'
      simp only [Bool.or_eq_false_iff, decide_eq_false_iff_not] at h'
      omega
    refine skp (h := ?_)
    refine q_seq (h := ?_)
    refine sq (h := ?_)
    refine rg (h := ?_)
    refine wy asg ?_
    refine WL.cut (by repeat (first | exact Cut.nil | apply Cut.hit | apply Cut.miss (by exact rfl))) ?_
    refine nl (h := ?_)
    refine q_seq (h := ?_)
    refine sq (h := ?_)
    refine sq (h := ?_)
    refine rg (h := ?_)
    refine wy (by first | exact fa | exact faE) ?_
    refine wy (by first | exact ld | exact ldE) ?_
    refine wy lenS ?_
    refine wy mv ?_
    refine nl (h := ?_)
    refine q_seq (h := ?_)
    refine bk (h := ?_)
    refine lp (X := CKZ) (I := fun z => z.k ≤ n ∧ (xs.take z.k).all mkV = true ∧ 0 ≤ mostS (xs.take z.k) ∧ mostS (xs.take z.k) ≤ 30 * (z.k : Int)) (le := fun z => [(3, .int .i64 (mostS (xs.take z.k))), (23, .slice A n c), (24, .int .i64 n), (25, .int .i64 z.k)]) (Le := fun z => [.ro A 4 n (encN xs)]) (μ := fun z => n - z.k) ⟨0⟩ ⟨Nat.zero_le _, rfl, by exact Int.le_refl _, by exact Int.le_refl _⟩ sbz_ slz_ (fun z hz => ?_)
    obtain ⟨hzk, hza, hz0, hzm⟩ := hz
    refine sq (h := ?_)
    refine rg (h := ?_)
    refine wy lss ?_
    refine nl (h := ?_)
    refine q_seq (h := ?_)
    refine sq (h := ?_)
    refine cd (by exact rfl) (fun h3 => ?_) (fun h3 => ?_)
    · skip
      have hkn : z.k < n := by simp only [decide_eq_true_eq] at h3; omega
      obtain ⟨x, hx⟩ : ∃ x, xs[z.k]? = some x := ⟨_, List.getElem?_eq_getElem (by omega)⟩
      have hxe := encN_at hx
      have hms := mostS_succ hx
      have hal := all_take hx
      refine skp (h := ?_)
      refine q_seq (h := ?_)
      refine sq (h := ?_)
      refine bk (h := ?_)
      refine sq (h := ?_)
      refine rg (h := ?_)
      refine wy (ix (hb := by omega)) ?_
      refine wy (ldEA (hk := hxe)) ?_
      refine al (h := fun b1 => ?_)
      first | refine stA (h := ?_) | refine stEA (h := ?_)
      refine nl (h := ?_)
      refine q_seq (h := ?_)
      refine sq (h := ?_)
      refine sq (h := ?_)
      refine rg (h := ?_)
      refine wy (by first | exact ldA | exact ldEA) ?_
      refine cl0 (hc := fun w hS => C_card_isMark _ w) (h := ?_)
      refine wy notB ?_
      refine nl (h := ?_)
      refine q_seq (h := ?_)
      refine cd (by exact rfl) (fun h4 => ?_) (fun h4 => ?_)
      · skip
        have hE : chkC f first xs = 30 := by
          have h1 : (!mkV x) = true := h4
          have h2 : xs.all mkV = false := all_bad (k := z.k + 1) (by rw [hal, show mkV x = false by simpa using h1, Bool.and_false])
          rw [chkC, hH, h2]; rfl
        refine sq (h := ?_)
        refine rg (h := ?_)
        refine wy asg ?_
        refine nl (h := ?_)
        refine q_seq (h := ?_)
        refine rtn (h := ?_)
        refine q_then_ret (h := ?_)
        refine q_blk_ret (h := ?_)
        refine q_then_ret (h := ?_)
        refine q_then_ret (h := ?_)
        refine q_blk_ret (h := ?_)
        refine q_then_ret (h := ?_)
        refine q_ret (hR := ?_)
        rw [hE]
        exact fun w hS => ⟨rfl, hS.sub slz_⟩
      · skip
        have hmk : mkV x = true := by simpa using h4
        have hmb := most_bd hmk
        have hal2 : (xs.take (z.k + 1)).all mkV = true := by rw [hal, hza, hmk]; rfl
        refine skp (h := ?_)
        refine q_seq (h := ?_)
        refine sq (h := ?_)
        refine rg (h := ?_)
        refine wy (by first | exact fa | exact faE) ?_
        refine wy (by first | exact ld | exact ldE) ?_
        refine nl (h := ?_)
        refine q_seq (h := ?_)
        refine bk (h := ?_)
        refine sq (h := ?_)
        refine rg (h := ?_)
        refine wy eql ?_
        refine wy asg ?_
        refine nl (h := ?_)
        refine q_seq (h := ?_)
        refine cd (by exact rfl) (fun h5 => ?_) (fun h5 => ?_)
        · skip
          have hmo : mostN x = 1 := by unfold mostN; rw [if_pos (of_decide_eq_true h5)]
          refine rg (h := ?_)
          refine wy mv ?_
          refine wy (addI (hb := by omega)) ?_
          refine wy asg ?_
          refine WL.cut (by repeat (first | exact Cut.nil | apply Cut.hit | apply Cut.miss (by exact rfl))) ?_
          refine nl (h := ?_)
          refine q_blk_norm (h := ?_)
          refine q_blk_norm (h := ?_)
          refine q_seq (h := ?_)
          refine rg (h := ?_)
          refine wy addI ?_
          refine wy mv ?_
          refine nl (h := ?_)
          refine rn (x := z) ⟨z.k + 1⟩ ⟨by dsimp only; omega, hal2, by dsimp only; omega, by dsimp only; omega⟩ (by dsimp only; omega) (by dsimp only; rw [hms, hmo]; (try rw [Int.add_zero]); repeat (first | exact trivial | refine ⟨rfl, ?_⟩)) slz_
        · skip
          have hk1 : ¬ x.kind = 1 := of_decide_eq_false h5
          refine sq (h := ?_)
          refine rg (h := ?_)
          refine wy eql ?_
          refine wy asg ?_
          refine nl (h := ?_)
          refine q_seq (h := ?_)
          refine cd (by exact rfl) (fun h6 => ?_) (fun h6 => ?_)
          · skip
            have hmo : mostN x = x.pair.2 := by unfold mostN; rw [if_neg hk1, if_pos (of_decide_eq_true h6)]
            have hpb : 0 ≤ x.pair.2 ∧ x.pair.2 ≤ 30 := by rw [← hmo]; exact hmb
            refine rg (h := ?_)
            refine wy mv ?_
            refine wy (by first | exact fa | exact faE) ?_
            refine wy (by first | exact fa | exact faE) ?_
            refine wy (by first | exact ld | exact ldE) ?_
            refine wy (addI (hb := by omega)) ?_
            refine wy asg ?_
            refine WL.cut (by repeat (first | exact Cut.nil | apply Cut.hit | apply Cut.miss (by exact rfl))) ?_
            refine nl (h := ?_)
            refine q_blk_norm (h := ?_)
            refine q_blk_norm (h := ?_)
            refine q_seq (h := ?_)
            refine rg (h := ?_)
            refine wy addI ?_
            refine wy mv ?_
            refine nl (h := ?_)
            refine rn (x := z) ⟨z.k + 1⟩ ⟨by dsimp only; omega, hal2, by dsimp only; omega, by dsimp only; omega⟩ (by dsimp only; omega) (by dsimp only; rw [hms, hmo]; (try rw [Int.add_zero]); repeat (first | exact trivial | refine ⟨rfl, ?_⟩)) slz_
          · skip
            have hmo : mostN x = 0 := by unfold mostN; rw [if_neg hk1, if_neg (of_decide_eq_false h6)]
            refine skp (h := ?_)
            refine q_blk_norm (h := ?_)
            refine q_blk_norm (h := ?_)
            refine q_seq (h := ?_)
            refine rg (h := ?_)
            refine wy addI ?_
            refine wy mv ?_
            refine nl (h := ?_)
            refine rn (x := z) ⟨z.k + 1⟩ ⟨by dsimp only; omega, hal2, by dsimp only; omega, by dsimp only; omega⟩ (by dsimp only; omega) (by dsimp only; rw [hms, hmo]; (try rw [Int.add_zero]); repeat (first | exact trivial | refine ⟨rfl, ?_⟩)) slz_
    · skip
      have hkn : z.k = n := by simp only [decide_eq_false_iff_not] at h3; omega
      have htk : xs.take z.k = xs := by rw [hkn, ← hlen, List.take_length]
      rw [htk] at hza hzm
      refine et (h := ?_)
      refine q_then_exit (h := ?_)
      refine q_then_exit (h := ?_)
      refine q_blk_hit (h := ?_)
      refine q_seq (h := ?_)
      refine sq (h := ?_)
      refine sq (h := ?_)
      refine rg (h := ?_)
      refine wy mv ?_
      refine wy gtr ?_
      refine nl (h := ?_)
      refine q_seq (h := ?_)
      refine cd (by exact rfl) (fun h7 => ?_) (fun h7 => ?_)
      · skip
        have h8 := h7
        rw [htk] at h8
        have hE : chkC f first xs = 30 := by rw [chkC, hH, hza, show decide (600 < mostS xs) = true from h8]; rfl
        refine sq (h := ?_)
        refine rg (h := ?_)
        refine wy asg ?_
        refine nl (h := ?_)
        refine q_seq (h := ?_)
        refine rtn (h := ?_)
        refine q_then_ret (h := ?_)
        refine q_ret (hR := ?_)
        rw [hE]
        exact fun w hS => ⟨rfl, hS.sub slz_⟩
      · skip
        have h8 := h7
        rw [htk] at h8
        have hE : chkC f first xs = 0 := by rw [chkC, hH, hza, show decide (600 < mostS xs) = false from h8]; rfl
        refine skp (h := ?_)
        refine q_seq (h := ?_)
        refine sq (h := ?_)
        refine rg (h := ?_)
        refine wy asg ?_
        refine nl (h := ?_)
        refine q_seq (h := ?_)
        refine rtn (h := ?_)
        refine q_ret (hR := ?_)
        rw [hE]
        exact fun w hS => ⟨rfl, hS.sub slz_⟩
end Go.Proofs.YtpmmgljndceplaaGreat

namespace Go.Proofs.YtpmmgljndceplaaGreat
open Go Go.RowKit

abbrev noteSp : List Sp := [.int .i64, .int .i64, .int .i64, .int .i64]
abbrev cardSp : List Sp := [.int .i64, .int .i64, .bool, .int .i64, .int .i64, .int .i64, .int .i64, .int .i64, .int .i64, .bool, .int .i64, .sl noteSp]
theorem note_cells {w : World} {cs : List Value} (h : Mts w noteSp cs) : ∃ x : Nt, cs = x.cells := by
  obtain ⟨a1, cs, rfl, _, h⟩ := Mts.int_inv h
  obtain ⟨a2, cs, rfl, _, h⟩ := h.int_inv
  obtain ⟨a3, cs, rfl, _, h⟩ := h.int_inv
  obtain ⟨a4, cs, rfl, _, h⟩ := h.int_inv
  rw [h.nil_inv]
  exact ⟨⟨a1, a2, (a3, a4)⟩, rfl⟩
theorem card_open {w : World} {cs : List Value} (h : Mts w cardSp cs) : ∃ (f : Fmt) (z : Int) (l : List Nt) (A : Option Addr) (n c : Nat), Value.agg cs.toArray = .agg (cardC f z A n c).toArray ∧ Rd w A 4 n (encN l) ∧ n ≤ c ∧ n ≤ 9223372036854775807 := by
  obtain ⟨a1, cs, rfl, _, h⟩ := Mts.int_inv h
  obtain ⟨a2, cs, rfl, _, h⟩ := h.int_inv
  obtain ⟨a3, cs, rfl, h3⟩ := h.bool_inv
  obtain ⟨a4, cs, rfl, _, h⟩ := h3.int_inv
  obtain ⟨a5, cs, rfl, _, h⟩ := h.int_inv
  obtain ⟨a6, cs, rfl, _, h⟩ := h.int_inv
  obtain ⟨a7, cs, rfl, _, h⟩ := h.int_inv
  obtain ⟨a8, cs, rfl, _, h⟩ := h.int_inv
  obtain ⟨a9, cs, rfl, _, h⟩ := h.int_inv
  obtain ⟨a10, cs, rfl, h10⟩ := h.bool_inv
  obtain ⟨z, cs, rfl, _, h⟩ := h10.int_inv
  obtain ⟨A, n, c, xs, cs, rfl, hr, hn, hx, h⟩ := h.sl_invc
  rw [h.nil_inv]
  obtain ⟨ys, rfl⟩ := map_of (f := Nt.cells) (xs := xs) fun x hxm => note_cells (hx x hxm)
  exact ⟨⟨a1, a2, a3, a4, a5, a6, a7, a8, a9, a10⟩, z, ys, A, n, c, rfl, hr, by omega, by omega⟩
end Go.Proofs.YtpmmgljndceplaaGreat

namespace Go.Proofs.YtpmmgljndceplaaGreat
open Go Go.RowKit

def TieOk (f : Fmt) (s : Pr) : Prop := 1 ≤ f.games ∧ (s.1 = -1 ∨ s.1 = 0 ∨ s.1 = f.games - 1 ∨ s.1 = f.games)
theorem tie_ok {f : Fmt} (hf : f.Ok) (won : Pr) : TieOk f (setV f won) := by
  have h1 := hf.g0
  have h2 := hf.t
  have h3 := hf.lt
  unfold setV
  cases decide (won.1 = f.sets - 1) && decide (won.2 = f.sets - 1)
  · exact ⟨h1, h2⟩
  · exact ⟨h1, h3⟩
def OpenP (f : Fmt) (s : Pr) (a b : Int) : Prop := 0 ≤ a ∧ 0 ≤ b ∧ ((a < f.games ∧ b < f.games) ∨ (a - b ≤ 1 ∧ b - a ≤ 1)) ∧ (s.1 < 0 ∨ a < s.1 ∨ b < s.1 ∨ (a = s.1 ∧ b = s.1))
instance (f : Fmt) (s : Pr) (a b : Int) : Decidable (OpenP f s a b) := by unfold OpenP; infer_instance
def EndP (f : Fmt) (s : Pr) (a b : Int) (k : Int) : Bool := brksV s (a, b) || decide (0 ≤ leadsV (addV (a, b) k) f.games 2)
theorem end0 (f : Fmt) (s : Pr) (a b : Int) : EndP f s a b 0 = true ↔ (a = s.1 ∧ b = s.1) ∨ (f.games ≤ a + 1 ∧ 2 ≤ a + 1 - b) ∨ (f.games ≤ b ∧ 2 ≤ b - (a + 1)) := by
  unfold EndP brksV leadsV addV
  simp only [decide_true, cond_true, Bool.or_eq_true, Bool.and_eq_true, decide_eq_true_eq]
  by_cases h1 : f.games ≤ a + 1 ∧ 2 ≤ a + 1 - b
  · simp [h1.1, h1.2]
  · have e1 : (decide (f.games ≤ a + 1) && decide (2 ≤ a + 1 - b)) = false := by simpa using h1
    rw [e1]
    by_cases h2 : f.games ≤ b ∧ 2 ≤ b - (a + 1)
    · simp [h2.1, h2.2]
    · have e2 : (decide (f.games ≤ b) && decide (2 ≤ b - (a + 1))) = false := by simpa using h2
      rw [e2]
      simp; omega
theorem end1 (f : Fmt) (s : Pr) (a b : Int) : EndP f s a b 1 = true ↔ (a = s.1 ∧ b = s.1) ∨ (f.games ≤ a ∧ 2 ≤ a - (b + 1)) ∨ (f.games ≤ b + 1 ∧ 2 ≤ b + 1 - a) := by
  unfold EndP brksV leadsV addV
  rw [show decide ((1 : Int) = 0) = false from rfl]
  simp only [cond_false, Bool.or_eq_true, Bool.and_eq_true, decide_eq_true_eq]
  by_cases h1 : f.games ≤ a ∧ 2 ≤ a - (b + 1)
  · simp [h1.1, h1.2]
  · have e1 : (decide (f.games ≤ a) && decide (2 ≤ a - (b + 1))) = false := by simpa using h1
    rw [e1]
    by_cases h2 : f.games ≤ b + 1 ∧ 2 ≤ b + 1 - a
    · simp [h2.1, h2.2]
    · have e2 : (decide (f.games ≤ b + 1) && decide (2 ≤ b + 1 - a)) = false := by simpa using h2
      rw [e2]
      simp; omega
theorem end0_no (f : Fmt) (s : Pr) (a b : Int) : EndP f s a b 0 = false ↔ ¬ ((a = s.1 ∧ b = s.1) ∨ (f.games ≤ a + 1 ∧ 2 ≤ a + 1 - b) ∨ (f.games ≤ b ∧ 2 ≤ b - (a + 1))) := by
  rw [← end0, Bool.not_eq_true]
theorem end1_no (f : Fmt) (s : Pr) (a b : Int) : EndP f s a b 1 = false ↔ ¬ ((a = s.1 ∧ b = s.1) ∨ (f.games ≤ a ∧ 2 ≤ a - (b + 1)) ∨ (f.games ≤ b + 1 ∧ 2 ≤ b + 1 - a)) := by
  rw [← end1, Bool.not_eq_true]
def expT (f : Fmt) (s : Pr) (a b : Int) : Option Bool :=
  if a = 0 ∧ b = 0 then some false else if OpenP f s (a - 1) b then some (EndP f s (a - 1) b 0) else if OpenP f s a (b - 1) then some (EndP f s a (b - 1) 1) else none
section
variable {f : Fmt} {s : Pr}
theorem ends_agree (h : TieOk f s) {a b : Int} (h1 : OpenP f s (a - 1) b) (h2 : OpenP f s a (b - 1)) : EndP f s (a - 1) b 0 = EndP f s a (b - 1) 1 := by
  rw [Bool.eq_iff_iff, end0, end1]
  unfold OpenP at h1 h2
  unfold TieOk at h
  omega
theorem open_end (h : TieOk f s) {a b : Int} (h1 : OpenP f s a b) : (a = 0 ∧ b = 0) ∨ (OpenP f s (a - 1) b ∧ EndP f s (a - 1) b 0 = false) ∨ (¬ OpenP f s (a - 1) b ∧ OpenP f s a (b - 1) ∧ EndP f s a (b - 1) 1 = false) := by
  rw [end0_no, end1_no]
  unfold OpenP at *
  unfold TieOk at h
  omega
theorem exp_open (h : TieOk f s) (a b : Int) : expT f s a b = some false ↔ OpenP f s a b := by
  constructor
  · intro he
    unfold expT at he
    by_cases h0 : a = 0 ∧ b = 0
    · unfold OpenP TieOk at *; omega
    · rw [if_neg h0] at he
      by_cases h1 : OpenP f s (a - 1) b
      · rw [if_pos h1] at he
        have := (end0_no f s (a - 1) b).1 (Option.some.inj he)
        unfold OpenP TieOk at *; omega
      · rw [if_neg h1] at he
        by_cases h2 : OpenP f s a (b - 1)
        · rw [if_pos h2] at he
          have := (end1_no f s a (b - 1)).1 (Option.some.inj he)
          unfold OpenP TieOk at *; omega
        · rw [if_neg h2] at he; cases he
  · intro ho
    unfold expT
    rcases open_end h ho with h0 | ⟨h1, h2⟩ | ⟨h1, h2, h3⟩
    · rw [if_pos h0]
    · by_cases h0 : a = 0 ∧ b = 0
      · rw [if_pos h0]
      · rw [if_neg h0, if_pos h1, h2]
    · by_cases h0 : a = 0 ∧ b = 0
      · rw [if_pos h0]
      · rw [if_neg h0, if_neg h1, if_pos h2, h3]
end
theorem tgetU_put : ∀ (t : Tb) (p : Pr) (v : Stn) (q : Pr), tget (tput t p v) q = if q = p then some v else tget t q
  | [], p, v, q => rfl
  | e :: t, p, v, q => by
    rw [tput]
    by_cases h : p = e.1
    · rw [if_pos h, tget, tget]
      by_cases hq : q = p
      · rw [if_pos hq, if_pos hq]
      · rw [if_neg hq, if_neg hq, if_neg (fun e' => hq (e'.trans h.symm))]
    · rw [if_neg h, tget, tget, tgetU_put t p v q]
      by_cases hq : q = e.1
      · rw [if_pos hq, if_pos hq, if_neg (fun e' => h (e'.symm.trans hq))]
      · rw [if_neg hq, if_neg hq]
def rwT (f : Fmt) (s : Pr) (x a b : Int) : Option Bool :=
  if OpenP f s (a - 1) b ∧ a - 1 < x then some (EndP f s (a - 1) b 0) else if OpenP f s a (b - 1) ∧ a < x then some (EndP f s a (b - 1) 1) else none
def flag (t : Tb) (p : Pr) : Option Bool := (tget t p).map (·.2)
theorem flag_put (t : Tb) (p : Pr) (v : Stn) (q : Pr) : flag (tput t p v) q = if q = p then some v.2 else flag t q := by
  unfold flag
  rw [tgetU_put]
  by_cases h : q = p
  · rw [if_pos h, if_pos h]; rfl
  · rw [if_neg h, if_neg h]
structure RowOk (f : Fmt) (s : Pr) (all : Nat) (x : Int) (t : Tb) : Prop where
  old : ∀ a b : Int, a ≤ 41 → b ≤ 41 → a + b ≤ all → flag t (a, b) = expT f s a b
  now : ∀ a b : Int, a ≤ 41 → b ≤ 41 → a + b = all + 1 → flag t (a, b) = rwT f s x a b
  more : ∀ a b : Int, a ≤ 41 → b ≤ 41 → (all : Int) + 1 < a + b → flag t (a, b) = none
theorem pair_flag (p : Pr) (t : Tb) : (!(tget t p).isSome || (tat t p).2) = !decide (flag t p = some false) := by
  unfold flag tat
  cases tget t p with
  | none => rfl
  | some v =>
    obtain ⟨n, b⟩ := v
    cases b <;> simp
theorem rowU_step {f : Fmt} {s : Pr} (h : TieOk f s) {all : Nat} {t : Tb} {a : Int} (ha : a ≤ 41 ∧ (all : Int) - a ≤ 41) (hr : RowOk f s all a t) : RowOk f s all (a + 1) (pairT f s (a, (all : Int) - a) t) := by
  have hfl := hr.old a (all - a) (by omega) (by omega) (by omega)
  have hpf := pair_flag (a, (all : Int) - a) t
  unfold pairT
  by_cases ho : OpenP f s a (all - a)
  · have hb : (!(tget t (a, (all : Int) - a)).isSome || (tat t (a, (all : Int) - a)).2) = false := by
      rw [hpf, hfl, decide_eq_true ((exp_open h a _).2 ho)]; rfl
    rw [hb, cond_false]
    have e0 : addV (a, (all : Int) - a) ((0 : Nat) : Int) = (a + 1, (all : Int) - a) := rfl
    have e1 : addV (a, (all : Int) - a) ((1 : Nat) : Int) = (a, (all : Int) - a + 1) := rfl
    have hfg : ∀ q : Pr, flag (sideTo f s (a, (all : Int) - a) (tat t (a, (all : Int) - a)) t 2) q = if q = (a, (all : Int) - a + 1) then some (EndP f s a (all - a) 1) else if q = (a + 1, (all : Int) - a) then some (EndP f s a (all - a) 0) else flag t q := fun q => by
      rw [sideTo, flag_put, e1, sideTo, flag_put, e0, sideTo]
      rfl
    refine ⟨fun x y hx hy hxy => ?_, fun x y hx hy hxy => ?_, fun x y hx hy hxy => ?_⟩
    · rw [hfg, if_neg (fun e => by injection e; omega), if_neg (fun e => by injection e; omega)]
      exact hr.old x y hx hy hxy
    · rw [hfg]
      by_cases h1 : x = a
      · obtain rfl : y = (all : Int) - a + 1 := by omega
        subst h1
        rw [if_pos rfl, rwT]
        by_cases hA : OpenP f s (x - 1) ((all : Int) - x + 1)
        · rw [if_pos ⟨hA, by omega⟩, ends_agree h hA (by rw [Int.add_sub_cancel]; exact ho), Int.add_sub_cancel]
        · rw [if_neg (fun e => hA e.1), if_pos ⟨by rw [Int.add_sub_cancel]; exact ho, by omega⟩, Int.add_sub_cancel]
      · rw [if_neg (fun e => h1 (by injection e))]
        by_cases h2 : x = a + 1
        · obtain rfl : y = (all : Int) - a := by omega
          subst h2
          rw [if_pos rfl, rwT, Int.add_sub_cancel, if_pos ⟨ho, by omega⟩]
        · rw [if_neg (fun e => h2 (by injection e)), hr.now x y hx hy hxy, rwT, rwT]
          have k1 : (OpenP f s (x - 1) y ∧ x - 1 < a) ↔ (OpenP f s (x - 1) y ∧ x - 1 < a + 1) := and_congr_right fun _ => by omega
          have k2 : (OpenP f s x (y - 1) ∧ x < a) ↔ (OpenP f s x (y - 1) ∧ x < a + 1) := and_congr_right fun _ => by omega
          simp only [k1, k2]
    · rw [hfg, if_neg (fun e => by injection e; omega), if_neg (fun e => by injection e; omega)]
      exact hr.more x y hx hy hxy
  · have hb : (!(tget t (a, (all : Int) - a)).isSome || (tat t (a, (all : Int) - a)).2) = true := by
      rw [hpf, hfl, decide_eq_false (fun e => ho ((exp_open h a _).1 e))]; rfl
    rw [hb, cond_true]
    refine ⟨hr.old, fun x y hx hy hxy => ?_, hr.more⟩
    rw [hr.now x y hx hy hxy, rwT, rwT]
    have k1 : (OpenP f s (x - 1) y ∧ x - 1 < a) ↔ (OpenP f s (x - 1) y ∧ x - 1 < a + 1) := ⟨fun e => ⟨e.1, by omega⟩, fun e => ⟨e.1, by
      by_cases e2 : x - 1 = a
      · exfalso; apply ho
        have := e.1
        rwa [e2, show y = (all : Int) - a by omega] at this
      · omega⟩⟩
    have k2 : (OpenP f s x (y - 1) ∧ x < a) ↔ (OpenP f s x (y - 1) ∧ x < a + 1) := ⟨fun e => ⟨e.1, by omega⟩, fun e => ⟨e.1, by
      by_cases e2 : x = a
      · exfalso; apply ho
        have := e.1
        rwa [e2, show y - 1 = (all : Int) - a by omega] at this
      · omega⟩⟩
    simp only [k1, k2]
theorem rowU_ok {f : Fmt} {s : Pr} (h : TieOk f s) {all : Nat} {t : Tb} (h0 : RowOk f s all (loA all) t) : ∀ j, j ≤ cntA all → RowOk f s all (loA all + j) (rowTo f s all t j)
  | 0, _ => by rw [rowTo, show loA all + ((0 : Nat) : Int) = loA all by omega]; exact h0
  | j + 1, hj => by
    have ih := rowU_ok h h0 j (by omega)
    have := rowU_step h (a := loA all + j) (by unfold cntA at hj; unfold loA at *; omega) ih
    rw [rowTo, show loA all + ((j + 1 : Nat) : Int) = loA all + j + 1 by omega]
    exact this
theorem tbl_ok {f : Fmt} {s : Pr} (h : TieOk f s) : ∀ K : Nat, RowOk f s K (loA K) (tblTo f s K)
  | 0 => by
    have hf : ∀ q : Pr, flag (tblTo f s 0) q = if q = (0, 0) then some false else none := fun q => by
      unfold flag tblTo
      rw [tget, tget]
      by_cases e : q = (0, 0)
      · rw [if_pos e, if_pos e]; rfl
      · rw [if_neg e, if_neg e]; rfl
    refine ⟨fun a b ha hb hab => ?_, fun a b ha hb hab => ?_, fun a b ha hb hab => ?_⟩
    · rw [hf]
      unfold expT
      by_cases e : a = 0 ∧ b = 0
      · rw [if_pos e, if_pos (by rw [e.1, e.2])]
      · rw [if_neg e, if_neg (fun e' => e (by injection e' with h1 h2; exact ⟨h1, h2⟩)), if_neg, if_neg]
        · unfold OpenP; omega
        · unfold OpenP; omega
    · rw [hf, if_neg (fun e => by injection e; omega), rwT, if_neg, if_neg]
      · unfold OpenP loA; omega
      · unfold OpenP loA; omega
    · rw [hf, if_neg (fun e => by injection e; omega)]
  | K + 1 => by
    have ih := rowU_ok h (tbl_ok h K) (cntA K) (Nat.le_refl _)
    rw [tblTo]
    refine ⟨fun a b ha hb hab => ?_, fun a b ha hb hab => ?_, fun a b ha hb hab => ?_⟩
    · by_cases e : a + b ≤ (K : Int)
      · exact ih.old a b ha hb e
      · have e0 : ¬ (a = 0 ∧ b = 0) := by omega
        rw [expT, if_neg e0, ih.now a b ha hb (by omega), rwT]
        have k1 : (OpenP f s (a - 1) b ∧ a - 1 < loA K + cntA K) ↔ OpenP f s (a - 1) b := ⟨fun e => e.1, fun e => ⟨e, by unfold OpenP at e; unfold loA cntA loA; omega⟩⟩
        have k2 : (OpenP f s a (b - 1) ∧ a < loA K + cntA K) ↔ OpenP f s a (b - 1) := ⟨fun e => e.1, fun e => ⟨e, by unfold OpenP at e; unfold loA cntA loA; omega⟩⟩
        simp only [k1, k2]
    · rw [ih.more a b ha hb (by omega), rwT, if_neg, if_neg]
      · unfold OpenP loA; omega
      · unfold OpenP loA; omega
    · exact ih.more a b ha hb (by omega)
theorem table_flag {f : Fmt} {s : Pr} (h : TieOk f s) {p : Pr} (h1 : p.1 ≤ 41) (h2 : p.2 ≤ 41) : flag (tableV f s) p = expT f s p.1 p.2 :=
  (tbl_ok h 82).old p.1 p.2 h1 h2 (by omega)
end Go.Proofs.YtpmmgljndceplaaGreat

namespace Go.Proofs.YtpmmgljndceplaaGreat
open Go Go.RowKit

def EO (f : Fmt) (s : Pr) (a b : Int) : Bool := brksV s (a, b) || (decide (f.games ≤ a + 1) && decide (2 ≤ a + 1 - b))
section
variable {f : Fmt} {s : Pr}
theorem open_swap {a b : Int} (h : OpenP f s a b) : OpenP f s b a := by unfold OpenP at *; omega
theorem end_swap' (a b : Int) : EndP f s b a 0 = EndP f s a b 1 := by
  rw [Bool.eq_iff_iff, end0, end1]; omega
theorem open_next (ht : TieOk f s) {a b : Int} (h : OpenP f s a b) (he : EndP f s a b 0 = false) : OpenP f s (a + 1) b := by
  rw [end0_no] at he
  unfold OpenP TieOk at *; omega
theorem open_next' (ht : TieOk f s) {a b : Int} (h : OpenP f s a b) (he : EndP f s a b 1 = false) : OpenP f s a (b + 1) :=
  open_swap (open_next ht (open_swap h) (by rw [end_swap']; exact he))
theorem eo_is (ht : TieOk f s) {a b : Int} (h : OpenP f s a b) : EO f s a b = EndP f s a b 0 := by
  rw [Bool.eq_iff_iff, end0, EO, brksV, Bool.or_eq_true, Bool.and_eq_true, Bool.and_eq_true, decide_eq_true_eq, decide_eq_true_eq, decide_eq_true_eq, decide_eq_true_eq]
  unfold OpenP TieOk at *; omega
theorem eo_is' (ht : TieOk f s) {a b : Int} (h : OpenP f s a b) : EO f s b a = EndP f s a b 1 := by
  rw [eo_is ht (open_swap h), end_swap']
variable {far lim W L : Int}
end
theorem open0 {f : Fmt} {s : Pr} (ht : TieOk f s) : OpenP f s 0 0 := by unfold OpenP TieOk at *; omega
section
variable {f : Fmt}
end
end Go.Proofs.YtpmmgljndceplaaGreat

namespace Go.Proofs.YtpmmgljndceplaaGreat
open Go Go.RowKit

def lst (s : Pr) (tie : Bool) : Int := bif tie then s.2 else 4
def byG (f : Fmt) (tie : Bool) : Int := bif tie then 2 else bif f.noAd then 1 else 2
theorem game_is (f : Fmt) (s : Pr) (tie : Bool) (p : Pr) : gameV f s tie p = leadsV p (lst s tie) (byG f tie) := by
  unfold gameV lst byG
  cases tie
  · cases f.noAd <;> rfl
  · rfl
def ownP (side : Int) (p : Pr) : Pr := bif decide (side = 0) then p else (p.2, p.1)
theorem own0 (p : Pr) : ownP 0 p = p := rfl
theorem own1 (p : Pr) : ownP 1 p = (p.2, p.1) := rfl
section
variable {f : Fmt} {side : Int}
theorem isZ_iff (p : Pr) : isZ p = true ↔ p = (0, 0) := by
  unfold isZ
  rw [decide_eq_true_eq]
  obtain ⟨a, b⟩ := p
  simp
end
end Go.Proofs.YtpmmgljndceplaaGreat

namespace Go.Proofs.YtpmmgljndceplaaGreat
open Go Go.RowKit

section
variable {f : Fmt} {side : Int}
end
end Go.Proofs.YtpmmgljndceplaaGreat

namespace Go.Proofs.YtpmmgljndceplaaGreat
open Go Go.RowKit

section
variable {f : Fmt} {s : Pr}
end
end Go.Proofs.YtpmmgljndceplaaGreat

namespace Go.Proofs.YtpmmgljndceplaaGreat
open Go Go.RowKit

def arePts (f : Fmt) (tie : Bool) (to : Int) (p : Pr) : Bool := bif !tie && f.noAd then decide (p.1 < 4) && decide (p.2 < 4) else decide (max p.1 p.2 < (bif tie then to else 4)) || decide (max p.1 p.2 - min p.1 p.2 ≤ 1)
end Go.Proofs.YtpmmgljndceplaaGreat

namespace Go.Proofs.YtpmmgljndceplaaGreat
open Go Go.RowKit

end Go.Proofs.YtpmmgljndceplaaGreat

namespace Go.Proofs.YtpmmgljndceplaaGreat
open Go Go.RowKit

theorem Rd.pre {w : World} {A : Option Addr} {size m : Nat} {es : List (List Value)} (h : Rd w A size m es) (k : Nat) (hk : k ≤ m) : Rd w A size k (es.take k) := by
  have h1 := Rd.part h (m + 1) 0 k (Nat.zero_le _) hk (by omega)
  have e : (if m + 1 = 0 then A else A.map (·.add (0 * size))) = A := by
    rw [if_neg (by omega)]
    cases A <;> simp [Addr.add_zero']
  rw [e] at h1
  simpa using h1
theorem lead_none {p : Pr} {l b : Int} : leadsV p l b = -1 ↔ ¬ (l ≤ p.1 ∧ b ≤ p.1 - p.2) ∧ ¬ (l ≤ p.2 ∧ b ≤ p.2 - p.1) := by
  unfold leadsV
  cases h1 : decide (l ≤ p.1) && decide (b ≤ p.1 - p.2)
  · cases h2 : decide (l ≤ p.2) && decide (b ≤ p.2 - p.1)
    · simp at h1 h2 ⊢; omega
    · simp at h1 h2 ⊢; omega
  · simp at h1 ⊢; omega
def TbOk (f : Fmt) (tb : Pr → Tb) : Prop := ∀ (s p : Pr), TieOk f s → p.1 ≤ 41 → p.2 ≤ 41 → flag (tb s) p = expT f s p.1 p.2
theorem tbOk_table (f : Fmt) : TbOk f (tableV f) := fun _ _ h h1 h2 => table_flag h h1 h2
section
variable {f : Fmt} {s : Pr}
theorem over_ne (h : TieOk f s) {a b : Int} (he : expT f s a b = some true) : a ≠ b := by
  unfold expT at he
  by_cases h0 : a = 0 ∧ b = 0
  · rw [if_pos h0] at he; cases he
  · rw [if_neg h0] at he
    by_cases h1 : OpenP f s (a - 1) b
    · rw [if_pos h1] at he
      have := (end0 f s (a - 1) b).1 (Option.some.inj he)
      unfold OpenP TieOk at *; omega
    · rw [if_neg h1] at he
      by_cases h2 : OpenP f s a (b - 1)
      · rw [if_pos h2] at he
        have := (end1 f s a (b - 1)).1 (Option.some.inj he)
        unfold OpenP TieOk at *; omega
      · rw [if_neg h2] at he; cases he
theorem pair_over (p : Pr) (t : Tb) : (!(tget t p).isSome || !(tat t p).2) = !decide (flag t p = some true) := by
  unfold flag tat
  cases tget t p with
  | none => rfl
  | some v =>
    obtain ⟨n, b⟩ := v
    cases b <;> simp
theorem side_ne {p : Pr} (h : p.1 ≠ p.2) : setSide p = wside p := by
  unfold setSide wside
  by_cases h1 : p.1 < p.2
  · rw [decide_eq_true h1, decide_eq_false (by omega)]; rfl
  · rw [decide_eq_false h1, decide_eq_true (by omega)]; rfl
theorem over_won {won : Pr} (h : WonOk f won) : overV f won = (decide (won.1 = f.sets) || decide (won.2 = f.sets)) := by
  unfold overV WonOk at *
  rw [Bool.eq_iff_iff, Bool.or_eq_true, decide_eq_true_eq, decide_eq_true_eq, decide_eq_true_eq]; omega
theorem step_is {tb : Pr → Tb} (htb : TbOk f tb) (hf : f.Ok) {l : List Pr} {k : Nat} {p : Pr} (hp : l[k]? = some p) (hpb : p.1 ≤ 40 ∧ p.2 ≤ 40) (ho : (setsTo tb f l k).ok = true) (hw : (setsTo tb f l k).won = wonTo l k) :
    (setsTo tb f l (k + 1)).ok = (!overV f (wonTo l k) && decide (expT f (setV f (wonTo l k)) p.1 p.2 = some true)) ∧ ((setsTo tb f l (k + 1)).ok = true → (setsTo tb f l (k + 1)).won = wonTo l (k + 1)) := by
  rw [setsTo_succ hp ho, setStep, hw, pair_over, htb _ _ (tie_ok hf _) (by omega) (by omega)]
  by_cases he : expT f (setV f (wonTo l k)) p.1 p.2 = some true
  · rw [decide_eq_true he]
    cases overV f (wonTo l k)
    · refine ⟨rfl, fun _ => ?_⟩
      show addV (wonTo l k) (setSide p) = _
      rw [side_ne (over_ne (tie_ok hf _) he), wonTo_succ hp]
    · exact ⟨rfl, fun e => by cases e⟩
  · rw [decide_eq_false he]
    cases overV f (wonTo l k)
    · exact ⟨rfl, fun e => by cases e⟩
    · exact ⟨rfl, fun e => by cases e⟩
theorem arises_no {tb : Pr → Tb} {b : Brd} {k : Nat} (h : (setsTo tb f b.st k).ok = false) (hk : k ≤ b.st.length) : (arisesT tb f b).2 = false := by
  have e : (setsTo tb f b.st b.st.length).ok = false := by rw [setsTo_stop h hk]; exact h
  unfold arisesT
  rw [e]; rfl
theorem arises_end {tb : Pr → Tb} {b : Brd} (h : (setsTo tb f b.st b.st.length).ok = true) (hw : (setsTo tb f b.st b.st.length).won = wonV b.st) (hov : overV f (wonV b.st) = true) : (arisesT tb f b).2 = (isZ b.g && isZ b.p) := by
  unfold arisesT
  rw [h, hw, hov]; rfl
theorem pts_is (f : Fmt) (s : Pr) (tie : Bool) (p : Pr) (hp : 0 ≤ p.1 ∧ 0 ≤ p.2) (hs : 1 ≤ s.2) : (isZ p || ((befV f s tie (p.1 - 1, p.2) || befV f s tie (p.1, p.2 - 1)) && befV f s tie p)) = arePts f tie s.2 p := by
  have hz : isZ p = decide (p.1 = 0 ∧ p.2 = 0) := by
    rw [Bool.eq_iff_iff, isZ_iff, decide_eq_true_eq]
    exact ⟨fun e => by rw [e]; exact ⟨rfl, rfl⟩, fun e => Prod.ext e.1 e.2⟩
  have hb : ∀ q : Pr, befV f s tie q = decide ((0 ≤ q.1 ∧ 0 ≤ q.2) ∧ ¬ (lst s tie ≤ q.1 ∧ byG f tie ≤ q.1 - q.2) ∧ ¬ (lst s tie ≤ q.2 ∧ byG f tie ≤ q.2 - q.1)) := fun q => by
    have hl := lead_none (p := q) (l := lst s tie) (b := byG f tie)
    have hr := leadsV_rng q (lst s tie) (byG f tie)
    unfold befV
    rw [game_is, Bool.eq_iff_iff, Bool.and_eq_true, decide_eq_true_eq, decide_eq_true_eq, decide_eq_true_eq]
    constructor
    · rintro ⟨h1, h2⟩
      exact ⟨by omega, hl.1 (by omega)⟩
    · rintro ⟨h1, h2⟩
      have := hl.2 h2
      exact ⟨by omega, by omega⟩
  rw [hz, hb, hb, hb, Bool.eq_iff_iff]
  unfold arePts lst byG
  cases tie
  · cases hn : f.noAd
    · simp only [Bool.not_false, Bool.true_and, cond_false, Bool.or_eq_true, Bool.and_eq_true, decide_eq_true_eq]; omega
    · simp only [Bool.not_false, Bool.true_and, cond_false, cond_true, Bool.or_eq_true, Bool.and_eq_true, decide_eq_true_eq]; omega
  · simp only [Bool.not_true, Bool.false_and, cond_false, cond_true, Bool.or_eq_true, Bool.and_eq_true, decide_eq_true_eq]; omega
theorem set_to1 (hf : f.Ok) (won : Pr) : 1 ≤ (setV f won).2 := by
  have h1 := hf.o0
  have h2 := hf.l0
  unfold setV
  cases decide (won.1 = f.sets - 1) && decide (won.2 = f.sets - 1) <;> simp only [cond_true, cond_false] <;> omega
theorem tied_is {l : List Pr} {g : Pr} (hg : 0 ≤ g.1) : tiedV f l g = brksV (setV f (wonV l)) g := by
  unfold tiedV brksV
  by_cases h : 0 ≤ (setV f (wonV l)).1
  · rw [decide_eq_true h, Bool.true_and]
  · rw [decide_eq_false h, decide_eq_false (show ¬ g.1 = (setV f (wonV l)).1 by omega)]; rfl
theorem arises_pts {tb : Pr → Tb} (htb : TbOk f tb) (hf : f.Ok) {b : Brd} (hg : (0 ≤ b.g.1 ∧ b.g.1 ≤ 40) ∧ 0 ≤ b.g.2 ∧ b.g.2 ≤ 40) (hp : 0 ≤ b.p.1 ∧ 0 ≤ b.p.2) (h : (setsTo tb f b.st b.st.length).ok = true) (hw : (setsTo tb f b.st b.st.length).won = wonV b.st) (hov : overV f (wonV b.st) = false) :
    (arisesT tb f b).2 = (decide (expT f (setV f (wonV b.st)) b.g.1 b.g.2 = some false) && arePts f (tiedV f b.st b.g) (setV f (wonV b.st)).2 b.p) := by
  rw [← pts_is f (setV f (wonV b.st)) _ b.p hp (set_to1 hf _), tied_is hg.1.1]
  unfold arisesT
  rw [h, hw, hov, pair_flag, htb _ _ (tie_ok hf _) (by omega) (by omega)]
  by_cases he : expT f (setV f (wonV b.st)) b.g.1 b.g.2 = some false
  · rw [decide_eq_true he]
    cases isZ b.p <;> rfl
  · rw [decide_eq_false he]; rfl
end
end Go.Proofs.YtpmmgljndceplaaGreat

namespace Go.Proofs.YtpmmgljndceplaaGreat
open Go Go.RowKit

section
variable {f : Fmt} {s : Pr} {W L : Int}
def CDone (sum a i j : Int) : Prop := 44 ≤ i ∨ 44 ≤ j ∨ sum < i + j ∨ (i + j = sum ∧ i < a)
instance (sum a i j : Int) : Decidable (CDone sum a i j) := by unfold CDone; infer_instance
end
end Go.Proofs.YtpmmgljndceplaaGreat

namespace Go.Proofs.YtpmmgljndceplaaGreat
open Go Go.RowKit

def arisesR (f : Fmt) (b : Brd) : List Value := bif !decide (chkF f = 0) then [.bool false, .int .i64 (chkF f)] else bif !brdOk b then [.bool false, .int .i64 12] else [.bool (arisesV f b).2, .int .i64 0]
set_option maxRecDepth 100000 in
theorem C_score_Arises (f : Fmt) (b : Brd) (A : Option Addr) (n c : Nat) (w : World) (h : Rd w A 2 n (encP b.st)) (hn : n ≤ 9223372036854775807) : C0 Tryz.prog 18 [f.val, b.val A n c] w (.tuple (arisesR f b).toArray) := by
  have hlen : b.st.length = n := by have := h.len; simpa [encP] using this
  refine ⟨en Tryz.func18 Tryz.ntmps18 ((St.init w).share (e := .ro A 2 n (encP b.st)) h rfl rfl rfl) (h := fun F => ?_)⟩
  refine sq (h := ?_)
  refine rg (h := ?_)
  refine bxA (h := fun b0 => ?_)
  refine bxA (h := fun b1 => ?_)
  refine wy asg ?_
  refine wy asg ?_
  refine nl (h := ?_)
  refine q_seq (h := ?_)
  refine sq (h := ?_)
  refine sq (h := ?_)
  refine rg (h := ?_)
  refine wy (by first | exact ldA | exact ldEA) ?_
  refine cl0 (hc := fun w hS => C_score_Check _ w) (h := ?_)
  refine wy asg ?_
  refine nl (h := ?_)
  refine q_seq (h := ?_)
  refine sq (h := ?_)
  refine rg (h := ?_)
  refine wy mv ?_
  refine wy neq ?_
  refine nl (h := ?_)
  refine q_seq (h := ?_)
  refine cd (by exact rfl) (fun h0 => ?_) (fun h0 => ?_)
  · skip
    refine sq (h := ?_)
    refine rg (h := ?_)
    refine wy mv ?_
    refine wy asg ?_
    refine wy asg ?_
    refine nl (h := ?_)
    refine q_seq (h := ?_)
    refine rtn (h := ?_)
    refine q_then_ret (h := ?_)
    refine q_ret (hR := ?_)
    exact fun w hS => ⟨cdT' (fun x : List Value => Ending.returned (Value.tuple x.toArray)) h0, hS.sub slz_⟩
  · skip
    have hf := chkF_ok h0
    refine skp (h := ?_)
    refine q_seq (h := ?_)
    refine sq (h := ?_)
    refine sq (h := ?_)
    refine rg (h := ?_)
    refine wy (by first | exact ldA | exact ldEA) ?_
    refine cl0 (hc := fun w hS => C_isBoard _ _ _ _ w (hS.get rdz_) (by omega)) (h := ?_)
    refine wy notB ?_
    refine nl (h := ?_)
    refine q_seq (h := ?_)
    refine cd (by exact rfl) (fun h1 => ?_) (fun h1 => ?_)
    · skip
      refine sq (h := ?_)
      refine rg (h := ?_)
      refine wy asg ?_
      refine wy asg ?_
      refine nl (h := ?_)
      refine q_seq (h := ?_)
      refine rtn (h := ?_)
      refine q_then_ret (h := ?_)
      refine q_ret (hR := ?_)
      exact fun w hS => ⟨(cdT' (fun x : List Value => Ending.returned (Value.tuple x.toArray)) h1).trans (cdF' (fun x : List Value => Ending.returned (Value.tuple x.toArray)) h0), hS.sub slz_⟩
    · skip
      have hbo : brdOk b = true := by simpa using h1
      have hbl := brd_len hbo
      have hbp := brd_fit hbo b.p (by simp [Brd.all])
      refine skp (h := ?_)
      refine q_seq (h := ?_)
      refine sq (h := ?_)
      refine rg (h := ?_)
      refine wy (by first | exact ldA | exact ldEA) ?_
      refine wy bd ?_
      refine wy (by first | exact ldA | exact ldEA) ?_
      refine cl0 (hc := fun w hS => C_rules_arises f b hf (by omega) A n c w (hS.get rdz_) (by omega)) (h := ?_)
      refine wy mv ?_
      refine wy ex ?_
      refine wy ex ?_
      refine al (h := fun b2 => ?_)
      first | refine stA (h := ?_) | refine stEA (h := ?_)
      refine wy asg ?_
      refine nl (h := ?_)
      refine q_seq (h := ?_)
      refine sq (h := ?_)
      refine rg (h := ?_)
      refine wy mv ?_
      refine wy asg ?_
      refine wy asg ?_
      refine nl (h := ?_)
      refine q_seq (h := ?_)
      refine rtn (h := ?_)
      refine q_ret (hR := ?_)
      exact fun w hS => ⟨(cdF' (fun x : List Value => Ending.returned (Value.tuple x.toArray)) h1).trans (cdF' (fun x : List Value => Ending.returned (Value.tuple x.toArray)) h0), hS.sub slz_⟩
theorem chk_val (f : Fmt) : chkF f = 0 ∨ chkF f = 10 := by
  unfold chkF
  cases fmtOk f
  · exact .inr rfl
  · exact .inl rfl
theorem chk_bad {f : Fmt} (h : (!decide (chkF f = 0)) = true) : chkF f = 10 := by
  rcases chk_val f with e | e
  · rw [e] at h; cases h
  · exact e
end Go.Proofs.YtpmmgljndceplaaGreat

namespace Go.Proofs.YtpmmgljndceplaaGreat
open Go Go.RowKit

section
variable {f : Fmt} {b : Brd}
theorem sets_won {tb : Pr → Tb} (htb : TbOk f tb) (hf : f.Ok) (hb : brdOk b = true) (hok : (setsTo tb f b.st b.st.length).ok = true) : ∀ k, k ≤ b.st.length → (setsTo tb f b.st k).won = wonTo b.st k
  | 0, _ => rfl
  | k + 1, hk => by
    have ih := sets_won htb hf hb hok k (by omega)
    have ho : ∀ j, j ≤ b.st.length → (setsTo tb f b.st j).ok = true := fun j hj => by
      cases e : (setsTo tb f b.st j).ok
      · rw [setsTo_stop e hj, e] at hok; cases hok
      · rfl
    have hp : b.st[k]? = some b.st[k] := List.getElem?_eq_getElem (by omega)
    have hpf := brd_fit hb b.st[k] (by simp only [Brd.all]; exact List.mem_append_left _ (List.getElem_mem _))
    exact (step_is htb hf hp (by omega) (ho k (by omega)) ih).2 (ho (k + 1) hk)
theorem arises_ok {tb : Pr → Tb} (h : (arisesT tb f b).2 = true) : (setsTo tb f b.st b.st.length).ok = true := by
  cases e : (setsTo tb f b.st b.st.length).ok
  · rw [arises_no e (Nat.le_refl _)] at h; cases h
  · rfl
theorem arises_facts' {tb : Pr → Tb} (htb : TbOk f tb) (hf : f.Ok) (hb : brdOk b = true) (h : (arisesT tb f b).2 = true) : (arisesT tb f b).1 = wonV b.st ∧ WonOk f (wonV b.st) ∧ (overV f (wonV b.st) = true ∨ (overV f (wonV b.st) = false ∧ OpenP f (setV f (wonV b.st)) b.g.1 b.g.2 ∧ arePts f (tiedV f b.st b.g) (setV f (wonV b.st)).2 b.p = true)) := by
  have hok := arises_ok h
  have hw := sets_won htb hf hb hok b.st.length (Nat.le_refl _)
  have h1 : (arisesT tb f b).1 = wonV b.st := by rw [arises_won]; exact hw
  have hs0 := hf.s0
  have h2 : WonOk f (wonV b.st) := by rw [← show _ = wonV b.st from hw]; exact setsTo_won (by omega) _
  refine ⟨h1, h2, ?_⟩
  cases hov : overV f (wonV b.st)
  · have hbp := brd_fit hb b.p (by simp [Brd.all])
    have hbg := brd_fit hb b.g (by simp [Brd.all])
    have hE := arises_pts htb hf hbg (by omega) hok hw hov
    rw [h] at hE
    have hE' := hE.symm
    rw [Bool.and_eq_true, decide_eq_true_eq] at hE'
    exact .inr ⟨rfl, (exp_open (tie_ok hf _) _ _).1 hE'.1, hE'.2⟩
  · exact .inl rfl
theorem arises_facts (hf : f.Ok) (hb : brdOk b = true) (h : (arisesV f b).2 = true) : (arisesV f b).1 = wonV b.st ∧ WonOk f (wonV b.st) ∧ (overV f (wonV b.st) = true ∨ (overV f (wonV b.st) = false ∧ OpenP f (setV f (wonV b.st)) b.g.1 b.g.2 ∧ arePts f (tiedV f b.st b.g) (setV f (wonV b.st)).2 b.p = true)) :=
  arises_facts' (tbOk_table f) hf hb h
theorem own_pair (side : Int) (p : Pr) : ownP side p = ((ownP side p).1, (ownP side p).2) := rfl
theorem brks_own {side : Int} (hs : side = 0 ∨ side = 1) (s g : Pr) : brksV s (ownP side g) = brksV s g := by
  rcases hs with rfl | rfl
  · rfl
  · show (decide (g.2 = s.1) && decide (g.1 = s.1)) = (decide (g.1 = s.1) && decide (g.2 = s.1))
    rw [Bool.and_comm]
end
end Go.Proofs.YtpmmgljndceplaaGreat

namespace Go.Proofs.YtpmmgljndceplaaGreat
open Go Go.RowKit

end Go.Proofs.YtpmmgljndceplaaGreat

namespace Go.Proofs.YtpmmgljndceplaaGreat
open Go Go.RowKit

end Go.Proofs.YtpmmgljndceplaaGreat

namespace Go.Proofs.YtpmmgljndceplaaGreat
open Go Go.RowKit

end Go.Proofs.YtpmmgljndceplaaGreat

namespace Go.Proofs.YtpmmgljndceplaaGreat
open Go Go.RowKit

structure Ext where
  (low high pts : Int)
def extV (f : Fmt) (s : Pr) : Ext := bif decide (s.1 = 0) then ⟨1, 1, max s.2 2⟩ else bif decide (s.1 = -1) then ⟨max f.games 2, -1, 4 * max f.games 2⟩ else ⟨max f.games 2, 2 * s.1 + 1, 4 * max f.games 2⟩
def lastE (f : Fmt) : Ext := extV f (f.ltie, f.lto)
def eachE (f : Fmt) : Ext := extV f (f.tie, f.to)
def rangeE (f : Fmt) : Ext := bif decide (f.sets = 1) then lastE f else
  ⟨f.sets * (eachE f).low, bif decide (0 ≤ (lastE f).high) && decide (0 ≤ (eachE f).high) then (2 * f.sets - 2) * (eachE f).high + (lastE f).high else -1, f.sets * (eachE f).pts⟩
structure RuleOk (f : Fmt) (s : Pr) : Prop where
  t : s.1 = -1 ∨ s.1 = 0 ∨ s.1 = f.games - 1 ∨ s.1 = f.games
  o : 1 ≤ s.2 ∧ s.2 ≤ 15
theorem ext_zero {f : Fmt} {s : Pr} (h : s.1 = 0) : extV f s = ⟨1, 1, max s.2 2⟩ := by unfold extV; rw [decide_eq_true h]; rfl
theorem ext_none {f : Fmt} {s : Pr} (h : s.1 = -1) : extV f s = ⟨max f.games 2, -1, 4 * max f.games 2⟩ := by
  unfold extV; rw [decide_eq_false (by omega), decide_eq_true h]; rfl
theorem ext_some {f : Fmt} {s : Pr} (h : s.1 ≠ 0) (h' : s.1 ≠ -1) : extV f s = ⟨max f.games 2, 2 * s.1 + 1, 4 * max f.games 2⟩ := by
  unfold extV; rw [decide_eq_false h, decide_eq_false h']; rfl
theorem ext_bd {f : Fmt} (hf : f.Ok) {s : Pr} (h : RuleOk f s) : 1 ≤ (extV f s).low ∧ (extV f s).low ≤ 8 ∧ (extV f s).high ≤ 17 ∧ -1 ≤ (extV f s).high ∧ 1 ≤ (extV f s).pts ∧ (extV f s).pts ≤ 32 ∧ (0 ≤ (extV f s).high → (extV f s).low ≤ (extV f s).high) := by
  have h1 := hf.g0
  have h2 := hf.g1
  have h3 := h.t
  have h4 := h.o
  by_cases a : s.1 = 0
  · rw [ext_zero a]; simp only; omega
  · by_cases b : s.1 = -1
    · rw [ext_none b]; simp only; omega
    · rw [ext_some a b]; simp only; omega

theorem last_ok {f : Fmt} (hf : f.Ok) : RuleOk f (f.ltie, f.lto) := ⟨hf.lt, hf.l0, hf.l1⟩
theorem each_ok {f : Fmt} (hf : f.Ok) : RuleOk f (f.tie, f.to) := ⟨hf.t, hf.o0, hf.o1⟩
theorem range_one {f : Fmt} (h : f.sets = 1) : rangeE f = lastE f := by unfold rangeE; rw [decide_eq_true h]; rfl
theorem range_more {f : Fmt} (h : ¬ f.sets = 1) : (rangeE f).low = f.sets * (eachE f).low ∧ (rangeE f).pts = f.sets * (eachE f).pts ∧ (rangeE f).high = bif decide (0 ≤ (lastE f).high) && decide (0 ≤ (eachE f).high) then (2 * f.sets - 2) * (eachE f).high + (lastE f).high else -1 := by
  unfold rangeE; rw [decide_eq_false h]; exact ⟨rfl, rfl, rfl⟩
theorem range_bd {f : Fmt} (hf : f.Ok) : 1 ≤ (rangeE f).low ∧ (rangeE f).low ≤ 100 ∧ -1 ≤ (rangeE f).high ∧ (rangeE f).high ≤ 1000 ∧ (0 ≤ (rangeE f).high → (rangeE f).low ≤ (rangeE f).high) ∧ 1 ≤ (rangeE f).pts ∧ (rangeE f).pts ≤ 600 := by
  obtain ⟨l1, l2, l3, l4, l5, l6, l7⟩ := ext_bd hf (last_ok hf)
  obtain ⟨e1, e2, e3, e4, e5, e6, e7⟩ := ext_bd hf (each_ok hf)
  have h1 := hf.s0
  have h2 := hf.s1
  by_cases h : f.sets = 1
  · rw [range_one h]
    unfold lastE
    omega
  · obtain ⟨q1, q2, q3⟩ := range_more h
    rw [q1, q2, q3]
    unfold lastE eachE
    rcases (by omega : f.sets = 2 ∨ f.sets = 3) with hs | hs <;> rw [hs] <;>
      (by_cases ha : 0 ≤ (extV f (f.ltie, f.lto)).high
       · by_cases hb : 0 ≤ (extV f (f.tie, f.to)).high
         · rw [decide_eq_true ha, decide_eq_true hb]; simp only [Bool.and_self, cond_true]; omega
         · rw [decide_eq_true ha, decide_eq_false hb]; simp only [Bool.and_false, cond_false]; omega
       · rw [decide_eq_false ha]; simp only [Bool.false_and, cond_false]; omega)
end Go.Proofs.YtpmmgljndceplaaGreat

namespace Go.Proofs.YtpmmgljndceplaaGreat
open Go Go.RowKit

end Go.Proofs.YtpmmgljndceplaaGreat

namespace Go.Proofs.YtpmmgljndceplaaGreat
open Go Go.RowKit

abbrev Ext.val (e : Ext) : Value := .tuple #[.agg #[.int .i64 e.low, .int .i64 e.high], .int .i64 e.pts]
theorem C_rules_extent (f : Fmt) (s : Pr) (hf : f.Ok) (hr : RuleOk f s) (w : World) : C0 Tryz.prog 36 [f.val, pv s] w (extV f s).val := by
  have h1 := hf.g0
  have h2 := hf.g1
  have h3 := hr.t
  have h4 := hr.o
  refine ⟨en Tryz.func36 Tryz.ntmps36 (St.init w) (h := fun F => ?_)⟩
  refine sq (h := ?_)
  refine rg (h := ?_)
  refine bxA (h := fun b0 => ?_)
  refine bxA (h := fun b1 => ?_)
  refine al (h := fun b2 => ?_)
  refine wy asg ?_
  refine nl (h := ?_)
  refine q_seq (h := ?_)
  refine sq (h := ?_)
  refine rgD (by kernel_rfl) [(1000000, .blk b0 91 f.cells), (1000000, .blk b1 107 [.int .i64 s.1, .int .i64 s.2])] (by repeat (first | exact HS.nil | (apply HS.keep; (repeat (first | exact At.here | apply At.there))) | (apply HS.ro; (repeat (first | exact Rds.ro | exact Rds.own | apply Rds.there))))) (h := ?_)
  refine tk 0 (hy := (by first | exact fa | exact faE)) (h := ?_)
  refine tk 1 (hy := (by first | exact ld | exact ldE)) (h := ?_)
  refine tk 2 (hy := maxI) (h := ?_)
  refine tk 3 (hy := (by first | exact fa | exact faE)) (h := ?_)
  refine tk 4 (hy := (by first | exact fa | exact faE)) (h := ?_)
  refine tk 5 (hy := (by first | exact ld | exact ldE)) (h := ?_)
  refine tk 6 (hy := maxI) (h := ?_)
  refine tk 7 (hy := asg) (h := ?_)
  refine tk 8 (hy := asg) (h := ?_)
  refine dn (h := ?_)
  refine q_seq (h := ?_)
  refine sq (h := ?_)
  refine sq (h := ?_)
  refine rg (h := ?_)
  refine wy (by first | exact fa | exact faE) ?_
  refine wy (by first | exact ld | exact ldE) ?_
  refine nl (h := ?_)
  refine q_seq (h := ?_)
  refine bk (h := ?_)
  refine sq (h := ?_)
  refine rg (h := ?_)
  refine wy eql ?_
  refine wy asg ?_
  refine nl (h := ?_)
  refine q_seq (h := ?_)
  refine cd (by exact rfl) (fun h0 => ?_) (fun h0 => ?_)
  · skip
    have hE := ext_zero (f := f) (of_decide_eq_true h0)
    refine sq (h := ?_)
    refine rg (h := ?_)
    refine wy bd ?_
    refine wy mv ?_
    first | refine stA (h := ?_) | refine stEA (h := ?_)
    refine wy asg ?_
    refine nl (h := ?_)
    refine q_seq (h := ?_)
    refine rtn (h := ?_)
    refine q_blk_ret (h := ?_)
    refine q_then_ret (h := ?_)
    refine q_ret (hR := ?_)
    rw [hE]
    exact fun w hS => ⟨rfl, hS.sub slz_⟩
  · skip
    have hz := of_decide_eq_false h0
    refine sq (h := ?_)
    refine rg (h := ?_)
    refine wy eql ?_
    refine wy asg ?_
    refine nl (h := ?_)
    refine q_seq (h := ?_)
    refine cd (by exact rfl) (fun h1 => ?_) (fun h1 => ?_)
    · skip
      have hE := ext_none (f := f) (of_decide_eq_true h1)
      refine sq (h := ?_)
      refine rg (h := ?_)
      refine wy mv ?_
      refine wy bd ?_
      refine wy mv ?_
      refine wy mulI ?_
      first | refine stA (h := ?_) | refine stEA (h := ?_)
      refine wy asg ?_
      refine nl (h := ?_)
      refine q_seq (h := ?_)
      refine rtn (h := ?_)
      refine q_blk_ret (h := ?_)
      refine q_then_ret (h := ?_)
      refine q_ret (hR := ?_)
      rw [hE]
      exact fun w hS => ⟨rfl, hS.sub slz_⟩
    · skip
      have hE := ext_some (f := f) hz (of_decide_eq_false h1)
      refine skp (h := ?_)
      refine q_blk_norm (h := ?_)
      refine q_seq (h := ?_)
      refine sq (h := ?_)
      refine rg (h := ?_)
      refine wy mv ?_
      refine wy (by first | exact fa | exact faE) ?_
      refine wy (by first | exact ld | exact ldE) ?_
      refine wy mulI ?_
      refine wy addI ?_
      refine wy bd ?_
      refine wy mv ?_
      refine wy mulI ?_
      first | refine stA (h := ?_) | refine stEA (h := ?_)
      refine wy asg ?_
      refine nl (h := ?_)
      refine q_seq (h := ?_)
      refine rtn (h := ?_)
      refine q_ret (hR := ?_)
      rw [hE]
      exact fun w hS => ⟨rfl, hS.sub slz_⟩
def rangeR (f : Fmt) : List Value := bif decide (chkF f = 0) then [.agg #[.int .i64 (rangeE f).low, .int .i64 (rangeE f).high], .int .i64 (rangeE f).pts, .int .i64 0] else [.agg #[.int .i64 0, .int .i64 0], .int .i64 0, .int .i64 (chkF f)]
theorem C_score_Range (f : Fmt) (w : World) : C0 Tryz.prog 15 [f.val] w (.tuple (rangeR f).toArray) := by
  refine ⟨en Tryz.func15 Tryz.ntmps15 (St.init w) (h := fun F => ?_)⟩
  refine sq (h := ?_)
  refine rg (h := ?_)
  refine bxA (h := fun b0 => ?_)
  refine al (h := fun b1 => ?_)
  refine wy asg ?_
  refine wy asg ?_
  refine nl (h := ?_)
  refine q_seq (h := ?_)
  refine sq (h := ?_)
  refine sq (h := ?_)
  refine rg (h := ?_)
  refine wy (by first | exact ldA | exact ldEA) ?_
  refine cl0 (hc := fun w hS => C_score_Check _ w) (h := ?_)
  refine wy asg ?_
  refine nl (h := ?_)
  refine q_seq (h := ?_)
  refine sq (h := ?_)
  refine rg (h := ?_)
  refine wy mv ?_
  refine wy neq ?_
  refine nl (h := ?_)
  refine q_seq (h := ?_)
  refine cd (by exact rfl) (fun h0 => ?_) (fun h0 => ?_)
  · skip
    have hR : rangeR f = [.agg #[.int .i64 0, .int .i64 0], .int .i64 0, .int .i64 (chkF f)] := by
      have h' : decide (chkF f = 0) = false := by simpa using h0
      rw [rangeR, h']; rfl
    refine sq (h := ?_)
    refine rg (h := ?_)
    refine wy bd ?_
    refine wy mv ?_
    first | refine stA (h := ?_) | refine stEA (h := ?_)
    refine wy asg ?_
    refine wy asg ?_
    refine nl (h := ?_)
    refine q_seq (h := ?_)
    refine rtn (h := ?_)
    refine q_then_ret (h := ?_)
    refine q_ret (hR := ?_)
    rw [hR]
    exact fun w hS => ⟨rfl, hS.sub slz_⟩
  · skip
    have hf := chkF_ok h0
    have hc : decide (chkF f = 0) = true := by simpa using h0
    have hR0 : rangeR f = [.agg #[.int .i64 (rangeE f).low, .int .i64 (rangeE f).high], .int .i64 (rangeE f).pts, .int .i64 0] := by rw [rangeR, hc]; rfl
    obtain ⟨l1, l2, l3, l4, l5, l6, -⟩ := ext_bd hf (last_ok hf)
    obtain ⟨e1, e2, e3, e4, e5, e6, -⟩ := ext_bd hf (each_ok hf)
    have hs0 := hf.s0
    have hs1 := hf.s1
    refine skp (h := ?_)
    refine q_seq (h := ?_)
    refine sq (h := ?_)
    refine rg (h := ?_)
    refine wy (by first | exact ldA | exact ldEA) ?_
    refine wy bd ?_
    refine al (h := fun b2 => ?_)
    first | refine stA (h := ?_) | refine stEA (h := ?_)
    refine nl (h := ?_)
    refine q_seq (h := ?_)
    refine sq (h := ?_)
    refine rg (h := ?_)
    refine wy (by first | exact ldA | exact ldEA) ?_
    refine wy (by first | exact fa | exact faE) ?_
    refine wy (by first | exact ld | exact ldE) ?_
    refine wy (by first | exact fa | exact faE) ?_
    refine wy (by first | exact ld | exact ldE) ?_
    refine wy bd ?_
    refine cl0 (hc := fun w hS => C_rules_extent f (f.ltie, f.lto) hf (last_ok hf) w) (h := ?_)
    refine wy mv ?_
    refine wy ex ?_
    refine wy ex ?_
    refine al (h := fun b3 => ?_)
    first | refine stA (h := ?_) | refine stEA (h := ?_)
    refine wy asg ?_
    refine nl (h := ?_)
    refine q_seq (h := ?_)
    refine sq (h := ?_)
    refine sq (h := ?_)
    refine rg (h := ?_)
    refine wy (by first | exact fa | exact faE) ?_
    refine wy (by first | exact ld | exact ldE) ?_
    refine wy eql ?_
    refine nl (h := ?_)
    refine q_seq (h := ?_)
    refine cd (by exact rfl) (fun h1 => ?_) (fun h1 => ?_)
    · skip
      have hR : rangeR f = [.agg #[.int .i64 (lastE f).low, .int .i64 (lastE f).high], .int .i64 (lastE f).pts, .int .i64 0] := by rw [hR0, range_one (of_decide_eq_true h1)]
      refine sq (h := ?_)
      refine rg (h := ?_)
      refine wy (by first | exact ldA | exact ldEA) ?_
      refine wy mv ?_
      first | refine stA (h := ?_) | refine stEA (h := ?_)
      refine wy asg ?_
      refine wy asg ?_
      refine nl (h := ?_)
      refine q_seq (h := ?_)
      refine rtn (h := ?_)
      refine q_then_ret (h := ?_)
      refine q_ret (hR := ?_)
      rw [hR]
      exact fun w hS => ⟨rfl, hS.sub slz_⟩
    · skip
      obtain ⟨q1, q2, q3⟩ := range_more (of_decide_eq_false h1)
      have hs23 : f.sets = 2 ∨ f.sets = 3 := by have := of_decide_eq_false h1; omega
      have m1 : -9223372036854775808 ≤ f.sets * (eachE f).low ∧ f.sets * (eachE f).low ≤ 9223372036854775807 := by unfold eachE; rcases hs23 with h | h <;> rw [h] <;> omega
      have m2 : -9223372036854775808 ≤ f.sets * (eachE f).pts ∧ f.sets * (eachE f).pts ≤ 9223372036854775807 := by unfold eachE; rcases hs23 with h | h <;> rw [h] <;> omega
      have m3 : -1000 ≤ (2 * f.sets - 2) * (eachE f).high ∧ (2 * f.sets - 2) * (eachE f).high ≤ 1000 := by unfold eachE; rcases hs23 with h | h <;> rw [h] <;> omega
      refine skp (h := ?_)
      refine q_seq (h := ?_)
      refine sq (h := ?_)
      refine rg (h := ?_)
      refine wy (by first | exact ldA | exact ldEA) ?_
      refine wy (by first | exact fa | exact faE) ?_
      refine wy (by first | exact ld | exact ldE) ?_
      refine wy (by first | exact fa | exact faE) ?_
      refine wy (by first | exact ld | exact ldE) ?_
      refine wy bd ?_
      refine cl0 (hc := fun w hS => C_rules_extent f (f.tie, f.to) hf (each_ok hf) w) (h := ?_)
      refine wy mv ?_
      refine wy ex ?_
      refine wy ex ?_
      refine al (h := fun be => ?_)
      first | refine stA (h := ?_) | refine stEA (h := ?_)
      refine wy asg ?_
      refine nl (h := ?_)
      refine q_seq (h := ?_)
      refine sq (h := ?_)
      refine rg (h := ?_)
      refine wy asg ?_
      refine nl (h := ?_)
      refine q_seq (h := ?_)
      refine sq (h := ?_)
      refine sq (h := ?_)
      refine rg (h := ?_)
      refine wy (by first | exact fa | exact faE) ?_
      refine wy (by first | exact ld | exact ldE) ?_
      refine wy geq ?_
      refine wy mv ?_
      apply brAnd 4 48 52 (by exact rfl)
      · intro hb2
        refine un (h := ?_)
        refine wy (by first | exact fa | exact faE) ?_
        refine un (h := ?_)
        refine wy (by first | exact ld | exact ldE) ?_
        refine un (h := ?_)
        refine wy geq ?_
        refine wy (by first | exact pkT | exact pkF) ?_
        exact mg (by repeat (first | exact trivial | refine ⟨rfl, ?_⟩ | refine ⟨by rw [hb2]; rfl, ?_⟩)) slz_
      · intro hb2
        repeat (first | refine un (h := ?_) | refine sk (h := ?_) | refine WL.y (hy := pkF) (h := ?_) | refine WL.y (hy := pkT) (h := ?_))
        exact mg (by repeat (first | exact trivial | refine ⟨rfl, ?_⟩ | refine ⟨by rw [hb2]; rfl, ?_⟩)) slz_
      refine nl (h := ?_)
      refine q_seq (h := ?_)
      refine cd (by exact rfl) (fun h3 => ?_) (fun h3 => ?_)
      · skip
        have hR : rangeR f = [.agg #[.int .i64 (f.sets * (eachE f).low), .int .i64 ((2 * f.sets - 2) * (eachE f).high + (lastE f).high)], .int .i64 (f.sets * (eachE f).pts), .int .i64 0] := by
          have h' : (decide (0 ≤ (lastE f).high) && decide (0 ≤ (eachE f).high)) = true := h3
          rw [hR0, q1, q2, q3, h']; rfl
        refine rg (h := ?_)
        refine wy (by first | exact fa | exact faE) ?_
        refine wy (by first | exact ld | exact ldE) ?_
        refine wy mulI ?_
        refine wy subI ?_
        refine wy (by first | exact fa | exact faE) ?_
        refine wy (by first | exact ld | exact ldE) ?_
        refine wy (mulI (a := 2 * f.sets - 2) (b := (eachE f).high) (hb := by omega)) ?_
        refine wy (by first | exact fa | exact faE) ?_
        refine wy (by first | exact ld | exact ldE) ?_
        refine wy (addI (a := (2 * f.sets - 2) * (eachE f).high) (b := (lastE f).high) (hb := by unfold lastE; omega)) ?_
        refine wy asg ?_
        refine nl (h := ?_)
        refine q_seq (h := ?_)
        refine sq (h := ?_)
        refine rgD (by kernel_rfl) [(1000000, .blk b0 35 f.cells), (1000000, .blk be 56 [.int .i64 (eachE f).low, .int .i64 (eachE f).high])] (by repeat (first | exact HS.nil | (apply HS.keep; (repeat (first | exact At.here | apply At.there))) | (apply HS.ro; (repeat (first | exact Rds.ro | exact Rds.own | apply Rds.there))))) (h := ?_)
        refine tk 0 (hy := (by first | exact fa | exact faE)) (h := ?_)
        refine tk 1 (hy := (by first | exact ld | exact ldE)) (h := ?_)
        refine tk 2 (hy := (by first | exact fa | exact faE)) (h := ?_)
        refine tk 3 (hy := (by first | exact ld | exact ldE)) (h := ?_)
        refine tk 4 (hy := mulI (b := (eachE f).low) (hb := m1)) (h := ?_)
        refine tk 5 (hy := mv) (h := ?_)
        refine tk 6 (hy := bd) (h := ?_)
        refine tk 7 (hy := (by first | exact fa | exact faE)) (h := ?_)
        refine tk 8 (hy := (by first | exact ld | exact ldE)) (h := ?_)
        refine tk 9 (hy := mv) (h := ?_)
        refine tk 10 (hy := mulI (b := (eachE f).pts) (hb := m2)) (h := ?_)
        refine one 11 (h := ?_)
        first | refine stA (h := ?_) | refine stEA (h := ?_)
        refine nx (h := ?_)
        refine tk 12 (hy := asg) (h := ?_)
        refine tk 13 (hy := asg) (h := ?_)
        refine dn (h := ?_)
        refine q_seq (h := ?_)
        refine rtn (h := ?_)
        refine q_ret (hR := ?_)
        rw [hR]
        exact fun w hS => ⟨rfl, hS.sub slz_⟩
      · skip
        have hR : rangeR f = [.agg #[.int .i64 (f.sets * (eachE f).low), .int .i64 (-1)], .int .i64 (f.sets * (eachE f).pts), .int .i64 0] := by
          have h' : (decide (0 ≤ (lastE f).high) && decide (0 ≤ (eachE f).high)) = false := h3
          rw [hR0, q1, q2, q3, h']; rfl
        refine skp (h := ?_)
        refine q_seq (h := ?_)
        refine sq (h := ?_)
        refine rgD (by kernel_rfl) [(1000000, .blk b0 35 f.cells), (1000000, .blk be 56 [.int .i64 (eachE f).low, .int .i64 (eachE f).high])] (by repeat (first | exact HS.nil | (apply HS.keep; (repeat (first | exact At.here | apply At.there))) | (apply HS.ro; (repeat (first | exact Rds.ro | exact Rds.own | apply Rds.there))))) (h := ?_)
        refine tk 0 (hy := (by first | exact fa | exact faE)) (h := ?_)
        refine tk 1 (hy := (by first | exact ld | exact ldE)) (h := ?_)
        refine tk 2 (hy := (by first | exact fa | exact faE)) (h := ?_)
        refine tk 3 (hy := (by first | exact ld | exact ldE)) (h := ?_)
        refine tk 4 (hy := mulI (b := (eachE f).low) (hb := m1)) (h := ?_)
        refine tk 5 (hy := mv) (h := ?_)
        refine tk 6 (hy := bd) (h := ?_)
        refine tk 7 (hy := (by first | exact fa | exact faE)) (h := ?_)
        refine tk 8 (hy := (by first | exact ld | exact ldE)) (h := ?_)
        refine tk 9 (hy := mv) (h := ?_)
        refine tk 10 (hy := mulI (b := (eachE f).pts) (hb := m2)) (h := ?_)
        refine one 11 (h := ?_)
        first | refine stA (h := ?_) | refine stEA (h := ?_)
        refine nx (h := ?_)
        refine tk 12 (hy := asg) (h := ?_)
        refine tk 13 (hy := asg) (h := ?_)
        refine dn (h := ?_)
        refine q_seq (h := ?_)
        refine rtn (h := ?_)
        refine q_ret (hR := ?_)
        rw [hR]
        exact fun w hS => ⟨rfl, hS.sub slz_⟩

end Go.Proofs.YtpmmgljndceplaaGreat

namespace Go.Proofs.YtpmmgljndceplaaGreat
open Go Go.RowKit

abbrev Cs := Pr × Pr
abbrev ccs (c : Cs) : List Value := [.int .i64 c.1.1, .int .i64 c.1.2, .int .i64 c.2.1, .int .i64 c.2.2]
abbrev cv (c : Cs) : Value := .agg #[.int .i64 c.1.1, .int .i64 c.1.2, .int .i64 c.2.1, .int .i64 c.2.2]
def wideV (a b : Pr) : Pr := (min a.1 b.1, max a.2 b.2)
def orV (a b : Cs) : Cs := (wideV a.1 b.1, wideV a.2 b.2)
def zC : Cs := ((0, 0), (0, 0))
theorem wide_comm (a b : Pr) : wideV a b = wideV b a := by unfold wideV; rw [Int.min_comm, Int.max_comm]
theorem or_comm (a b : Cs) : orV a b = orV b a := by unfold orV; rw [wide_comm a.1, wide_comm a.2]
def bz (b : Bool) : Int := bif b then 1 else 0
theorem bz_rng (b : Bool) : 0 ≤ bz b ∧ bz b ≤ 1 := by cases b <;> decide
def bumpC (c : Cs) (ch st : Bool) : Cs := ((c.1.1 + bz ch, c.1.2 + bz ch), (c.2.1 + bz st, c.2.2 + bz st))
def tieN (f : Fmt) (won g : Pr) : Int := bif brksV (setV f won) g then 1 else 0
def endS (f : Fmt) (won g : Pr) (side : Int) : Bool := EO f (setV f won) (ownP side g).1 (ownP side g).2
def wonS (f : Fmt) (won g : Pr) (side : Int) : Pr := bif endS f won g side then addV won side else won
def gamS (f : Fmt) (won g : Pr) (side : Int) : Pr := bif endS f won g side then (0, 0) else addV g side
def overS (f : Fmt) (won g : Pr) (side : Int) : Bool := endS f won g side && decide ((ownP side (addV won side)).1 = f.sets)
def chgV (f : Fmt) (n t1 : Int) (won g : Pr) : Bool := dueV f (n + 1) && !brksV (setV f won) g || decide (t1 = 1) && dueV f (n - 1)
def courV (rec : Pr → Pr → Int → Int → Cs) (f : Fmt) (won g : Pr) (n t1 side : Int) : Cs :=
  bif overS f won g side then zC else bumpC (rec (wonS f won g side) (gamS f won g side) (n + 1) (tieN f won g)) (chgV f n t1 (wonS f won g side) (gamS f won g side)) (endS f won g side)
def fromF (f : Fmt) : Nat → Pr → Pr → Int → Int → Cs
  | 0, _, _, _, _ => zC
  | k + 1, won, g, n, t1 => orV (courV (fromF f k) f won g n t1 0) (courV (fromF f k) f won g n t1 1)
def Bdd (f : Fmt) : Prop := 0 ≤ f.ltie ∧ (f.sets = 1 ∨ 0 ≤ f.tie)
def Vs (f : Fmt) (won g : Pr) : Prop := ((0 ≤ won.1 ∧ won.1 < f.sets) ∧ 0 ≤ won.2 ∧ won.2 < f.sets) ∧ OpenP f (setV f won) g.1 g.2
def remV (f : Fmt) (won g : Pr) : Int := (2 * f.sets - 2 - won.1 - won.2) * (2 * f.tie + 1) + 2 * f.ltie + 1 - g.1 - g.2
section
variable {f : Fmt}
theorem open_sum {s : Pr} (ht : TieOk f s) (h0 : 0 ≤ s.1) {a b : Int} (h : OpenP f s a b) : a + b ≤ 2 * s.1 ∧ (a ≤ f.games ∧ b ≤ f.games) := by
  unfold TieOk at ht; unfold OpenP at h; omega
theorem set_last {won : Pr} (h1 : won.1 = f.sets - 1) (h2 : won.2 = f.sets - 1) : setV f won = (f.ltie, f.lto) := by
  unfold setV; rw [decide_eq_true h1, decide_eq_true h2]; rfl
theorem set_each {won : Pr} (h : ¬ (won.1 = f.sets - 1 ∧ won.2 = f.sets - 1)) : setV f won = (f.tie, f.to) := by
  unfold setV
  by_cases h1 : won.1 = f.sets - 1
  · rw [decide_eq_true h1, decide_eq_false (fun h2 => h ⟨h1, h2⟩)]; rfl
  · rw [decide_eq_false h1]; rfl
theorem bdd_set (hb : Bdd f) {won : Pr} (hw : (0 ≤ won.1 ∧ won.1 < f.sets) ∧ 0 ≤ won.2 ∧ won.2 < f.sets) : 0 ≤ (setV f won).1 := by
  by_cases h : won.1 = f.sets - 1 ∧ won.2 = f.sets - 1
  · rw [set_last h.1 h.2]; exact hb.1
  · rw [set_each h]
    rcases hb.2 with h1 | h1
    · omega
    · exact h1
theorem mul_ge {d e : Int} (hd : 1 ≤ d) (he : 0 ≤ e) : e ≤ d * e := by
  have h := Int.mul_nonneg (show 0 ≤ d - 1 by omega) he
  rw [Int.sub_mul, Int.one_mul] at h
  omega
theorem addB_sum (p : Pr) (side : Int) : (addV p side).1 + (addV p side).2 = p.1 + p.2 + 1 := by
  unfold addV; cases decide (side = 0)
  · show p.1 + (p.2 + 1) = _; omega
  · show p.1 + 1 + p.2 = _; omega
theorem rem_pos (hf : f.Ok) (hb : Bdd f) {won g : Pr} (h : Vs f won g) : 1 ≤ remV f won g := by
  have ho := open_sum (tie_ok hf won) (bdd_set hb h.1) h.2
  have hw := h.1
  unfold remV
  by_cases hl : won.1 = f.sets - 1 ∧ won.2 = f.sets - 1
  · rw [set_last hl.1 hl.2] at ho
    dsimp only at ho
    rw [show 2 * f.sets - 2 - won.1 - won.2 = 0 by omega, Int.zero_mul]; omega
  · rw [set_each hl] at ho
    dsimp only at ho
    have h0 := hb.1
    have h2 : 0 ≤ f.tie := by rcases hb.2 with h1 | h1 <;> omega
    have hm := mul_ge (d := 2 * f.sets - 2 - won.1 - won.2) (e := 2 * f.tie + 1) (by omega) (by omega)
    omega
theorem end_open (hf : f.Ok) {won g : Pr} {side : Int} (hs : side = 0 ∨ side = 1) (h : OpenP f (setV f won) g.1 g.2) (he : endS f won g side = false) : OpenP f (setV f won) (addV g side).1 (addV g side).2 := by
  have ht := tie_ok hf won
  rcases hs with rfl | rfl
  · exact open_next ht h ((eo_is ht h).symm.trans he)
  · exact open_next' ht h ((eo_is' ht h).symm.trans he)
theorem step_ok' (hf : f.Ok) (hb : Bdd f) {won g : Pr} {side : Int} (hs : side = 0 ∨ side = 1) (h : Vs f won g) (ho : overS f won g side = false) : Vs f (wonS f won g side) (gamS f won g side) ∧ remV f (wonS f won g side) (gamS f won g side) ≤ remV f won g - 1 := by
  have hw := h.1
  unfold wonS gamS
  cases he : endS f won g side
  · have h1 := end_open hf hs h.2 he
    have h2 := addB_sum g side
    simp only [cond_false]
    refine ⟨⟨hw, h1⟩, ?_⟩
    unfold remV
    omega
  · rw [overS, he, Bool.true_and, decide_eq_false_iff_not] at ho
    have hao : (0 ≤ (addV won side).1 ∧ (addV won side).1 < f.sets) ∧ 0 ≤ (addV won side).2 ∧ (addV won side).2 < f.sets := by
      rcases hs with rfl | rfl
      · have h1 : ¬ won.1 + 1 = f.sets := ho
        show (0 ≤ won.1 + 1 ∧ won.1 + 1 < f.sets) ∧ 0 ≤ won.2 ∧ won.2 < f.sets
        omega
      · have h1 : ¬ won.2 + 1 = f.sets := ho
        show (0 ≤ won.1 ∧ won.1 < f.sets) ∧ 0 ≤ won.2 + 1 ∧ won.2 + 1 < f.sets
        omega
    have h2 := addB_sum won side
    have hsum := open_sum (tie_ok hf won) (bdd_set hb hw) h.2
    simp only [cond_true]
    refine ⟨⟨hao, open0 (tie_ok hf _)⟩, ?_⟩
    have hnl : ¬ (won.1 = f.sets - 1 ∧ won.2 = f.sets - 1) := by omega
    rw [set_each hnl] at hsum
    unfold remV
    rw [show 2 * f.sets - 2 - (addV won side).1 - (addV won side).2 = (2 * f.sets - 2 - won.1 - won.2) - 1 by omega, Int.sub_mul, Int.one_mul]
    dsimp only at hsum ⊢
    omega
theorem cour_congr (hf : f.Ok) (hb : Bdd f) {won g : Pr} {n t1 side : Int} (hs : side = 0 ∨ side = 1) (h : Vs f won g) {r1 r2 : Pr → Pr → Int → Int → Cs} (hr : ∀ won' g' n' t', Vs f won' g' → remV f won' g' ≤ remV f won g - 1 → n' = n + 1 → r1 won' g' n' t' = r2 won' g' n' t') : courV r1 f won g n t1 side = courV r2 f won g n t1 side := by
  unfold courV
  cases ho : overS f won g side
  · obtain ⟨h1, h2⟩ := step_ok' hf hb hs h ho
    rw [hr _ _ _ _ h1 h2 rfl]
  · rfl
theorem from_more (hf : f.Ok) (hb : Bdd f) : ∀ (k m : Nat) (won g : Pr) (n t1 : Int), Vs f won g → remV f won g ≤ k → remV f won g ≤ m → fromF f k won g n t1 = fromF f m won g n t1
  | 0, m, won, g, n, t1, h, h1, _ => by have := rem_pos hf hb h; omega
  | k + 1, 0, won, g, n, t1, h, _, h2 => by have := rem_pos hf hb h; omega
  | k + 1, m + 1, won, g, n, t1, h, h1, h2 => by
    rw [fromF, fromF, cour_congr hf hb (.inl rfl) h (fun w' g' n' t' hv hr _ => from_more hf hb k m w' g' n' t' hv (by omega) (by omega)), cour_congr hf hb (.inr rfl) h (fun w' g' n' t' hv hr _ => from_more hf hb k m w' g' n' t' hv (by omega) (by omega))]
def fromP (f : Fmt) (won g : Pr) (n t1 : Int) : Cs := fromF f (remV f won g).toNat won g n t1
theorem from_eq (hf : f.Ok) (hb : Bdd f) {won g : Pr} {n t1 : Int} (h : Vs f won g) : fromP f won g n t1 = orV (courV (fromP f) f won g n t1 0) (courV (fromP f) f won g n t1 1) := by
  have hp := rem_pos hf hb h
  obtain ⟨k, hk⟩ : ∃ k, (remV f won g).toNat = k + 1 := ⟨(remV f won g).toNat - 1, by omega⟩
  unfold fromP
  rw [hk, fromF]
  rw [cour_congr (r1 := fromF f k) (r2 := fun won g n t1 => fromF f (remV f won g).toNat won g n t1) hf hb (.inl rfl) h (fun w' g' n' t' hv hr _ => from_more hf hb _ _ w' g' n' t' hv (by omega) (by have := rem_pos hf hb hv; omega)), cour_congr (r1 := fromF f k) (r2 := fun won g n t1 => fromF f (remV f won g).toNat won g n t1) hf hb (.inr rfl) h (fun w' g' n' t' hv hr _ => from_more hf hb _ _ w' g' n' t' hv (by omega) (by have := rem_pos hf hb hv; omega))]
def CsB (c : Cs) (k : Int) : Prop := (0 ≤ c.1.1 ∧ c.1.1 ≤ c.1.2 ∧ c.1.2 ≤ k) ∧ 0 ≤ c.2.1 ∧ c.2.1 ≤ c.2.2 ∧ c.2.2 ≤ k
theorem csb_zero {k : Int} (h : 0 ≤ k) : CsB zC k := by unfold CsB zC; dsimp only; omega
theorem csb_bump {c : Cs} {k : Int} (h : CsB c k) (a b : Bool) : CsB (bumpC c a b) (k + 1) := by
  have h1 := bz_rng a
  have h2 := bz_rng b
  unfold CsB bumpC at *; dsimp only; omega
theorem csb_or {a b : Cs} {k : Int} (h1 : CsB a k) (h2 : CsB b k) : CsB (orV a b) k := by
  unfold CsB orV wideV at *; dsimp only; omega
theorem csb_cour {rec : Pr → Pr → Int → Int → Cs} {k : Int} (hk : 0 ≤ k) (h : ∀ w g n t, CsB (rec w g n t) k) (won g : Pr) (n t1 side : Int) : CsB (courV rec f won g n t1 side) (k + 1) := by
  unfold courV
  cases overS f won g side
  · exact csb_bump (h _ _ _ _) _ _
  · exact csb_zero (by omega)
theorem csb_from : ∀ (k : Nat) (won g : Pr) (n t1 : Int), CsB (fromF f k won g n t1) k
  | 0, _, _, _, _ => csb_zero (Int.le_refl _)
  | k + 1, won, g, n, t1 => csb_or (by have := csb_cour (f := f) (rec := fromF f k) (k := k) (by omega) (fun w g n t => csb_from k w g n t) won g n t1 0; exact this) (by have := csb_cour (f := f) (rec := fromF f k) (k := k) (by omega) (fun w g n t => csb_from k w g n t) won g n t1 1; exact this)
theorem rem_le (hf : f.Ok) {won g : Pr} (h : Vs f won g) : remV f won g ≤ 85 := by
  have hw := h.1
  have ho := h.2
  have h1 := hf.s1
  have h2 := hf.g1
  have h3 := hf.t
  have h4 := hf.lt
  have h5 := hf.g0
  unfold OpenP at ho
  unfold remV
  have hd : 2 * f.sets - 2 - won.1 - won.2 = 0 ∨ 2 * f.sets - 2 - won.1 - won.2 = 1 ∨ 2 * f.sets - 2 - won.1 - won.2 = 2 ∨ 2 * f.sets - 2 - won.1 - won.2 = 3 ∨ 2 * f.sets - 2 - won.1 - won.2 = 4 := by omega
  rcases hd with e | e | e | e | e <;> rw [e] <;> omega
theorem csb_P (hf : f.Ok) {won g : Pr} {n t1 : Int} (h : Vs f won g) : CsB (fromP f won g n t1) 85 := by
  have h1 := csb_from (f := f) (remV f won g).toNat won g n t1
  have h2 := rem_le hf h
  unfold fromP
  unfold CsB at h1 ⊢
  omega

end
end Go.Proofs.YtpmmgljndceplaaGreat
