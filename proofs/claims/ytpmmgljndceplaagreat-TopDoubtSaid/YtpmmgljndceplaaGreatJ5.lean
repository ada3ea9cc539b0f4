/- The texts of the walk, part 5. -/
import Derived.Test.YtpmmgljndceplaaGreatJ4
import Derived.Shelf.SlSortCmp.WholeK
import Derived.Test.YtpmmgljndceplaaGreatProg
namespace Go.Proofs.YtpmmgljndceplaaGreat
open Go Go.RowKit

abbrev restc (f : Fmt) (b : Nat) : List Value := [.int .i64 f.sets, .int .i64 f.games, .bool f.noAd, .int .i64 f.tie, .int .i64 f.to, .int .i64 f.ltie, .int .i64 f.lto, .int .i64 f.first, .int .i64 f.thn, .bool f.dbl, .map (some b)]
abbrev restv (f : Fmt) (b : Nat) : Value := .agg #[.int .i64 f.sets, .int .i64 f.games, .bool f.noAd, .int .i64 f.tie, .int .i64 f.to, .int .i64 f.ltie, .int .i64 f.lto, .int .i64 f.first, .int .i64 f.thn, .bool f.dbl, .map (some b)]
structure Spo where
  (won games : Pr) (num t0 t1 : Int)
abbrev Spo.cells (s : Spo) : List Value := [.int .i64 s.won.1, .int .i64 s.won.2, .int .i64 s.games.1, .int .i64 s.games.2, .int .i64 s.num, .int .i64 s.t0, .int .i64 s.t1]
abbrev Spo.val (s : Spo) : Value := .agg #[.int .i64 s.won.1, .int .i64 s.won.2, .int .i64 s.games.1, .int .i64 s.games.2, .int .i64 s.num, .int .i64 s.t0, .int .i64 s.t1]
theorem C_bound_or1 (a b : Pr) (w : World) : C0 Tryz.prog 133 [pv a, pv b] w (pv (wideV a b)) := by
  refine ⟨en Tryz.func133 Tryz.ntmps133 (St.init w) (h := fun F => ?_)⟩
  refine sq (h := ?_)
  refine rg (h := ?_)
  refine bxA (h := fun b0 => ?_)
  refine bxA (h := fun b1 => ?_)
  refine al (h := fun b2 => ?_)
  refine nl (h := ?_)
  refine q_seq (h := ?_)
  refine sq (h := ?_)
  refine rg (h := ?_)
  refine wy (by first | exact fa | exact faE) ?_
  refine wy (by first | exact ld | exact ldE) ?_
  refine wy (by first | exact fa | exact faE) ?_
  refine wy (by first | exact ld | exact ldE) ?_
  refine wy minI ?_
  refine wy (by first | exact fa | exact faE) ?_
  refine wy (by first | exact ld | exact ldE) ?_
  refine wy (by first | exact fa | exact faE) ?_
  refine wy (by first | exact ld | exact ldE) ?_
  refine wy maxI ?_
  refine wy bd ?_
  first | refine stA (h := ?_) | refine stEA (h := ?_)
  refine nl (h := ?_)
  refine q_seq (h := ?_)
  refine rtn (h := ?_)
  refine q_ret (hR := ?_)
  exact fun w hS => ⟨rfl, hS.sub slz_⟩
theorem C_bound_or (a b : Cs) (w : World) : C0 Tryz.prog 116 [cv a, cv b] w (cv (orV a b)) := by
  refine ⟨en Tryz.func116 Tryz.ntmps116 (St.init w) (h := fun F => ?_)⟩
  refine sq (h := ?_)
  refine rg (h := ?_)
  refine bxA (h := fun b0 => ?_)
  refine bxA (h := fun b1 => ?_)
  refine al (h := fun b2 => ?_)
  refine nl (h := ?_)
  refine q_seq (h := ?_)
  refine sq (h := ?_)
  refine rg (h := ?_)
  refine wy asg ?_
  refine nl (h := ?_)
  refine q_seq (h := ?_)
  refine sq (h := ?_)
  refine rgD (by kernel_rfl) [(1000000, .blk b0 125 (ccs a)), (1000000, .blk b1 125 (ccs b))] (by repeat (first | exact HS.nil | (apply HS.keep; (repeat (first | exact At.here | apply At.there))) | (apply HS.ro; (repeat (first | exact Rds.ro | exact Rds.own | apply Rds.there))))) (h := ?_)
  refine tk 0 (hy := mv) (h := ?_)
  refine tk 1 (hy := (by first | exact fa | exact faE)) (h := ?_)
  refine tk 2 (hy := (by first | exact ldA | exact ldEA)) (h := ?_)
  refine tk 3 (hy := (by first | exact fa | exact faE)) (h := ?_)
  refine tk 4 (hy := (by first | exact ldA | exact ldEA)) (h := ?_)
  refine tk 6 (hy := mv) (h := ?_)
  refine tk 7 (hy := (by first | exact fa | exact faE)) (h := ?_)
  refine tk 8 (hy := (by first | exact ldA | exact ldEA)) (h := ?_)
  refine tk 9 (hy := (by first | exact fa | exact faE)) (h := ?_)
  refine tk 10 (hy := (by first | exact ldA | exact ldEA)) (h := ?_)
  refine one 5 (h := ?_)
  refine clf0 (f := 133) (fi := []) (cap := []) (hc := fun w hS => C_bound_or1 a.1 b.1 w) (h := ?_)
  refine nx (h := ?_)
  refine one 11 (h := ?_)
  refine clf0 (f := 133) (fi := []) (cap := []) (hc := fun w hS => C_bound_or1 a.2 b.2 w) (h := ?_)
  refine nx (h := ?_)
  refine tk 12 (hy := bd) (h := ?_)
  refine one 13 (h := ?_)
  first | refine stA (h := ?_) | refine stEA (h := ?_)
  refine nx (h := ?_)
  refine dn (h := ?_)
  refine q_seq (h := ?_)
  refine rtn (h := ?_)
  refine q_ret (hR := ?_)
  exact fun w hS => ⟨rfl, hS.sub slz_⟩
theorem due_form (f : Fmt) (n : Int) : dueV f n = (decide (0 < f.first) && (decide (n = f.first) || decide (f.first < n) && decide (0 < f.thn) && decide ((n - f.first) % f.thn = 0))) := by
  unfold dueV
  rw [show decide (n - f.first = 0) = decide (n = f.first) from decide_eq_decide.2 (by omega), show decide (0 < n - f.first) = decide (f.first < n) from decide_eq_decide.2 (by omega)]
theorem C_rest_due (f : Fmt) (b : Nat) (n : Int) (hf : f.Ok) (hn : -1000000 ≤ n ∧ n ≤ 1000000) (w : World) : C0 Tryz.prog 115 [restv f b, .int .i64 n] w (.bool (dueV f n)) := by
  have h1 := hf.f0
  have h2 := hf.f1
  have h3 := hf.n0
  rw [due_form]
  refine ⟨en Tryz.func115 Tryz.ntmps115 (St.init w) (h := fun F => ?_)⟩
  refine sq (h := ?_)
  refine rg (h := ?_)
  refine bxA (h := fun b0 => ?_)
  refine wy asg ?_
  refine nl (h := ?_)
  refine q_seq (h := ?_)
  refine sq (h := ?_)
  refine rg (h := ?_)
  refine wy (by first | exact fa | exact faE) ?_
  refine wy (by first | exact fa | exact faE) ?_
  refine wy (by first | exact ld | exact ldE) ?_
  refine wy gtr ?_
  refine wy mv ?_
  apply brAnd 31 9 40 (by exact rfl)
  · intro hb0
    refine un (h := ?_)
    refine wy mv ?_
    refine un (h := ?_)
    refine wy (by first | exact fa | exact faE) ?_
    refine un (h := ?_)
    refine wy (by first | exact fa | exact faE) ?_
    refine un (h := ?_)
    refine wy (by first | exact ld | exact ldE) ?_
    refine un (h := ?_)
    refine wy eql ?_
    refine un (h := ?_)
    refine wy mv ?_
    apply brOr 24 15 39 (by exact rfl)
    · intro hb1
      refine un (h := ?_)
      refine wy mv ?_
      refine un (h := ?_)
      refine wy (by first | exact fa | exact faE) ?_
      refine un (h := ?_)
      refine wy (by first | exact fa | exact faE) ?_
      refine un (h := ?_)
      refine wy (by first | exact ld | exact ldE) ?_
      refine un (h := ?_)
      refine wy gtr ?_
      refine un (h := ?_)
      refine wy mv ?_
      apply brAnd 5 21 26 (by exact rfl)
      · intro hb2
        refine un (h := ?_)
        refine wy (by first | exact fa | exact faE) ?_
        refine un (h := ?_)
        refine wy (by first | exact fa | exact faE) ?_
        refine un (h := ?_)
        refine wy (by first | exact ld | exact ldE) ?_
        refine un (h := ?_)
        refine wy gtr ?_
        refine un (h := ?_)
        refine wy (by first | exact pkT | exact pkF) ?_
        exact mg (by repeat (first | exact trivial | refine ⟨rfl, ?_⟩ | refine ⟨by rw [hb2]; rfl, ?_⟩ | refine ⟨by rw [hb0]; rfl, ?_⟩ | refine ⟨by rw [hb1]; rfl, ?_⟩)) slz_
      · intro hb2
        repeat (first | refine un (h := ?_) | refine sk (h := ?_) | refine WL.y (hy := pkF) (h := ?_) | refine WL.y (hy := pkT) (h := ?_))
        exact mg (by repeat (first | exact trivial | refine ⟨rfl, ?_⟩ | refine ⟨by rw [hb2]; rfl, ?_⟩ | refine ⟨by rw [hb0]; rfl, ?_⟩ | refine ⟨by rw [hb1]; rfl, ?_⟩)) slz_
      refine un (h := ?_)
      refine wy mv ?_
      apply brAnd 11 27 38 (by exact rfl)
      · intro hb3
        obtain ⟨hng, hthn⟩ : f.first < n ∧ 0 < f.thn := by simp only [Bool.and_eq_true, decide_eq_true_eq] at hb3; omega
        refine un (h := ?_)
        refine wy mv ?_
        refine un (h := ?_)
        refine wy (by first | exact fa | exact faE) ?_
        refine un (h := ?_)
        refine wy (by first | exact fa | exact faE) ?_
        refine un (h := ?_)
        refine wy (by first | exact ld | exact ldE) ?_
        refine un (h := ?_)
        refine wy subI ?_
        refine un (h := ?_)
        refine wy (by first | exact fa | exact faE) ?_
        refine un (h := ?_)
        refine wy (by first | exact fa | exact faE) ?_
        refine un (h := ?_)
        refine wy (by first | exact ld | exact ldE) ?_
        refine un (h := ?_)
        refine wy remI ?_
        refine un (h := ?_)
        refine wy eql ?_
        refine un (h := ?_)
        refine wy (by first | exact pkT | exact pkF) ?_
        exact mg (by repeat (first | exact trivial | refine ⟨rfl, ?_⟩ | refine ⟨by rw [hb3]; rfl, ?_⟩ | refine ⟨by rw [hb0]; rfl, ?_⟩ | refine ⟨by rw [hb1]; rfl, ?_⟩)) slz_
      · intro hb3
        repeat (first | refine un (h := ?_) | refine sk (h := ?_) | refine WL.y (hy := pkF) (h := ?_) | refine WL.y (hy := pkT) (h := ?_))
        exact mg (by repeat (first | exact trivial | refine ⟨rfl, ?_⟩ | refine ⟨by rw [hb3]; rfl, ?_⟩ | refine ⟨by rw [hb0]; rfl, ?_⟩ | refine ⟨by rw [hb1]; rfl, ?_⟩)) slz_
      refine un (h := ?_)
      refine wy (by first | exact pkT | exact pkF) ?_
      exact mg (by repeat (first | exact trivial | refine ⟨rfl, ?_⟩ | refine ⟨by rw [hb1]; rfl, ?_⟩ | refine ⟨by rw [hb0]; rfl, ?_⟩)) slz_
    · intro hb1
      repeat (first | refine un (h := ?_) | refine sk (h := ?_) | refine WL.y (hy := pkF) (h := ?_) | refine WL.y (hy := pkT) (h := ?_))
      exact mg (by repeat (first | exact trivial | refine ⟨rfl, ?_⟩ | refine ⟨by rw [hb1]; rfl, ?_⟩ | refine ⟨by rw [hb0]; rfl, ?_⟩)) slz_
    refine wy (by first | exact pkT | exact pkF) ?_
    exact mg (by repeat (first | exact trivial | refine ⟨rfl, ?_⟩ | refine ⟨by rw [hb0]; rfl, ?_⟩)) slz_
  · intro hb0
    repeat (first | refine un (h := ?_) | refine sk (h := ?_) | refine WL.y (hy := pkF) (h := ?_) | refine WL.y (hy := pkT) (h := ?_))
    exact mg (by repeat (first | exact trivial | refine ⟨rfl, ?_⟩ | refine ⟨by rw [hb0]; rfl, ?_⟩)) slz_
  refine wy asg ?_
  refine nl (h := ?_)
  refine q_seq (h := ?_)
  refine rtn (h := ?_)
  refine q_ret (hR := ?_)
  exact fun w hS => ⟨rfl, hS.sub slz_⟩
theorem C_rest_tie (f : Fmt) (b : Nat) (won g : Pr) (hf : f.Ok) (w : World) : C0 Tryz.prog 71 [restv f b, pv won, pv g] w (.int .i64 (tieN f won g)) := by
  have hs0 := hf.s0
  have hs1 := hf.s1
  refine ⟨en Tryz.func71 Tryz.ntmps71 (St.init w) (h := fun F => ?_)⟩
  refine sq (h := ?_)
  refine rg (h := ?_)
  refine bxA (h := fun b0 => ?_)
  refine bxA (h := fun b1 => ?_)
  refine bxA (h := fun b2 => ?_)
  refine wy asg ?_
  refine nl (h := ?_)
  refine q_seq (h := ?_)
  refine sq (h := ?_)
  refine rg (h := ?_)
  refine wy (by first | exact fa | exact faE) ?_
  refine wy (by first | exact fa | exact faE) ?_
  refine wy (by first | exact ld | exact ldE) ?_
  refine wy asg ?_
  refine nl (h := ?_)
  refine q_seq (h := ?_)
  refine ct (X := Unit) (fun _ => True) (fun _ => [(3, .pointer (some ⟨b0, 0, none⟩)), (4, .pointer (some ⟨b1, 0, none⟩)), (5, .pointer (some ⟨b2, 0, none⟩)), (7, .int .i64 (setV f won).1)]) (fun _ => [.blk b0 153 (restc f b), .blk b1 38 [.int .i64 won.1, .int .i64 won.2], .blk b2 38 [.int .i64 g.1, .int .i64 g.2]]) (h1 := ?_) (h2 := ?_)
  · skip
    refine sq (h := ?_)
    refine rg (h := ?_)
    refine wy (by first | exact fa | exact faE) ?_
    refine wy (by first | exact ld | exact ldE) ?_
    refine wy (by first | exact fa | exact faE) ?_
    refine wy (by first | exact fa | exact faE) ?_
    refine wy (by first | exact ld | exact ldE) ?_
    refine wy subI ?_
    refine wy eql ?_
    refine wy mv ?_
    apply brAnd 8 18 26 (by exact rfl)
    · intro hb0
      refine un (h := ?_)
      refine wy (by first | exact fa | exact faE) ?_
      refine un (h := ?_)
      refine wy (by first | exact ld | exact ldE) ?_
      refine un (h := ?_)
      refine wy (by first | exact fa | exact faE) ?_
      refine un (h := ?_)
      refine wy (by first | exact fa | exact faE) ?_
      refine un (h := ?_)
      refine wy (by first | exact ld | exact ldE) ?_
      refine un (h := ?_)
      refine wy subI ?_
      refine un (h := ?_)
      refine wy eql ?_
      refine wy (by first | exact pkT | exact pkF) ?_
      exact mg (by repeat (first | exact trivial | refine ⟨rfl, ?_⟩ | refine ⟨by rw [hb0]; rfl, ?_⟩)) slz_
    · intro hb0
      repeat (first | refine un (h := ?_) | refine sk (h := ?_) | refine WL.y (hy := pkF) (h := ?_) | refine WL.y (hy := pkT) (h := ?_))
      exact mg (by repeat (first | exact trivial | refine ⟨rfl, ?_⟩ | refine ⟨by rw [hb0]; rfl, ?_⟩)) slz_
    refine nl (h := ?_)
    refine q_seq (h := ?_)
    refine cd (by exact rfl) (fun h1 => ?_) (fun h1 => ?_)
    · skip
      have hs : (setV f won).1 = f.ltie := by rw [setV, h1]; rfl
      refine rg (h := ?_)
      refine wy (by first | exact fa | exact faE) ?_
      refine wy (by first | exact fa | exact faE) ?_
      refine wy (by first | exact ld | exact ldE) ?_
      refine wy asg ?_
      refine nl (h := ?_)
      exact ctn () trivial (by repeat (first | exact trivial | refine ⟨rfl, ?_⟩ | refine ⟨by rw [hs]; rfl, ?_⟩)) slz_
    · skip
      have hs : (setV f won).1 = f.tie := by rw [setV, h1]; rfl
      refine skp (h := ?_)
      exact ctn () trivial (by repeat (first | exact trivial | refine ⟨rfl, ?_⟩ | refine ⟨by rw [hs]; rfl, ?_⟩)) slz_
  rintro ⟨⟩ -
  refine sq (h := ?_)
  refine sq (h := ?_)
  refine rg (h := ?_)
  refine wy (by first | exact fa | exact faE) ?_
  refine wy (by first | exact ld | exact ldE) ?_
  refine wy mv ?_
  refine wy eql ?_
  refine wy mv ?_
  apply brAnd 5 34 39 (by exact rfl)
  · intro hb2
    refine un (h := ?_)
    refine wy (by first | exact fa | exact faE) ?_
    refine un (h := ?_)
    refine wy (by first | exact ld | exact ldE) ?_
    refine un (h := ?_)
    refine wy mv ?_
    refine un (h := ?_)
    refine wy eql ?_
    refine wy (by first | exact pkT | exact pkF) ?_
    exact mg (by repeat (first | exact trivial | refine ⟨rfl, ?_⟩ | refine ⟨by rw [hb2]; rfl, ?_⟩)) slz_
  · intro hb2
    repeat (first | refine un (h := ?_) | refine sk (h := ?_) | refine WL.y (hy := pkF) (h := ?_) | refine WL.y (hy := pkT) (h := ?_))
    exact mg (by repeat (first | exact trivial | refine ⟨rfl, ?_⟩ | refine ⟨by rw [hb2]; rfl, ?_⟩)) slz_
  refine nl (h := ?_)
  refine q_seq (h := ?_)
  refine cd (by exact rfl) (fun h3 => ?_) (fun h3 => ?_)
  · skip
    have hE : tieN f won g = 1 := by rw [tieN, brksV, h3]; rfl
    refine sq (h := ?_)
    refine rg (h := ?_)
    refine wy asg ?_
    refine nl (h := ?_)
    refine q_seq (h := ?_)
    refine rtn (h := ?_)
    refine q_then_ret (h := ?_)
    refine q_ret (hR := ?_)
    rw [hE]
    exact fun w hS => ⟨rfl, hS.sub slz_⟩
  · skip
    have hE : tieN f won g = 0 := by rw [tieN, brksV, h3]; rfl
    refine skp (h := ?_)
    refine q_seq (h := ?_)
    refine sq (h := ?_)
    refine rg (h := ?_)
    refine wy asg ?_
    refine nl (h := ?_)
    refine q_seq (h := ?_)
    refine rtn (h := ?_)
    refine q_ret (hR := ?_)
    rw [hE]
    exact fun w hS => ⟨rfl, hS.sub slz_⟩
theorem same_is {f : Fmt} {won g : Pr} {t0 side : Int} (hs : side = 0 ∨ side = 1) (ht : t0 = tieN f won g) : (decide (t0 = 0) && (decide ((ownP side g).1 + 1 < f.games) || decide ((ownP side g).1 + 1 - (ownP side g).2 < 2))) = !endS f won g side := by
  have h0 : decide (t0 = 0) = !brksV (setV f won) g := by
    rw [ht, tieN]; cases brksV (setV f won) g <;> rfl
  rw [h0, endS, EO, ← own_pair, brks_own hs, Bool.eq_iff_iff]
  cases brksV (setV f won) g
  · simp only [Bool.not_false, Bool.true_and, Bool.false_or, Bool.or_eq_true, Bool.not_eq_true', Bool.and_eq_false_iff, decide_eq_true_eq, decide_eq_false_iff_not]; omega
  · simp
def afterS (f : Fmt) (s : Spo) (side : Int) : Spo := ⟨wonS f s.won s.games side, gamS f s.won s.games side, s.num + 1, tieN f (wonS f s.won s.games side) (gamS f s.won s.games side), s.t0⟩
set_option maxRecDepth 100000 in
theorem C_rest_after0 (f : Fmt) (bm : Nat) (s : Spo) (hf : f.Ok) (ht : s.t0 = tieN f s.won s.games) (hw : (0 ≤ s.won.1 ∧ s.won.1 ≤ 3) ∧ 0 ≤ s.won.2 ∧ s.won.2 ≤ 3) (hg : (0 ≤ s.games.1 ∧ s.games.1 ≤ 1000) ∧ 0 ≤ s.games.2 ∧ s.games.2 ≤ 1000) (hn : 0 ≤ s.num ∧ s.num ≤ 1000) (w : World) : C0 Tryz.prog 114 [restv f bm, s.val, .int .i64 0] w (.tuple #[(afterS f s 0).val, .bool (!endS f s.won s.games 0), .bool (overS f s.won s.games 0)]) := by
  have hsm := same_is (f := f) (won := s.won) (g := s.games) (side := 0) (.inl rfl) ht
  rw [own0] at hsm
  refine ⟨en Tryz.func114 Tryz.ntmps114 (St.init w) (h := fun F => ?_)⟩
  refine sq (h := ?_)
  refine rg (h := ?_)
  refine bxA (h := fun b0 => ?_)
  refine bxA (h := fun b1 => ?_)
  refine al (h := fun b2 => ?_)
  refine wy asg ?_
  refine wy asg ?_
  refine nl (h := ?_)
  refine q_seq (h := ?_)
  refine sq (h := ?_)
  refine rg (h := ?_)
  refine wy (by first | exact fa | exact faE) ?_
  refine wy (by first | exact fa | exact faE) ?_
  refine wy (by first | exact fa | exact faE) ?_
  refine wy (by first | exact fa | exact faE) ?_
  refine wy asg ?_
  refine wy asg ?_
  refine nl (h := ?_)
  refine q_seq (h := ?_)
  refine sq (h := ?_)
  refine rg (h := ?_)
  refine wy (by first | exact fa | exact faE) ?_
  refine wy (by first | exact fa | exact faE) ?_
  refine wy asg ?_
  refine nl (h := ?_)
  refine q_seq (h := ?_)
  refine sq (h := ?_)
  refine rg (h := ?_)
  refine wy (by first | exact ldA | exact ldEA) ?_
  first | refine stA (h := ?_) | refine stEA (h := ?_)
  refine nl (h := ?_)
  refine q_seq (h := ?_)
  refine sq (h := ?_)
  refine sq (h := ?_)
  refine rg (h := ?_)
  refine wy mv ?_
  refine wy eql ?_
  refine nl (h := ?_)
  refine q_seq (h := ?_)
  refine cd (by exact rfl) (fun h0 => ?_) (fun h0 => ?_)
  · skip
    exfalso
    exact absurd (of_decide_eq_true h0 : (0 : Int) = 1) (by decide)
  · skip
    have h1 := of_decide_eq_false h0
    refine skp (h := ?_)
    refine q_seq (h := ?_)
    refine sq (h := ?_)
    refine rg (h := ?_)
    refine wy mv ?_
    refine wy nck ?_
    refine wy (by first | exact ld | exact ldE) ?_
    refine wy addI ?_
    refine wy nck ?_
    first | refine st (h := ?_) | refine stE (h := ?_)
    refine nl (h := ?_)
    refine q_seq (h := ?_)
    refine ct (X := Unit) (fun _ => True) (fun _ => [(2, .int .i64 0), (3, .pointer (some ⟨b0, 0, none⟩)), (4, .pointer (some ⟨b1, 0, none⟩)), (6, .pointer (some ⟨b2, 0, none⟩)), (7, .bool (!endS f s.won s.games 0)), (8, .bool false), (9, .pointer (some ⟨b2, 2, none⟩)), (10, .pointer (some ⟨b2, 3, none⟩)), (11, .pointer (some ⟨b2, 0, none⟩))]) (fun _ => [.blk b2 156 [.int .i64 s.won.1, .int .i64 s.won.2, .int .i64 (addV s.games 0).1, .int .i64 (addV s.games 0).2, .int .i64 s.num, .int .i64 s.t0, .int .i64 s.t1], .blk b0 153 (restc f bm), .blk b1 156 s.cells]) (h1 := ?_) (h2 := ?_)
    · skip
      refine rgD0 (by kernel_rfl) (h := ?_)
      refine tk 0 (hy := (by first | exact fa | exact faE)) (h := ?_)
      refine tk 1 (hy := ixA) (h := ?_)
      refine tk 2 (hy := (by first | exact ld | exact ldE)) (h := ?_)
      refine tk 3 (hy := eql) (h := ?_)
      refine tk 4 (hy := mv) (h := ?_)
      refine brH (g := 34) (by exact rfl) (fun hb1 => ?_) (fun hb1 => ?_)
      · skip
        have kA : decide (s.t0 = 0) = true := hb1
        refine tk 5 (hy := mv) (h := ?_)
        refine tk 6 (hy := nck) (h := ?_)
        refine tk 7 (hy := (by first | exact ld | exact ldE)) (h := ?_)
        refine tk 8 (hy := (by first | exact fa | exact faE)) (h := ?_)
        refine tk 9 (hy := (by first | exact fa | exact faE)) (h := ?_)
        refine tk 10 (hy := (by first | exact ld | exact ldE)) (h := ?_)
        refine tk 11 (hy := lss) (h := ?_)
        refine tk 12 (hy := mv) (h := ?_)
        refine brH (g := 42) (by exact rfl) (fun hb2 => ?_) (fun hb2 => ?_)
        · skip
          have kB : decide (s.games.1 + 1 < f.games) = true := hb2
          refine tkS 13 (h := ?_)
          refine tkS 14 (h := ?_)
          refine tkS 15 (h := ?_)
          refine tkS 16 (h := ?_)
          refine tkS 17 (h := ?_)
          refine tkS 18 (h := ?_)
          refine tkS 19 (h := ?_)
          refine tkS 20 (h := ?_)
          refine tk 21 (hy := (by first | exact pkT | exact pkF)) (h := ?_)
          refine tk 22 (hy := (by first | exact pkT | exact pkF)) (h := ?_)
          refine tk 23 (hy := asg) (h := ?_)
          refine dn (h := ?_)
          exact ctn () trivial (by repeat (first | exact trivial | refine ⟨rfl, ?_⟩ | refine ⟨by first | (rw [← hsm, kA, kB]; rfl) | (rw [← hsm, kA]; rfl), ?_⟩)) slz_
        · skip
          have kB : decide (s.games.1 + 1 < f.games) = false := hb2
          refine tk 13 (hy := mv) (h := ?_)
          refine tk 14 (hy := nck) (h := ?_)
          refine tk 15 (hy := (by first | exact ld | exact ldE)) (h := ?_)
          refine tk 16 (hy := mv) (h := ?_)
          refine tk 17 (hy := nck) (h := ?_)
          refine tk 18 (hy := (by first | exact ld | exact ldE)) (h := ?_)
          refine tk 19 (hy := subI) (h := ?_)
          refine tk 20 (hy := lss) (h := ?_)
          refine tk 21 (hy := (by first | exact pkT | exact pkF)) (h := ?_)
          refine tk 22 (hy := (by first | exact pkT | exact pkF)) (h := ?_)
          refine tk 23 (hy := asg) (h := ?_)
          refine dn (h := ?_)
          exact ctn () trivial (by repeat (first | exact trivial | refine ⟨rfl, ?_⟩ | refine ⟨by first | (rw [← hsm, kA, kB]; rfl) | (rw [← hsm, kA]; rfl), ?_⟩)) slz_
      · skip
        have kA : decide (s.t0 = 0) = false := hb1
        refine tkS 5 (h := ?_)
        refine tkS 6 (h := ?_)
        refine tkS 7 (h := ?_)
        refine tkS 8 (h := ?_)
        refine tkS 9 (h := ?_)
        refine tkS 10 (h := ?_)
        refine tkS 11 (h := ?_)
        refine tkS 12 (h := ?_)
        refine tkS 13 (h := ?_)
        refine tkS 14 (h := ?_)
        refine tkS 15 (h := ?_)
        refine tkS 16 (h := ?_)
        refine tkS 17 (h := ?_)
        refine tkS 18 (h := ?_)
        refine tkS 19 (h := ?_)
        refine tkS 20 (h := ?_)
        refine tkS 21 (h := ?_)
        refine tk 22 (hy := (by first | exact pkT | exact pkF)) (h := ?_)
        refine tk 23 (hy := asg) (h := ?_)
        refine dn (h := ?_)
        exact ctn () trivial (by repeat (first | exact trivial | refine ⟨rfl, ?_⟩ | refine ⟨by first | (rw [← hsm, kA, kB]; rfl) | (rw [← hsm, kA]; rfl), ?_⟩)) slz_
    rintro ⟨⟩ -
    refine sq (h := ?_)
    refine sq (h := ?_)
    refine rg (h := ?_)
    refine wy mv ?_
    refine wy notB ?_
    refine nl (h := ?_)
    refine q_seq (h := ?_)
    refine cd (by exact rfl) (fun h3 => ?_) (fun h3 => ?_)
    · skip
      have hE : endS f s.won s.games 0 = true := by rw [Bool.not_not] at h3; exact h3
      have hw1 : wonS f s.won s.games 0 = addV s.won 0 := by rw [wonS, hE]; rfl
      have hg1 : gamS f s.won s.games 0 = (0, 0) := by rw [gamS, hE]; rfl
      have ho1 : overS f s.won s.games 0 = (true && decide ((ownP 0 (addV s.won 0)).1 = f.sets)) := by rw [overS, hE]
      refine sq (h := ?_)
      refine rg (h := ?_)
      refine wy bd ?_
      refine wy (by first | exact fa | exact faE) ?_
      first | refine stA (h := ?_) | refine stEA (h := ?_)
      refine nl (h := ?_)
      refine q_seq (h := ?_)
      refine sq (h := ?_)
      refine rg (h := ?_)
      refine wy mv ?_
      refine wy nck ?_
      refine wy (by first | exact ld | exact ldE) ?_
      refine wy addI ?_
      refine wy nck ?_
      first | refine st (h := ?_) | refine stE (h := ?_)
      refine nl (h := ?_)
      refine q_seq (h := ?_)
      refine rgD0 (by kernel_rfl) (h := ?_)
      refine tk 0 (hy := mv) (h := ?_)
      refine tk 1 (hy := nck) (h := ?_)
      refine tk 2 (hy := (by first | exact ld | exact ldE)) (h := ?_)
      refine tk 3 (hy := (by first | exact fa | exact faE)) (h := ?_)
      refine tk 4 (hy := (by first | exact fa | exact faE)) (h := ?_)
      refine tk 5 (hy := (by first | exact ld | exact ldE)) (h := ?_)
      refine tk 6 (hy := eql) (h := ?_)
      refine tk 7 (hy := asg) (h := ?_)
      refine dn (h := ?_)
      refine q_seq (h := ?_)
      refine sq (h := ?_)
      refine rg (h := ?_)
      refine wy (by first | exact fa | exact faE) ?_
      refine wy (by first | exact ld | exact ldE) ?_
      refine wy addI ?_
      refine wy (by first | exact fa | exact faE) ?_
      first | refine st (h := ?_) | refine stE (h := ?_)
      refine nl (h := ?_)
      refine q_seq (h := ?_)
      refine sq (h := ?_)
      refine rgD (by kernel_rfl) [(11, .blk b2 156 _), (1000000, .blk b0 153 (restc f bm)), (1000000, .blk b1 156 s.cells)] (by repeat (first | exact HS.nil | (apply HS.keep; (repeat (first | exact At.here | apply At.there))) | (apply HS.ro; (repeat (first | exact Rds.ro | exact Rds.own | apply Rds.there))))) (h := ?_)
      refine tk 0 (hy := (by first | exact ldA | exact ldEA)) (h := ?_)
      refine tk 1 (hy := (by first | exact fa | exact faE)) (h := ?_)
      refine tk 2 (hy := (by first | exact ldA | exact ldEA)) (h := ?_)
      refine tk 3 (hy := (by first | exact fa | exact faE)) (h := ?_)
      refine tk 4 (hy := (by first | exact ldA | exact ldEA)) (h := ?_)
      refine tk 6 (hy := (by first | exact fa | exact faE)) (h := ?_)
      refine tk 7 (hy := ixA) (h := ?_)
      refine tk 8 (hy := (by first | exact ld | exact ldE)) (h := ?_)
      refine one 5 (h := ?_)
      refine cl0 (hc := fun w hS => C_rest_tie f bm (wonS f s.won s.games 0) (gamS f s.won s.games 0) hf w) (hargs := by rw [hw1, hg1]; repeat (first | exact Evs.nil | (apply Evs.cons; exact rfl))) (h := ?_)
      refine nx (h := ?_)
      refine tk 9 (hy := bdA) (h := ?_)
      refine tk 10 (hy := (by first | exact fa | exact faE)) (h := ?_)
      refine one 11 (h := ?_)
      first | refine stA (h := ?_) | refine stEA (h := ?_)
      refine nx (h := ?_)
      refine dn (h := ?_)
      refine q_seq (h := ?_)
      refine sq (h := ?_)
      refine rg (h := ?_)
      refine wy (by first | exact ldA | exact ldEA) ?_
      refine wy mv ?_
      refine wy mv ?_
      first | refine stA (h := ?_) | refine stEA (h := ?_)
      refine wy asg ?_
      refine wy asg ?_
      refine nl (h := ?_)
      refine q_seq (h := ?_)
      refine rtn (h := ?_)
      refine q_ret (hR := ?_)
      refine fun w hS => ⟨?_, hS.sub slz_⟩
      unfold afterS
      rw [hw1, hg1, ho1, hE]
      rfl
    · skip
      have hE : endS f s.won s.games 0 = false := by rw [Bool.not_not] at h3; exact h3
      have hw1 : wonS f s.won s.games 0 = s.won := by rw [wonS, hE]; rfl
      have hg1 : gamS f s.won s.games 0 = addV s.games 0 := by rw [gamS, hE]; rfl
      have ho1 : overS f s.won s.games 0 = false := by rw [overS, hE]; rfl
      refine skp (h := ?_)
      refine q_seq (h := ?_)
      refine sq (h := ?_)
      refine rg (h := ?_)
      refine wy (by first | exact fa | exact faE) ?_
      refine wy (by first | exact ld | exact ldE) ?_
      refine wy addI ?_
      refine wy (by first | exact fa | exact faE) ?_
      first | refine st (h := ?_) | refine stE (h := ?_)
      refine nl (h := ?_)
      refine q_seq (h := ?_)
      refine sq (h := ?_)
      refine rgD (by kernel_rfl) [(11, .blk b2 156 _), (1000000, .blk b0 153 (restc f bm)), (1000000, .blk b1 156 s.cells)] (by repeat (first | exact HS.nil | (apply HS.keep; (repeat (first | exact At.here | apply At.there))) | (apply HS.ro; (repeat (first | exact Rds.ro | exact Rds.own | apply Rds.there))))) (h := ?_)
      refine tk 0 (hy := (by first | exact ldA | exact ldEA)) (h := ?_)
      refine tk 1 (hy := (by first | exact fa | exact faE)) (h := ?_)
      refine tk 2 (hy := (by first | exact ldA | exact ldEA)) (h := ?_)
      refine tk 3 (hy := (by first | exact fa | exact faE)) (h := ?_)
      refine tk 4 (hy := (by first | exact ldA | exact ldEA)) (h := ?_)
      refine tk 6 (hy := (by first | exact fa | exact faE)) (h := ?_)
      refine tk 7 (hy := ixA) (h := ?_)
      refine tk 8 (hy := (by first | exact ld | exact ldE)) (h := ?_)
      refine one 5 (h := ?_)
      refine cl0 (hc := fun w hS => C_rest_tie f bm (wonS f s.won s.games 0) (gamS f s.won s.games 0) hf w) (hargs := by rw [hw1, hg1]; repeat (first | exact Evs.nil | (apply Evs.cons; exact rfl))) (h := ?_)
      refine nx (h := ?_)
      refine tk 9 (hy := bdA) (h := ?_)
      refine tk 10 (hy := (by first | exact fa | exact faE)) (h := ?_)
      refine one 11 (h := ?_)
      first | refine stA (h := ?_) | refine stEA (h := ?_)
      refine nx (h := ?_)
      refine dn (h := ?_)
      refine q_seq (h := ?_)
      refine sq (h := ?_)
      refine rg (h := ?_)
      refine wy (by first | exact ldA | exact ldEA) ?_
      refine wy mv ?_
      refine wy mv ?_
      first | refine stA (h := ?_) | refine stEA (h := ?_)
      refine wy asg ?_
      refine wy asg ?_
      refine nl (h := ?_)
      refine q_seq (h := ?_)
      refine rtn (h := ?_)
      refine q_ret (hR := ?_)
      refine fun w hS => ⟨?_, hS.sub slz_⟩
      unfold afterS
      rw [hw1, hg1, ho1, hE]
      rfl
set_option maxRecDepth 100000 in
theorem C_rest_after1 (f : Fmt) (bm : Nat) (s : Spo) (hf : f.Ok) (ht : s.t0 = tieN f s.won s.games) (hw : (0 ≤ s.won.1 ∧ s.won.1 ≤ 3) ∧ 0 ≤ s.won.2 ∧ s.won.2 ≤ 3) (hg : (0 ≤ s.games.1 ∧ s.games.1 ≤ 1000) ∧ 0 ≤ s.games.2 ∧ s.games.2 ≤ 1000) (hn : 0 ≤ s.num ∧ s.num ≤ 1000) (w : World) : C0 Tryz.prog 114 [restv f bm, s.val, .int .i64 1] w (.tuple #[(afterS f s 1).val, .bool (!endS f s.won s.games 1), .bool (overS f s.won s.games 1)]) := by
  have hsm := same_is (f := f) (won := s.won) (g := s.games) (side := 1) (.inr rfl) ht
  rw [own1] at hsm
  refine ⟨en Tryz.func114 Tryz.ntmps114 (St.init w) (h := fun F => ?_)⟩
  refine sq (h := ?_)
  refine rg (h := ?_)
  refine bxA (h := fun b0 => ?_)
  refine bxA (h := fun b1 => ?_)
  refine al (h := fun b2 => ?_)
  refine wy asg ?_
  refine wy asg ?_
  refine nl (h := ?_)
  refine q_seq (h := ?_)
  refine sq (h := ?_)
  refine rg (h := ?_)
  refine wy (by first | exact fa | exact faE) ?_
  refine wy (by first | exact fa | exact faE) ?_
  refine wy (by first | exact fa | exact faE) ?_
  refine wy (by first | exact fa | exact faE) ?_
  refine wy asg ?_
  refine wy asg ?_
  refine nl (h := ?_)
  refine q_seq (h := ?_)
  refine sq (h := ?_)
  refine rg (h := ?_)
  refine wy (by first | exact fa | exact faE) ?_
  refine wy (by first | exact fa | exact faE) ?_
  refine wy asg ?_
  refine nl (h := ?_)
  refine q_seq (h := ?_)
  refine sq (h := ?_)
  refine rg (h := ?_)
  refine wy (by first | exact ldA | exact ldEA) ?_
  first | refine stA (h := ?_) | refine stEA (h := ?_)
  refine nl (h := ?_)
  refine q_seq (h := ?_)
  refine sq (h := ?_)
  refine sq (h := ?_)
  refine rg (h := ?_)
  refine wy mv ?_
  refine wy eql ?_
  refine nl (h := ?_)
  refine q_seq (h := ?_)
  refine cd (by exact rfl) (fun h0 => ?_) (fun h0 => ?_)
  · skip
    obtain h1 : (1 : Int) = 1 := of_decide_eq_true h0
    refine rg (h := ?_)
    refine wy mv ?_
    refine wy mv ?_
    refine wy (by first | exact fa | exact faE) ?_
    refine wy (by first | exact fa | exact faE) ?_
    refine wy asg ?_
    refine wy asg ?_
    refine wy asg ?_
    refine nl (h := ?_)
    refine q_seq (h := ?_)
    refine sq (h := ?_)
    refine rg (h := ?_)
    refine wy mv ?_
    refine wy nck ?_
    refine wy (by first | exact ld | exact ldE) ?_
    refine wy addI ?_
    refine wy nck ?_
    first | refine st (h := ?_) | refine stE (h := ?_)
    refine nl (h := ?_)
    refine q_seq (h := ?_)
    refine ct (X := Unit) (fun _ => True) (fun _ => [(2, .int .i64 1), (3, .pointer (some ⟨b0, 0, none⟩)), (4, .pointer (some ⟨b1, 0, none⟩)), (6, .pointer (some ⟨b2, 0, none⟩)), (7, .bool (!endS f s.won s.games 1)), (8, .bool false), (9, .pointer (some ⟨b2, 3, none⟩)), (10, .pointer (some ⟨b2, 2, none⟩)), (11, .pointer (some ⟨b2, 1, none⟩))]) (fun _ => [.blk b2 156 [.int .i64 s.won.1, .int .i64 s.won.2, .int .i64 (addV s.games 1).1, .int .i64 (addV s.games 1).2, .int .i64 s.num, .int .i64 s.t0, .int .i64 s.t1], .blk b0 153 (restc f bm), .blk b1 156 s.cells]) (h1 := ?_) (h2 := ?_)
    · skip
      refine rgD0 (by kernel_rfl) (h := ?_)
      refine tk 0 (hy := (by first | exact fa | exact faE)) (h := ?_)
      refine tk 1 (hy := ixA) (h := ?_)
      refine tk 2 (hy := (by first | exact ld | exact ldE)) (h := ?_)
      refine tk 3 (hy := eql) (h := ?_)
      refine tk 4 (hy := mv) (h := ?_)
      refine brH (g := 34) (by exact rfl) (fun hb1 => ?_) (fun hb1 => ?_)
      · skip
        have kA : decide (s.t0 = 0) = true := hb1
        refine tk 5 (hy := mv) (h := ?_)
        refine tk 6 (hy := nck) (h := ?_)
        refine tk 7 (hy := (by first | exact ld | exact ldE)) (h := ?_)
        refine tk 8 (hy := (by first | exact fa | exact faE)) (h := ?_)
        refine tk 9 (hy := (by first | exact fa | exact faE)) (h := ?_)
        refine tk 10 (hy := (by first | exact ld | exact ldE)) (h := ?_)
        refine tk 11 (hy := lss) (h := ?_)
        refine tk 12 (hy := mv) (h := ?_)
        refine brH (g := 42) (by exact rfl) (fun hb2 => ?_) (fun hb2 => ?_)
        · skip
          have kB : decide (s.games.2 + 1 < f.games) = true := hb2
          refine tkS 13 (h := ?_)
          refine tkS 14 (h := ?_)
          refine tkS 15 (h := ?_)
          refine tkS 16 (h := ?_)
          refine tkS 17 (h := ?_)
          refine tkS 18 (h := ?_)
          refine tkS 19 (h := ?_)
          refine tkS 20 (h := ?_)
          refine tk 21 (hy := (by first | exact pkT | exact pkF)) (h := ?_)
          refine tk 22 (hy := (by first | exact pkT | exact pkF)) (h := ?_)
          refine tk 23 (hy := asg) (h := ?_)
          refine dn (h := ?_)
          exact ctn () trivial (by repeat (first | exact trivial | refine ⟨rfl, ?_⟩ | refine ⟨by first | (rw [← hsm, kA, kB]; rfl) | (rw [← hsm, kA]; rfl), ?_⟩)) slz_
        · skip
          have kB : decide (s.games.2 + 1 < f.games) = false := hb2
          refine tk 13 (hy := mv) (h := ?_)
          refine tk 14 (hy := nck) (h := ?_)
          refine tk 15 (hy := (by first | exact ld | exact ldE)) (h := ?_)
          refine tk 16 (hy := mv) (h := ?_)
          refine tk 17 (hy := nck) (h := ?_)
          refine tk 18 (hy := (by first | exact ld | exact ldE)) (h := ?_)
          refine tk 19 (hy := subI) (h := ?_)
          refine tk 20 (hy := lss) (h := ?_)
          refine tk 21 (hy := (by first | exact pkT | exact pkF)) (h := ?_)
          refine tk 22 (hy := (by first | exact pkT | exact pkF)) (h := ?_)
          refine tk 23 (hy := asg) (h := ?_)
          refine dn (h := ?_)
          exact ctn () trivial (by repeat (first | exact trivial | refine ⟨rfl, ?_⟩ | refine ⟨by first | (rw [← hsm, kA, kB]; rfl) | (rw [← hsm, kA]; rfl), ?_⟩)) slz_
      · skip
        have kA : decide (s.t0 = 0) = false := hb1
        refine tkS 5 (h := ?_)
        refine tkS 6 (h := ?_)
        refine tkS 7 (h := ?_)
        refine tkS 8 (h := ?_)
        refine tkS 9 (h := ?_)
        refine tkS 10 (h := ?_)
        refine tkS 11 (h := ?_)
        refine tkS 12 (h := ?_)
        refine tkS 13 (h := ?_)
        refine tkS 14 (h := ?_)
        refine tkS 15 (h := ?_)
        refine tkS 16 (h := ?_)
        refine tkS 17 (h := ?_)
        refine tkS 18 (h := ?_)
        refine tkS 19 (h := ?_)
        refine tkS 20 (h := ?_)
        refine tkS 21 (h := ?_)
        refine tk 22 (hy := (by first | exact pkT | exact pkF)) (h := ?_)
        refine tk 23 (hy := asg) (h := ?_)
        refine dn (h := ?_)
        exact ctn () trivial (by repeat (first | exact trivial | refine ⟨rfl, ?_⟩ | refine ⟨by first | (rw [← hsm, kA, kB]; rfl) | (rw [← hsm, kA]; rfl), ?_⟩)) slz_
    rintro ⟨⟩ -
    refine sq (h := ?_)
    refine sq (h := ?_)
    refine rg (h := ?_)
    refine wy mv ?_
    refine wy notB ?_
    refine nl (h := ?_)
    refine q_seq (h := ?_)
    refine cd (by exact rfl) (fun h3 => ?_) (fun h3 => ?_)
    · skip
      have hE : endS f s.won s.games 1 = true := by rw [Bool.not_not] at h3; exact h3
      have hw1 : wonS f s.won s.games 1 = addV s.won 1 := by rw [wonS, hE]; rfl
      have hg1 : gamS f s.won s.games 1 = (0, 0) := by rw [gamS, hE]; rfl
      have ho1 : overS f s.won s.games 1 = (true && decide ((ownP 1 (addV s.won 1)).1 = f.sets)) := by rw [overS, hE]
      refine sq (h := ?_)
      refine rg (h := ?_)
      refine wy bd ?_
      refine wy (by first | exact fa | exact faE) ?_
      first | refine stA (h := ?_) | refine stEA (h := ?_)
      refine nl (h := ?_)
      refine q_seq (h := ?_)
      refine sq (h := ?_)
      refine rg (h := ?_)
      refine wy mv ?_
      refine wy nck ?_
      refine wy (by first | exact ld | exact ldE) ?_
      refine wy addI ?_
      refine wy nck ?_
      first | refine st (h := ?_) | refine stE (h := ?_)
      refine nl (h := ?_)
      refine q_seq (h := ?_)
      refine rgD0 (by kernel_rfl) (h := ?_)
      refine tk 0 (hy := mv) (h := ?_)
      refine tk 1 (hy := nck) (h := ?_)
      refine tk 2 (hy := (by first | exact ld | exact ldE)) (h := ?_)
      refine tk 3 (hy := (by first | exact fa | exact faE)) (h := ?_)
      refine tk 4 (hy := (by first | exact fa | exact faE)) (h := ?_)
      refine tk 5 (hy := (by first | exact ld | exact ldE)) (h := ?_)
      refine tk 6 (hy := eql) (h := ?_)
      refine tk 7 (hy := asg) (h := ?_)
      refine dn (h := ?_)
      refine q_seq (h := ?_)
      refine sq (h := ?_)
      refine rg (h := ?_)
      refine wy (by first | exact fa | exact faE) ?_
      refine wy (by first | exact ld | exact ldE) ?_
      refine wy addI ?_
      refine wy (by first | exact fa | exact faE) ?_
      first | refine st (h := ?_) | refine stE (h := ?_)
      refine nl (h := ?_)
      refine q_seq (h := ?_)
      refine sq (h := ?_)
      refine rgD (by kernel_rfl) [(11, .blk b2 156 _), (1000000, .blk b0 153 (restc f bm)), (1000000, .blk b1 156 s.cells)] (by repeat (first | exact HS.nil | (apply HS.keep; (repeat (first | exact At.here | apply At.there))) | (apply HS.ro; (repeat (first | exact Rds.ro | exact Rds.own | apply Rds.there))))) (h := ?_)
      refine tk 0 (hy := (by first | exact ldA | exact ldEA)) (h := ?_)
      refine tk 1 (hy := (by first | exact fa | exact faE)) (h := ?_)
      refine tk 2 (hy := (by first | exact ldA | exact ldEA)) (h := ?_)
      refine tk 3 (hy := (by first | exact fa | exact faE)) (h := ?_)
      refine tk 4 (hy := (by first | exact ldA | exact ldEA)) (h := ?_)
      refine tk 6 (hy := (by first | exact fa | exact faE)) (h := ?_)
      refine tk 7 (hy := ixA) (h := ?_)
      refine tk 8 (hy := (by first | exact ld | exact ldE)) (h := ?_)
      refine one 5 (h := ?_)
      refine cl0 (hc := fun w hS => C_rest_tie f bm (wonS f s.won s.games 1) (gamS f s.won s.games 1) hf w) (hargs := by rw [hw1, hg1]; repeat (first | exact Evs.nil | (apply Evs.cons; exact rfl))) (h := ?_)
      refine nx (h := ?_)
      refine tk 9 (hy := bdA) (h := ?_)
      refine tk 10 (hy := (by first | exact fa | exact faE)) (h := ?_)
      refine one 11 (h := ?_)
      first | refine stA (h := ?_) | refine stEA (h := ?_)
      refine nx (h := ?_)
      refine dn (h := ?_)
      refine q_seq (h := ?_)
      refine sq (h := ?_)
      refine rg (h := ?_)
      refine wy (by first | exact ldA | exact ldEA) ?_
      refine wy mv ?_
      refine wy mv ?_
      first | refine stA (h := ?_) | refine stEA (h := ?_)
      refine wy asg ?_
      refine wy asg ?_
      refine nl (h := ?_)
      refine q_seq (h := ?_)
      refine rtn (h := ?_)
      refine q_ret (hR := ?_)
      refine fun w hS => ⟨?_, hS.sub slz_⟩
      unfold afterS
      rw [hw1, hg1, ho1, hE]
      rfl
    · skip
      have hE : endS f s.won s.games 1 = false := by rw [Bool.not_not] at h3; exact h3
      have hw1 : wonS f s.won s.games 1 = s.won := by rw [wonS, hE]; rfl
      have hg1 : gamS f s.won s.games 1 = addV s.games 1 := by rw [gamS, hE]; rfl
      have ho1 : overS f s.won s.games 1 = false := by rw [overS, hE]; rfl
      refine skp (h := ?_)
      refine q_seq (h := ?_)
      refine sq (h := ?_)
      refine rg (h := ?_)
      refine wy (by first | exact fa | exact faE) ?_
      refine wy (by first | exact ld | exact ldE) ?_
      refine wy addI ?_
      refine wy (by first | exact fa | exact faE) ?_
      first | refine st (h := ?_) | refine stE (h := ?_)
      refine nl (h := ?_)
      refine q_seq (h := ?_)
      refine sq (h := ?_)
      refine rgD (by kernel_rfl) [(11, .blk b2 156 _), (1000000, .blk b0 153 (restc f bm)), (1000000, .blk b1 156 s.cells)] (by repeat (first | exact HS.nil | (apply HS.keep; (repeat (first | exact At.here | apply At.there))) | (apply HS.ro; (repeat (first | exact Rds.ro | exact Rds.own | apply Rds.there))))) (h := ?_)
      refine tk 0 (hy := (by first | exact ldA | exact ldEA)) (h := ?_)
      refine tk 1 (hy := (by first | exact fa | exact faE)) (h := ?_)
      refine tk 2 (hy := (by first | exact ldA | exact ldEA)) (h := ?_)
      refine tk 3 (hy := (by first | exact fa | exact faE)) (h := ?_)
      refine tk 4 (hy := (by first | exact ldA | exact ldEA)) (h := ?_)
      refine tk 6 (hy := (by first | exact fa | exact faE)) (h := ?_)
      refine tk 7 (hy := ixA) (h := ?_)
      refine tk 8 (hy := (by first | exact ld | exact ldE)) (h := ?_)
      refine one 5 (h := ?_)
      refine cl0 (hc := fun w hS => C_rest_tie f bm (wonS f s.won s.games 1) (gamS f s.won s.games 1) hf w) (hargs := by rw [hw1, hg1]; repeat (first | exact Evs.nil | (apply Evs.cons; exact rfl))) (h := ?_)
      refine nx (h := ?_)
      refine tk 9 (hy := bdA) (h := ?_)
      refine tk 10 (hy := (by first | exact fa | exact faE)) (h := ?_)
      refine one 11 (h := ?_)
      first | refine stA (h := ?_) | refine stEA (h := ?_)
      refine nx (h := ?_)
      refine dn (h := ?_)
      refine q_seq (h := ?_)
      refine sq (h := ?_)
      refine rg (h := ?_)
      refine wy (by first | exact ldA | exact ldEA) ?_
      refine wy mv ?_
      refine wy mv ?_
      first | refine stA (h := ?_) | refine stEA (h := ?_)
      refine wy asg ?_
      refine wy asg ?_
      refine nl (h := ?_)
      refine q_seq (h := ?_)
      refine rtn (h := ?_)
      refine q_ret (hR := ?_)
      refine fun w hS => ⟨?_, hS.sub slz_⟩
      unfold afterS
      rw [hw1, hg1, ho1, hE]
      rfl
  · skip
    exfalso
    exact absurd rfl (of_decide_eq_false h0 : ¬ (1 : Int) = 1)
theorem C_balls_begun (b : Brd) (A : Option Addr) (n c : Nat) (w : World) : C0 Tryz.prog 73 [b.val A n c] w (.tuple #[.bool ((!isZ b.g || !isZ b.p) || decide (0 < (n : Int))), .bool (!isZ b.g || !isZ b.p)]) := by
  refine ⟨en Tryz.func73 Tryz.ntmps73 (St.init w) (h := fun F => ?_)⟩
  refine sq (h := ?_)
  refine rg (h := ?_)
  refine bxA (h := fun b0 => ?_)
  refine wy asg ?_
  refine wy asg ?_
  refine WL.cut (by repeat (first | exact Cut.nil | apply Cut.hit | apply Cut.miss (by exact rfl))) ?_
  refine nl (h := ?_)
  refine q_seq (h := ?_)
  refine sq (h := ?_)
  refine rg (h := ?_)
  refine wy (by first | exact fa | exact faE) ?_
  refine wy (by first | exact ldA | exact ldEA) ?_
  refine wy bd ?_
  refine wy neqT ?_
  refine wy mv ?_
  apply brOr 5 8 13 (by exact rfl)
  · intro hb0
    refine un (h := ?_)
    refine wy (by first | exact fa | exact faE) ?_
    refine un (h := ?_)
    refine wy (by first | exact ldA | exact ldEA) ?_
    refine un (h := ?_)
    refine wy bd ?_
    refine un (h := ?_)
    refine wy neqT ?_
    refine wy (by first | exact pkT | exact pkF) ?_
    exact mg (by repeat (first | exact trivial | refine ⟨rfl, ?_⟩ | refine ⟨by rw [hb0]; rfl, ?_⟩)) slz_
  · intro hb0
    repeat (first | refine un (h := ?_) | refine sk (h := ?_) | refine WL.y (hy := pkF) (h := ?_) | refine WL.y (hy := pkT) (h := ?_))
    exact mg (by repeat (first | exact trivial | refine ⟨rfl, ?_⟩ | refine ⟨by rw [hb0]; rfl, ?_⟩)) slz_
  refine wy asg ?_
  refine WL.cut (by repeat (first | exact Cut.nil | apply Cut.hit | apply Cut.miss (by exact rfl))) ?_
  refine nl (h := ?_)
  refine q_seq (h := ?_)
  refine sq (h := ?_)
  refine rg (h := ?_)
  refine wy mv ?_
  refine wy mv ?_
  apply brOr 5 15 20 (by exact rfl)
  · intro hb1
    refine un (h := ?_)
    refine wy (by first | exact fa | exact faE) ?_
    refine un (h := ?_)
    refine wy (by first | exact ld | exact ldE) ?_
    refine un (h := ?_)
    refine wy lenS ?_
    refine un (h := ?_)
    refine wy gtr ?_
    refine wy (by first | exact pkT | exact pkF) ?_
    exact mg (by repeat (first | exact trivial | refine ⟨rfl, ?_⟩ | refine ⟨by rw [hb1]; rfl, ?_⟩)) slz_
  · intro hb1
    repeat (first | refine un (h := ?_) | refine sk (h := ?_) | refine WL.y (hy := pkF) (h := ?_) | refine WL.y (hy := pkT) (h := ?_))
    exact mg (by repeat (first | exact trivial | refine ⟨rfl, ?_⟩ | refine ⟨by rw [hb1]; rfl, ?_⟩)) slz_
  refine wy mv ?_
  refine wy asg ?_
  refine wy asg ?_
  refine WL.cut (by repeat (first | exact Cut.nil | apply Cut.hit | apply Cut.miss (by exact rfl))) ?_
  refine nl (h := ?_)
  refine q_seq (h := ?_)
  refine rtn (h := ?_)
  refine q_ret (hR := ?_)
  exact fun w hS => ⟨rfl, hS.sub slz_⟩
end Go.Proofs.YtpmmgljndceplaaGreat

namespace Go.Proofs.YtpmmgljndceplaaGreat
open Go Go.RowKit

abbrev keyS (s : Spo) : List Fl := [.i s.won.1, .i s.won.2, .i s.games.1, .i s.games.2, .i s.num, .i s.t0, .i s.t1]
abbrev sh7 : List Bool := [false, false, false, false, false, false, false]
theorem keyS_inj {s t : Spo} (h : keyS s = keyS t) : s = t := by
  obtain ⟨⟨a1, a2⟩, ⟨a3, a4⟩, a5, a6, a7⟩ := s
  obtain ⟨⟨b1, b2⟩, ⟨b3, b4⟩, b5, b6, b7⟩ := t
  simp only [keyS, List.cons.injEq, Fl.i.injEq, and_true] at h
  obtain ⟨rfl, rfl, rfl, rfl, rfl, rfl, rfl⟩ := h
  rfl
def GoodM (f : Fmt) (kv : List (List Fl × Value)) : Prop := (∀ p ∈ kv, shapeOf p.1 = sh7) ∧ ∀ (s : Spo) v, lkp kv (keyS s) = some v → v = cv (fromP f s.won s.games s.num s.t1)
theorem good_nil (f : Fmt) : GoodM f [] := ⟨fun p hp => (by cases hp), fun s v h => by cases h⟩
theorem good_upd {f : Fmt} {kv : List (List Fl × Value)} (h : GoodM f kv) (s : Spo) : GoodM f (updM kv (keyS s) (cv (fromP f s.won s.games s.num s.t1))) := by
  refine ⟨updM_shape h.1 rfl, fun t v ht => ?_⟩
  rw [lkp_upd] at ht
  by_cases e : keyS t = keyS s
  · rw [if_pos e] at ht
    rw [keyS_inj e, ← Option.some.inj ht]
  · rw [if_neg e] at ht
    exact h.2 t v ht
theorem look_good {f : Fmt} {kv : List (List Fl × Value)} (h : GoodM f kv) (s : Spo) : ∃ (c : Cs) (k : Bool), (lkp kv (keyS s)).getD (.agg #[.int .i64 0, .int .i64 0, .int .i64 0, .int .i64 0]) = cv c ∧ (lkp kv (keyS s)).isSome = k ∧ (k = true → c = fromP f s.won s.games s.num s.t1) := by
  cases e : lkp kv (keyS s) with
  | none => exact ⟨zC, false, rfl, rfl, fun h => by cases h⟩
  | some v => exact ⟨fromP f s.won s.games s.num s.t1, true, h.2 s v e, rfl, fun _ => rfl⟩
theorem C_rest_after (f : Fmt) (bm : Nat) (s : Spo) (side : Int) (hs : side = 0 ∨ side = 1) (hf : f.Ok) (ht : s.t0 = tieN f s.won s.games) (hw : (0 ≤ s.won.1 ∧ s.won.1 ≤ 3) ∧ 0 ≤ s.won.2 ∧ s.won.2 ≤ 3) (hg : (0 ≤ s.games.1 ∧ s.games.1 ≤ 1000) ∧ 0 ≤ s.games.2 ∧ s.games.2 ≤ 1000) (hn : 0 ≤ s.num ∧ s.num ≤ 1000) (w : World) : C0 Tryz.prog 114 [restv f bm, s.val, .int .i64 side] w (.tuple #[(afterS f s side).val, .bool (!endS f s.won s.games side), .bool (overS f s.won s.games side)]) := by
  rcases hs with rfl | rfl
  · exact C_rest_after0 f bm s hf ht hw hg hn w
  · exact C_rest_after1 f bm s hf ht hw hg hn w
theorem chg_is (f : Fmt) (n t1 : Int) (won g : Pr) : (decide (tieN f won g = 0) && dueV f (n + 1) || decide (t1 = 1) && dueV f (n + 1 - 2)) = chgV f n t1 won g := by
  have h0 : decide (tieN f won g = 0) = !brksV (setV f won) g := by
    rw [tieN]; cases brksV (setV f won) g <;> rfl
  rw [chgV, h0, Bool.and_comm (!brksV (setV f won) g), show n + 1 - 2 = n - 1 by omega]
def outV (c0 c1 : Cs) : Nat → Cs
  | 0 => zC
  | 1 => c0
  | _ => orV c1 c0
structure BX where
  (es : Array MapEntry) (c : Nat) (kv : List (List Fl × Value))
structure BL where
  (k : Nat) (es : Array MapEntry) (c : Nat) (kv : List (List Fl × Value))
def FromB (f : Fmt) (k : Nat) : Prop := ∀ (s : Spo) (kv : List (List Fl × Value)) (es : Array MapEntry) (c b : Nat), Vs f s.won s.games → s.t0 = tieN f s.won s.games → remV f s.won s.games < k → (0 ≤ s.num ∧ s.num + remV f s.won s.games ≤ 1000) → MapIs es kv → GoodM f kv →
  Tr Tryz.prog 72 [restv f b, s.val] [.obj b (.map es c)] (fun x : BX => MapIs x.es x.kv ∧ GoodM f x.kv) (fun _ => cv (fromP f s.won s.games s.num s.t1)) (fun x => [.obj b (.map x.es x.c)])
set_option maxRecDepth 100000 in
set_option maxHeartbeats 4000000 in
theorem fromB_step (f : Fmt) (hf : f.Ok) (hb : Bdd f) (k : Nat) (ih : FromB f k) : FromB f (k + 1) := by
  intro s kv es c b hV hT hk hN hm hgd
  refine ⟨fun w0 w R hst => ?_⟩
  obtain ⟨c0, k0, hl1, hl2, hl3⟩ := look_good hgd s
  have hrp := rem_pos hf hb hV
  have hw0 := hV.1
  have hs1 := hf.s1
  have hg1 := hf.g1
  have hop := open_sum (tie_ok hf s.won) (bdd_set hb hV.1) hV.2
  have hgb : (0 ≤ s.games.1 ∧ s.games.1 ≤ 1000) ∧ 0 ≤ s.games.2 ∧ s.games.2 ≤ 1000 := by have := hV.2; unfold OpenP at this; omega
  have hfe := from_eq (n := s.num) (t1 := s.t1) hf hb hV
  refine en Tryz.func72 Tryz.ntmps72 hst (h := fun F => ?_)
  refine sq (h := ?_)
  refine rg (h := ?_)
  refine bxA (h := fun b0 => ?_)
  refine bxA (h := fun b1 => ?_)
  refine al (h := fun b2 => ?_)
  refine nl (h := ?_)
  refine q_seq (h := ?_)
  refine sq (h := ?_)
  refine sq (h := ?_)
  refine rg (h := ?_)
  refine wy (by first | exact fa | exact faE) ?_
  refine wy (by first | exact ld | exact ldE) ?_
  refine wy (by first | exact ldA | exact ldEA) ?_
  refine wy (lkC (kv := kv) (k := keyS s) (hm := hm) (hs := hgd.1)) ?_
  rw [hl1, hl2]
  refine wy mv ?_
  refine wy ex ?_
  refine wy ex ?_
  refine al (h := fun b3 => ?_)
  first | refine stA (h := ?_) | refine stEA (h := ?_)
  refine wy asg ?_
  refine nl (h := ?_)
  refine q_seq (h := ?_)
  refine sq (h := ?_)
  refine rg (h := ?_)
  refine wy mv ?_
  refine nl (h := ?_)
  refine q_seq (h := ?_)
  refine cd (by exact rfl) (fun h0 => ?_) (fun h0 => ?_)
  · skip
    have hc0 := hl3 h0
    refine sq (h := ?_)
    refine rg (h := ?_)
    refine wy (by first | exact ldA | exact ldEA) ?_
    first | refine stA (h := ?_) | refine stEA (h := ?_)
    refine nl (h := ?_)
    refine q_seq (h := ?_)
    refine rtn (h := ?_)
    refine q_then_ret (h := ?_)
    refine q_ret (hR := ?_)
    rw [← hc0]
    exact fun w hS => ⟨⟨es, c, kv⟩, ⟨hm, hgd⟩, rfl, hS.sub slz_⟩
  · skip
    refine skp (h := ?_)
    refine q_seq (h := ?_)
    refine sq (h := ?_)
    refine rg (h := ?_)
    refine al (h := fun b4 => ?_)
    refine nl (h := ?_)
    refine q_seq (h := ?_)
    refine sq (h := ?_)
    refine sq (h := ?_)
    refine rg (h := ?_)
    refine wy mv ?_
    refine nl (h := ?_)
    refine q_seq (h := ?_)
    refine bk (h := ?_)
    refine lp (X := BL) (I := fun z => z.k ≤ 2 ∧ MapIs z.es z.kv ∧ GoodM f z.kv) (le := fun z => [(2, .pointer (some ⟨b0, 0, none⟩)), (3, .pointer (some ⟨b1, 0, none⟩)), (4, .pointer (some ⟨b2, 0, none⟩)), (7, .pointer (some ⟨b4, 0, none⟩)), (22, .int .i64 z.k)]) (Le := fun z => .obj b (.map z.es z.c) :: .blk b4 125 (ccs (outV (courV (fromP f) f s.won s.games s.num s.t1 0) (courV (fromP f) f s.won s.games s.num s.t1 1) z.k)) :: .blk b0 153 (restc f b) :: .blk b1 156 s.cells :: .blk b2 125 [.int .i64 0, .int .i64 0, .int .i64 0, .int .i64 0] :: R) (μ := fun z => 2 - z.k) ⟨0, es, c, kv⟩ ⟨Nat.zero_le _, hm, hgd⟩ sbz_ slz_ (fun z hz => ?_)
    obtain ⟨hzk, hzm, hzg⟩ := hz
    refine sq (h := ?_)
    refine rg (h := ?_)
    refine wy lss ?_
    refine nl (h := ?_)
    refine q_seq (h := ?_)
    refine sq (h := ?_)
    refine cd (by exact rfl) (fun h1 => ?_) (fun h1 => ?_)
    · skip
      obtain ⟨z, es1, c1, kv1⟩ := z
      dsimp only at *
      have hkn : z < 2 := by simp only [decide_eq_true_eq] at h1; omega
      have hks : (z : Int) = 0 ∨ (z : Int) = 1 := by omega
      have han : (afterS f s z).num = s.num + 1 := rfl
      refine skp (h := ?_)
      refine q_seq (h := ?_)
      refine sq (h := ?_)
      refine bk (h := ?_)
      refine sq (h := ?_)
      refine rg (h := ?_)
      refine wy mv ?_
      refine wy asg ?_
      refine nl (h := ?_)
      refine q_seq (h := ?_)
      refine sq (h := ?_)
      refine rg (h := ?_)
      refine wy (by first | exact ldA | exact ldEA) ?_
      refine wy (by first | exact ldA | exact ldEA) ?_
      refine wy mv ?_
      refine cl0 (hc := fun w hS => C_rest_after f b s z hks hf hT (by omega) hgb (by omega) w) (h := ?_)
      refine wy mv ?_
      refine wy ex ?_
      refine wy ex ?_
      refine wy ex ?_
      refine al (h := fun b5 => ?_)
      first | refine stA (h := ?_) | refine stEA (h := ?_)
      refine wy asg ?_
      refine wy asg ?_
      refine nl (h := ?_)
      refine q_seq (h := ?_)
      refine sq (h := ?_)
      refine rg (h := ?_)
      refine al (h := fun b6 => ?_)
      refine nl (h := ?_)
      refine q_seq (h := ?_)
      refine ct (X := BX) (fun x => MapIs x.es x.kv ∧ GoodM f x.kv) (fun _ => [(2, .pointer (some ⟨b0, 0, none⟩)), (3, .pointer (some ⟨b1, 0, none⟩)), (4, .pointer (some ⟨b2, 0, none⟩)), (7, .pointer (some ⟨b4, 0, none⟩)), (8, .int .i64 z), (9, .pointer (some ⟨b5, 0, none⟩)), (10, .bool (!endS f s.won s.games z)), (11, .bool (overS f s.won s.games z)), (12, .pointer (some ⟨b6, 0, none⟩)), (22, .int .i64 z)]) (fun x => .blk b6 125 (ccs (courV (fromP f) f s.won s.games s.num s.t1 z)) :: .obj b (.map x.es x.c) :: .blk b5 156 (afterS f s z).cells :: .blk b4 125 (ccs (outV (courV (fromP f) f s.won s.games s.num s.t1 0) (courV (fromP f) f s.won s.games s.num s.t1 1) z)) :: .blk b0 153 (restc f b) :: .blk b1 156 s.cells :: .blk b2 125 [.int .i64 0, .int .i64 0, .int .i64 0, .int .i64 0] :: R) (h1 := ?_) (h2 := ?_)
      · skip
        refine sq (h := ?_)
        refine rg (h := ?_)
        refine wy mv ?_
        refine wy notB ?_
        refine nl (h := ?_)
        refine q_seq (h := ?_)
        refine cd (by exact rfl) (fun h2 => ?_) (fun h2 => ?_)
        · skip
          have hov : overS f s.won s.games z = false := by rw [Bool.not_eq_true'] at h2; exact h2
          obtain ⟨hv1, hr1⟩ := step_ok' hf hb hks hV hov
          have hrp1 := rem_pos hf hb hv1
          have hih := ih (afterS f s z) kv1 es1 c1 b hv1 rfl (by show remV f (wonS f s.won s.games z) (gamS f s.won s.games z) < k; omega) ⟨by show 0 ≤ s.num + 1; omega, by show s.num + 1 + remV f (wonS f s.won s.games z) (gamS f s.won s.games z) ≤ 1000; omega⟩ hzm hzg
          obtain ⟨r, hr⟩ : ∃ r, r = fromP f (wonS f s.won s.games z) (gamS f s.won s.games z) (s.num + 1) s.t0 := ⟨_, rfl⟩
          have hrb := csb_P (n := s.num + 1) (t1 := s.t0) hf hv1
          rw [← hr] at hrb
          unfold CsB at hrb
          have hcr : courV (fromP f) f s.won s.games s.num s.t1 z = bumpC r (chgV f s.num s.t1 (wonS f s.won s.games z) (gamS f s.won s.games z)) (endS f s.won s.games z) := by rw [courV, hov, cond_false, ← hT, ← hr]
          refine sq (h := ?_)
          refine rg (h := ?_)
          refine wy (by first | exact ldA | exact ldEA) ?_
          refine wy (by first | exact ldA | exact ldEA) ?_
          refine clT (hc := hih) (h := fun x hx => ?_)
          rw [show fromP f (afterS f s z).won (afterS f s z).games (afterS f s z).num (afterS f s z).t1 = r from hr.symm]
          obtain ⟨hx1, hx2⟩ := hx
          first | refine stA (h := ?_) | refine stEA (h := ?_)
          refine nl (h := ?_)
          refine q_seq (h := ?_)
          refine ct (X := Unit) (fun _ => True) (fun _ => [(2, .pointer (some ⟨b0, 0, none⟩)), (3, .pointer (some ⟨b1, 0, none⟩)), (4, .pointer (some ⟨b2, 0, none⟩)), (7, .pointer (some ⟨b4, 0, none⟩)), (8, .int .i64 z), (9, .pointer (some ⟨b5, 0, none⟩)), (10, .bool (!endS f s.won s.games z)), (11, .bool (overS f s.won s.games z)), (12, .pointer (some ⟨b6, 0, none⟩)), (22, .int .i64 z)]) (fun _ => .blk b6 125 [.int .i64 (r.1.1 + bz (chgV f s.num s.t1 (wonS f s.won s.games z) (gamS f s.won s.games z))), .int .i64 (r.1.2 + bz (chgV f s.num s.t1 (wonS f s.won s.games z) (gamS f s.won s.games z))), .int .i64 r.2.1, .int .i64 r.2.2] :: .obj b (.map x.es x.c) :: .blk b5 156 (afterS f s z).cells :: .blk b4 125 (ccs (outV (courV (fromP f) f s.won s.games s.num s.t1 0) (courV (fromP f) f s.won s.games s.num s.t1 1) z)) :: .blk b0 153 (restc f b) :: .blk b1 156 s.cells :: .blk b2 125 [.int .i64 0, .int .i64 0, .int .i64 0, .int .i64 0] :: R) (h1 := ?_) (h2 := ?_)
          · skip
            refine sq (h := ?_)
            refine rg (h := ?_)
            refine wy (by first | exact fa | exact faE) ?_
            refine wy ixA ?_
            refine wy (by first | exact ld | exact ldE) ?_
            refine wy eql ?_
            refine wy mv ?_
            apply brAnd 5 42 47 (by exact rfl)
            · intro hb3
              refine un (h := ?_)
              refine wy (by first | exact ldA | exact ldEA) ?_
              refine un (h := ?_)
              refine wy (by first | exact fa | exact faE) ?_
              refine un (h := ?_)
              refine wy (by first | exact ld | exact ldE) ?_
              refine un (h := ?_)
              refine cl0 (hc := fun w hS => C_rest_due f b (s.num + 1) hf (by omega) w) (h := ?_)
              refine wy (by first | exact pkT | exact pkF) ?_
              exact mg (by repeat (first | exact trivial | refine ⟨rfl, ?_⟩ | refine ⟨by rw [hb3]; rfl, ?_⟩)) slz_
            · intro hb3
              repeat (first | refine un (h := ?_) | refine sk (h := ?_) | refine WL.y (hy := pkF) (h := ?_) | refine WL.y (hy := pkT) (h := ?_))
              exact mg (by repeat (first | exact trivial | refine ⟨rfl, ?_⟩ | refine ⟨by rw [hb3]; rfl, ?_⟩)) slz_
            refine wy mv ?_
            apply brOr 12 48 60 (by exact rfl)
            · intro hb4
              refine un (h := ?_)
              refine wy (by first | exact fa | exact faE) ?_
              refine un (h := ?_)
              refine wy ixA ?_
              refine un (h := ?_)
              refine wy (by first | exact ld | exact ldE) ?_
              refine un (h := ?_)
              refine wy eql ?_
              refine un (h := ?_)
              refine wy mv ?_
              apply brAnd 6 53 59 (by exact rfl)
              · intro hb5
                refine un (h := ?_)
                refine wy (by first | exact ldA | exact ldEA) ?_
                refine un (h := ?_)
                refine wy (by first | exact fa | exact faE) ?_
                refine un (h := ?_)
                refine wy (by first | exact ld | exact ldE) ?_
                refine un (h := ?_)
                refine wy subI ?_
                refine un (h := ?_)
                refine cl0 (hc := fun w hS => C_rest_due f b (s.num + 1 - 2) hf (by omega) w) (h := ?_)
                refine un (h := ?_)
                refine wy (by first | exact pkT | exact pkF) ?_
                exact mg (by repeat (first | exact trivial | refine ⟨rfl, ?_⟩ | refine ⟨by rw [hb5]; rfl, ?_⟩ | refine ⟨by rw [hb4]; rfl, ?_⟩)) slz_
              · intro hb5
                repeat (first | refine un (h := ?_) | refine sk (h := ?_) | refine WL.y (hy := pkF) (h := ?_) | refine WL.y (hy := pkT) (h := ?_))
                exact mg (by repeat (first | exact trivial | refine ⟨rfl, ?_⟩ | refine ⟨by rw [hb5]; rfl, ?_⟩ | refine ⟨by rw [hb4]; rfl, ?_⟩)) slz_
              refine wy (by first | exact pkT | exact pkF) ?_
              exact mg (by repeat (first | exact trivial | refine ⟨rfl, ?_⟩ | refine ⟨by rw [hb4]; rfl, ?_⟩)) slz_
            · intro hb4
              repeat (first | refine un (h := ?_) | refine sk (h := ?_) | refine WL.y (hy := pkF) (h := ?_) | refine WL.y (hy := pkT) (h := ?_))
              exact mg (by repeat (first | exact trivial | refine ⟨rfl, ?_⟩ | refine ⟨by rw [hb4]; rfl, ?_⟩)) slz_
            refine nl (h := ?_)
            refine q_seq (h := ?_)
            refine cd (by exact rfl) (fun h6 => ?_) (fun h6 => ?_)
            · skip
              have hch : chgV f s.num s.t1 (wonS f s.won s.games z) (gamS f s.won s.games z) = true := (chg_is ..).symm.trans h6
              refine rg (h := ?_)
              refine wy (by first | exact fa | exact faE) ?_
              refine wy (by first | exact fa | exact faE) ?_
              refine wy (by first | exact ld | exact ldE) ?_
              refine wy addI ?_
              refine wy (by first | exact fa | exact faE) ?_
              refine wy (by first | exact fa | exact faE) ?_
              refine wy (by first | exact ld | exact ldE) ?_
              refine wy addI ?_
              refine wy bd ?_
              refine wy (by first | exact fa | exact faE) ?_
              first | refine stA (h := ?_) | refine stEA (h := ?_)
              refine nl (h := ?_)
              first | (rw [hch, show bz true = 1 from rfl]; exact ctn () trivial sbz_ slz_) | (rw [hch, show bz false = 0 from rfl, Int.add_zero, Int.add_zero]; exact ctn () trivial sbz_ slz_)
            · skip
              have hch : chgV f s.num s.t1 (wonS f s.won s.games z) (gamS f s.won s.games z) = false := (chg_is ..).symm.trans h6
              refine skp (h := ?_)
              first | (rw [hch, show bz true = 1 from rfl]; exact ctn () trivial sbz_ slz_) | (rw [hch, show bz false = 0 from rfl, Int.add_zero, Int.add_zero]; exact ctn () trivial sbz_ slz_)
          rintro ⟨⟩ -
          have hb1 := bz_rng (chgV f s.num s.t1 (wonS f s.won s.games z) (gamS f s.won s.games z))
          refine sq (h := ?_)
          refine rg (h := ?_)
          refine wy mv ?_
          refine wy notB ?_
          refine nl (h := ?_)
          refine q_seq (h := ?_)
          refine cd (by exact rfl) (fun h7 => ?_) (fun h7 => ?_)
          · skip
            have hen : endS f s.won s.games z = true := by rw [Bool.not_not] at h7; exact h7
            refine rg (h := ?_)
            refine wy (by first | exact fa | exact faE) ?_
            refine wy (by first | exact fa | exact faE) ?_
            refine wy (by first | exact ld | exact ldE) ?_
            refine wy addI ?_
            refine wy (by first | exact fa | exact faE) ?_
            refine wy (by first | exact fa | exact faE) ?_
            refine wy (by first | exact ld | exact ldE) ?_
            refine wy addI ?_
            refine wy bd ?_
            refine wy (by first | exact fa | exact faE) ?_
            first | refine stA (h := ?_) | refine stEA (h := ?_)
            refine nl (h := ?_)
            first
              | (rw [hcr, hen, bumpC, show bz false = 0 from rfl, Int.add_zero, Int.add_zero]; exact ctn x ⟨hx1, hx2⟩ sbz_ slz_)
              | (rw [hcr, hen]; exact ctn x ⟨hx1, hx2⟩ sbz_ slz_)
              | (rw [hcr]; exact ctn ⟨es1, c1, kv1⟩ ⟨hzm, hzg⟩ sbz_ slz_)
          · skip
            have hen : endS f s.won s.games z = false := by rw [Bool.not_not] at h7; exact h7
            refine skp (h := ?_)
            first
              | (rw [hcr, hen, bumpC, show bz false = 0 from rfl, Int.add_zero, Int.add_zero]; exact ctn x ⟨hx1, hx2⟩ sbz_ slz_)
              | (rw [hcr, hen]; exact ctn x ⟨hx1, hx2⟩ sbz_ slz_)
              | (rw [hcr]; exact ctn ⟨es1, c1, kv1⟩ ⟨hzm, hzg⟩ sbz_ slz_)
        · skip
          have hov : overS f s.won s.games z = true := by rw [Bool.not_eq_false'] at h2; exact h2
          have hcr : courV (fromP f) f s.won s.games s.num s.t1 z = zC := by rw [courV, hov, cond_true]
          refine skp (h := ?_)
          first
            | (rw [hcr, hen, bumpC, show bz false = 0 from rfl, Int.add_zero, Int.add_zero]; exact ctn x ⟨hx1, hx2⟩ sbz_ slz_)
            | (rw [hcr, hen]; exact ctn x ⟨hx1, hx2⟩ sbz_ slz_)
            | (rw [hcr]; exact ctn ⟨es1, c1, kv1⟩ ⟨hzm, hzg⟩ sbz_ slz_)
      rintro x ⟨hx1, hx2⟩
      refine ct (X := Unit) (fun _ => True) (fun _ => [(2, .pointer (some ⟨b0, 0, none⟩)), (3, .pointer (some ⟨b1, 0, none⟩)), (4, .pointer (some ⟨b2, 0, none⟩)), (7, .pointer (some ⟨b4, 0, none⟩)), (8, .int .i64 z), (9, .pointer (some ⟨b5, 0, none⟩)), (10, .bool (!endS f s.won s.games z)), (11, .bool (overS f s.won s.games z)), (12, .pointer (some ⟨b6, 0, none⟩)), (22, .int .i64 z)]) (fun _ => .blk b6 125 (ccs (outV (courV (fromP f) f s.won s.games s.num s.t1 0) (courV (fromP f) f s.won s.games s.num s.t1 1) (z + 1))) :: .obj b (.map x.es x.c) :: .blk b5 156 (afterS f s z).cells :: .blk b4 125 (ccs (outV (courV (fromP f) f s.won s.games s.num s.t1 0) (courV (fromP f) f s.won s.games s.num s.t1 1) z)) :: .blk b0 153 (restc f b) :: .blk b1 156 s.cells :: .blk b2 125 [.int .i64 0, .int .i64 0, .int .i64 0, .int .i64 0] :: R) (h1 := ?_) (h2 := ?_)
      · skip
        refine sq (h := ?_)
        refine rg (h := ?_)
        refine wy mv ?_
        refine wy eql ?_
        refine nl (h := ?_)
        refine q_seq (h := ?_)
        refine cd (by exact rfl) (fun h8 => ?_) (fun h8 => ?_)
        · skip
          obtain rfl : z = 1 := by have := of_decide_eq_true h8; omega
          refine rg (h := ?_)
          refine wy (by first | exact ldA | exact ldEA) ?_
          refine wy (by first | exact ldA | exact ldEA) ?_
          refine cl0 (hc := fun w hS => C_bound_or (courV (fromP f) f s.won s.games s.num s.t1 ((1 : Nat) : Int)) (outV (courV (fromP f) f s.won s.games s.num s.t1 0) (courV (fromP f) f s.won s.games s.num s.t1 1) 1) w) (h := ?_)
          first | refine stA (h := ?_) | refine stEA (h := ?_)
          refine nl (h := ?_)
          exact ctn () trivial sbz_ slz_
        · skip
          obtain rfl : z = 0 := by have := of_decide_eq_false h8; omega
          refine skp (h := ?_)
          exact ctn () trivial sbz_ slz_
      rintro ⟨⟩ -
      refine rg (h := ?_)
      refine wy (by first | exact ldA | exact ldEA) ?_
      first | refine stA (h := ?_) | refine stEA (h := ?_)
      refine nl (h := ?_)
      refine q_blk_norm (h := ?_)
      refine q_seq (h := ?_)
      refine rg (h := ?_)
      refine wy addI ?_
      refine wy mv ?_
      refine nl (h := ?_)
      refine rn (X := BL) (x := ⟨z, es1, c1, kv1⟩) ⟨z + 1, x.es, x.c, x.kv⟩ ⟨by dsimp only; omega, hx1, hx2⟩ (by dsimp only; omega) sbz_ slz_
    · skip
      have hkn : z.k = 2 := by simp only [decide_eq_false_iff_not] at h1; omega
      rw [hkn]
      refine et (h := ?_)
      refine q_then_exit (h := ?_)
      refine q_then_exit (h := ?_)
      refine q_blk_hit (h := ?_)
      refine q_seq (h := ?_)
      refine sq (h := ?_)
      refine rg (h := ?_)
      refine wy (by first | exact fa | exact faE) ?_
      refine wy (by first | exact ld | exact ldE) ?_
      refine wy (by first | exact ldA | exact ldEA) ?_
      refine wy (by first | exact ldA | exact ldEA) ?_
      refine mup (kv := z.kv) (k := keyS s) (hm := hzm) (hs := hzg.1) (h := fun es9 c9 hm9 => ?_)
      refine nl (h := ?_)
      refine q_seq (h := ?_)
      refine sq (h := ?_)
      refine rg (h := ?_)
      refine wy (by first | exact ldA | exact ldEA) ?_
      first | refine stA (h := ?_) | refine stEA (h := ?_)
      refine nl (h := ?_)
      refine q_seq (h := ?_)
      refine rtn (h := ?_)
      refine q_ret (hR := ?_)
      rw [hfe, or_comm]
      exact fun w hS => ⟨⟨es9, c9, _⟩, ⟨hm9, by have h9 := good_upd hzg s; rw [hfe, or_comm] at h9; exact h9⟩, rfl, hS.sub slz_⟩
theorem fromB_all (f : Fmt) (hf : f.Ok) (hb : Bdd f) : ∀ k, FromB f k
  | 0 => fun s kv es c b hV hT hk hN hm hgd => by have := rem_pos hf hb hV; omega
  | k + 1 => fromB_step f hf hb k (fromB_all f hf hb k)
end Go.Proofs.YtpmmgljndceplaaGreat

namespace Go.Proofs.YtpmmgljndceplaaGreat
open Go Go.RowKit

def tlB (p : Pr) : Bool := decide (p.1 - p.2 = 1) || decide (p.2 - p.1 = 1)
def tlV (p : Pr) : Int := bif tlB p then 1 else 0
def numTo (l : List Pr) : Nat → Nat
  | 0 => 0
  | k + 1 => match l[k]? with
    | some p => numTo l k + (p.1 + p.2).toNat
    | none => numTo l k
def tailE (l : List Pr) : Nat → List Int
  | 0 => []
  | k + 1 => match l[k]? with
    | some p => [tlV p]
    | none => []
theorem numTo_succ {l : List Pr} {k : Nat} {p : Pr} (h : l[k]? = some p) : numTo l (k + 1) = numTo l k + (p.1 + p.2).toNat := by rw [numTo, h]
theorem tailE_succ {l : List Pr} {k : Nat} {p : Pr} (h : l[k]? = some p) : tailE l (k + 1) = [tlV p] := by rw [tailE, h]
def numV (b : Brd) : Int := numTo b.st b.st.length + (b.g.1 + b.g.2)
def t1V (b : Brd) : Int := bif decide (0 < b.g.1 + b.g.2) then 0 else (tailE b.st b.st.length).getD 0 0
def restC (f : Fmt) (b : Brd) : Cs := bif overV f (wonV b.st) then zC else bumpC (fromP f (wonV b.st) b.g (numV b) (t1V b)) false (isZ b.g && isZ b.p)
theorem sets_over {f : Fmt} {b : Brd} (hf : f.Ok) (hb : brdOk b = true) (h : (arisesV f b).2 = true) {k : Nat} {p : Pr} (hp : b.st[k]? = some p) : expT f (setV f (wonTo b.st k)) p.1 p.2 = some true ∧ overV f (wonTo b.st k) = false := by
  have hok := arises_ok (tb := tableV f) h
  have hk : k < b.st.length := (List.getElem?_eq_some_iff.1 hp).1
  have ho : ∀ j, j ≤ b.st.length → (setsTo (tableV f) f b.st j).ok = true := fun j hj => by
    cases e : (setsTo (tableV f) f b.st j).ok
    · rw [setsTo_stop e hj, e] at hok; cases hok
    · rfl
  have hpf := brd_fit hb p (by simp only [Brd.all]; exact List.mem_append_left _ (List.mem_of_getElem? hp))
  have hw := sets_won (tbOk_table f) hf hb hok k (by omega)
  have h1 := (step_is (tbOk_table f) hf hp (by omega) (ho k (by omega)) hw).1
  rw [ho (k + 1) (by omega)] at h1
  have h2 := h1.symm
  rw [Bool.and_eq_true, Bool.not_eq_true', decide_eq_true_eq] at h2
  exact ⟨h2.2, h2.1⟩
theorem over_sum {f : Fmt} {s : Pr} {a b : Int} (h : expT f s a b = some true) : 1 ≤ a + b := by
  unfold expT at h
  by_cases h0 : a = 0 ∧ b = 0
  · rw [if_pos h0] at h; cases h
  · rw [if_neg h0] at h
    by_cases h1 : OpenP f s (a - 1) b
    · unfold OpenP at h1; omega
    · rw [if_neg h1] at h
      by_cases h2 : OpenP f s a (b - 1)
      · unfold OpenP at h2; omega
      · rw [if_neg h2] at h; cases h
theorem numTo_bd {b : Brd} (hb : brdOk b = true) : ∀ k, k ≤ b.st.length → numTo b.st k ≤ 80 * k
  | 0, _ => Nat.zero_le _
  | k + 1, hk => by
    have ih := numTo_bd hb k (by omega)
    have hp : b.st[k]? = some b.st[k] := List.getElem?_eq_getElem (by omega)
    have hpf := brd_fit hb b.st[k] (by simp only [Brd.all]; exact List.mem_append_left _ (List.getElem_mem _))
    rw [numTo_succ hp]; omega
theorem encI_app' (xs : List Int) (x : Int) : encI (xs ++ [x]) = encI xs ++ [[.int .i64 x]] := by simp [encI]
theorem encI_rep' (xs : List Int) (j : Nat) : encI (xs ++ List.replicate (j + 1) 0) = encI (xs ++ List.replicate j 0) ++ [[.int .i64 0]] := by
  rw [List.replicate_succ', ← List.append_assoc, encI_app']
structure OZ where
  (k : Nat) (A : Option Addr) (c : Nat) (es : List Int)
structure OJ where
  (j : Nat) (A : Option Addr) (c : Nat)
theorem won_bd5 {b : Brd} (hb : brdOk b = true) (k : Nat) (hk : k ≤ b.st.length) : (0 ≤ (wonTo b.st k).1 ∧ (wonTo b.st k).1 ≤ 5) ∧ 0 ≤ (wonTo b.st k).2 ∧ (wonTo b.st k).2 ≤ 5 := by
  have h1 := wonTo_bd b.st k
  have h2 := brd_len hb
  omega
set_option maxRecDepth 100000 in
set_option maxHeartbeats 4000000 in
theorem C_balls_open (f : Fmt) (b : Brd) (hf : f.Ok) (hbd : Bdd f) (hb : brdOk b = true) (hari : (arisesV f b).2 = true) (A : Option Addr) (n c : Nat) (w : World) (h : Rd w A 2 n (encP b.st)) : C0 Tryz.prog 47 [f.val, b.val A n c] w (.tuple #[cv (restC f b), .bool (overV f (wonV b.st))]) := by
  have hlen : b.st.length = n := by have := h.len; simpa [encP] using this
  have hbl := brd_len hb
  have hbp := brd_fit hb b.p (by simp [Brd.all])
  have hbg := brd_fit hb b.g (by simp [Brd.all])
  have hs1 := hf.s1
  obtain ⟨-, hwo, hw3⟩ := arises_facts hf hb hari
  refine ⟨en Tryz.func47 Tryz.ntmps47 ((St.init w).share (e := .ro A 2 n (encP b.st)) h rfl rfl rfl) (h := fun F => ?_)⟩
  refine sq (h := ?_)
  refine rg (h := ?_)
  refine bxA (h := fun b0 => ?_)
  refine bxA (h := fun b1 => ?_)
  refine al (h := fun b2 => ?_)
  refine wy asg ?_
  refine nl (h := ?_)
  refine q_seq (h := ?_)
  refine sq (h := ?_)
  refine rg (h := ?_)
  refine wy (by first | exact ldA | exact ldEA) ?_
  refine mkm (h := fun b3 => ?_)
  refine wy bd ?_
  refine al (h := fun b4 => ?_)
  first | refine stA (h := ?_) | refine stEA (h := ?_)
  refine nl (h := ?_)
  refine q_seq (h := ?_)
  refine sq (h := ?_)
  refine rg (h := ?_)
  refine al (h := fun b5 => ?_)
  refine nl (h := ?_)
  refine q_seq (h := ?_)
  refine sq (h := ?_)
  refine rg (h := ?_)
  refine wy asg ?_
  refine nl (h := ?_)
  refine q_seq (h := ?_)
  refine sq (h := ?_)
  refine sq (h := ?_)
  refine WC.nilOwn 3 1 (h := ?_)
  refine rg (h := ?_)
  refine wy (by first | exact fa | exact faE) ?_
  refine wy (by first | exact ld | exact ldE) ?_
  refine wy lenS ?_
  refine wy mv ?_
  refine nl (h := ?_)
  refine q_seq (h := ?_)
  refine bk (h := ?_)
  refine lp (X := OZ) (I := fun z => z.k ≤ n ∧ z.es.length = numTo b.st z.k ∧ ∃ pre, z.es = pre ++ tailE b.st z.k) (le := fun z => [(2, .pointer (some ⟨b0, 0, none⟩)), (3, .pointer (some ⟨b1, 0, none⟩)), (4, .pointer (some ⟨b2, 0, none⟩)), (5, .bool false), (6, .pointer (some ⟨b4, 0, none⟩)), (7, .pointer (some ⟨b5, 0, none⟩)), (8, .slice z.A z.es.length z.c), (18, .slice A n c), (19, .int .i64 n), (20, .int .i64 z.k)]) (Le := fun z => [.own z.A z.c 3 1 z.es.length (encI z.es), .obj b3 (.map #[] 0), .blk b5 156 [.int .i64 (wonTo b.st z.k).1, .int .i64 (wonTo b.st z.k).2, .int .i64 0, .int .i64 0, .int .i64 0, .int .i64 0, .int .i64 0], .blk b4 153 (restc f b3), .blk b0 35 f.cells, .blk b1 40 (b.cells A n c), .blk b2 125 [.int .i64 0, .int .i64 0, .int .i64 0, .int .i64 0], .ro A 2 n (encP b.st)]) (μ := fun z => n - z.k) ⟨0, none, 0, []⟩ ⟨Nat.zero_le _, rfl, [], rfl⟩ sbz_ slz_ (fun z hz => ?_)
  obtain ⟨hzk, hze, hzt⟩ := hz
  refine sq (h := ?_)
  refine rg (h := ?_)
  refine wy lss ?_
  refine nl (h := ?_)
  refine q_seq (h := ?_)
  refine sq (h := ?_)
  refine cd (by exact rfl) (fun h0 => ?_) (fun h0 => ?_)
  · skip
    obtain ⟨z, Az, cz, es⟩ := z
    dsimp only at *
    have hkn : z < n := by simp only [decide_eq_true_eq] at h0; omega
    obtain ⟨p, hp⟩ : ∃ p, b.st[z]? = some p := ⟨_, List.getElem?_eq_getElem (by omega)⟩
    have hpe := encP_at hp
    have hpf := brd_fit hb p (by simp only [Brd.all]; exact List.mem_append_left _ (List.mem_of_getElem? hp))
    obtain ⟨hov, hnv⟩ := sets_over hf hb hari hp
    have hps := over_sum hov
    have hnb := numTo_bd hb z (by omega)
    have hwb := won_bd5 hb z (by omega)
    have hw1 := wonTo_succ hp
    obtain ⟨N, hN⟩ : ∃ N : Nat, p.1 + p.2 = (N : Int) + 1 := ⟨(p.1 + p.2 - 1).toNat, by omega⟩
    have hn1 : numTo b.st (z + 1) = numTo b.st z + N + 1 := by rw [numTo_succ hp]; omega
    have hL9 : ((es ++ List.replicate N (0 : Int)) ++ [tlV p]).length = es.length + N + 1 := by simp only [List.length_append, List.length_replicate, List.length_cons, List.length_nil]
    refine skp (h := ?_)
    refine q_seq (h := ?_)
    refine sq (h := ?_)
    refine bk (h := ?_)
    refine sq (h := ?_)
    refine rg (h := ?_)
    refine wy (ix (A := A) (m := n)) ?_
    refine wy (ldEW (A := A) (hk := hpe)) ?_
    refine al (h := fun b6 => ?_)
    first | refine stA (h := ?_) | refine stEA (h := ?_)
    refine nl (h := ?_)
    refine q_seq (h := ?_)
    refine sq (h := ?_)
    refine sq (h := ?_)
    refine rg (h := ?_)
    refine wy (by first | exact fa | exact faE) ?_
    refine wy (by first | exact ld | exact ldE) ?_
    refine wy (by first | exact fa | exact faE) ?_
    refine wy (by first | exact ld | exact ldE) ?_
    refine wy addI ?_
    refine wy subI ?_
    refine wy mv ?_
    refine nl (h := ?_)
    refine q_seq (h := ?_)
    refine bk (h := ?_)
    refine lp (X := OJ) (I := fun u => u.j ≤ N) (le := fun u => [(2, .pointer (some ⟨b0, 0, none⟩)), (3, .pointer (some ⟨b1, 0, none⟩)), (4, .pointer (some ⟨b2, 0, none⟩)), (5, .bool false), (6, .pointer (some ⟨b4, 0, none⟩)), (7, .pointer (some ⟨b5, 0, none⟩)), (8, .slice u.A (es.length + u.j) u.c), (10, .pointer (some ⟨b6, 0, none⟩)), (18, .slice A n c), (19, .int .i64 n), (20, .int .i64 z), (29, .int .i64 (p.1 + p.2 - 1)), (30, .int .i64 u.j)]) (Le := fun u => [.own u.A u.c 3 1 (es.length + u.j) (encI (es ++ List.replicate u.j 0)), .blk b6 38 [.int .i64 p.1, .int .i64 p.2], .obj b3 (.map #[] 0), .blk b5 156 [.int .i64 (wonTo b.st z).1, .int .i64 (wonTo b.st z).2, .int .i64 0, .int .i64 0, .int .i64 0, .int .i64 0, .int .i64 0], .blk b4 153 (restc f b3), .blk b0 35 f.cells, .blk b1 40 (b.cells A n c), .blk b2 125 [.int .i64 0, .int .i64 0, .int .i64 0, .int .i64 0], .ro A 2 n (encP b.st)]) (μ := fun u => N - u.j) ⟨0, Az, cz⟩ (Nat.zero_le _) sbz_ (by dsimp only; rw [List.replicate_zero, List.append_nil]; repeat (first | exact SubL.nil | (apply SubL.cons; (repeat (first | exact At.here | apply At.there))) | exact SubL.refl _ | apply SubL.skip)) (fun u hu => ?_)
    have hu' := hu
    refine sq (h := ?_)
    refine rg (h := ?_)
    refine wy lss ?_
    refine nl (h := ?_)
    refine q_seq (h := ?_)
    refine sq (h := ?_)
    refine cd (by exact rfl) (fun h1 => ?_) (fun h1 => ?_)
    · skip
      have hjn : u.j < N := by simp only [decide_eq_true_eq] at h1; omega
      refine skp (h := ?_)
      refine q_seq (h := ?_)
      refine sq (h := ?_)
      refine bk (h := ?_)
      refine rg (h := ?_)
      refine wy mv ?_
      refine bs (h := fun b7 => ?_)
      refine ap (A := u.A) (h := fun A3 c3 => ?_)
      refine wy asg ?_
      rw [← encI_rep']
      refine nl (h := ?_)
      refine q_blk_norm (h := ?_)
      refine q_seq (h := ?_)
      refine rg (h := ?_)
      refine wy addI ?_
      refine wy mv ?_
      refine nl (h := ?_)
      refine rn (x := u) ⟨u.j + 1, A3, c3⟩ (by dsimp only; omega) (by dsimp only; omega) sbz_ slz_
    · skip
      have hjn : u.j = N := by simp only [decide_eq_false_iff_not] at h1; omega
      rw [hjn]
      refine et (h := ?_)
      refine q_then_exit (h := ?_)
      refine q_then_exit (h := ?_)
      refine q_blk_hit (h := ?_)
      refine q_seq (h := ?_)
      refine sq (h := ?_)
      refine rg (h := ?_)
      refine wy asg ?_
      refine nl (h := ?_)
      refine q_seq (h := ?_)
      refine ct (X := Unit) (fun _ => True) (fun _ => [(2, .pointer (some ⟨b0, 0, none⟩)), (3, .pointer (some ⟨b1, 0, none⟩)), (4, .pointer (some ⟨b2, 0, none⟩)), (5, .bool false), (6, .pointer (some ⟨b4, 0, none⟩)), (7, .pointer (some ⟨b5, 0, none⟩)), (8, .slice u.A (es.length + N) u.c), (10, .pointer (some ⟨b6, 0, none⟩)), (11, .int .i64 (tlV p)), (18, .slice A n c), (19, .int .i64 n), (20, .int .i64 z)]) (fun _ => [.own u.A u.c 3 1 (es.length + N) (encI (es ++ List.replicate N 0)), .blk b6 38 [.int .i64 p.1, .int .i64 p.2], .obj b3 (.map #[] 0), .blk b5 156 [.int .i64 (wonTo b.st z).1, .int .i64 (wonTo b.st z).2, .int .i64 0, .int .i64 0, .int .i64 0, .int .i64 0, .int .i64 0], .blk b4 153 (restc f b3), .blk b0 35 f.cells, .blk b1 40 (b.cells A n c), .blk b2 125 [.int .i64 0, .int .i64 0, .int .i64 0, .int .i64 0], .ro A 2 n (encP b.st)]) (h1 := ?_) (h2 := ?_)
      · skip
        refine sq (h := ?_)
        refine rg (h := ?_)
        refine wy (by first | exact fa | exact faE) ?_
        refine wy (by first | exact ld | exact ldE) ?_
        refine wy (by first | exact fa | exact faE) ?_
        refine wy (by first | exact ld | exact ldE) ?_
        refine wy subI ?_
        refine wy eql ?_
        refine wy mv ?_
        apply brOr 7 42 49 (by exact rfl)
        · intro hb2
          refine un (h := ?_)
          refine wy (by first | exact fa | exact faE) ?_
          refine un (h := ?_)
          refine wy (by first | exact ld | exact ldE) ?_
          refine un (h := ?_)
          refine wy (by first | exact fa | exact faE) ?_
          refine un (h := ?_)
          refine wy (by first | exact ld | exact ldE) ?_
          refine un (h := ?_)
          refine wy subI ?_
          refine un (h := ?_)
          refine wy eql ?_
          refine wy (by first | exact pkT | exact pkF) ?_
          exact mg (by repeat (first | exact trivial | refine ⟨rfl, ?_⟩ | refine ⟨by rw [hb2]; rfl, ?_⟩)) slz_
        · intro hb2
          repeat (first | refine un (h := ?_) | refine sk (h := ?_) | refine WL.y (hy := pkF) (h := ?_) | refine WL.y (hy := pkT) (h := ?_))
          exact mg (by repeat (first | exact trivial | refine ⟨rfl, ?_⟩ | refine ⟨by rw [hb2]; rfl, ?_⟩)) slz_
        refine nl (h := ?_)
        refine q_seq (h := ?_)
        refine cd (by exact rfl) (fun h3 => ?_) (fun h3 => ?_)
        · skip
          have htl : tlV p = 1 := by rw [tlV, tlB, h3]; rfl
          refine rg (h := ?_)
          refine wy asg ?_
          refine nl (h := ?_)
          rw [htl]
          exact ctn () trivial sbz_ slz_
        · skip
          have htl : tlV p = 0 := by rw [tlV, tlB, h3]; rfl
          refine skp (h := ?_)
          rw [htl]
          exact ctn () trivial sbz_ slz_
      rintro ⟨⟩ -
      refine sq (h := ?_)
      refine rg (h := ?_)
      refine wy mv ?_
      refine wy mv ?_
      refine bs (h := fun b8 => ?_)
      refine ap (A := u.A) (h := fun A4 c4 => ?_)
      refine wy asg ?_
      rw [← encI_app']
      refine nl (h := ?_)
      refine q_seq (h := ?_)
      refine sq (h := ?_)
      refine rg (h := ?_)
      refine wy (by first | exact fa | exact faE) ?_
      refine wy (by first | exact ld | exact ldE) ?_
      refine wy (by first | exact fa | exact faE) ?_
      refine wy (by first | exact ld | exact ldE) ?_
      refine wy gtr ?_
      refine nl (h := ?_)
      refine q_seq (h := ?_)
      refine cd (by exact rfl) (fun h4 => ?_) (fun h4 => ?_)
      · skip
        have hwn : wonTo b.st (z + 1) = ((wonTo b.st z).1 + 1, (wonTo b.st z).2) := by rw [hw1, wside, h4]; rfl
        refine rg (h := ?_)
        refine wy (by first | exact fa | exact faE) ?_
        refine wy (by first | exact fa | exact faE) ?_
        refine wy (by first | exact ld | exact ldE) ?_
        refine wy addI ?_
        refine wy (by first | exact fa | exact faE) ?_
        refine wy (by first | exact fa | exact faE) ?_
        first | refine st (h := ?_) | refine stE (h := ?_)
        refine nl (h := ?_)
        refine q_blk_norm (h := ?_)
        refine q_seq (h := ?_)
        refine rg (h := ?_)
        refine wy addI ?_
        refine wy mv ?_
        refine nl (h := ?_)
        refine rn (X := OZ) (x := ⟨z, Az, cz, es⟩) ⟨z + 1, A4, c4, (es ++ List.replicate N 0) ++ [tlV p]⟩ ⟨by dsimp only; omega, by dsimp only; simp only [List.length_append, List.length_replicate, List.length_cons, List.length_nil]; omega, es ++ List.replicate N 0, by rw [tailE_succ hp]⟩ (by dsimp only; omega) (by dsimp only; rw [hL9]; repeat (first | exact trivial | refine ⟨rfl, ?_⟩)) (by dsimp only; rw [hL9, hwn]; repeat (first | exact SubL.nil | (apply SubL.cons; (repeat (first | exact At.here | apply At.there))) | exact SubL.refl _ | apply SubL.skip))
      · skip
        have hwn : wonTo b.st (z + 1) = ((wonTo b.st z).1, (wonTo b.st z).2 + 1) := by rw [hw1, wside, h4]; rfl
        refine rg (h := ?_)
        refine wy (by first | exact fa | exact faE) ?_
        refine wy (by first | exact fa | exact faE) ?_
        refine wy (by first | exact ld | exact ldE) ?_
        refine wy addI ?_
        refine wy (by first | exact fa | exact faE) ?_
        refine wy (by first | exact fa | exact faE) ?_
        first | refine st (h := ?_) | refine stE (h := ?_)
        refine nl (h := ?_)
        refine q_blk_norm (h := ?_)
        refine q_seq (h := ?_)
        refine rg (h := ?_)
        refine wy addI ?_
        refine wy mv ?_
        refine nl (h := ?_)
        refine rn (X := OZ) (x := ⟨z, Az, cz, es⟩) ⟨z + 1, A4, c4, (es ++ List.replicate N 0) ++ [tlV p]⟩ ⟨by dsimp only; omega, by dsimp only; simp only [List.length_append, List.length_replicate, List.length_cons, List.length_nil]; omega, es ++ List.replicate N 0, by rw [tailE_succ hp]⟩ (by dsimp only; omega) (by dsimp only; rw [hL9]; repeat (first | exact trivial | refine ⟨rfl, ?_⟩)) (by dsimp only; rw [hL9, hwn]; repeat (first | exact SubL.nil | (apply SubL.cons; (repeat (first | exact At.here | apply At.there))) | exact SubL.refl _ | apply SubL.skip))
  · skip
    have hkn : z.k = n := by simp only [decide_eq_false_iff_not] at h0; omega
    obtain ⟨z, Az, cz, es⟩ := z
    dsimp only at *
    have hkn2 := hkn.symm
    subst hkn2
    have hnb := numTo_bd hb n (by omega)
    have hwv : wonV b.st = wonTo b.st n := by rw [wonV, hlen]
    rw [← hwv]
    obtain ⟨G, hG⟩ : ∃ G : Nat, b.g.1 + b.g.2 = (G : Int) := ⟨(b.g.1 + b.g.2).toNat, by omega⟩
    refine et (h := ?_)
    refine q_then_exit (h := ?_)
    refine q_then_exit (h := ?_)
    refine q_blk_hit (h := ?_)
    refine q_seq (h := ?_)
    refine sq (h := ?_)
    refine sq (h := ?_)
    refine rg (h := ?_)
    refine wy (by first | exact fa | exact faE) ?_
    refine wy (by first | exact fa | exact faE) ?_
    refine wy (by first | exact ld | exact ldE) ?_
    refine wy (by first | exact fa | exact faE) ?_
    refine wy (by first | exact fa | exact faE) ?_
    refine wy (by first | exact ld | exact ldE) ?_
    refine wy maxI ?_
    refine wy (by first | exact fa | exact faE) ?_
    refine wy (by first | exact ld | exact ldE) ?_
    refine wy eql ?_
    refine nl (h := ?_)
    refine q_seq (h := ?_)
    refine cd (by exact rfl) (fun h5 => ?_) (fun h5 => ?_)
    · skip
      have hov : overV f (wonV b.st) = true := h5
      have hE : restC f b = zC := by rw [restC, hov]; rfl
      refine sq (h := ?_)
      refine rg (h := ?_)
      refine wy bd ?_
      first | refine stA (h := ?_) | refine stEA (h := ?_)
      refine wy asg ?_
      refine nl (h := ?_)
      refine q_seq (h := ?_)
      refine rtn (h := ?_)
      refine q_then_ret (h := ?_)
      refine q_ret (hR := ?_)
      rw [hE, hov]
      exact fun w hS => ⟨rfl, hS.sub slz_⟩
    · skip
      have hov : overV f (wonV b.st) = false := h5
      obtain ⟨hop, hpt⟩ : OpenP f (setV f (wonV b.st)) b.g.1 b.g.2 ∧ arePts f (tiedV f b.st b.g) (setV f (wonV b.st)).2 b.p = true := by
        rcases hw3 with h3 | ⟨_, h4, h5⟩
        · rw [h3] at hov; cases hov
        · exact ⟨h4, h5⟩
      have hov2 := hov
      rw [over_won hwo, Bool.or_eq_false_iff, decide_eq_false_iff_not, decide_eq_false_iff_not] at hov2
      unfold WonOk at hwo
      have hV : Vs f (wonV b.st) b.g := ⟨by omega, hop⟩
      refine skp (h := ?_)
      refine q_seq (h := ?_)
      refine sq (h := ?_)
      refine sq (h := ?_)
      refine rg (h := ?_)
      refine wy (by first | exact fa | exact faE) ?_
      refine wy (by first | exact fa | exact faE) ?_
      refine wy (by first | exact ld | exact ldE) ?_
      refine wy (by first | exact fa | exact faE) ?_
      refine wy (by first | exact fa | exact faE) ?_
      refine wy (by first | exact ld | exact ldE) ?_
      refine wy addI ?_
      refine wy mv ?_
      refine nl (h := ?_)
      refine q_seq (h := ?_)
      refine bk (h := ?_)
      refine lp (X := OJ) (I := fun v => v.j ≤ G) (le := fun v => [(2, .pointer (some ⟨b0, 0, none⟩)), (3, .pointer (some ⟨b1, 0, none⟩)), (4, .pointer (some ⟨b2, 0, none⟩)), (5, .bool false), (6, .pointer (some ⟨b4, 0, none⟩)), (7, .pointer (some ⟨b5, 0, none⟩)), (8, .slice v.A (es.length + v.j) v.c), (89, .int .i64 (b.g.1 + b.g.2)), (90, .int .i64 v.j)]) (Le := fun v => [.own v.A v.c 3 1 (es.length + v.j) (encI (es ++ List.replicate v.j 0)), .obj b3 (.map #[] 0), .blk b5 156 [.int .i64 (wonV b.st).1, .int .i64 (wonV b.st).2, .int .i64 0, .int .i64 0, .int .i64 0, .int .i64 0, .int .i64 0], .blk b4 153 (restc f b3), .blk b0 35 f.cells, .blk b1 40 (b.cells A n c), .blk b2 125 [.int .i64 0, .int .i64 0, .int .i64 0, .int .i64 0], .ro A 2 n (encP b.st)]) (μ := fun v => G - v.j) ⟨0, Az, cz⟩ (Nat.zero_le _) sbz_ (by dsimp only; rw [List.replicate_zero, List.append_nil]; repeat (first | exact SubL.nil | (apply SubL.cons; (repeat (first | exact At.here | apply At.there))) | exact SubL.refl _ | apply SubL.skip)) (fun v hv => ?_)
      have hv' := hv
      refine sq (h := ?_)
      refine rg (h := ?_)
      refine wy lss ?_
      refine nl (h := ?_)
      refine q_seq (h := ?_)
      refine sq (h := ?_)
      refine cd (by exact rfl) (fun h6 => ?_) (fun h6 => ?_)
      · skip
        have hjn : v.j < G := by simp only [decide_eq_true_eq] at h6; omega
        refine skp (h := ?_)
        refine q_seq (h := ?_)
        refine sq (h := ?_)
        refine bk (h := ?_)
        refine rg (h := ?_)
        refine wy mv ?_
        refine bs (h := fun b9 => ?_)
        refine ap (A := v.A) (h := fun A5 c5 => ?_)
        refine wy asg ?_
        rw [← encI_rep']
        refine nl (h := ?_)
        refine q_blk_norm (h := ?_)
        refine q_seq (h := ?_)
        refine rg (h := ?_)
        refine wy addI ?_
        refine wy mv ?_
        refine nl (h := ?_)
        refine rn (x := v) ⟨v.j + 1, A5, c5⟩ (by dsimp only; omega) (by dsimp only; omega) sbz_ slz_
      · skip
        have hjn : v.j = G := by simp only [decide_eq_false_iff_not] at h6; omega
        rw [hjn]
        have hnv : numV b = ((es.length + G : Nat) : Int) := by rw [numV, hlen, hG, hze]; omega
        have hnl : ((es ++ List.replicate G 0).length : Int) = numV b := by rw [List.length_append, List.length_replicate, hnv]
        have hel : (es ++ List.replicate G 0).length = es.length + G := by rw [List.length_append, List.length_replicate]
        refine et (h := ?_)
        refine q_then_exit (h := ?_)
        refine q_then_exit (h := ?_)
        refine q_blk_hit (h := ?_)
        refine q_seq (h := ?_)
        refine sq (h := ?_)
        refine rg (h := ?_)
        refine wy (by first | exact fa | exact faE) ?_
        refine wy (by first | exact ldA | exact ldEA) ?_
        refine wy mv ?_
        refine wy lenS ?_
        refine wy (by first | exact fa | exact faE) ?_
        first | refine stA (h := ?_) | refine stEA (h := ?_)
        refine wy (by first | exact fa | exact faE) ?_
        first | refine st (h := ?_) | refine stE (h := ?_)
        rw [← hnv]
        refine nl (h := ?_)
        refine q_seq (h := ?_)
        refine sq (h := ?_)
        refine rg (h := ?_)
        refine wy (by first | exact ldA | exact ldEA) ?_
        refine wy (by first | exact fa | exact faE) ?_
        refine wy (by first | exact ldA | exact ldEA) ?_
        refine wy (by first | exact fa | exact faE) ?_
        refine wy (by first | exact ldA | exact ldEA) ?_
        refine cl0 (hc := fun w hS => C_rest_tie f b3 (wonV b.st) b.g hf w) (h := ?_)
        refine wy (by first | exact fa | exact faE) ?_
        refine wy ixA ?_
        first | refine st (h := ?_) | refine stE (h := ?_)
        refine nl (h := ?_)
        refine q_seq (h := ?_)
        refine ct (X := Unit) (fun _ => True) (fun _ => [(2, .pointer (some ⟨b0, 0, none⟩)), (3, .pointer (some ⟨b1, 0, none⟩)), (4, .pointer (some ⟨b2, 0, none⟩)), (5, .bool false), (6, .pointer (some ⟨b4, 0, none⟩)), (7, .pointer (some ⟨b5, 0, none⟩))]) (fun _ => [.obj b3 (.map #[] 0), .blk b5 156 [.int .i64 (wonV b.st).1, .int .i64 (wonV b.st).2, .int .i64 b.g.1, .int .i64 b.g.2, .int .i64 (numV b), .int .i64 (tieN f (wonV b.st) b.g), .int .i64 (t1V b)], .blk b4 153 (restc f b3), .blk b0 35 f.cells, .blk b1 40 (b.cells A n c), .blk b2 125 [.int .i64 0, .int .i64 0, .int .i64 0, .int .i64 0], .ro A 2 n (encP b.st)]) (h1 := ?_) (h2 := ?_)
        · skip
          refine sq (h := ?_)
          refine rg (h := ?_)
          refine wy (by first | exact fa | exact faE) ?_
          refine wy (by first | exact ld | exact ldE) ?_
          refine wy gtr ?_
          refine nl (h := ?_)
          refine q_seq (h := ?_)
          refine cd (by exact rfl) (fun h7 => ?_) (fun h7 => ?_)
          · skip
            have hpos : 0 < numV b := of_decide_eq_true h7
            have hlast : (es ++ List.replicate G 0)[(numV b - 1).toNat]? = some (t1V b) := by
              obtain ⟨pre, hpre⟩ := hzt
              rw [show (numV b - 1).toNat = es.length + G - 1 by omega, t1V, hG]
              cases hGc : G with
              | zero =>
                rw [hpre, hlen]
                rcases Nat.eq_zero_or_pos n with hn0 | hn0
                · have h9 : es.length = 0 := by rw [hze, hn0]; rfl
                  omega
                · obtain ⟨z', hz'⟩ : ∃ z', n = z' + 1 := ⟨n - 1, by omega⟩
                  have hp' : b.st[z']? = some (b.st[z']'(by omega)) := List.getElem?_eq_getElem (by omega)
                  rw [hz', tailE_succ hp', List.replicate_zero, List.append_nil]
                  simp
              | succ G' =>
                rw [List.getElem?_append_right (by omega), List.getElem?_replicate, if_pos (by omega), decide_eq_true (by omega)]; rfl
            have hle9 := encI_at hlast
            refine rg (h := ?_)
            refine wy mv ?_
            refine wy (by first | exact fa | exact faE) ?_
            refine wy (by first | exact ld | exact ldE) ?_
            refine wy subI ?_
            refine wy (ix (A := v.A) (m := es.length + G) (hb := by omega)) ?_
            refine wy (ldE (A := v.A) (hk := hle9)) ?_
            refine wy (by first | exact fa | exact faE) ?_
            refine wy ixA ?_
            first | refine st (h := ?_) | refine stE (h := ?_)
            refine nl (h := ?_)
            first | exact ctn () trivial sbz_ (by rw [ht0]; repeat (first | exact SubL.nil | (apply SubL.cons; (repeat (first | exact At.here | apply At.there))) | exact SubL.refl _ | apply SubL.skip)) | exact ctn () trivial sbz_ slz_
          · skip
            have hz0 : ¬ 0 < numV b := of_decide_eq_false h7
            have ht0 : t1V b = 0 := by
              obtain ⟨pre, hpre⟩ := hzt
              rw [t1V]
              cases hc : decide (0 < b.g.1 + b.g.2)
              · rw [cond_false, hlen]
                have he : es = [] := List.eq_nil_of_length_eq_zero (by omega)
                rw [he] at hpre
                have := (List.append_eq_nil_iff.1 hpre.symm).2
                rw [this]; rfl
              · rfl
            refine skp (h := ?_)
            first | exact ctn () trivial sbz_ (by rw [ht0]; repeat (first | exact SubL.nil | (apply SubL.cons; (repeat (first | exact At.here | apply At.there))) | exact SubL.refl _ | apply SubL.skip)) | exact ctn () trivial sbz_ slz_
        rintro ⟨⟩ -
        refine sq (h := ?_)
        refine rg (h := ?_)
        refine wy (by first | exact ldA | exact ldEA) ?_
        refine wy (by first | exact ldA | exact ldEA) ?_
        refine clT (hc := fromB_all f hf hbd 200 ⟨wonV b.st, b.g, numV b, tieN f (wonV b.st) b.g, t1V b⟩ [] #[] 0 b3 hV rfl (by show remV f (wonV b.st) b.g < _; have := rem_le hf hV; omega) ⟨by show 0 ≤ numV b; omega, by show numV b + remV f (wonV b.st) b.g ≤ 1000; have := rem_le hf hV; omega⟩ mapIs0 (good_nil f)) (h := fun x hx => ?_)
        dsimp only
        obtain ⟨r, hr⟩ : ∃ r, r = fromP f (wonV b.st) b.g (numV b) (t1V b) := ⟨_, rfl⟩
        have hrb := csb_P (n := numV b) (t1 := t1V b) hf hV
        rw [← hr] at hrb ⊢
        unfold CsB at hrb
        first | refine stA (h := ?_) | refine stEA (h := ?_)
        refine nl (h := ?_)
        refine q_seq (h := ?_)
        refine sq (h := ?_)
        refine sq (h := ?_)
        refine rg (h := ?_)
        refine wy (by first | exact ldA | exact ldEA) ?_
        refine cl0 (hc := fun w hS => C_balls_begun _ _ _ _ w) (h := ?_)
        refine wy mv ?_
        refine wy ex ?_
        refine wy ex ?_
        refine wy asg ?_
        refine wy asg ?_
        refine nl (h := ?_)
        refine q_seq (h := ?_)
        refine sq (h := ?_)
        refine rg (h := ?_)
        refine wy mv ?_
        refine wy notB ?_
        refine nl (h := ?_)
        refine q_seq (h := ?_)
        refine cd (by exact rfl) (fun h8 => ?_) (fun h8 => ?_)
        · skip
          have hz : (isZ b.g && isZ b.p) = true := by
            have h' : (!(!isZ b.g || !isZ b.p)) = true := h8
            cases h1 : isZ b.g <;> cases h2 : isZ b.p <;> rw [h1, h2] at h' <;> first | rfl | cases h'
          have hE : restC f b = bumpC r false true := by rw [restC, hov, cond_false, hz, ← hr]
          refine rg (h := ?_)
          refine wy (by first | exact fa | exact faE) ?_
          refine wy (by first | exact fa | exact faE) ?_
          refine wy (by first | exact ld | exact ldE) ?_
          refine wy addI ?_
          refine wy (by first | exact fa | exact faE) ?_
          refine wy (by first | exact fa | exact faE) ?_
          refine wy (by first | exact ld | exact ldE) ?_
          refine wy addI ?_
          refine wy bd ?_
          refine wy (by first | exact fa | exact faE) ?_
          first | refine stA (h := ?_) | refine stEA (h := ?_)
          refine nl (h := ?_)
          refine q_seq (h := ?_)
          refine sq (h := ?_)
          refine rg (h := ?_)
          refine wy (by first | exact ldA | exact ldEA) ?_
          first | refine stA (h := ?_) | refine stEA (h := ?_)
          refine wy asg ?_
          refine nl (h := ?_)
          refine q_seq (h := ?_)
          refine rtn (h := ?_)
          refine q_ret (hR := ?_)
          rw [hE, hov, bumpC, show bz false = 0 from rfl, show bz true = 1 from rfl, Int.add_zero, Int.add_zero]
          exact fun w hS => ⟨rfl, hS.sub slz_⟩
        · skip
          have hz : (isZ b.g && isZ b.p) = false := by
            have h' : (!(!isZ b.g || !isZ b.p)) = false := h8
            cases h1 : isZ b.g <;> cases h2 : isZ b.p <;> rw [h1, h2] at h' <;> first | rfl | cases h'
          have hE : restC f b = bumpC r false false := by rw [restC, hov, cond_false, hz, ← hr]
          refine skp (h := ?_)
          refine q_seq (h := ?_)
          refine sq (h := ?_)
          refine rg (h := ?_)
          refine wy (by first | exact ldA | exact ldEA) ?_
          first | refine stA (h := ?_) | refine stEA (h := ?_)
          refine wy asg ?_
          refine nl (h := ?_)
          refine q_seq (h := ?_)
          refine rtn (h := ?_)
          refine q_ret (hR := ?_)
          rw [hE, hov, bumpC, show bz false = 0 from rfl, Int.add_zero, Int.add_zero, Int.add_zero, Int.add_zero]
          exact fun w hS => ⟨rfl, hS.sub slz_⟩
end Go.Proofs.YtpmmgljndceplaaGreat

namespace Go.Proofs.YtpmmgljndceplaaGreat
open Go Go.RowKit

def t1M (m : MS) : Int := bif decide (2 ≤ (m.ties.length : Int)) && tieI m.ties ((m.ties.length : Int) - 2) then 1 else 0
def totC (m : MS) : Cs := bif decide (0 ≤ m.winner) then ((m.balls, m.balls), ((m.st.length : Int), (m.st.length : Int))) else
  (((fromP m.f m.won m.g m.gs.length (t1M m)).1.1 + m.balls, (fromP m.f m.won m.g m.gs.length (t1M m)).1.2 + m.balls), ((fromP m.f m.won m.g m.gs.length (t1M m)).2.1 + (m.st.length + 1), (fromP m.f m.won m.g m.gs.length (t1M m)).2.2 + (m.st.length + 1)))
def InC (a b : Cs) : Prop := (b.1.1 ≤ a.1.1 ∧ a.1.2 ≤ b.1.2) ∧ b.2.1 ≤ a.2.1 ∧ a.2.2 ≤ b.2.2
theorem InC.trans {a b c : Cs} (h : InC a b) (h' : InC b c) : InC a c := by unfold InC at *; omega
theorem InC.refl (a : Cs) : InC a a := ⟨⟨Int.le_refl _, Int.le_refl _⟩, Int.le_refl _, Int.le_refl _⟩
def shC (c : Cs) (x y : Int) : Cs := ((c.1.1 + x, c.1.2 + x), (c.2.1 + y, c.2.2 + y))
theorem InC.sh {a b : Cs} (h : InC a b) (x y : Int) : InC (shC a x y) (shC b x y) := by unfold InC shC at *; dsimp only; omega
theorem inC_or1 (a b : Cs) : InC a (orV a b) := by unfold InC orV wideV; dsimp only; omega
theorem inC_or2 (a b : Cs) : InC b (orV a b) := by unfold InC orV wideV; dsimp only; omega
theorem tot_play {m : MS} (h : m.winner = -1) : totC m = shC (fromP m.f m.won m.g m.gs.length (t1M m)) m.balls (m.st.length + 1) := by rw [totC, h]; rfl
theorem tot_done {m : MS} (h : 0 ≤ m.winner) : totC m = shC zC m.balls m.st.length := by
  rw [totC, decide_eq_true h]
  unfold shC zC
  simp
theorem next_ne {m : MS} (h : m.winner = -1) : nextV m = { m with ties := tiesV m, balls := bif freshV m.f (tiesV m) then m.balls + 1 else m.balls, server := servesV m.f m.first (tiesV m) 0 } := by rw [nextV, show decide (0 ≤ m.winner) = false by rw [h]; rfl]; rfl
section
variable {f : Fmt} {m : MS} {side : Int}
theorem ends_open (hf : m.f.Ok) (hi : m.Inv) (ho : OpenP m.f (setV m.f m.won) m.g.1 m.g.2) (hs : side = 0 ∨ side = 1) : endS m.f m.won m.g side = setEnds m side := by
  have ht := tie_ok hf m.won
  unfold setEnds
  rw [hi.ta]
  rcases hs with rfl | rfl
  · exact eo_is ht ho
  · exact eo_is' ht ho
theorem tie_old {l : List Bool} {b : Bool} {i : Int} (h : i.toNat < l.length) : tieI (l ++ [b]) i = tieI l i := by
  unfold tieI
  rw [List.getD_eq_getElem?_getD, List.getD_eq_getElem?_getD, List.getElem?_append_left h]
theorem fresh_chg {m1 : MS} (hi : m.Inv) (h1 : m1.f = m.f) (h2 : m1.ties = m.ties) : freshV m1.f (tiesV m1) = chgV m.f m.gs.length (t1M m) m1.won m1.g := by
  have hl : ((tiesV m1).length : Int) - 1 = (m.gs.length : Int) + 1 := by have := hi.tl; simp [tiesV, h2]; omega
  have ha : tieI (tiesV m1) (((tiesV m1).length : Int) - 1) = brksV (setV m.f m1.won) m1.g := by rw [tiesV, h1]; exact tieI_app
  unfold freshV chgV
  rw [ha, hl, h1, Bool.and_comm (!_)]
  congr 1
  rw [show (m.gs.length : Int) + 1 - 2 = (m.gs.length : Int) - 1 by omega]
  congr 1
  unfold t1M
  have htl := hi.tl
  by_cases hn : 1 ≤ (m.gs.length : Int)
  · rw [decide_eq_true (show (2 : Int) ≤ (m.gs.length : Int) + 1 by omega), decide_eq_true (show (2 : Int) ≤ (m.ties.length : Int) by omega), Bool.true_and, Bool.true_and, tiesV, h2, tie_old (by omega), show (m.gs.length : Int) - 1 = (m.ties.length : Int) - 2 by omega]
    cases tieI m.ties ((m.ties.length : Int) - 2) <;> rfl
  · rw [decide_eq_false (show ¬ (2 : Int) ≤ (m.gs.length : Int) + 1 by omega), decide_eq_false (show ¬ (2 : Int) ≤ (m.ties.length : Int) by omega)]
    rfl
theorem t1_next {m1 : MS} (hi : m.Inv) (hw : m1.winner = -1) (h2 : m1.ties = m.ties) : t1M (nextV m1) = tieN m.f m.won m.g := by
  have htl := hi.tl
  have h0 := hi.ta
  rw [next_ne hw]
  unfold t1M tieN
  rw [← h0]
  dsimp only
  have hl : ((tiesV m1).length : Int) = (m.ties.length : Int) + 1 := by simp [tiesV, h2]
  rw [hl, decide_eq_true (show (2 : Int) ≤ (m.ties.length : Int) + 1 by omega), Bool.true_and, tiesV, h2, show (m.ties.length : Int) + 1 - 2 = (m.ties.length : Int) - 1 by omega, tie_old (by omega)]
  rfl
theorem cour_in (hf : f.Ok) (hb : Bdd f) {won g : Pr} {n t1 : Int} (h : Vs f won g) (hs : side = 0 ∨ side = 1) : InC (courV (fromP f) f won g n t1 side) (fromP f won g n t1) := by
  rw [from_eq hf hb h]
  rcases hs with rfl | rfl
  · exact inC_or1 _ _
  · exact inC_or2 _ _
theorem tot_next {m1 : MS} (hf : m.f.Ok) (hb : Bdd m.f) (hi : m.Inv) (hV : Vs m.f m.won m.g) (hs : side = 0 ∨ side = 1) (ho : overS m.f m.won m.g side = false) (hw : m1.winner = -1) (h1 : m1.f = m.f) (h2 : m1.ties = m.ties) (h3 : m1.won = wonS m.f m.won m.g side) (h4 : m1.g = gamS m.f m.won m.g side) (h5 : (m1.gs.length : Int) = m.gs.length + 1) (h6 : m1.balls = m.balls) (h7 : (m1.st.length : Int) = m.st.length + bz (endS m.f m.won m.g side)) : InC (totC (nextV m1)) (totC m) := by
  have hc := (cour_in (n := m.gs.length) (t1 := t1M m) hf hb hV hs).sh m.balls (m.st.length + 1)
  rw [tot_play hi.w]
  refine InC.trans ?_ hc
  have ht := t1_next hi hw h2
  have hfr := fresh_chg hi h1 h2
  have hb' : (nextV m1).balls = m.balls + bz (chgV m.f m.gs.length (t1M m) m1.won m1.g) := by
    rw [next_ne hw]
    dsimp only
    rw [hfr, h6]
    cases chgV m.f m.gs.length (t1M m) m1.won m1.g
    · exact (Int.add_zero _).symm
    · rfl
  have hnw : (nextV m1).winner = -1 := by rw [next_ne hw]; exact hw
  rw [tot_play hnw, ht, hb', courV, ho, cond_false]
  have e1 : (nextV m1).f = m.f := by rw [next_ne hw]; exact h1
  have e2 : (nextV m1).won = m1.won := by rw [next_ne hw]
  have e3 : (nextV m1).g = m1.g := by rw [next_ne hw]
  have e4 : (nextV m1).gs = m1.gs := by rw [next_ne hw]
  have e5 : (nextV m1).st = m1.st := by rw [next_ne hw]
  rw [e1, e2, e3, e4, e5, h5, h7, h3, h4]
  unfold shC bumpC InC
  dsimp only
  omega
end
end Go.Proofs.YtpmmgljndceplaaGreat

namespace Go.Proofs.YtpmmgljndceplaaGreat
open Go Go.RowKit

abbrev brdM (m : MS) : Brd := ⟨m.st, m.g, m.p⟩
structure Rst (f : Fmt) (T : Cs) (m : MS) (K : Nat) : Prop where
  mf : m.f = f
  rch : Rch m
  sets : ∀ (k : Nat) p, m.st[k]? = some p → expT f (setV f (wonTo m.st k)) p.1 p.2 = some true ∧ overV f (wonTo m.st k) = false
  nn : ∀ p ∈ m.st, 0 ≤ p.1 ∧ 0 ≤ p.2
  op : m.winner = -1 → OpenP f (setV f m.won) m.g.1 m.g.2
  dn : 0 ≤ m.winner → m.g = (0, 0) ∧ m.p = (0, 0) ∧ overV f (wonV m.st) = true
  t1 : m.winner = -1 → t1M m = t1V (brdM m)
  num : (m.gs.length : Int) + (bif decide (0 ≤ m.winner) then 0 else remV f m.won m.g) ≤ remV f (0, 0) (0, 0)
  tot : InC (totC m) T
  len : (m.gs.length : Int) + m.p.1 + m.p.2 ≤ K
  b0 : 0 ≤ m.balls
section
variable {f : Fmt} {s : Pr} {T : Cs} {m : MS} {K : Nat} {side : Int}
theorem exp_end (ht : TieOk f s) {a b k : Int} (hk : k = 0 ∨ k = 1) (h : OpenP f s a b) (he : EndP f s a b k = true) : expT f s (addV (a, b) k).1 (addV (a, b) k).2 = some true := by
  unfold expT
  rcases hk with rfl | rfl
  · rw [add_0]
    dsimp only
    rw [if_neg (by unfold OpenP at h; omega), if_pos (by rw [show a + 1 - 1 = a by omega]; exact h), show a + 1 - 1 = a by omega, he]
  · rw [add_1]
    dsimp only
    rw [if_neg (by unfold OpenP at h; omega)]
    by_cases h1 : OpenP f s (a - 1) (b + 1)
    · rw [if_pos h1]
      have h2 : OpenP f s a (b + 1 - 1) := by rw [show b + 1 - 1 = b by omega]; exact h
      rw [ends_agree ht h1 h2, show b + 1 - 1 = b by omega, he]
    · rw [if_neg h1, if_pos (by rw [show b + 1 - 1 = b by omega]; exact h), show b + 1 - 1 = b by omega, he]
theorem inv_vs (h : Rst f T m K) (hi : m.Inv) : Vs f m.won m.g := by
  have h1 := hi.ws
  have h2 := wonTo_bd m.st m.st.length
  rw [← show wonV m.st = wonTo m.st m.st.length from rfl, ← hi.won] at h2
  rw [h.mf] at h1
  exact ⟨by omega, h.op hi.w⟩
theorem isTl {g : Pr} (hb : m.tie = brksV s g) (hs : side = 0 ∨ side = 1) (ho : OpenP f s g.1 g.2) (he : (m.tie || decide (0 ≤ leadsV (addV g side) f.games 2)) = true) : (bif m.tie then (1 : Int) else 0) = tlV (addV g side) := by
  unfold tlV tlB
  have hl0 := leads_0 (p := addV g side) (l := f.games) (b := 2)
  have hl1 := leads_1 (p := addV g side) (l := f.games) (b := 2) (by decide)
  have hr := leadsV_rng (addV g side) f.games 2
  cases ht : m.tie
  · rw [ht, Bool.false_or, decide_eq_true_eq] at he
    rw [decide_eq_false (by omega), decide_eq_false (by omega)]; rfl
  · rw [ht] at hb
    have hb' := hb.symm
    simp only [brksV, Bool.and_eq_true, decide_eq_true_eq] at hb'
    rcases hs with rfl | rfl
    · rw [add_0]
      dsimp only
      rw [decide_eq_true (show g.1 + 1 - g.2 = 1 by omega)]; rfl
    · rw [add_1]
      dsimp only
      rw [decide_eq_true (show g.2 + 1 - g.1 = 1 by omega), Bool.or_true]
theorem rst_step (hf : f.Ok) (hb : Bdd f) (h : Rst f T m K) (hi : m.Inv) (hs : side = 0 ∨ side = 1) : Rst f T (pointV m side) (K + 1) := by
  have hV := inv_vs h hi
  have hmf := h.mf
  have hf' : m.f.Ok := hmf ▸ hf
  have hb' : Bdd m.f := hmf ▸ hb
  have hV' : Vs m.f m.won m.g := hmf ▸ hV
  have hrch := (spot_step hf' hi h.rch.cnt hs).2
  have hmf2 := (stp_f (point_step hf' hi hs)).1
  have hes := ends_open hf' hi hV'.2 hs
  have hst := point_step hf' hi hs
  have hsum := add_sum m.g side
  have hps := add_sum m.p side
  have hlen := h.len
  have hnum := h.num
  rw [hi.w] at hnum
  have hp0 := hi.p0
  have hg0 := hi.g0
  have ha0 : 0 ≤ (addV m.g side).1 ∧ 0 ≤ (addV m.g side).2 := by
    unfold addV; cases decide (side = 0) <;> simp only [cond_true, cond_false] <;> omega
  have hwt : wonTo m.st m.st.length = m.won := hi.won.symm
  have hfr : ∀ m0 : MS, m0.winner = -1 → m.balls ≤ m0.balls → 0 ≤ (nextV m0).balls := fun m0 hw hle => by
    have := h.b0
    rw [next_ne hw]
    dsimp only
    cases freshV m0.f (tiesV m0) <;> simp only [cond_true, cond_false] <;> omega
  -- the sets behind one more
  have hover : overV f m.won = false := by
    have := hi.ws
    unfold overV
    rw [hmf] at this
    exact decide_eq_false (by omega)
  have hsets : setEnds m side = true → ∀ (k : Nat) p, (m.st ++ [addV m.g side])[k]? = some p → expT f (setV f (wonTo (m.st ++ [addV m.g side]) k)) p.1 p.2 = some true ∧ overV f (wonTo (m.st ++ [addV m.g side]) k) = false := fun he k p hk => by
    by_cases hlt : k < m.st.length
    · rw [List.getElem?_append_left hlt] at hk
      rw [wonTo_app _ _ _ (by omega)]
      exact h.sets k p hk
    · have hl := (List.getElem?_eq_some_iff.1 hk).1
      obtain rfl : k = m.st.length := by simp at hl; omega
      simp at hk
      subst hk
      rw [wonTo_app _ _ _ (Nat.le_refl _), hwt]
      refine ⟨?_, hover⟩
      have hee : EndP f (setV f m.won) m.g.1 m.g.2 side = true := by
        rw [← he, setEnds, hi.ta, hmf]; rfl
      have := exp_end (tie_ok hf m.won) hs hV.2 hee
      exact this
  have hnn : ∀ p ∈ m.st ++ [addV m.g side], 0 ≤ p.1 ∧ 0 ≤ p.2 := fun p hp => by
    rcases List.mem_append.1 hp with hp | hp
    · exact h.nn p hp
    · rw [List.mem_singleton] at hp; subst hp; exact ha0
  generalize hm' : pointV m side = m' at hst hrch hmf2
  cases hst with
  | no hw hn =>
    refine ⟨hmf, hrch, h.sets, h.nn, h.op, fun hc => absurd hc (by show ¬ 0 ≤ m.winner; rw [hi.w]; decide), h.t1, h.num, h.tot, ?_, h.b0⟩
    show (m.gs.length : Int) + (addV m.p side).1 + (addV m.p side).2 ≤ ((K + 1 : Nat) : Int)
    omega
  | game hw he hp hn =>
    have hE : endS m.f m.won m.g side = false := hes.trans he
    have hO : overS m.f m.won m.g side = false := by rw [overS, hE]; rfl
    obtain ⟨hv1, hv2⟩ := step_ok' hf' hb' hs hV' hO
    have hw0 : (gameOver m side).winner = -1 := hi.w
    have hww : wonS m.f m.won m.g side = m.won := by rw [wonS, hE]; rfl
    have hgg : gamS m.f m.won m.g side = addV m.g side := by rw [gamS, hE]; rfl
    rw [hww, hgg] at hv1 hv2
    have hmt : m.tie = false := by
      have := he
      unfold setEnds at this
      rw [Bool.or_eq_false_iff] at this
      exact this.1
    have htot := (tot_next (m1 := gameOver m side) hf' hb' hi hV' hs hO hw0 rfl rfl hww.symm hgg.symm (by show ((m.gs ++ [gameG m side]).length : Int) = _; simp) rfl (by rw [hE]; exact (Int.add_zero _).symm)).trans h.tot
    have ht1 := t1_next (m1 := gameOver m side) hi hw0 rfl
    have e := next_ne hw0
    refine ⟨hmf2.trans hmf, hrch, ?_, ?_, fun _ => ?_, fun hc => ?_, fun _ => ?_, ?_, htot, ?_, hfr _ hw0 (Int.le_refl _)⟩
    · rw [e]; exact h.sets
    · rw [e]; exact h.nn
    · rw [e]; rw [hmf] at hv1; exact hv1.2
    · rw [e] at hc; exact absurd (show 0 ≤ m.winner from hc) (by rw [hi.w]; decide)
    · rw [ht1, tieN, ← hi.ta, hmt, e]
      show (0 : Int) = t1V ⟨m.st, addV m.g side, (0, 0)⟩
      rw [t1V, decide_eq_true (show 0 < (addV m.g side).1 + (addV m.g side).2 by omega)]; rfl
    · rw [e]
      show ((m.gs ++ [gameG m side]).length : Int) + (bif decide (0 ≤ m.winner) then 0 else remV f m.won (addV m.g side)) ≤ _
      rw [hi.w, List.length_append, List.length_singleton]
      rw [hmf] at hv2
      have hnum' : (m.gs.length : Int) + remV f m.won m.g ≤ remV f (0, 0) (0, 0) := hnum
      show ((m.gs.length + 1 : Nat) : Int) + remV f m.won (addV m.g side) ≤ _
      omega
    · rw [e]
      show ((m.gs ++ [gameG m side]).length : Int) + 0 + 0 ≤ ((K + 1 : Nat) : Int)
      rw [List.length_append, List.length_singleton]; omega
  | set hw he hl ho hp hn =>
    have hE : endS m.f m.won m.g side = true := hes.trans he
    have hws := wonV_app m.st (addV m.g side)
    rw [wside_eq hs hl, ← hi.won] at hws
    have hO : overS m.f m.won m.g side = false := by
      rw [overS, hE, Bool.true_and]
      apply decide_eq_false
      rcases hs with rfl | rfl
      · show ¬ (addV m.won 0).1 = m.f.sets; omega
      · show ¬ (addV m.won 1).2 = m.f.sets; omega
    obtain ⟨hv1, hv2⟩ := step_ok' hf' hb' hs hV' hO
    have hw0 : (setOver m side).winner = -1 := hi.w
    have hww : wonS m.f m.won m.g side = addV m.won side := by rw [wonS, hE]; rfl
    have hgg : gamS m.f m.won m.g side = (0, 0) := by rw [gamS, hE]; rfl
    rw [hww, hgg] at hv1 hv2
    have htot := (tot_next (m1 := setOver m side) hf' hb' hi hV' hs hO hw0 rfl rfl hww.symm hgg.symm (by show ((m.gs ++ [gameG m side]).length : Int) = _; simp) rfl (by rw [hE]; show ((m.st ++ [addV m.g side]).length : Int) = _; simp [bz])).trans h.tot
    have ht1 := t1_next (m1 := setOver m side) hi hw0 rfl
    have e := next_ne hw0
    refine ⟨hmf2.trans hmf, hrch, ?_, ?_, fun _ => ?_, fun hc => ?_, fun _ => ?_, ?_, htot, ?_, hfr _ hw0 (Int.le_refl _)⟩
    · rw [e]; exact hsets he
    · rw [e]; exact hnn
    · rw [e]; rw [hmf] at hv1; exact hv1.2
    · rw [e] at hc; exact absurd (show 0 ≤ m.winner from hc) (by rw [hi.w]; decide)
    · rw [ht1, tieN, ← hi.ta, e]
      show _ = t1V ⟨m.st ++ [addV m.g side], (0, 0), (0, 0)⟩
      rw [isTl (f := f) hi.ta hs (hmf ▸ hV'.2) (by rw [← hmf]; exact he)]
      have hk : (m.st ++ [addV m.g side])[m.st.length]? = some (addV m.g side) := by simp
      rw [t1V, List.length_append, List.length_singleton, tailE_succ hk]; rfl
    · rw [e]
      show ((m.gs ++ [gameG m side]).length : Int) + (bif decide (0 ≤ m.winner) then 0 else remV f (addV m.won side) (0, 0)) ≤ _
      rw [hi.w, List.length_append, List.length_singleton]
      rw [hmf] at hv2
      have hnum' : (m.gs.length : Int) + remV f m.won m.g ≤ remV f (0, 0) (0, 0) := hnum
      show ((m.gs.length + 1 : Nat) : Int) + remV f (addV m.won side) (0, 0) ≤ _
      omega
    · rw [e]
      show ((m.gs ++ [gameG m side]).length : Int) + 0 + 0 ≤ ((K + 1 : Nat) : Int)
      rw [List.length_append, List.length_singleton]; omega
  | over hw he hl ho =>
    have hE : endS m.f m.won m.g side = true := hes.trans he
    have hws := wonV_app m.st (addV m.g side)
    rw [wside_eq hs hl, ← hi.won] at hws
    have hwl := hi.ws
    have hO : overS m.f m.won m.g side = true := by
      rw [overS, hE, Bool.true_and]
      apply decide_eq_true
      rcases hs with rfl | rfl
      · rw [add_0] at ho; show m.won.1 + 1 = m.f.sets; dsimp only at ho; omega
      · rw [add_1] at ho; show m.won.2 + 1 = m.f.sets; dsimp only at ho; omega
    have h0 : 0 ≤ side := by omega
    have hov : overV f (wonV (m.st ++ [addV m.g side])) = true := by rw [hws, overV, ← hmf]; exact decide_eq_true ho
    have hrp := rem_pos hf' hb' hV'
    have hci := (cour_in (n := m.gs.length) (t1 := t1M m) hf' hb' hV' hs).sh m.balls (m.st.length + 1)
    rw [courV, hO, cond_true] at hci
    refine ⟨hmf, hrch, hsets he, hnn, fun hc => absurd hc (by show ¬ side = -1; omega), fun _ => ⟨rfl, rfl, hov⟩, fun hc => absurd hc (by show ¬ side = -1; omega), ?_, ?_, ?_, h.b0⟩
    · show ((m.gs ++ [gameG m side]).length : Int) + (bif decide (0 ≤ side) then 0 else remV f (addV m.won side) (0, 0)) ≤ _
      rw [decide_eq_true h0, List.length_append, List.length_singleton]
      rw [hmf] at hrp
      have hnum' : (m.gs.length : Int) + remV f m.won m.g ≤ remV f (0, 0) (0, 0) := hnum
      show ((m.gs.length + 1 : Nat) : Int) + 0 ≤ _
      omega
    · refine InC.trans ?_ h.tot
      rw [tot_done h0, tot_play hi.w]
      have : ((matchOver m side).st.length : Int) = m.st.length + 1 := by show ((m.st ++ [addV m.g side]).length : Int) = _; simp
      rw [this]
      exact hci
    · show ((m.gs ++ [gameG m side]).length : Int) + 0 + 0 ≤ ((K + 1 : Nat) : Int)
      rw [List.length_append, List.length_singleton]; omega
theorem begin_ne (f : Fmt) (first : Int) : beginV f first = { begin0 f first with ties := tiesV (begin0 f first), balls := bif freshV f (tiesV (begin0 f first)) then 1 else 0, server := servesV f first (tiesV (begin0 f first)) 0 } := next_ne (m := begin0 f first) rfl
theorem fresh0 (hf : f.Ok) (first : Int) : freshV f (tiesV (begin0 f first)) = false := by
  have h1 := hf.f0
  unfold freshV
  have hl : (tiesV (begin0 f first)).length = 1 := rfl
  rw [hl]
  have h0 : dueV f 0 = false := by
    unfold dueV
    by_cases h : 0 < f.first
    · rw [decide_eq_true h, decide_eq_false (show ¬ 0 - f.first = 0 by omega), decide_eq_false (show ¬ 0 < 0 - f.first by omega)]; rfl
    · rw [decide_eq_false h]; rfl
  show (!tieI _ 0 && dueV f 0 || false && _ && _) = false
  rw [h0, Bool.and_false]; rfl
abbrev noBrd : Brd := ⟨[], (0, 0), (0, 0)⟩
theorem rest_none (hf : f.Ok) : restC f noBrd = bumpC (fromP f (0, 0) (0, 0) 0 0) false true := by
  have h1 := hf.s0
  have h2 : overV f (wonV []) = false := decide_eq_false (show ¬ (0 : Int) = f.sets by omega)
  unfold restC
  rw [h2]; rfl
theorem rst_begin (hf : f.Ok) (first : Int) : Rst f (restC f noBrd) (beginV f first) 0 := by
  have hs := hf.s0
  have e := begin_ne f first
  have hb : (beginV f first).balls = 0 := by rw [e, fresh0 hf]; rfl
  have hw : (beginV f first).winner = -1 := by rw [e]; rfl
  refine ⟨by rw [e]; rfl, rch_begin hf first, fun k p hk => ?_, fun p hp => ?_, fun _ => ?_, fun hc => ?_, fun _ => ?_, ?_, ?_, ?_, ?_⟩
  · rw [e] at hk; cases hk
  · rw [e] at hp; cases hp
  · rw [e]; exact open0 (tie_ok hf _)
  · rw [hw] at hc; exact absurd hc (by decide)
  · rw [e]; rfl
  · rw [e]; exact Int.le_of_eq (Int.zero_add _)
  · rw [tot_play hw, hb, rest_none hf, e]
    have ht : t1M { begin0 f first with ties := tiesV (begin0 f first), balls := bif freshV f (tiesV (begin0 f first)) then 1 else 0, server := servesV f first (tiesV (begin0 f first)) 0 } = 0 := rfl
    rw [ht]
    exact InC.refl _
  · rw [e]; exact Int.le_refl _
  · rw [hb]; exact Int.le_refl _
end
end Go.Proofs.YtpmmgljndceplaaGreat

namespace Go.Proofs.YtpmmgljndceplaaGreat
open Go Go.RowKit

theorem won_len (l : List Pr) : ∀ k, k ≤ l.length → (wonTo l k).1 + (wonTo l k).2 = (k : Int)
  | 0, _ => rfl
  | k + 1, hk => by
    have ih := won_len l k (by omega)
    have hp : l[k]? = some l[k] := List.getElem?_eq_getElem (by omega)
    rw [wonTo_succ hp, addB_sum, ih]; omega
theorem numTo_sum {l : List Pr} (h : ∀ p ∈ l, 0 ≤ p.1 ∧ 0 ≤ p.2) : ∀ k, k ≤ l.length → (numTo l k : Int) = sumP (l.take k)
  | 0, _ => rfl
  | k + 1, hk => by
    have ih := numTo_sum h k (by omega)
    have hp : l[k]? = some l[k] := List.getElem?_eq_getElem (by omega)
    have h1 := h l[k] (List.getElem_mem _)
    rw [numTo_succ hp, List.take_add_one, hp]
    show _ = sumP (l.take k ++ [l[k]])
    rw [sumP_app, ← ih]; omega
theorem sum_mem : ∀ {l : List Pr} {p : Pr}, (∀ p ∈ l, 0 ≤ p.1 ∧ 0 ≤ p.2) → p ∈ l → p.1 + p.2 ≤ sumP l ∧ 0 ≤ sumP l
  | [], _, _, hp => by cases hp
  | q :: l, p, h, hp => by
    have hq := h q List.mem_cons_self
    have hl : 0 ≤ sumP l := by
      cases l with
      | nil => exact Int.le_refl _
      | cons r l => exact (sum_mem (l := r :: l) (p := r) (fun p hp => h p (List.mem_cons_of_mem _ hp)) List.mem_cons_self).2
    have e : sumP (q :: l) = q.1 + q.2 + sumP l := by simp [sumP]
    rw [e]
    rcases List.mem_cons.1 hp with rfl | hp
    · omega
    · have := sum_mem (l := l) (p := p) (fun p hp => h p (List.mem_cons_of_mem _ hp)) hp
      omega
theorem sets_arise {tb : Pr → Tb} {f : Fmt} (htb : TbOk f tb) (hf : f.Ok) {l : List Pr} (hl : ∀ p ∈ l, p.1 ≤ 40 ∧ p.2 ≤ 40) (h : ∀ (k : Nat) p, l[k]? = some p → expT f (setV f (wonTo l k)) p.1 p.2 = some true ∧ overV f (wonTo l k) = false) : ∀ k, k ≤ l.length → (setsTo tb f l k).ok = true ∧ (setsTo tb f l k).won = wonTo l k
  | 0, _ => ⟨rfl, rfl⟩
  | k + 1, hk => by
    obtain ⟨h1, h2⟩ := sets_arise htb hf hl h k (by omega)
    have hp : l[k]? = some l[k] := List.getElem?_eq_getElem (by omega)
    obtain ⟨h3, h4⟩ := step_is htb hf hp (hl _ (List.getElem_mem _)) h1 h2
    obtain ⟨h5, h6⟩ := h k _ hp
    have h7 : (setsTo tb f l (k + 1)).ok = true := by rw [h3, h6, h5]; simp
    exact ⟨h7, h4 h7⟩
section
variable {f : Fmt} {T : Cs} {m : MS} {K : Nat} {side : Int}
theorem rst_inv (h : Rst f T m K) : m.Inv ∨ (0 ≤ m.winner ∧ max (wonV m.st).1 (wonV m.st).2 = f.sets) := by
  rcases h.rch.inv with hi | ⟨hd, h1, _⟩
  · exact .inl hi
  · exact .inr ⟨by have := hd.w; omega, by rw [← h.mf]; exact h1⟩
theorem rst_gp (h : Rst f T m K) : (0 ≤ m.g.1 ∧ 0 ≤ m.g.2) ∧ 0 ≤ m.p.1 ∧ 0 ≤ m.p.2 := by
  rcases rst_inv h with hi | ⟨hd, _⟩
  · exact ⟨hi.g0, hi.p0⟩
  · obtain ⟨h1, h2, _⟩ := h.dn hd
    rw [h1, h2]; decide
theorem rst_numV (h : Rst f T m K) : numV (brdM m) = m.gs.length := by
  have h1 := numTo_sum h.nn m.st.length (Nat.le_refl _)
  rw [List.take_length] at h1
  have h2 : (m.gs.length : Int) = sumP m.st + (m.g.1 + m.g.2) := h.rch.cnt
  show (numTo m.st m.st.length : Int) + (m.g.1 + m.g.2) = _
  omega
theorem rst_num (hf : f.Ok) (hb : Bdd f) (h : Rst f T m K) : numV (brdM m) ≤ remV f (0, 0) (0, 0) := by
  have h1 := h.num
  rw [rst_numV h]
  rcases rst_inv h with hi | ⟨hd, _⟩
  · have := rem_pos hf hb (inv_vs h hi)
    rw [hi.w] at h1
    have h2 : (m.gs.length : Int) + remV f m.won m.g ≤ remV f (0, 0) (0, 0) := h1
    omega
  · rw [decide_eq_true hd, cond_true] at h1; omega
theorem rst_fit (h : Rst f T m K) : (∀ p ∈ m.st, (0 ≤ p.1 ∧ p.1 ≤ K) ∧ 0 ≤ p.2 ∧ p.2 ≤ K) ∧ ((0 ≤ m.g.1 ∧ m.g.1 ≤ K) ∧ 0 ≤ m.g.2 ∧ m.g.2 ≤ K) ∧ (0 ≤ m.p.1 ∧ m.p.1 ≤ K) ∧ 0 ≤ m.p.2 ∧ m.p.2 ≤ K := by
  obtain ⟨h1, h2⟩ := rst_gp h
  have h3 : (m.gs.length : Int) = sumP m.st + (m.g.1 + m.g.2) := h.rch.cnt
  have h4 := h.len
  have h5 : 0 ≤ sumP m.st := by
    cases hl : m.st with
    | nil => exact Int.le_refl _
    | cons q l => exact (sum_mem (p := q) (by rw [← hl]; exact h.nn) List.mem_cons_self).2
  refine ⟨fun p hp => ?_, by omega, by omega⟩
  have h6 := sum_mem h.nn hp
  have h7 := h.nn p hp
  omega
theorem rst_stl (hf : f.Ok) (h : Rst f T m K) : m.st.length ≤ 5 := by
  have h1 := won_len m.st m.st.length (Nat.le_refl _)
  have hs := hf.s1
  rcases rst_inv h with hi | ⟨hd, hm⟩
  · have h2 := hi.ws
    rw [hi.won, h.mf] at h2
    unfold wonV at h2
    omega
  · cases hl : m.st.length with
    | zero => omega
    | succ k =>
      have hp : m.st[k]? = some (m.st[k]'(by omega)) := List.getElem?_eq_getElem (by omega)
      have h3 := (h.sets k _ hp).2
      unfold overV at h3
      have h4 := of_decide_eq_false h3
      unfold wonV at hm
      rw [hl, wonTo_succ hp] at hm
      rw [hl, wonTo_succ hp] at h1
      have hb := wonTo_bd m.st k
      revert hm h1
      unfold addV
      cases decide (wside (m.st[k]'(by omega)) = 0) <;> simp only [cond_true, cond_false] <;> omega
theorem brdOk_of {b : Brd} (h1 : b.st.length ≤ 5) (h2 : ∀ p ∈ b.all, (0 ≤ p.1 ∧ p.1 ≤ 40) ∧ 0 ≤ p.2 ∧ p.2 ≤ 40) : brdOk b = true := by
  unfold brdOk
  rw [decide_eq_true (by omega), Bool.true_and, Bool.not_eq_true', List.any_eq_false]
  intro p hp
  have h3 := h2 p hp
  unfold fitP wi
  simp; omega
theorem rst_arises (hf : f.Ok) (h : Rst f T m K) (hK : K ≤ 40) : brdOk (brdM m) = true ∧ (arisesV f (brdM m)).2 = true := by
  obtain ⟨h1, h2, h3⟩ := rst_fit h
  have hb : brdOk (brdM m) = true := by
    refine brdOk_of (rst_stl hf h) fun p hp => ?_
    rcases List.mem_append.1 hp with hp | hp
    · have := h1 p hp; omega
    · rcases List.mem_cons.1 hp with rfl | hp
      · dsimp only; omega
      · rw [List.mem_singleton] at hp; subst hp; dsimp only; omega
  refine ⟨hb, ?_⟩
  have key : ∀ tb : Pr → Tb, TbOk f tb → (arisesT tb f (brdM m)).2 = true := fun tb htb => by
    obtain ⟨h4, h5⟩ := sets_arise htb hf (l := m.st) (fun p hp => by have := h1 p hp; omega) h.sets m.st.length (Nat.le_refl _)
    rcases rst_inv h with hi | ⟨hd, _⟩
    · have hov : overV f (wonV m.st) = false := by
        have h6 := hi.ws
        rw [hi.won, h.mf] at h6
        unfold overV
        exact decide_eq_false (by omega)
      rw [arises_pts htb hf (b := brdM m) (by dsimp only; omega) (by dsimp only; omega) h4 h5 hov]
      have hop := h.op hi.w
      rw [hi.won] at hop
      have hgo := hi.go
      have hta := hi.ta
      have had := hi.ad
      rw [h.mf, hi.won] at hgo hta
      rw [h.mf] at had
      have e1 : tiedV f m.st m.g = m.tie := by rw [tied_eq rfl hi.g0.1]; exact hta.symm
      show (decide (expT f (setV f (wonV m.st)) m.g.1 m.g.2 = some false) && arePts f (tiedV f m.st m.g) (setV f (wonV m.st)).2 m.p) = true
      rw [decide_eq_true ((exp_open (tie_ok hf _) _ _).2 hop), Bool.true_and, e1]
      unfold gameV at hgo
      unfold arePts
      cases ht : m.tie
      · rw [ht] at hgo
        cases hn : f.noAd
        · rw [hn] at hgo
          simp only [cond_false] at hgo
          rw [leads_n] at hgo
          simp only [Bool.and_false, cond_false, Bool.or_eq_true, decide_eq_true_eq]; omega
        · have := had hn ht
          simp only [Bool.not_false, Bool.and_true, cond_true, Bool.and_eq_true, decide_eq_true_eq]; exact this
      · rw [ht] at hgo
        simp only [cond_true] at hgo
        rw [leads_n] at hgo
        simp only [Bool.not_true, Bool.false_and, cond_false, cond_true, Bool.or_eq_true, decide_eq_true_eq]; omega
    · obtain ⟨h6, h7, h8⟩ := h.dn hd
      rw [arises_end (b := brdM m) h4 h5 h8]
      show (isZ m.g && isZ m.p) = true
      rw [h6, h7]; rfl
  exact key (tableV f) (tbOk_table f)
theorem rst_rest (h : Rst f T m K) : (restC f (brdM m)).1.2 ≤ T.1.2 ∧ (restC f (brdM m)).2.2 ≤ T.2.2 := by
  have ht := h.tot
  have hb := h.b0
  rcases rst_inv h with hi | ⟨hd, _⟩
  · have hov : overV f (wonV m.st) = false := by
      have h6 := hi.ws
      rw [hi.won, h.mf] at h6
      unfold overV
      exact decide_eq_false (by omega)
    rw [tot_play hi.w, h.mf, hi.won, h.t1 hi.w] at ht
    have hz := bz_rng (isZ m.g && isZ m.p)
    have e : restC f (brdM m) = bumpC (fromP f (wonV m.st) m.g m.gs.length (t1V (brdM m))) false (isZ m.g && isZ m.p) := by
      rw [restC, rst_numV h, hov]; rfl
    rw [e]
    unfold InC shC at ht
    unfold bumpC
    dsimp only at ht ⊢
    have hz0 : bz false = 0 := rfl
    omega
  · obtain ⟨_, _, h8⟩ := h.dn hd
    rw [tot_done hd] at ht
    have e : restC f (brdM m) = zC := by rw [restC, h8]; rfl
    rw [e]
    unfold InC shC zC at ht
    unfold zC
    dsimp only at ht ⊢
    omega
theorem rst_pt (hf : f.Ok) (hb : Bdd f) (h : Rst f T m K) {p : Int} (hp : p = 0 ∨ p = 1) {s : Spot} (hn : nxtS f (spotOf m) p = some s) : ∃ m', Rst f T m' (K + 1) ∧ spotOf m' = s := by
  rcases rst_inv h with hi | ⟨_, hm⟩
  · have h1 := (spot_step (by rw [h.mf]; exact hf) hi h.rch.cnt hp).1
    rw [h.mf, hn] at h1
    exact ⟨_, rst_step hf hb h hi hp, (Option.some.inj h1).symm⟩
  · rw [nxtS, show decide (topS (spotOf m) = f.sets) = true from decide_eq_true hm] at hn
    cases hn
theorem rst_pts (hf : f.Ok) (hb : Bdd f) (h : Rst f T m K) : ∀ (k : Nat) {s : Spot}, Pts f (spotOf m) k s → ∃ m', Rst f T m' (K + k) ∧ spotOf m' = s
  | 0, s, hp => ⟨m, h, hp⟩
  | k + 1, s, ⟨u, hu, p, hp, _, hn⟩ => by
    obtain ⟨m1, h1, e⟩ := rst_pts hf hb h k hu
    rw [← e] at hn
    exact rst_pt hf hb h1 hp hn
theorem rst_len (hf : f.Ok) (hb : Bdd f) {first : Int} {xs : List Nt} : ∀ (j : Nat) {n : Int} {s : Spot}, Len f first xs j n s → 0 ≤ n ∧ ∃ m, Rst f (restC f noBrd) m n.toNat ∧ spotOf m = s
  | 0, n, s, ⟨hn, hs⟩ => by
    subst hn
    refine ⟨Int.le_refl _, ?_⟩
    obtain ⟨e, he, rfl⟩ := List.mem_map.1 hs
    rcases List.mem_append.1 he with he | he
    · by_cases h : first = -1 ∨ first = 0
      · rw [if_pos h, List.mem_singleton] at he; subst he
        exact ⟨_, rst_begin hf 0, begin_spot f 0⟩
      · rw [if_neg h] at he; cases he
    · by_cases h : first = -1 ∨ first = 1
      · rw [if_pos h, List.mem_singleton] at he; subst he
        exact ⟨_, rst_begin hf 1, begin_spot f 1⟩
      · rw [if_neg h] at he; cases he
  | j + 1, n, s, ⟨x, t, k, hx, hl, hr⟩ => by
    obtain ⟨h0, m, hm, e⟩ := rst_len hf hb j hl
    unfold RelN at hr
    by_cases h1 : x.kind = 1
    · rw [if_pos h1] at hr
      obtain ⟨rfl, p, hp, _, hn⟩ := hr
      rw [← e] at hn
      obtain ⟨m', hm', e'⟩ := rst_pt hf hb hm hp hn
      refine ⟨by omega, m', ?_, e'⟩
      rw [show n.toNat = (n - 1).toNat + 1 by omega]; exact hm'
    · rw [if_neg h1] at hr
      by_cases h2 : x.kind = 2
      · rw [if_pos h2] at hr
        obtain ⟨i, rfl, _, _, hp⟩ := hr
        rw [← e] at hp
        obtain ⟨m', hm', e'⟩ := rst_pts hf hb hm i hp
        refine ⟨by omega, m', ?_, e'⟩
        rw [show n.toNat = (n - i).toNat + i by omega]; exact hm'
      · rw [if_neg h2] at hr
        obtain ⟨rfl, rfl, _⟩ := hr
        rw [Int.sub_zero] at h0 hm
        exact ⟨h0, m, hm, e⟩
theorem crowd_doubt (hf : f.Ok) (hb : Bdd f) {first : Int} {xs : List Nt} (hx : ∀ x ∈ xs, x.kind = 2 → 0 ≤ x.pair.2) (hm : mostS xs ≤ 40) {b : Brd} (h : b ∈ boardsC (keyC (crowdC f first xs))) : (brdOk b = true ∧ (arisesV f b).2 = true) ∧ numV b ≤ remV f (0, 0) (0, 0) ∧ (restC f b).1.2 ≤ (restC f noBrd).1.2 ∧ (restC f b).2.2 ≤ (restC f noBrd).2.2 := by
  obtain ⟨s, hs, rfl⟩ := ((boards_facts _).2 _).1 h
  obtain ⟨e, he, rfl⟩ := List.mem_map.1 hs
  have hmm := crowd_mm f first xs xs.length (Nat.le_refl _)
  rw [List.take_length] at hmm
  have hr := crowd_rng hx he
  obtain ⟨h0, m, h1, h2⟩ := rst_len hf hb _ (hmm.1 e he).1
  have hbd : brdOf e.1 = brdM m := by rw [← h2]; rfl
  rw [hbd]
  exact ⟨rst_arises hf h1 (by omega), rst_num hf hb h1, rst_rest h1⟩
end
end Go.Proofs.YtpmmgljndceplaaGreat

namespace Go.Proofs.YtpmmgljndceplaaGreat
open Go Go.RowKit

def begTo (cf : Int) : Nat → List En
  | 0 => []
  | k + 1 => begTo cf k ++ if cf = -1 ∨ cf = (k : Int) then [(⟨(k : Int), [], (0, 0), (0, 0)⟩, (0, 0, 0))] else []
theorem begTo_two (cf : Int) : begTo cf 2 = begC cf := by
  show (([] : List En) ++ _) ++ _ = _
  unfold begC
  rw [List.nil_append]
  rfl
structure BgI (f : Fmt) (cf : Int) (k : Nat) (N : List Nd) (mn : Nat → Pr) (ns : List Nd) (es : Array MapEntry) (c : Nat) : Prop where
  ok : PoolOk f N mn 0
  cr : CrIs N ns es c
  eqC : toC mn ns = begTo cf k
  row : ∀ y ∈ ns, RowN N y [] ∧ y.s = ⟨y.s.first, [], (0, 0), (0, 0)⟩ ∧ (cf = -1 ∨ cf = y.s.first) ∧ 0 ≤ y.s.first ∧ y.s.first < (k : Int)
theorem BgI.skip {f : Fmt} {cf : Int} {k : Nat} {N : List Nd} {mn : Nat → Pr} {ns : List Nd} {es : Array MapEntry} {c : Nat} (h : BgI f cf k N mn ns es c) (hc : ¬ (cf = -1 ∨ cf = (k : Int))) : BgI f cf (k + 1) N mn ns es c :=
  ⟨h.ok, h.cr, by rw [begTo, if_neg hc, List.append_nil]; exact h.eqC, fun y hy => by have := h.row y hy; exact ⟨this.1, this.2.1, this.2.2.1, this.2.2.2.1, by omega⟩⟩
theorem BgI.get {f : Fmt} {cf : Int} {k : Nat} {N : List Nd} {mn : Nat → Pr} {ns : List Nd} {es : Array MapEntry} {c : Nat} (h : BgI f cf k N mn ns es c) : getN ns ⟨(k : Int), [], (0, 0), (0, 0)⟩ = none :=
  List.find?_eq_none.2 fun y hy => by
    rw [decide_eq_true_eq]
    intro e
    have := (h.row y hy).2.2.2.2
    rw [e] at this
    exact absurd this (by show ¬ (k : Int) < (k : Int); omega)
theorem BgI.add {f : Fmt} {cf : Int} {k : Nat} {N : List Nd} {mn : Nat → Pr} {ns : List Nd} {es es2 : Array MapEntry} {c c2 : Nat} (h : BgI f cf k N mn ns es c) (hk : k < 2) (hc : cf = -1 ∨ cf = (k : Int)) {b : Nat} (hne : ∀ z ∈ N, z.b ≠ b) (hm : MapIs es2 (crE (putNs ns ⟨b, ⟨(k : Int), [], (0, 0), (0, 0)⟩, none, 0⟩)) ∧ Stm es2 c2) :
    BgI f cf (k + 1) (⟨b, ⟨(k : Int), [], (0, 0), (0, 0)⟩, none, 0⟩ :: N) (upN mn b (0, 0)) (putNs ns ⟨b, ⟨(k : Int), [], (0, 0), (0, 0)⟩, none, 0⟩) es2 c2 := by
  have hup : ∀ z ∈ N, z ∈ (⟨b, ⟨(k : Int), [], (0, 0), (0, 0)⟩, none, 0⟩ :: N : List Nd) := fun z hz => List.mem_cons_of_mem _ hz
  have hok := h.ok.first (y := ⟨b, ⟨(k : Int), [], (0, 0), (0, 0)⟩, none, 0⟩) (Int.le_refl _) hne (by dsimp only; omega) rfl rfl
  have hg := h.get
  refine ⟨hok, (h.cr.up hup).put List.mem_cons_self hm, ?_, fun y hy => ?_⟩
  · rw [putNs_none hg]
    show toC _ (ns ++ [_]) = _
    unfold toC
    rw [List.map_append, begTo, if_pos hc, ← h.eqC]
    congr 1
    · exact toC_congr fun y hy => upN_other (hne y (h.cr.sub y hy))
    · show [((⟨(k : Int), [], (0, 0), (0, 0)⟩ : Spot), ((upN mn b (0, 0) b).1, (upN mn b (0, 0) b).2, (0 : Int)))] = _
      rw [upN_same]
  · rcases putNs_mem hy with h5 | rfl
    · have := h.row y h5
      exact ⟨this.1.mono hup, this.2.1, this.2.2.1, this.2.2.2.1, by omega⟩
    · exact ⟨.nil rfl, rfl, hc, by dsimp only; omega, by dsimp only; omega⟩
structure BGZ where
  (N : List Nd) (mn : Nat → Pr) (ns : List Nd) (es : Array MapEntry) (c k : Nat)
set_option maxRecDepth 100000 in
theorem T_reader_begin (f : Fmt) (hf : f.Ok) (cf : Int) (A : Option Addr) (n c : Nat) (mn : Nat → Pr) :
    Tr Tryz.prog 102 [.agg (cardC f cf A n c).toArray] [poolE 213 [] mn none] (fun q : PR => BgI f cf 2 q.N q.mn q.ns q.es q.c) (fun q => .map (some q.b)) (fun q => [poolE 213 q.N q.mn none, .obj q.b (.map q.es q.c)]) := by
  refine ⟨fun w0 w R hst => ?_⟩
  refine en Tryz.func102 Tryz.ntmps102 hst (h := fun F => ?_)
  refine sq (h := ?_)
  refine rg (h := ?_)
  refine bxA (h := fun b0 => ?_)
  refine wy asg ?_
  refine nl (h := ?_)
  refine q_seq (h := ?_)
  refine sq (h := ?_)
  refine rg (h := ?_)
  refine mkm (h := fun b1 => ?_)
  refine wy asg ?_
  refine nl (h := ?_)
  refine q_seq (h := ?_)
  refine sq (h := ?_)
  refine sq (h := ?_)
  refine rg (h := ?_)
  refine wy mv ?_
  refine nl (h := ?_)
  refine q_seq (h := ?_)
  refine bk (h := ?_)
  refine lp (X := BGZ) (I := fun z => z.k ≤ 2 ∧ BgI f cf z.k z.N z.mn z.ns z.es z.c) (le := fun z => [(1, .pointer (some ⟨b0, 0, none⟩)), (3, .map (some b1)), (6, .int .i64 z.k)]) (Le := fun z => .obj b1 (.map z.es z.c) :: .blk b0 185 (cardC f cf A n c) :: poolE 213 z.N z.mn none :: R) (μ := fun z => 2 - z.k) ⟨[], mn, [], #[], 0, 0⟩ ⟨Nat.zero_le _, ⟨PoolOk.nil f mn 0, CrIs.nil [], rfl, fun y hy => (by cases hy)⟩⟩ sbz_ slz_ (fun z hz => ?_)
  obtain ⟨hzk, hzb⟩ := hz
  refine sq (h := ?_)
  refine rg (h := ?_)
  refine wy lss ?_
  refine nl (h := ?_)
  refine q_seq (h := ?_)
  refine sq (h := ?_)
  refine cd (by exact rfl) (fun h0 => ?_) (fun h0 => ?_)
  · skip
    have hk2 : z.k < 2 := by simp only [decide_eq_true_eq] at h0; omega
    refine skp (h := ?_)
    refine q_seq (h := ?_)
    refine sq (h := ?_)
    refine bk (h := ?_)
    refine sq (h := ?_)
    refine rg (h := ?_)
    refine wy mv ?_
    refine wy asg ?_
    refine nl (h := ?_)
    refine q_seq (h := ?_)
    refine sq (h := ?_)
    refine rg (h := ?_)
    refine wy (by first | exact fa | exact faE) ?_
    refine wy (by first | exact fa | exact faE) ?_
    refine wy (by first | exact ld | exact ldE) ?_
    refine wy eql ?_
    refine wy mv ?_
    apply brOr 6 13 19 (by exact rfl)
    · intro hb1
      refine un (h := ?_)
      refine wy (by first | exact fa | exact faE) ?_
      refine un (h := ?_)
      refine wy (by first | exact fa | exact faE) ?_
      refine un (h := ?_)
      refine wy (by first | exact ld | exact ldE) ?_
      refine un (h := ?_)
      refine wy mv ?_
      refine un (h := ?_)
      refine wy eql ?_
      refine wy (by first | exact pkT | exact pkF) ?_
      exact mg (by repeat (first | exact trivial | refine ⟨rfl, ?_⟩ | refine ⟨by rw [hb1]; rfl, ?_⟩)) slz_
    · intro hb1
      repeat (first | refine un (h := ?_) | refine sk (h := ?_) | refine WL.y (hy := pkF) (h := ?_) | refine WL.y (hy := pkT) (h := ?_))
      exact mg (by repeat (first | exact trivial | refine ⟨rfl, ?_⟩ | refine ⟨by rw [hb1]; rfl, ?_⟩)) slz_
    refine nl (h := ?_)
    refine q_seq (h := ?_)
    refine cd (by exact rfl) (fun h2 => ?_) (fun h2 => ?_)
    · skip
      have hcf : cf = -1 ∨ cf = ((z.k : Nat) : Int) := by
        have h' : (decide (cf = -1) || decide (cf = (z.k : Int))) = true := h2
        simpa using h'
      refine rg (h := ?_)
      refine wy mv ?_
      refine wy mv ?_
      refine wy bd ?_
      refine wy bd ?_
      refine bxA (h := fun b2 => ?_)
      refine WL.pNew ⟨b2, ⟨((z.k : Nat) : Int), [], (0, 0), (0, 0)⟩, none, 0⟩ (0, 0) .here atz_ (fun hne => ?_)
      have hcp := hzb.ok.first (y := ⟨b2, ⟨((z.k : Nat) : Int), [], (0, 0), (0, 0)⟩, none, 0⟩) (Int.le_refl _) hne (by dsimp only; omega) rfl rfl
      refine clT (hc := T_put (⟨b2, ⟨((z.k : Nat) : Int), [], (0, 0), (0, 0)⟩, none, 0⟩ :: z.N) z.ns (upN z.mn b2 (0, 0)) ⟨b2, ⟨((z.k : Nat) : Int), [], (0, 0), (0, 0)⟩, none, 0⟩ b1 z.es z.c hzb.cr.m hzb.cr.s hcp.nd (fun y hy => (hcp.ok y hy).len hf) (fun y hy => List.mem_cons_of_mem _ (hzb.cr.sub y hy)) List.mem_cons_self) (h := fun q hq => ?_)
      rw [putM_none hzb.get]
      refine nl (h := ?_)
      refine q_blk_norm (h := ?_)
      refine q_seq (h := ?_)
      refine rg (h := ?_)
      refine wy addI ?_
      refine wy mv ?_
      refine nl (h := ?_)
      first
        | (refine rn (x := z) ⟨⟨b2, ⟨((z.k : Nat) : Int), [], (0, 0), (0, 0)⟩, none, 0⟩ :: z.N, upN z.mn b2 (0, 0), putNs z.ns ⟨b2, ⟨((z.k : Nat) : Int), [], (0, 0), (0, 0)⟩, none, 0⟩, q.1, q.2, z.k + 1⟩ ⟨by dsimp only; omega, hzb.add hk2 hcf hne hq⟩ (by dsimp only; omega) sbz_ slz_)
        | (refine rn (x := z) ⟨z.N, z.mn, z.ns, z.es, z.c, z.k + 1⟩ ⟨by dsimp only; omega, hzb.skip hcf⟩ (by dsimp only; omega) sbz_ slz_)
    · skip
      have hcf : ¬ (cf = -1 ∨ cf = ((z.k : Nat) : Int)) := by
        have h' : (decide (cf = -1) || decide (cf = (z.k : Int))) = false := h2
        simpa using h'
      refine skp (h := ?_)
      refine q_blk_norm (h := ?_)
      refine q_seq (h := ?_)
      refine rg (h := ?_)
      refine wy addI ?_
      refine wy mv ?_
      refine nl (h := ?_)
      first
        | (refine rn (x := z) ⟨⟨b2, ⟨((z.k : Nat) : Int), [], (0, 0), (0, 0)⟩, none, 0⟩ :: z.N, upN z.mn b2 (0, 0), putNs z.ns ⟨b2, ⟨((z.k : Nat) : Int), [], (0, 0), (0, 0)⟩, none, 0⟩, q.1, q.2, z.k + 1⟩ ⟨by dsimp only; omega, hzb.add hk2 hcf hne hq⟩ (by dsimp only; omega) sbz_ slz_)
        | (refine rn (x := z) ⟨z.N, z.mn, z.ns, z.es, z.c, z.k + 1⟩ ⟨by dsimp only; omega, hzb.skip hcf⟩ (by dsimp only; omega) sbz_ slz_)
  · skip
    have hk2 : z.k = 2 := by simp only [decide_eq_false_iff_not] at h0; omega
    refine et (h := ?_)
    refine q_then_exit (h := ?_)
    refine q_then_exit (h := ?_)
    refine q_blk_hit (h := ?_)
    refine q_seq (h := ?_)
    refine sq (h := ?_)
    refine rg (h := ?_)
    refine wy mv ?_
    refine wy asg ?_
    refine nl (h := ?_)
    refine q_seq (h := ?_)
    refine rtn (h := ?_)
    refine q_ret (hR := ?_)
    rw [hk2] at hzb
    exact fun w hS => ⟨⟨z.N, z.mn, z.ns, b1, z.es, z.c⟩, hzb, rfl, hS.sub slz_⟩
end Go.Proofs.YtpmmgljndceplaaGreat

namespace Go.Proofs.YtpmmgljndceplaaGreat
open Go Go.RowKit

section rules
variable {F : Fence} {P : Program} {ops : Array Oper} {Q : Exit → Act → World → Prop} {rest : List Oper} {n : Nat} {D : List Deferred} {l : Env} {w0 : World} {L M : List Ent}
theorem lenR {x : Operand} {b : Nat} {es : Array MapEntry} {c : Nat} {t k e : TypeId} (hT : MapTy P t k e := by infer_instance) (hx : ev l x = some (.map (some b)) := by exact rfl) (ha : At L (roM b es c) M := by repeat (first | exact At.here | apply At.there)) : Yd P n D l w0 L (.call { callee := .builtin .len, args := #[x], argTypes := #[t] }) (.int .i64 es.size) :=
  ⟨by simp, by simp, fun oo ho ac w hfr hst => by
    have hb : w.heap[b]? = some (.map es c) := hst _ ha.mem
    simp [execOp, ho, resolve, invoke, builtin, hfr.eval hx, Builtin.len_, run_underlying hT.und, getMap hb, goInt]⟩
end rules
theorem CrIs.size {N ns : List Nd} {es : Array MapEntry} {c : Nat} (h : CrIs N ns es c) : es.size = ns.length := by
  have := congrArg List.length (cr_kv h)
  simpa using this
theorem T_read (f : Fmt) (hf : f.Ok) (hc0 : chkF f = 0) (cf : Int) (A : Option Addr) (n c : Nat) (N ns : List Nd) (mn : Nat → Pr) (t : Nt) (ht : mkV t = true) (K : Int) (hK : K ≤ 500) (hP : PoolOk f N mn K) (b : Nat) (es : Array MapEntry) (cl : Nat) (hC : CrIs N ns es cl) :
    Tr Tryz.prog 103 [.agg (cardC f cf A n c).toArray, .map (some b), t.val] [poolE 213 N mn none, roM b es cl] (RdOk f N mn ns t K) (fun q => .map (some q.b)) (fun q => [poolE 213 q.N q.mn none, .obj q.b (.map q.es q.c), roM b es cl]) := by
  have hk := mk_kind ht
  by_cases h1 : t.kind = 1
  · exact T_read_noted f hf cf A n c N ns mn t K hK hP b es cl hC h1
  by_cases h2 : t.kind = 2
  · have h3 := hk.2.2.1 h2
    exact T_read_missed f hf cf A n c N ns mn t K hK hP b es cl hC h2 t.pair.2.toNat (by omega) (by omega)
  · exact T_read_test f hf hc0 cf A n c N ns mn t K hK hP b es cl hC h1 h2
structure StI (f : Fmt) (cf : Int) (xs : List Nt) (j : Nat) (q : PR) : Prop where
  ok : PoolOk f q.N q.mn (mostS (xs.take j) + (j : Int))
  cr : CrIs q.N q.ns q.es q.c
  eqC : (toC q.mn q.ns).Perm (crowdC f cf (xs.take j))
  row : ∀ y ∈ q.ns, ∃ r, RowN q.N y r ∧ Row_ f cf xs j y.s y.s.first r
theorem StI.start {f : Fmt} {cf : Int} {xs : List Nt} {q : PR} (h : BgI f cf 2 q.N q.mn q.ns q.es q.c) : StI f cf xs 0 q := by
  refine ⟨h.ok, h.cr, ?_, fun y hy => ?_⟩
  · rw [h.eqC, begTo_two]; exact .refl _
  · obtain ⟨h1, h2, h3, h4, h5⟩ := h.row y hy
    refine ⟨[], h1, ?_⟩
    rw [h2]
    exact row_begin (by omega) h3
theorem StI.read {f : Fmt} {cf : Int} {xs : List Nt} {j : Nat} {q q2 : PR} {x : Nt} (h : StI f cf xs j q) (hx : xs[j]? = some x) (hr : RdOk f q.N q.mn q.ns x (mostS (xs.take j) + (j : Int)) q2) : StI f cf xs (j + 1) q2 := by
  refine ⟨?_, hr.cr, ?_, fun y hy => ?_⟩
  · have := hr.ok
    rw [mostS_succ hx, show mostS (xs.take j) + mostN x + ((j + 1 : Nat) : Int) = mostS (xs.take j) + (j : Int) + mostN x + 1 by omega]
    exact this
  · rw [crowd_succ f cf hx]
    exact hr.eqC.trans (after_perm f x h.eqC)
  · obtain ⟨x0, hx0, r, p, h1, h2, h3, h4⟩ := hr.fr y hy
    obtain ⟨r0, h5, h6⟩ := h.row x0 hx0
    obtain rfl := h5.uniq h.ok.nd h1
    obtain ⟨r', h7, _, h8, h9⟩ := (hr.ok.ok y (hr.cr.sub y hy)).row
    obtain rfl := h7.uniq hr.ok.nd h2
    rw [h3] at h8 h9 ⊢
    exact ⟨_, h2, row_read h6 hx h8 h9 h4⟩
theorem StI.none {f : Fmt} {cf : Int} {xs : List Nt} {j : Nat} {q : PR} (h : StI f cf xs j q) : q.es.size = 0 ↔ crowdC f cf (xs.take j) = [] := by
  rw [h.cr.size, ← List.length_eq_zero_iff (l := crowdC f cf (xs.take j)), ← h.eqC.length_eq]
  unfold toC
  rw [List.length_map]
theorem bad_at {f : Fmt} {cf : Int} {xs : List Nt} {i : Nat} (hi : i < xs.length) (h0 : crowdC f cf (xs.take (i + 1)) = []) (h1 : ∀ j, j ≤ i → crowdC f cf (xs.take j) ≠ []) : badC f cf xs = i := by
  unfold badC
  rcases fstC_spec (fun i => (crowdC f cf (xs.take (i + 1))).isEmpty) xs.length with ⟨_, h3⟩ | ⟨k, hk, h2, h3, h4⟩
  · have := h3 i hi
    rw [h0] at this; cases this
  · rw [h2]
    congr 1
    by_cases e1 : k < i
    · exact absurd (List.isEmpty_iff.1 h3) (h1 (k + 1) (by omega))
    · by_cases e2 : i < k
      · have := h4 i e2
        rw [h0] at this; cases this
      · omega
structure AZ where
  (q : PR) (k : Nat)
def AllOk (f : Fmt) (cf : Int) (xs : List Nt) (o : Option PR) : Prop := match o with
  | none => chkC f cf xs ≠ 0 ∨ 0 ≤ badC f cf xs
  | some q => chkC f cf xs = 0 ∧ badC f cf xs = -1 ∧ StI f cf xs xs.length q
def allB (f : Fmt) (cf : Int) (xs : List Nt) : Int := bif decide (chkC f cf xs = 0) then badC f cf xs else 0
def allV (o : Option PR) : Value := match o with
  | none => .map none
  | some q => .map (some q.b)
def allE (T : TypeId) (o : Option PR) : List Ent := match o with
  | none => []
  | some q => [poolE T q.N q.mn none, roM q.b q.es q.c]
theorem chk_facts {f : Fmt} {cf : Int} {xs : List Nt} (h : chkC f cf xs = 0) : chkF f = 0 ∧ f.Ok ∧ (-1 ≤ cf ∧ cf ≤ 1) ∧ xs.length ≤ 30 ∧ (∀ x ∈ xs, mkV x = true) ∧ mostS xs ≤ 600 := by
  unfold chkC at h
  cases hh : headB f cf xs.length
  · rw [hh, cond_false] at h
    cases ha : xs.all mkV
    · rw [ha] at h; cases h
    · rw [ha] at h
      have h2 : decide (600 < mostS xs) = false := by
        cases hm : decide (600 < mostS xs)
        · rfl
        · rw [hm] at h; cases h
      unfold headB at hh
      simp only [Bool.or_eq_false_iff, decide_eq_false_iff_not] at hh
      have h3 := chkF_ok hh.1.1
      have h4 : chkF f = 0 := by simpa using hh.1.1
      exact ⟨h4, h3, wi_not.1 hh.1.2, by have := hh.2; omega, List.all_eq_true.1 ha, by have := of_decide_eq_false h2; omega⟩
  · rw [hh] at h; cases h
theorem mostS_le {xs : List Nt} (h : ∀ x ∈ xs, mkV x = true) (j : Nat) : 0 ≤ mostS (xs.take j) ∧ mostS (xs.take j) ≤ mostS xs := by
  have nn : ∀ l : List Nt, (∀ x ∈ l, mkV x = true) → 0 ≤ mostS l := fun l => by
    induction l with
    | nil => exact fun _ => Int.le_refl _
    | cons x l ih =>
      intro h
      have h1 := ih fun y hy => h y (by simp [hy])
      have h2 := most_bd (h x (by simp))
      show 0 ≤ mostN x + mostS l
      omega
  have e : mostS xs = mostS (xs.take j) + mostS (xs.drop j) := by
    unfold mostS
    rw [← List.sum_append, ← List.map_append, List.take_append_drop]
  have h1 := nn (xs.take j) fun x hx => h x (List.mem_of_mem_take hx)
  have h2 := nn (xs.drop j) fun x hx => h x (List.mem_of_mem_drop hx)
  omega
theorem C_card_all (f : Fmt) (cf : Int) (xs : List Nt) (A : Option Addr) (n c : Nat) (w : World) (h : Rd w A 4 n (encN xs)) (hn : n ≤ 9223372036854775807) (hsm : chkC f cf xs = 0 → mostS xs ≤ 400) :
    CR Tryz.prog 67 [.agg (cardC f cf A n c).toArray] w (AllOk f cf xs) (fun o => .tuple #[allV o, .int .i64 (allB f cf xs), .int .i64 (chkC f cf xs)]) (allE 213) := by
  have hlen : xs.length = n := by have := h.len; rwa [encN_len] at this
  refine ⟨en Tryz.func67 Tryz.ntmps67 ((St.init w).share (e := .ro A 4 n (encN xs)) h rfl rfl rfl) (h := fun F => ?_)⟩
  refine sq (h := ?_)
  refine rg (h := ?_)
  refine bxA (h := fun b0 => ?_)
  refine wy asg ?_
  refine WL.cut (by repeat (first | exact Cut.nil | apply Cut.hit | apply Cut.miss (by exact rfl))) ?_
  refine wy asg ?_
  refine wy asg ?_
  refine nl (h := ?_)
  refine q_seq (h := ?_)
  refine sq (h := ?_)
  refine sq (h := ?_)
  refine rg (h := ?_)
  refine wy (by first | exact ldA | exact ldEA) ?_
  refine cl0 (hc := fun w hS => C_card_Check f cf xs A n c w (hS.get rdz_) hn) (h := ?_)
  refine wy asg ?_
  refine nl (h := ?_)
  refine q_seq (h := ?_)
  refine sq (h := ?_)
  refine rg (h := ?_)
  refine wy mv ?_
  refine wy neq ?_
  refine nl (h := ?_)
  refine q_seq (h := ?_)
  refine cd (by exact rfl) (fun h0 => ?_) (fun h0 => ?_)
  · skip
    have hcn : chkC f cf xs ≠ 0 := by simpa using h0
    have hB : allB f cf xs = 0 := by rw [allB, decide_eq_false hcn]; rfl
    refine sq (h := ?_)
    refine rg (h := ?_)
    refine wy mv ?_
    refine wy asg ?_
    refine WL.cut (by repeat (first | exact Cut.nil | apply Cut.hit | apply Cut.miss (by exact rfl))) ?_
    refine wy asg ?_
    refine wy asg ?_
    refine nl (h := ?_)
    refine q_seq (h := ?_)
    refine rtn (h := ?_)
    refine q_then_ret (h := ?_)
    refine q_ret (hR := ?_)
    rw [hB]
    exact fun w hS => ⟨none, .inl hcn, rfl, hS.sub slz_⟩
  · skip
    have hcn : chkC f cf xs = 0 := by simpa using h0
    obtain ⟨hc0, hf, hcf, hl30, hmk, -⟩ := chk_facts hcn
    have hms := hsm hcn
    have hB : allB f cf xs = badC f cf xs := by rw [allB, decide_eq_true hcn]; rfl
    rw [hcn]
    refine skp (h := ?_)
    refine q_seq (h := ?_)
    refine sq (h := ?_)
    refine rg (h := ?_)
    refine wy (by first | exact ldA | exact ldEA) ?_
    refine wy bd ?_
    refine al (h := fun b1 => ?_)
    first | refine stA (h := ?_) | refine stEA (h := ?_)
    refine nl (h := ?_)
    refine q_seq (h := ?_)
    refine sq (h := ?_)
    refine WC.pool0 213 (fun _ => (0, 0)) ?_
    refine rg (h := ?_)
    refine wy (by first | exact ldA | exact ldEA) ?_
    refine clT (hc := T_reader_begin f hf cf A n c (fun _ => (0, 0))) (h := fun q1 hq1 => ?_)
    refine wy asg ?_
    refine WL.cut (by repeat (first | exact Cut.nil | apply Cut.hit | apply Cut.miss (by exact rfl))) ?_
    refine WL.toRoM (b := q1.b) (es := q1.es) (c := q1.c) atz_ ?_
    refine nl (h := ?_)
    refine q_seq (h := ?_)
    refine sq (h := ?_)
    refine sq (h := ?_)
    refine rg (h := ?_)
    refine wy (by first | exact fa | exact faE) ?_
    refine wy (by first | exact ld | exact ldE) ?_
    refine wy lenS ?_
    refine wy mv ?_
    refine nl (h := ?_)
    refine q_seq (h := ?_)
    refine bk (h := ?_)
    refine lp (X := AZ) (I := fun z => z.k ≤ n ∧ StI f cf xs z.k z.q ∧ ∀ j, j ≤ z.k → crowdC f cf (xs.take j) ≠ []) (le := fun z => [(2, .map (some z.q.b)), (6, .pointer (some ⟨b1, 0, none⟩)), (19, .slice A n c), (20, .int .i64 n), (21, .int .i64 z.k)]) (Le := fun z => [roM z.q.b z.q.es z.q.c, poolE 213 z.q.N z.q.mn none, .blk b1 185 (cardC f cf A n c), .ro A 4 n (encN xs)]) (μ := fun z => n - z.k) ⟨q1, 0⟩ ⟨Nat.zero_le _, StI.start hq1, fun j hj => by rw [show j = 0 from Nat.le_zero.1 hj]; exact beg_ne hcf⟩ sbz_ slz_ (fun z hz => ?_)
    obtain ⟨hzk, hzs, hzn⟩ := hz
    refine sq (h := ?_)
    refine rg (h := ?_)
    refine wy lss ?_
    refine nl (h := ?_)
    refine q_seq (h := ?_)
    refine sq (h := ?_)
    refine cd (by exact rfl) (fun h1 => ?_) (fun h1 => ?_)
    · skip
      have hkn : z.k < n := by simp only [decide_eq_true_eq] at h1; omega
      obtain ⟨x, hx⟩ : ∃ x, xs[z.k]? = some x := ⟨_, List.getElem?_eq_getElem (by omega)⟩
      have hxe := encN_at hx
      have hmx := hmk x (List.mem_of_getElem? hx)
      have hml := mostS_le hmk z.k
      refine skp (h := ?_)
      refine q_seq (h := ?_)
      refine sq (h := ?_)
      refine bk (h := ?_)
      refine sq (h := ?_)
      refine rg (h := ?_)
      refine wy mv ?_
      refine wy (ix (hb := by omega)) ?_
      refine wy (ldEA (hk := hxe)) ?_
      refine al (h := fun b2 => ?_)
      refine wy asg ?_
      first | refine stA (h := ?_) | refine stEA (h := ?_)
      refine nl (h := ?_)
      refine q_seq (h := ?_)
      refine sq (h := ?_)
      refine rg (h := ?_)
      refine wy (by first | exact ldA | exact ldEA) ?_
      refine wy mv ?_
      refine wy (by first | exact ldA | exact ldEA) ?_
      refine clT (hc := T_read f hf hc0 cf A n c z.q.N z.q.ns z.q.mn x hmx _ (by omega) hzs.ok z.q.b z.q.es z.q.c hzs.cr) (h := fun q2 hq2 => ?_)
      have hs2 := hzs.read hx hq2
      refine wy asg ?_
      refine WL.cut (by repeat (first | exact Cut.nil | apply Cut.hit | apply Cut.miss (by exact rfl))) ?_
      refine WL.toRoM (b := q2.b) (es := q2.es) (c := q2.c) atz_ ?_
      refine nl (h := ?_)
      refine q_seq (h := ?_)
      refine sq (h := ?_)
      refine rg (h := ?_)
      refine wy mv ?_
      refine wy (lenR (b := q2.b) (es := q2.es) (c := q2.c)) ?_
      refine wy eql ?_
      refine nl (h := ?_)
      refine q_seq (h := ?_)
      refine cd (by exact rfl) (fun h2 => ?_) (fun h2 => ?_)
      · skip
        have hem : q2.es.size = 0 := by have h9 := of_decide_eq_true h2; omega
        have hE : badC f cf xs = (z.k : Int) := bad_at (by omega) (hs2.none.1 hem) hzn
        refine sq (h := ?_)
        refine rg (h := ?_)
        refine wy mv ?_
        refine wy asg ?_
        refine WL.cut (by repeat (first | exact Cut.nil | apply Cut.hit | apply Cut.miss (by exact rfl))) ?_
        refine wy asg ?_
        refine wy asg ?_
        refine nl (h := ?_)
        refine q_seq (h := ?_)
        refine rtn (h := ?_)
        refine q_blk_ret (h := ?_)
        refine q_then_ret (h := ?_)
        refine q_then_ret (h := ?_)
        refine q_blk_ret (h := ?_)
        refine q_then_ret (h := ?_)
        refine q_ret (hR := ?_)
        rw [hB, hE]
        first
          | exact fun w hS => ⟨none, .inr (by rw [hE]; omega), rfl, hS.sub slz_⟩
          | exact fun w hS => ⟨some z.q, ⟨hcn, hE, hzs⟩, rfl, hS.sub (L' := [poolE 213 z.q.N z.q.mn none, roM z.q.b z.q.es z.q.c]) slz_⟩
      · skip
        have hem : q2.es.size ≠ 0 := by have h9 := of_decide_eq_false h2; omega
        have hne2 : crowdC f cf (xs.take (z.k + 1)) ≠ [] := fun e => hem (hs2.none.2 e)
        refine skp (h := ?_)
        refine q_blk_norm (h := ?_)
        refine q_seq (h := ?_)
        refine rg (h := ?_)
        refine wy addI ?_
        refine wy mv ?_
        refine nl (h := ?_)
        refine rn (x := z) ⟨q2, z.k + 1⟩ ⟨by dsimp only; omega, hs2, fun j hj => by
            by_cases e : j ≤ z.k
            · exact hzn j e
            · rw [show j = z.k + 1 by dsimp only at hj; omega]; exact hne2⟩ (by dsimp only; omega) sbz_ slz_
    · skip
      have hkn : z.k = xs.length := by simp only [decide_eq_false_iff_not] at h1; omega
      have hE : badC f cf xs = -1 := by
        have h9 := hzn z.k (Nat.le_refl _)
        rw [hkn, List.take_length] at h9
        exact (bad_none hcf).2 h9
      rw [hkn] at hzs
      refine et (h := ?_)
      refine q_then_exit (h := ?_)
      refine q_then_exit (h := ?_)
      refine q_blk_hit (h := ?_)
      refine q_seq (h := ?_)
      refine sq (h := ?_)
      refine rg (h := ?_)
      refine wy mv ?_
      refine wy asg ?_
      refine WL.cut (by repeat (first | exact Cut.nil | apply Cut.hit | apply Cut.miss (by exact rfl))) ?_
      refine wy asg ?_
      refine wy asg ?_
      refine nl (h := ?_)
      refine q_seq (h := ?_)
      refine rtn (h := ?_)
      refine q_ret (hR := ?_)
      rw [hB, hE]
      first
        | exact fun w hS => ⟨none, .inr (by rw [hE]; omega), rfl, hS.sub slz_⟩
        | exact fun w hS => ⟨some z.q, ⟨hcn, hE, hzs⟩, rfl, hS.sub (L' := [poolE 213 z.q.N z.q.mn none, roM z.q.b z.q.es z.q.c]) slz_⟩
end Go.Proofs.YtpmmgljndceplaaGreat

namespace Go.Proofs.YtpmmgljndceplaaGreat
open Go Go.RowKit

theorem sub_app : ∀ (L R : List Ent), SubL L (L ++ R)
  | [], _ => .nil
  | _ :: L, R => .cons .here (sub_app L R)
def posE (f : Fmt) (cf : Int) (xs : List Nt) : Int := bif decide (chkC f cf xs = 0) then (bif decide (0 ≤ badC f cf xs) then 3 else 0) else chkC f cf xs
theorem posE_some {f : Fmt} {cf : Int} {xs : List Nt} {q : PR} (h : AllOk f cf xs (some q)) : posE f cf xs = 0 := by
  obtain ⟨h1, h2, _⟩ := h
  rw [posE, h1, h2]; rfl
theorem posE_none {f : Fmt} {cf : Int} {xs : List Nt} (h : AllOk f cf xs none) : posE f cf xs ≠ 0 := by
  unfold posE
  by_cases h1 : chkC f cf xs = 0
  · rw [decide_eq_true h1, cond_true, decide_eq_true (h.resolve_left (fun e => e h1))]; decide
  · rw [decide_eq_false h1, cond_false]; exact h1
theorem C_card_possible (f : Fmt) (cf : Int) (xs : List Nt) (A : Option Addr) (n c : Nat) (w : World) (h : Rd w A 4 n (encN xs)) (hn : n ≤ 9223372036854775807) (hsm : chkC f cf xs = 0 → mostS xs ≤ 400) :
    CR Tryz.prog 37 [.agg (cardC f cf A n c).toArray] w (AllOk f cf xs) (fun o => .tuple #[allV o, .int .i64 (posE f cf xs)]) (allE 213) := by
  refine ⟨en Tryz.func37 Tryz.ntmps37 ((St.init w).share (e := .ro A 4 n (encN xs)) h rfl rfl rfl) (h := fun F => ?_)⟩
  refine sq (h := ?_)
  refine rg (h := ?_)
  refine bxA (h := fun b0 => ?_)
  refine wy asg ?_
  refine wy asg ?_
  refine nl (h := ?_)
  refine q_seq (h := ?_)
  refine sq (h := ?_)
  refine rg (h := ?_)
  refine wy (by first | exact ldA | exact ldEA) ?_
  refine cl (hfresh := fun o => by cases o <;> rfl) (hc := fun w hS => C_card_all f cf xs A n c w (hS.get rdz_) hn hsm) (h := fun o ho => ?_)
  refine wy mv ?_
  refine wy ex ?_
  refine wy ex ?_
  refine wy ex ?_
  refine wy asg ?_
  refine wy asg ?_
  refine wy asg ?_
  refine nl (h := ?_)
  refine q_seq (h := ?_)
  refine sq (h := ?_)
  refine sq (h := ?_)
  refine rg (h := ?_)
  refine wy mv ?_
  refine wy eql ?_
  refine wy mv ?_
  apply brAnd 3 15 18 (by exact rfl)
  · intro hb0
    refine un (h := ?_)
    refine wy mv ?_
    refine un (h := ?_)
    refine wy geq ?_
    refine wy (by first | exact pkT | exact pkF) ?_
    exact mg (by repeat (first | exact trivial | refine ⟨rfl, ?_⟩ | refine ⟨by rw [hb0]; rfl, ?_⟩)) slz_
  · intro hb0
    repeat (first | refine un (h := ?_) | refine sk (h := ?_) | refine WL.y (hy := pkF) (h := ?_) | refine WL.y (hy := pkT) (h := ?_))
    exact mg (by repeat (first | exact trivial | refine ⟨rfl, ?_⟩ | refine ⟨by rw [hb0]; rfl, ?_⟩)) slz_
  refine nl (h := ?_)
  refine q_seq (h := ?_)
  refine cd (by exact rfl) (fun h1 => ?_) (fun h1 => ?_)
  · skip
    have hp : posE f cf xs = 3 := by
      have h' : (decide (chkC f cf xs = 0) && decide (0 ≤ allB f cf xs)) = true := h1
      rw [Bool.and_eq_true] at h'
      have h2 := h'.2
      rw [allB, h'.1, cond_true] at h2
      rw [posE, h'.1, h2]; rfl
    refine rg (h := ?_)
    refine wy asg ?_
    refine nl (h := ?_)
    refine q_seq (h := ?_)
    refine sq (h := ?_)
    refine rg (h := ?_)
    refine wy mv ?_
    refine wy mv ?_
    refine wy asg ?_
    refine wy asg ?_
    refine nl (h := ?_)
    refine q_seq (h := ?_)
    refine rtn (h := ?_)
    refine q_ret (hR := ?_)
    rw [hp]
    exact fun w hS => ⟨o, ho, rfl, hS.sub (sub_app _ _)⟩
  · skip
    have hp : posE f cf xs = chkC f cf xs := by
      have h' : (decide (chkC f cf xs = 0) && decide (0 ≤ allB f cf xs)) = false := h1
      unfold posE
      cases hd : decide (chkC f cf xs = 0)
      · rfl
      · rw [hd, Bool.true_and, allB, hd, cond_true] at h'
        rw [h']; exact (of_decide_eq_true hd).symm
    refine skp (h := ?_)
    refine q_seq (h := ?_)
    refine sq (h := ?_)
    refine rg (h := ?_)
    refine wy mv ?_
    refine wy mv ?_
    refine wy asg ?_
    refine wy asg ?_
    refine nl (h := ?_)
    refine q_seq (h := ?_)
    refine rtn (h := ?_)
    refine q_ret (hR := ?_)
    rw [hp]
    exact fun w hS => ⟨o, ho, rfl, hS.sub (sub_app _ _)⟩
end Go.Proofs.YtpmmgljndceplaaGreat

namespace Go.Proofs.YtpmmgljndceplaaGreat
open Go Go.RowKit

theorem all_none {f : Fmt} {cf : Int} {xs : List Nt} {o : Option PR} (h : AllOk f cf xs o) (he : posE f cf xs ≠ 0) : o = none := by
  cases o with
  | none => rfl
  | some q => exact absurd (posE_some h) he
theorem all_some {f : Fmt} {cf : Int} {xs : List Nt} {o : Option PR} (h : AllOk f cf xs o) (he : posE f cf xs = 0) : ∃ q, o = some q ∧ StI f cf xs xs.length q ∧ q.ns ≠ [] ∧ chkC f cf xs = 0 := by
  cases o with
  | none => exact absurd he (posE_none h)
  | some q =>
    refine ⟨q, rfl, h.2.2, fun e => ?_, h.1⟩
    have h1 := h.2.2.none
    rw [h.2.2.cr.size, e, List.take_length] at h1
    exact (bad_none (chk_facts h.1).2.2.1).1 h.2.1 (h1.1 rfl)
theorem StI.keys {f : Fmt} {cf : Int} {xs : List Nt} {q : PR} (h : StI f cf xs xs.length q) {y : Nd} (hy : y ∈ q.ns) : y.s ∈ keyC (crowdC f cf xs) := by
  have h1 := h.eqC
  rw [List.take_length] at h1
  have : y.s ∈ keyC (toC q.mn q.ns) := by rw [toC_keys]; exact List.mem_map.2 ⟨y, hy, rfl⟩
  exact (h1.map _).subset this
end Go.Proofs.YtpmmgljndceplaaGreat

namespace Go.Proofs.YtpmmgljndceplaaGreat
open Go Go.RowKit

end Go.Proofs.YtpmmgljndceplaaGreat

namespace Go.Proofs.YtpmmgljndceplaaGreat
open Go Go.RowKit

def orC : List Int → Int
  | [] => 0
  | x :: xs => bif !decide (x = 0) then x else orC xs
theorem C_cmpOrC (xs : List Int) (A : Option Addr) (n c : Nat) (w : World) (h : Rd w A 1 n (encI xs)) (hn : n ≤ 9223372036854775807) : C0 Tryz.prog 40 [.slice A n c] w (.int .i64 (orC xs)) := by
  have hlen : xs.length = n := by have := h.len; rwa [encI_len] at this
  refine ⟨en Tryz.func40 Tryz.ntmps40 ((St.init w).share (e := .ro A 1 n (encI xs)) h rfl rfl rfl) (h := fun F => ?_)⟩
  refine sq (h := ?_)
  refine rg (h := ?_)
  refine wy asg ?_
  refine nl (h := ?_)
  refine q_seq (h := ?_)
  refine sq (h := ?_)
  refine rg (h := ?_)
  refine wy asg ?_
  refine nl (h := ?_)
  refine q_seq (h := ?_)
  refine sq (h := ?_)
  refine sq (h := ?_)
  refine rg (h := ?_)
  refine wy mv ?_
  refine wy lenS ?_
  refine wy mv ?_
  refine nl (h := ?_)
  refine q_seq (h := ?_)
  refine bk (h := ?_)
  refine lp (X := Nat) (I := fun k => k ≤ n ∧ orC (xs.drop k) = orC xs) (le := fun k => [(3, .int .i64 0), (6, .slice A n c), (7, .int .i64 n), (8, .int .i64 k)]) (Le := fun _ => [.ro A 1 n (encI xs)]) (μ := fun k => n - k) 0 ⟨Nat.zero_le _, rfl⟩ sbz_ slz_ (fun k hk => ?_)
  obtain ⟨hk, hko⟩ := hk
  refine sq (h := ?_)
  refine rg (h := ?_)
  refine wy lss ?_
  refine nl (h := ?_)
  refine q_seq (h := ?_)
  refine sq (h := ?_)
  refine cd (by exact rfl) (fun h0 => ?_) (fun h0 => ?_)
  · skip
    have hkn : k < n := by simp only [decide_eq_true_eq] at h0; omega
    obtain ⟨x, hx⟩ : ∃ x, xs[k]? = some x := ⟨_, List.getElem?_eq_getElem (by omega)⟩
    have hxe := encI_at hx
    have hdr : xs.drop k = x :: xs.drop (k + 1) := by
      rw [List.drop_eq_getElem_cons (by omega)]
      congr 1
      rw [List.getElem?_eq_getElem (by omega)] at hx
      injection hx
    refine skp (h := ?_)
    refine q_seq (h := ?_)
    refine sq (h := ?_)
    refine bk (h := ?_)
    refine sq (h := ?_)
    refine rg (h := ?_)
    refine wy (ix (A := A) (m := n)) ?_
    refine wy (ldE (A := A) (hk := hxe)) ?_
    refine wy asg ?_
    refine nl (h := ?_)
    refine q_seq (h := ?_)
    refine sq (h := ?_)
    refine rg (h := ?_)
    refine wy mv ?_
    refine wy mv ?_
    refine wy neq ?_
    refine nl (h := ?_)
    refine q_seq (h := ?_)
    refine cd (by exact rfl) (fun h1 => ?_) (fun h1 => ?_)
    · skip
      have hE : orC xs = x := by rw [← hko, hdr, orC, h1]; rfl
      refine sq (h := ?_)
      refine rg (h := ?_)
      refine wy mv ?_
      refine wy asg ?_
      refine nl (h := ?_)
      refine q_seq (h := ?_)
      refine rtn (h := ?_)
      refine q_blk_ret (h := ?_)
      refine q_then_ret (h := ?_)
      refine q_then_ret (h := ?_)
      refine q_blk_ret (h := ?_)
      refine q_then_ret (h := ?_)
      refine q_ret (hR := ?_)
      rw [hE]
      exact fun w hS => ⟨rfl, hS.sub slz_⟩
    · skip
      have hE : orC (xs.drop (k + 1)) = orC xs := by
        rw [← hko, hdr, orC]
        have h' : (!decide (x = 0)) = false := h1
        rw [h']; rfl
      refine skp (h := ?_)
      refine q_blk_norm (h := ?_)
      refine q_seq (h := ?_)
      refine rg (h := ?_)
      refine wy addI ?_
      refine wy mv ?_
      refine nl (h := ?_)
      refine rn (x := k) (k + 1) ⟨by omega, hE⟩ (by omega) sbz_ slz_
  · skip
    have hkn : k = n := by simp only [decide_eq_false_iff_not] at h0; omega
    have hE : orC xs = 0 := by rw [← hko, List.drop_of_length_le (by omega)]; rfl
    refine et (h := ?_)
    refine q_then_exit (h := ?_)
    refine q_then_exit (h := ?_)
    refine q_blk_hit (h := ?_)
    refine q_seq (h := ?_)
    refine sq (h := ?_)
    refine rg (h := ?_)
    refine wy mv ?_
    refine wy asg ?_
    refine nl (h := ?_)
    refine q_seq (h := ?_)
    refine rtn (h := ?_)
    refine q_ret (hR := ?_)
    rw [hE]
    exact fun w hS => ⟨rfl, hS.sub slz_⟩
theorem orC2 (x y : Int) : orC [x, y] = orI x y := by
  unfold orI
  by_cases h : x = 0
  · rw [if_neg (by simpa using h), orC, decide_eq_true h]
    show orC [y] = y
    by_cases h2 : y = 0
    · subst h2; rfl
    · rw [orC, decide_eq_false h2]; rfl
  · rw [if_pos h, orC, decide_eq_false h]; rfl
theorem orC3 (x y z : Int) : orC [x, y, z] = orI (orI x y) z := by
  by_cases h : x = 0
  · rw [orC, decide_eq_true h]
    show orC [y, z] = _
    rw [orC2]
    subst h
    unfold orI
    simp
  · rw [orC, decide_eq_false h]
    show x = _
    unfold orI
    rw [if_pos h, if_pos h]
def SmP (p : Pr) : Prop := (0 ≤ p.1 ∧ p.1 ≤ 100000) ∧ 0 ≤ p.2 ∧ p.2 ≤ 100000
theorem C_card_order (a b : Pr) (ha : SmP a) (hb : SmP b) (w : World) : C0 Tryz.prog 42 [pv a, pv b] w (.int .i64 (cmpP a b)) := by
  obtain ⟨⟨a1, a2⟩, a3, a4⟩ := ha
  obtain ⟨⟨b1, b2⟩, b3, b4⟩ := hb
  refine ⟨en Tryz.func42 Tryz.ntmps42 (St.init w) (h := fun F => ?_)⟩
  refine sq (h := ?_)
  refine rg (h := ?_)
  refine bxA (h := fun b0 => ?_)
  refine bxA (h := fun b1 => ?_)
  refine wy asg ?_
  refine nl (h := ?_)
  refine q_seq (h := ?_)
  refine sq (h := ?_)
  refine rg (h := ?_)
  refine wy (by first | exact fa | exact faE) ?_
  refine wy (by first | exact ld | exact ldE) ?_
  refine wy (by first | exact fa | exact faE) ?_
  refine wy (by first | exact ld | exact ldE) ?_
  refine wy subI ?_
  refine wy (by first | exact fa | exact faE) ?_
  refine wy (by first | exact ld | exact ldE) ?_
  refine wy (by first | exact fa | exact faE) ?_
  refine wy (by first | exact ld | exact ldE) ?_
  refine wy subI ?_
  refine bs (h := fun b2 => ?_)
  refine cl0 (hc := fun w hS => C_cmpOrC [a.1 - b.1, a.2 - b.2] _ _ _ w (hS.get rdz_) (by omega)) (h := ?_)
  rw [orC2]
  refine wy asg ?_
  refine nl (h := ?_)
  refine q_seq (h := ?_)
  refine rtn (h := ?_)
  refine q_ret (hR := ?_)
  exact fun w hS => ⟨rfl, hS.sub slz_⟩
theorem drop_at {α : Type} {xs : List α} {k : Nat} {x : α} (h : xs[k]? = some x) : xs.drop k = x :: xs.drop (k + 1) := by
  have hk := (List.getElem?_eq_some_iff.1 h).1
  rw [List.drop_eq_getElem_cons hk]
  congr 1
  rw [List.getElem?_eq_getElem hk] at h
  exact Option.some.inj h
theorem C_CompareFunc (a b : List Pr) (A B : Option Addr) (n c m d : Nat) (w : World) (h : Rd w A 2 n (encP a)) (h' : Rd w B 2 m (encP b)) (hn : n ≤ 100000) (hm : m ≤ 100000) (ha : ∀ p ∈ a, SmP p) (hb : ∀ p ∈ b, SmP p) :
    C0 Tryz.prog 41 [.slice A n c, .slice B m d, .func (.func 42) #[] #[]] w (.int .i64 (cmpL a b)) := by
  have hla : a.length = n := by have := h.len; simpa [encP] using this
  have hlb : b.length = m := by have := h'.len; simpa [encP] using this
  refine ⟨en Tryz.func41 Tryz.ntmps41 (((St.init w).share (e := .ro A 2 n (encP a)) h rfl rfl rfl).share (e := .ro B 2 m (encP b)) h' rfl rfl rfl) (h := fun F => ?_)⟩
  refine sq (h := ?_)
  refine rg (h := ?_)
  refine wy asg ?_
  refine nl (h := ?_)
  refine q_seq (h := ?_)
  refine sq (h := ?_)
  refine sq (h := ?_)
  refine rg (h := ?_)
  refine wy mv ?_
  refine wy lenS ?_
  refine wy mv ?_
  refine nl (h := ?_)
  refine q_seq (h := ?_)
  refine bk (h := ?_)
  refine lp (X := Nat) (I := fun k => k ≤ n ∧ cmpL (a.drop k) (b.drop k) = cmpL a b) (le := fun k => [(0, .slice A n c), (1, .slice B m d), (2, .func (.func 42) #[] #[]), (11, .slice A n c), (12, .int .i64 n), (13, .int .i64 k)]) (Le := fun _ => [.ro A 2 n (encP a), .ro B 2 m (encP b)]) (μ := fun k => n - k) 0 ⟨Nat.zero_le _, rfl⟩ sbz_ slz_ (fun k hk => ?_)
  obtain ⟨hk, hko⟩ := hk
  refine sq (h := ?_)
  refine rg (h := ?_)
  refine wy lss ?_
  refine nl (h := ?_)
  refine q_seq (h := ?_)
  refine sq (h := ?_)
  refine cd (by exact rfl) (fun h0 => ?_) (fun h0 => ?_)
  · skip
    have hkn : k < n := by simp only [decide_eq_true_eq] at h0; omega
    obtain ⟨x, hx⟩ : ∃ x, a[k]? = some x := ⟨_, List.getElem?_eq_getElem (by omega)⟩
    have hxe := encP_at hx
    have hda := drop_at hx
    have hxs := ha x (List.mem_of_getElem? hx)
    refine skp (h := ?_)
    refine q_seq (h := ?_)
    refine sq (h := ?_)
    refine bk (h := ?_)
    refine sq (h := ?_)
    refine rg (h := ?_)
    refine wy mv ?_
    refine wy (ix (A := A) (m := n)) ?_
    refine wy (ldEA (A := A) (hk := hxe)) ?_
    refine al (h := fun b0 => ?_)
    refine wy asg ?_
    first | refine stA (h := ?_) | refine stEA (h := ?_)
    refine nl (h := ?_)
    refine q_seq (h := ?_)
    refine sq (h := ?_)
    refine sq (h := ?_)
    refine rg (h := ?_)
    refine wy mv ?_
    refine wy mv ?_
    refine wy lenS ?_
    refine wy geq ?_
    refine nl (h := ?_)
    refine q_seq (h := ?_)
    refine cd (by exact rfl) (fun h1 => ?_) (fun h1 => ?_)
    · skip
      have hkm : m ≤ k := by simp only [decide_eq_true_eq] at h1; omega
      have hE : cmpL a b = 1 := by rw [← hko, hda, List.drop_of_length_le (l := b) (by omega)]; rfl
      refine sq (h := ?_)
      refine rg (h := ?_)
      refine wy asg ?_
      refine nl (h := ?_)
      refine q_seq (h := ?_)
      refine rtn (h := ?_)
      refine q_then_ret (h := ?_)
      refine q_blk_ret (h := ?_)
      refine q_then_ret (h := ?_)
      refine q_then_ret (h := ?_)
      refine q_blk_ret (h := ?_)
      refine q_then_ret (h := ?_)
      refine q_ret (hR := ?_)
      rw [hE]
      exact fun w hS => ⟨rfl, hS.sub slz_⟩
    · skip
      have hkm : k < m := by simp only [decide_eq_false_iff_not] at h1; omega
      obtain ⟨y, hy⟩ : ∃ y, b[k]? = some y := ⟨_, List.getElem?_eq_getElem (by omega)⟩
      have hye := encP_at hy
      have hdb := drop_at hy
      have hys := hb y (List.mem_of_getElem? hy)
      refine skp (h := ?_)
      refine q_seq (h := ?_)
      refine sq (h := ?_)
      refine rg (h := ?_)
      refine wy mv ?_
      refine wy mv ?_
      refine wy (ix (A := B) (m := m)) ?_
      refine wy (ldEA (A := B) (hk := hye)) ?_
      refine al (h := fun b1 => ?_)
      first | refine stA (h := ?_) | refine stEA (h := ?_)
      refine nl (h := ?_)
      refine q_seq (h := ?_)
      refine sq (h := ?_)
      refine rg (h := ?_)
      refine wy mv ?_
      refine wy (by first | exact ldA | exact ldEA) ?_
      refine wy (by first | exact ldA | exact ldEA) ?_
      refine clf0 (f := 42) (fi := []) (cap := []) (hx := by exact rfl) (hc := fun w hS => C_card_order x y hxs hys w) (h := ?_)
      refine wy asg ?_
      refine nl (h := ?_)
      refine q_seq (h := ?_)
      refine sq (h := ?_)
      refine rg (h := ?_)
      refine wy mv ?_
      refine wy neq ?_
      refine nl (h := ?_)
      refine q_seq (h := ?_)
      refine cd (by exact rfl) (fun h2 => ?_) (fun h2 => ?_)
      · skip
        have hE : cmpL a b = cmpP x y := by
          have h9 : cmpP x y ≠ 0 := by simpa using h2
          rw [← hko, hda, hdb, cmpL, orI, if_pos h9]
        refine sq (h := ?_)
        refine rg (h := ?_)
        refine wy mv ?_
        refine wy asg ?_
        refine nl (h := ?_)
        refine q_seq (h := ?_)
        refine rtn (h := ?_)
        refine q_blk_ret (h := ?_)
        refine q_then_ret (h := ?_)
        refine q_then_ret (h := ?_)
        refine q_blk_ret (h := ?_)
        refine q_then_ret (h := ?_)
        refine q_ret (hR := ?_)
        rw [hE]
        exact fun w hS => ⟨rfl, hS.sub slz_⟩
      · skip
        have hst : cmpL (a.drop (k + 1)) (b.drop (k + 1)) = cmpL a b := by
          have h9 : cmpP x y = 0 := by simpa using h2
          rw [← hko, hda, hdb, cmpL, orI, if_neg (by rw [h9]; decide)]
        refine skp (h := ?_)
        refine q_blk_norm (h := ?_)
        refine q_seq (h := ?_)
        refine rg (h := ?_)
        refine wy addI ?_
        refine wy mv ?_
        refine nl (h := ?_)
        refine rn (x := k) (k + 1) ⟨by omega, hst⟩ (by omega) sbz_ slz_
  · skip
    have hkn : k = n := by simp only [decide_eq_false_iff_not] at h0; omega
    have hda : a.drop k = [] := List.drop_of_length_le (by omega)
    refine et (h := ?_)
    refine q_then_exit (h := ?_)
    refine q_then_exit (h := ?_)
    refine q_blk_hit (h := ?_)
    refine q_seq (h := ?_)
    refine sq (h := ?_)
    refine sq (h := ?_)
    refine rg (h := ?_)
    refine wy mv ?_
    refine wy lenS ?_
    refine wy mv ?_
    refine wy lenS ?_
    refine wy lss ?_
    refine nl (h := ?_)
    refine q_seq (h := ?_)
    refine cd (by exact rfl) (fun h3 => ?_) (fun h3 => ?_)
    · skip
      have hE : cmpL a b = -1 := by
        have h9 : (n : Int) < m := of_decide_eq_true h3
        obtain ⟨y, hy⟩ : ∃ y, b[k]? = some y := ⟨_, List.getElem?_eq_getElem (by omega)⟩
        rw [← hko, hda, drop_at hy]; rfl
      refine sq (h := ?_)
      refine rg (h := ?_)
      refine wy asg ?_
      refine nl (h := ?_)
      refine q_seq (h := ?_)
      refine rtn (h := ?_)
      refine q_then_ret (h := ?_)
      refine q_ret (hR := ?_)
      rw [hE]
      exact fun w hS => ⟨rfl, hS.sub slz_⟩
    · skip
      have hE : cmpL a b = 0 := by
        have h9 : ¬ (n : Int) < m := of_decide_eq_false h3
        rw [← hko, hda, List.drop_of_length_le (l := b) (by omega)]; rfl
      refine skp (h := ?_)
      refine q_seq (h := ?_)
      refine sq (h := ?_)
      refine rg (h := ?_)
      refine wy asg ?_
      refine nl (h := ?_)
      refine q_seq (h := ?_)
      refine rtn (h := ?_)
      refine q_ret (hR := ?_)
      rw [hE]
      exact fun w hS => ⟨rfl, hS.sub slz_⟩
structure BrdSm (b : Brd) : Prop where
  st : ∀ p ∈ b.st, SmP p
  g : SmP b.g
  p : SmP b.p
  n : b.st.length ≤ 100000
set_option maxRecDepth 100000 in
theorem C_Boards1 (a b : Brd) (A B : Option Addr) (c d : Nat) (ha : BrdSm a) (hb : BrdSm b) (w : World) (h : Rd w A 2 a.st.length (encP a.st)) (h' : Rd w B 2 b.st.length (encP b.st)) :
    C0 Tryz.prog 39 [a.val A a.st.length c, b.val B b.st.length d] w (.int .i64 (cmpB a b)) := by
  refine ⟨en Tryz.func39 Tryz.ntmps39 (((St.init w).share (e := .ro A 2 a.st.length (encP a.st)) h rfl rfl rfl).share (e := .ro B 2 b.st.length (encP b.st)) h' rfl rfl rfl) (h := fun F => ?_)⟩
  refine sq (h := ?_)
  refine rg (h := ?_)
  refine bxA (h := fun b0 => ?_)
  refine bxA (h := fun b1 => ?_)
  refine wy asg ?_
  refine nl (h := ?_)
  refine q_seq (h := ?_)
  refine sq (h := ?_)
  refine rgD0 (by kernel_rfl) (h := ?_)
  refine tk 0 (hy := (by first | exact fa | exact faE)) (h := ?_)
  refine tk 1 (hy := (by first | exact ld | exact ldE)) (h := ?_)
  refine tk 2 (hy := (by first | exact fa | exact faE)) (h := ?_)
  refine tk 3 (hy := (by first | exact ld | exact ldE)) (h := ?_)
  refine tk 5 (hy := (by first | exact fa | exact faE)) (h := ?_)
  refine tk 6 (hy := (by first | exact ldA | exact ldEA)) (h := ?_)
  refine tk 7 (hy := (by first | exact fa | exact faE)) (h := ?_)
  refine tk 8 (hy := (by first | exact ldA | exact ldEA)) (h := ?_)
  refine tk 10 (hy := (by first | exact fa | exact faE)) (h := ?_)
  refine tk 11 (hy := (by first | exact ldA | exact ldEA)) (h := ?_)
  refine tk 12 (hy := (by first | exact fa | exact faE)) (h := ?_)
  refine tk 13 (hy := (by first | exact ldA | exact ldEA)) (h := ?_)
  refine one 4 (h := ?_)
  refine cl0 (hc := fun w hS => C_CompareFunc a.st b.st A B _ c _ d w (hS.get rdz_) (hS.get rdz_) ha.n hb.n ha.st hb.st) (h := ?_)
  refine nx (h := ?_)
  refine one 9 (h := ?_)
  refine cl0 (hc := fun w hS => C_card_order a.g b.g ha.g hb.g w) (h := ?_)
  refine nx (h := ?_)
  refine one 14 (h := ?_)
  refine cl0 (hc := fun w hS => C_card_order a.p b.p ha.p hb.p w) (h := ?_)
  refine nx (h := ?_)
  refine one 15 (h := ?_)
  refine bs (h := fun b2 => ?_)
  refine nx (h := ?_)
  refine one 16 (h := ?_)
  refine cl0 (hc := fun w hS => C_cmpOrC [cmpL a.st b.st, cmpP a.g b.g, cmpP a.p b.p] _ _ _ w (hS.get rdz_) (by omega)) (h := ?_)
  rw [orC3]
  refine nx (h := ?_)
  refine tk 17 (hy := asg) (h := ?_)
  refine dn (h := ?_)
  refine q_seq (h := ?_)
  refine rtn (h := ?_)
  refine q_ret (hR := ?_)
  exact fun w hS => ⟨rfl, hS.sub slz_⟩
set_option maxRecDepth 100000 in
theorem C_spot_board (s : Spot) (h5 : s.st.length ≤ 5) (w : World) : CR Tryz.prog 38 [.agg (spotC s).toArray] w (fun _ : Option Addr × Nat => True) (fun p => (brdOf s).val p.1 s.st.length p.2) (fun p => [.own p.1 p.2 38 2 s.st.length (encP s.st)]) := by
  refine ⟨en Tryz.func38 Tryz.ntmps38 (St.init w) (h := fun F => ?_)⟩
  refine sq (h := ?_)
  refine rg (h := ?_)
  refine bxA (h := fun b0 => ?_)
  refine al (h := fun b1 => ?_)
  refine nl (h := ?_)
  refine q_seq (h := ?_)
  refine sq (h := ?_)
  refine rgD (by kernel_rfl) [(10, .blk b1 40 [.slice none 0 0, .int .i64 0, .int .i64 0, .int .i64 0, .int .i64 0]), (1000000, .blk b0 114 (spotC s))] (by repeat (first | exact HS.nil | (apply HS.keep; (repeat (first | exact At.here | apply At.there))) | (apply HS.ro; (repeat (first | exact Rds.ro | exact Rds.own | apply Rds.there))))) (h := ?_)
  refine tk 0 (hy := (by first | exact fa | exact faE)) (h := ?_)
  refine tk 1 (hy := (by first | exact fa | exact faE)) (h := ?_)
  refine tk 2 (hy := (by first | exact ld | exact ldE)) (h := ?_)
  refine tk 3 (hy := slAh (hb := by omega) (hne := by decide)) (h := ?_)
  refine tk 5 (hy := (by first | exact fa | exact faE)) (h := ?_)
  refine tk 6 (hy := (by first | exact ldA | exact ldEA)) (h := ?_)
  refine tk 7 (hy := (by first | exact fa | exact faE)) (h := ?_)
  refine tk 8 (hy := (by first | exact ldA | exact ldEA)) (h := ?_)
  refine one 4 (h := ?_)
  rw [Int.toNat_natCast]
  refine cl (hc := fun w hS => C_ClonePairs _ _ _ (encP s.st) w (hS.get (Rds.there (Rds.any fun w hw => rd_sets h5 hw))) (by omega)) (h := fun p1 _ => ?_)
  refine nx (h := ?_)
  refine tk 9 (hy := bd) (h := ?_)
  refine one 10 (h := ?_)
  first | refine stA (h := ?_) | refine stEA (h := ?_)
  refine nx (h := ?_)
  refine dn (h := ?_)
  refine q_seq (h := ?_)
  refine rtn (h := ?_)
  refine q_ret (hR := ?_)
  exact fun w hS => ⟨p1, trivial, rfl, hS.sub slz_⟩
end Go.Proofs.YtpmmgljndceplaaGreat

namespace Go.Proofs.YtpmmgljndceplaaGreat
open Go Go.RowKit

theorem St.clearN {w0 : World} {M : List Ent} {g cap : Nat} {T : TypeId} {n size : Nat} (h0 : 0 < size) : ∀ (vs : List Value) (i : Nat) (w : World) (es : List (List Value)), i + vs.length = n * size → (∀ v ∈ vs, v.oneCell' = true) → St w0 w (.own (some ⟨g, 0, none⟩) cap T size n es :: M) →
    ∃ es', St w0 (w.setCells g i vs) (.own (some ⟨g, 0, none⟩) cap T size n es' :: M) ∧ ∀ lo, lo * size ≤ i → es'.take lo = es.take lo
  | [], i, w, es, _, _, h => ⟨es, h, fun _ _ => rfl⟩
  | v :: vs, i, w, es, hi, h1, h => by
    have hlen : es.length = n := (h.ok (.own (some ⟨g, 0, none⟩) cap T size n es) (by simp)).2.len
    rw [List.length_cons] at hi
    have hk : i / size < n := by rw [Nat.div_lt_iff_lt_mul h0]; omega
    have he : es[i / size]? = some (es[i / size]'(by omega)) := List.getElem?_eq_getElem (by omega)
    obtain ⟨ad, had, _, _, hs⟩ := own_set h he (j := i % size) (v := v) (Nat.mod_lt _ h0) (h1 v (by simp))
    injection had with had; subst had
    have e : (⟨g, 0, none⟩ : Addr).add (i / size * size + i % size) = ⟨g, i, none⟩ := by
      rw [add_lit, Nat.mul_comm, Nat.div_add_mod]; simp
    rw [e] at hs
    obtain ⟨es', hs', ht⟩ := St.clearN h0 vs (i + 1) _ _ (by omega) (fun u hu => h1 u (by simp [hu])) hs
    refine ⟨es', hs', fun lo hlo => ?_⟩
    rw [ht lo (by omega), List.take_set_of_le]
    exact (Nat.le_div_iff_mul_le h0).2 hlo
theorem zeroCells_mem {zl : List Value} {n : Nat} (h0 : 0 < zl.length) {v : Value} (h : v ∈ (Builtin.zeroCells zl.toArray n).toList) : v ∈ zl := by
  simp only [Builtin.zeroCells, Array.toList_map, List.mem_map] at h
  obtain ⟨i, _, rfl⟩ := h
  have hm : i % zl.length < zl.length := Nat.mod_lt _ h0
  simp only [List.size_toArray]
  rw [getElem!_pos zl.toArray (i % zl.length) (by simpa using hm)]
  simp
theorem zeroCells_len (zl : List Value) (n : Nat) : (Builtin.zeroCells zl.toArray n).toList.length = n * zl.length := by
  simp [Builtin.zeroCells]
section rules
variable {F : Fence} {P : Program} {ops : Array Oper} {Q : Exit → Act → World → Prop} {rest : List Oper} {n : Nat} {D : List Deferred} {l : Env} {w0 : World} {L M : List Ent}
variable {d : Nat} {ty : TypeId} {pos : String} {aft : Array Edge}
theorem clrS {x : Operand} {t T : TypeId} (hT : SliceTy P t T := by infer_instance) {agg : Bool} {size bytes : Nat} {z : Value} {zl : List Value} (hE : Ty P T agg size bytes z zl := by infer_instance) (h1 : zl.all (·.oneCell') = true := by rfl) (h0 : 0 < size := by decide) {A : Option Addr} {m cap : Nat} (lo : Nat) {es : List (List Value)}
    (hx : ev l x = some (.slice (if cap = lo then A else A.map (·.add (lo * size))) (m - lo) (cap - lo)) := by exact rfl) (ha : At L (.own A cap T size m es) M := by repeat (first | exact At.here | apply At.there)) (hlo : lo < m)
    (h : ∀ es', es'.take lo = es.take lo → WL F P ops Q rest n D l w0 (.own A cap T size m es' :: M)) : WL F P ops Q (⟨none, .call { callee := .builtin .clear, args := #[x], argTypes := #[t] }, ty, pos, aft, none⟩ :: rest) n D l w0 L := by
  intro hF a w hfr hst
  have hst1 := hst.pull ha
  obtain ⟨hown, hrd⟩ := hst1.ok (.own A cap T size m es) (by simp)
  rcases hown.2 with ⟨hv, h0'⟩ | ⟨g, cap', cur, hv, hb, hg, g1, g2, g3, g4⟩
  · injection hv with e1 e2 e3
    have := hrd.len; have := hrd.some_ (by omega)
    obtain ⟨_, h⟩ := this
    rw [e1] at h; cases h
  injection hv with e1 e2 e3; subst e1 e3
  have hne : ¬ (cap = lo) := by
    have := hst1.room; omega
  have hzl : zl.length = size := hE.zs
  have hsum : lo * size + (Builtin.zeroCells zl.toArray (m - lo)).toList.length = m * size := by
    rw [zeroCells_len, hzl, ← Nat.add_mul]; congr 1; omega
  have hone : ∀ v ∈ (Builtin.zeroCells zl.toArray (m - lo)).toList, v.oneCell' = true := fun v hv => List.all_eq_true.1 h1 v (zeroCells_mem (by omega) hv)
  obtain ⟨es', hs', ht⟩ := St.clearN h0 _ (lo * size) w es hsum hone hst1
  have he := hfr.eval hx
  rw [if_neg hne] at he
  have hadd : (⟨g, 0, none⟩ : Addr).add (lo * size) = ⟨g, lo * size, none⟩ := by rw [add_lit]; simp
  have hst := run_storeCells_cells (P := P) g (lo * size) _ 0 w (fun j hj => by
      rw [zeroCells_len, hzl] at hj
      have hlt : lo * size + j < m * size := by rw [zeroCells_len, hzl] at hsum; omega
      have hk' : (lo * size + j) / size < m := by rw [Nat.div_lt_iff_lt_mul h0]; exact hlt
      have hk : es[(lo * size + j) / size]? = some (es[(lo * size + j) / size]'(by rw [hrd.len]; exact hk')) := List.getElem?_eq_getElem _
      have hl := hrd.each _ (List.mem_of_getElem? hk)
      have := hrd.cell _ rfl _ _ hk ((lo * size + j) % size) _ (List.getElem?_eq_getElem (by rw [hl]; exact Nat.mod_lt _ h0))
      rw [add_lit, Nat.mul_comm _ size, Nat.div_add_mod] at this
      simp at this
      simp [this]) (fun j hj => hown.frozenAt _) hone
  rw [Nat.add_zero] at hst
  have hrun : (Builtin.clear_ #[t] ty #[.slice (some ⟨g, lo * size, none⟩) (m - lo) (cap - lo)]).run P w = .ok (.tuple #[]) (w.setCells g (lo * size) (Builtin.zeroCells zl.toArray (m - lo)).toList) := by
    have hzv : (zeroValue T).run P w = .ok z w := run_zeroValue hE w
    obtain ⟨q, hq⟩ : ∃ q, m - lo = q + 1 := ⟨m - lo - 1, by omega⟩
    rw [hq] at hst ⊢
    simp [Builtin.clear_, run_underlying hT.und, hzv, hE.zc, hst]
  show (if _ then _ else _)
  rw [if_pos (by simp [Region.wanted])]
  refine ⟨fun f _ => hF.fn f, ?_⟩
  have hr : (execOp a.eval ⟨none, .call { callee := .builtin .clear, args := #[x], argTypes := #[t] }, ty, pos, aft, none⟩).run P w = .ok (.value (.tuple #[])) (w.setCells g (lo * size) (Builtin.zeroCells zl.toArray (m - lo)).toList) := by
    simp only [Option.map_some, hadd] at he
    simp [execOp, resolve, invoke, builtin, he, hrun]
  rw [semAt_plain (by simp), hr]
  exact h es' (ht lo (Nat.le_refl _)) hF _ _ (hfr.put_none _) hs'
end rules

section
variable {F : Fence} {P : Program} {Q : Exit → Act → World → Prop} {n : Nat} {D : List Deferred} {l : Env} {w0 : World} {L M M' M'' : List Ent}
end
end Go.Proofs.YtpmmgljndceplaaGreat

namespace Go.Proofs.YtpmmgljndceplaaGreat
open Go Go.RowKit

structure BA where
  (b : Brd) (A : Option Addr) (c : Nat)
abbrev BA.cells (x : BA) : List Value := x.b.cells x.A x.b.st.length x.c
abbrev BA.val (x : BA) : Value := x.b.val x.A x.b.st.length x.c
def encX (xs : List BA) : List (List Value) := xs.map BA.cells
theorem encX_at {xs : List BA} {k : Nat} {x : BA} (h : xs[k]? = some x) : (encX xs)[k]? = some x.cells := by unfold encX; rw [List.getElem?_map, h]; rfl
theorem encX_set (xs : List BA) (k : Nat) (x : BA) : (encX xs).set k x.cells = encX (xs.set k x) := by unfold encX; rw [List.map_set]
theorem encX_take (xs : List BA) (k : Nat) : (encX xs).take k = encX (xs.take k) := by unfold encX; rw [List.map_take]
def kpX : BA → List BA → List BA
  | _, [] => []
  | p, x :: l => if x.b = p.b then kpX x l else x :: kpX x l
def cptX : List BA → List BA
  | [] => []
  | x :: l => x :: kpX x l
theorem cpt_kp : ∀ (l : List BA) (p : BA), cptB ((p :: l).map (·.b)) = p.b :: (kpX p l).map (·.b)
  | [], p => rfl
  | x :: l, p => by
    have ih := cpt_kp l x
    show cptB (p.b :: x.b :: l.map (·.b)) = _
    rw [List.map_cons] at ih
    rw [cptB, kpX]
    by_cases h : p.b = x.b
    · rw [if_pos h, if_pos h.symm, ih, h]
    · rw [if_neg h, if_neg (fun e => h e.symm), ih, List.map_cons]
theorem cptX_b (l : List BA) : (cptX l).map (·.b) = cptB (l.map (·.b)) := by
  cases l with
  | nil => rfl
  | cons x l => exact (cpt_kp l x).symm
theorem kpX_mem : ∀ {l : List BA} {p y : BA}, y ∈ kpX p l → y ∈ l
  | x :: l, p, y, h => by
    rw [kpX] at h
    by_cases e : x.b = p.b
    · rw [if_pos e] at h; exact List.mem_cons_of_mem _ (kpX_mem h)
    · rw [if_neg e] at h
      rcases List.mem_cons.1 h with rfl | h
      · exact List.mem_cons_self
      · exact List.mem_cons_of_mem _ (kpX_mem h)
theorem cptX_mem {l : List BA} {y : BA} (h : y ∈ cptX l) : y ∈ l := by
  cases l with
  | nil => cases h
  | cons x l =>
    rcases List.mem_cons.1 h with rfl | h
    · exact List.mem_cons_self
    · exact List.mem_cons_of_mem _ (kpX_mem h)
def PfX (xs : List BA) (k : Nat) : Prop := ∃ p, xs[k - 1]? = some p ∧ cptX xs = xs.take k ++ kpX p (xs.drop k)
theorem pf_start {xs : List BA} (h : 0 < xs.length) : PfX xs 1 := by
  cases xs with
  | nil => cases h
  | cons x l => exact ⟨x, rfl, rfl⟩
theorem pf_step {xs : List BA} {k : Nat} {x p : BA} (hk : 1 ≤ k) (h : PfX xs k) (hx : xs[k]? = some x) (hp : xs[k - 1]? = some p) (hne : ¬ x.b = p.b) : PfX xs (k + 1) := by
  obtain ⟨p', h1, h2⟩ := h
  rw [hp] at h1
  cases h1
  refine ⟨x, by rw [Nat.add_sub_cancel]; exact hx, ?_⟩
  rw [h2, drop_at hx, kpX, if_neg hne, List.take_add_one, hx]
  simp
theorem pf_end {xs : List BA} (h : PfX xs xs.length) : cptX xs = xs := by
  obtain ⟨p, _, h2⟩ := h
  rw [h2, List.take_length, List.drop_length, kpX, List.append_nil]
structure CP2 where
  (k k2 : Nat) (zs : List BA)
structure CP2.Ok (xs : List BA) (k0 : Nat) (z : CP2) : Prop where
  lt : z.k + 1 ≤ k0 + z.k2
  k2 : 1 ≤ z.k2
  le : k0 + z.k2 ≤ xs.length
  len : z.zs.length = xs.length
  dr : ∀ i, k0 + z.k2 ≤ i + 1 → z.zs[i]? = xs[i]?
  tk : ∃ p, xs[k0 + z.k2 - 1]? = some p ∧ cptX xs = z.zs.take z.k ++ kpX p (xs.drop (k0 + z.k2))
theorem CP2.start {xs : List BA} {k0 : Nat} {x p : BA} (hk : 1 ≤ k0) (h : PfX xs k0) (hx : xs[k0]? = some x) (hp : xs[k0 - 1]? = some p) (he : x.b = p.b) : CP2.Ok xs k0 ⟨k0, 1, xs⟩ := by
  have hlt := (List.getElem?_eq_some_iff.1 hx).1
  obtain ⟨p', h1, h2⟩ := h
  rw [hp] at h1
  cases h1
  refine ⟨by dsimp only; omega, Nat.le_refl _, by dsimp only; omega, rfl, fun i _ => rfl, x, by dsimp only; rw [Nat.add_sub_cancel]; exact hx, ?_⟩
  rw [h2, drop_at hx, kpX, if_pos he]
theorem CP2.skip {xs : List BA} {k0 : Nat} {z : CP2} (h : z.Ok xs k0) {x p : BA} (hx : xs[k0 + z.k2]? = some x) (hp : xs[k0 + z.k2 - 1]? = some p) (he : x.b = p.b) : CP2.Ok xs k0 ⟨z.k, z.k2 + 1, z.zs⟩ := by
  have hlt := (List.getElem?_eq_some_iff.1 hx).1
  have h0 := h.lt; have h1 := h.k2; have h2 := h.le
  obtain ⟨p', h3, h4⟩ := h.tk
  rw [hp] at h3
  cases h3
  refine ⟨by dsimp only; omega, by dsimp only; omega, by dsimp only; omega, h.len, fun i hi => h.dr i (by dsimp only at hi; omega), x, by dsimp only; rw [show k0 + (z.k2 + 1) - 1 = k0 + z.k2 by omega]; exact hx, ?_⟩
  rw [h4, drop_at hx, kpX, if_pos he]; rfl
theorem CP2.keep {xs : List BA} {k0 : Nat} {z : CP2} (h : z.Ok xs k0) {x p : BA} (hx : xs[k0 + z.k2]? = some x) (hp : xs[k0 + z.k2 - 1]? = some p) (he : ¬ x.b = p.b) : CP2.Ok xs k0 ⟨z.k + 1, z.k2 + 1, z.zs.set z.k x⟩ := by
  have hlt := (List.getElem?_eq_some_iff.1 hx).1
  have h0 := h.lt; have h1 := h.k2; have h2 := h.le; have hl := h.len
  obtain ⟨p', h3, h4⟩ := h.tk
  rw [hp] at h3
  cases h3
  refine ⟨by dsimp only; omega, by dsimp only; omega, by dsimp only; omega, by simp [hl], fun i hi => ?_, x, by dsimp only; rw [show k0 + (z.k2 + 1) - 1 = k0 + z.k2 by omega]; exact hx, ?_⟩
  · dsimp only at hi ⊢
    rw [List.getElem?_set_ne (by omega)]
    exact h.dr i (by omega)
  · dsimp only
    rw [h4, drop_at hx, kpX, if_neg he, List.take_add_one, List.take_set, List.getElem?_set_self (by omega)]
    rw [List.set_eq_of_length_le (by rw [List.length_take]; omega)]
    simp [Nat.add_assoc]
theorem CP2.fin {xs : List BA} {k0 : Nat} {z : CP2} (h : z.Ok xs k0) (he : k0 + z.k2 = xs.length) : cptX xs = z.zs.take z.k := by
  obtain ⟨p, _, h2⟩ := h.tk
  rw [h2, he, List.drop_length, kpX, List.append_nil]
set_option maxRecDepth 100000 in
theorem T_Boards2 (E : Ent) (x y : BA) (b : Nat) (T : TypeId) (hx : ∀ w, E.ok w → Rd w x.A 2 x.b.st.length (encP x.b.st)) (hy : ∀ w, E.ok w → Rd w y.A 2 y.b.st.length (encP y.b.st)) (sx : BrdSm x.b) (sy : BrdSm y.b) :
    Tr Tryz.prog 45 [x.val, y.val, .pointer (some ⟨b, 0, none⟩)] [E, .blk b T [.func (.func 39) #[] #[]]] (fun _ : Unit => True) (fun _ => .bool (decide (x.b = y.b))) (fun _ => [E, .blk b T [.func (.func 39) #[] #[]]]) := by
  refine ⟨fun w0 w R hst => ?_⟩
  have hd : decide (cmpB x.b y.b = 0) = decide (x.b = y.b) := decide_eq_decide.2 cmpB_zero
  refine en Tryz.func45 Tryz.ntmps45 hst (h := fun F => ?_)
  refine sq (h := ?_)
  refine rg (h := ?_)
  refine bxA (h := fun b0 => ?_)
  refine bxA (h := fun b1 => ?_)
  refine wy asg ?_
  refine nl (h := ?_)
  refine q_seq (h := ?_)
  refine sq (h := ?_)
  refine rg (h := ?_)
  refine wy (by first | exact ld | exact ldE) ?_
  refine wy (by first | exact ldA | exact ldEA) ?_
  refine wy (by first | exact ldA | exact ldEA) ?_
  refine clf0 (f := 39) (fi := []) (cap := []) (hx := by exact rfl) (hc := fun w hS => C_Boards1 x.b y.b x.A y.A x.c y.c sx sy w (hx w (hS.ok E (by simp))) (hy w (hS.ok E (by simp)))) (h := ?_)
  refine wy eql ?_
  refine wy asg ?_
  refine nl (h := ?_)
  refine q_seq (h := ?_)
  refine rtn (h := ?_)
  refine q_ret (hR := ?_)
  rw [hd]
  exact fun w hS => ⟨(), trivial, rfl, hS.sub slz_⟩
end Go.Proofs.YtpmmgljndceplaaGreat

namespace Go.Proofs.YtpmmgljndceplaaGreat
open Go Go.RowKit

theorem rd_from {w : World} {A : Option Addr} {c n k0 : Nat} {T : TypeId} {es : List (List Value)} (hc : n ≤ c) (hk : k0 ≤ n) (h : (Ent.own A c T 5 n es).ok w) : Rd w (if c = k0 then A else A.map (·.add (k0 * 5))) 5 (n - k0) ((es.drop k0).take (n - k0)) := h.2.part c k0 n hk (Nat.le_refl _) hc
theorem from_at {xs : List BA} {n k0 k2 : Nat} {x : BA} (hl : xs.length = n) (hx : xs[k0 + k2]? = some x) : (((encX xs).drop k0).take (n - k0))[k2]? = some x.cells := by
  have hlt := (List.getElem?_eq_some_iff.1 hx).1
  rw [List.getElem?_take, if_pos (by omega), List.getElem?_drop]
  exact encX_at hx
set_option maxRecDepth 100000 in
set_option maxHeartbeats 4194304 in
theorem T_Compact (E : Ent) (xs : List BA) (A : Option Addr) (n c b : Nat) (T : TypeId) (hl : xs.length = n) (hn : n ≤ 4194304) (hE : ∀ x ∈ xs, ∀ w, E.ok w → Rd w x.A 2 x.b.st.length (encP x.b.st)) (hS : ∀ x ∈ xs, BrdSm x.b) :
    Tr Tryz.prog 44 [.slice A n c, .func (.func 45) #[] #[.pointer (some ⟨b, 0, none⟩)]] [.own A c 40 5 n (encX xs), E, .blk b T [.func (.func 39) #[] #[]]] (fun _ : Unit => True) (fun _ => .slice A (cptX xs).length c) (fun _ => [.own A c 40 5 (cptX xs).length (encX (cptX xs)), E]) := by
  refine ⟨fun w0 w R hst => ?_⟩
  refine en Tryz.func44 Tryz.ntmps44 hst (h := fun F => ?_)
  refine WC.room .here (fun hroom => ?_)
  refine sq (h := ?_)
  refine rg (h := ?_)
  refine wy asg ?_
  refine nl (h := ?_)
  refine q_seq (h := ?_)
  refine sq (h := ?_)
  refine sq (h := ?_)
  refine rg (h := ?_)
  refine wy mv ?_
  refine wy lenS ?_
  refine wy lss ?_
  refine nl (h := ?_)
  refine q_seq (h := ?_)
  refine cd (by exact rfl) (fun h0 => ?_) (fun h0 => ?_)
  · skip
    have hE1 : cptX xs = xs := by
      have h9 : (n : Int) < 2 := of_decide_eq_true h0
      match xs, hl with
      | [], _ => rfl
      | [x], _ => rfl
      | _ :: _ :: _, hl => simp at hl; omega
    refine sq (h := ?_)
    refine rg (h := ?_)
    refine wy mv ?_
    refine wy asg ?_
    refine nl (h := ?_)
    refine q_seq (h := ?_)
    refine rtn (h := ?_)
    refine q_then_ret (h := ?_)
    refine q_ret (hR := ?_)
    exact fun w hS => ⟨(), trivial, by rw [hE1, hl]; rfl, by rw [hE1, hl]; exact hS.sub slz_⟩
  · skip
    have hn2 : 2 ≤ n := by have h9 : ¬ (n : Int) < 2 := of_decide_eq_false h0; omega
    refine skp (h := ?_)
    refine q_seq (h := ?_)
    refine sq (h := ?_)
    refine sq (h := ?_)
    refine rg (h := ?_)
    refine wy asg ?_
    refine WL.cut (by repeat (first | exact Cut.nil | apply Cut.hit | apply Cut.miss (by exact rfl))) ?_
    refine nl (h := ?_)
    refine q_seq (h := ?_)
    refine bk (h := ?_)
    refine lp (X := Nat) (I := fun k => 1 ≤ k ∧ k ≤ n ∧ PfX xs k) (le := fun k => [(0, .slice A n c), (1, .func (.func 45) #[] #[.pointer (some ⟨b, 0, none⟩)]), (5, .int .i64 k)]) (Le := fun _ => .own A c 40 5 n (encX xs) :: E :: .blk b T [.func (.func 39) #[] #[]] :: R) (μ := fun k => n - k) 1 ⟨Nat.le_refl _, by omega, pf_start (by omega)⟩ sbz_ slz_ (fun k hk => ?_)
    obtain ⟨hk1, hk2, hkp⟩ := hk
    refine sq (h := ?_)
    refine sq (h := ?_)
    refine rg (h := ?_)
    refine wy mv ?_
    refine wy mv ?_
    refine wy lenS ?_
    refine wy lss ?_
    refine nl (h := ?_)
    refine q_seq (h := ?_)
    refine cd (by exact rfl) (fun h1 => ?_) (fun h1 => ?_)
    · skip
      have hkn : k < n := by simp only [decide_eq_true_eq] at h1; omega
      obtain ⟨x, hx⟩ : ∃ x, xs[k]? = some x := ⟨_, List.getElem?_eq_getElem (by omega)⟩
      obtain ⟨p, hp⟩ : ∃ p, xs[k - 1]? = some p := ⟨_, List.getElem?_eq_getElem (by omega)⟩
      have hxm := List.mem_of_getElem? hx
      have hpm := List.mem_of_getElem? hp
      have hxe := encX_at hx
      have hpe : (encX xs)[((k : Int) - 1).toNat]? = some p.cells := by rw [show ((k : Int) - 1).toNat = k - 1 by omega]; exact encX_at hp
      refine skp (h := ?_)
      refine q_seq (h := ?_)
      refine sq (h := ?_)
      refine bk (h := ?_)
      refine sq (h := ?_)
      refine rgD (by kernel_rfl) [(4194304, .own A c 40 5 n (encX xs))] (by repeat (first | exact HS.nil | (apply HS.keep; (repeat (first | exact At.here | apply At.there))) | (apply HS.ro; (repeat (first | exact Rds.ro | exact Rds.own | apply Rds.there))))) (h := ?_)
      refine tk 0 (hy := mv) (h := ?_)
      refine tk 1 (hy := mv) (h := ?_)
      refine tk 2 (hy := mv) (h := ?_)
      refine tk 3 (hy := ix (A := A) (m := n)) (h := ?_)
      refine tk 4 (hy := ldEA (A := A) (hk := hxe)) (h := ?_)
      refine tk 5 (hy := mv) (h := ?_)
      refine tk 6 (hy := mv) (h := ?_)
      refine tk 7 (hy := subI) (h := ?_)
      refine tk 8 (hy := ix (A := A) (m := n)) (h := ?_)
      refine tk 9 (hy := ldEA (A := A) (hk := hpe)) (h := ?_)
      refine one 10 (h := ?_)
      refine clfT inferInstance (fi := []) (cap := [.pointer (some ⟨b, 0, none⟩)]) (by exact rfl) (by repeat (first | exact Evs.nil | (apply Evs.cons; exact rfl))) (T_Boards2 E x p b T (hE x hxm) (hE p hpm) (hS x hxm) (hS p hpm)) rfl (by repeat (first | exact Spl.nil | (apply Spl.cons; (repeat (first | exact At.here | apply At.there))))) (h := fun _ _ => ?_)
      refine nx (h := ?_)
      refine dn (h := ?_)
      refine q_seq (h := ?_)
      refine cd (by exact rfl) (fun h2 => ?_) (fun h2 => ?_)
      · skip
        have hxp : x.b = p.b := of_decide_eq_true h2
        have hs0 := CP2.start hk1 hkp hx hp hxp
        refine sq (h := ?_)
        refine rg (h := ?_)
        refine wy mv ?_
        refine wy mv ?_
        refine wy (slV (A := A) (m := n) (cap := c) (lo' := k) (hi' := n) (hh := .inl ⟨rfl, rfl⟩) (hl := .inr ⟨_, _, _, rfl, rfl, by omega, by omega, by omega⟩)) ?_
        refine wy asg ?_
        refine nl (h := ?_)
        refine q_seq (h := ?_)
        refine sq (h := ?_)
        refine sq (h := ?_)
        refine rg (h := ?_)
        refine wy asg ?_
        refine WL.cut (by repeat (first | exact Cut.nil | apply Cut.hit | apply Cut.miss (by exact rfl))) ?_
        refine nl (h := ?_)
        refine q_seq (h := ?_)
        refine bk (h := ?_)
        refine lp (X := CP2) (I := fun z => z.Ok xs k) (le := fun z => [(0, .slice A n c), (1, .func (.func 45) #[] #[.pointer (some ⟨b, 0, none⟩)]), (5, .int .i64 z.k), (6, .slice (if c = k then A else A.map (·.add (k * 5))) (n - k) (c - k)), (7, .int .i64 z.k2)]) (Le := fun z => .own A c 40 5 n (encX z.zs) :: E :: .blk b T [.func (.func 39) #[] #[]] :: R) (μ := fun z => n - z.k2) ⟨k, 1, xs⟩ hs0 sbz_ slz_ (fun z hzo => ?_)
        have hzl : z.zs.length = n := hzo.len.trans hl
        have hzlt := hzo.lt
        have hzle := hzo.le
        have hzk2 := hzo.k2
        refine sq (h := ?_)
        refine sq (h := ?_)
        refine rg (h := ?_)
        refine wy mv ?_
        refine wy mv ?_
        refine wy lenS ?_
        refine wy lss ?_
        refine nl (h := ?_)
        refine q_seq (h := ?_)
        refine cd (by exact rfl) (fun h3 => ?_) (fun h3 => ?_)
        · skip
          have hjn : k + z.k2 < n := by simp only [decide_eq_true_eq] at h3; omega
          obtain ⟨y, hy⟩ : ∃ y, xs[k + z.k2]? = some y := ⟨_, List.getElem?_eq_getElem (by omega)⟩
          obtain ⟨q, hq⟩ : ∃ q, xs[k + z.k2 - 1]? = some q := ⟨_, List.getElem?_eq_getElem (by omega)⟩
          have hym := List.mem_of_getElem? hy
          have hqm := List.mem_of_getElem? hq
          have hyz : z.zs[k + z.k2]? = some y := by rw [hzo.dr _ (by omega)]; exact hy
          have hqz : z.zs[k + z.k2 - 1]? = some q := by rw [hzo.dr _ (by omega)]; exact hq
          have hye := from_at (k0 := k) hzl hyz
          have hqe : (((encX z.zs).drop k).take (n - k))[((z.k2 : Int) - 1).toNat]? = some q.cells := by
            rw [show ((z.k2 : Int) - 1).toNat = z.k2 - 1 by omega]
            exact from_at (k0 := k) hzl (by rw [show k + (z.k2 - 1) = k + z.k2 - 1 by omega]; exact hqz)
          refine skp (h := ?_)
          refine q_seq (h := ?_)
          refine sq (h := ?_)
          refine bk (h := ?_)
          refine sq (h := ?_)
          refine rgD (by kernel_rfl) [(4194304, .own A c 40 5 n (encX z.zs))] (by repeat (first | exact HS.nil | (apply HS.keep; (repeat (first | exact At.here | apply At.there))) | (apply HS.ro; (repeat (first | exact Rds.ro | exact Rds.own | apply Rds.there))))) (h := ?_)
          refine tk 0 (hy := mv) (h := ?_)
          refine tk 1 (hy := mv) (h := ?_)
          refine tk 2 (hy := mv) (h := ?_)
          refine tk 3 (hy := ix (A := if c = k then A else A.map (·.add (k * 5))) (m := n - k) (hr := Rds.any fun w hw => rd_from hroom.1 (by omega) hw)) (h := ?_)
          refine tk 4 (hy := ldEA (A := if c = k then A else A.map (·.add (k * 5))) (hr := Rds.any fun w hw => rd_from hroom.1 (by omega) hw) (hk := hye)) (h := ?_)
          refine tk 5 (hy := mv) (h := ?_)
          refine tk 6 (hy := mv) (h := ?_)
          refine tk 7 (hy := subI) (h := ?_)
          refine tk 8 (hy := ix (A := if c = k then A else A.map (·.add (k * 5))) (m := n - k) (hr := Rds.any fun w hw => rd_from hroom.1 (by omega) hw)) (h := ?_)
          refine tk 9 (hy := ldEA (A := if c = k then A else A.map (·.add (k * 5))) (hr := Rds.any fun w hw => rd_from hroom.1 (by omega) hw) (hk := hqe)) (h := ?_)
          refine one 10 (h := ?_)
          refine clfT inferInstance (fi := []) (cap := [.pointer (some ⟨b, 0, none⟩)]) (by exact rfl) (by repeat (first | exact Evs.nil | (apply Evs.cons; exact rfl))) (T_Boards2 E y q b T (hE y hym) (hE q hqm) (hS y hym) (hS q hqm)) rfl (by repeat (first | exact Spl.nil | (apply Spl.cons; (repeat (first | exact At.here | apply At.there))))) (h := fun _ _ => ?_)
          refine WL.subL (SubL.cons (.there (.there .here)) (SubL.refl _)) ?_
          refine nx (h := ?_)
          refine tk 11 (hy := notB) (h := ?_)
          refine dn (h := ?_)
          refine q_seq (h := ?_)
          refine cd (by exact rfl) (fun h4 => ?_) (fun h4 => ?_)
          · skip
            have hyq : ¬ y.b = q.b := by
              have h9 : (!decide (y.b = q.b)) = true := h4
              simpa using h9
            have hnz := CP2.keep hzo hy hq hyq
            refine sq (h := ?_)
            refine rg (h := ?_)
            refine wy mv ?_
            refine wy mv ?_
            refine wy mv ?_
            refine wy mv ?_
            refine wy (ix (A := if c = k then A else A.map (·.add (k * 5))) (m := n - k) (hr := Rds.any fun w hw => rd_from hroom.1 (by omega) hw)) ?_
            refine wy (ldEA (A := if c = k then A else A.map (·.add (k * 5))) (hr := Rds.any fun w hw => rd_from hroom.1 (by omega) hw) (hk := hye)) ?_
            refine wy (ix (A := A) (m := n)) ?_
            refine stEW (k := z.k) (vs := y.cells) (h := ?_)
            rw [encX_set]
            refine nl (h := ?_)
            refine q_seq (h := ?_)
            refine rg (h := ?_)
            refine wy mv ?_
            refine wy addI ?_
            refine wy asg ?_
            refine WL.cut (by repeat (first | exact Cut.nil | apply Cut.hit | apply Cut.miss (by exact rfl))) ?_
            refine nl (h := ?_)
            refine q_blk_norm (h := ?_)
            refine q_seq (h := ?_)
            refine rg (h := ?_)
            refine wy mv ?_
            refine wy addI ?_
            refine wy asg ?_
            refine WL.cut (by repeat (first | exact Cut.nil | apply Cut.hit | apply Cut.miss (by exact rfl))) ?_
            refine nl (h := ?_)
            first
              | refine rn (x := z) ⟨z.k + 1, z.k2 + 1, z.zs.set z.k y⟩ hnz (by dsimp only; omega) sbz_ slz_
              | refine rn (x := z) ⟨z.k, z.k2 + 1, z.zs⟩ hnz (by dsimp only; omega) sbz_ slz_
          · skip
            have hyq : y.b = q.b := by
              have h9 : (!decide (y.b = q.b)) = false := h4
              simpa using h9
            have hnz := CP2.skip hzo hy hq hyq
            refine skp (h := ?_)
            refine q_blk_norm (h := ?_)
            refine q_seq (h := ?_)
            refine rg (h := ?_)
            refine wy mv ?_
            refine wy addI ?_
            refine wy asg ?_
            refine WL.cut (by repeat (first | exact Cut.nil | apply Cut.hit | apply Cut.miss (by exact rfl))) ?_
            refine nl (h := ?_)
            first
              | refine rn (x := z) ⟨z.k + 1, z.k2 + 1, z.zs.set z.k y⟩ hnz (by dsimp only; omega) sbz_ slz_
              | refine rn (x := z) ⟨z.k, z.k2 + 1, z.zs⟩ hnz (by dsimp only; omega) sbz_ slz_
        · skip
          have hjn : k + z.k2 = xs.length := by simp only [decide_eq_false_iff_not] at h3; omega
          have hfin := CP2.fin hzo hjn
          refine et (h := ?_)
          refine q_then_exit (h := ?_)
          refine q_then_exit (h := ?_)
          refine q_blk_hit (h := ?_)
          refine q_seq (h := ?_)
          refine sq (h := ?_)
          refine rg (h := ?_)
          refine wy mv ?_
          refine wy mv ?_
          refine wy (slV (A := A) (m := n) (cap := c) (lo' := z.k) (hi' := n) (hh := .inl ⟨rfl, rfl⟩) (hl := .inr ⟨_, _, _, rfl, rfl, by omega, by omega, by omega⟩)) ?_
          refine clrS (lo := z.k) (hlo := by omega) (h := fun es' hes' => ?_)
          refine nl (h := ?_)
          refine q_seq (h := ?_)
          refine sq (h := ?_)
          refine WC.shrink .here (m := z.k) (by omega) ?_
          refine rg (h := ?_)
          refine wy mv ?_
          refine wy mv ?_
          refine wy (slP (A := A) (m := n) (cap := c) (hi' := z.k) (hc := by omega)) ?_
          refine wy asg ?_
          refine nl (h := ?_)
          refine q_seq (h := ?_)
          refine rtn (h := ?_)
          refine q_blk_ret (h := ?_)
          refine q_then_ret (h := ?_)
          refine q_then_ret (h := ?_)
          refine q_blk_ret (h := ?_)
          refine q_then_ret (h := ?_)
          refine q_ret (hR := ?_)
          have hlk : (cptX xs).length = z.k := by rw [hfin, List.length_take]; omega
          rw [hes', encX_take, ← hfin]
          exact fun w hS => ⟨(), trivial, by rw [hlk]; rfl, by rw [hlk]; exact hS.sub slz_⟩
      · skip
        have hxp : ¬ x.b = p.b := of_decide_eq_false h2
        have hnx := pf_step hk1 hkp hx hp hxp
        refine skp (h := ?_)
        refine q_blk_norm (h := ?_)
        refine q_seq (h := ?_)
        refine rg (h := ?_)
        refine wy mv ?_
        refine wy addI ?_
        refine wy asg ?_
        refine WL.cut (by repeat (first | exact Cut.nil | apply Cut.hit | apply Cut.miss (by exact rfl))) ?_
        refine nl (h := ?_)
        refine rn (x := k) (k + 1) ⟨by omega, by omega, hnx⟩ (by omega) sbz_ slz_
    · skip
      have hkn : k = xs.length := by simp only [decide_eq_false_iff_not] at h1; omega
      have hE1 : cptX xs = xs := pf_end (hkn ▸ hkp)
      refine et (h := ?_)
      refine q_then_exit (h := ?_)
      refine q_then_exit (h := ?_)
      refine q_blk_hit (h := ?_)
      refine q_seq (h := ?_)
      refine sq (h := ?_)
      refine rg (h := ?_)
      refine wy mv ?_
      refine wy asg ?_
      refine nl (h := ?_)
      refine q_seq (h := ?_)
      refine rtn (h := ?_)
      refine q_ret (hR := ?_)
      exact fun w hS => ⟨(), trivial, by rw [hE1, hl]; rfl, by rw [hE1, hl]; exact hS.sub slz_⟩
end Go.Proofs.YtpmmgljndceplaaGreat

namespace Go.Proofs.YtpmmgljndceplaaGreat
open Go Go.RowKit

def rowX (x : BA) : Row := ⟨x.A, 2, x.b.st.length, encP x.b.st⟩
theorem St.manySub {w0 w : World} {M : List Ent} {rs rs' : List Row} (h : St w0 w (manyE true rs :: M)) (hs : ∀ r ∈ rs', r ∈ rs) : St w0 w (manyE true rs' :: M) := by
  have hp := List.pairwise_cons.1 h.sep
  have hok := h.ok (manyE true rs) (by simp)
  refine ⟨h.below, fun x hx => ?_, fun x hx hf k hk => ?_, List.pairwise_cons.2 ⟨fun x hx ho k hk hk' => ?_, hp.2⟩⟩
  · rcases List.mem_cons.1 hx with rfl | hx
    · exact fun r hr => hok r (hs r hr)
    · exact h.ok x (by simp [hx])
  · rcases List.mem_cons.1 hx with rfl | hx
    · obtain ⟨r, hr, hf2⟩ := hk
      exact h.new (manyE true rs) (by simp) rfl k ⟨r, hs r hr, hf2⟩
    · exact h.new x (by simp [hx]) hf k hk
  · obtain ⟨r, hr, hf2⟩ := hk
    exact hp.1 x hx (ho.imp (fun h => h) id) k ⟨r, hs r hr, hf2⟩ hk'
theorem many_ok {zs : List BA} {x : BA} (hx : x ∈ zs) : ∀ w, (manyE true (zs.map rowX)).ok w → Rd w x.A 2 x.b.st.length (encP x.b.st) := fun w hw => hw (rowX x) (List.mem_map.2 ⟨x, hx, rfl⟩)
theorem brd_sm {f : Fmt} {s : Spot} {K : Int} (h : SpBd f s K) (hf : f.Ok) (hK : K ≤ 100000) : BrdSm (brdOf s) :=
  ⟨fun p hp => by have := h.st p hp; exact ⟨by omega, by omega⟩, ⟨by have := h.g; show 0 ≤ s.g.1 ∧ s.g.1 ≤ 100000; omega, by have := h.g; show 0 ≤ s.g.2 ∧ s.g.2 ≤ 100000; omega⟩, ⟨by have := h.p; show 0 ≤ s.p.1 ∧ s.p.1 ≤ 100000; omega, by have := h.p; show 0 ≤ s.p.2 ∧ s.p.2 ≤ 100000; omega⟩, by have := h.len hf; show s.st.length ≤ 100000; omega⟩
structure BDR where
  (zs : List BA) (A : Option Addr) (c : Nat)
def bdS (o : Option BDR) : Value := match o with
  | none => .slice none 0 0
  | some s => .slice s.A s.zs.length s.c
def bdV (e : Int) (o : Option BDR) : Value := .tuple #[bdS o, .int .i64 e]
def bdE (T : TypeId) (o : Option BDR) : List Ent := match o with
  | none => []
  | some s => [.own s.A s.c T 5 s.zs.length (encX s.zs), manyE true (s.zs.map rowX)]
def BdOk (f : Fmt) (cf : Int) (xs : List Nt) (o : Option BDR) : Prop := match o with
  | none => posE f cf xs ≠ 0
  | some s => posE f cf xs = 0 ∧ s.zs.map (·.b) = boardsC (keyC (crowdC f cf xs)) ∧ (∀ x ∈ s.zs, BrdSm x.b) ∧ s.zs.length ≤ 4194304
def SrtX (zs bs : List BA) : Prop := zs.Perm bs ∧ (zs.map (·.b)).Pairwise fun a b => cmpB a b ≤ 0
def SortOk (P : Program) (T : TypeId) (fs g : FuncId) : Prop := ∀ (E : Ent) (bs : List BA) (A : Option Addr) (n c : Nat), bs.length = n → 0 < n → n ≤ 4194304 → (∀ x ∈ bs, ∀ w, E.ok w → Rd w x.A 2 x.b.st.length (encP x.b.st)) → (∀ x ∈ bs, BrdSm x.b) →
  Tr P fs [.slice A n c, .func (.func g) #[] #[]] [.own A c T 5 n (encX bs), E] (fun zs : List BA => SrtX zs bs) (fun _ => .tuple #[]) (fun zs => [.own A c T 5 n (encX zs), E])
theorem kpX_len : ∀ (l : List BA) (p : BA), (kpX p l).length ≤ l.length
  | [], _ => Nat.le_refl _
  | x :: l, p => by
    rw [kpX]
    by_cases e : x.b = p.b
    · rw [if_pos e]; exact Nat.le_trans (kpX_len l x) (Nat.le_succ _)
    · rw [if_neg e]; exact Nat.succ_le_succ (kpX_len l x)
theorem cptX_len (l : List BA) : (cptX l).length ≤ l.length := by
  cases l with
  | nil => exact Nat.le_refl _
  | cons x l => exact Nat.succ_le_succ (kpX_len l x)
theorem fin_boards {w0 w : World} {bs zs : List BA} {e : Ent} (h : St w0 w [manyE true (bs.map rowX), e]) (hs : ∀ x ∈ zs, x ∈ bs) : St w0 w [e, manyE true (zs.map rowX)] := by
  have h2 := h.manySub (rs' := zs.map rowX) fun r hr => by
    obtain ⟨x, hx, rfl⟩ := List.mem_map.1 hr
    exact List.mem_map.2 ⟨x, hs x hx, rfl⟩
  exact h2.sub (.cons (.there .here) (.cons .here .nil))
section rules
variable {F : Fence} {P : Program} {ops : Array Oper} {Q : Exit → Act → World → Prop} {rest : List Oper} {n : Nat} {D : List Deferred} {l : Env} {w0 : World} {L M : List Ent}
theorem WL.manyX {bs : List BA} (p : Option Addr × Nat) (x : BA) (hA : x.A = p.1) (hc : x.c = p.2) {T : TypeId} (ha : At L (.own p.1 p.2 T 2 x.b.st.length (encP x.b.st)) M) {M' : List Ent} (hb : At M (manyE true (bs.map rowX)) M') (h : WL F P ops Q rest n D l w0 (manyE true ((bs ++ [x]).map rowX) :: M')) : WL F P ops Q rest n D l w0 L := fun hF a w hfr hst => h hF a w hfr (by
  have := (hst.sub (L' := .own p.1 p.2 T 2 x.b.st.length (encP x.b.st) :: manyE true (bs.map rowX) :: M') (.cons ha (.cons hb (SubL.refl _)))).manyAdd
  rw [List.map_append]
  show St w0 w (manyE true (bs.map rowX ++ [⟨x.A, 2, x.b.st.length, encP x.b.st⟩]) :: M')
  rw [hA]; exact this)
end rules
structure BZ8 where
  (dn ts : List Nd) (tk : List KV) (o : Option KV) (bs : List BA) (A : Option Addr) (c : Nat)
theorem C_card_Boards' (hsort : SortOk Tryz.prog 40 43 39) (f : Fmt) (cf : Int) (xs : List Nt) (A : Option Addr) (n c : Nat) (w : World) (h : Rd w A 4 n (encN xs)) (hn : n ≤ 9223372036854775807) (hsm : chkC f cf xs = 0 → mostS xs ≤ 400) (hbig : chkC f cf xs = 0 → (crowdC f cf xs).length ≤ 4194304) :
    CR Tryz.prog 16 [.agg (cardC f cf A n c).toArray] w (BdOk f cf xs) (bdV (posE f cf xs)) (bdE 40) := by
  refine ⟨en Tryz.func16 Tryz.ntmps16 ((St.init w).share (e := .ro A 4 n (encN xs)) h rfl rfl rfl) (h := fun F => ?_)⟩
  refine sq (h := ?_)
  refine rg (h := ?_)
  refine bxA (h := fun b0 => ?_)
  refine wy asg ?_
  refine WL.cut (by repeat (first | exact Cut.nil | apply Cut.hit | apply Cut.miss (by exact rfl))) ?_
  refine wy asg ?_
  refine WL.cut (by repeat (first | exact Cut.nil | apply Cut.hit | apply Cut.miss (by exact rfl))) ?_
  refine nl (h := ?_)
  refine q_seq (h := ?_)
  refine sq (h := ?_)
  refine rg (h := ?_)
  refine wy (by first | exact ldA | exact ldEA) ?_
  refine cl (hfresh := fun o => by cases o <;> rfl) (hc := fun w hS => C_card_possible f cf xs A n c w (hS.get rdz_) hn hsm) (h := fun o ho => ?_)
  refine wy mv ?_
  refine wy ex ?_
  refine wy ex ?_
  refine wy asg ?_
  refine wy asg ?_
  refine nl (h := ?_)
  refine q_seq (h := ?_)
  refine sq (h := ?_)
  refine sq (h := ?_)
  refine rg (h := ?_)
  refine wy mv ?_
  refine wy neq ?_
  refine nl (h := ?_)
  refine q_seq (h := ?_)
  refine cd (by exact rfl) (fun h0 => ?_) (fun h0 => ?_)
  · skip
    have he : posE f cf xs ≠ 0 := by simpa using h0
    obtain rfl := all_none ho he
    refine sq (h := ?_)
    refine rg (h := ?_)
    refine wy mv ?_
    refine wy asg ?_
    refine WL.cut (by repeat (first | exact Cut.nil | apply Cut.hit | apply Cut.miss (by exact rfl))) ?_
    refine wy asg ?_
    refine WL.cut (by repeat (first | exact Cut.nil | apply Cut.hit | apply Cut.miss (by exact rfl))) ?_
    refine nl (h := ?_)
    refine q_seq (h := ?_)
    refine rtn (h := ?_)
    refine q_then_ret (h := ?_)
    refine q_ret (hR := ?_)
    exact fun w hS => ⟨none, he, rfl, hS.sub .nil⟩
  · skip
    have he : posE f cf xs = 0 := by simpa using h0
    obtain ⟨q, rfl, hq, hqn, hck⟩ := all_some ho he
    obtain ⟨hc0, hf, _, hl30, _, _⟩ := chk_facts hck
    have hms := hsm hck
    have hbig := hbig hck
    have hqe := hq.eqC
    have hqok := hq.ok
    rw [List.take_length] at hqe hqok
    have hnl : q.ns.length ≤ 4194304 := by
      have h9 := hqe.length_eq
      unfold toC at h9
      rw [List.length_map] at h9
      omega
    refine WC.subL (L' := [poolE 213 q.N q.mn none, roM q.b q.es q.c]) slz_ ?_
    refine skp (h := ?_)
    refine q_seq (h := ?_)
    refine sq (h := ?_)
    refine rg (h := ?_)
    refine wy asg ?_
    refine WL.cut (by repeat (first | exact Cut.nil | apply Cut.hit | apply Cut.miss (by exact rfl))) ?_
    refine nl (h := ?_)
    refine q_seq (h := ?_)
    refine sq (h := ?_)
    refine sq (h := ?_)
    refine WC.nilOwn 40 5 (h := ?_)
    refine WC.many0 (h := ?_)
    refine rg (h := ?_)
    refine wy mv ?_
    refine rngM (b := q.b) (es := q.es) (c := q.c) (h := fun r1 => ?_)
    rw [cr_kv hq.cr]
    refine nl (h := ?_)
    refine q_seq (h := ?_)
    refine bk (h := ?_)
    refine lp (X := BZ8) (I := fun z => (z.dn ++ z.ts).Perm q.ns ∧ z.tk.Perm (z.ts.map ndKV) ∧ z.bs.map (·.b) = z.dn.map (fun y => brdOf y.s) ∧ ∀ x ∈ z.bs, BrdSm x.b) (le := fun z => [(6, .slice z.A z.bs.length z.c), (18, .pointer (some ⟨r1, 0, none⟩))]) (Le := fun z => [itE r1 q.b q.es q.c z.tk z.o, .own z.A z.c 40 5 z.bs.length (encX z.bs), manyE true (z.bs.map rowX), poolE 213 q.N q.mn none, roM q.b q.es q.c]) (μ := fun z => z.ts.length) ⟨[], q.ns, q.ns.map ndKV, none, [], none, 0⟩ ⟨.refl _, .refl _, rfl, fun x hx => (by cases hx)⟩ sbz_ slz_ (fun z hz => ?_)
    obtain ⟨hzd, hzt, hzb, hzs⟩ := hz
    refine sq (h := ?_)
    refine rg (h := ?_)
    refine nxtM (b := q.b) (es := q.es) (c := q.c) (hs := hq.cr.s) (h := fun o2 tk2 ho2 => ?_)
    refine wy exN ?_
    refine nl (h := ?_)
    refine q_seq (h := ?_)
    refine sq (h := ?_)
    refine cd (by exact rfl) (fun h1 => ?_) (fun h1 => ?_)
    · skip
      obtain ⟨kv, rfl⟩ := Option.isSome_iff_exists.1 h1
      rcases todo_nd hzt ho2 with ⟨e, _⟩ | ⟨y, ts', e, hts, htk⟩
      · cases e
      obtain rfl := Option.some.inj e
      have hyn : y ∈ q.ns := hzd.subset (List.mem_append.2 (.inr (hts.symm.subset List.mem_cons_self)))
      have hyo := hqok.ok y (hq.cr.sub y hyn)
      have hlen9 : z.bs.length ≤ 4194304 := by
        have h8 := congrArg List.length hzb
        have h9 := hzd.length_eq
        rw [List.length_map, List.length_map] at h8
        rw [List.length_append] at h9
        omega
      refine skp (h := ?_)
      refine q_seq (h := ?_)
      refine bk (h := ?_)
      refine sq (h := ?_)
      refine rg (h := ?_)
      refine wy (entM (b := q.b) (es := q.es) (c := q.c) (hs := hq.cr.s)) ?_
      refine wy ex ?_
      refine al (h := fun b1 => ?_)
      first | refine stA (h := ?_) | refine stEA (h := ?_)
      refine nl (h := ?_)
      refine q_seq (h := ?_)
      refine rg (h := ?_)
      refine wy mv ?_
      refine wy (by first | exact ldA | exact ldEA) ?_
      refine cl (hc := fun w hS => C_spot_board y.s (hyo.len hf) w) (h := fun p1 _ => ?_)
      refine bs (h := fun b2 => ?_)
      refine ap (es := encX z.bs) (m := z.bs.length) (A := z.A) (c := z.c) (h := fun A1 c1 => ?_)
      refine wy asg ?_
      refine WL.cut (by repeat (first | exact Cut.nil | apply Cut.hit | apply Cut.miss (by exact rfl))) ?_
      refine WL.manyX p1 ⟨brdOf y.s, p1.1, p1.2⟩ rfl rfl atz_ atz_ ?_
      refine nl (h := ?_)
      refine q_blk_norm (h := ?_)
      refine rn (x := z) ⟨z.dn ++ [y], ts', tk2, some (ndKV y), z.bs ++ [⟨brdOf y.s, p1.1, p1.2⟩], A1, c1⟩ ⟨by rw [List.append_assoc]; exact ((List.Perm.append_left z.dn hts.symm)).trans hzd, htk, by rw [List.map_append, List.map_append, hzb]; rfl, fun x hx => by
          rcases List.mem_append.1 hx with h9 | h9
          · exact hzs x h9
          · rw [List.mem_singleton.1 h9]; exact brd_sm (hyo.bd hf) hf (by omega)⟩ (by have := hts.length_eq; rw [List.length_cons] at this; dsimp only; omega) (by rw [List.length_append]; exact sbz_) (by rw [List.length_append, List.map_append, show encX (z.bs ++ [⟨brdOf y.s, p1.1, p1.2⟩]) = encX z.bs ++ [(⟨brdOf y.s, p1.1, p1.2⟩ : BA).cells] from List.map_append]; exact slz_)
    · skip
      have ho3 : o2 = none := by simpa using h1
      have hts : z.ts = [] := by
        rcases todo_nd hzt ho2 with ⟨_, h9, _⟩ | ⟨y, ts', e, _⟩
        · exact h9
        · rw [ho3] at e; cases e
      rw [hts, List.append_nil] at hzd
      have hlen9 : z.bs.length = q.ns.length := by
        have h8 := congrArg List.length hzb
        have h9 := hzd.length_eq
        rw [List.length_map, List.length_map] at h8
        omega
      have hpos : 0 < q.ns.length := List.length_pos_iff.2 hqn
      refine et (h := ?_)
      refine q_then_exit (h := ?_)
      refine q_then_exit (h := ?_)
      refine q_blk_hit (h := ?_)
      refine q_seq (h := ?_)
      refine sq (h := ?_)
      refine rg (h := ?_)
      refine al (h := fun b3 => ?_)
      first | refine st (h := ?_) | refine stE (h := ?_)
      refine nl (h := ?_)
      refine q_seq (h := ?_)
      refine sq (h := ?_)
      refine rg (h := ?_)
      refine wy mv ?_
      refine wy (by first | exact ld | exact ldE) ?_
      refine clT (hc := hsort (manyE true (z.bs.map rowX)) z.bs z.A z.bs.length z.c rfl (by omega) (by omega) (fun x hx => many_ok hx) hzs) (h := fun zs hzs2 => ?_)
      have hzl := hzs2.1.length_eq
      refine nl (h := ?_)
      refine q_seq (h := ?_)
      refine sq (h := ?_)
      refine rg (h := ?_)
      refine wy mv ?_
      refine wy mkf ?_
      refine clT (hc := T_Compact (manyE true (z.bs.map rowX)) zs z.A z.bs.length z.c _ _ hzl (by omega) (fun x hx => many_ok (hzs2.1.subset hx)) (fun x hx => hzs x (hzs2.1.subset hx))) (h := fun _ _ => ?_)
      refine wy asg ?_
      refine WL.cut (by repeat (first | exact Cut.nil | apply Cut.hit | apply Cut.miss (by exact rfl))) ?_
      refine wy asg ?_
      refine WL.cut (by repeat (first | exact Cut.nil | apply Cut.hit | apply Cut.miss (by exact rfl))) ?_
      refine nl (h := ?_)
      refine q_seq (h := ?_)
      refine rtn (h := ?_)
      refine q_ret (hR := ?_)
      rw [he]
      have hB : (cptX zs).map (·.b) = boardsC (keyC (crowdC f cf xs)) := by
        rw [cptX_b]
        refine cpt_boards hzs2.2 fun b => ?_
        rw [((hzs2.1.map _).mem_iff), hzb]
        constructor
        · intro hb
          obtain ⟨y, hy, rfl⟩ := List.mem_map.1 hb
          exact ⟨y.s, hq.keys (hzd.subset hy), rfl⟩
        · rintro ⟨s, hs, rfl⟩
          have h8 : s ∈ keyC (toC q.mn q.ns) := (hqe.map _).symm.subset hs
          rw [toC_keys] at h8
          obtain ⟨y, hy, rfl⟩ := List.mem_map.1 h8
          exact List.mem_map.2 ⟨y, hzd.symm.subset hy, rfl⟩
      have hL : (cptX zs).length ≤ 4194304 := by
        have h1 : (cptX zs).length ≤ zs.length := cptX_len zs
        omega
      exact fun w hS => ⟨some ⟨cptX zs, z.A, z.c⟩, ⟨he, hB, fun x hx => hzs x (hzs2.1.subset (cptX_mem hx)), hL⟩, rfl, fin_boards (hS.sub (L' := [manyE true (z.bs.map rowX), .own z.A z.c 40 5 (cptX zs).length (encX (cptX zs))]) slz_) (fun x hx => hzs2.1.subset (cptX_mem hx))⟩
end Go.Proofs.YtpmmgljndceplaaGreat

namespace Go.Proofs.YtpmmgljndceplaaGreat
open Go Go.RowKit Go.Sort

theorem blw_grow {w w' : World} (h : Blw w.heap.size w w') : ∃ q os, w' = grow (w.drewN q) os := by
  refine ⟨w'.drawn - w.drawn, w'.heap.extract w.heap.size w'.heap.size, ?_⟩
  have hd := h.dr
  have hh : w'.heap = w.heap ++ w'.heap.extract w.heap.size w'.heap.size := by
    refine Array.ext_getElem? fun i => ?_
    by_cases hi : i < w.heap.size
    · rw [h.b.block i hi, Array.getElem?_append_left hi]
    · rw [Array.getElem?_append_right (by omega), Array.getElem?_extract]
      have hs := h.b.size
      by_cases h2 : i < w'.heap.size
      · rw [if_pos (by omega)]; congr 1; omega
      · rw [if_neg (by omega), Array.getElem?_eq_none (by omega)]
  obtain ⟨h1, h2, h3, h4, h5⟩ := w'
  simp only [grow, World.drewN, World.mk.injEq]
  exact ⟨hh, h.b.tape, by dsimp only at hd ⊢; omega, h.b.os, h.b.output⟩
section
variable {k : Nat} {enc : Nat → List Value}
theorem flatK_toList (hk : ∀ i, (enc i).length = k) (d : Array Nat) : (flatK enc k d).toList = (d.toList.map enc).flatten := by
  have hs : ∀ c ∈ d.toList.map enc, c.length = k := fun c hc => by
    obtain ⟨i, _, rfl⟩ := List.mem_map.1 hc; exact hk i
  have hl : ((d.toList.map enc).flatten).length = d.size * k := by rw [flatten_len hs]; simp
  refine List.ext_getElem? fun t => ?_
  by_cases ht : t < d.size * k
  · have hk0 : 0 < k := Nat.pos_of_mul_pos_left (Nat.lt_of_le_of_lt (Nat.zero_le _) ht)
    have hq : t / k < d.size := (Nat.div_lt_iff_lt_mul hk0).2 ht
    have hm : t % k < k := Nat.mod_lt _ hk0
    have h1 : (d.toList.map enc)[t / k]? = some (enc d[t / k]!) := by
      rw [List.getElem?_map, List.getElem?_eq_getElem (by simpa using hq)]
      simp [getElem!_pos d (t / k) hq]
    have h2 : (enc d[t / k]!)[t % k]? = some ((enc d[t / k]!)[t % k]!) := by
      have : t % k < (enc d[t / k]!).length := by rw [hk]; exact hm
      rw [List.getElem?_eq_getElem this, getElem!_pos (enc d[t / k]!) (t % k) this]
    have h3 := flatten_get hs h1 h2
    rw [show t / k * k + t % k = t by rw [Nat.mul_comm]; exact Nat.div_add_mod t k] at h3
    rw [h3, ← get_flatK enc k d t ht, Array.getElem?_toList, getElem!_pos _ t (by rw [size_flatK]; exact ht), Array.getElem?_eq_getElem (by rw [size_flatK]; exact ht)]
  · rw [List.getElem?_eq_none (by rw [Array.length_toList, size_flatK]; omega), List.getElem?_eq_none (by rw [hl]; omega)]
theorem sortSt {w0 w : World} {M : List Ent} {g cap n : Nat} {T : TypeId} (hk : ∀ i, (enc i).length = k) (h1 : ∀ i, ∀ v ∈ enc i, v.oneCell' = true) (d : Array Nat) (hd : d.size = n) (hst : St w0 w (.own (some ⟨g, 0, none⟩) cap T k n (d.toList.map enc) :: M)) (hn : 0 < n) :
    HoldsK enc k w g 0 d ∧ g < w.heap.size ∧ ∀ (d' : Array Nat) (m : Nat) (os : Array Obj), d'.size = n → St w0 (sortWorldK enc k w g 0 m d' os) (.own (some ⟨g, 0, none⟩) cap T k n (d'.toList.map enc) :: M) := by
  obtain ⟨hown, hrd⟩ := hst.ok (.own (some ⟨g, 0, none⟩) cap T k n (d.toList.map enc)) (by simp)
  have hlt : g < w.heap.size := Ent.ok_lt (hst.ok (.own (some ⟨g, 0, none⟩) cap T k n (d.toList.map enc)) (by simp)) ⟨_, rfl, rfl⟩
  have hfl := flatK_toList hk d
  obtain ⟨hol, hor⟩ := hown
  rcases hor with ⟨hv, _⟩ | ⟨g', cap', cur, hv, hbase, hheap, h2, h3, h4, h5⟩
  · cases hv
  · injection hv with hv1 hv2 hv3
    injection hv1 with hv1
    injection hv1 with hv1
    subst hv1 hv3
    refine ⟨fun j hj => ?_, hlt, fun d' m os hd' => ?_⟩
    · rw [size_flatK, hd] at hj
      have hjc : j < cur.size := by rw [h4]; exact Nat.lt_of_lt_of_le hj (Nat.mul_le_mul_right _ h2)
      have hget : (flatK enc k d)[j]! = cur[j] := by
        have h6 : cur.toList[j]? = (flatK enc k d).toList[j]? := by
          rw [hfl, ← h5, List.getElem?_take, if_pos hj]
        rw [Array.getElem?_toList, Array.getElem?_toList, Array.getElem?_eq_getElem hjc, Array.getElem?_eq_getElem (by rw [size_flatK, hd]; exact hj)] at h6
        rw [getElem!_pos _ j (by rw [size_flatK, hd]; exact hj)]
        exact (Option.some.inj h6).symm
      rw [hget, Nat.zero_add]
      constructor
      · rw [cell_of_row w g j _ T (0, 0) hheap, Array.getElem?_eq_getElem hjc]; rfl
      · exact frozen_of_row w g j _ T hheap
    · have hfl' := flatK_toList hk d'
      have hheap' : (sortWorldK enc k w g 0 m d' os).heap[g]? = some (.cells (putCells id 0 (flatK enc k d') cur) T (0, 0)) := by
        unfold sortWorldK grow putRowK putRow
        dsimp only
        have hsz : g < (mapBlock (Sort.ahead w m) g (putCells id 0 (flatK enc k d'))).heap.size := by
          unfold mapBlock; simp [Sort.ahead]; exact hlt
        rw [Array.getElem?_append_left hsz]
        unfold mapBlock
        simp only [Array.getElem?_modify, if_pos]
        rw [show (Sort.ahead w m).heap = w.heap from rfl, hheap]
        rfl
      have hother : ∀ q, q < w.heap.size → q ≠ g → (sortWorldK enc k w g 0 m d' os).heap[q]? = w.heap[q]? := fun q hq hne => by
        unfold sortWorldK grow putRowK putRow
        dsimp only
        have hsz : q < (mapBlock (Sort.ahead w m) g (putCells id 0 (flatK enc k d'))).heap.size := by
          unfold mapBlock; simp [Sort.ahead]; exact hq
        rw [Array.getElem?_append_left hsz]
        unfold mapBlock
        simp only [Array.getElem?_modify]
        rw [if_neg (fun e => hne e.symm)]; rfl
      have hs : ∀ c ∈ d'.toList.map enc, c.length = k := fun c hc => by
        obtain ⟨i, _, rfl⟩ := List.mem_map.1 hc; exact hk i
      have ho : ∀ c ∈ d'.toList.map enc, ∀ v ∈ c, v.oneCell' = true := fun c hc v hv => by
        obtain ⟨i, _, rfl⟩ := List.mem_map.1 hc; exact h1 i v hv
      have hflen : (flatK enc k d').toList.length = n * k := by rw [Array.length_toList, size_flatK, hd']
      have hown' : (sortWorldK enc k w g 0 m d' os).ownsRow 0 T k (.slice (some ⟨g, 0, none⟩) n cap) n (d'.toList.map enc).flatten := by
        refine ⟨by rw [← hfl', hflen], .inr ⟨g, cap, _, rfl, hbase, hheap', h2, h3, by simp [putCells, h4], ?_⟩⟩
        rw [← hfl']
        refine List.ext_getElem? fun t => ?_
        rw [List.getElem?_take]
        by_cases ht : t < n * k
        · rw [if_pos ht, Array.getElem?_toList, Array.getElem?_toList]
          have htc : t < cur.size := by rw [h4]; exact Nat.lt_of_lt_of_le ht (Nat.mul_le_mul_right _ h2)
          have hts : t < (flatK enc k d').size := by rw [size_flatK, hd']; exact ht
          unfold putCells
          rw [Array.getElem?_mapIdx, Array.getElem?_eq_getElem htc, Option.map_some, if_pos ⟨Nat.zero_le _, by omega⟩, Array.getElem?_eq_getElem hts, Nat.sub_zero, getElem!_pos _ t hts]
          rfl
        · rw [if_neg ht, List.getElem?_eq_none (by rw [hflen]; omega)]
      refine hst.turn rfl (fun q hq hnf => hother q hq fun e => hnf ⟨_, rfl, e.symm⟩) rfl rfl rfl ?_ ⟨hown', rd_own hown' (by simp [hd']) hs ho⟩ (fun q hq => .inl hq) (by
        show w.drawn ≤ w.drawn + m
        omega)
      unfold sortWorldK grow putRowK putRow mapBlock
      simp [Sort.ahead]
end
end Go.Proofs.YtpmmgljndceplaaGreat

namespace Go.Proofs.YtpmmgljndceplaaGreat
open Go Go.Shelf
def sortB_ren : Go.Shelf.Ren := ⟨fun | 6 => 43 | 15 => 70 | 14 => 69 | 28 => 112 | 29 => 113 | 20 => 104 | 21 => 105 | 22 => 106 | 23 => 107 | 24 => 108 | 25 => 109 | 26 => 110 | 27 => 111 | 46 => 128 | 47 => 129 | 48 => 130 | 49 => 131 | 50 => 132 | 57 => 139 | n => n, fun | 22 => 69 | 24 => 40 | 25 => 119 | 3 => 3 | 39 => 150 | 0 => 0 | 53 => 197 | 55 => 199 | 4 => 4 | 46 => 190 | 45 => 189 | 50 => 194 | 5 => 5 | 9 => 9 | 66 => 216 | 70 => 220 | 76 => 227 | 77 => 172 | n => n, fun | n => n⟩
theorem sortB : Go.Proofs.SlLaysF0.n6 Tryz.prog sortB_ren := {
  mixed := by kernel_rfl
  f6 := ⟨Tryz.f43.name, by decide, Tryz.func43.trans (congrArg some (by kernel_rfl))⟩
  f14 := ⟨Tryz.f69.name, by decide, Tryz.func69.trans (congrArg some (by kernel_rfl))⟩
  f15 := Tryz.func70.trans (congrArg some (by kernel_rfl))
  f20 := ⟨Tryz.f104.name, by decide, Tryz.func104.trans (congrArg some (by kernel_rfl))⟩
  f21 := ⟨Tryz.f105.name, by decide, Tryz.func105.trans (congrArg some (by kernel_rfl))⟩
  f22 := ⟨Tryz.f106.name, by decide, Tryz.func106.trans (congrArg some (by kernel_rfl))⟩
  f23 := ⟨Tryz.f107.name, by decide, Tryz.func107.trans (congrArg some (by kernel_rfl))⟩
  f24 := ⟨Tryz.f108.name, by decide, Tryz.func108.trans (congrArg some (by kernel_rfl))⟩
  f25 := ⟨Tryz.f109.name, by decide, Tryz.func109.trans (congrArg some (by kernel_rfl))⟩
  f26 := ⟨Tryz.f110.name, by decide, Tryz.func110.trans (congrArg some (by kernel_rfl))⟩
  f27 := ⟨Tryz.f111.name, by decide, Tryz.func111.trans (congrArg some (by kernel_rfl))⟩
  f28 := Tryz.func112.trans (congrArg some (by kernel_rfl))
  f29 := Tryz.func113.trans (congrArg some (by kernel_rfl))
  f46 := ⟨Tryz.f128.name, by decide, Tryz.func128.trans (congrArg some (by kernel_rfl))⟩
  f47 := Tryz.func129.trans (congrArg some (by kernel_rfl))
  f48 := Tryz.func130.trans (congrArg some (by kernel_rfl))
  f49 := ⟨Tryz.f131.name, by decide, Tryz.func131.trans (congrArg some (by kernel_rfl))⟩
  f50 := ⟨Tryz.f132.name, by decide, Tryz.func132.trans (congrArg some (by kernel_rfl))⟩
  f57 := ⟨Tryz.f139.name, by decide, Tryz.func139.trans (congrArg some (by kernel_rfl))⟩
  t0 := Tryz.underlying0
  a0 := Tryz.isAgg0
  z0 := Tryz.sizeOf0
  v0 := Tryz.zeroValue0
  t3 := Tryz.underlying3
  a3 := Tryz.isAgg3
  z3 := Tryz.sizeOf3
  v3 := Tryz.zeroValue3
  t4 := Tryz.underlying4
  a4 := Tryz.isAgg4
  z4 := Tryz.sizeOf4
  v4 := Tryz.zeroValue4
  t5 := Tryz.underlying5
  a5 := Tryz.isAgg5
  z5 := Tryz.sizeOf5
  v5 := Tryz.zeroValue5
  t9 := Tryz.underlying9
  a9 := Tryz.isAgg9
  z9 := Tryz.sizeOf9
  v9 := Tryz.zeroValue9
  t22 := Tryz.underlying69
  a22 := Tryz.isAgg69
  z22 := Tryz.sizeOf69
  v22 := Tryz.zeroValue69
  t25 := Tryz.underlying119
  a25 := Tryz.isAgg119
  z25 := Tryz.sizeOf119
  v25 := Tryz.zeroValue119
  t39 := Tryz.underlying150
  a39 := Tryz.isAgg150
  z39 := Tryz.sizeOf150
  v39 := Tryz.zeroValue150
  t45 := Tryz.underlying189
  a45 := Tryz.isAgg189
  z45 := Tryz.sizeOf189
  v45 := Tryz.zeroValue189
  t46 := Tryz.underlying190
  a46 := Tryz.isAgg190
  z46 := Tryz.sizeOf190
  v46 := Tryz.zeroValue190
  t50 := Tryz.underlying194
  a50 := Tryz.isAgg194
  z50 := Tryz.sizeOf194
  v50 := Tryz.zeroValue194
  t53 := Tryz.underlying197
  a53 := Tryz.isAgg197
  z53 := Tryz.sizeOf197
  v53 := Tryz.zeroValue197
  t55 := Tryz.underlying199
  a55 := Tryz.isAgg199
  z55 := Tryz.sizeOf199
  v55 := Tryz.zeroValue199
  t66 := Tryz.underlying216
  a66 := Tryz.isAgg216
  z66 := Tryz.sizeOf216
  v66 := Tryz.zeroValue216
  t70 := Tryz.underlying220
  a70 := Tryz.isAgg220
  z70 := Tryz.sizeOf220
  v70 := Tryz.zeroValue220
  t76 := Tryz.underlying227
  a76 := Tryz.isAgg227
  z76 := Tryz.sizeOf227
  v76 := Tryz.zeroValue227
  t77 := Tryz.underlying172
  a77 := Tryz.isAgg172
  z77 := Tryz.sizeOf172
  v77 := Tryz.zeroValue172 }
end Go.Proofs.YtpmmgljndceplaaGreat

namespace Go.Proofs.YtpmmgljndceplaaGreat
open Go Go.RowKit Go.Sort

def atX (bs : List BA) (i : Nat) : BA := bs.getD i ⟨⟨[], (0, 0), (0, 0)⟩, none, 0⟩
theorem atX_all {bs : List BA} {p : BA → Prop} (h : ∀ x ∈ bs, p x) (h0 : p ⟨⟨[], (0, 0), (0, 0)⟩, none, 0⟩) (i : Nat) : p (atX bs i) := by
  unfold atX
  rw [List.getD_eq_getElem?_getD]
  cases hb : bs[i]? with
  | none => exact h0
  | some x => exact h x (List.mem_of_getElem? hb)
theorem atX_range (bs : List BA) : (List.range bs.length).map (atX bs) = bs := by
  refine List.ext_getElem? fun i => ?_
  rw [List.getElem?_map]
  by_cases h : i < bs.length
  · rw [List.getElem?_range h, Option.map_some, atX, List.getD_eq_getElem?_getD, List.getElem?_eq_getElem h]; rfl
  · rw [List.getElem?_eq_none (by simpa using h), List.getElem?_eq_none (by omega)]; rfl
abbrev cfX (bs : List BA) (i j : Nat) : Int := cmpB (atX bs i).b (atX bs j).b
theorem swoX (bs : List BA) : SWO (ltOf (cfX bs)) where
  irrefl i := by unfold ltOf; exact decide_eq_false (by rw [show cfX bs i i = 0 from cmpB_zero.2 rfl]; decide)
  trans i j k h1 h2 := by
    unfold ltOf at *
    exact decide_eq_true (cmpB_trans (of_decide_eq_true h1) (of_decide_eq_true h2))
  ntrans i j k h1 h2 := by
    unfold ltOf at *
    have n1 := of_decide_eq_false h1
    have n2 := of_decide_eq_false h2
    refine decide_eq_false fun h3 => ?_
    by_cases e1 : (atX bs i).b = (atX bs j).b
    · rw [show cfX bs i k = cfX bs j k by unfold cfX; rw [e1]] at h3; exact n2 h3
    · have h4 := cmpB_pos n1 e1
      exact n2 (cmpB_trans h4 h3)
theorem sort_ok : SortOk Tryz.prog 40 43 39 := by
  intro E bs A n c hl hn hn2 hE hS
  refine ⟨fun w0 w R hst => ?_⟩
  have hE0 : ∀ i w, E.ok w → Rd w (atX bs i).A 2 (atX bs i).b.st.length (encP (atX bs i).b.st) := fun i w hw => atX_all (bs := bs) (p := fun x => Rd w x.A 2 x.b.st.length (encP x.b.st)) (fun x hx => hE x hx w hw) (Rd.nil w none 2) i
  have hS0 : ∀ i, BrdSm (atX bs i).b := fun i => atX_all (bs := bs) (p := fun x => BrdSm x.b) hS ⟨fun p hp => (by cases hp), ⟨by decide, by decide⟩, ⟨by decide, by decide⟩, by decide⟩ i
  have henc : ((Array.range n).toList.map fun i => (atX bs i).cells) = encX bs := by
    rw [Array.toList_range, ← hl]
    show (List.range bs.length).map (BA.cells ∘ atX bs) = _
    rw [← List.map_map, atX_range]; rfl
  have hrd := (hst.ok (.own A c 40 5 n (encX bs)) (by simp)).2
  obtain ⟨ad, rfl⟩ := hrd.some_ hn
  obtain ⟨g, rfl⟩ : ∃ g, ad = ⟨g, 0, none⟩ := by
    have hown := (hst.ok (.own (some ad) c 40 5 n (encX bs)) (by simp)).1
    rcases hown.2 with ⟨hv, _⟩ | ⟨g, cap', cur, hv, _⟩
    · cases hv
    · injection hv with h1; injection h1 with h1; exact ⟨g, h1⟩
  have hst2 : St w0 w (.own (some ⟨g, 0, none⟩) c 40 5 n ((Array.range n).toList.map fun i => (atX bs i).cells) :: E :: R) := by rw [henc]; exact hst
  obtain ⟨hH, hlt, hfin⟩ := sortSt (enc := fun i => (atX bs i).cells) (fun i => rfl) (fun i v hv => by
    simp only [BA.cells, Brd.cells, List.mem_cons, List.mem_nil_iff, or_false] at hv
    rcases hv with rfl | rfl | rfl | rfl | rfl <;> rfl) (Array.range n) (by simp) hst2 hn
  have hcmp : CmpLays Tryz.prog 39 #[] (fun i => (atX bs i).cells) 5 (cfX bs) g 0 n w := fun m os dk hdk x y => by
    have hW := hfin dk m os hdk
    have hEW := hW.ok E (by simp)
    have hc := C_Boards1 (atX bs x).b (atX bs y).b (atX bs x).A (atX bs y).A (atX bs x).c (atX bs y).c (hS0 x) (hS0 y) _ (hE0 x _ hEW) (hE0 y _ hEW)
    exact Calls.mono hc.out fun e w' ⟨he, hs⟩ => ⟨he, blw_grow hs.below⟩
  have hcon := AnyQ.slices_SortFunc sortB 5 (fun w => run_isAgg (P := Tryz.prog) (t := 40) inferInstance w) (fun w => run_sizeOf (P := Tryz.prog) (t := 40) inferInstance w) (fun i => (atX bs i).cells) (fun i => rfl) (fun i v hv => by
    simp only [BA.cells, Brd.cells, List.mem_cons, List.mem_nil_iff, or_false] at hv
    rcases hv with rfl | rfl | rfl | rfl | rfl <;> rfl) (cfX bs) (swoX bs) 39 #[] g 0 c (Array.range n) w (run_callFunc inferInstance) (by simpa using hcmp) hH hlt (by simp; omega)
  simp only [Array.size_range] at hcon
  refine Calls.mono hcon fun e w' ⟨he, d', m, os, hp, hs, hw⟩ => ?_
  subst hw
  have hd' : d'.size = n := by have := hp.1; simpa using this
  have hperm : d'.toList.Perm (List.range n) := by
    have h1 := hp.2.2
    rw [show d'.extract 0 n = d' by rw [← hd']; simp, show (Array.range n).extract 0 n = Array.range n by simp, Array.toList_range] at h1
    exact h1
  refine ⟨d'.toList.map (atX bs), ⟨?_, ?_⟩, he, ?_⟩
  · have h1 := hperm.map (atX bs)
    rwa [← hl, atX_range] at h1
  · rw [List.map_map]
    refine List.pairwise_iff_getElem.2 fun i j hi hj hij => ?_
    simp only [List.length_map, Array.length_toList] at hi hj
    have h1 := hs i j (Nat.zero_le _) hij (by omega)
    unfold ltOf at h1
    have h2 := of_decide_eq_false h1
    rw [getElem!_pos d' i (by omega), getElem!_pos d' j (by omega)] at h2
    simp only [List.getElem_map, Function.comp, Array.getElem_toList]
    by_cases e : cmpB (atX bs d'[i]).b (atX bs d'[j]).b ≤ 0
    · exact e
    · exact absurd (cmpB_neg.2 (by omega)) h2
  · have h1 := hfin d' m os hd'
    rw [show encX (d'.toList.map (atX bs)) = d'.toList.map fun i => (atX bs i).cells by unfold encX; rw [List.map_map]; rfl]
    exact h1
theorem C_card_Boards (f : Fmt) (cf : Int) (xs : List Nt) (A : Option Addr) (n c : Nat) (w : World) (h : Rd w A 4 n (encN xs)) (hn : n ≤ 9223372036854775807) (hsm : chkC f cf xs = 0 → mostS xs ≤ 400) (hbig : (crowdC f cf xs).length ≤ 4194304) :
    CR Tryz.prog 16 [.agg (cardC f cf A n c).toArray] w (BdOk f cf xs) (bdV (posE f cf xs)) (bdE 40) := C_card_Boards' sort_ok f cf xs A n c w h hn hsm (fun _ => hbig)
end Go.Proofs.YtpmmgljndceplaaGreat
