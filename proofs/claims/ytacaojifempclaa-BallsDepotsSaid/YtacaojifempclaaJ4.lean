/- The texts of the walk, part 4. -/
import Derived.Test.YtacaojifempclaaJ3
namespace Go.Proofs.Ytacaojifempclaa
open Go Go.RowKit

abbrev restc (f : Fmt) (b : Nat) : List Value := [.int .i64 f.sets, .int .i64 f.games, .bool f.noAd, .int .i64 f.tie, .int .i64 f.to, .int .i64 f.ltie, .int .i64 f.lto, .int .i64 f.first, .int .i64 f.thn, .bool f.dbl, .map (some b)]
abbrev restv (f : Fmt) (b : Nat) : Value := .agg #[.int .i64 f.sets, .int .i64 f.games, .bool f.noAd, .int .i64 f.tie, .int .i64 f.to, .int .i64 f.ltie, .int .i64 f.lto, .int .i64 f.first, .int .i64 f.thn, .bool f.dbl, .map (some b)]
structure Spo where
  (won games : Pr) (num t0 t1 : Int)
abbrev Spo.cells (s : Spo) : List Value := [.int .i64 s.won.1, .int .i64 s.won.2, .int .i64 s.games.1, .int .i64 s.games.2, .int .i64 s.num, .int .i64 s.t0, .int .i64 s.t1]
abbrev Spo.val (s : Spo) : Value := .agg #[.int .i64 s.won.1, .int .i64 s.won.2, .int .i64 s.games.1, .int .i64 s.games.2, .int .i64 s.num, .int .i64 s.t0, .int .i64 s.t1]
theorem C_bound_or1 (a b : Pr) (w : World) : C0 Try.prog 122 [pv a, pv b] w (pv (wideV a b)) := by
  refine ⟨en Try.func122 Try.ntmps122 (St.init w) (h := fun F => ?_)⟩
  refine sq (h := ?_)
  refine rg (h := ?_)
  refine bxA (h := fun b0 => ?_)
  refine bxA (h := fun b1 => ?_)
  refine al (h := fun b2 => ?_)
  refine nl (h := ?_)
  refine q_seq (h := ?_)
  refine sq (h := ?_)
  refine rg (h := ?_)
  refine WL.y (hy := (by first | exact fa | exact faE)) (h := ?_)
  refine WL.y (hy := (by first | exact ld | exact ldE)) (h := ?_)
  refine WL.y (hy := (by first | exact fa | exact faE)) (h := ?_)
  refine WL.y (hy := (by first | exact ld | exact ldE)) (h := ?_)
  refine WL.y (hy := minI) (h := ?_)
  refine WL.y (hy := (by first | exact fa | exact faE)) (h := ?_)
  refine WL.y (hy := (by first | exact ld | exact ldE)) (h := ?_)
  refine WL.y (hy := (by first | exact fa | exact faE)) (h := ?_)
  refine WL.y (hy := (by first | exact ld | exact ldE)) (h := ?_)
  refine WL.y (hy := maxI) (h := ?_)
  refine WL.y (hy := bd) (h := ?_)
  first | refine stA (h := ?_) | refine stEA (h := ?_)
  refine nl (h := ?_)
  refine q_seq (h := ?_)
  refine rtn (h := ?_)
  refine q_ret (hR := ?_)
  exact fun w hS => ⟨rfl, hS.sub (by repeat (first | exact SubL.nil | (apply SubL.cons; (repeat (first | exact At.here | apply At.there))) | exact SubL.refl _ | apply SubL.skip))⟩
theorem C_bound_or (a b : Cs) (w : World) : C0 Try.prog 111 [cv a, cv b] w (cv (orV a b)) := by
  refine ⟨en Try.func111 Try.ntmps111 (St.init w) (h := fun F => ?_)⟩
  refine sq (h := ?_)
  refine rg (h := ?_)
  refine bxA (h := fun b0 => ?_)
  refine bxA (h := fun b1 => ?_)
  refine al (h := fun b2 => ?_)
  refine nl (h := ?_)
  refine q_seq (h := ?_)
  refine sq (h := ?_)
  refine rg (h := ?_)
  refine WL.y (hy := asg) (h := ?_)
  refine nl (h := ?_)
  refine q_seq (h := ?_)
  refine sq (h := ?_)
  refine rgD (by kernel_rfl) [(1000000, .blk b0 103 (ccs a)), (1000000, .blk b1 103 (ccs b))] (by repeat (first | exact HS.nil | (apply HS.keep; (repeat (first | exact At.here | apply At.there))) | (apply HS.ro; (repeat (first | exact Rds.ro | exact Rds.own | apply Rds.there))))) (h := ?_)
  refine tk 0 (hy := mv) (h := ?_)
  refine tk 1 (hy := (by first | exact fa | exact faE)) (h := ?_)
  refine tk 2 (hy := (by first | exact ldA | exact ldEA)) (h := ?_)
  refine tk 3 (hy := (by first | exact fa | exact faE)) (h := ?_)
  refine tk 4 (hy := (by first | exact ldA | exact ldEA)) (h := ?_)
  refine tk 6 (hy := mv) (h := ?_)
  refine tk 7 (hy := (by first | exact fa | exact faE)) (h := ?_)
  refine tk 8 (hy := (by first | exact ldA | exact ldEA)) (h := ?_)
  refine tk 9 (hy := (by first | exact fa | exact faE)) (h := ?_)
  refine tk 10 (hy := (by first | exact ldA | exact ldEA)) (h := ?_)
  refine one 5 (h := ?_)
  refine clf0 (f := 122) (fi := []) (cap := []) (hc := fun w hS => C_bound_or1 a.1 b.1 w) (h := ?_)
  refine nx (h := ?_)
  refine one 11 (h := ?_)
  refine clf0 (f := 122) (fi := []) (cap := []) (hc := fun w hS => C_bound_or1 a.2 b.2 w) (h := ?_)
  refine nx (h := ?_)
  refine tk 12 (hy := bd) (h := ?_)
  refine one 13 (h := ?_)
  first | refine stA (h := ?_) | refine stEA (h := ?_)
  refine nx (h := ?_)
  refine dn (h := ?_)
  refine q_seq (h := ?_)
  refine rtn (h := ?_)
  refine q_ret (hR := ?_)
  exact fun w hS => ⟨rfl, hS.sub (by repeat (first | exact SubL.nil | (apply SubL.cons; (repeat (first | exact At.here | apply At.there))) | exact SubL.refl _ | apply SubL.skip))⟩
theorem due_form (f : Fmt) (n : Int) : dueV f n = (decide (0 < f.first) && (decide (n = f.first) || decide (f.first < n) && decide (0 < f.thn) && decide ((n - f.first) % f.thn = 0))) := by
  unfold dueV
  rw [show decide (n - f.first = 0) = decide (n = f.first) from decide_eq_decide.2 (by omega), show decide (0 < n - f.first) = decide (f.first < n) from decide_eq_decide.2 (by omega)]
theorem C_rest_due (f : Fmt) (b : Nat) (n : Int) (hf : f.Ok) (hn : -1000000 ≤ n ∧ n ≤ 1000000) (w : World) : C0 Try.prog 110 [restv f b, .int .i64 n] w (.bool (dueV f n)) := by
  have h1 := hf.f0
  have h2 := hf.f1
  have h3 := hf.n0
  rw [due_form]
  refine ⟨en Try.func110 Try.ntmps110 (St.init w) (h := fun F => ?_)⟩
  refine sq (h := ?_)
  refine rg (h := ?_)
  refine bxA (h := fun b0 => ?_)
  refine WL.y (hy := asg) (h := ?_)
  refine nl (h := ?_)
  refine q_seq (h := ?_)
  refine sq (h := ?_)
  refine rg (h := ?_)
  refine WL.y (hy := (by first | exact fa | exact faE)) (h := ?_)
  refine WL.y (hy := (by first | exact fa | exact faE)) (h := ?_)
  refine WL.y (hy := (by first | exact ld | exact ldE)) (h := ?_)
  refine WL.y (hy := gtr) (h := ?_)
  refine WL.y (hy := mv) (h := ?_)
  apply brAnd 31 9 40 (by exact rfl)
  · intro hb0
    refine un (h := ?_)
    refine WL.y (hy := mv) (h := ?_)
    refine un (h := ?_)
    refine WL.y (hy := (by first | exact fa | exact faE)) (h := ?_)
    refine un (h := ?_)
    refine WL.y (hy := (by first | exact fa | exact faE)) (h := ?_)
    refine un (h := ?_)
    refine WL.y (hy := (by first | exact ld | exact ldE)) (h := ?_)
    refine un (h := ?_)
    refine WL.y (hy := eql) (h := ?_)
    refine un (h := ?_)
    refine WL.y (hy := mv) (h := ?_)
    apply brOr 24 15 39 (by exact rfl)
    · intro hb1
      refine un (h := ?_)
      refine WL.y (hy := mv) (h := ?_)
      refine un (h := ?_)
      refine WL.y (hy := (by first | exact fa | exact faE)) (h := ?_)
      refine un (h := ?_)
      refine WL.y (hy := (by first | exact fa | exact faE)) (h := ?_)
      refine un (h := ?_)
      refine WL.y (hy := (by first | exact ld | exact ldE)) (h := ?_)
      refine un (h := ?_)
      refine WL.y (hy := gtr) (h := ?_)
      refine un (h := ?_)
      refine WL.y (hy := mv) (h := ?_)
      apply brAnd 5 21 26 (by exact rfl)
      · intro hb2
        refine un (h := ?_)
        refine WL.y (hy := (by first | exact fa | exact faE)) (h := ?_)
        refine un (h := ?_)
        refine WL.y (hy := (by first | exact fa | exact faE)) (h := ?_)
        refine un (h := ?_)
        refine WL.y (hy := (by first | exact ld | exact ldE)) (h := ?_)
        refine un (h := ?_)
        refine WL.y (hy := gtr) (h := ?_)
        refine un (h := ?_)
        refine WL.y (hy := (by first | exact pkT | exact pkF)) (h := ?_)
        exact mg (by repeat (first | exact trivial | refine ⟨rfl, ?_⟩ | refine ⟨by rw [hb2]; rfl, ?_⟩ | refine ⟨by rw [hb0]; rfl, ?_⟩ | refine ⟨by rw [hb1]; rfl, ?_⟩)) (by repeat (first | exact SubL.nil | (apply SubL.cons; (repeat (first | exact At.here | apply At.there))) | exact SubL.refl _ | apply SubL.skip))
      · intro hb2
        repeat (first | refine un (h := ?_) | refine sk (h := ?_) | refine WL.y (hy := pkF) (h := ?_) | refine WL.y (hy := pkT) (h := ?_))
        exact mg (by repeat (first | exact trivial | refine ⟨rfl, ?_⟩ | refine ⟨by rw [hb2]; rfl, ?_⟩ | refine ⟨by rw [hb0]; rfl, ?_⟩ | refine ⟨by rw [hb1]; rfl, ?_⟩)) (by repeat (first | exact SubL.nil | (apply SubL.cons; (repeat (first | exact At.here | apply At.there))) | exact SubL.refl _ | apply SubL.skip))
      refine un (h := ?_)
      refine WL.y (hy := mv) (h := ?_)
      apply brAnd 11 27 38 (by exact rfl)
      · intro hb3
        obtain ⟨hng, hthn⟩ : f.first < n ∧ 0 < f.thn := by simp only [Bool.and_eq_true, decide_eq_true_eq] at hb3; omega
        refine un (h := ?_)
        refine WL.y (hy := mv) (h := ?_)
        refine un (h := ?_)
        refine WL.y (hy := (by first | exact fa | exact faE)) (h := ?_)
        refine un (h := ?_)
        refine WL.y (hy := (by first | exact fa | exact faE)) (h := ?_)
        refine un (h := ?_)
        refine WL.y (hy := (by first | exact ld | exact ldE)) (h := ?_)
        refine un (h := ?_)
        refine WL.y (hy := subI) (h := ?_)
        refine un (h := ?_)
        refine WL.y (hy := (by first | exact fa | exact faE)) (h := ?_)
        refine un (h := ?_)
        refine WL.y (hy := (by first | exact fa | exact faE)) (h := ?_)
        refine un (h := ?_)
        refine WL.y (hy := (by first | exact ld | exact ldE)) (h := ?_)
        refine un (h := ?_)
        refine WL.y (hy := remI) (h := ?_)
        refine un (h := ?_)
        refine WL.y (hy := eql) (h := ?_)
        refine un (h := ?_)
        refine WL.y (hy := (by first | exact pkT | exact pkF)) (h := ?_)
        exact mg (by repeat (first | exact trivial | refine ⟨rfl, ?_⟩ | refine ⟨by rw [hb3]; rfl, ?_⟩ | refine ⟨by rw [hb0]; rfl, ?_⟩ | refine ⟨by rw [hb1]; rfl, ?_⟩)) (by repeat (first | exact SubL.nil | (apply SubL.cons; (repeat (first | exact At.here | apply At.there))) | exact SubL.refl _ | apply SubL.skip))
      · intro hb3
        repeat (first | refine un (h := ?_) | refine sk (h := ?_) | refine WL.y (hy := pkF) (h := ?_) | refine WL.y (hy := pkT) (h := ?_))
        exact mg (by repeat (first | exact trivial | refine ⟨rfl, ?_⟩ | refine ⟨by rw [hb3]; rfl, ?_⟩ | refine ⟨by rw [hb0]; rfl, ?_⟩ | refine ⟨by rw [hb1]; rfl, ?_⟩)) (by repeat (first | exact SubL.nil | (apply SubL.cons; (repeat (first | exact At.here | apply At.there))) | exact SubL.refl _ | apply SubL.skip))
      refine un (h := ?_)
      refine WL.y (hy := (by first | exact pkT | exact pkF)) (h := ?_)
      exact mg (by repeat (first | exact trivial | refine ⟨rfl, ?_⟩ | refine ⟨by rw [hb1]; rfl, ?_⟩ | refine ⟨by rw [hb0]; rfl, ?_⟩)) (by repeat (first | exact SubL.nil | (apply SubL.cons; (repeat (first | exact At.here | apply At.there))) | exact SubL.refl _ | apply SubL.skip))
    · intro hb1
      repeat (first | refine un (h := ?_) | refine sk (h := ?_) | refine WL.y (hy := pkF) (h := ?_) | refine WL.y (hy := pkT) (h := ?_))
      exact mg (by repeat (first | exact trivial | refine ⟨rfl, ?_⟩ | refine ⟨by rw [hb1]; rfl, ?_⟩ | refine ⟨by rw [hb0]; rfl, ?_⟩)) (by repeat (first | exact SubL.nil | (apply SubL.cons; (repeat (first | exact At.here | apply At.there))) | exact SubL.refl _ | apply SubL.skip))
    refine WL.y (hy := (by first | exact pkT | exact pkF)) (h := ?_)
    exact mg (by repeat (first | exact trivial | refine ⟨rfl, ?_⟩ | refine ⟨by rw [hb0]; rfl, ?_⟩)) (by repeat (first | exact SubL.nil | (apply SubL.cons; (repeat (first | exact At.here | apply At.there))) | exact SubL.refl _ | apply SubL.skip))
  · intro hb0
    repeat (first | refine un (h := ?_) | refine sk (h := ?_) | refine WL.y (hy := pkF) (h := ?_) | refine WL.y (hy := pkT) (h := ?_))
    exact mg (by repeat (first | exact trivial | refine ⟨rfl, ?_⟩ | refine ⟨by rw [hb0]; rfl, ?_⟩)) (by repeat (first | exact SubL.nil | (apply SubL.cons; (repeat (first | exact At.here | apply At.there))) | exact SubL.refl _ | apply SubL.skip))
  refine WL.y (hy := asg) (h := ?_)
  refine nl (h := ?_)
  refine q_seq (h := ?_)
  refine rtn (h := ?_)
  refine q_ret (hR := ?_)
  exact fun w hS => ⟨rfl, hS.sub (by repeat (first | exact SubL.nil | (apply SubL.cons; (repeat (first | exact At.here | apply At.there))) | exact SubL.refl _ | apply SubL.skip))⟩
theorem C_ref9_due (f : Fmt) (n : Int) (hf : f.Ok) (hn : -1000000 ≤ n ∧ n ≤ 1000000) (w : World) : C0 Try.prog 125 [f.val, .int .i64 n] w (.bool (dueV f n)) := by
  have h1 := hf.f0
  have h2 := hf.f1
  have h3 := hf.n0
  rw [due_form]
  refine ⟨en Try.func125 Try.ntmps125 (St.init w) (h := fun F => ?_)⟩
  refine sq (h := ?_)
  refine rg (h := ?_)
  refine bxA (h := fun b0 => ?_)
  refine WL.y (hy := asg) (h := ?_)
  refine nl (h := ?_)
  refine q_seq (h := ?_)
  refine sq (h := ?_)
  refine rg (h := ?_)
  refine WL.y (hy := (by first | exact fa | exact faE)) (h := ?_)
  refine WL.y (hy := (by first | exact ld | exact ldE)) (h := ?_)
  refine WL.y (hy := gtr) (h := ?_)
  refine WL.y (hy := mv) (h := ?_)
  apply brAnd 26 8 34 (by exact rfl)
  · intro hb0
    refine un (h := ?_)
    refine WL.y (hy := mv) (h := ?_)
    refine un (h := ?_)
    refine WL.y (hy := (by first | exact fa | exact faE)) (h := ?_)
    refine un (h := ?_)
    refine WL.y (hy := (by first | exact ld | exact ldE)) (h := ?_)
    refine un (h := ?_)
    refine WL.y (hy := eql) (h := ?_)
    refine un (h := ?_)
    refine WL.y (hy := mv) (h := ?_)
    apply brOr 20 13 33 (by exact rfl)
    · intro hb1
      refine un (h := ?_)
      refine WL.y (hy := mv) (h := ?_)
      refine un (h := ?_)
      refine WL.y (hy := (by first | exact fa | exact faE)) (h := ?_)
      refine un (h := ?_)
      refine WL.y (hy := (by first | exact ld | exact ldE)) (h := ?_)
      refine un (h := ?_)
      refine WL.y (hy := gtr) (h := ?_)
      refine un (h := ?_)
      refine WL.y (hy := mv) (h := ?_)
      apply brAnd 4 18 22 (by exact rfl)
      · intro hb2
        refine un (h := ?_)
        refine WL.y (hy := (by first | exact fa | exact faE)) (h := ?_)
        refine un (h := ?_)
        refine WL.y (hy := (by first | exact ld | exact ldE)) (h := ?_)
        refine un (h := ?_)
        refine WL.y (hy := gtr) (h := ?_)
        refine un (h := ?_)
        refine WL.y (hy := (by first | exact pkT | exact pkF)) (h := ?_)
        exact mg (by repeat (first | exact trivial | refine ⟨rfl, ?_⟩ | refine ⟨by rw [hb2]; rfl, ?_⟩ | refine ⟨by rw [hb0]; rfl, ?_⟩ | refine ⟨by rw [hb1]; rfl, ?_⟩)) (by repeat (first | exact SubL.nil | (apply SubL.cons; (repeat (first | exact At.here | apply At.there))) | exact SubL.refl _ | apply SubL.skip))
      · intro hb2
        repeat (first | refine un (h := ?_) | refine sk (h := ?_) | refine WL.y (hy := pkF) (h := ?_) | refine WL.y (hy := pkT) (h := ?_))
        exact mg (by repeat (first | exact trivial | refine ⟨rfl, ?_⟩ | refine ⟨by rw [hb2]; rfl, ?_⟩ | refine ⟨by rw [hb0]; rfl, ?_⟩ | refine ⟨by rw [hb1]; rfl, ?_⟩)) (by repeat (first | exact SubL.nil | (apply SubL.cons; (repeat (first | exact At.here | apply At.there))) | exact SubL.refl _ | apply SubL.skip))
      refine un (h := ?_)
      refine WL.y (hy := mv) (h := ?_)
      apply brAnd 9 23 32 (by exact rfl)
      · intro hb3
        obtain ⟨hng, hthn⟩ : f.first < n ∧ 0 < f.thn := by simp only [Bool.and_eq_true, decide_eq_true_eq] at hb3; omega
        refine un (h := ?_)
        refine WL.y (hy := mv) (h := ?_)
        refine un (h := ?_)
        refine WL.y (hy := (by first | exact fa | exact faE)) (h := ?_)
        refine un (h := ?_)
        refine WL.y (hy := (by first | exact ld | exact ldE)) (h := ?_)
        refine un (h := ?_)
        refine WL.y (hy := subI) (h := ?_)
        refine un (h := ?_)
        refine WL.y (hy := (by first | exact fa | exact faE)) (h := ?_)
        refine un (h := ?_)
        refine WL.y (hy := (by first | exact ld | exact ldE)) (h := ?_)
        refine un (h := ?_)
        refine WL.y (hy := remI) (h := ?_)
        refine un (h := ?_)
        refine WL.y (hy := eql) (h := ?_)
        refine un (h := ?_)
        refine WL.y (hy := (by first | exact pkT | exact pkF)) (h := ?_)
        exact mg (by repeat (first | exact trivial | refine ⟨rfl, ?_⟩ | refine ⟨by rw [hb3]; rfl, ?_⟩ | refine ⟨by rw [hb0]; rfl, ?_⟩ | refine ⟨by rw [hb1]; rfl, ?_⟩)) (by repeat (first | exact SubL.nil | (apply SubL.cons; (repeat (first | exact At.here | apply At.there))) | exact SubL.refl _ | apply SubL.skip))
      · intro hb3
        repeat (first | refine un (h := ?_) | refine sk (h := ?_) | refine WL.y (hy := pkF) (h := ?_) | refine WL.y (hy := pkT) (h := ?_))
        exact mg (by repeat (first | exact trivial | refine ⟨rfl, ?_⟩ | refine ⟨by rw [hb3]; rfl, ?_⟩ | refine ⟨by rw [hb0]; rfl, ?_⟩ | refine ⟨by rw [hb1]; rfl, ?_⟩)) (by repeat (first | exact SubL.nil | (apply SubL.cons; (repeat (first | exact At.here | apply At.there))) | exact SubL.refl _ | apply SubL.skip))
      refine un (h := ?_)
      refine WL.y (hy := (by first | exact pkT | exact pkF)) (h := ?_)
      exact mg (by repeat (first | exact trivial | refine ⟨rfl, ?_⟩ | refine ⟨by rw [hb1]; rfl, ?_⟩ | refine ⟨by rw [hb0]; rfl, ?_⟩)) (by repeat (first | exact SubL.nil | (apply SubL.cons; (repeat (first | exact At.here | apply At.there))) | exact SubL.refl _ | apply SubL.skip))
    · intro hb1
      repeat (first | refine un (h := ?_) | refine sk (h := ?_) | refine WL.y (hy := pkF) (h := ?_) | refine WL.y (hy := pkT) (h := ?_))
      exact mg (by repeat (first | exact trivial | refine ⟨rfl, ?_⟩ | refine ⟨by rw [hb1]; rfl, ?_⟩ | refine ⟨by rw [hb0]; rfl, ?_⟩)) (by repeat (first | exact SubL.nil | (apply SubL.cons; (repeat (first | exact At.here | apply At.there))) | exact SubL.refl _ | apply SubL.skip))
    refine WL.y (hy := (by first | exact pkT | exact pkF)) (h := ?_)
    exact mg (by repeat (first | exact trivial | refine ⟨rfl, ?_⟩ | refine ⟨by rw [hb0]; rfl, ?_⟩)) (by repeat (first | exact SubL.nil | (apply SubL.cons; (repeat (first | exact At.here | apply At.there))) | exact SubL.refl _ | apply SubL.skip))
  · intro hb0
    repeat (first | refine un (h := ?_) | refine sk (h := ?_) | refine WL.y (hy := pkF) (h := ?_) | refine WL.y (hy := pkT) (h := ?_))
    exact mg (by repeat (first | exact trivial | refine ⟨rfl, ?_⟩ | refine ⟨by rw [hb0]; rfl, ?_⟩)) (by repeat (first | exact SubL.nil | (apply SubL.cons; (repeat (first | exact At.here | apply At.there))) | exact SubL.refl _ | apply SubL.skip))
  refine WL.y (hy := asg) (h := ?_)
  refine nl (h := ?_)
  refine q_seq (h := ?_)
  refine rtn (h := ?_)
  refine q_ret (hR := ?_)
  exact fun w hS => ⟨rfl, hS.sub (by repeat (first | exact SubL.nil | (apply SubL.cons; (repeat (first | exact At.here | apply At.there))) | exact SubL.refl _ | apply SubL.skip))⟩
theorem C_rest_tie (f : Fmt) (b : Nat) (won g : Pr) (hf : f.Ok) (w : World) : C0 Try.prog 96 [restv f b, pv won, pv g] w (.int .i64 (tieN f won g)) := by
  have hs0 := hf.s0
  have hs1 := hf.s1
  refine ⟨en Try.func96 Try.ntmps96 (St.init w) (h := fun F => ?_)⟩
  refine sq (h := ?_)
  refine rg (h := ?_)
  refine bxA (h := fun b0 => ?_)
  refine bxA (h := fun b1 => ?_)
  refine bxA (h := fun b2 => ?_)
  refine WL.y (hy := asg) (h := ?_)
  refine nl (h := ?_)
  refine q_seq (h := ?_)
  refine sq (h := ?_)
  refine rg (h := ?_)
  refine WL.y (hy := (by first | exact fa | exact faE)) (h := ?_)
  refine WL.y (hy := (by first | exact fa | exact faE)) (h := ?_)
  refine WL.y (hy := (by first | exact ld | exact ldE)) (h := ?_)
  refine WL.y (hy := asg) (h := ?_)
  refine nl (h := ?_)
  refine q_seq (h := ?_)
  refine ct (X := Unit) (fun _ => True) (fun _ => [(3, .pointer (some ⟨b0, 0, none⟩)), (4, .pointer (some ⟨b1, 0, none⟩)), (5, .pointer (some ⟨b2, 0, none⟩)), (7, .int .i64 (setV f won).1)]) (fun _ => [.blk b0 156 (restc f b), .blk b1 26 [.int .i64 won.1, .int .i64 won.2], .blk b2 26 [.int .i64 g.1, .int .i64 g.2]]) (h1 := ?_) (h2 := ?_)
  · skip
    refine sq (h := ?_)
    refine rg (h := ?_)
    refine WL.y (hy := (by first | exact fa | exact faE)) (h := ?_)
    refine WL.y (hy := (by first | exact ld | exact ldE)) (h := ?_)
    refine WL.y (hy := (by first | exact fa | exact faE)) (h := ?_)
    refine WL.y (hy := (by first | exact fa | exact faE)) (h := ?_)
    refine WL.y (hy := (by first | exact ld | exact ldE)) (h := ?_)
    refine WL.y (hy := subI) (h := ?_)
    refine WL.y (hy := eql) (h := ?_)
    refine WL.y (hy := mv) (h := ?_)
    apply brAnd 8 18 26 (by exact rfl)
    · intro hb0
      refine un (h := ?_)
      refine WL.y (hy := (by first | exact fa | exact faE)) (h := ?_)
      refine un (h := ?_)
      refine WL.y (hy := (by first | exact ld | exact ldE)) (h := ?_)
      refine un (h := ?_)
      refine WL.y (hy := (by first | exact fa | exact faE)) (h := ?_)
      refine un (h := ?_)
      refine WL.y (hy := (by first | exact fa | exact faE)) (h := ?_)
      refine un (h := ?_)
      refine WL.y (hy := (by first | exact ld | exact ldE)) (h := ?_)
      refine un (h := ?_)
      refine WL.y (hy := subI) (h := ?_)
      refine un (h := ?_)
      refine WL.y (hy := eql) (h := ?_)
      refine WL.y (hy := (by first | exact pkT | exact pkF)) (h := ?_)
      exact mg (by repeat (first | exact trivial | refine ⟨rfl, ?_⟩ | refine ⟨by rw [hb0]; rfl, ?_⟩)) (by repeat (first | exact SubL.nil | (apply SubL.cons; (repeat (first | exact At.here | apply At.there))) | exact SubL.refl _ | apply SubL.skip))
    · intro hb0
      repeat (first | refine un (h := ?_) | refine sk (h := ?_) | refine WL.y (hy := pkF) (h := ?_) | refine WL.y (hy := pkT) (h := ?_))
      exact mg (by repeat (first | exact trivial | refine ⟨rfl, ?_⟩ | refine ⟨by rw [hb0]; rfl, ?_⟩)) (by repeat (first | exact SubL.nil | (apply SubL.cons; (repeat (first | exact At.here | apply At.there))) | exact SubL.refl _ | apply SubL.skip))
    refine nl (h := ?_)
    refine q_seq (h := ?_)
    refine cd (by exact rfl) (fun h1 => ?_) (fun h1 => ?_)
    · skip
      have hs : (setV f won).1 = f.ltie := by rw [setV, h1]; rfl
      refine rg (h := ?_)
      refine WL.y (hy := (by first | exact fa | exact faE)) (h := ?_)
      refine WL.y (hy := (by first | exact fa | exact faE)) (h := ?_)
      refine WL.y (hy := (by first | exact ld | exact ldE)) (h := ?_)
      refine WL.y (hy := asg) (h := ?_)
      refine nl (h := ?_)
      exact ctn () trivial (by repeat (first | exact trivial | refine ⟨rfl, ?_⟩ | refine ⟨by rw [hs]; rfl, ?_⟩)) (by repeat (first | exact SubL.nil | (apply SubL.cons; (repeat (first | exact At.here | apply At.there))) | exact SubL.refl _ | apply SubL.skip))
    · skip
      have hs : (setV f won).1 = f.tie := by rw [setV, h1]; rfl
      refine skp (h := ?_)
      exact ctn () trivial (by repeat (first | exact trivial | refine ⟨rfl, ?_⟩ | refine ⟨by rw [hs]; rfl, ?_⟩)) (by repeat (first | exact SubL.nil | (apply SubL.cons; (repeat (first | exact At.here | apply At.there))) | exact SubL.refl _ | apply SubL.skip))
  rintro ⟨⟩ -
  refine sq (h := ?_)
  refine sq (h := ?_)
  refine rg (h := ?_)
  refine WL.y (hy := (by first | exact fa | exact faE)) (h := ?_)
  refine WL.y (hy := (by first | exact ld | exact ldE)) (h := ?_)
  refine WL.y (hy := mv) (h := ?_)
  refine WL.y (hy := eql) (h := ?_)
  refine WL.y (hy := mv) (h := ?_)
  apply brAnd 5 34 39 (by exact rfl)
  · intro hb2
    refine un (h := ?_)
    refine WL.y (hy := (by first | exact fa | exact faE)) (h := ?_)
    refine un (h := ?_)
    refine WL.y (hy := (by first | exact ld | exact ldE)) (h := ?_)
    refine un (h := ?_)
    refine WL.y (hy := mv) (h := ?_)
    refine un (h := ?_)
    refine WL.y (hy := eql) (h := ?_)
    refine WL.y (hy := (by first | exact pkT | exact pkF)) (h := ?_)
    exact mg (by repeat (first | exact trivial | refine ⟨rfl, ?_⟩ | refine ⟨by rw [hb2]; rfl, ?_⟩)) (by repeat (first | exact SubL.nil | (apply SubL.cons; (repeat (first | exact At.here | apply At.there))) | exact SubL.refl _ | apply SubL.skip))
  · intro hb2
    repeat (first | refine un (h := ?_) | refine sk (h := ?_) | refine WL.y (hy := pkF) (h := ?_) | refine WL.y (hy := pkT) (h := ?_))
    exact mg (by repeat (first | exact trivial | refine ⟨rfl, ?_⟩ | refine ⟨by rw [hb2]; rfl, ?_⟩)) (by repeat (first | exact SubL.nil | (apply SubL.cons; (repeat (first | exact At.here | apply At.there))) | exact SubL.refl _ | apply SubL.skip))
  refine nl (h := ?_)
  refine q_seq (h := ?_)
  refine cd (by exact rfl) (fun h3 => ?_) (fun h3 => ?_)
  · skip
    have hE : tieN f won g = 1 := by rw [tieN, brksV, h3]; rfl
    refine sq (h := ?_)
    refine rg (h := ?_)
    refine WL.y (hy := asg) (h := ?_)
    refine nl (h := ?_)
    refine q_seq (h := ?_)
    refine rtn (h := ?_)
    refine q_then_ret (h := ?_)
    refine q_ret (hR := ?_)
    rw [hE]
    exact fun w hS => ⟨rfl, hS.sub (by repeat (first | exact SubL.nil | (apply SubL.cons; (repeat (first | exact At.here | apply At.there))) | exact SubL.refl _ | apply SubL.skip))⟩
  · skip
    have hE : tieN f won g = 0 := by rw [tieN, brksV, h3]; rfl
    refine skp (h := ?_)
    refine q_seq (h := ?_)
    refine sq (h := ?_)
    refine rg (h := ?_)
    refine WL.y (hy := asg) (h := ?_)
    refine nl (h := ?_)
    refine q_seq (h := ?_)
    refine rtn (h := ?_)
    refine q_ret (hR := ?_)
    rw [hE]
    exact fun w hS => ⟨rfl, hS.sub (by repeat (first | exact SubL.nil | (apply SubL.cons; (repeat (first | exact At.here | apply At.there))) | exact SubL.refl _ | apply SubL.skip))⟩
theorem same_is {f : Fmt} {won g : Pr} {t0 side : Int} (hs : side = 0 ∨ side = 1) (ht : t0 = tieN f won g) : (decide (t0 = 0) && (decide ((ownP side g).1 + 1 < f.games) || decide ((ownP side g).1 + 1 - (ownP side g).2 < 2))) = !endS f won g side := by
  have h0 : decide (t0 = 0) = !brksV (setV f won) g := by
    rw [ht, tieN]; cases brksV (setV f won) g <;> rfl
  rw [h0, endS, EO, ← own_pair, brks_own hs, Bool.eq_iff_iff]
  cases brksV (setV f won) g
  · simp only [Bool.not_false, Bool.true_and, Bool.false_or, Bool.or_eq_true, Bool.not_eq_true', Bool.and_eq_false_iff, decide_eq_true_eq, decide_eq_false_iff_not]; omega
  · simp
def afterS (f : Fmt) (s : Spo) (side : Int) : Spo := ⟨wonS f s.won s.games side, gamS f s.won s.games side, s.num + 1, tieN f (wonS f s.won s.games side) (gamS f s.won s.games side), s.t0⟩
set_option maxRecDepth 100000 in
theorem C_rest_after0 (f : Fmt) (bm : Nat) (s : Spo) (hf : f.Ok) (ht : s.t0 = tieN f s.won s.games) (hw : (0 ≤ s.won.1 ∧ s.won.1 ≤ 3) ∧ 0 ≤ s.won.2 ∧ s.won.2 ≤ 3) (hg : (0 ≤ s.games.1 ∧ s.games.1 ≤ 1000) ∧ 0 ≤ s.games.2 ∧ s.games.2 ≤ 1000) (hn : 0 ≤ s.num ∧ s.num ≤ 1000) (w : World) : C0 Try.prog 109 [restv f bm, s.val, .int .i64 0] w (.tuple #[(afterS f s 0).val, .bool (!endS f s.won s.games 0), .bool (overS f s.won s.games 0)]) := by
  have hsm := same_is (f := f) (won := s.won) (g := s.games) (side := 0) (.inl rfl) ht
  rw [own0] at hsm
  refine ⟨en Try.func109 Try.ntmps109 (St.init w) (h := fun F => ?_)⟩
  refine sq (h := ?_)
  refine rg (h := ?_)
  refine bxA (h := fun b0 => ?_)
  refine bxA (h := fun b1 => ?_)
  refine al (h := fun b2 => ?_)
  refine WL.y (hy := asg) (h := ?_)
  refine WL.y (hy := asg) (h := ?_)
  refine nl (h := ?_)
  refine q_seq (h := ?_)
  refine sq (h := ?_)
  refine rg (h := ?_)
  refine WL.y (hy := (by first | exact fa | exact faE)) (h := ?_)
  refine WL.y (hy := (by first | exact fa | exact faE)) (h := ?_)
  refine WL.y (hy := (by first | exact fa | exact faE)) (h := ?_)
  refine WL.y (hy := (by first | exact fa | exact faE)) (h := ?_)
  refine WL.y (hy := asg) (h := ?_)
  refine WL.y (hy := asg) (h := ?_)
  refine nl (h := ?_)
  refine q_seq (h := ?_)
  refine sq (h := ?_)
  refine rg (h := ?_)
  refine WL.y (hy := (by first | exact fa | exact faE)) (h := ?_)
  refine WL.y (hy := (by first | exact fa | exact faE)) (h := ?_)
  refine WL.y (hy := asg) (h := ?_)
  refine nl (h := ?_)
  refine q_seq (h := ?_)
  refine sq (h := ?_)
  refine rg (h := ?_)
  refine WL.y (hy := (by first | exact ldA | exact ldEA)) (h := ?_)
  first | refine stA (h := ?_) | refine stEA (h := ?_)
  refine nl (h := ?_)
  refine q_seq (h := ?_)
  refine sq (h := ?_)
  refine sq (h := ?_)
  refine rg (h := ?_)
  refine WL.y (hy := mv) (h := ?_)
  refine WL.y (hy := eql) (h := ?_)
  refine nl (h := ?_)
  refine q_seq (h := ?_)
  refine cd (by exact rfl) (fun h0 => ?_) (fun h0 => ?_)
  · skip
    exfalso
    exact absurd (of_decide_eq_true h0 : (0 : Int) = 1) (by decide)
  · skip
    have h1 := of_decide_eq_false h0
    refine skp (h := ?_)
    refine q_seq (h := ?_)
    refine sq (h := ?_)
    refine rg (h := ?_)
    refine WL.y (hy := mv) (h := ?_)
    refine WL.y (hy := nck) (h := ?_)
    refine WL.y (hy := (by first | exact ld | exact ldE)) (h := ?_)
    refine WL.y (hy := addI) (h := ?_)
    refine WL.y (hy := nck) (h := ?_)
    first | refine st (h := ?_) | refine stE (h := ?_)
    refine nl (h := ?_)
    refine q_seq (h := ?_)
    refine ct (X := Unit) (fun _ => True) (fun _ => [(2, .int .i64 0), (3, .pointer (some ⟨b0, 0, none⟩)), (4, .pointer (some ⟨b1, 0, none⟩)), (6, .pointer (some ⟨b2, 0, none⟩)), (7, .bool (!endS f s.won s.games 0)), (8, .bool false), (9, .pointer (some ⟨b2, 2, none⟩)), (10, .pointer (some ⟨b2, 3, none⟩)), (11, .pointer (some ⟨b2, 0, none⟩))]) (fun _ => [.blk b2 159 [.int .i64 s.won.1, .int .i64 s.won.2, .int .i64 (addV s.games 0).1, .int .i64 (addV s.games 0).2, .int .i64 s.num, .int .i64 s.t0, .int .i64 s.t1], .blk b0 156 (restc f bm), .blk b1 159 s.cells]) (h1 := ?_) (h2 := ?_)
    · skip
      refine rgD0 (by kernel_rfl) (h := ?_)
      refine tk 0 (hy := (by first | exact fa | exact faE)) (h := ?_)
      refine tk 1 (hy := ixA) (h := ?_)
      refine tk 2 (hy := (by first | exact ld | exact ldE)) (h := ?_)
      refine tk 3 (hy := eql) (h := ?_)
      refine tk 4 (hy := mv) (h := ?_)
      refine brH (g := 34) (by exact rfl) (fun hb1 => ?_) (fun hb1 => ?_)
      · skip
        have kA : decide (s.t0 = 0) = true := hb1
        refine tk 5 (hy := mv) (h := ?_)
        refine tk 6 (hy := nck) (h := ?_)
        refine tk 7 (hy := (by first | exact ld | exact ldE)) (h := ?_)
        refine tk 8 (hy := (by first | exact fa | exact faE)) (h := ?_)
        refine tk 9 (hy := (by first | exact fa | exact faE)) (h := ?_)
        refine tk 10 (hy := (by first | exact ld | exact ldE)) (h := ?_)
        refine tk 11 (hy := lss) (h := ?_)
        refine tk 12 (hy := mv) (h := ?_)
        refine brH (g := 42) (by exact rfl) (fun hb2 => ?_) (fun hb2 => ?_)
        · skip
          have kB : decide (s.games.1 + 1 < f.games) = true := hb2
          refine tkS 13 (h := ?_)
          refine tkS 14 (h := ?_)
          refine tkS 15 (h := ?_)
          refine tkS 16 (h := ?_)
          refine tkS 17 (h := ?_)
          refine tkS 18 (h := ?_)
          refine tkS 19 (h := ?_)
          refine tkS 20 (h := ?_)
          refine tk 21 (hy := (by first | exact pkT | exact pkF)) (h := ?_)
          refine tk 22 (hy := (by first | exact pkT | exact pkF)) (h := ?_)
          refine tk 23 (hy := asg) (h := ?_)
          refine dn (h := ?_)
          exact ctn () trivial (by repeat (first | exact trivial | refine ⟨rfl, ?_⟩ | refine ⟨by first | (rw [← hsm, kA, kB]; rfl) | (rw [← hsm, kA]; rfl), ?_⟩)) (by repeat (first | exact SubL.nil | (apply SubL.cons; (repeat (first | exact At.here | apply At.there))) | exact SubL.refl _ | apply SubL.skip))
        · skip
          have kB : decide (s.games.1 + 1 < f.games) = false := hb2
          refine tk 13 (hy := mv) (h := ?_)
          refine tk 14 (hy := nck) (h := ?_)
          refine tk 15 (hy := (by first | exact ld | exact ldE)) (h := ?_)
          refine tk 16 (hy := mv) (h := ?_)
          refine tk 17 (hy := nck) (h := ?_)
          refine tk 18 (hy := (by first | exact ld | exact ldE)) (h := ?_)
          refine tk 19 (hy := subI) (h := ?_)
          refine tk 20 (hy := lss) (h := ?_)
          refine tk 21 (hy := (by first | exact pkT | exact pkF)) (h := ?_)
          refine tk 22 (hy := (by first | exact pkT | exact pkF)) (h := ?_)
          refine tk 23 (hy := asg) (h := ?_)
          refine dn (h := ?_)
          exact ctn () trivial (by repeat (first | exact trivial | refine ⟨rfl, ?_⟩ | refine ⟨by first | (rw [← hsm, kA, kB]; rfl) | (rw [← hsm, kA]; rfl), ?_⟩)) (by repeat (first | exact SubL.nil | (apply SubL.cons; (repeat (first | exact At.here | apply At.there))) | exact SubL.refl _ | apply SubL.skip))
      · skip
        have kA : decide (s.t0 = 0) = false := hb1
        refine tkS 5 (h := ?_)
        refine tkS 6 (h := ?_)
        refine tkS 7 (h := ?_)
        refine tkS 8 (h := ?_)
        refine tkS 9 (h := ?_)
        refine tkS 10 (h := ?_)
        refine tkS 11 (h := ?_)
        refine tkS 12 (h := ?_)
        refine tkS 13 (h := ?_)
        refine tkS 14 (h := ?_)
        refine tkS 15 (h := ?_)
        refine tkS 16 (h := ?_)
        refine tkS 17 (h := ?_)
        refine tkS 18 (h := ?_)
        refine tkS 19 (h := ?_)
        refine tkS 20 (h := ?_)
        refine tkS 21 (h := ?_)
        refine tk 22 (hy := (by first | exact pkT | exact pkF)) (h := ?_)
        refine tk 23 (hy := asg) (h := ?_)
        refine dn (h := ?_)
        exact ctn () trivial (by repeat (first | exact trivial | refine ⟨rfl, ?_⟩ | refine ⟨by first | (rw [← hsm, kA, kB]; rfl) | (rw [← hsm, kA]; rfl), ?_⟩)) (by repeat (first | exact SubL.nil | (apply SubL.cons; (repeat (first | exact At.here | apply At.there))) | exact SubL.refl _ | apply SubL.skip))
    rintro ⟨⟩ -
    refine sq (h := ?_)
    refine sq (h := ?_)
    refine rg (h := ?_)
    refine WL.y (hy := mv) (h := ?_)
    refine WL.y (hy := notB) (h := ?_)
    refine nl (h := ?_)
    refine q_seq (h := ?_)
    refine cd (by exact rfl) (fun h3 => ?_) (fun h3 => ?_)
    · skip
      have hE : endS f s.won s.games 0 = true := by rw [Bool.not_not] at h3; exact h3
      have hw1 : wonS f s.won s.games 0 = addV s.won 0 := by rw [wonS, hE]; rfl
      have hg1 : gamS f s.won s.games 0 = (0, 0) := by rw [gamS, hE]; rfl
      have ho1 : overS f s.won s.games 0 = (true && decide ((ownP 0 (addV s.won 0)).1 = f.sets)) := by rw [overS, hE]
      refine sq (h := ?_)
      refine rg (h := ?_)
      refine WL.y (hy := bd) (h := ?_)
      refine WL.y (hy := (by first | exact fa | exact faE)) (h := ?_)
      first | refine stA (h := ?_) | refine stEA (h := ?_)
      refine nl (h := ?_)
      refine q_seq (h := ?_)
      refine sq (h := ?_)
      refine rg (h := ?_)
      refine WL.y (hy := mv) (h := ?_)
      refine WL.y (hy := nck) (h := ?_)
      refine WL.y (hy := (by first | exact ld | exact ldE)) (h := ?_)
      refine WL.y (hy := addI) (h := ?_)
      refine WL.y (hy := nck) (h := ?_)
      first | refine st (h := ?_) | refine stE (h := ?_)
      refine nl (h := ?_)
      refine q_seq (h := ?_)
      refine rgD0 (by kernel_rfl) (h := ?_)
      refine tk 0 (hy := mv) (h := ?_)
      refine tk 1 (hy := nck) (h := ?_)
      refine tk 2 (hy := (by first | exact ld | exact ldE)) (h := ?_)
      refine tk 3 (hy := (by first | exact fa | exact faE)) (h := ?_)
      refine tk 4 (hy := (by first | exact fa | exact faE)) (h := ?_)
      refine tk 5 (hy := (by first | exact ld | exact ldE)) (h := ?_)
      refine tk 6 (hy := eql) (h := ?_)
      refine tk 7 (hy := asg) (h := ?_)
      refine dn (h := ?_)
      refine q_seq (h := ?_)
      refine sq (h := ?_)
      refine rg (h := ?_)
      refine WL.y (hy := (by first | exact fa | exact faE)) (h := ?_)
      refine WL.y (hy := (by first | exact ld | exact ldE)) (h := ?_)
      refine WL.y (hy := addI) (h := ?_)
      refine WL.y (hy := (by first | exact fa | exact faE)) (h := ?_)
      first | refine st (h := ?_) | refine stE (h := ?_)
      refine nl (h := ?_)
      refine q_seq (h := ?_)
      refine sq (h := ?_)
      refine rgD (by kernel_rfl) [(11, .blk b2 159 _), (1000000, .blk b0 156 (restc f bm)), (1000000, .blk b1 159 s.cells)] (by repeat (first | exact HS.nil | (apply HS.keep; (repeat (first | exact At.here | apply At.there))) | (apply HS.ro; (repeat (first | exact Rds.ro | exact Rds.own | apply Rds.there))))) (h := ?_)
      refine tk 0 (hy := (by first | exact ldA | exact ldEA)) (h := ?_)
      refine tk 1 (hy := (by first | exact fa | exact faE)) (h := ?_)
      refine tk 2 (hy := (by first | exact ldA | exact ldEA)) (h := ?_)
      refine tk 3 (hy := (by first | exact fa | exact faE)) (h := ?_)
      refine tk 4 (hy := (by first | exact ldA | exact ldEA)) (h := ?_)
      refine tk 6 (hy := (by first | exact fa | exact faE)) (h := ?_)
      refine tk 7 (hy := ixA) (h := ?_)
      refine tk 8 (hy := (by first | exact ld | exact ldE)) (h := ?_)
      refine one 5 (h := ?_)
      refine cl0 (hc := fun w hS => C_rest_tie f bm (wonS f s.won s.games 0) (gamS f s.won s.games 0) hf w) (hargs := by rw [hw1, hg1]; repeat (first | exact Evs.nil | (apply Evs.cons; exact rfl))) (h := ?_)
      refine nx (h := ?_)
      refine tk 9 (hy := bdA) (h := ?_)
      refine tk 10 (hy := (by first | exact fa | exact faE)) (h := ?_)
      refine one 11 (h := ?_)
      first | refine stA (h := ?_) | refine stEA (h := ?_)
      refine nx (h := ?_)
      refine dn (h := ?_)
      refine q_seq (h := ?_)
      refine sq (h := ?_)
      refine rg (h := ?_)
      refine WL.y (hy := (by first | exact ldA | exact ldEA)) (h := ?_)
      refine WL.y (hy := mv) (h := ?_)
      refine WL.y (hy := mv) (h := ?_)
      first | refine stA (h := ?_) | refine stEA (h := ?_)
      refine WL.y (hy := asg) (h := ?_)
      refine WL.y (hy := asg) (h := ?_)
      refine nl (h := ?_)
      refine q_seq (h := ?_)
      refine rtn (h := ?_)
      refine q_ret (hR := ?_)
      refine fun w hS => ⟨?_, hS.sub (by repeat (first | exact SubL.nil | (apply SubL.cons; (repeat (first | exact At.here | apply At.there))) | exact SubL.refl _ | apply SubL.skip))⟩
      unfold afterS
      rw [hw1, hg1, ho1, hE]
      rfl
    · skip
      have hE : endS f s.won s.games 0 = false := by rw [Bool.not_not] at h3; exact h3
      have hw1 : wonS f s.won s.games 0 = s.won := by rw [wonS, hE]; rfl
      have hg1 : gamS f s.won s.games 0 = addV s.games 0 := by rw [gamS, hE]; rfl
      have ho1 : overS f s.won s.games 0 = false := by rw [overS, hE]; rfl
      refine skp (h := ?_)
      refine q_seq (h := ?_)
      refine sq (h := ?_)
      refine rg (h := ?_)
      refine WL.y (hy := (by first | exact fa | exact faE)) (h := ?_)
      refine WL.y (hy := (by first | exact ld | exact ldE)) (h := ?_)
      refine WL.y (hy := addI) (h := ?_)
      refine WL.y (hy := (by first | exact fa | exact faE)) (h := ?_)
      first | refine st (h := ?_) | refine stE (h := ?_)
      refine nl (h := ?_)
      refine q_seq (h := ?_)
      refine sq (h := ?_)
      refine rgD (by kernel_rfl) [(11, .blk b2 159 _), (1000000, .blk b0 156 (restc f bm)), (1000000, .blk b1 159 s.cells)] (by repeat (first | exact HS.nil | (apply HS.keep; (repeat (first | exact At.here | apply At.there))) | (apply HS.ro; (repeat (first | exact Rds.ro | exact Rds.own | apply Rds.there))))) (h := ?_)
      refine tk 0 (hy := (by first | exact ldA | exact ldEA)) (h := ?_)
      refine tk 1 (hy := (by first | exact fa | exact faE)) (h := ?_)
      refine tk 2 (hy := (by first | exact ldA | exact ldEA)) (h := ?_)
      refine tk 3 (hy := (by first | exact fa | exact faE)) (h := ?_)
      refine tk 4 (hy := (by first | exact ldA | exact ldEA)) (h := ?_)
      refine tk 6 (hy := (by first | exact fa | exact faE)) (h := ?_)
      refine tk 7 (hy := ixA) (h := ?_)
      refine tk 8 (hy := (by first | exact ld | exact ldE)) (h := ?_)
      refine one 5 (h := ?_)
      refine cl0 (hc := fun w hS => C_rest_tie f bm (wonS f s.won s.games 0) (gamS f s.won s.games 0) hf w) (hargs := by rw [hw1, hg1]; repeat (first | exact Evs.nil | (apply Evs.cons; exact rfl))) (h := ?_)
      refine nx (h := ?_)
      refine tk 9 (hy := bdA) (h := ?_)
      refine tk 10 (hy := (by first | exact fa | exact faE)) (h := ?_)
      refine one 11 (h := ?_)
      first | refine stA (h := ?_) | refine stEA (h := ?_)
      refine nx (h := ?_)
      refine dn (h := ?_)
      refine q_seq (h := ?_)
      refine sq (h := ?_)
      refine rg (h := ?_)
      refine WL.y (hy := (by first | exact ldA | exact ldEA)) (h := ?_)
      refine WL.y (hy := mv) (h := ?_)
      refine WL.y (hy := mv) (h := ?_)
      first | refine stA (h := ?_) | refine stEA (h := ?_)
      refine WL.y (hy := asg) (h := ?_)
      refine WL.y (hy := asg) (h := ?_)
      refine nl (h := ?_)
      refine q_seq (h := ?_)
      refine rtn (h := ?_)
      refine q_ret (hR := ?_)
      refine fun w hS => ⟨?_, hS.sub (by repeat (first | exact SubL.nil | (apply SubL.cons; (repeat (first | exact At.here | apply At.there))) | exact SubL.refl _ | apply SubL.skip))⟩
      unfold afterS
      rw [hw1, hg1, ho1, hE]
      rfl
set_option maxRecDepth 100000 in
theorem C_rest_after1 (f : Fmt) (bm : Nat) (s : Spo) (hf : f.Ok) (ht : s.t0 = tieN f s.won s.games) (hw : (0 ≤ s.won.1 ∧ s.won.1 ≤ 3) ∧ 0 ≤ s.won.2 ∧ s.won.2 ≤ 3) (hg : (0 ≤ s.games.1 ∧ s.games.1 ≤ 1000) ∧ 0 ≤ s.games.2 ∧ s.games.2 ≤ 1000) (hn : 0 ≤ s.num ∧ s.num ≤ 1000) (w : World) : C0 Try.prog 109 [restv f bm, s.val, .int .i64 1] w (.tuple #[(afterS f s 1).val, .bool (!endS f s.won s.games 1), .bool (overS f s.won s.games 1)]) := by
  have hsm := same_is (f := f) (won := s.won) (g := s.games) (side := 1) (.inr rfl) ht
  rw [own1] at hsm
  refine ⟨en Try.func109 Try.ntmps109 (St.init w) (h := fun F => ?_)⟩
  refine sq (h := ?_)
  refine rg (h := ?_)
  refine bxA (h := fun b0 => ?_)
  refine bxA (h := fun b1 => ?_)
  refine al (h := fun b2 => ?_)
  refine WL.y (hy := asg) (h := ?_)
  refine WL.y (hy := asg) (h := ?_)
  refine nl (h := ?_)
  refine q_seq (h := ?_)
  refine sq (h := ?_)
  refine rg (h := ?_)
  refine WL.y (hy := (by first | exact fa | exact faE)) (h := ?_)
  refine WL.y (hy := (by first | exact fa | exact faE)) (h := ?_)
  refine WL.y (hy := (by first | exact fa | exact faE)) (h := ?_)
  refine WL.y (hy := (by first | exact fa | exact faE)) (h := ?_)
  refine WL.y (hy := asg) (h := ?_)
  refine WL.y (hy := asg) (h := ?_)
  refine nl (h := ?_)
  refine q_seq (h := ?_)
  refine sq (h := ?_)
  refine rg (h := ?_)
  refine WL.y (hy := (by first | exact fa | exact faE)) (h := ?_)
  refine WL.y (hy := (by first | exact fa | exact faE)) (h := ?_)
  refine WL.y (hy := asg) (h := ?_)
  refine nl (h := ?_)
  refine q_seq (h := ?_)
  refine sq (h := ?_)
  refine rg (h := ?_)
  refine WL.y (hy := (by first | exact ldA | exact ldEA)) (h := ?_)
  first | refine stA (h := ?_) | refine stEA (h := ?_)
  refine nl (h := ?_)
  refine q_seq (h := ?_)
  refine sq (h := ?_)
  refine sq (h := ?_)
  refine rg (h := ?_)
  refine WL.y (hy := mv) (h := ?_)
  refine WL.y (hy := eql) (h := ?_)
  refine nl (h := ?_)
  refine q_seq (h := ?_)
  refine cd (by exact rfl) (fun h0 => ?_) (fun h0 => ?_)
  · skip
    obtain h1 : (1 : Int) = 1 := of_decide_eq_true h0
    refine rg (h := ?_)
    refine WL.y (hy := mv) (h := ?_)
    refine WL.y (hy := mv) (h := ?_)
    refine WL.y (hy := (by first | exact fa | exact faE)) (h := ?_)
    refine WL.y (hy := (by first | exact fa | exact faE)) (h := ?_)
    refine WL.y (hy := asg) (h := ?_)
    refine WL.y (hy := asg) (h := ?_)
    refine WL.y (hy := asg) (h := ?_)
    refine nl (h := ?_)
    refine q_seq (h := ?_)
    refine sq (h := ?_)
    refine rg (h := ?_)
    refine WL.y (hy := mv) (h := ?_)
    refine WL.y (hy := nck) (h := ?_)
    refine WL.y (hy := (by first | exact ld | exact ldE)) (h := ?_)
    refine WL.y (hy := addI) (h := ?_)
    refine WL.y (hy := nck) (h := ?_)
    first | refine st (h := ?_) | refine stE (h := ?_)
    refine nl (h := ?_)
    refine q_seq (h := ?_)
    refine ct (X := Unit) (fun _ => True) (fun _ => [(2, .int .i64 1), (3, .pointer (some ⟨b0, 0, none⟩)), (4, .pointer (some ⟨b1, 0, none⟩)), (6, .pointer (some ⟨b2, 0, none⟩)), (7, .bool (!endS f s.won s.games 1)), (8, .bool false), (9, .pointer (some ⟨b2, 3, none⟩)), (10, .pointer (some ⟨b2, 2, none⟩)), (11, .pointer (some ⟨b2, 1, none⟩))]) (fun _ => [.blk b2 159 [.int .i64 s.won.1, .int .i64 s.won.2, .int .i64 (addV s.games 1).1, .int .i64 (addV s.games 1).2, .int .i64 s.num, .int .i64 s.t0, .int .i64 s.t1], .blk b0 156 (restc f bm), .blk b1 159 s.cells]) (h1 := ?_) (h2 := ?_)
    · skip
      refine rgD0 (by kernel_rfl) (h := ?_)
      refine tk 0 (hy := (by first | exact fa | exact faE)) (h := ?_)
      refine tk 1 (hy := ixA) (h := ?_)
      refine tk 2 (hy := (by first | exact ld | exact ldE)) (h := ?_)
      refine tk 3 (hy := eql) (h := ?_)
      refine tk 4 (hy := mv) (h := ?_)
      refine brH (g := 34) (by exact rfl) (fun hb1 => ?_) (fun hb1 => ?_)
      · skip
        have kA : decide (s.t0 = 0) = true := hb1
        refine tk 5 (hy := mv) (h := ?_)
        refine tk 6 (hy := nck) (h := ?_)
        refine tk 7 (hy := (by first | exact ld | exact ldE)) (h := ?_)
        refine tk 8 (hy := (by first | exact fa | exact faE)) (h := ?_)
        refine tk 9 (hy := (by first | exact fa | exact faE)) (h := ?_)
        refine tk 10 (hy := (by first | exact ld | exact ldE)) (h := ?_)
        refine tk 11 (hy := lss) (h := ?_)
        refine tk 12 (hy := mv) (h := ?_)
        refine brH (g := 42) (by exact rfl) (fun hb2 => ?_) (fun hb2 => ?_)
        · skip
          have kB : decide (s.games.2 + 1 < f.games) = true := hb2
          refine tkS 13 (h := ?_)
          refine tkS 14 (h := ?_)
          refine tkS 15 (h := ?_)
          refine tkS 16 (h := ?_)
          refine tkS 17 (h := ?_)
          refine tkS 18 (h := ?_)
          refine tkS 19 (h := ?_)
          refine tkS 20 (h := ?_)
          refine tk 21 (hy := (by first | exact pkT | exact pkF)) (h := ?_)
          refine tk 22 (hy := (by first | exact pkT | exact pkF)) (h := ?_)
          refine tk 23 (hy := asg) (h := ?_)
          refine dn (h := ?_)
          exact ctn () trivial (by repeat (first | exact trivial | refine ⟨rfl, ?_⟩ | refine ⟨by first | (rw [← hsm, kA, kB]; rfl) | (rw [← hsm, kA]; rfl), ?_⟩)) (by repeat (first | exact SubL.nil | (apply SubL.cons; (repeat (first | exact At.here | apply At.there))) | exact SubL.refl _ | apply SubL.skip))
        · skip
          have kB : decide (s.games.2 + 1 < f.games) = false := hb2
          refine tk 13 (hy := mv) (h := ?_)
          refine tk 14 (hy := nck) (h := ?_)
          refine tk 15 (hy := (by first | exact ld | exact ldE)) (h := ?_)
          refine tk 16 (hy := mv) (h := ?_)
          refine tk 17 (hy := nck) (h := ?_)
          refine tk 18 (hy := (by first | exact ld | exact ldE)) (h := ?_)
          refine tk 19 (hy := subI) (h := ?_)
          refine tk 20 (hy := lss) (h := ?_)
          refine tk 21 (hy := (by first | exact pkT | exact pkF)) (h := ?_)
          refine tk 22 (hy := (by first | exact pkT | exact pkF)) (h := ?_)
          refine tk 23 (hy := asg) (h := ?_)
          refine dn (h := ?_)
          exact ctn () trivial (by repeat (first | exact trivial | refine ⟨rfl, ?_⟩ | refine ⟨by first | (rw [← hsm, kA, kB]; rfl) | (rw [← hsm, kA]; rfl), ?_⟩)) (by repeat (first | exact SubL.nil | (apply SubL.cons; (repeat (first | exact At.here | apply At.there))) | exact SubL.refl _ | apply SubL.skip))
      · skip
        have kA : decide (s.t0 = 0) = false := hb1
        refine tkS 5 (h := ?_)
        refine tkS 6 (h := ?_)
        refine tkS 7 (h := ?_)
        refine tkS 8 (h := ?_)
        refine tkS 9 (h := ?_)
        refine tkS 10 (h := ?_)
        refine tkS 11 (h := ?_)
        refine tkS 12 (h := ?_)
        refine tkS 13 (h := ?_)
        refine tkS 14 (h := ?_)
        refine tkS 15 (h := ?_)
        refine tkS 16 (h := ?_)
        refine tkS 17 (h := ?_)
        refine tkS 18 (h := ?_)
        refine tkS 19 (h := ?_)
        refine tkS 20 (h := ?_)
        refine tkS 21 (h := ?_)
        refine tk 22 (hy := (by first | exact pkT | exact pkF)) (h := ?_)
        refine tk 23 (hy := asg) (h := ?_)
        refine dn (h := ?_)
        exact ctn () trivial (by repeat (first | exact trivial | refine ⟨rfl, ?_⟩ | refine ⟨by first | (rw [← hsm, kA, kB]; rfl) | (rw [← hsm, kA]; rfl), ?_⟩)) (by repeat (first | exact SubL.nil | (apply SubL.cons; (repeat (first | exact At.here | apply At.there))) | exact SubL.refl _ | apply SubL.skip))
    rintro ⟨⟩ -
    refine sq (h := ?_)
    refine sq (h := ?_)
    refine rg (h := ?_)
    refine WL.y (hy := mv) (h := ?_)
    refine WL.y (hy := notB) (h := ?_)
    refine nl (h := ?_)
    refine q_seq (h := ?_)
    refine cd (by exact rfl) (fun h3 => ?_) (fun h3 => ?_)
    · skip
      have hE : endS f s.won s.games 1 = true := by rw [Bool.not_not] at h3; exact h3
      have hw1 : wonS f s.won s.games 1 = addV s.won 1 := by rw [wonS, hE]; rfl
      have hg1 : gamS f s.won s.games 1 = (0, 0) := by rw [gamS, hE]; rfl
      have ho1 : overS f s.won s.games 1 = (true && decide ((ownP 1 (addV s.won 1)).1 = f.sets)) := by rw [overS, hE]
      refine sq (h := ?_)
      refine rg (h := ?_)
      refine WL.y (hy := bd) (h := ?_)
      refine WL.y (hy := (by first | exact fa | exact faE)) (h := ?_)
      first | refine stA (h := ?_) | refine stEA (h := ?_)
      refine nl (h := ?_)
      refine q_seq (h := ?_)
      refine sq (h := ?_)
      refine rg (h := ?_)
      refine WL.y (hy := mv) (h := ?_)
      refine WL.y (hy := nck) (h := ?_)
      refine WL.y (hy := (by first | exact ld | exact ldE)) (h := ?_)
      refine WL.y (hy := addI) (h := ?_)
      refine WL.y (hy := nck) (h := ?_)
      first | refine st (h := ?_) | refine stE (h := ?_)
      refine nl (h := ?_)
      refine q_seq (h := ?_)
      refine rgD0 (by kernel_rfl) (h := ?_)
      refine tk 0 (hy := mv) (h := ?_)
      refine tk 1 (hy := nck) (h := ?_)
      refine tk 2 (hy := (by first | exact ld | exact ldE)) (h := ?_)
      refine tk 3 (hy := (by first | exact fa | exact faE)) (h := ?_)
      refine tk 4 (hy := (by first | exact fa | exact faE)) (h := ?_)
      refine tk 5 (hy := (by first | exact ld | exact ldE)) (h := ?_)
      refine tk 6 (hy := eql) (h := ?_)
      refine tk 7 (hy := asg) (h := ?_)
      refine dn (h := ?_)
      refine q_seq (h := ?_)
      refine sq (h := ?_)
      refine rg (h := ?_)
      refine WL.y (hy := (by first | exact fa | exact faE)) (h := ?_)
      refine WL.y (hy := (by first | exact ld | exact ldE)) (h := ?_)
      refine WL.y (hy := addI) (h := ?_)
      refine WL.y (hy := (by first | exact fa | exact faE)) (h := ?_)
      first | refine st (h := ?_) | refine stE (h := ?_)
      refine nl (h := ?_)
      refine q_seq (h := ?_)
      refine sq (h := ?_)
      refine rgD (by kernel_rfl) [(11, .blk b2 159 _), (1000000, .blk b0 156 (restc f bm)), (1000000, .blk b1 159 s.cells)] (by repeat (first | exact HS.nil | (apply HS.keep; (repeat (first | exact At.here | apply At.there))) | (apply HS.ro; (repeat (first | exact Rds.ro | exact Rds.own | apply Rds.there))))) (h := ?_)
      refine tk 0 (hy := (by first | exact ldA | exact ldEA)) (h := ?_)
      refine tk 1 (hy := (by first | exact fa | exact faE)) (h := ?_)
      refine tk 2 (hy := (by first | exact ldA | exact ldEA)) (h := ?_)
      refine tk 3 (hy := (by first | exact fa | exact faE)) (h := ?_)
      refine tk 4 (hy := (by first | exact ldA | exact ldEA)) (h := ?_)
      refine tk 6 (hy := (by first | exact fa | exact faE)) (h := ?_)
      refine tk 7 (hy := ixA) (h := ?_)
      refine tk 8 (hy := (by first | exact ld | exact ldE)) (h := ?_)
      refine one 5 (h := ?_)
      refine cl0 (hc := fun w hS => C_rest_tie f bm (wonS f s.won s.games 1) (gamS f s.won s.games 1) hf w) (hargs := by rw [hw1, hg1]; repeat (first | exact Evs.nil | (apply Evs.cons; exact rfl))) (h := ?_)
      refine nx (h := ?_)
      refine tk 9 (hy := bdA) (h := ?_)
      refine tk 10 (hy := (by first | exact fa | exact faE)) (h := ?_)
      refine one 11 (h := ?_)
      first | refine stA (h := ?_) | refine stEA (h := ?_)
      refine nx (h := ?_)
      refine dn (h := ?_)
      refine q_seq (h := ?_)
      refine sq (h := ?_)
      refine rg (h := ?_)
      refine WL.y (hy := (by first | exact ldA | exact ldEA)) (h := ?_)
      refine WL.y (hy := mv) (h := ?_)
      refine WL.y (hy := mv) (h := ?_)
      first | refine stA (h := ?_) | refine stEA (h := ?_)
      refine WL.y (hy := asg) (h := ?_)
      refine WL.y (hy := asg) (h := ?_)
      refine nl (h := ?_)
      refine q_seq (h := ?_)
      refine rtn (h := ?_)
      refine q_ret (hR := ?_)
      refine fun w hS => ⟨?_, hS.sub (by repeat (first | exact SubL.nil | (apply SubL.cons; (repeat (first | exact At.here | apply At.there))) | exact SubL.refl _ | apply SubL.skip))⟩
      unfold afterS
      rw [hw1, hg1, ho1, hE]
      rfl
    · skip
      have hE : endS f s.won s.games 1 = false := by rw [Bool.not_not] at h3; exact h3
      have hw1 : wonS f s.won s.games 1 = s.won := by rw [wonS, hE]; rfl
      have hg1 : gamS f s.won s.games 1 = addV s.games 1 := by rw [gamS, hE]; rfl
      have ho1 : overS f s.won s.games 1 = false := by rw [overS, hE]; rfl
      refine skp (h := ?_)
      refine q_seq (h := ?_)
      refine sq (h := ?_)
      refine rg (h := ?_)
      refine WL.y (hy := (by first | exact fa | exact faE)) (h := ?_)
      refine WL.y (hy := (by first | exact ld | exact ldE)) (h := ?_)
      refine WL.y (hy := addI) (h := ?_)
      refine WL.y (hy := (by first | exact fa | exact faE)) (h := ?_)
      first | refine st (h := ?_) | refine stE (h := ?_)
      refine nl (h := ?_)
      refine q_seq (h := ?_)
      refine sq (h := ?_)
      refine rgD (by kernel_rfl) [(11, .blk b2 159 _), (1000000, .blk b0 156 (restc f bm)), (1000000, .blk b1 159 s.cells)] (by repeat (first | exact HS.nil | (apply HS.keep; (repeat (first | exact At.here | apply At.there))) | (apply HS.ro; (repeat (first | exact Rds.ro | exact Rds.own | apply Rds.there))))) (h := ?_)
      refine tk 0 (hy := (by first | exact ldA | exact ldEA)) (h := ?_)
      refine tk 1 (hy := (by first | exact fa | exact faE)) (h := ?_)
      refine tk 2 (hy := (by first | exact ldA | exact ldEA)) (h := ?_)
      refine tk 3 (hy := (by first | exact fa | exact faE)) (h := ?_)
      refine tk 4 (hy := (by first | exact ldA | exact ldEA)) (h := ?_)
      refine tk 6 (hy := (by first | exact fa | exact faE)) (h := ?_)
      refine tk 7 (hy := ixA) (h := ?_)
      refine tk 8 (hy := (by first | exact ld | exact ldE)) (h := ?_)
      refine one 5 (h := ?_)
      refine cl0 (hc := fun w hS => C_rest_tie f bm (wonS f s.won s.games 1) (gamS f s.won s.games 1) hf w) (hargs := by rw [hw1, hg1]; repeat (first | exact Evs.nil | (apply Evs.cons; exact rfl))) (h := ?_)
      refine nx (h := ?_)
      refine tk 9 (hy := bdA) (h := ?_)
      refine tk 10 (hy := (by first | exact fa | exact faE)) (h := ?_)
      refine one 11 (h := ?_)
      first | refine stA (h := ?_) | refine stEA (h := ?_)
      refine nx (h := ?_)
      refine dn (h := ?_)
      refine q_seq (h := ?_)
      refine sq (h := ?_)
      refine rg (h := ?_)
      refine WL.y (hy := (by first | exact ldA | exact ldEA)) (h := ?_)
      refine WL.y (hy := mv) (h := ?_)
      refine WL.y (hy := mv) (h := ?_)
      first | refine stA (h := ?_) | refine stEA (h := ?_)
      refine WL.y (hy := asg) (h := ?_)
      refine WL.y (hy := asg) (h := ?_)
      refine nl (h := ?_)
      refine q_seq (h := ?_)
      refine rtn (h := ?_)
      refine q_ret (hR := ?_)
      refine fun w hS => ⟨?_, hS.sub (by repeat (first | exact SubL.nil | (apply SubL.cons; (repeat (first | exact At.here | apply At.there))) | exact SubL.refl _ | apply SubL.skip))⟩
      unfold afterS
      rw [hw1, hg1, ho1, hE]
      rfl
  · skip
    exfalso
    exact absurd rfl (of_decide_eq_false h0 : ¬ (1 : Int) = 1)
theorem C_balls_begun (b : Brd) (A : Option Addr) (n c : Nat) (w : World) : C0 Try.prog 98 [b.val A n c] w (.tuple #[.bool ((!isZ b.g || !isZ b.p) || decide (0 < (n : Int))), .bool (!isZ b.g || !isZ b.p)]) := by
  refine ⟨en Try.func98 Try.ntmps98 (St.init w) (h := fun F => ?_)⟩
  refine sq (h := ?_)
  refine rg (h := ?_)
  refine bxA (h := fun b0 => ?_)
  refine WL.y (hy := asg) (h := ?_)
  refine WL.y (hy := asg) (h := ?_)
  refine WL.cut (by repeat (first | exact Cut.nil | apply Cut.hit | apply Cut.miss (by exact rfl))) ?_
  refine nl (h := ?_)
  refine q_seq (h := ?_)
  refine sq (h := ?_)
  refine rg (h := ?_)
  refine WL.y (hy := (by first | exact fa | exact faE)) (h := ?_)
  refine WL.y (hy := (by first | exact ldA | exact ldEA)) (h := ?_)
  refine WL.y (hy := bd) (h := ?_)
  refine WL.y (hy := neqT) (h := ?_)
  refine WL.y (hy := mv) (h := ?_)
  apply brOr 5 8 13 (by exact rfl)
  · intro hb0
    refine un (h := ?_)
    refine WL.y (hy := (by first | exact fa | exact faE)) (h := ?_)
    refine un (h := ?_)
    refine WL.y (hy := (by first | exact ldA | exact ldEA)) (h := ?_)
    refine un (h := ?_)
    refine WL.y (hy := bd) (h := ?_)
    refine un (h := ?_)
    refine WL.y (hy := neqT) (h := ?_)
    refine WL.y (hy := (by first | exact pkT | exact pkF)) (h := ?_)
    exact mg (by repeat (first | exact trivial | refine ⟨rfl, ?_⟩ | refine ⟨by rw [hb0]; rfl, ?_⟩)) (by repeat (first | exact SubL.nil | (apply SubL.cons; (repeat (first | exact At.here | apply At.there))) | exact SubL.refl _ | apply SubL.skip))
  · intro hb0
    repeat (first | refine un (h := ?_) | refine sk (h := ?_) | refine WL.y (hy := pkF) (h := ?_) | refine WL.y (hy := pkT) (h := ?_))
    exact mg (by repeat (first | exact trivial | refine ⟨rfl, ?_⟩ | refine ⟨by rw [hb0]; rfl, ?_⟩)) (by repeat (first | exact SubL.nil | (apply SubL.cons; (repeat (first | exact At.here | apply At.there))) | exact SubL.refl _ | apply SubL.skip))
  refine WL.y (hy := asg) (h := ?_)
  refine WL.cut (by repeat (first | exact Cut.nil | apply Cut.hit | apply Cut.miss (by exact rfl))) ?_
  refine nl (h := ?_)
  refine q_seq (h := ?_)
  refine sq (h := ?_)
  refine rg (h := ?_)
  refine WL.y (hy := mv) (h := ?_)
  refine WL.y (hy := mv) (h := ?_)
  apply brOr 5 15 20 (by exact rfl)
  · intro hb1
    refine un (h := ?_)
    refine WL.y (hy := (by first | exact fa | exact faE)) (h := ?_)
    refine un (h := ?_)
    refine WL.y (hy := (by first | exact ld | exact ldE)) (h := ?_)
    refine un (h := ?_)
    refine WL.y (hy := lenS) (h := ?_)
    refine un (h := ?_)
    refine WL.y (hy := gtr) (h := ?_)
    refine WL.y (hy := (by first | exact pkT | exact pkF)) (h := ?_)
    exact mg (by repeat (first | exact trivial | refine ⟨rfl, ?_⟩ | refine ⟨by rw [hb1]; rfl, ?_⟩)) (by repeat (first | exact SubL.nil | (apply SubL.cons; (repeat (first | exact At.here | apply At.there))) | exact SubL.refl _ | apply SubL.skip))
  · intro hb1
    repeat (first | refine un (h := ?_) | refine sk (h := ?_) | refine WL.y (hy := pkF) (h := ?_) | refine WL.y (hy := pkT) (h := ?_))
    exact mg (by repeat (first | exact trivial | refine ⟨rfl, ?_⟩ | refine ⟨by rw [hb1]; rfl, ?_⟩)) (by repeat (first | exact SubL.nil | (apply SubL.cons; (repeat (first | exact At.here | apply At.there))) | exact SubL.refl _ | apply SubL.skip))
  refine WL.y (hy := mv) (h := ?_)
  refine WL.y (hy := asg) (h := ?_)
  refine WL.y (hy := asg) (h := ?_)
  refine WL.cut (by repeat (first | exact Cut.nil | apply Cut.hit | apply Cut.miss (by exact rfl))) ?_
  refine nl (h := ?_)
  refine q_seq (h := ?_)
  refine rtn (h := ?_)
  refine q_ret (hR := ?_)
  exact fun w hS => ⟨rfl, hS.sub (by repeat (first | exact SubL.nil | (apply SubL.cons; (repeat (first | exact At.here | apply At.there))) | exact SubL.refl _ | apply SubL.skip))⟩
theorem C_ref9_Begun (b : Brd) (A : Option Addr) (n c : Nat) (w : World) : C0 Try.prog 115 [b.val A n c] w (.bool (decide (0 < (n : Int)) || !isZ b.g || !isZ b.p)) := by
  refine ⟨en Try.func115 Try.ntmps115 (St.init w) (h := fun F => ?_)⟩
  refine sq (h := ?_)
  refine rg (h := ?_)
  refine bxA (h := fun b0 => ?_)
  refine WL.y (hy := asg) (h := ?_)
  refine nl (h := ?_)
  refine q_seq (h := ?_)
  refine sq (h := ?_)
  refine rg (h := ?_)
  refine WL.y (hy := (by first | exact fa | exact faE)) (h := ?_)
  refine WL.y (hy := (by first | exact ld | exact ldE)) (h := ?_)
  refine WL.y (hy := lenS) (h := ?_)
  refine WL.y (hy := gtr) (h := ?_)
  refine WL.y (hy := mv) (h := ?_)
  apply brOr 5 7 12 (by exact rfl)
  · intro hb0
    refine un (h := ?_)
    refine WL.y (hy := (by first | exact fa | exact faE)) (h := ?_)
    refine un (h := ?_)
    refine WL.y (hy := (by first | exact ldA | exact ldEA)) (h := ?_)
    refine un (h := ?_)
    refine WL.y (hy := bd) (h := ?_)
    refine un (h := ?_)
    refine WL.y (hy := neqT) (h := ?_)
    refine WL.y (hy := (by first | exact pkT | exact pkF)) (h := ?_)
    exact mg (by repeat (first | exact trivial | refine ⟨rfl, ?_⟩ | refine ⟨by rw [hb0]; rfl, ?_⟩)) (by repeat (first | exact SubL.nil | (apply SubL.cons; (repeat (first | exact At.here | apply At.there))) | exact SubL.refl _ | apply SubL.skip))
  · intro hb0
    repeat (first | refine un (h := ?_) | refine sk (h := ?_) | refine WL.y (hy := pkF) (h := ?_) | refine WL.y (hy := pkT) (h := ?_))
    exact mg (by repeat (first | exact trivial | refine ⟨rfl, ?_⟩ | refine ⟨by rw [hb0]; rfl, ?_⟩)) (by repeat (first | exact SubL.nil | (apply SubL.cons; (repeat (first | exact At.here | apply At.there))) | exact SubL.refl _ | apply SubL.skip))
  refine WL.y (hy := mv) (h := ?_)
  apply brOr 5 13 18 (by exact rfl)
  · intro hb1
    refine un (h := ?_)
    refine WL.y (hy := (by first | exact fa | exact faE)) (h := ?_)
    refine un (h := ?_)
    refine WL.y (hy := (by first | exact ldA | exact ldEA)) (h := ?_)
    refine un (h := ?_)
    refine WL.y (hy := bd) (h := ?_)
    refine un (h := ?_)
    refine WL.y (hy := neqT) (h := ?_)
    refine WL.y (hy := (by first | exact pkT | exact pkF)) (h := ?_)
    exact mg (by repeat (first | exact trivial | refine ⟨rfl, ?_⟩ | refine ⟨by rw [hb1]; rfl, ?_⟩)) (by repeat (first | exact SubL.nil | (apply SubL.cons; (repeat (first | exact At.here | apply At.there))) | exact SubL.refl _ | apply SubL.skip))
  · intro hb1
    repeat (first | refine un (h := ?_) | refine sk (h := ?_) | refine WL.y (hy := pkF) (h := ?_) | refine WL.y (hy := pkT) (h := ?_))
    exact mg (by repeat (first | exact trivial | refine ⟨rfl, ?_⟩ | refine ⟨by rw [hb1]; rfl, ?_⟩)) (by repeat (first | exact SubL.nil | (apply SubL.cons; (repeat (first | exact At.here | apply At.there))) | exact SubL.refl _ | apply SubL.skip))
  refine WL.y (hy := asg) (h := ?_)
  refine nl (h := ?_)
  refine q_seq (h := ?_)
  refine rtn (h := ?_)
  refine q_ret (hR := ?_)
  exact fun w hS => ⟨rfl, hS.sub (by repeat (first | exact SubL.nil | (apply SubL.cons; (repeat (first | exact At.here | apply At.there))) | exact SubL.refl _ | apply SubL.skip))⟩
end Go.Proofs.Ytacaojifempclaa

namespace Go.Proofs.Ytacaojifempclaa
open Go Go.RowKit

abbrev keyS (s : Spo) : List Fl := [.i s.won.1, .i s.won.2, .i s.games.1, .i s.games.2, .i s.num, .i s.t0, .i s.t1]
abbrev sh7 : List Bool := [false, false, false, false, false, false, false]
theorem keyS_inj {s t : Spo} (h : keyS s = keyS t) : s = t := by
  obtain ⟨⟨a1, a2⟩, ⟨a3, a4⟩, a5, a6, a7⟩ := s
  obtain ⟨⟨b1, b2⟩, ⟨b3, b4⟩, b5, b6, b7⟩ := t
  simp only [keyS, List.cons.injEq, Fl.i.injEq, and_true] at h
  obtain ⟨rfl, rfl, rfl, rfl, rfl, rfl, rfl⟩ := h
  rfl
def GoodM (f : Fmt) (kv : List (List Fl × Value)) : Prop := (∀ p ∈ kv, shapeOf p.1 = sh7) ∧ ∀ (s : Spo) v, lkp kv (keyS s) = some v → v = cv (fromP f s.won s.games s.num s.t1)
theorem good_nil (f : Fmt) : GoodM f [] := ⟨fun p hp => (by cases hp), fun s v h => by cases h⟩
theorem good_upd {f : Fmt} {kv : List (List Fl × Value)} (h : GoodM f kv) (s : Spo) : GoodM f (updM kv (keyS s) (cv (fromP f s.won s.games s.num s.t1))) := by
  refine ⟨updM_shape h.1 rfl, fun t v ht => ?_⟩
  rw [lkp_upd] at ht
  by_cases e : keyS t = keyS s
  · rw [if_pos e] at ht
    rw [keyS_inj e, ← Option.some.inj ht]
  · rw [if_neg e] at ht
    exact h.2 t v ht
theorem look_good {f : Fmt} {kv : List (List Fl × Value)} (h : GoodM f kv) (s : Spo) : ∃ (c : Cs) (k : Bool), (lkp kv (keyS s)).getD (.agg #[.int .i64 0, .int .i64 0, .int .i64 0, .int .i64 0]) = cv c ∧ (lkp kv (keyS s)).isSome = k ∧ (k = true → c = fromP f s.won s.games s.num s.t1) := by
  cases e : lkp kv (keyS s) with
  | none => exact ⟨zC, false, rfl, rfl, fun h => by cases h⟩
  | some v => exact ⟨fromP f s.won s.games s.num s.t1, true, h.2 s v e, rfl, fun _ => rfl⟩
theorem C_rest_after (f : Fmt) (bm : Nat) (s : Spo) (side : Int) (hs : side = 0 ∨ side = 1) (hf : f.Ok) (ht : s.t0 = tieN f s.won s.games) (hw : (0 ≤ s.won.1 ∧ s.won.1 ≤ 3) ∧ 0 ≤ s.won.2 ∧ s.won.2 ≤ 3) (hg : (0 ≤ s.games.1 ∧ s.games.1 ≤ 1000) ∧ 0 ≤ s.games.2 ∧ s.games.2 ≤ 1000) (hn : 0 ≤ s.num ∧ s.num ≤ 1000) (w : World) : C0 Try.prog 109 [restv f bm, s.val, .int .i64 side] w (.tuple #[(afterS f s side).val, .bool (!endS f s.won s.games side), .bool (overS f s.won s.games side)]) := by
  rcases hs with rfl | rfl
  · exact C_rest_after0 f bm s hf ht hw hg hn w
  · exact C_rest_after1 f bm s hf ht hw hg hn w
theorem chg_is (f : Fmt) (n t1 : Int) (won g : Pr) : (decide (tieN f won g = 0) && dueV f (n + 1) || decide (t1 = 1) && dueV f (n + 1 - 2)) = chgV f n t1 won g := by
  have h0 : decide (tieN f won g = 0) = !brksV (setV f won) g := by
    rw [tieN]; cases brksV (setV f won) g <;> rfl
  rw [chgV, h0, Bool.and_comm (!brksV (setV f won) g), show n + 1 - 2 = n - 1 by omega]
def outV (c0 c1 : Cs) : Nat → Cs
  | 0 => zC
  | 1 => c0
  | _ => orV c1 c0
structure BX where
  (es : Array MapEntry) (c : Nat) (kv : List (List Fl × Value))
structure BL where
  (k : Nat) (es : Array MapEntry) (c : Nat) (kv : List (List Fl × Value))
def FromB (f : Fmt) (k : Nat) : Prop := ∀ (s : Spo) (kv : List (List Fl × Value)) (es : Array MapEntry) (c b : Nat), Vs f s.won s.games → s.t0 = tieN f s.won s.games → remV f s.won s.games < k → (0 ≤ s.num ∧ s.num + remV f s.won s.games ≤ 1000) → MapIs es kv → GoodM f kv →
  Tr Try.prog 97 [restv f b, s.val] [.obj b (.map es c)] (fun x : BX => MapIs x.es x.kv ∧ GoodM f x.kv) (fun _ => cv (fromP f s.won s.games s.num s.t1)) (fun x => [.obj b (.map x.es x.c)])
set_option maxRecDepth 100000 in
set_option maxHeartbeats 4000000 in
theorem fromB_step (f : Fmt) (hf : f.Ok) (hb : Bdd f) (k : Nat) (ih : FromB f k) : FromB f (k + 1) := by
  intro s kv es c b hV hT hk hN hm hgd
  refine ⟨fun w0 w R hst => ?_⟩
  obtain ⟨c0, k0, hl1, hl2, hl3⟩ := look_good hgd s
  have hrp := rem_pos hf hb hV
  have hw0 := hV.1
  have hs1 := hf.s1
  have hg1 := hf.g1
  have hop := open_sum (tie_ok hf s.won) (bdd_set hb hV.1) hV.2
  have hgb : (0 ≤ s.games.1 ∧ s.games.1 ≤ 1000) ∧ 0 ≤ s.games.2 ∧ s.games.2 ≤ 1000 := by have := hV.2; unfold OpenP at this; omega
  have hfe := from_eq (n := s.num) (t1 := s.t1) hf hb hV
  refine en Try.func97 Try.ntmps97 hst (h := fun F => ?_)
  refine sq (h := ?_)
  refine rg (h := ?_)
  refine bxA (h := fun b0 => ?_)
  refine bxA (h := fun b1 => ?_)
  refine al (h := fun b2 => ?_)
  refine nl (h := ?_)
  refine q_seq (h := ?_)
  refine sq (h := ?_)
  refine sq (h := ?_)
  refine rg (h := ?_)
  refine WL.y (hy := (by first | exact fa | exact faE)) (h := ?_)
  refine WL.y (hy := (by first | exact ld | exact ldE)) (h := ?_)
  refine WL.y (hy := (by first | exact ldA | exact ldEA)) (h := ?_)
  refine WL.y (hy := lkC (kv := kv) (k := keyS s) (hm := hm) (hs := hgd.1)) (h := ?_)
  rw [hl1, hl2]
  refine WL.y (hy := mv) (h := ?_)
  refine WL.y (hy := ex) (h := ?_)
  refine WL.y (hy := ex) (h := ?_)
  refine al (h := fun b3 => ?_)
  first | refine stA (h := ?_) | refine stEA (h := ?_)
  refine WL.y (hy := asg) (h := ?_)
  refine nl (h := ?_)
  refine q_seq (h := ?_)
  refine sq (h := ?_)
  refine rg (h := ?_)
  refine WL.y (hy := mv) (h := ?_)
  refine nl (h := ?_)
  refine q_seq (h := ?_)
  refine cd (by exact rfl) (fun h0 => ?_) (fun h0 => ?_)
  · skip
    have hc0 := hl3 h0
    refine sq (h := ?_)
    refine rg (h := ?_)
    refine WL.y (hy := (by first | exact ldA | exact ldEA)) (h := ?_)
    first | refine stA (h := ?_) | refine stEA (h := ?_)
    refine nl (h := ?_)
    refine q_seq (h := ?_)
    refine rtn (h := ?_)
    refine q_then_ret (h := ?_)
    refine q_ret (hR := ?_)
    rw [← hc0]
    exact fun w hS => ⟨⟨es, c, kv⟩, ⟨hm, hgd⟩, rfl, hS.sub (by repeat (first | exact SubL.nil | (apply SubL.cons; (repeat (first | exact At.here | apply At.there))) | exact SubL.refl _ | apply SubL.skip))⟩
  · skip
    refine skp (h := ?_)
    refine q_seq (h := ?_)
    refine sq (h := ?_)
    refine rg (h := ?_)
    refine al (h := fun b4 => ?_)
    refine nl (h := ?_)
    refine q_seq (h := ?_)
    refine sq (h := ?_)
    refine sq (h := ?_)
    refine rg (h := ?_)
    refine WL.y (hy := mv) (h := ?_)
    refine nl (h := ?_)
    refine q_seq (h := ?_)
    refine bk (h := ?_)
    refine lp (X := BL) (I := fun z => z.k ≤ 2 ∧ MapIs z.es z.kv ∧ GoodM f z.kv) (le := fun z => [(2, .pointer (some ⟨b0, 0, none⟩)), (3, .pointer (some ⟨b1, 0, none⟩)), (4, .pointer (some ⟨b2, 0, none⟩)), (7, .pointer (some ⟨b4, 0, none⟩)), (22, .int .i64 z.k)]) (Le := fun z => .obj b (.map z.es z.c) :: .blk b4 103 (ccs (outV (courV (fromP f) f s.won s.games s.num s.t1 0) (courV (fromP f) f s.won s.games s.num s.t1 1) z.k)) :: .blk b0 156 (restc f b) :: .blk b1 159 s.cells :: .blk b2 103 [.int .i64 0, .int .i64 0, .int .i64 0, .int .i64 0] :: R) (μ := fun z => 2 - z.k) ⟨0, es, c, kv⟩ ⟨Nat.zero_le _, hm, hgd⟩ (by repeat (first | exact trivial | refine ⟨rfl, ?_⟩)) (by repeat (first | exact SubL.nil | (apply SubL.cons; (repeat (first | exact At.here | apply At.there))) | exact SubL.refl _ | apply SubL.skip)) (fun z hz => ?_)
    obtain ⟨hzk, hzm, hzg⟩ := hz
    refine sq (h := ?_)
    refine rg (h := ?_)
    refine WL.y (hy := lss) (h := ?_)
    refine nl (h := ?_)
    refine q_seq (h := ?_)
    refine sq (h := ?_)
    refine cd (by exact rfl) (fun h1 => ?_) (fun h1 => ?_)
    · skip
      obtain ⟨z, es1, c1, kv1⟩ := z
      dsimp only at *
      have hkn : z < 2 := by simp only [decide_eq_true_eq] at h1; omega
      have hks : (z : Int) = 0 ∨ (z : Int) = 1 := by omega
      have han : (afterS f s z).num = s.num + 1 := rfl
      refine skp (h := ?_)
      refine q_seq (h := ?_)
      refine sq (h := ?_)
      refine bk (h := ?_)
      refine sq (h := ?_)
      refine rg (h := ?_)
      refine WL.y (hy := mv) (h := ?_)
      refine WL.y (hy := asg) (h := ?_)
      refine nl (h := ?_)
      refine q_seq (h := ?_)
      refine sq (h := ?_)
      refine rg (h := ?_)
      refine WL.y (hy := (by first | exact ldA | exact ldEA)) (h := ?_)
      refine WL.y (hy := (by first | exact ldA | exact ldEA)) (h := ?_)
      refine WL.y (hy := mv) (h := ?_)
      refine cl0 (hc := fun w hS => C_rest_after f b s z hks hf hT (by omega) hgb (by omega) w) (h := ?_)
      refine WL.y (hy := mv) (h := ?_)
      refine WL.y (hy := ex) (h := ?_)
      refine WL.y (hy := ex) (h := ?_)
      refine WL.y (hy := ex) (h := ?_)
      refine al (h := fun b5 => ?_)
      first | refine stA (h := ?_) | refine stEA (h := ?_)
      refine WL.y (hy := asg) (h := ?_)
      refine WL.y (hy := asg) (h := ?_)
      refine nl (h := ?_)
      refine q_seq (h := ?_)
      refine sq (h := ?_)
      refine rg (h := ?_)
      refine al (h := fun b6 => ?_)
      refine nl (h := ?_)
      refine q_seq (h := ?_)
      refine ct (X := BX) (fun x => MapIs x.es x.kv ∧ GoodM f x.kv) (fun _ => [(2, .pointer (some ⟨b0, 0, none⟩)), (3, .pointer (some ⟨b1, 0, none⟩)), (4, .pointer (some ⟨b2, 0, none⟩)), (7, .pointer (some ⟨b4, 0, none⟩)), (8, .int .i64 z), (9, .pointer (some ⟨b5, 0, none⟩)), (10, .bool (!endS f s.won s.games z)), (11, .bool (overS f s.won s.games z)), (12, .pointer (some ⟨b6, 0, none⟩)), (22, .int .i64 z)]) (fun x => .blk b6 103 (ccs (courV (fromP f) f s.won s.games s.num s.t1 z)) :: .obj b (.map x.es x.c) :: .blk b5 159 (afterS f s z).cells :: .blk b4 103 (ccs (outV (courV (fromP f) f s.won s.games s.num s.t1 0) (courV (fromP f) f s.won s.games s.num s.t1 1) z)) :: .blk b0 156 (restc f b) :: .blk b1 159 s.cells :: .blk b2 103 [.int .i64 0, .int .i64 0, .int .i64 0, .int .i64 0] :: R) (h1 := ?_) (h2 := ?_)
      · skip
        refine sq (h := ?_)
        refine rg (h := ?_)
        refine WL.y (hy := mv) (h := ?_)
        refine WL.y (hy := notB) (h := ?_)
        refine nl (h := ?_)
        refine q_seq (h := ?_)
        refine cd (by exact rfl) (fun h2 => ?_) (fun h2 => ?_)
        · skip
          have hov : overS f s.won s.games z = false := by rw [Bool.not_eq_true'] at h2; exact h2
          obtain ⟨hv1, hr1⟩ := step_ok' hf hb hks hV hov
          have hrp1 := rem_pos hf hb hv1
          have hih := ih (afterS f s z) kv1 es1 c1 b hv1 rfl (by show remV f (wonS f s.won s.games z) (gamS f s.won s.games z) < k; omega) ⟨by show 0 ≤ s.num + 1; omega, by show s.num + 1 + remV f (wonS f s.won s.games z) (gamS f s.won s.games z) ≤ 1000; omega⟩ hzm hzg
          obtain ⟨r, hr⟩ : ∃ r, r = fromP f (wonS f s.won s.games z) (gamS f s.won s.games z) (s.num + 1) s.t0 := ⟨_, rfl⟩
          have hrb := csb_P (n := s.num + 1) (t1 := s.t0) hf hv1
          rw [← hr] at hrb
          unfold CsB at hrb
          have hcr : courV (fromP f) f s.won s.games s.num s.t1 z = bumpC r (chgV f s.num s.t1 (wonS f s.won s.games z) (gamS f s.won s.games z)) (endS f s.won s.games z) := by rw [courV, hov, cond_false, ← hT, ← hr]
          refine sq (h := ?_)
          refine rg (h := ?_)
          refine WL.y (hy := (by first | exact ldA | exact ldEA)) (h := ?_)
          refine WL.y (hy := (by first | exact ldA | exact ldEA)) (h := ?_)
          refine clT (hc := hih) (h := fun x hx => ?_)
          rw [show fromP f (afterS f s z).won (afterS f s z).games (afterS f s z).num (afterS f s z).t1 = r from hr.symm]
          obtain ⟨hx1, hx2⟩ := hx
          first | refine stA (h := ?_) | refine stEA (h := ?_)
          refine nl (h := ?_)
          refine q_seq (h := ?_)
          refine ct (X := Unit) (fun _ => True) (fun _ => [(2, .pointer (some ⟨b0, 0, none⟩)), (3, .pointer (some ⟨b1, 0, none⟩)), (4, .pointer (some ⟨b2, 0, none⟩)), (7, .pointer (some ⟨b4, 0, none⟩)), (8, .int .i64 z), (9, .pointer (some ⟨b5, 0, none⟩)), (10, .bool (!endS f s.won s.games z)), (11, .bool (overS f s.won s.games z)), (12, .pointer (some ⟨b6, 0, none⟩)), (22, .int .i64 z)]) (fun _ => .blk b6 103 [.int .i64 (r.1.1 + bz (chgV f s.num s.t1 (wonS f s.won s.games z) (gamS f s.won s.games z))), .int .i64 (r.1.2 + bz (chgV f s.num s.t1 (wonS f s.won s.games z) (gamS f s.won s.games z))), .int .i64 r.2.1, .int .i64 r.2.2] :: .obj b (.map x.es x.c) :: .blk b5 159 (afterS f s z).cells :: .blk b4 103 (ccs (outV (courV (fromP f) f s.won s.games s.num s.t1 0) (courV (fromP f) f s.won s.games s.num s.t1 1) z)) :: .blk b0 156 (restc f b) :: .blk b1 159 s.cells :: .blk b2 103 [.int .i64 0, .int .i64 0, .int .i64 0, .int .i64 0] :: R) (h1 := ?_) (h2 := ?_)
          · skip
            refine sq (h := ?_)
            refine rg (h := ?_)
            refine WL.y (hy := (by first | exact fa | exact faE)) (h := ?_)
            refine WL.y (hy := ixA) (h := ?_)
            refine WL.y (hy := (by first | exact ld | exact ldE)) (h := ?_)
            refine WL.y (hy := eql) (h := ?_)
            refine WL.y (hy := mv) (h := ?_)
            apply brAnd 5 42 47 (by exact rfl)
            · intro hb3
              refine un (h := ?_)
              refine WL.y (hy := (by first | exact ldA | exact ldEA)) (h := ?_)
              refine un (h := ?_)
              refine WL.y (hy := (by first | exact fa | exact faE)) (h := ?_)
              refine un (h := ?_)
              refine WL.y (hy := (by first | exact ld | exact ldE)) (h := ?_)
              refine un (h := ?_)
              refine cl0 (hc := fun w hS => C_rest_due f b (s.num + 1) hf (by omega) w) (h := ?_)
              refine WL.y (hy := (by first | exact pkT | exact pkF)) (h := ?_)
              exact mg (by repeat (first | exact trivial | refine ⟨rfl, ?_⟩ | refine ⟨by rw [hb3]; rfl, ?_⟩)) (by repeat (first | exact SubL.nil | (apply SubL.cons; (repeat (first | exact At.here | apply At.there))) | exact SubL.refl _ | apply SubL.skip))
            · intro hb3
              repeat (first | refine un (h := ?_) | refine sk (h := ?_) | refine WL.y (hy := pkF) (h := ?_) | refine WL.y (hy := pkT) (h := ?_))
              exact mg (by repeat (first | exact trivial | refine ⟨rfl, ?_⟩ | refine ⟨by rw [hb3]; rfl, ?_⟩)) (by repeat (first | exact SubL.nil | (apply SubL.cons; (repeat (first | exact At.here | apply At.there))) | exact SubL.refl _ | apply SubL.skip))
            refine WL.y (hy := mv) (h := ?_)
            apply brOr 12 48 60 (by exact rfl)
            · intro hb4
              refine un (h := ?_)
              refine WL.y (hy := (by first | exact fa | exact faE)) (h := ?_)
              refine un (h := ?_)
              refine WL.y (hy := ixA) (h := ?_)
              refine un (h := ?_)
              refine WL.y (hy := (by first | exact ld | exact ldE)) (h := ?_)
              refine un (h := ?_)
              refine WL.y (hy := eql) (h := ?_)
              refine un (h := ?_)
              refine WL.y (hy := mv) (h := ?_)
              apply brAnd 6 53 59 (by exact rfl)
              · intro hb5
                refine un (h := ?_)
                refine WL.y (hy := (by first | exact ldA | exact ldEA)) (h := ?_)
                refine un (h := ?_)
                refine WL.y (hy := (by first | exact fa | exact faE)) (h := ?_)
                refine un (h := ?_)
                refine WL.y (hy := (by first | exact ld | exact ldE)) (h := ?_)
                refine un (h := ?_)
                refine WL.y (hy := subI) (h := ?_)
                refine un (h := ?_)
                refine cl0 (hc := fun w hS => C_rest_due f b (s.num + 1 - 2) hf (by omega) w) (h := ?_)
                refine un (h := ?_)
                refine WL.y (hy := (by first | exact pkT | exact pkF)) (h := ?_)
                exact mg (by repeat (first | exact trivial | refine ⟨rfl, ?_⟩ | refine ⟨by rw [hb5]; rfl, ?_⟩ | refine ⟨by rw [hb4]; rfl, ?_⟩)) (by repeat (first | exact SubL.nil | (apply SubL.cons; (repeat (first | exact At.here | apply At.there))) | exact SubL.refl _ | apply SubL.skip))
              · intro hb5
                repeat (first | refine un (h := ?_) | refine sk (h := ?_) | refine WL.y (hy := pkF) (h := ?_) | refine WL.y (hy := pkT) (h := ?_))
                exact mg (by repeat (first | exact trivial | refine ⟨rfl, ?_⟩ | refine ⟨by rw [hb5]; rfl, ?_⟩ | refine ⟨by rw [hb4]; rfl, ?_⟩)) (by repeat (first | exact SubL.nil | (apply SubL.cons; (repeat (first | exact At.here | apply At.there))) | exact SubL.refl _ | apply SubL.skip))
              refine WL.y (hy := (by first | exact pkT | exact pkF)) (h := ?_)
              exact mg (by repeat (first | exact trivial | refine ⟨rfl, ?_⟩ | refine ⟨by rw [hb4]; rfl, ?_⟩)) (by repeat (first | exact SubL.nil | (apply SubL.cons; (repeat (first | exact At.here | apply At.there))) | exact SubL.refl _ | apply SubL.skip))
            · intro hb4
              repeat (first | refine un (h := ?_) | refine sk (h := ?_) | refine WL.y (hy := pkF) (h := ?_) | refine WL.y (hy := pkT) (h := ?_))
              exact mg (by repeat (first | exact trivial | refine ⟨rfl, ?_⟩ | refine ⟨by rw [hb4]; rfl, ?_⟩)) (by repeat (first | exact SubL.nil | (apply SubL.cons; (repeat (first | exact At.here | apply At.there))) | exact SubL.refl _ | apply SubL.skip))
            refine nl (h := ?_)
            refine q_seq (h := ?_)
            refine cd (by exact rfl) (fun h6 => ?_) (fun h6 => ?_)
            · skip
              have hch : chgV f s.num s.t1 (wonS f s.won s.games z) (gamS f s.won s.games z) = true := (chg_is ..).symm.trans h6
              refine rg (h := ?_)
              refine WL.y (hy := (by first | exact fa | exact faE)) (h := ?_)
              refine WL.y (hy := (by first | exact fa | exact faE)) (h := ?_)
              refine WL.y (hy := (by first | exact ld | exact ldE)) (h := ?_)
              refine WL.y (hy := addI) (h := ?_)
              refine WL.y (hy := (by first | exact fa | exact faE)) (h := ?_)
              refine WL.y (hy := (by first | exact fa | exact faE)) (h := ?_)
              refine WL.y (hy := (by first | exact ld | exact ldE)) (h := ?_)
              refine WL.y (hy := addI) (h := ?_)
              refine WL.y (hy := bd) (h := ?_)
              refine WL.y (hy := (by first | exact fa | exact faE)) (h := ?_)
              first | refine stA (h := ?_) | refine stEA (h := ?_)
              refine nl (h := ?_)
              first | (rw [hch, show bz true = 1 from rfl]; exact ctn () trivial (by repeat (first | exact trivial | refine ⟨rfl, ?_⟩)) (by repeat (first | exact SubL.nil | (apply SubL.cons; (repeat (first | exact At.here | apply At.there))) | exact SubL.refl _ | apply SubL.skip))) | (rw [hch, show bz false = 0 from rfl, Int.add_zero, Int.add_zero]; exact ctn () trivial (by repeat (first | exact trivial | refine ⟨rfl, ?_⟩)) (by repeat (first | exact SubL.nil | (apply SubL.cons; (repeat (first | exact At.here | apply At.there))) | exact SubL.refl _ | apply SubL.skip)))
            · skip
              have hch : chgV f s.num s.t1 (wonS f s.won s.games z) (gamS f s.won s.games z) = false := (chg_is ..).symm.trans h6
              refine skp (h := ?_)
              first | (rw [hch, show bz true = 1 from rfl]; exact ctn () trivial (by repeat (first | exact trivial | refine ⟨rfl, ?_⟩)) (by repeat (first | exact SubL.nil | (apply SubL.cons; (repeat (first | exact At.here | apply At.there))) | exact SubL.refl _ | apply SubL.skip))) | (rw [hch, show bz false = 0 from rfl, Int.add_zero, Int.add_zero]; exact ctn () trivial (by repeat (first | exact trivial | refine ⟨rfl, ?_⟩)) (by repeat (first | exact SubL.nil | (apply SubL.cons; (repeat (first | exact At.here | apply At.there))) | exact SubL.refl _ | apply SubL.skip)))
          rintro ⟨⟩ -
          have hb1 := bz_rng (chgV f s.num s.t1 (wonS f s.won s.games z) (gamS f s.won s.games z))
          refine sq (h := ?_)
          refine rg (h := ?_)
          refine WL.y (hy := mv) (h := ?_)
          refine WL.y (hy := notB) (h := ?_)
          refine nl (h := ?_)
          refine q_seq (h := ?_)
          refine cd (by exact rfl) (fun h7 => ?_) (fun h7 => ?_)
          · skip
            have hen : endS f s.won s.games z = true := by rw [Bool.not_not] at h7; exact h7
            refine rg (h := ?_)
            refine WL.y (hy := (by first | exact fa | exact faE)) (h := ?_)
            refine WL.y (hy := (by first | exact fa | exact faE)) (h := ?_)
            refine WL.y (hy := (by first | exact ld | exact ldE)) (h := ?_)
            refine WL.y (hy := addI) (h := ?_)
            refine WL.y (hy := (by first | exact fa | exact faE)) (h := ?_)
            refine WL.y (hy := (by first | exact fa | exact faE)) (h := ?_)
            refine WL.y (hy := (by first | exact ld | exact ldE)) (h := ?_)
            refine WL.y (hy := addI) (h := ?_)
            refine WL.y (hy := bd) (h := ?_)
            refine WL.y (hy := (by first | exact fa | exact faE)) (h := ?_)
            first | refine stA (h := ?_) | refine stEA (h := ?_)
            refine nl (h := ?_)
            first
              | (rw [hcr, hen, bumpC, show bz false = 0 from rfl, Int.add_zero, Int.add_zero]; exact ctn x ⟨hx1, hx2⟩ (by repeat (first | exact trivial | refine ⟨rfl, ?_⟩)) (by repeat (first | exact SubL.nil | (apply SubL.cons; (repeat (first | exact At.here | apply At.there))) | exact SubL.refl _ | apply SubL.skip)))
              | (rw [hcr, hen]; exact ctn x ⟨hx1, hx2⟩ (by repeat (first | exact trivial | refine ⟨rfl, ?_⟩)) (by repeat (first | exact SubL.nil | (apply SubL.cons; (repeat (first | exact At.here | apply At.there))) | exact SubL.refl _ | apply SubL.skip)))
              | (rw [hcr]; exact ctn ⟨es1, c1, kv1⟩ ⟨hzm, hzg⟩ (by repeat (first | exact trivial | refine ⟨rfl, ?_⟩)) (by repeat (first | exact SubL.nil | (apply SubL.cons; (repeat (first | exact At.here | apply At.there))) | exact SubL.refl _ | apply SubL.skip)))
          · skip
            have hen : endS f s.won s.games z = false := by rw [Bool.not_not] at h7; exact h7
            refine skp (h := ?_)
            first
              | (rw [hcr, hen, bumpC, show bz false = 0 from rfl, Int.add_zero, Int.add_zero]; exact ctn x ⟨hx1, hx2⟩ (by repeat (first | exact trivial | refine ⟨rfl, ?_⟩)) (by repeat (first | exact SubL.nil | (apply SubL.cons; (repeat (first | exact At.here | apply At.there))) | exact SubL.refl _ | apply SubL.skip)))
              | (rw [hcr, hen]; exact ctn x ⟨hx1, hx2⟩ (by repeat (first | exact trivial | refine ⟨rfl, ?_⟩)) (by repeat (first | exact SubL.nil | (apply SubL.cons; (repeat (first | exact At.here | apply At.there))) | exact SubL.refl _ | apply SubL.skip)))
              | (rw [hcr]; exact ctn ⟨es1, c1, kv1⟩ ⟨hzm, hzg⟩ (by repeat (first | exact trivial | refine ⟨rfl, ?_⟩)) (by repeat (first | exact SubL.nil | (apply SubL.cons; (repeat (first | exact At.here | apply At.there))) | exact SubL.refl _ | apply SubL.skip)))
        · skip
          have hov : overS f s.won s.games z = true := by rw [Bool.not_eq_false'] at h2; exact h2
          have hcr : courV (fromP f) f s.won s.games s.num s.t1 z = zC := by rw [courV, hov, cond_true]
          refine skp (h := ?_)
          first
            | (rw [hcr, hen, bumpC, show bz false = 0 from rfl, Int.add_zero, Int.add_zero]; exact ctn x ⟨hx1, hx2⟩ (by repeat (first | exact trivial | refine ⟨rfl, ?_⟩)) (by repeat (first | exact SubL.nil | (apply SubL.cons; (repeat (first | exact At.here | apply At.there))) | exact SubL.refl _ | apply SubL.skip)))
            | (rw [hcr, hen]; exact ctn x ⟨hx1, hx2⟩ (by repeat (first | exact trivial | refine ⟨rfl, ?_⟩)) (by repeat (first | exact SubL.nil | (apply SubL.cons; (repeat (first | exact At.here | apply At.there))) | exact SubL.refl _ | apply SubL.skip)))
            | (rw [hcr]; exact ctn ⟨es1, c1, kv1⟩ ⟨hzm, hzg⟩ (by repeat (first | exact trivial | refine ⟨rfl, ?_⟩)) (by repeat (first | exact SubL.nil | (apply SubL.cons; (repeat (first | exact At.here | apply At.there))) | exact SubL.refl _ | apply SubL.skip)))
      rintro x ⟨hx1, hx2⟩
      refine ct (X := Unit) (fun _ => True) (fun _ => [(2, .pointer (some ⟨b0, 0, none⟩)), (3, .pointer (some ⟨b1, 0, none⟩)), (4, .pointer (some ⟨b2, 0, none⟩)), (7, .pointer (some ⟨b4, 0, none⟩)), (8, .int .i64 z), (9, .pointer (some ⟨b5, 0, none⟩)), (10, .bool (!endS f s.won s.games z)), (11, .bool (overS f s.won s.games z)), (12, .pointer (some ⟨b6, 0, none⟩)), (22, .int .i64 z)]) (fun _ => .blk b6 103 (ccs (outV (courV (fromP f) f s.won s.games s.num s.t1 0) (courV (fromP f) f s.won s.games s.num s.t1 1) (z + 1))) :: .obj b (.map x.es x.c) :: .blk b5 159 (afterS f s z).cells :: .blk b4 103 (ccs (outV (courV (fromP f) f s.won s.games s.num s.t1 0) (courV (fromP f) f s.won s.games s.num s.t1 1) z)) :: .blk b0 156 (restc f b) :: .blk b1 159 s.cells :: .blk b2 103 [.int .i64 0, .int .i64 0, .int .i64 0, .int .i64 0] :: R) (h1 := ?_) (h2 := ?_)
      · skip
        refine sq (h := ?_)
        refine rg (h := ?_)
        refine WL.y (hy := mv) (h := ?_)
        refine WL.y (hy := eql) (h := ?_)
        refine nl (h := ?_)
        refine q_seq (h := ?_)
        refine cd (by exact rfl) (fun h8 => ?_) (fun h8 => ?_)
        · skip
          obtain rfl : z = 1 := by have := of_decide_eq_true h8; omega
          refine rg (h := ?_)
          refine WL.y (hy := (by first | exact ldA | exact ldEA)) (h := ?_)
          refine WL.y (hy := (by first | exact ldA | exact ldEA)) (h := ?_)
          refine cl0 (hc := fun w hS => C_bound_or (courV (fromP f) f s.won s.games s.num s.t1 ((1 : Nat) : Int)) (outV (courV (fromP f) f s.won s.games s.num s.t1 0) (courV (fromP f) f s.won s.games s.num s.t1 1) 1) w) (h := ?_)
          first | refine stA (h := ?_) | refine stEA (h := ?_)
          refine nl (h := ?_)
          exact ctn () trivial (by repeat (first | exact trivial | refine ⟨rfl, ?_⟩)) (by repeat (first | exact SubL.nil | (apply SubL.cons; (repeat (first | exact At.here | apply At.there))) | exact SubL.refl _ | apply SubL.skip))
        · skip
          obtain rfl : z = 0 := by have := of_decide_eq_false h8; omega
          refine skp (h := ?_)
          exact ctn () trivial (by repeat (first | exact trivial | refine ⟨rfl, ?_⟩)) (by repeat (first | exact SubL.nil | (apply SubL.cons; (repeat (first | exact At.here | apply At.there))) | exact SubL.refl _ | apply SubL.skip))
      rintro ⟨⟩ -
      refine rg (h := ?_)
      refine WL.y (hy := (by first | exact ldA | exact ldEA)) (h := ?_)
      first | refine stA (h := ?_) | refine stEA (h := ?_)
      refine nl (h := ?_)
      refine q_blk_norm (h := ?_)
      refine q_seq (h := ?_)
      refine rg (h := ?_)
      refine WL.y (hy := addI) (h := ?_)
      refine WL.y (hy := mv) (h := ?_)
      refine nl (h := ?_)
      refine rn (X := BL) (x := ⟨z, es1, c1, kv1⟩) ⟨z + 1, x.es, x.c, x.kv⟩ ⟨by dsimp only; omega, hx1, hx2⟩ (by dsimp only; omega) (by repeat (first | exact trivial | refine ⟨rfl, ?_⟩)) (by repeat (first | exact SubL.nil | (apply SubL.cons; (repeat (first | exact At.here | apply At.there))) | exact SubL.refl _ | apply SubL.skip))
    · skip
      have hkn : z.k = 2 := by simp only [decide_eq_false_iff_not] at h1; omega
      rw [hkn]
      refine et (h := ?_)
      refine q_then_exit (h := ?_)
      refine q_then_exit (h := ?_)
      refine q_blk_hit (h := ?_)
      refine q_seq (h := ?_)
      refine sq (h := ?_)
      refine rg (h := ?_)
      refine WL.y (hy := (by first | exact fa | exact faE)) (h := ?_)
      refine WL.y (hy := (by first | exact ld | exact ldE)) (h := ?_)
      refine WL.y (hy := (by first | exact ldA | exact ldEA)) (h := ?_)
      refine WL.y (hy := (by first | exact ldA | exact ldEA)) (h := ?_)
      refine mup (kv := z.kv) (k := keyS s) (hm := hzm) (hs := hzg.1) (h := fun es9 c9 hm9 => ?_)
      refine nl (h := ?_)
      refine q_seq (h := ?_)
      refine sq (h := ?_)
      refine rg (h := ?_)
      refine WL.y (hy := (by first | exact ldA | exact ldEA)) (h := ?_)
      first | refine stA (h := ?_) | refine stEA (h := ?_)
      refine nl (h := ?_)
      refine q_seq (h := ?_)
      refine rtn (h := ?_)
      refine q_ret (hR := ?_)
      rw [hfe, or_comm]
      exact fun w hS => ⟨⟨es9, c9, _⟩, ⟨hm9, by have h9 := good_upd hzg s; rw [hfe, or_comm] at h9; exact h9⟩, rfl, hS.sub (by repeat (first | exact SubL.nil | (apply SubL.cons; (repeat (first | exact At.here | apply At.there))) | exact SubL.refl _ | apply SubL.skip))⟩
theorem fromB_all (f : Fmt) (hf : f.Ok) (hb : Bdd f) : ∀ k, FromB f k
  | 0 => fun s kv es c b hV hT hk hN hm hgd => by have := rem_pos hf hb hV; omega
  | k + 1 => fromB_step f hf hb k (fromB_all f hf hb k)
end Go.Proofs.Ytacaojifempclaa

namespace Go.Proofs.Ytacaojifempclaa
open Go Go.RowKit

def tlB (p : Pr) : Bool := decide (p.1 - p.2 = 1) || decide (p.2 - p.1 = 1)
def tlV (p : Pr) : Int := bif tlB p then 1 else 0
def numTo (l : List Pr) : Nat → Nat
  | 0 => 0
  | k + 1 => match l[k]? with
    | some p => numTo l k + (p.1 + p.2).toNat
    | none => numTo l k
def tailE (l : List Pr) : Nat → List Int
  | 0 => []
  | k + 1 => match l[k]? with
    | some p => [tlV p]
    | none => []
theorem numTo_succ {l : List Pr} {k : Nat} {p : Pr} (h : l[k]? = some p) : numTo l (k + 1) = numTo l k + (p.1 + p.2).toNat := by rw [numTo, h]
theorem tailE_succ {l : List Pr} {k : Nat} {p : Pr} (h : l[k]? = some p) : tailE l (k + 1) = [tlV p] := by rw [tailE, h]
def numV (b : Brd) : Int := numTo b.st b.st.length + (b.g.1 + b.g.2)
def t1V (b : Brd) : Int := bif decide (0 < b.g.1 + b.g.2) then 0 else (tailE b.st b.st.length).getD 0 0
def restC (f : Fmt) (b : Brd) : Cs := bif overV f (wonV b.st) then zC else bumpC (fromP f (wonV b.st) b.g (numV b) (t1V b)) false (isZ b.g && isZ b.p)
theorem sets_over {f : Fmt} {b : Brd} (hf : f.Ok) (hb : brdOk b = true) (h : (arisesV f b).2 = true) {k : Nat} {p : Pr} (hp : b.st[k]? = some p) : expT f (setV f (wonTo b.st k)) p.1 p.2 = some true ∧ overV f (wonTo b.st k) = false := by
  have hok := arises_ok (tb := tableV f) h
  have hk : k < b.st.length := (List.getElem?_eq_some_iff.1 hp).1
  have ho : ∀ j, j ≤ b.st.length → (setsTo (tableV f) f b.st j).ok = true := fun j hj => by
    cases e : (setsTo (tableV f) f b.st j).ok
    · rw [setsTo_stop e hj, e] at hok; cases hok
    · rfl
  have hpf := brd_fit hb p (by simp only [Brd.all]; exact List.mem_append_left _ (List.mem_of_getElem? hp))
  have hw := sets_won (tbOk_table f) hf hb hok k (by omega)
  have h1 := (step_is (tbOk_table f) hf hp (by omega) (ho k (by omega)) hw).1
  rw [ho (k + 1) (by omega)] at h1
  have h2 := h1.symm
  rw [Bool.and_eq_true, Bool.not_eq_true', decide_eq_true_eq] at h2
  exact ⟨h2.2, h2.1⟩
theorem over_sum {f : Fmt} {s : Pr} {a b : Int} (h : expT f s a b = some true) : 1 ≤ a + b := by
  unfold expT at h
  by_cases h0 : a = 0 ∧ b = 0
  · rw [if_pos h0] at h; cases h
  · rw [if_neg h0] at h
    by_cases h1 : OpenP f s (a - 1) b
    · unfold OpenP at h1; omega
    · rw [if_neg h1] at h
      by_cases h2 : OpenP f s a (b - 1)
      · unfold OpenP at h2; omega
      · rw [if_neg h2] at h; cases h
theorem numTo_bd {b : Brd} (hb : brdOk b = true) : ∀ k, k ≤ b.st.length → numTo b.st k ≤ 80 * k
  | 0, _ => Nat.zero_le _
  | k + 1, hk => by
    have ih := numTo_bd hb k (by omega)
    have hp : b.st[k]? = some b.st[k] := List.getElem?_eq_getElem (by omega)
    have hpf := brd_fit hb b.st[k] (by simp only [Brd.all]; exact List.mem_append_left _ (List.getElem_mem _))
    rw [numTo_succ hp]; omega
theorem encI_app' (xs : List Int) (x : Int) : encI (xs ++ [x]) = encI xs ++ [[.int .i64 x]] := by simp [encI]
theorem encI_rep' (xs : List Int) (j : Nat) : encI (xs ++ List.replicate (j + 1) 0) = encI (xs ++ List.replicate j 0) ++ [[.int .i64 0]] := by
  rw [List.replicate_succ', ← List.append_assoc, encI_app']
structure OZ where
  (k : Nat) (A : Option Addr) (c : Nat) (es : List Int)
structure OJ where
  (j : Nat) (A : Option Addr) (c : Nat)
theorem won_bd5 {b : Brd} (hb : brdOk b = true) (k : Nat) (hk : k ≤ b.st.length) : (0 ≤ (wonTo b.st k).1 ∧ (wonTo b.st k).1 ≤ 5) ∧ 0 ≤ (wonTo b.st k).2 ∧ (wonTo b.st k).2 ≤ 5 := by
  have h1 := wonTo_bd b.st k
  have h2 := brd_len hb
  omega
set_option maxRecDepth 100000 in
set_option maxHeartbeats 4000000 in
theorem C_balls_open (f : Fmt) (b : Brd) (hf : f.Ok) (hbd : Bdd f) (hb : brdOk b = true) (hari : (arisesV f b).2 = true) (A : Option Addr) (n c : Nat) (w : World) (h : Rd w A 2 n (encP b.st)) : C0 Try.prog 59 [f.val, b.val A n c] w (.tuple #[cv (restC f b), .bool (overV f (wonV b.st))]) := by
  have hlen : b.st.length = n := by have := h.len; simpa [encP] using this
  have hbl := brd_len hb
  have hbp := brd_fit hb b.p (by simp [Brd.all])
  have hbg := brd_fit hb b.g (by simp [Brd.all])
  have hs1 := hf.s1
  obtain ⟨-, hwo, hw3⟩ := arises_facts hf hb hari
  refine ⟨en Try.func59 Try.ntmps59 ((St.init w).share (e := .ro A 2 n (encP b.st)) h rfl rfl rfl) (h := fun F => ?_)⟩
  refine sq (h := ?_)
  refine rg (h := ?_)
  refine bxA (h := fun b0 => ?_)
  refine bxA (h := fun b1 => ?_)
  refine al (h := fun b2 => ?_)
  refine WL.y (hy := asg) (h := ?_)
  refine nl (h := ?_)
  refine q_seq (h := ?_)
  refine sq (h := ?_)
  refine rg (h := ?_)
  refine WL.y (hy := (by first | exact ldA | exact ldEA)) (h := ?_)
  refine mkm (h := fun b3 => ?_)
  refine WL.y (hy := bd) (h := ?_)
  refine al (h := fun b4 => ?_)
  first | refine stA (h := ?_) | refine stEA (h := ?_)
  refine nl (h := ?_)
  refine q_seq (h := ?_)
  refine sq (h := ?_)
  refine rg (h := ?_)
  refine al (h := fun b5 => ?_)
  refine nl (h := ?_)
  refine q_seq (h := ?_)
  refine sq (h := ?_)
  refine rg (h := ?_)
  refine WL.y (hy := asg) (h := ?_)
  refine nl (h := ?_)
  refine q_seq (h := ?_)
  refine sq (h := ?_)
  refine sq (h := ?_)
  refine WC.nilOwn 3 1 (h := ?_)
  refine rg (h := ?_)
  refine WL.y (hy := (by first | exact fa | exact faE)) (h := ?_)
  refine WL.y (hy := (by first | exact ld | exact ldE)) (h := ?_)
  refine WL.y (hy := lenS) (h := ?_)
  refine WL.y (hy := mv) (h := ?_)
  refine nl (h := ?_)
  refine q_seq (h := ?_)
  refine bk (h := ?_)
  refine lp (X := OZ) (I := fun z => z.k ≤ n ∧ z.es.length = numTo b.st z.k ∧ ∃ pre, z.es = pre ++ tailE b.st z.k) (le := fun z => [(2, .pointer (some ⟨b0, 0, none⟩)), (3, .pointer (some ⟨b1, 0, none⟩)), (4, .pointer (some ⟨b2, 0, none⟩)), (5, .bool false), (6, .pointer (some ⟨b4, 0, none⟩)), (7, .pointer (some ⟨b5, 0, none⟩)), (8, .slice z.A z.es.length z.c), (18, .slice A n c), (19, .int .i64 n), (20, .int .i64 z.k)]) (Le := fun z => [.own z.A z.c 3 1 z.es.length (encI z.es), .obj b3 (.map #[] 0), .blk b5 159 [.int .i64 (wonTo b.st z.k).1, .int .i64 (wonTo b.st z.k).2, .int .i64 0, .int .i64 0, .int .i64 0, .int .i64 0, .int .i64 0], .blk b4 156 (restc f b3), .blk b0 23 f.cells, .blk b1 28 (b.cells A n c), .blk b2 103 [.int .i64 0, .int .i64 0, .int .i64 0, .int .i64 0], .ro A 2 n (encP b.st)]) (μ := fun z => n - z.k) ⟨0, none, 0, []⟩ ⟨Nat.zero_le _, rfl, [], rfl⟩ (by repeat (first | exact trivial | refine ⟨rfl, ?_⟩)) (by repeat (first | exact SubL.nil | (apply SubL.cons; (repeat (first | exact At.here | apply At.there))) | exact SubL.refl _ | apply SubL.skip)) (fun z hz => ?_)
  obtain ⟨hzk, hze, hzt⟩ := hz
  refine sq (h := ?_)
  refine rg (h := ?_)
  refine WL.y (hy := lss) (h := ?_)
  refine nl (h := ?_)
  refine q_seq (h := ?_)
  refine sq (h := ?_)
  refine cd (by exact rfl) (fun h0 => ?_) (fun h0 => ?_)
  · skip
    obtain ⟨z, Az, cz, es⟩ := z
    dsimp only at *
    have hkn : z < n := by simp only [decide_eq_true_eq] at h0; omega
    obtain ⟨p, hp⟩ : ∃ p, b.st[z]? = some p := ⟨_, List.getElem?_eq_getElem (by omega)⟩
    have hpe := encP_at hp
    have hpf := brd_fit hb p (by simp only [Brd.all]; exact List.mem_append_left _ (List.mem_of_getElem? hp))
    obtain ⟨hov, hnv⟩ := sets_over hf hb hari hp
    have hps := over_sum hov
    have hnb := numTo_bd hb z (by omega)
    have hwb := won_bd5 hb z (by omega)
    have hw1 := wonTo_succ hp
    obtain ⟨N, hN⟩ : ∃ N : Nat, p.1 + p.2 = (N : Int) + 1 := ⟨(p.1 + p.2 - 1).toNat, by omega⟩
    have hn1 : numTo b.st (z + 1) = numTo b.st z + N + 1 := by rw [numTo_succ hp]; omega
    have hL9 : ((es ++ List.replicate N (0 : Int)) ++ [tlV p]).length = es.length + N + 1 := by simp only [List.length_append, List.length_replicate, List.length_cons, List.length_nil]
    refine skp (h := ?_)
    refine q_seq (h := ?_)
    refine sq (h := ?_)
    refine bk (h := ?_)
    refine sq (h := ?_)
    refine rg (h := ?_)
    refine WL.y (hy := ix (A := A) (m := n)) (h := ?_)
    refine WL.y (hy := ldEW (A := A) (hk := hpe)) (h := ?_)
    refine al (h := fun b6 => ?_)
    first | refine stA (h := ?_) | refine stEA (h := ?_)
    refine nl (h := ?_)
    refine q_seq (h := ?_)
    refine sq (h := ?_)
    refine sq (h := ?_)
    refine rg (h := ?_)
    refine WL.y (hy := (by first | exact fa | exact faE)) (h := ?_)
    refine WL.y (hy := (by first | exact ld | exact ldE)) (h := ?_)
    refine WL.y (hy := (by first | exact fa | exact faE)) (h := ?_)
    refine WL.y (hy := (by first | exact ld | exact ldE)) (h := ?_)
    refine WL.y (hy := addI) (h := ?_)
    refine WL.y (hy := subI) (h := ?_)
    refine WL.y (hy := mv) (h := ?_)
    refine nl (h := ?_)
    refine q_seq (h := ?_)
    refine bk (h := ?_)
    refine lp (X := OJ) (I := fun u => u.j ≤ N) (le := fun u => [(2, .pointer (some ⟨b0, 0, none⟩)), (3, .pointer (some ⟨b1, 0, none⟩)), (4, .pointer (some ⟨b2, 0, none⟩)), (5, .bool false), (6, .pointer (some ⟨b4, 0, none⟩)), (7, .pointer (some ⟨b5, 0, none⟩)), (8, .slice u.A (es.length + u.j) u.c), (10, .pointer (some ⟨b6, 0, none⟩)), (18, .slice A n c), (19, .int .i64 n), (20, .int .i64 z), (29, .int .i64 (p.1 + p.2 - 1)), (30, .int .i64 u.j)]) (Le := fun u => [.own u.A u.c 3 1 (es.length + u.j) (encI (es ++ List.replicate u.j 0)), .blk b6 26 [.int .i64 p.1, .int .i64 p.2], .obj b3 (.map #[] 0), .blk b5 159 [.int .i64 (wonTo b.st z).1, .int .i64 (wonTo b.st z).2, .int .i64 0, .int .i64 0, .int .i64 0, .int .i64 0, .int .i64 0], .blk b4 156 (restc f b3), .blk b0 23 f.cells, .blk b1 28 (b.cells A n c), .blk b2 103 [.int .i64 0, .int .i64 0, .int .i64 0, .int .i64 0], .ro A 2 n (encP b.st)]) (μ := fun u => N - u.j) ⟨0, Az, cz⟩ (Nat.zero_le _) (by repeat (first | exact trivial | refine ⟨rfl, ?_⟩)) (by dsimp only; rw [List.replicate_zero, List.append_nil]; repeat (first | exact SubL.nil | (apply SubL.cons; (repeat (first | exact At.here | apply At.there))) | exact SubL.refl _ | apply SubL.skip)) (fun u hu => ?_)
    have hu' := hu
    refine sq (h := ?_)
    refine rg (h := ?_)
    refine WL.y (hy := lss) (h := ?_)
    refine nl (h := ?_)
    refine q_seq (h := ?_)
    refine sq (h := ?_)
    refine cd (by exact rfl) (fun h1 => ?_) (fun h1 => ?_)
    · skip
      have hjn : u.j < N := by simp only [decide_eq_true_eq] at h1; omega
      refine skp (h := ?_)
      refine q_seq (h := ?_)
      refine sq (h := ?_)
      refine bk (h := ?_)
      refine rg (h := ?_)
      refine WL.y (hy := mv) (h := ?_)
      refine bs (h := fun b7 => ?_)
      refine ap (A := u.A) (h := fun A3 c3 => ?_)
      refine WL.y (hy := asg) (h := ?_)
      rw [← encI_rep']
      refine nl (h := ?_)
      refine q_blk_norm (h := ?_)
      refine q_seq (h := ?_)
      refine rg (h := ?_)
      refine WL.y (hy := addI) (h := ?_)
      refine WL.y (hy := mv) (h := ?_)
      refine nl (h := ?_)
      refine rn (x := u) ⟨u.j + 1, A3, c3⟩ (by dsimp only; omega) (by dsimp only; omega) (by repeat (first | exact trivial | refine ⟨rfl, ?_⟩)) (by repeat (first | exact SubL.nil | (apply SubL.cons; (repeat (first | exact At.here | apply At.there))) | exact SubL.refl _ | apply SubL.skip))
    · skip
      have hjn : u.j = N := by simp only [decide_eq_false_iff_not] at h1; omega
      rw [hjn]
      refine et (h := ?_)
      refine q_then_exit (h := ?_)
      refine q_then_exit (h := ?_)
      refine q_blk_hit (h := ?_)
      refine q_seq (h := ?_)
      refine sq (h := ?_)
      refine rg (h := ?_)
      refine WL.y (hy := asg) (h := ?_)
      refine nl (h := ?_)
      refine q_seq (h := ?_)
      refine ct (X := Unit) (fun _ => True) (fun _ => [(2, .pointer (some ⟨b0, 0, none⟩)), (3, .pointer (some ⟨b1, 0, none⟩)), (4, .pointer (some ⟨b2, 0, none⟩)), (5, .bool false), (6, .pointer (some ⟨b4, 0, none⟩)), (7, .pointer (some ⟨b5, 0, none⟩)), (8, .slice u.A (es.length + N) u.c), (10, .pointer (some ⟨b6, 0, none⟩)), (11, .int .i64 (tlV p)), (18, .slice A n c), (19, .int .i64 n), (20, .int .i64 z)]) (fun _ => [.own u.A u.c 3 1 (es.length + N) (encI (es ++ List.replicate N 0)), .blk b6 26 [.int .i64 p.1, .int .i64 p.2], .obj b3 (.map #[] 0), .blk b5 159 [.int .i64 (wonTo b.st z).1, .int .i64 (wonTo b.st z).2, .int .i64 0, .int .i64 0, .int .i64 0, .int .i64 0, .int .i64 0], .blk b4 156 (restc f b3), .blk b0 23 f.cells, .blk b1 28 (b.cells A n c), .blk b2 103 [.int .i64 0, .int .i64 0, .int .i64 0, .int .i64 0], .ro A 2 n (encP b.st)]) (h1 := ?_) (h2 := ?_)
      · skip
        refine sq (h := ?_)
        refine rg (h := ?_)
        refine WL.y (hy := (by first | exact fa | exact faE)) (h := ?_)
        refine WL.y (hy := (by first | exact ld | exact ldE)) (h := ?_)
        refine WL.y (hy := (by first | exact fa | exact faE)) (h := ?_)
        refine WL.y (hy := (by first | exact ld | exact ldE)) (h := ?_)
        refine WL.y (hy := subI) (h := ?_)
        refine WL.y (hy := eql) (h := ?_)
        refine WL.y (hy := mv) (h := ?_)
        apply brOr 7 42 49 (by exact rfl)
        · intro hb2
          refine un (h := ?_)
          refine WL.y (hy := (by first | exact fa | exact faE)) (h := ?_)
          refine un (h := ?_)
          refine WL.y (hy := (by first | exact ld | exact ldE)) (h := ?_)
          refine un (h := ?_)
          refine WL.y (hy := (by first | exact fa | exact faE)) (h := ?_)
          refine un (h := ?_)
          refine WL.y (hy := (by first | exact ld | exact ldE)) (h := ?_)
          refine un (h := ?_)
          refine WL.y (hy := subI) (h := ?_)
          refine un (h := ?_)
          refine WL.y (hy := eql) (h := ?_)
          refine WL.y (hy := (by first | exact pkT | exact pkF)) (h := ?_)
          exact mg (by repeat (first | exact trivial | refine ⟨rfl, ?_⟩ | refine ⟨by rw [hb2]; rfl, ?_⟩)) (by repeat (first | exact SubL.nil | (apply SubL.cons; (repeat (first | exact At.here | apply At.there))) | exact SubL.refl _ | apply SubL.skip))
        · intro hb2
          repeat (first | refine un (h := ?_) | refine sk (h := ?_) | refine WL.y (hy := pkF) (h := ?_) | refine WL.y (hy := pkT) (h := ?_))
          exact mg (by repeat (first | exact trivial | refine ⟨rfl, ?_⟩ | refine ⟨by rw [hb2]; rfl, ?_⟩)) (by repeat (first | exact SubL.nil | (apply SubL.cons; (repeat (first | exact At.here | apply At.there))) | exact SubL.refl _ | apply SubL.skip))
        refine nl (h := ?_)
        refine q_seq (h := ?_)
        refine cd (by exact rfl) (fun h3 => ?_) (fun h3 => ?_)
        · skip
          have htl : tlV p = 1 := by rw [tlV, tlB, h3]; rfl
          refine rg (h := ?_)
          refine WL.y (hy := asg) (h := ?_)
          refine nl (h := ?_)
          rw [htl]
          exact ctn () trivial (by repeat (first | exact trivial | refine ⟨rfl, ?_⟩)) (by repeat (first | exact SubL.nil | (apply SubL.cons; (repeat (first | exact At.here | apply At.there))) | exact SubL.refl _ | apply SubL.skip))
        · skip
          have htl : tlV p = 0 := by rw [tlV, tlB, h3]; rfl
          refine skp (h := ?_)
          rw [htl]
          exact ctn () trivial (by repeat (first | exact trivial | refine ⟨rfl, ?_⟩)) (by repeat (first | exact SubL.nil | (apply SubL.cons; (repeat (first | exact At.here | apply At.there))) | exact SubL.refl _ | apply SubL.skip))
      rintro ⟨⟩ -
      refine sq (h := ?_)
      refine rg (h := ?_)
      refine WL.y (hy := mv) (h := ?_)
      refine WL.y (hy := mv) (h := ?_)
      refine bs (h := fun b8 => ?_)
      refine ap (A := u.A) (h := fun A4 c4 => ?_)
      refine WL.y (hy := asg) (h := ?_)
      rw [← encI_app']
      refine nl (h := ?_)
      refine q_seq (h := ?_)
      refine sq (h := ?_)
      refine rg (h := ?_)
      refine WL.y (hy := (by first | exact fa | exact faE)) (h := ?_)
      refine WL.y (hy := (by first | exact ld | exact ldE)) (h := ?_)
      refine WL.y (hy := (by first | exact fa | exact faE)) (h := ?_)
      refine WL.y (hy := (by first | exact ld | exact ldE)) (h := ?_)
      refine WL.y (hy := gtr) (h := ?_)
      refine nl (h := ?_)
      refine q_seq (h := ?_)
      refine cd (by exact rfl) (fun h4 => ?_) (fun h4 => ?_)
      · skip
        have hwn : wonTo b.st (z + 1) = ((wonTo b.st z).1 + 1, (wonTo b.st z).2) := by rw [hw1, wside, h4]; rfl
        refine rg (h := ?_)
        refine WL.y (hy := (by first | exact fa | exact faE)) (h := ?_)
        refine WL.y (hy := (by first | exact fa | exact faE)) (h := ?_)
        refine WL.y (hy := (by first | exact ld | exact ldE)) (h := ?_)
        refine WL.y (hy := addI) (h := ?_)
        refine WL.y (hy := (by first | exact fa | exact faE)) (h := ?_)
        refine WL.y (hy := (by first | exact fa | exact faE)) (h := ?_)
        first | refine st (h := ?_) | refine stE (h := ?_)
        refine nl (h := ?_)
        refine q_blk_norm (h := ?_)
        refine q_seq (h := ?_)
        refine rg (h := ?_)
        refine WL.y (hy := addI) (h := ?_)
        refine WL.y (hy := mv) (h := ?_)
        refine nl (h := ?_)
        refine rn (X := OZ) (x := ⟨z, Az, cz, es⟩) ⟨z + 1, A4, c4, (es ++ List.replicate N 0) ++ [tlV p]⟩ ⟨by dsimp only; omega, by dsimp only; simp only [List.length_append, List.length_replicate, List.length_cons, List.length_nil]; omega, es ++ List.replicate N 0, by rw [tailE_succ hp]⟩ (by dsimp only; omega) (by dsimp only; rw [hL9]; repeat (first | exact trivial | refine ⟨rfl, ?_⟩)) (by dsimp only; rw [hL9, hwn]; repeat (first | exact SubL.nil | (apply SubL.cons; (repeat (first | exact At.here | apply At.there))) | exact SubL.refl _ | apply SubL.skip))
      · skip
        have hwn : wonTo b.st (z + 1) = ((wonTo b.st z).1, (wonTo b.st z).2 + 1) := by rw [hw1, wside, h4]; rfl
        refine rg (h := ?_)
        refine WL.y (hy := (by first | exact fa | exact faE)) (h := ?_)
        refine WL.y (hy := (by first | exact fa | exact faE)) (h := ?_)
        refine WL.y (hy := (by first | exact ld | exact ldE)) (h := ?_)
        refine WL.y (hy := addI) (h := ?_)
        refine WL.y (hy := (by first | exact fa | exact faE)) (h := ?_)
        refine WL.y (hy := (by first | exact fa | exact faE)) (h := ?_)
        first | refine st (h := ?_) | refine stE (h := ?_)
        refine nl (h := ?_)
        refine q_blk_norm (h := ?_)
        refine q_seq (h := ?_)
        refine rg (h := ?_)
        refine WL.y (hy := addI) (h := ?_)
        refine WL.y (hy := mv) (h := ?_)
        refine nl (h := ?_)
        refine rn (X := OZ) (x := ⟨z, Az, cz, es⟩) ⟨z + 1, A4, c4, (es ++ List.replicate N 0) ++ [tlV p]⟩ ⟨by dsimp only; omega, by dsimp only; simp only [List.length_append, List.length_replicate, List.length_cons, List.length_nil]; omega, es ++ List.replicate N 0, by rw [tailE_succ hp]⟩ (by dsimp only; omega) (by dsimp only; rw [hL9]; repeat (first | exact trivial | refine ⟨rfl, ?_⟩)) (by dsimp only; rw [hL9, hwn]; repeat (first | exact SubL.nil | (apply SubL.cons; (repeat (first | exact At.here | apply At.there))) | exact SubL.refl _ | apply SubL.skip))
  · skip
    have hkn : z.k = n := by simp only [decide_eq_false_iff_not] at h0; omega
    obtain ⟨z, Az, cz, es⟩ := z
    dsimp only at *
    have hkn2 := hkn.symm
    subst hkn2
    have hnb := numTo_bd hb n (by omega)
    have hwv : wonV b.st = wonTo b.st n := by rw [wonV, hlen]
    rw [← hwv]
    obtain ⟨G, hG⟩ : ∃ G : Nat, b.g.1 + b.g.2 = (G : Int) := ⟨(b.g.1 + b.g.2).toNat, by omega⟩
    refine et (h := ?_)
    refine q_then_exit (h := ?_)
    refine q_then_exit (h := ?_)
    refine q_blk_hit (h := ?_)
    refine q_seq (h := ?_)
    refine sq (h := ?_)
    refine sq (h := ?_)
    refine rg (h := ?_)
    refine WL.y (hy := (by first | exact fa | exact faE)) (h := ?_)
    refine WL.y (hy := (by first | exact fa | exact faE)) (h := ?_)
    refine WL.y (hy := (by first | exact ld | exact ldE)) (h := ?_)
    refine WL.y (hy := (by first | exact fa | exact faE)) (h := ?_)
    refine WL.y (hy := (by first | exact fa | exact faE)) (h := ?_)
    refine WL.y (hy := (by first | exact ld | exact ldE)) (h := ?_)
    refine WL.y (hy := maxI) (h := ?_)
    refine WL.y (hy := (by first | exact fa | exact faE)) (h := ?_)
    refine WL.y (hy := (by first | exact ld | exact ldE)) (h := ?_)
    refine WL.y (hy := eql) (h := ?_)
    refine nl (h := ?_)
    refine q_seq (h := ?_)
    refine cd (by exact rfl) (fun h5 => ?_) (fun h5 => ?_)
    · skip
      have hov : overV f (wonV b.st) = true := h5
      have hE : restC f b = zC := by rw [restC, hov]; rfl
      refine sq (h := ?_)
      refine rg (h := ?_)
      refine WL.y (hy := bd) (h := ?_)
      first | refine stA (h := ?_) | refine stEA (h := ?_)
      refine WL.y (hy := asg) (h := ?_)
      refine nl (h := ?_)
      refine q_seq (h := ?_)
      refine rtn (h := ?_)
      refine q_then_ret (h := ?_)
      refine q_ret (hR := ?_)
      rw [hE, hov]
      exact fun w hS => ⟨rfl, hS.sub (by repeat (first | exact SubL.nil | (apply SubL.cons; (repeat (first | exact At.here | apply At.there))) | exact SubL.refl _ | apply SubL.skip))⟩
    · skip
      have hov : overV f (wonV b.st) = false := h5
      obtain ⟨hop, hpt⟩ : OpenP f (setV f (wonV b.st)) b.g.1 b.g.2 ∧ arePts f (tiedV f b.st b.g) (setV f (wonV b.st)).2 b.p = true := by
        rcases hw3 with h3 | ⟨_, h4, h5⟩
        · rw [h3] at hov; cases hov
        · exact ⟨h4, h5⟩
      have hov2 := hov
      rw [over_won hwo, Bool.or_eq_false_iff, decide_eq_false_iff_not, decide_eq_false_iff_not] at hov2
      unfold WonOk at hwo
      have hV : Vs f (wonV b.st) b.g := ⟨by omega, hop⟩
      refine skp (h := ?_)
      refine q_seq (h := ?_)
      refine sq (h := ?_)
      refine sq (h := ?_)
      refine rg (h := ?_)
      refine WL.y (hy := (by first | exact fa | exact faE)) (h := ?_)
      refine WL.y (hy := (by first | exact fa | exact faE)) (h := ?_)
      refine WL.y (hy := (by first | exact ld | exact ldE)) (h := ?_)
      refine WL.y (hy := (by first | exact fa | exact faE)) (h := ?_)
      refine WL.y (hy := (by first | exact fa | exact faE)) (h := ?_)
      refine WL.y (hy := (by first | exact ld | exact ldE)) (h := ?_)
      refine WL.y (hy := addI) (h := ?_)
      refine WL.y (hy := mv) (h := ?_)
      refine nl (h := ?_)
      refine q_seq (h := ?_)
      refine bk (h := ?_)
      refine lp (X := OJ) (I := fun v => v.j ≤ G) (le := fun v => [(2, .pointer (some ⟨b0, 0, none⟩)), (3, .pointer (some ⟨b1, 0, none⟩)), (4, .pointer (some ⟨b2, 0, none⟩)), (5, .bool false), (6, .pointer (some ⟨b4, 0, none⟩)), (7, .pointer (some ⟨b5, 0, none⟩)), (8, .slice v.A (es.length + v.j) v.c), (89, .int .i64 (b.g.1 + b.g.2)), (90, .int .i64 v.j)]) (Le := fun v => [.own v.A v.c 3 1 (es.length + v.j) (encI (es ++ List.replicate v.j 0)), .obj b3 (.map #[] 0), .blk b5 159 [.int .i64 (wonV b.st).1, .int .i64 (wonV b.st).2, .int .i64 0, .int .i64 0, .int .i64 0, .int .i64 0, .int .i64 0], .blk b4 156 (restc f b3), .blk b0 23 f.cells, .blk b1 28 (b.cells A n c), .blk b2 103 [.int .i64 0, .int .i64 0, .int .i64 0, .int .i64 0], .ro A 2 n (encP b.st)]) (μ := fun v => G - v.j) ⟨0, Az, cz⟩ (Nat.zero_le _) (by repeat (first | exact trivial | refine ⟨rfl, ?_⟩)) (by dsimp only; rw [List.replicate_zero, List.append_nil]; repeat (first | exact SubL.nil | (apply SubL.cons; (repeat (first | exact At.here | apply At.there))) | exact SubL.refl _ | apply SubL.skip)) (fun v hv => ?_)
      have hv' := hv
      refine sq (h := ?_)
      refine rg (h := ?_)
      refine WL.y (hy := lss) (h := ?_)
      refine nl (h := ?_)
      refine q_seq (h := ?_)
      refine sq (h := ?_)
      refine cd (by exact rfl) (fun h6 => ?_) (fun h6 => ?_)
      · skip
        have hjn : v.j < G := by simp only [decide_eq_true_eq] at h6; omega
        refine skp (h := ?_)
        refine q_seq (h := ?_)
        refine sq (h := ?_)
        refine bk (h := ?_)
        refine rg (h := ?_)
        refine WL.y (hy := mv) (h := ?_)
        refine bs (h := fun b9 => ?_)
        refine ap (A := v.A) (h := fun A5 c5 => ?_)
        refine WL.y (hy := asg) (h := ?_)
        rw [← encI_rep']
        refine nl (h := ?_)
        refine q_blk_norm (h := ?_)
        refine q_seq (h := ?_)
        refine rg (h := ?_)
        refine WL.y (hy := addI) (h := ?_)
        refine WL.y (hy := mv) (h := ?_)
        refine nl (h := ?_)
        refine rn (x := v) ⟨v.j + 1, A5, c5⟩ (by dsimp only; omega) (by dsimp only; omega) (by repeat (first | exact trivial | refine ⟨rfl, ?_⟩)) (by repeat (first | exact SubL.nil | (apply SubL.cons; (repeat (first | exact At.here | apply At.there))) | exact SubL.refl _ | apply SubL.skip))
      · skip
        have hjn : v.j = G := by simp only [decide_eq_false_iff_not] at h6; omega
        rw [hjn]
        have hnv : numV b = ((es.length + G : Nat) : Int) := by rw [numV, hlen, hG, hze]; omega
        have hnl : ((es ++ List.replicate G 0).length : Int) = numV b := by rw [List.length_append, List.length_replicate, hnv]
        have hel : (es ++ List.replicate G 0).length = es.length + G := by rw [List.length_append, List.length_replicate]
        refine et (h := ?_)
        refine q_then_exit (h := ?_)
        refine q_then_exit (h := ?_)
        refine q_blk_hit (h := ?_)
        refine q_seq (h := ?_)
        refine sq (h := ?_)
        refine rg (h := ?_)
        refine WL.y (hy := (by first | exact fa | exact faE)) (h := ?_)
        refine WL.y (hy := (by first | exact ldA | exact ldEA)) (h := ?_)
        refine WL.y (hy := mv) (h := ?_)
        refine WL.y (hy := lenS) (h := ?_)
        refine WL.y (hy := (by first | exact fa | exact faE)) (h := ?_)
        first | refine stA (h := ?_) | refine stEA (h := ?_)
        refine WL.y (hy := (by first | exact fa | exact faE)) (h := ?_)
        first | refine st (h := ?_) | refine stE (h := ?_)
        rw [← hnv]
        refine nl (h := ?_)
        refine q_seq (h := ?_)
        refine sq (h := ?_)
        refine rg (h := ?_)
        refine WL.y (hy := (by first | exact ldA | exact ldEA)) (h := ?_)
        refine WL.y (hy := (by first | exact fa | exact faE)) (h := ?_)
        refine WL.y (hy := (by first | exact ldA | exact ldEA)) (h := ?_)
        refine WL.y (hy := (by first | exact fa | exact faE)) (h := ?_)
        refine WL.y (hy := (by first | exact ldA | exact ldEA)) (h := ?_)
        refine cl0 (hc := fun w hS => C_rest_tie f b3 (wonV b.st) b.g hf w) (h := ?_)
        refine WL.y (hy := (by first | exact fa | exact faE)) (h := ?_)
        refine WL.y (hy := ixA) (h := ?_)
        first | refine st (h := ?_) | refine stE (h := ?_)
        refine nl (h := ?_)
        refine q_seq (h := ?_)
        refine ct (X := Unit) (fun _ => True) (fun _ => [(2, .pointer (some ⟨b0, 0, none⟩)), (3, .pointer (some ⟨b1, 0, none⟩)), (4, .pointer (some ⟨b2, 0, none⟩)), (5, .bool false), (6, .pointer (some ⟨b4, 0, none⟩)), (7, .pointer (some ⟨b5, 0, none⟩))]) (fun _ => [.obj b3 (.map #[] 0), .blk b5 159 [.int .i64 (wonV b.st).1, .int .i64 (wonV b.st).2, .int .i64 b.g.1, .int .i64 b.g.2, .int .i64 (numV b), .int .i64 (tieN f (wonV b.st) b.g), .int .i64 (t1V b)], .blk b4 156 (restc f b3), .blk b0 23 f.cells, .blk b1 28 (b.cells A n c), .blk b2 103 [.int .i64 0, .int .i64 0, .int .i64 0, .int .i64 0], .ro A 2 n (encP b.st)]) (h1 := ?_) (h2 := ?_)
        · skip
          refine sq (h := ?_)
          refine rg (h := ?_)
          refine WL.y (hy := (by first | exact fa | exact faE)) (h := ?_)
          refine WL.y (hy := (by first | exact ld | exact ldE)) (h := ?_)
          refine WL.y (hy := gtr) (h := ?_)
          refine nl (h := ?_)
          refine q_seq (h := ?_)
          refine cd (by exact rfl) (fun h7 => ?_) (fun h7 => ?_)
          · skip
            have hpos : 0 < numV b := of_decide_eq_true h7
            have hlast : (es ++ List.replicate G 0)[(numV b - 1).toNat]? = some (t1V b) := by
              obtain ⟨pre, hpre⟩ := hzt
              rw [show (numV b - 1).toNat = es.length + G - 1 by omega, t1V, hG]
              cases hGc : G with
              | zero =>
                rw [hpre, hlen]
                rcases Nat.eq_zero_or_pos n with hn0 | hn0
                · have h9 : es.length = 0 := by rw [hze, hn0]; rfl
                  omega
                · obtain ⟨z', hz'⟩ : ∃ z', n = z' + 1 := ⟨n - 1, by omega⟩
                  have hp' : b.st[z']? = some (b.st[z']'(by omega)) := List.getElem?_eq_getElem (by omega)
                  rw [hz', tailE_succ hp', List.replicate_zero, List.append_nil]
                  simp
              | succ G' =>
                rw [List.getElem?_append_right (by omega), List.getElem?_replicate, if_pos (by omega), decide_eq_true (by omega)]; rfl
            have hle9 := encI_at hlast
            refine rg (h := ?_)
            refine WL.y (hy := mv) (h := ?_)
            refine WL.y (hy := (by first | exact fa | exact faE)) (h := ?_)
            refine WL.y (hy := (by first | exact ld | exact ldE)) (h := ?_)
            refine WL.y (hy := subI) (h := ?_)
            refine WL.y (hy := ix (A := v.A) (m := es.length + G) (hb := by omega)) (h := ?_)
            refine WL.y (hy := ldE (A := v.A) (hk := hle9)) (h := ?_)
            refine WL.y (hy := (by first | exact fa | exact faE)) (h := ?_)
            refine WL.y (hy := ixA) (h := ?_)
            first | refine st (h := ?_) | refine stE (h := ?_)
            refine nl (h := ?_)
            first | exact ctn () trivial (by repeat (first | exact trivial | refine ⟨rfl, ?_⟩)) (by rw [ht0]; repeat (first | exact SubL.nil | (apply SubL.cons; (repeat (first | exact At.here | apply At.there))) | exact SubL.refl _ | apply SubL.skip)) | exact ctn () trivial (by repeat (first | exact trivial | refine ⟨rfl, ?_⟩)) (by repeat (first | exact SubL.nil | (apply SubL.cons; (repeat (first | exact At.here | apply At.there))) | exact SubL.refl _ | apply SubL.skip))
          · skip
            have hz0 : ¬ 0 < numV b := of_decide_eq_false h7
            have ht0 : t1V b = 0 := by
              obtain ⟨pre, hpre⟩ := hzt
              rw [t1V]
              cases hc : decide (0 < b.g.1 + b.g.2)
              · rw [cond_false, hlen]
                have he : es = [] := List.eq_nil_of_length_eq_zero (by omega)
                rw [he] at hpre
                have := (List.append_eq_nil_iff.1 hpre.symm).2
                rw [this]; rfl
              · rfl
            refine skp (h := ?_)
            first | exact ctn () trivial (by repeat (first | exact trivial | refine ⟨rfl, ?_⟩)) (by rw [ht0]; repeat (first | exact SubL.nil | (apply SubL.cons; (repeat (first | exact At.here | apply At.there))) | exact SubL.refl _ | apply SubL.skip)) | exact ctn () trivial (by repeat (first | exact trivial | refine ⟨rfl, ?_⟩)) (by repeat (first | exact SubL.nil | (apply SubL.cons; (repeat (first | exact At.here | apply At.there))) | exact SubL.refl _ | apply SubL.skip))
        rintro ⟨⟩ -
        refine sq (h := ?_)
        refine rg (h := ?_)
        refine WL.y (hy := (by first | exact ldA | exact ldEA)) (h := ?_)
        refine WL.y (hy := (by first | exact ldA | exact ldEA)) (h := ?_)
        refine clT (hc := fromB_all f hf hbd 200 ⟨wonV b.st, b.g, numV b, tieN f (wonV b.st) b.g, t1V b⟩ [] #[] 0 b3 hV rfl (by show remV f (wonV b.st) b.g < _; have := rem_le hf hV; omega) ⟨by show 0 ≤ numV b; omega, by show numV b + remV f (wonV b.st) b.g ≤ 1000; have := rem_le hf hV; omega⟩ mapIs0 (good_nil f)) (h := fun x hx => ?_)
        dsimp only
        obtain ⟨r, hr⟩ : ∃ r, r = fromP f (wonV b.st) b.g (numV b) (t1V b) := ⟨_, rfl⟩
        have hrb := csb_P (n := numV b) (t1 := t1V b) hf hV
        rw [← hr] at hrb ⊢
        unfold CsB at hrb
        first | refine stA (h := ?_) | refine stEA (h := ?_)
        refine nl (h := ?_)
        refine q_seq (h := ?_)
        refine sq (h := ?_)
        refine sq (h := ?_)
        refine rg (h := ?_)
        refine WL.y (hy := (by first | exact ldA | exact ldEA)) (h := ?_)
        refine cl0 (hc := fun w hS => C_balls_begun _ _ _ _ w) (h := ?_)
        refine WL.y (hy := mv) (h := ?_)
        refine WL.y (hy := ex) (h := ?_)
        refine WL.y (hy := ex) (h := ?_)
        refine WL.y (hy := asg) (h := ?_)
        refine WL.y (hy := asg) (h := ?_)
        refine nl (h := ?_)
        refine q_seq (h := ?_)
        refine sq (h := ?_)
        refine rg (h := ?_)
        refine WL.y (hy := mv) (h := ?_)
        refine WL.y (hy := notB) (h := ?_)
        refine nl (h := ?_)
        refine q_seq (h := ?_)
        refine cd (by exact rfl) (fun h8 => ?_) (fun h8 => ?_)
        · skip
          have hz : (isZ b.g && isZ b.p) = true := by
            have h' : (!(!isZ b.g || !isZ b.p)) = true := h8
            cases h1 : isZ b.g <;> cases h2 : isZ b.p <;> rw [h1, h2] at h' <;> first | rfl | cases h'
          have hE : restC f b = bumpC r false true := by rw [restC, hov, cond_false, hz, ← hr]
          refine rg (h := ?_)
          refine WL.y (hy := (by first | exact fa | exact faE)) (h := ?_)
          refine WL.y (hy := (by first | exact fa | exact faE)) (h := ?_)
          refine WL.y (hy := (by first | exact ld | exact ldE)) (h := ?_)
          refine WL.y (hy := addI) (h := ?_)
          refine WL.y (hy := (by first | exact fa | exact faE)) (h := ?_)
          refine WL.y (hy := (by first | exact fa | exact faE)) (h := ?_)
          refine WL.y (hy := (by first | exact ld | exact ldE)) (h := ?_)
          refine WL.y (hy := addI) (h := ?_)
          refine WL.y (hy := bd) (h := ?_)
          refine WL.y (hy := (by first | exact fa | exact faE)) (h := ?_)
          first | refine stA (h := ?_) | refine stEA (h := ?_)
          refine nl (h := ?_)
          refine q_seq (h := ?_)
          refine sq (h := ?_)
          refine rg (h := ?_)
          refine WL.y (hy := (by first | exact ldA | exact ldEA)) (h := ?_)
          first | refine stA (h := ?_) | refine stEA (h := ?_)
          refine WL.y (hy := asg) (h := ?_)
          refine nl (h := ?_)
          refine q_seq (h := ?_)
          refine rtn (h := ?_)
          refine q_ret (hR := ?_)
          rw [hE, hov, bumpC, show bz false = 0 from rfl, show bz true = 1 from rfl, Int.add_zero, Int.add_zero]
          exact fun w hS => ⟨rfl, hS.sub (by repeat (first | exact SubL.nil | (apply SubL.cons; (repeat (first | exact At.here | apply At.there))) | exact SubL.refl _ | apply SubL.skip))⟩
        · skip
          have hz : (isZ b.g && isZ b.p) = false := by
            have h' : (!(!isZ b.g || !isZ b.p)) = false := h8
            cases h1 : isZ b.g <;> cases h2 : isZ b.p <;> rw [h1, h2] at h' <;> first | rfl | cases h'
          have hE : restC f b = bumpC r false false := by rw [restC, hov, cond_false, hz, ← hr]
          refine skp (h := ?_)
          refine q_seq (h := ?_)
          refine sq (h := ?_)
          refine rg (h := ?_)
          refine WL.y (hy := (by first | exact ldA | exact ldEA)) (h := ?_)
          first | refine stA (h := ?_) | refine stEA (h := ?_)
          refine WL.y (hy := asg) (h := ?_)
          refine nl (h := ?_)
          refine q_seq (h := ?_)
          refine rtn (h := ?_)
          refine q_ret (hR := ?_)
          rw [hE, hov, bumpC, show bz false = 0 from rfl, Int.add_zero, Int.add_zero, Int.add_zero, Int.add_zero]
          exact fun w hS => ⟨rfl, hS.sub (by repeat (first | exact SubL.nil | (apply SubL.cons; (repeat (first | exact At.here | apply At.there))) | exact SubL.refl _ | apply SubL.skip))⟩
end Go.Proofs.Ytacaojifempclaa

namespace Go.Proofs.Ytacaojifempclaa
open Go Go.RowKit

def shortV (f : Fmt) : Int := bif decide ((ruleV f (decide (f.sets = 1))).1 = 0) then 1 else max 2 f.games
def fewV (f : Fmt) : Int := bif decide ((ruleV f (decide (f.sets = 1))).1 = 0) then max (ruleV f (decide (f.sets = 1))).2 2 else 4 * max 2 f.games
def highV (f : Fmt) : Int := bif decide (0 ≤ f.ltie) && (decide (f.sets = 1) || decide (0 ≤ f.tie)) then (2 * f.sets - 2) * (2 * f.tie + 1) + 2 * f.ltie + 1 else -1
theorem ext_form {f : Fmt} {s : Pr} (ht : TieOk f s) : extV f s = ⟨bif decide (s.1 = 0) then 1 else max f.games 2, bif decide (0 ≤ s.1) then 2 * s.1 + 1 else -1, bif decide (s.1 = 0) then max s.2 2 else 4 * max f.games 2⟩ := by
  unfold extV
  unfold TieOk at ht
  by_cases h0 : s.1 = 0
  · rw [decide_eq_true h0, h0]; rfl
  · rw [decide_eq_false h0]
    by_cases h1 : s.1 = -1
    · rw [decide_eq_true h1, decide_eq_false (show ¬ 0 ≤ s.1 by omega)]; rfl
    · rw [decide_eq_false h1, decide_eq_true (show 0 ≤ s.1 by omega)]; rfl
theorem range_ref {f : Fmt} (hf : f.Ok) : rangeE f = ⟨f.sets * shortV f, highV f, f.sets * fewV f⟩ := by
  have ht : TieOk f (f.tie, f.to) := ⟨hf.g0, hf.t⟩
  have hl : TieOk f (f.ltie, f.lto) := ⟨hf.g0, hf.lt⟩
  unfold rangeE
  by_cases h1 : f.sets = 1
  · rw [decide_eq_true h1, cond_true, lastE, ext_form hl, shortV, fewV, highV, decide_eq_true h1, h1]
    simp only [ruleV, cond_true, Bool.true_or, Bool.and_true, Int.one_mul]
    rw [Int.max_comm f.games 2, show (2 * 1 - 2 : Int) = 0 by rfl, Int.zero_mul, Int.zero_add]
    rfl
  · rw [decide_eq_false h1, cond_false, lastE, eachE, ext_form hl, ext_form ht, shortV, fewV, highV, decide_eq_false h1]
    simp only [ruleV, cond_false, Bool.false_or]
    rw [Int.max_comm f.games 2]
    by_cases a : 0 ≤ f.ltie
    · by_cases b : 0 ≤ f.tie
      · simp only [decide_eq_true a, decide_eq_true b, cond_true, Bool.true_and]
        rw [decide_eq_true (show (0 : Int) ≤ 2 * f.ltie + 1 by omega), decide_eq_true (show (0 : Int) ≤ 2 * f.tie + 1 by omega)]
        simp only [Bool.and_self, cond_true, Int.add_assoc]
        rfl
      · simp only [decide_eq_true a, decide_eq_false b, cond_true, cond_false, Bool.and_false]
        rw [show decide ((0 : Int) ≤ -1) = false from rfl, Bool.and_false]
        rfl
    · simp only [decide_eq_false a, cond_false, Bool.false_and]
      rfl
theorem bdd_high {f : Fmt} (hf : f.Ok) (h : ¬ (rangeE f).high < 0) : Bdd f ∧ (rangeE f).high = (2 * f.sets - 2) * (2 * f.tie + 1) + 2 * f.ltie + 1 := by
  rw [range_ref hf] at h ⊢
  dsimp only at h ⊢
  unfold highV at *
  cases hc : decide (0 ≤ f.ltie) && (decide (f.sets = 1) || decide (0 ≤ f.tie))
  · rw [hc] at h; exact absurd (show (-1 : Int) < 0 by decide) h
  · rw [Bool.and_eq_true, Bool.or_eq_true, decide_eq_true_eq, decide_eq_true_eq, decide_eq_true_eq] at hc
    exact ⟨hc, rfl⟩
theorem C_ref1_Range (f : Fmt) (w : World) : C0 Try.prog 60 [f.val] w (.tuple (rangeR f).toArray) := by
  refine ⟨en Try.func60 Try.ntmps60 (St.init w) (h := fun F => ?_)⟩
  refine sq (h := ?_)
  refine rg (h := ?_)
  refine bxA (h := fun b0 => ?_)
  refine al (h := fun b1 => ?_)
  refine WL.y (hy := asg) (h := ?_)
  refine WL.y (hy := asg) (h := ?_)
  refine nl (h := ?_)
  refine q_seq (h := ?_)
  refine sq (h := ?_)
  refine sq (h := ?_)
  refine rg (h := ?_)
  refine WL.y (hy := (by first | exact ldA | exact ldEA)) (h := ?_)
  refine cl0 (hc := fun w hS => C_ref1_Check _ w) (h := ?_)
  refine WL.y (hy := neq) (h := ?_)
  refine nl (h := ?_)
  refine q_seq (h := ?_)
  refine cd (by exact rfl) (fun h0 => ?_) (fun h0 => ?_)
  · skip
    have h' : decide (chkF f = 0) = false := by simpa using h0
    have hck : (!decide (chkF f = 0)) = true := h0
    have hR : rangeR f = [.agg #[.int .i64 0, .int .i64 0], .int .i64 0, .int .i64 10] := by rw [rangeR, h', chk_bad hck]; rfl
    refine sq (h := ?_)
    refine rg (h := ?_)
    refine WL.y (hy := bd) (h := ?_)
    first | refine stA (h := ?_) | refine stEA (h := ?_)
    refine WL.y (hy := asg) (h := ?_)
    refine WL.y (hy := asg) (h := ?_)
    refine nl (h := ?_)
    refine q_seq (h := ?_)
    refine rtn (h := ?_)
    refine q_then_ret (h := ?_)
    refine q_ret (hR := ?_)
    rw [hR]
    exact fun w hS => ⟨rfl, hS.sub (by repeat (first | exact SubL.nil | (apply SubL.cons; (repeat (first | exact At.here | apply At.there))) | exact SubL.refl _ | apply SubL.skip))⟩
  · skip
    have hf := chkF_ok h0
    have hc : decide (chkF f = 0) = true := by simpa using h0
    have hR0 : rangeR f = [.agg #[.int .i64 (f.sets * shortV f), .int .i64 (highV f)], .int .i64 (f.sets * fewV f), .int .i64 0] := by rw [rangeR, hc, range_ref hf]; rfl
    have hs0 := hf.s0
    have hs1 := hf.s1
    have hg0 := hf.g0
    have hg1 := hf.g1
    have ho := hf.o1
    have hlo := hf.l1
    have ho0 := hf.o0
    have hlo0 := hf.l0
    have ht := hf.t
    have hlt := hf.lt
    have hrb : 1 ≤ (ruleV f (decide (f.sets = 1))).2 ∧ (ruleV f (decide (f.sets = 1))).2 ≤ 15 := by unfold ruleV; cases decide (f.sets = 1) <;> simp only [cond_true, cond_false] <;> omega
    have hsv : f.sets = 1 ∨ f.sets = 2 ∨ f.sets = 3 := by omega
    have hsh : 1 ≤ shortV f ∧ shortV f ≤ 8 := by unfold shortV; cases decide ((ruleV f (decide (f.sets = 1))).1 = 0) <;> simp only [cond_true, cond_false] <;> omega
    have hfw : 1 ≤ fewV f ∧ fewV f ≤ 32 := by unfold fewV; cases decide ((ruleV f (decide (f.sets = 1))).1 = 0) <;> simp only [cond_true, cond_false] <;> omega
    have m1 : -1000 ≤ f.sets * shortV f ∧ f.sets * shortV f ≤ 1000 := by rcases hsv with e | e | e <;> rw [e] <;> omega
    have m2 : -1000 ≤ f.sets * fewV f ∧ f.sets * fewV f ≤ 1000 := by rcases hsv with e | e | e <;> rw [e] <;> omega
    have m3 : -1000 ≤ (2 * f.sets - 2) * (2 * f.tie + 1) ∧ (2 * f.sets - 2) * (2 * f.tie + 1) ≤ 1000 := by rcases hsv with e | e | e <;> rw [e] <;> omega
    refine skp (h := ?_)
    refine q_seq (h := ?_)
    refine sq (h := ?_)
    refine rg (h := ?_)
    refine WL.y (hy := (by first | exact fa | exact faE)) (h := ?_)
    refine WL.y (hy := (by first | exact ld | exact ldE)) (h := ?_)
    refine WL.y (hy := eql) (h := ?_)
    refine WL.y (hy := asg) (h := ?_)
    refine nl (h := ?_)
    refine q_seq (h := ?_)
    refine sq (h := ?_)
    refine rg (h := ?_)
    refine WL.y (hy := (by first | exact ldA | exact ldEA)) (h := ?_)
    refine WL.y (hy := mv) (h := ?_)
    refine cl0 (hc := fun w hS => C_ref1_Rule f _ w) (h := ?_)
    refine WL.y (hy := mv) (h := ?_)
    refine WL.y (hy := ex) (h := ?_)
    refine WL.y (hy := ex) (h := ?_)
    refine WL.y (hy := asg) (h := ?_)
    refine WL.y (hy := asg) (h := ?_)
    refine nl (h := ?_)
    refine q_seq (h := ?_)
    refine sq (h := ?_)
    refine rgD0 (by kernel_rfl) (h := ?_)
    refine tk 0 (hy := (by first | exact fa | exact faE)) (h := ?_)
    refine tk 1 (hy := (by first | exact ld | exact ldE)) (h := ?_)
    refine tk 2 (hy := maxI) (h := ?_)
    refine tk 3 (hy := (by first | exact fa | exact faE)) (h := ?_)
    refine tk 4 (hy := (by first | exact ld | exact ldE)) (h := ?_)
    refine tk 5 (hy := maxI) (h := ?_)
    refine tk 6 (hy := mulI) (h := ?_)
    refine tk 7 (hy := asg) (h := ?_)
    refine tk 8 (hy := asg) (h := ?_)
    refine dn (h := ?_)
    refine q_seq (h := ?_)
    refine ct (X := Unit) (fun _ => True) (fun _ => [(1, .pointer (some ⟨b0, 0, none⟩)), (2, .pointer (some ⟨b1, 0, none⟩)), (3, .int .i64 0), (4, .int .i64 0), (5, .bool (decide (f.sets = 1))), (8, .int .i64 (shortV f)), (9, .int .i64 (fewV f))]) (fun _ => [.blk b1 39 [.int .i64 0, .int .i64 0], .blk b0 23 f.cells]) (h1 := ?_) (h2 := ?_)
    · skip
      refine sq (h := ?_)
      refine rg (h := ?_)
      refine WL.y (hy := mv) (h := ?_)
      refine WL.y (hy := eql) (h := ?_)
      refine nl (h := ?_)
      refine q_seq (h := ?_)
      refine cd (by exact rfl) (fun h1 => ?_) (fun h1 => ?_)
      · skip
        have k1 : shortV f = 1 := by rw [shortV, h1]; rfl
        have k2 : fewV f = max (ruleV f (decide (f.sets = 1))).2 2 := by rw [fewV, h1]; rfl
        refine rg (h := ?_)
        refine WL.y (hy := mv) (h := ?_)
        refine WL.y (hy := maxI) (h := ?_)
        refine WL.y (hy := asg) (h := ?_)
        refine WL.y (hy := asg) (h := ?_)
        refine nl (h := ?_)
        rw [k1, k2]
        exact ctn () trivial (by repeat (first | exact trivial | refine ⟨rfl, ?_⟩)) (by repeat (first | exact SubL.nil | (apply SubL.cons; (repeat (first | exact At.here | apply At.there))) | exact SubL.refl _ | apply SubL.skip))
      · skip
        have k1 : shortV f = max 2 f.games := by rw [shortV, h1]; rfl
        have k2 : fewV f = 4 * max 2 f.games := by rw [fewV, h1]; rfl
        refine skp (h := ?_)
        rw [k1, k2]
        exact ctn () trivial (by repeat (first | exact trivial | refine ⟨rfl, ?_⟩)) (by repeat (first | exact SubL.nil | (apply SubL.cons; (repeat (first | exact At.here | apply At.there))) | exact SubL.refl _ | apply SubL.skip))
    rintro ⟨⟩ -
    refine sq (h := ?_)
    refine rg (h := ?_)
    refine WL.y (hy := (by first | exact fa | exact faE)) (h := ?_)
    refine WL.y (hy := (by first | exact ld | exact ldE)) (h := ?_)
    refine WL.y (hy := mv) (h := ?_)
    refine WL.y (hy := mulI (a := f.sets) (b := shortV f) (hb := by omega)) (h := ?_)
    refine WL.y (hy := bd) (h := ?_)
    first | refine stA (h := ?_) | refine stEA (h := ?_)
    refine nl (h := ?_)
    refine q_seq (h := ?_)
    refine ct (X := Unit) (fun _ => True) (fun _ => [(1, .pointer (some ⟨b0, 0, none⟩)), (2, .pointer (some ⟨b1, 0, none⟩)), (3, .int .i64 0), (4, .int .i64 0), (9, .int .i64 (fewV f))]) (fun _ => [.blk b1 39 [.int .i64 (f.sets * shortV f), .int .i64 (highV f)], .blk b0 23 f.cells]) (h1 := ?_) (h2 := ?_)
    · skip
      refine sq (h := ?_)
      refine rg (h := ?_)
      refine WL.y (hy := (by first | exact fa | exact faE)) (h := ?_)
      refine WL.y (hy := (by first | exact ld | exact ldE)) (h := ?_)
      refine WL.y (hy := geq) (h := ?_)
      refine WL.y (hy := mv) (h := ?_)
      apply brAnd 7 42 49 (by exact rfl)
      · intro hb2
        refine un (h := ?_)
        refine WL.y (hy := mv) (h := ?_)
        refine un (h := ?_)
        refine WL.y (hy := mv) (h := ?_)
        apply brOr 4 44 48 (by exact rfl)
        · intro hb3
          refine un (h := ?_)
          refine WL.y (hy := (by first | exact fa | exact faE)) (h := ?_)
          refine un (h := ?_)
          refine WL.y (hy := (by first | exact ld | exact ldE)) (h := ?_)
          refine un (h := ?_)
          refine WL.y (hy := geq) (h := ?_)
          refine un (h := ?_)
          refine WL.y (hy := (by first | exact pkT | exact pkF)) (h := ?_)
          exact mg (by repeat (first | exact trivial | refine ⟨rfl, ?_⟩ | refine ⟨by rw [hb3]; rfl, ?_⟩ | refine ⟨by rw [hb2]; rfl, ?_⟩)) (by repeat (first | exact SubL.nil | (apply SubL.cons; (repeat (first | exact At.here | apply At.there))) | exact SubL.refl _ | apply SubL.skip))
        · intro hb3
          repeat (first | refine un (h := ?_) | refine sk (h := ?_) | refine WL.y (hy := pkF) (h := ?_) | refine WL.y (hy := pkT) (h := ?_))
          exact mg (by repeat (first | exact trivial | refine ⟨rfl, ?_⟩ | refine ⟨by rw [hb3]; rfl, ?_⟩ | refine ⟨by rw [hb2]; rfl, ?_⟩)) (by repeat (first | exact SubL.nil | (apply SubL.cons; (repeat (first | exact At.here | apply At.there))) | exact SubL.refl _ | apply SubL.skip))
        refine WL.y (hy := (by first | exact pkT | exact pkF)) (h := ?_)
        exact mg (by repeat (first | exact trivial | refine ⟨rfl, ?_⟩ | refine ⟨by rw [hb2]; rfl, ?_⟩)) (by repeat (first | exact SubL.nil | (apply SubL.cons; (repeat (first | exact At.here | apply At.there))) | exact SubL.refl _ | apply SubL.skip))
      · intro hb2
        repeat (first | refine un (h := ?_) | refine sk (h := ?_) | refine WL.y (hy := pkF) (h := ?_) | refine WL.y (hy := pkT) (h := ?_))
        exact mg (by repeat (first | exact trivial | refine ⟨rfl, ?_⟩ | refine ⟨by rw [hb2]; rfl, ?_⟩)) (by repeat (first | exact SubL.nil | (apply SubL.cons; (repeat (first | exact At.here | apply At.there))) | exact SubL.refl _ | apply SubL.skip))
      refine nl (h := ?_)
      refine q_seq (h := ?_)
      refine cd (by exact rfl) (fun h4 => ?_) (fun h4 => ?_)
      · skip
        have k3 : highV f = (2 * f.sets - 2) * (2 * f.tie + 1) + 2 * f.ltie + 1 := by rw [highV, h4]; rfl
        refine rg (h := ?_)
        refine WL.y (hy := (by first | exact fa | exact faE)) (h := ?_)
        refine WL.y (hy := (by first | exact ld | exact ldE)) (h := ?_)
        refine WL.y (hy := mulI) (h := ?_)
        refine WL.y (hy := subI) (h := ?_)
        refine WL.y (hy := (by first | exact fa | exact faE)) (h := ?_)
        refine WL.y (hy := (by first | exact ld | exact ldE)) (h := ?_)
        refine WL.y (hy := mulI) (h := ?_)
        refine WL.y (hy := addI) (h := ?_)
        refine WL.y (hy := mulI (a := 2 * f.sets - 2) (b := 2 * f.tie + 1) (hb := by omega)) (h := ?_)
        refine WL.y (hy := (by first | exact fa | exact faE)) (h := ?_)
        refine WL.y (hy := (by first | exact ld | exact ldE)) (h := ?_)
        refine WL.y (hy := mulI) (h := ?_)
        refine WL.y (hy := addI) (h := ?_)
        refine WL.y (hy := addI) (h := ?_)
        refine WL.y (hy := (by first | exact fa | exact faE)) (h := ?_)
        first | refine st (h := ?_) | refine stE (h := ?_)
        refine nl (h := ?_)
        rw [k3]
        exact ctn () trivial (by repeat (first | exact trivial | refine ⟨rfl, ?_⟩)) (by repeat (first | exact SubL.nil | (apply SubL.cons; (repeat (first | exact At.here | apply At.there))) | exact SubL.refl _ | apply SubL.skip))
      · skip
        have k3 : highV f = -1 := by rw [highV, h4]; rfl
        refine skp (h := ?_)
        rw [k3]
        exact ctn () trivial (by repeat (first | exact trivial | refine ⟨rfl, ?_⟩)) (by repeat (first | exact SubL.nil | (apply SubL.cons; (repeat (first | exact At.here | apply At.there))) | exact SubL.refl _ | apply SubL.skip))
    rintro ⟨⟩ -
    have hR := hR0
    refine sq (h := ?_)
    refine rgD (by kernel_rfl) [(1000000, .blk b0 23 f.cells), (5, .blk b1 39 _)] (by repeat (first | exact HS.nil | (apply HS.keep; (repeat (first | exact At.here | apply At.there))) | (apply HS.ro; (repeat (first | exact Rds.ro | exact Rds.own | apply Rds.there))))) (h := ?_)
    refine tk 0 (hy := (by first | exact ldA | exact ldEA)) (h := ?_)
    refine tk 1 (hy := (by first | exact fa | exact faE)) (h := ?_)
    refine tk 2 (hy := (by first | exact ld | exact ldE)) (h := ?_)
    refine tk 3 (hy := mv) (h := ?_)
    refine tk 4 (hy := mulI (a := f.sets) (b := fewV f) (hb := by omega)) (h := ?_)
    refine one 5 (h := ?_)
    first | refine stA (h := ?_) | refine stEA (h := ?_)
    refine nx (h := ?_)
    refine tk 6 (hy := asg) (h := ?_)
    refine tk 7 (hy := asg) (h := ?_)
    refine dn (h := ?_)
    refine q_seq (h := ?_)
    refine rtn (h := ?_)
    refine q_ret (hR := ?_)
    rw [hR]
    exact fun w hS => ⟨rfl, hS.sub (by repeat (first | exact SubL.nil | (apply SubL.cons; (repeat (first | exact At.here | apply At.there))) | exact SubL.refl _ | apply SubL.skip))⟩

def checkE (f : Fmt) (b : Brd) : Int := bif !decide (chkF f = 0) then chkF f else bif !brdOk b then 12 else bif !(arisesV f b).2 then 12 else bif decide ((rangeE f).high < 0) then 3 else 0
theorem check_form (f : Fmt) (b : Brd) : ∃ (is : Bool) (e : Int), arisesR f b = [.bool is, .int .i64 e] ∧ checkE f b = (bif !decide (e = 0) then e else bif !is then 12 else bif decide ((rangeE f).high < 0) then 3 else 0) ∧ (e = 0 → (!decide (chkF f = 0)) = false ∧ brdOk b = true ∧ (arisesV f b).2 = is) := by
  unfold arisesR checkE
  cases hc : !decide (chkF f = 0)
  · cases hb : brdOk b
    · exact ⟨false, 12, rfl, rfl, fun e => by cases e⟩
    · exact ⟨_, 0, rfl, rfl, fun _ => ⟨rfl, rfl, rfl⟩⟩
  · have h10 := chk_bad hc
    refine ⟨false, chkF f, rfl, by rw [h10]; rfl, fun e => by rw [h10] at e; cases e⟩
theorem check_ok {f : Fmt} {b : Brd} (h : checkE f b = 0) : f.Ok ∧ brdOk b = true ∧ (arisesV f b).2 = true ∧ ¬ (rangeE f).high < 0 := by
  obtain ⟨is, e, -, h1, h2⟩ := check_form f b
  rw [h1] at h
  cases he : !decide (e = 0)
  · obtain ⟨a1, a2, a3⟩ := h2 (by simpa using he)
    rw [he, cond_false] at h
    cases his : is
    · rw [his] at h; cases h
    · rw [his] at h a3
      cases hh : decide ((rangeE f).high < 0)
      · exact ⟨chkF_ok a1, a2, a3, of_decide_eq_false hh⟩
      · rw [hh] at h; cases h
  · rw [he, cond_true] at h
    rw [h] at he; cases he
theorem rangeR_ok {f : Fmt} (h : (!decide (chkF f = 0)) = false) : rangeR f = [.agg #[.int .i64 (rangeE f).low, .int .i64 (rangeE f).high], .int .i64 (rangeE f).pts, .int .i64 0] := by
  have hc : decide (chkF f = 0) = true := by simpa using h
  rw [rangeR, hc]; rfl
theorem C_balls_check (f : Fmt) (b : Brd) (A : Option Addr) (n c : Nat) (w : World) (h : Rd w A 2 n (encP b.st)) (hn : n ≤ 9223372036854775807) : C0 Try.prog 58 [f.val, b.val A n c] w (.int .i64 (checkE f b)) := by
  obtain ⟨is, e, hA, hL, hfa⟩ := check_form f b
  refine ⟨en Try.func58 Try.ntmps58 ((St.init w).share (e := .ro A 2 n (encP b.st)) h rfl rfl rfl) (h := fun F => ?_)⟩
  refine sq (h := ?_)
  refine rg (h := ?_)
  refine bxA (h := fun b0 => ?_)
  refine bxA (h := fun b1 => ?_)
  refine WL.y (hy := asg) (h := ?_)
  refine nl (h := ?_)
  refine q_seq (h := ?_)
  refine sq (h := ?_)
  refine rg (h := ?_)
  refine WL.y (hy := (by first | exact ldA | exact ldEA)) (h := ?_)
  refine WL.y (hy := (by first | exact ldA | exact ldEA)) (h := ?_)
  refine cl0 (hc := fun w hS => C_score_Arises f b A n c w (hS.get (by repeat (first | exact Rds.ro | exact Rds.own | apply Rds.there))) hn) (h := ?_)
  rw [hA]
  refine WL.y (hy := mv) (h := ?_)
  refine WL.y (hy := ex) (h := ?_)
  refine WL.y (hy := ex) (h := ?_)
  refine WL.y (hy := asg) (h := ?_)
  refine WL.y (hy := asg) (h := ?_)
  refine nl (h := ?_)
  refine q_seq (h := ?_)
  refine sq (h := ?_)
  refine sq (h := ?_)
  refine rg (h := ?_)
  refine WL.y (hy := mv) (h := ?_)
  refine WL.y (hy := neq) (h := ?_)
  refine nl (h := ?_)
  refine q_seq (h := ?_)
  refine cd (by exact rfl) (fun h0 => ?_) (fun h0 => ?_)
  · skip
    have hE : checkE f b = e := by rw [hL, h0]; rfl
    refine sq (h := ?_)
    refine rg (h := ?_)
    refine WL.y (hy := mv) (h := ?_)
    refine WL.y (hy := asg) (h := ?_)
    refine nl (h := ?_)
    refine q_seq (h := ?_)
    refine rtn (h := ?_)
    refine q_then_ret (h := ?_)
    refine q_ret (hR := ?_)
    rw [hE]
    exact fun w hS => ⟨rfl, hS.sub (by repeat (first | exact SubL.nil | (apply SubL.cons; (repeat (first | exact At.here | apply At.there))) | exact SubL.refl _ | apply SubL.skip))⟩
  · skip
    have he0 : e = 0 := by simpa using h0
    obtain ⟨hck, hbo, hari⟩ := hfa he0
    rw [h0, cond_false] at hL
    refine skp (h := ?_)
    refine q_seq (h := ?_)
    refine sq (h := ?_)
    refine sq (h := ?_)
    refine rg (h := ?_)
    refine WL.y (hy := mv) (h := ?_)
    refine WL.y (hy := notB) (h := ?_)
    refine nl (h := ?_)
    refine q_seq (h := ?_)
    refine cd (by exact rfl) (fun h1 => ?_) (fun h1 => ?_)
    · skip
      have hE : checkE f b = 12 := by rw [hL, h1]; rfl
      refine sq (h := ?_)
      refine rg (h := ?_)
      refine WL.y (hy := asg) (h := ?_)
      refine nl (h := ?_)
      refine q_seq (h := ?_)
      refine rtn (h := ?_)
      refine q_then_ret (h := ?_)
      refine q_ret (hR := ?_)
      rw [hE]
      exact fun w hS => ⟨rfl, hS.sub (by repeat (first | exact SubL.nil | (apply SubL.cons; (repeat (first | exact At.here | apply At.there))) | exact SubL.refl _ | apply SubL.skip))⟩
    · skip
      rw [h1, cond_false] at hL
      refine skp (h := ?_)
      refine q_seq (h := ?_)
      refine sq (h := ?_)
      refine sq (h := ?_)
      refine rg (h := ?_)
      refine WL.y (hy := (by first | exact ldA | exact ldEA)) (h := ?_)
      refine cl0 (hc := fun w hS => C_score_Range f w) (h := ?_)
      rw [rangeR_ok hck]
      refine WL.y (hy := mv) (h := ?_)
      refine WL.y (hy := ex) (h := ?_)
      refine WL.y (hy := ex) (h := ?_)
      refine WL.y (hy := ex) (h := ?_)
      refine al (h := fun b2 => ?_)
      first | refine stA (h := ?_) | refine stEA (h := ?_)
      refine WL.y (hy := asg) (h := ?_)
      refine WL.y (hy := asg) (h := ?_)
      refine nl (h := ?_)
      refine q_seq (h := ?_)
      refine sq (h := ?_)
      refine rg (h := ?_)
      refine WL.y (hy := (by first | exact fa | exact faE)) (h := ?_)
      refine WL.y (hy := (by first | exact ld | exact ldE)) (h := ?_)
      refine WL.y (hy := lss) (h := ?_)
      refine nl (h := ?_)
      refine q_seq (h := ?_)
      refine cd (by exact rfl) (fun h2 => ?_) (fun h2 => ?_)
      · skip
        have hE : checkE f b = 3 := by rw [hL, h2]; rfl
        refine sq (h := ?_)
        refine rg (h := ?_)
        refine WL.y (hy := asg) (h := ?_)
        refine nl (h := ?_)
        refine q_seq (h := ?_)
        refine rtn (h := ?_)
        refine q_then_ret (h := ?_)
        refine q_ret (hR := ?_)
        rw [hE]
        exact fun w hS => ⟨rfl, hS.sub (by repeat (first | exact SubL.nil | (apply SubL.cons; (repeat (first | exact At.here | apply At.there))) | exact SubL.refl _ | apply SubL.skip))⟩
      · skip
        have hE : checkE f b = 0 := by rw [hL, h2]; rfl
        refine skp (h := ?_)
        refine q_seq (h := ?_)
        refine sq (h := ?_)
        refine rg (h := ?_)
        refine WL.y (hy := asg) (h := ?_)
        refine nl (h := ?_)
        refine q_seq (h := ?_)
        refine rtn (h := ?_)
        refine q_ret (hR := ?_)
        rw [hE]
        exact fun w hS => ⟨rfl, hS.sub (by repeat (first | exact SubL.nil | (apply SubL.cons; (repeat (first | exact At.here | apply At.there))) | exact SubL.refl _ | apply SubL.skip))⟩
def restR (f : Fmt) (b : Brd) : List Value := bif !decide (checkE f b = 0) then [pv (0, 0), pv (0, 0), .int .i64 (checkE f b)] else [pv (restC f b).1, pv (restC f b).2, .int .i64 0]
theorem C_balls_Rest (f : Fmt) (b : Brd) (A : Option Addr) (n c : Nat) (w : World) (h : Rd w A 2 n (encP b.st)) (hn : n ≤ 9223372036854775807) : C0 Try.prog 18 [f.val, b.val A n c] w (.tuple (restR f b).toArray) := by
  refine ⟨en Try.func18 Try.ntmps18 ((St.init w).share (e := .ro A 2 n (encP b.st)) h rfl rfl rfl) (h := fun F => ?_)⟩
  refine sq (h := ?_)
  refine rg (h := ?_)
  refine bxA (h := fun b0 => ?_)
  refine bxA (h := fun b1 => ?_)
  refine al (h := fun b2 => ?_)
  refine al (h := fun b3 => ?_)
  refine WL.y (hy := asg) (h := ?_)
  refine nl (h := ?_)
  refine q_seq (h := ?_)
  refine sq (h := ?_)
  refine sq (h := ?_)
  refine rg (h := ?_)
  refine WL.y (hy := (by first | exact ldA | exact ldEA)) (h := ?_)
  refine WL.y (hy := (by first | exact ldA | exact ldEA)) (h := ?_)
  refine cl0 (hc := fun w hS => C_balls_check _ _ _ _ _ w (hS.get (by repeat (first | exact Rds.ro | exact Rds.own | apply Rds.there))) (by omega)) (h := ?_)
  refine WL.y (hy := asg) (h := ?_)
  refine nl (h := ?_)
  refine q_seq (h := ?_)
  refine sq (h := ?_)
  refine rg (h := ?_)
  refine WL.y (hy := mv) (h := ?_)
  refine WL.y (hy := neq) (h := ?_)
  refine nl (h := ?_)
  refine q_seq (h := ?_)
  refine cd (by exact rfl) (fun h0 => ?_) (fun h0 => ?_)
  · skip
    have hE : restR f b = [pv (0, 0), pv (0, 0), .int .i64 (checkE f b)] := by rw [restR, h0]; rfl
    refine sq (h := ?_)
    refine rg (h := ?_)
    refine WL.y (hy := bd) (h := ?_)
    refine WL.y (hy := bd) (h := ?_)
    refine WL.y (hy := mv) (h := ?_)
    first | refine stA (h := ?_) | refine stEA (h := ?_)
    first | refine stA (h := ?_) | refine stEA (h := ?_)
    refine WL.y (hy := asg) (h := ?_)
    refine nl (h := ?_)
    refine q_seq (h := ?_)
    refine rtn (h := ?_)
    refine q_then_ret (h := ?_)
    refine q_ret (hR := ?_)
    rw [hE]
    exact fun w hS => ⟨rfl, hS.sub (by repeat (first | exact SubL.nil | (apply SubL.cons; (repeat (first | exact At.here | apply At.there))) | exact SubL.refl _ | apply SubL.skip))⟩
  · skip
    have hE : restR f b = [pv (restC f b).1, pv (restC f b).2, .int .i64 0] := by rw [restR, h0]; rfl
    obtain ⟨hf, hbo, hari, hhi⟩ := check_ok (by simpa using h0)
    refine skp (h := ?_)
    refine q_seq (h := ?_)
    refine sq (h := ?_)
    refine rg (h := ?_)
    refine WL.y (hy := (by first | exact ldA | exact ldEA)) (h := ?_)
    refine WL.y (hy := (by first | exact ldA | exact ldEA)) (h := ?_)
    refine cl0 (hc := fun w hS => C_balls_open f b hf (bdd_high hf hhi).1 hbo hari A n c w (hS.get (by repeat (first | exact Rds.ro | exact Rds.own | apply Rds.there)))) (h := ?_)
    refine WL.y (hy := mv) (h := ?_)
    refine WL.y (hy := ex) (h := ?_)
    refine WL.y (hy := ex) (h := ?_)
    refine al (h := fun b4 => ?_)
    first | refine stA (h := ?_) | refine stEA (h := ?_)
    refine WL.y (hy := asg) (h := ?_)
    refine nl (h := ?_)
    refine q_seq (h := ?_)
    refine sq (h := ?_)
    refine rgD (by kernel_rfl) [(1000000, .blk b4 103 (ccs (restC f b))), (4, .blk b2 39 [.int .i64 0, .int .i64 0]), (5, .blk b3 39 [.int .i64 0, .int .i64 0])] (by repeat (first | exact HS.nil | (apply HS.keep; (repeat (first | exact At.here | apply At.there))) | (apply HS.ro; (repeat (first | exact Rds.ro | exact Rds.own | apply Rds.there))))) (h := ?_)
    refine tk 0 (hy := (by first | exact fa | exact faE)) (h := ?_)
    refine tk 1 (hy := (by first | exact ldA | exact ldEA)) (h := ?_)
    refine tk 2 (hy := (by first | exact fa | exact faE)) (h := ?_)
    refine tk 3 (hy := (by first | exact ldA | exact ldEA)) (h := ?_)
    refine one 4 (h := ?_)
    first | refine stA (h := ?_) | refine stEA (h := ?_)
    refine nx (h := ?_)
    refine one 5 (h := ?_)
    first | refine stA (h := ?_) | refine stEA (h := ?_)
    refine nx (h := ?_)
    refine tk 6 (hy := asg) (h := ?_)
    refine dn (h := ?_)
    refine q_seq (h := ?_)
    refine rtn (h := ?_)
    refine q_ret (hR := ?_)
    rw [hE]
    exact fun w hS => ⟨rfl, hS.sub (by repeat (first | exact SubL.nil | (apply SubL.cons; (repeat (first | exact At.here | apply At.there))) | exact SubL.refl _ | apply SubL.skip))⟩
end Go.Proofs.Ytacaojifempclaa

namespace Go.Proofs.Ytacaojifempclaa
open Go Go.RowKit

theorem C_ref9_isTie (f : Fmt) (last : Bool) (g : Pr) (w : World) : C0 Try.prog 123 [f.val, .bool last, pv g] w (.bool (endR (ruleV f last) g.1 g.2)) := by
  refine ⟨en Try.func123 Try.ntmps123 (St.init w) (h := fun F => ?_)⟩
  refine sq (h := ?_)
  refine rg (h := ?_)
  refine bxA (h := fun b0 => ?_)
  refine bxA (h := fun b1 => ?_)
  refine WL.y (hy := asg) (h := ?_)
  refine nl (h := ?_)
  refine q_seq (h := ?_)
  refine sq (h := ?_)
  refine rg (h := ?_)
  refine WL.y (hy := (by first | exact ldA | exact ldEA)) (h := ?_)
  refine WL.y (hy := mv) (h := ?_)
  refine cl0 (hc := fun w hS => C_ref1_Rule f _ w) (h := ?_)
  refine WL.y (hy := mv) (h := ?_)
  refine WL.y (hy := ex) (h := ?_)
  refine WL.y (hy := ex) (h := ?_)
  refine WL.y (hy := asg) (h := ?_)
  refine WL.y (hy := asg) (h := ?_)
  refine nl (h := ?_)
  refine q_seq (h := ?_)
  refine sq (h := ?_)
  refine rg (h := ?_)
  refine WL.y (hy := mv) (h := ?_)
  refine WL.y (hy := geq) (h := ?_)
  refine WL.y (hy := mv) (h := ?_)
  apply brAnd 5 17 22 (by exact rfl)
  · intro hb0
    refine un (h := ?_)
    refine WL.y (hy := (by first | exact fa | exact faE)) (h := ?_)
    refine un (h := ?_)
    refine WL.y (hy := (by first | exact ld | exact ldE)) (h := ?_)
    refine un (h := ?_)
    refine WL.y (hy := mv) (h := ?_)
    refine un (h := ?_)
    refine WL.y (hy := eql) (h := ?_)
    refine WL.y (hy := (by first | exact pkT | exact pkF)) (h := ?_)
    exact mg (by repeat (first | exact trivial | refine ⟨rfl, ?_⟩ | refine ⟨by rw [hb0]; rfl, ?_⟩)) (by repeat (first | exact SubL.nil | (apply SubL.cons; (repeat (first | exact At.here | apply At.there))) | exact SubL.refl _ | apply SubL.skip))
  · intro hb0
    repeat (first | refine un (h := ?_) | refine sk (h := ?_) | refine WL.y (hy := pkF) (h := ?_) | refine WL.y (hy := pkT) (h := ?_))
    exact mg (by repeat (first | exact trivial | refine ⟨rfl, ?_⟩ | refine ⟨by rw [hb0]; rfl, ?_⟩)) (by repeat (first | exact SubL.nil | (apply SubL.cons; (repeat (first | exact At.here | apply At.there))) | exact SubL.refl _ | apply SubL.skip))
  refine WL.y (hy := mv) (h := ?_)
  apply brAnd 5 23 28 (by exact rfl)
  · intro hb1
    refine un (h := ?_)
    refine WL.y (hy := (by first | exact fa | exact faE)) (h := ?_)
    refine un (h := ?_)
    refine WL.y (hy := (by first | exact ld | exact ldE)) (h := ?_)
    refine un (h := ?_)
    refine WL.y (hy := mv) (h := ?_)
    refine un (h := ?_)
    refine WL.y (hy := eql) (h := ?_)
    refine WL.y (hy := (by first | exact pkT | exact pkF)) (h := ?_)
    exact mg (by repeat (first | exact trivial | refine ⟨rfl, ?_⟩ | refine ⟨by rw [hb1]; rfl, ?_⟩)) (by repeat (first | exact SubL.nil | (apply SubL.cons; (repeat (first | exact At.here | apply At.there))) | exact SubL.refl _ | apply SubL.skip))
  · intro hb1
    repeat (first | refine un (h := ?_) | refine sk (h := ?_) | refine WL.y (hy := pkF) (h := ?_) | refine WL.y (hy := pkT) (h := ?_))
    exact mg (by repeat (first | exact trivial | refine ⟨rfl, ?_⟩ | refine ⟨by rw [hb1]; rfl, ?_⟩)) (by repeat (first | exact SubL.nil | (apply SubL.cons; (repeat (first | exact At.here | apply At.there))) | exact SubL.refl _ | apply SubL.skip))
  refine WL.y (hy := asg) (h := ?_)
  refine nl (h := ?_)
  refine q_seq (h := ?_)
  refine rtn (h := ?_)
  refine q_ret (hR := ?_)
  exact fun w hS => ⟨rfl, hS.sub (by repeat (first | exact SubL.nil | (apply SubL.cons; (repeat (first | exact At.here | apply At.there))) | exact SubL.refl _ | apply SubL.skip))⟩
def endD (f : Fmt) (s : Pr) (a b : Int) : Bool := endR s a b || (decide (f.games ≤ a + 1) && decide (b + 2 ≤ a + 1))
theorem endR_comm (s : Pr) (a b : Int) : endR s a b = endR s b a := by
  unfold endR; rw [Bool.and_assoc, Bool.and_assoc, Bool.and_comm (decide (a = s.1))]
theorem end_eo {f : Fmt} {s : Pr} {a b : Int} (ha : 0 ≤ a) : endD f s a b = EO f s a b := by
  rw [endD, EO, end_is ha, show decide (b + 2 ≤ a + 1) = decide (2 ≤ a + 1 - b) from decide_eq_decide.2 (by omega)]
theorem C_ref9_ended (f : Fmt) (last : Bool) (g : Pr) (side : Int) (hs : side = 0 ∨ side = 1) (hg : (0 ≤ g.1 ∧ g.1 ≤ 1000) ∧ 0 ≤ g.2 ∧ g.2 ≤ 1000) (w : World) : C0 Try.prog 124 [f.val, .bool last, pv g, .int .i64 side] w (.bool (EO f (ruleV f last) (ownP side g).1 (ownP side g).2)) := by
  have ho := own_rng hs hg
  rw [← end_eo ho.1.1]
  refine ⟨en Try.func124 Try.ntmps124 (St.init w) (h := fun F => ?_)⟩
  refine sq (h := ?_)
  refine rg (h := ?_)
  refine bxA (h := fun b0 => ?_)
  refine bxA (h := fun b1 => ?_)
  refine WL.y (hy := asg) (h := ?_)
  refine nl (h := ?_)
  refine q_seq (h := ?_)
  refine sq (h := ?_)
  refine sq (h := ?_)
  refine rg (h := ?_)
  refine WL.y (hy := (by first | exact ldA | exact ldEA)) (h := ?_)
  refine WL.y (hy := mv) (h := ?_)
  refine WL.y (hy := (by first | exact ldA | exact ldEA)) (h := ?_)
  refine cl0 (hc := fun w hS => C_ref9_isTie f last g w) (h := ?_)
  refine nl (h := ?_)
  refine q_seq (h := ?_)
  refine cd (by exact rfl) (fun h0 => ?_) (fun h0 => ?_)
  · skip
    have hE : endD f (ruleV f last) (ownP side g).1 (ownP side g).2 = true := by
      rcases hs with rfl | rfl
      · rw [endD, own0, h0]; rfl
      · rw [endD, own1, endR_comm, h0]; rfl
    refine sq (h := ?_)
    refine rg (h := ?_)
    refine WL.y (hy := asg) (h := ?_)
    refine nl (h := ?_)
    refine q_seq (h := ?_)
    refine rtn (h := ?_)
    refine q_then_ret (h := ?_)
    refine q_ret (hR := ?_)
    rw [hE]
    exact fun w hS => ⟨rfl, hS.sub (by repeat (first | exact SubL.nil | (apply SubL.cons; (repeat (first | exact At.here | apply At.there))) | exact SubL.refl _ | apply SubL.skip))⟩
  · skip
    have hN := h0
    refine skp (h := ?_)
    refine q_seq (h := ?_)
    refine sq (h := ?_)
    refine rgD0 (by kernel_rfl) (h := ?_)
    refine tk 0 (hy := (by first | exact fa | exact faE)) (h := ?_)
    refine tk 1 (hy := (by first | exact ld | exact ldE)) (h := ?_)
    refine tk 2 (hy := addI) (h := ?_)
    refine tk 3 (hy := (by first | exact fa | exact faE)) (h := ?_)
    refine tk 4 (hy := (by first | exact ld | exact ldE)) (h := ?_)
    refine tk 5 (hy := asg) (h := ?_)
    refine tk 6 (hy := asg) (h := ?_)
    refine dn (h := ?_)
    refine q_seq (h := ?_)
    refine sq (h := ?_)
    refine sq (h := ?_)
    refine rg (h := ?_)
    refine WL.y (hy := mv) (h := ?_)
    refine WL.y (hy := eql) (h := ?_)
    refine nl (h := ?_)
    refine q_seq (h := ?_)
    refine cd (by exact rfl) (fun h1 => ?_) (fun h1 => ?_)
    · skip
      obtain rfl : side = 1 := of_decide_eq_true h1
      have hE : endD f (ruleV f last) (ownP 1 g).1 (ownP 1 g).2 = (decide (f.games ≤ g.2 + 1) && decide (g.1 + 2 ≤ g.2 + 1)) := by rw [endD, own1, endR_comm, hN]; rfl
      refine rgD0 (by kernel_rfl) (h := ?_)
      refine tk 0 (hy := (by first | exact fa | exact faE)) (h := ?_)
      refine tk 1 (hy := (by first | exact ld | exact ldE)) (h := ?_)
      refine tk 2 (hy := addI) (h := ?_)
      refine tk 3 (hy := (by first | exact fa | exact faE)) (h := ?_)
      refine tk 4 (hy := (by first | exact ld | exact ldE)) (h := ?_)
      refine tk 5 (hy := asg) (h := ?_)
      refine tk 6 (hy := asg) (h := ?_)
      refine dn (h := ?_)
      refine q_seq (h := ?_)
      refine sq (h := ?_)
      refine WC.cut 9 (by exact rfl) (by repeat (first | exact Cut.nil | apply Cut.hit | apply Cut.miss (by exact rfl))) ?_
      refine WC.cut 10 (by exact rfl) (by repeat (first | exact Cut.nil | apply Cut.hit | apply Cut.miss (by exact rfl))) ?_
      refine rg (h := ?_)
      refine WL.y (hy := mv) (h := ?_)
      refine WL.y (hy := (by first | exact fa | exact faE)) (h := ?_)
      refine WL.y (hy := (by first | exact ld | exact ldE)) (h := ?_)
      refine WL.y (hy := geq) (h := ?_)
      refine WL.y (hy := mv) (h := ?_)
      apply brAnd 5 31 36 (by exact rfl)
      · intro hb2
        refine un (h := ?_)
        refine WL.y (hy := mv) (h := ?_)
        refine un (h := ?_)
        refine WL.y (hy := mv) (h := ?_)
        refine un (h := ?_)
        refine WL.y (hy := addI) (h := ?_)
        refine un (h := ?_)
        refine WL.y (hy := geq) (h := ?_)
        refine WL.y (hy := (by first | exact pkT | exact pkF)) (h := ?_)
        exact mg (by repeat (first | exact trivial | refine ⟨rfl, ?_⟩ | refine ⟨by rw [hb2]; rfl, ?_⟩)) (by repeat (first | exact SubL.nil | (apply SubL.cons; (repeat (first | exact At.here | apply At.there))) | exact SubL.refl _ | apply SubL.skip))
      · intro hb2
        repeat (first | refine un (h := ?_) | refine sk (h := ?_) | refine WL.y (hy := pkF) (h := ?_) | refine WL.y (hy := pkT) (h := ?_))
        exact mg (by repeat (first | exact trivial | refine ⟨rfl, ?_⟩ | refine ⟨by rw [hb2]; rfl, ?_⟩)) (by repeat (first | exact SubL.nil | (apply SubL.cons; (repeat (first | exact At.here | apply At.there))) | exact SubL.refl _ | apply SubL.skip))
      refine WL.y (hy := asg) (h := ?_)
      refine nl (h := ?_)
      refine q_seq (h := ?_)
      refine rtn (h := ?_)
      refine q_ret (hR := ?_)
      rw [hE]
      exact fun w hS => ⟨rfl, hS.sub (by repeat (first | exact SubL.nil | (apply SubL.cons; (repeat (first | exact At.here | apply At.there))) | exact SubL.refl _ | apply SubL.skip))⟩
    · skip
      obtain rfl : side = 0 := by have := of_decide_eq_false h1; omega
      have hE : endD f (ruleV f last) (ownP 0 g).1 (ownP 0 g).2 = (decide (f.games ≤ g.1 + 1) && decide (g.2 + 2 ≤ g.1 + 1)) := by rw [endD, own0, hN]; rfl
      refine skp (h := ?_)
      refine q_seq (h := ?_)
      refine sq (h := ?_)
      refine WC.cut 9 (by exact rfl) (by repeat (first | exact Cut.nil | apply Cut.hit | apply Cut.miss (by exact rfl))) ?_
      refine WC.cut 10 (by exact rfl) (by repeat (first | exact Cut.nil | apply Cut.hit | apply Cut.miss (by exact rfl))) ?_
      refine rg (h := ?_)
      refine WL.y (hy := mv) (h := ?_)
      refine WL.y (hy := (by first | exact fa | exact faE)) (h := ?_)
      refine WL.y (hy := (by first | exact ld | exact ldE)) (h := ?_)
      refine WL.y (hy := geq) (h := ?_)
      refine WL.y (hy := mv) (h := ?_)
      apply brAnd 5 31 36 (by exact rfl)
      · intro hb3
        refine un (h := ?_)
        refine WL.y (hy := mv) (h := ?_)
        refine un (h := ?_)
        refine WL.y (hy := mv) (h := ?_)
        refine un (h := ?_)
        refine WL.y (hy := addI) (h := ?_)
        refine un (h := ?_)
        refine WL.y (hy := geq) (h := ?_)
        refine WL.y (hy := (by first | exact pkT | exact pkF)) (h := ?_)
        exact mg (by repeat (first | exact trivial | refine ⟨rfl, ?_⟩ | refine ⟨by rw [hb3]; rfl, ?_⟩)) (by repeat (first | exact SubL.nil | (apply SubL.cons; (repeat (first | exact At.here | apply At.there))) | exact SubL.refl _ | apply SubL.skip))
      · intro hb3
        repeat (first | refine un (h := ?_) | refine sk (h := ?_) | refine WL.y (hy := pkF) (h := ?_) | refine WL.y (hy := pkT) (h := ?_))
        exact mg (by repeat (first | exact trivial | refine ⟨rfl, ?_⟩ | refine ⟨by rw [hb3]; rfl, ?_⟩)) (by repeat (first | exact SubL.nil | (apply SubL.cons; (repeat (first | exact At.here | apply At.there))) | exact SubL.refl _ | apply SubL.skip))
      refine WL.y (hy := asg) (h := ?_)
      refine nl (h := ?_)
      refine q_seq (h := ?_)
      refine rtn (h := ?_)
      refine q_ret (hR := ?_)
      rw [hE]
      exact fun w hS => ⟨rfl, hS.sub (by repeat (first | exact SubL.nil | (apply SubL.cons; (repeat (first | exact At.here | apply At.there))) | exact SubL.refl _ | apply SubL.skip))⟩
theorem C_ref9_joined (a b : Cs) (w : World) : C0 Try.prog 112 [cv a, cv b] w (cv (orV a b)) := by
  refine ⟨en Try.func112 Try.ntmps112 (St.init w) (h := fun F => ?_)⟩
  refine sq (h := ?_)
  refine rg (h := ?_)
  refine bxA (h := fun b0 => ?_)
  refine bxA (h := fun b1 => ?_)
  refine al (h := fun b2 => ?_)
  refine nl (h := ?_)
  refine q_seq (h := ?_)
  refine sq (h := ?_)
  refine rg (h := ?_)
  refine WL.y (hy := (by first | exact fa | exact faE)) (h := ?_)
  refine WL.y (hy := (by first | exact fa | exact faE)) (h := ?_)
  refine WL.y (hy := (by first | exact ld | exact ldE)) (h := ?_)
  refine WL.y (hy := (by first | exact fa | exact faE)) (h := ?_)
  refine WL.y (hy := (by first | exact fa | exact faE)) (h := ?_)
  refine WL.y (hy := (by first | exact ld | exact ldE)) (h := ?_)
  refine WL.y (hy := minI) (h := ?_)
  refine WL.y (hy := (by first | exact fa | exact faE)) (h := ?_)
  refine WL.y (hy := (by first | exact fa | exact faE)) (h := ?_)
  refine WL.y (hy := (by first | exact ld | exact ldE)) (h := ?_)
  refine WL.y (hy := (by first | exact fa | exact faE)) (h := ?_)
  refine WL.y (hy := (by first | exact fa | exact faE)) (h := ?_)
  refine WL.y (hy := (by first | exact ld | exact ldE)) (h := ?_)
  refine WL.y (hy := maxI) (h := ?_)
  refine WL.y (hy := bd) (h := ?_)
  refine WL.y (hy := (by first | exact fa | exact faE)) (h := ?_)
  refine WL.y (hy := (by first | exact fa | exact faE)) (h := ?_)
  refine WL.y (hy := (by first | exact ld | exact ldE)) (h := ?_)
  refine WL.y (hy := (by first | exact fa | exact faE)) (h := ?_)
  refine WL.y (hy := (by first | exact fa | exact faE)) (h := ?_)
  refine WL.y (hy := (by first | exact ld | exact ldE)) (h := ?_)
  refine WL.y (hy := minI) (h := ?_)
  refine WL.y (hy := (by first | exact fa | exact faE)) (h := ?_)
  refine WL.y (hy := (by first | exact fa | exact faE)) (h := ?_)
  refine WL.y (hy := (by first | exact ld | exact ldE)) (h := ?_)
  refine WL.y (hy := (by first | exact fa | exact faE)) (h := ?_)
  refine WL.y (hy := (by first | exact fa | exact faE)) (h := ?_)
  refine WL.y (hy := (by first | exact ld | exact ldE)) (h := ?_)
  refine WL.y (hy := maxI) (h := ?_)
  refine WL.y (hy := bd) (h := ?_)
  refine WL.y (hy := bd) (h := ?_)
  first | refine stA (h := ?_) | refine stEA (h := ?_)
  refine nl (h := ?_)
  refine q_seq (h := ?_)
  refine rtn (h := ?_)
  refine q_ret (hR := ?_)
  exact fun w hS => ⟨rfl, hS.sub (by repeat (first | exact SubL.nil | (apply SubL.cons; (repeat (first | exact At.here | apply At.there))) | exact SubL.refl _ | apply SubL.skip))⟩
def placeI (won g : Pr) (t : Int) : Int := (((won.1 * 3 + won.2) * 10 + g.1) * 10 + g.2) * 2 + t
theorem C_ref9_place (won g : Pr) (t : Int) (hw : (0 ≤ won.1 ∧ won.1 ≤ 3) ∧ 0 ≤ won.2 ∧ won.2 ≤ 3) (hg : (0 ≤ g.1 ∧ g.1 ≤ 100) ∧ 0 ≤ g.2 ∧ g.2 ≤ 100) (ht : 0 ≤ t ∧ t ≤ 1) (w : World) : C0 Try.prog 100 [pv won, pv g, .int .i64 t] w (.int .i64 (placeI won g t)) := by
  refine ⟨en Try.func100 Try.ntmps100 (St.init w) (h := fun F => ?_)⟩
  refine sq (h := ?_)
  refine rg (h := ?_)
  refine bxA (h := fun b0 => ?_)
  refine bxA (h := fun b1 => ?_)
  refine WL.y (hy := asg) (h := ?_)
  refine nl (h := ?_)
  refine q_seq (h := ?_)
  refine sq (h := ?_)
  refine rg (h := ?_)
  refine WL.y (hy := (by first | exact fa | exact faE)) (h := ?_)
  refine WL.y (hy := (by first | exact ld | exact ldE)) (h := ?_)
  refine WL.y (hy := mulI) (h := ?_)
  refine WL.y (hy := (by first | exact fa | exact faE)) (h := ?_)
  refine WL.y (hy := (by first | exact ld | exact ldE)) (h := ?_)
  refine WL.y (hy := addI) (h := ?_)
  refine WL.y (hy := mulI) (h := ?_)
  refine WL.y (hy := (by first | exact fa | exact faE)) (h := ?_)
  refine WL.y (hy := (by first | exact ld | exact ldE)) (h := ?_)
  refine WL.y (hy := addI) (h := ?_)
  refine WL.y (hy := mulI) (h := ?_)
  refine WL.y (hy := (by first | exact fa | exact faE)) (h := ?_)
  refine WL.y (hy := (by first | exact ld | exact ldE)) (h := ?_)
  refine WL.y (hy := addI) (h := ?_)
  refine WL.y (hy := mulI) (h := ?_)
  refine WL.y (hy := mv) (h := ?_)
  refine WL.y (hy := addI) (h := ?_)
  refine WL.y (hy := asg) (h := ?_)
  refine nl (h := ?_)
  refine q_seq (h := ?_)
  refine rtn (h := ?_)
  refine q_ret (hR := ?_)
  exact fun w hS => ⟨rfl, hS.sub (by repeat (first | exact SubL.nil | (apply SubL.cons; (repeat (first | exact At.here | apply At.there))) | exact SubL.refl _ | apply SubL.skip))⟩
def decW (i : Nat) : Pr := ((i / 600 : Nat), (i / 200 % 3 : Nat))
def decG (i : Nat) : Pr := ((i / 20 % 10 : Nat), (i / 2 % 10 : Nat))
def decT (i : Nat) : Int := (i % 2 : Nat)
abbrev TabF := Pr → Pr → Int → Cs
def tabE (T : TabF) : List (List Value) := (List.range 1800).map fun i => ccs (T (decW i) (decG i) (decT i))
theorem tabE_at {T : TabF} {won g : Pr} {t : Int} (hw : (0 ≤ won.1 ∧ won.1 ≤ 2) ∧ 0 ≤ won.2 ∧ won.2 ≤ 2) (hg : (0 ≤ g.1 ∧ g.1 ≤ 9) ∧ 0 ≤ g.2 ∧ g.2 ≤ 9) (ht : 0 ≤ t ∧ t ≤ 1) : (0 ≤ placeI won g t ∧ placeI won g t < 1800) ∧ (tabE T)[(placeI won g t).toNat]? = some (ccs (T won g t)) := by
  have h1 : 0 ≤ placeI won g t ∧ placeI won g t < 1800 := by unfold placeI; omega
  refine ⟨h1, ?_⟩
  have e1 : decW (placeI won g t).toNat = won := by unfold decW placeI; exact Prod.ext (by dsimp only; omega) (by dsimp only; omega)
  have e2 : decG (placeI won g t).toNat = g := by unfold decG placeI; exact Prod.ext (by dsimp only; omega) (by dsimp only; omega)
  have e3 : decT (placeI won g t).toNat = t := by unfold decT placeI; omega
  rw [tabE, List.getElem?_map, List.getElem?_range (by omega), Option.map_some, e1, e2, e3]
set_option maxRecDepth 100000 in
set_option maxHeartbeats 4000000 in
theorem C_ref9_after (f : Fmt) (T : TabF) (won g : Pr) (tie n side : Int) (hf : f.Ok) (hs : side = 0 ∨ side = 1) (hw : (0 ≤ won.1 ∧ won.1 < f.sets) ∧ 0 ≤ won.2 ∧ won.2 < f.sets) (hg : (0 ≤ g.1 ∧ g.1 ≤ f.games) ∧ 0 ≤ g.2 ∧ g.2 ≤ f.games) (ht : 0 ≤ tie ∧ tie ≤ 1) (hn : 0 ≤ n ∧ n ≤ 1000) (hT : ∀ w g t, CsB (T w g t) 1000) (A : Option Addr) (c : Nat) (w : World) (h : Rd w A 4 1800 (tabE T)) :
    C0 Try.prog 113 [f.val, pv won, pv g, .int .i64 tie, .int .i64 n, .int .i64 side, .slice A 1800 c] w (cv (courV (fun w g _ t => T w g t) f won g n tie side)) := by
  have hs1 := hf.s1
  have hg1 := hf.g1
  have hgb : (0 ≤ g.1 ∧ g.1 ≤ 1000) ∧ 0 ≤ g.2 ∧ g.2 ≤ 1000 := by omega
  have hen0 : endS f won g side = EO f (setV f won) (ownP side g).1 (ownP side g).2 := rfl
  have htn : tieN f won g = bif endR (setV f won) g.1 g.2 then 1 else 0 := by rw [tieN, end_is hg.1.1]
  have htr : 0 ≤ tieN f won g ∧ tieN f won g ≤ 1 := by unfold tieN; cases brksV (setV f won) g <;> decide
  refine ⟨en Try.func113 Try.ntmps113 ((St.init w).share (e := .ro A 4 1800 (tabE T)) h rfl rfl rfl) (h := fun F => ?_)⟩
  refine sq (h := ?_)
  refine rg (h := ?_)
  refine bxA (h := fun b0 => ?_)
  refine bxA (h := fun b1 => ?_)
  refine bxA (h := fun b2 => ?_)
  refine al (h := fun b3 => ?_)
  refine nl (h := ?_)
  refine q_seq (h := ?_)
  refine sq (h := ?_)
  refine rg (h := ?_)
  refine WL.y (hy := (by first | exact ldA | exact ldEA)) (h := ?_)
  refine WL.y (hy := (by first | exact ldA | exact ldEA)) (h := ?_)
  refine cl0 (hc := fun w hS => C_ref1_IsLast f won hf w) (h := ?_)
  refine WL.y (hy := asg) (h := ?_)
  refine nl (h := ?_)
  refine q_seq (h := ?_)
  refine sq (h := ?_)
  refine rg (h := ?_)
  refine WL.y (hy := asg) (h := ?_)
  refine nl (h := ?_)
  refine q_seq (h := ?_)
  refine ct (X := Unit) (fun _ => True) (fun _ => [(3, .int .i64 tie), (4, .int .i64 n), (5, .int .i64 side), (6, .slice A 1800 c), (7, .pointer (some ⟨b0, 0, none⟩)), (8, .pointer (some ⟨b1, 0, none⟩)), (9, .pointer (some ⟨b2, 0, none⟩)), (14, .pointer (some ⟨b3, 0, none⟩)), (15, .bool (decide (won.1 = f.sets - 1) && decide (won.2 = f.sets - 1))), (16, .int .i64 (tieN f won g))]) (fun _ => [.blk b0 23 f.cells, .blk b1 26 [.int .i64 won.1, .int .i64 won.2], .blk b2 26 [.int .i64 g.1, .int .i64 g.2], .blk b3 109 [.int .i64 0, .int .i64 0, .int .i64 0, .int .i64 0], .ro A 4 1800 (tabE T)]) (h1 := ?_) (h2 := ?_)
  · skip
    refine sq (h := ?_)
    refine rg (h := ?_)
    refine WL.y (hy := (by first | exact ldA | exact ldEA)) (h := ?_)
    refine WL.y (hy := mv) (h := ?_)
    refine WL.y (hy := (by first | exact ldA | exact ldEA)) (h := ?_)
    refine cl0 (hc := fun w hS => C_ref9_isTie f _ g w) (h := ?_)
    rw [rule_set]
    refine nl (h := ?_)
    refine q_seq (h := ?_)
    refine cd (by exact rfl) (fun h0 => ?_) (fun h0 => ?_)
    · skip
      have hti : tieN f won g = 1 := by rw [htn, h0]; rfl
      refine rg (h := ?_)
      refine WL.y (hy := asg) (h := ?_)
      refine nl (h := ?_)
      rw [hti]
      exact ctn () trivial (by repeat (first | exact trivial | refine ⟨rfl, ?_⟩)) (by repeat (first | exact SubL.nil | (apply SubL.cons; (repeat (first | exact At.here | apply At.there))) | exact SubL.refl _ | apply SubL.skip))
    · skip
      have hti : tieN f won g = 0 := by rw [htn, h0]; rfl
      refine skp (h := ?_)
      rw [hti]
      exact ctn () trivial (by repeat (first | exact trivial | refine ⟨rfl, ?_⟩)) (by repeat (first | exact SubL.nil | (apply SubL.cons; (repeat (first | exact At.here | apply At.there))) | exact SubL.refl _ | apply SubL.skip))
  rintro ⟨⟩ -
  refine sq (h := ?_)
  refine rg (h := ?_)
  refine WL.y (hy := asg) (h := ?_)
  refine WL.cut (by repeat (first | exact Cut.nil | apply Cut.hit | apply Cut.miss (by exact rfl))) ?_
  refine nl (h := ?_)
  refine q_seq (h := ?_)
  refine sq (h := ?_)
  refine sq (h := ?_)
  refine rg (h := ?_)
  refine WL.y (hy := (by first | exact ldA | exact ldEA)) (h := ?_)
  refine WL.y (hy := mv) (h := ?_)
  refine WL.y (hy := (by first | exact ldA | exact ldEA)) (h := ?_)
  refine WL.y (hy := mv) (h := ?_)
  refine cl0 (hc := fun w hS => C_ref9_ended f _ g side hs hgb w) (h := ?_)
  rw [rule_set, ← hen0]
  refine nl (h := ?_)
  refine q_seq (h := ?_)
  refine cd (by exact rfl) (fun h1 => ?_) (fun h1 => ?_)
  · skip
    have hen : endS f won g side = true := h1
    have hg2 : gamS f won g side = (0, 0) := by rw [gamS, hen]; rfl
    have hgs : (0 ≤ (gamS f won g side).1 ∧ (gamS f won g side).1 ≤ 9) ∧ 0 ≤ (gamS f won g side).2 ∧ (gamS f won g side).2 ≤ 9 := by rw [hg2]; decide
    refine sq (h := ?_)
    refine rg (h := ?_)
    refine WL.y (hy := bd) (h := ?_)
    first | refine stA (h := ?_) | refine stEA (h := ?_)
    refine nl (h := ?_)
    refine q_seq (h := ?_)
    refine sq (h := ?_)
    refine rg (h := ?_)
    refine WL.y (hy := asg) (h := ?_)
    refine WL.cut (by repeat (first | exact Cut.nil | apply Cut.hit | apply Cut.miss (by exact rfl))) ?_
    refine nl (h := ?_)
    refine q_seq (h := ?_)
    refine sq (h := ?_)
    refine sq (h := ?_)
    refine rg (h := ?_)
    refine WL.y (hy := mv) (h := ?_)
    refine WL.y (hy := eql) (h := ?_)
    refine nl (h := ?_)
    refine q_seq (h := ?_)
    refine cd (by exact rfl) (fun h2 => ?_) (fun h2 => ?_)
    · skip
      have hsd : side = 0 := of_decide_eq_true h2
      have hw2 : wonS f won g side = (won.1 + 1, won.2) := by rw [wonS, hen, hsd]; rfl
      have hovf : overS f won g side = decide (won.1 + 1 = f.sets) := by rw [overS, hen, hsd]; rfl
      refine rg (h := ?_)
      refine WL.y (hy := (by first | exact fa | exact faE)) (h := ?_)
      refine WL.y (hy := (by first | exact ld | exact ldE)) (h := ?_)
      refine WL.y (hy := addI) (h := ?_)
      refine WL.y (hy := (by first | exact fa | exact faE)) (h := ?_)
      first | refine st (h := ?_) | refine stE (h := ?_)
      refine nl (h := ?_)
      refine q_seq (h := ?_)
      refine sq (h := ?_)
      refine rg (h := ?_)
      refine WL.y (hy := (by first | exact fa | exact faE)) (h := ?_)
      refine WL.y (hy := (by first | exact ld | exact ldE)) (h := ?_)
      refine WL.y (hy := (by first | exact fa | exact faE)) (h := ?_)
      refine WL.y (hy := (by first | exact ld | exact ldE)) (h := ?_)
      refine WL.y (hy := eql) (h := ?_)
      refine WL.y (hy := mv) (h := ?_)
      apply brOr 6 48 54 (by exact rfl)
      · intro hb3
        refine un (h := ?_)
        refine WL.y (hy := (by first | exact fa | exact faE)) (h := ?_)
        refine un (h := ?_)
        refine WL.y (hy := (by first | exact ld | exact ldE)) (h := ?_)
        refine un (h := ?_)
        refine WL.y (hy := (by first | exact fa | exact faE)) (h := ?_)
        refine un (h := ?_)
        refine WL.y (hy := (by first | exact ld | exact ldE)) (h := ?_)
        refine un (h := ?_)
        refine WL.y (hy := eql) (h := ?_)
        refine WL.y (hy := (by first | exact pkT | exact pkF)) (h := ?_)
        exact mg (by repeat (first | exact trivial | refine ⟨rfl, ?_⟩ | refine ⟨by rw [hb3]; rfl, ?_⟩)) (by repeat (first | exact SubL.nil | (apply SubL.cons; (repeat (first | exact At.here | apply At.there))) | exact SubL.refl _ | apply SubL.skip))
      · intro hb3
        repeat (first | refine un (h := ?_) | refine sk (h := ?_) | refine WL.y (hy := pkF) (h := ?_) | refine WL.y (hy := pkT) (h := ?_))
        exact mg (by repeat (first | exact trivial | refine ⟨rfl, ?_⟩ | refine ⟨by rw [hb3]; rfl, ?_⟩)) (by repeat (first | exact SubL.nil | (apply SubL.cons; (repeat (first | exact At.here | apply At.there))) | exact SubL.refl _ | apply SubL.skip))
      refine nl (h := ?_)
      refine q_seq (h := ?_)
      refine cd (by exact rfl) (fun h4 => ?_) (fun h4 => ?_)
      · skip
        simp only [Bool.or_eq_true, decide_eq_true_eq] at h4
        have hov : overS f won g side = true := by rw [hovf, decide_eq_true_eq]; omega
        refine sq (h := ?_)
        refine rg (h := ?_)
        refine WL.y (hy := bd) (h := ?_)
        first | refine stA (h := ?_) | refine stEA (h := ?_)
        refine nl (h := ?_)
        refine q_seq (h := ?_)
        refine rtn (h := ?_)
        refine q_then_ret (h := ?_)
        refine q_ret (hR := ?_)
        have hE : courV (fun w g _ t => T w g t) f won g n tie side = zC := by rw [courV, hov]; rfl
        rw [hE]
        exact fun w hS => ⟨rfl, hS.sub (by repeat (first | exact SubL.nil | (apply SubL.cons; (repeat (first | exact At.here | apply At.there))) | exact SubL.refl _ | apply SubL.skip))⟩
      · skip
        simp only [Bool.or_eq_false_iff, decide_eq_false_iff_not] at h4
        have hov : overS f won g side = false := by rw [hovf, decide_eq_false_iff_not]; omega
        have hws : (0 ≤ (wonS f won g side).1 ∧ (wonS f won g side).1 ≤ 2) ∧ 0 ≤ (wonS f won g side).2 ∧ (wonS f won g side).2 ≤ 2 := by rw [hw2]; dsimp only; omega
        refine skp (h := ?_)
        refine q_seq (h := ?_)
        refine sq (h := ?_)
        refine WC.subL (L' := [.blk b2 26 [.int .i64 (gamS f won g side).1, .int .i64 (gamS f won g side).2], .blk b1 26 [.int .i64 (wonS f won g side).1, .int .i64 (wonS f won g side).2], .blk b0 23 f.cells, .blk b3 109 [.int .i64 0, .int .i64 0, .int .i64 0, .int .i64 0], .ro A 4 1800 (tabE T)]) (by rw [hw2, hg2]; repeat (first | exact SubL.nil | (apply SubL.cons; (repeat (first | exact At.here | apply At.there))) | exact SubL.refl _ | apply SubL.skip)) ?_
        refine WC.sub (l' := [(3, .int .i64 tie), (4, .int .i64 n), (6, .slice A 1800 c), (7, .pointer (some ⟨b0, 0, none⟩)), (8, .pointer (some ⟨b1, 0, none⟩)), (9, .pointer (some ⟨b2, 0, none⟩)), (14, .pointer (some ⟨b3, 0, none⟩)), (16, .int .i64 (tieN f won g)), (17, .int .i64 (bz (endS f won g side)))]) (by rw [hen]; repeat (first | exact trivial | refine ⟨rfl, ?_⟩)) ?_
        refine rg (h := ?_)
        refine WL.y (hy := asg) (h := ?_)
        refine nl (h := ?_)
        refine q_seq (h := ?_)
        refine ct (X := Unit) (fun _ => True) (fun _ => (18, .int .i64 (bz (chgV f n tie (wonS f won g side) (gamS f won g side)))) :: [(3, .int .i64 tie), (4, .int .i64 n), (6, .slice A 1800 c), (7, .pointer (some ⟨b0, 0, none⟩)), (8, .pointer (some ⟨b1, 0, none⟩)), (9, .pointer (some ⟨b2, 0, none⟩)), (14, .pointer (some ⟨b3, 0, none⟩)), (16, .int .i64 (tieN f won g)), (17, .int .i64 (bz (endS f won g side)))]) (fun _ => [.blk b2 26 [.int .i64 (gamS f won g side).1, .int .i64 (gamS f won g side).2], .blk b1 26 [.int .i64 (wonS f won g side).1, .int .i64 (wonS f won g side).2], .blk b0 23 f.cells, .blk b3 109 [.int .i64 0, .int .i64 0, .int .i64 0, .int .i64 0], .ro A 4 1800 (tabE T)]) (h1 := ?_) (h2 := ?_)
        · skip
          refine ct (X := Unit) (fun _ => True) (fun _ => (88, .bool (chgV f n tie (wonS f won g side) (gamS f won g side))) :: (18, .int .i64 0) :: [(3, .int .i64 tie), (4, .int .i64 n), (6, .slice A 1800 c), (7, .pointer (some ⟨b0, 0, none⟩)), (8, .pointer (some ⟨b1, 0, none⟩)), (9, .pointer (some ⟨b2, 0, none⟩)), (14, .pointer (some ⟨b3, 0, none⟩)), (16, .int .i64 (tieN f won g)), (17, .int .i64 (bz (endS f won g side)))]) (fun _ => [.blk b2 26 [.int .i64 (gamS f won g side).1, .int .i64 (gamS f won g side).2], .blk b1 26 [.int .i64 (wonS f won g side).1, .int .i64 (wonS f won g side).2], .blk b0 23 f.cells, .blk b3 109 [.int .i64 0, .int .i64 0, .int .i64 0, .int .i64 0], .ro A 4 1800 (tabE T)]) (h1 := ?_) (h2 := ?_)
          · skip
            refine rgD0 (by kernel_rfl) (h := ?_)
            refine tk 0 (hy := (by first | exact ldA | exact ldEA)) (h := ?_)
            refine tk 1 (hy := mv) (h := ?_)
            refine tk 2 (hy := addI) (h := ?_)
            refine one 3 (h := ?_)
            refine cl0 (hc := fun w hS => C_ref9_due f (n + 1) hf (by omega) w) (h := ?_)
            refine nx (h := ?_)
            refine tk 4 (hy := mv) (h := ?_)
            refine brH (g := 70) (by exact rfl) (fun hb5 => ?_) (fun hb5 => ?_)
            · skip
              have kA : dueV f (n + 1) = true := hb5
              refine tk 5 (hy := (by first | exact ldA | exact ldEA)) (h := ?_)
              refine tk 6 (hy := (by first | exact ldA | exact ldEA)) (h := ?_)
              refine tk 7 (hy := (by first | exact ldA | exact ldEA)) (h := ?_)
              refine tk 9 (hy := (by first | exact ldA | exact ldEA)) (h := ?_)
              refine one 8 (h := ?_)
              refine un (h := ?_)
              refine cl0 (hc := fun w hS => C_ref1_IsLast f (wonS f won g side) hf w) (h := ?_)
              refine nx (h := ?_)
              refine one 10 (h := ?_)
              refine un (h := ?_)
              refine cl0 (hc := fun w hS => C_ref9_isTie f _ (gamS f won g side) w) (h := ?_)
              rw [rule_set, end_is hgs.1.1]
              refine nx (h := ?_)
              refine tk 11 (hy := notB) (h := ?_)
              refine tk 12 (hy := (by first | exact pkT | exact pkF)) (h := ?_)
              refine tk 13 (hy := mv) (h := ?_)
              refine brH (g := 79) (by exact rfl) (fun hb6 => ?_) (fun hb6 => ?_)
              · skip
                have kB := hb6
                refine tkS 14 (h := ?_)
                refine tkS 15 (h := ?_)
                refine tkS 16 (h := ?_)
                refine tkS 17 (h := ?_)
                refine tkS 18 (h := ?_)
                refine tkS 19 (h := ?_)
                refine tkS 20 (h := ?_)
                refine tkS 21 (h := ?_)
                refine tk 22 (hy := (by first | exact pkT | exact pkF)) (h := ?_)
                refine dn (h := ?_)
                exact ctn () trivial (by repeat (first | exact trivial | refine ⟨rfl, ?_⟩ | refine ⟨by first | (rw [chgV, kA, kB, kC]; rfl) | (rw [chgV, kA, kB]; rfl) | (rw [chgV, kA, kC]; rfl) | (rw [chgV, kA]; rfl), ?_⟩)) (by repeat (first | exact SubL.nil | (apply SubL.cons; (repeat (first | exact At.here | apply At.there))) | exact SubL.refl _ | apply SubL.skip))
              · skip
                have kB := hb6
                refine tk 14 (hy := mv) (h := ?_)
                refine tk 15 (hy := eql) (h := ?_)
                refine tk 16 (hy := mv) (h := ?_)
                refine brH (g := 82) (by exact rfl) (fun hb7 => ?_) (fun hb7 => ?_)
                · skip
                  have kC : decide (tie = 1) = true := hb7
                  refine tk 17 (hy := (by first | exact ldA | exact ldEA)) (h := ?_)
                  refine tk 18 (hy := mv) (h := ?_)
                  refine tk 19 (hy := subI) (h := ?_)
                  refine one 20 (h := ?_)
                  refine un (h := ?_)
                  refine cl0 (hc := fun w hS => C_ref9_due f (n - 1) hf (by omega) w) (h := ?_)
                  refine nx (h := ?_)
                  refine tk 21 (hy := (by first | exact pkT | exact pkF)) (h := ?_)
                  refine tk 22 (hy := (by first | exact pkT | exact pkF)) (h := ?_)
                  refine dn (h := ?_)
                  exact ctn () trivial (by repeat (first | exact trivial | refine ⟨rfl, ?_⟩ | refine ⟨by first | (rw [chgV, kA, kB, kC]; rfl) | (rw [chgV, kA, kB]; rfl) | (rw [chgV, kA, kC]; rfl) | (rw [chgV, kA]; rfl), ?_⟩)) (by repeat (first | exact SubL.nil | (apply SubL.cons; (repeat (first | exact At.here | apply At.there))) | exact SubL.refl _ | apply SubL.skip))
                · skip
                  have kC : decide (tie = 1) = false := hb7
                  refine tkS 17 (h := ?_)
                  refine tkS 18 (h := ?_)
                  refine tkS 19 (h := ?_)
                  refine tkS 20 (h := ?_)
                  refine tk 21 (hy := (by first | exact pkT | exact pkF)) (h := ?_)
                  refine tk 22 (hy := (by first | exact pkT | exact pkF)) (h := ?_)
                  refine dn (h := ?_)
                  exact ctn () trivial (by repeat (first | exact trivial | refine ⟨rfl, ?_⟩ | refine ⟨by first | (rw [chgV, kA, kB, kC]; rfl) | (rw [chgV, kA, kB]; rfl) | (rw [chgV, kA, kC]; rfl) | (rw [chgV, kA]; rfl), ?_⟩)) (by repeat (first | exact SubL.nil | (apply SubL.cons; (repeat (first | exact At.here | apply At.there))) | exact SubL.refl _ | apply SubL.skip))
            · skip
              have kA : dueV f (n + 1) = false := hb5
              refine tkS 5 (h := ?_)
              refine tkS 6 (h := ?_)
              refine tkS 7 (h := ?_)
              refine tkS 9 (h := ?_)
              refine tkS 8 (h := ?_)
              refine tkS 10 (h := ?_)
              refine tkS 11 (h := ?_)
              refine tk 12 (hy := (by first | exact pkT | exact pkF)) (h := ?_)
              refine tk 13 (hy := mv) (h := ?_)
              refine tk 14 (hy := mv) (h := ?_)
              refine tk 15 (hy := eql) (h := ?_)
              refine tk 16 (hy := mv) (h := ?_)
              refine brH (g := 82) (by exact rfl) (fun hb8 => ?_) (fun hb8 => ?_)
              · skip
                have kC : decide (tie = 1) = true := hb8
                refine tk 17 (hy := (by first | exact ldA | exact ldEA)) (h := ?_)
                refine tk 18 (hy := mv) (h := ?_)
                refine tk 19 (hy := subI) (h := ?_)
                refine one 20 (h := ?_)
                refine un (h := ?_)
                refine cl0 (hc := fun w hS => C_ref9_due f (n - 1) hf (by omega) w) (h := ?_)
                refine nx (h := ?_)
                refine tk 21 (hy := (by first | exact pkT | exact pkF)) (h := ?_)
                refine tk 22 (hy := (by first | exact pkT | exact pkF)) (h := ?_)
                refine dn (h := ?_)
                exact ctn () trivial (by repeat (first | exact trivial | refine ⟨rfl, ?_⟩ | refine ⟨by first | (rw [chgV, kA, kB, kC]; rfl) | (rw [chgV, kA, kB]; rfl) | (rw [chgV, kA, kC]; rfl) | (rw [chgV, kA]; rfl), ?_⟩)) (by repeat (first | exact SubL.nil | (apply SubL.cons; (repeat (first | exact At.here | apply At.there))) | exact SubL.refl _ | apply SubL.skip))
              · skip
                have kC : decide (tie = 1) = false := hb8
                refine tkS 17 (h := ?_)
                refine tkS 18 (h := ?_)
                refine tkS 19 (h := ?_)
                refine tkS 20 (h := ?_)
                refine tk 21 (hy := (by first | exact pkT | exact pkF)) (h := ?_)
                refine tk 22 (hy := (by first | exact pkT | exact pkF)) (h := ?_)
                refine dn (h := ?_)
                exact ctn () trivial (by repeat (first | exact trivial | refine ⟨rfl, ?_⟩ | refine ⟨by first | (rw [chgV, kA, kB, kC]; rfl) | (rw [chgV, kA, kB]; rfl) | (rw [chgV, kA, kC]; rfl) | (rw [chgV, kA]; rfl), ?_⟩)) (by repeat (first | exact SubL.nil | (apply SubL.cons; (repeat (first | exact At.here | apply At.there))) | exact SubL.refl _ | apply SubL.skip))
          rintro ⟨⟩ -
          refine cd (by exact rfl) (fun h9 => ?_) (fun h9 => ?_)
          · skip
            have hch : chgV f n tie (wonS f won g side) (gamS f won g side) = true := h9
            refine rg (h := ?_)
            refine WL.y (hy := asg) (h := ?_)
            refine nl (h := ?_)
            rw [hch]
            exact ctn () trivial (by repeat (first | exact trivial | refine ⟨rfl, ?_⟩)) (by repeat (first | exact SubL.nil | (apply SubL.cons; (repeat (first | exact At.here | apply At.there))) | exact SubL.refl _ | apply SubL.skip))
          · skip
            have hch : chgV f n tie (wonS f won g side) (gamS f won g side) = false := h9
            refine skp (h := ?_)
            rw [hch]
            exact ctn () trivial (by repeat (first | exact trivial | refine ⟨rfl, ?_⟩)) (by repeat (first | exact SubL.nil | (apply SubL.cons; (repeat (first | exact At.here | apply At.there))) | exact SubL.refl _ | apply SubL.skip))
        rintro ⟨⟩ -
        obtain ⟨hpl, hta⟩ := tabE_at (T := T) hws hgs htr
        have hr := hT (wonS f won g side) (gamS f won g side) (tieN f won g)
        obtain ⟨r, hrr⟩ : ∃ r, r = T (wonS f won g side) (gamS f won g side) (tieN f won g) := ⟨_, rfl⟩
        rw [← hrr] at hta hr
        unfold CsB at hr
        have hz1 := bz_rng (chgV f n tie (wonS f won g side) (gamS f won g side))
        have hz2 := bz_rng (endS f won g side)
        have hE : courV (fun w g _ t => T w g t) f won g n tie side = bumpC r (chgV f n tie (wonS f won g side) (gamS f won g side)) (endS f won g side) := by rw [courV, hov, cond_false, hrr]
        refine sq (h := ?_)
        refine rg (h := ?_)
        refine WL.y (hy := mv) (h := ?_)
        refine WL.y (hy := (by first | exact ldA | exact ldEA)) (h := ?_)
        refine WL.y (hy := (by first | exact ldA | exact ldEA)) (h := ?_)
        refine WL.y (hy := mv) (h := ?_)
        refine cl0 (hc := fun w hS => C_ref9_place (wonS f won g side) (gamS f won g side) (tieN f won g) (by omega) (by omega) htr w) (h := ?_)
        refine WL.y (hy := ix (A := A) (m := 1800) (hb := by omega)) (h := ?_)
        refine WL.y (hy := ldEW (A := A) (hk := hta)) (h := ?_)
        refine al (h := fun b4 => ?_)
        first | refine stA (h := ?_) | refine stEA (h := ?_)
        refine nl (h := ?_)
        refine q_seq (h := ?_)
        refine sq (h := ?_)
        refine rg (h := ?_)
        refine WL.y (hy := (by first | exact fa | exact faE)) (h := ?_)
        refine WL.y (hy := (by first | exact fa | exact faE)) (h := ?_)
        refine WL.y (hy := (by first | exact ld | exact ldE)) (h := ?_)
        refine WL.y (hy := mv) (h := ?_)
        refine WL.y (hy := addI) (h := ?_)
        refine WL.y (hy := (by first | exact fa | exact faE)) (h := ?_)
        refine WL.y (hy := (by first | exact fa | exact faE)) (h := ?_)
        refine WL.y (hy := (by first | exact ld | exact ldE)) (h := ?_)
        refine WL.y (hy := mv) (h := ?_)
        refine WL.y (hy := addI) (h := ?_)
        refine WL.y (hy := bd) (h := ?_)
        refine WL.y (hy := (by first | exact fa | exact faE)) (h := ?_)
        refine WL.y (hy := (by first | exact fa | exact faE)) (h := ?_)
        refine WL.y (hy := (by first | exact ld | exact ldE)) (h := ?_)
        refine WL.y (hy := mv) (h := ?_)
        refine WL.y (hy := addI) (h := ?_)
        refine WL.y (hy := (by first | exact fa | exact faE)) (h := ?_)
        refine WL.y (hy := (by first | exact fa | exact faE)) (h := ?_)
        refine WL.y (hy := (by first | exact ld | exact ldE)) (h := ?_)
        refine WL.y (hy := mv) (h := ?_)
        refine WL.y (hy := addI) (h := ?_)
        refine WL.y (hy := bd) (h := ?_)
        refine WL.y (hy := bd) (h := ?_)
        first | refine stA (h := ?_) | refine stEA (h := ?_)
        refine nl (h := ?_)
        refine q_seq (h := ?_)
        refine rtn (h := ?_)
        refine q_ret (hR := ?_)
        rw [hE]
        exact fun w hS => ⟨rfl, hS.sub (by repeat (first | exact SubL.nil | (apply SubL.cons; (repeat (first | exact At.here | apply At.there))) | exact SubL.refl _ | apply SubL.skip))⟩
    · skip
      have hsd : side = 1 := by have := of_decide_eq_false h2; omega
      have hw2 : wonS f won g side = (won.1, won.2 + 1) := by rw [wonS, hen, hsd]; rfl
      have hovf : overS f won g side = decide (won.2 + 1 = f.sets) := by rw [overS, hen, hsd]; rfl
      refine rg (h := ?_)
      refine WL.y (hy := (by first | exact fa | exact faE)) (h := ?_)
      refine WL.y (hy := (by first | exact ld | exact ldE)) (h := ?_)
      refine WL.y (hy := addI) (h := ?_)
      refine WL.y (hy := (by first | exact fa | exact faE)) (h := ?_)
      first | refine st (h := ?_) | refine stE (h := ?_)
      refine nl (h := ?_)
      refine q_seq (h := ?_)
      refine sq (h := ?_)
      refine rg (h := ?_)
      refine WL.y (hy := (by first | exact fa | exact faE)) (h := ?_)
      refine WL.y (hy := (by first | exact ld | exact ldE)) (h := ?_)
      refine WL.y (hy := (by first | exact fa | exact faE)) (h := ?_)
      refine WL.y (hy := (by first | exact ld | exact ldE)) (h := ?_)
      refine WL.y (hy := eql) (h := ?_)
      refine WL.y (hy := mv) (h := ?_)
      apply brOr 6 48 54 (by exact rfl)
      · intro hb10
        refine un (h := ?_)
        refine WL.y (hy := (by first | exact fa | exact faE)) (h := ?_)
        refine un (h := ?_)
        refine WL.y (hy := (by first | exact ld | exact ldE)) (h := ?_)
        refine un (h := ?_)
        refine WL.y (hy := (by first | exact fa | exact faE)) (h := ?_)
        refine un (h := ?_)
        refine WL.y (hy := (by first | exact ld | exact ldE)) (h := ?_)
        refine un (h := ?_)
        refine WL.y (hy := eql) (h := ?_)
        refine WL.y (hy := (by first | exact pkT | exact pkF)) (h := ?_)
        exact mg (by repeat (first | exact trivial | refine ⟨rfl, ?_⟩ | refine ⟨by rw [hb10]; rfl, ?_⟩)) (by repeat (first | exact SubL.nil | (apply SubL.cons; (repeat (first | exact At.here | apply At.there))) | exact SubL.refl _ | apply SubL.skip))
      · intro hb10
        repeat (first | refine un (h := ?_) | refine sk (h := ?_) | refine WL.y (hy := pkF) (h := ?_) | refine WL.y (hy := pkT) (h := ?_))
        exact mg (by repeat (first | exact trivial | refine ⟨rfl, ?_⟩ | refine ⟨by rw [hb10]; rfl, ?_⟩)) (by repeat (first | exact SubL.nil | (apply SubL.cons; (repeat (first | exact At.here | apply At.there))) | exact SubL.refl _ | apply SubL.skip))
      refine nl (h := ?_)
      refine q_seq (h := ?_)
      refine cd (by exact rfl) (fun h11 => ?_) (fun h11 => ?_)
      · skip
        simp only [Bool.or_eq_true, decide_eq_true_eq] at h11
        have hov : overS f won g side = true := by rw [hovf, decide_eq_true_eq]; omega
        refine sq (h := ?_)
        refine rg (h := ?_)
        refine WL.y (hy := bd) (h := ?_)
        first | refine stA (h := ?_) | refine stEA (h := ?_)
        refine nl (h := ?_)
        refine q_seq (h := ?_)
        refine rtn (h := ?_)
        refine q_then_ret (h := ?_)
        refine q_ret (hR := ?_)
        have hE : courV (fun w g _ t => T w g t) f won g n tie side = zC := by rw [courV, hov]; rfl
        rw [hE]
        exact fun w hS => ⟨rfl, hS.sub (by repeat (first | exact SubL.nil | (apply SubL.cons; (repeat (first | exact At.here | apply At.there))) | exact SubL.refl _ | apply SubL.skip))⟩
      · skip
        simp only [Bool.or_eq_false_iff, decide_eq_false_iff_not] at h11
        have hov : overS f won g side = false := by rw [hovf, decide_eq_false_iff_not]; omega
        have hws : (0 ≤ (wonS f won g side).1 ∧ (wonS f won g side).1 ≤ 2) ∧ 0 ≤ (wonS f won g side).2 ∧ (wonS f won g side).2 ≤ 2 := by rw [hw2]; dsimp only; omega
        refine skp (h := ?_)
        refine q_seq (h := ?_)
        refine sq (h := ?_)
        refine WC.subL (L' := [.blk b2 26 [.int .i64 (gamS f won g side).1, .int .i64 (gamS f won g side).2], .blk b1 26 [.int .i64 (wonS f won g side).1, .int .i64 (wonS f won g side).2], .blk b0 23 f.cells, .blk b3 109 [.int .i64 0, .int .i64 0, .int .i64 0, .int .i64 0], .ro A 4 1800 (tabE T)]) (by rw [hw2, hg2]; repeat (first | exact SubL.nil | (apply SubL.cons; (repeat (first | exact At.here | apply At.there))) | exact SubL.refl _ | apply SubL.skip)) ?_
        refine WC.sub (l' := [(3, .int .i64 tie), (4, .int .i64 n), (6, .slice A 1800 c), (7, .pointer (some ⟨b0, 0, none⟩)), (8, .pointer (some ⟨b1, 0, none⟩)), (9, .pointer (some ⟨b2, 0, none⟩)), (14, .pointer (some ⟨b3, 0, none⟩)), (16, .int .i64 (tieN f won g)), (17, .int .i64 (bz (endS f won g side)))]) (by rw [hen]; repeat (first | exact trivial | refine ⟨rfl, ?_⟩)) ?_
        refine rg (h := ?_)
        refine WL.y (hy := asg) (h := ?_)
        refine nl (h := ?_)
        refine q_seq (h := ?_)
        refine ct (X := Unit) (fun _ => True) (fun _ => (18, .int .i64 (bz (chgV f n tie (wonS f won g side) (gamS f won g side)))) :: [(3, .int .i64 tie), (4, .int .i64 n), (6, .slice A 1800 c), (7, .pointer (some ⟨b0, 0, none⟩)), (8, .pointer (some ⟨b1, 0, none⟩)), (9, .pointer (some ⟨b2, 0, none⟩)), (14, .pointer (some ⟨b3, 0, none⟩)), (16, .int .i64 (tieN f won g)), (17, .int .i64 (bz (endS f won g side)))]) (fun _ => [.blk b2 26 [.int .i64 (gamS f won g side).1, .int .i64 (gamS f won g side).2], .blk b1 26 [.int .i64 (wonS f won g side).1, .int .i64 (wonS f won g side).2], .blk b0 23 f.cells, .blk b3 109 [.int .i64 0, .int .i64 0, .int .i64 0, .int .i64 0], .ro A 4 1800 (tabE T)]) (h1 := ?_) (h2 := ?_)
        · skip
          refine ct (X := Unit) (fun _ => True) (fun _ => (88, .bool (chgV f n tie (wonS f won g side) (gamS f won g side))) :: (18, .int .i64 0) :: [(3, .int .i64 tie), (4, .int .i64 n), (6, .slice A 1800 c), (7, .pointer (some ⟨b0, 0, none⟩)), (8, .pointer (some ⟨b1, 0, none⟩)), (9, .pointer (some ⟨b2, 0, none⟩)), (14, .pointer (some ⟨b3, 0, none⟩)), (16, .int .i64 (tieN f won g)), (17, .int .i64 (bz (endS f won g side)))]) (fun _ => [.blk b2 26 [.int .i64 (gamS f won g side).1, .int .i64 (gamS f won g side).2], .blk b1 26 [.int .i64 (wonS f won g side).1, .int .i64 (wonS f won g side).2], .blk b0 23 f.cells, .blk b3 109 [.int .i64 0, .int .i64 0, .int .i64 0, .int .i64 0], .ro A 4 1800 (tabE T)]) (h1 := ?_) (h2 := ?_)
          · skip
            refine rgD0 (by kernel_rfl) (h := ?_)
            refine tk 0 (hy := (by first | exact ldA | exact ldEA)) (h := ?_)
            refine tk 1 (hy := mv) (h := ?_)
            refine tk 2 (hy := addI) (h := ?_)
            refine one 3 (h := ?_)
            refine cl0 (hc := fun w hS => C_ref9_due f (n + 1) hf (by omega) w) (h := ?_)
            refine nx (h := ?_)
            refine tk 4 (hy := mv) (h := ?_)
            refine brH (g := 70) (by exact rfl) (fun hb12 => ?_) (fun hb12 => ?_)
            · skip
              have kA : dueV f (n + 1) = true := hb12
              refine tk 5 (hy := (by first | exact ldA | exact ldEA)) (h := ?_)
              refine tk 6 (hy := (by first | exact ldA | exact ldEA)) (h := ?_)
              refine tk 7 (hy := (by first | exact ldA | exact ldEA)) (h := ?_)
              refine tk 9 (hy := (by first | exact ldA | exact ldEA)) (h := ?_)
              refine one 8 (h := ?_)
              refine un (h := ?_)
              refine cl0 (hc := fun w hS => C_ref1_IsLast f (wonS f won g side) hf w) (h := ?_)
              refine nx (h := ?_)
              refine one 10 (h := ?_)
              refine un (h := ?_)
              refine cl0 (hc := fun w hS => C_ref9_isTie f _ (gamS f won g side) w) (h := ?_)
              rw [rule_set, end_is hgs.1.1]
              refine nx (h := ?_)
              refine tk 11 (hy := notB) (h := ?_)
              refine tk 12 (hy := (by first | exact pkT | exact pkF)) (h := ?_)
              refine tk 13 (hy := mv) (h := ?_)
              refine brH (g := 79) (by exact rfl) (fun hb13 => ?_) (fun hb13 => ?_)
              · skip
                have kB := hb13
                refine tkS 14 (h := ?_)
                refine tkS 15 (h := ?_)
                refine tkS 16 (h := ?_)
                refine tkS 17 (h := ?_)
                refine tkS 18 (h := ?_)
                refine tkS 19 (h := ?_)
                refine tkS 20 (h := ?_)
                refine tkS 21 (h := ?_)
                refine tk 22 (hy := (by first | exact pkT | exact pkF)) (h := ?_)
                refine dn (h := ?_)
                exact ctn () trivial (by repeat (first | exact trivial | refine ⟨rfl, ?_⟩ | refine ⟨by first | (rw [chgV, kA, kB, kC]; rfl) | (rw [chgV, kA, kB]; rfl) | (rw [chgV, kA, kC]; rfl) | (rw [chgV, kA]; rfl), ?_⟩)) (by repeat (first | exact SubL.nil | (apply SubL.cons; (repeat (first | exact At.here | apply At.there))) | exact SubL.refl _ | apply SubL.skip))
              · skip
                have kB := hb13
                refine tk 14 (hy := mv) (h := ?_)
                refine tk 15 (hy := eql) (h := ?_)
                refine tk 16 (hy := mv) (h := ?_)
                refine brH (g := 82) (by exact rfl) (fun hb14 => ?_) (fun hb14 => ?_)
                · skip
                  have kC : decide (tie = 1) = true := hb14
                  refine tk 17 (hy := (by first | exact ldA | exact ldEA)) (h := ?_)
                  refine tk 18 (hy := mv) (h := ?_)
                  refine tk 19 (hy := subI) (h := ?_)
                  refine one 20 (h := ?_)
                  refine un (h := ?_)
                  refine cl0 (hc := fun w hS => C_ref9_due f (n - 1) hf (by omega) w) (h := ?_)
                  refine nx (h := ?_)
                  refine tk 21 (hy := (by first | exact pkT | exact pkF)) (h := ?_)
                  refine tk 22 (hy := (by first | exact pkT | exact pkF)) (h := ?_)
                  refine dn (h := ?_)
                  exact ctn () trivial (by repeat (first | exact trivial | refine ⟨rfl, ?_⟩ | refine ⟨by first | (rw [chgV, kA, kB, kC]; rfl) | (rw [chgV, kA, kB]; rfl) | (rw [chgV, kA, kC]; rfl) | (rw [chgV, kA]; rfl), ?_⟩)) (by repeat (first | exact SubL.nil | (apply SubL.cons; (repeat (first | exact At.here | apply At.there))) | exact SubL.refl _ | apply SubL.skip))
                · skip
                  have kC : decide (tie = 1) = false := hb14
                  refine tkS 17 (h := ?_)
                  refine tkS 18 (h := ?_)
                  refine tkS 19 (h := ?_)
                  refine tkS 20 (h := ?_)
                  refine tk 21 (hy := (by first | exact pkT | exact pkF)) (h := ?_)
                  refine tk 22 (hy := (by first | exact pkT | exact pkF)) (h := ?_)
                  refine dn (h := ?_)
                  exact ctn () trivial (by repeat (first | exact trivial | refine ⟨rfl, ?_⟩ | refine ⟨by first | (rw [chgV, kA, kB, kC]; rfl) | (rw [chgV, kA, kB]; rfl) | (rw [chgV, kA, kC]; rfl) | (rw [chgV, kA]; rfl), ?_⟩)) (by repeat (first | exact SubL.nil | (apply SubL.cons; (repeat (first | exact At.here | apply At.there))) | exact SubL.refl _ | apply SubL.skip))
            · skip
              have kA : dueV f (n + 1) = false := hb12
              refine tkS 5 (h := ?_)
              refine tkS 6 (h := ?_)
              refine tkS 7 (h := ?_)
              refine tkS 9 (h := ?_)
              refine tkS 8 (h := ?_)
              refine tkS 10 (h := ?_)
              refine tkS 11 (h := ?_)
              refine tk 12 (hy := (by first | exact pkT | exact pkF)) (h := ?_)
              refine tk 13 (hy := mv) (h := ?_)
              refine tk 14 (hy := mv) (h := ?_)
              refine tk 15 (hy := eql) (h := ?_)
              refine tk 16 (hy := mv) (h := ?_)
              refine brH (g := 82) (by exact rfl) (fun hb15 => ?_) (fun hb15 => ?_)
              · skip
                have kC : decide (tie = 1) = true := hb15
                refine tk 17 (hy := (by first | exact ldA | exact ldEA)) (h := ?_)
                refine tk 18 (hy := mv) (h := ?_)
                refine tk 19 (hy := subI) (h := ?_)
                refine one 20 (h := ?_)
                refine un (h := ?_)
                refine cl0 (hc := fun w hS => C_ref9_due f (n - 1) hf (by omega) w) (h := ?_)
                refine nx (h := ?_)
                refine tk 21 (hy := (by first | exact pkT | exact pkF)) (h := ?_)
                refine tk 22 (hy := (by first | exact pkT | exact pkF)) (h := ?_)
                refine dn (h := ?_)
                exact ctn () trivial (by repeat (first | exact trivial | refine ⟨rfl, ?_⟩ | refine ⟨by first | (rw [chgV, kA, kB, kC]; rfl) | (rw [chgV, kA, kB]; rfl) | (rw [chgV, kA, kC]; rfl) | (rw [chgV, kA]; rfl), ?_⟩)) (by repeat (first | exact SubL.nil | (apply SubL.cons; (repeat (first | exact At.here | apply At.there))) | exact SubL.refl _ | apply SubL.skip))
              · skip
                have kC : decide (tie = 1) = false := hb15
                refine tkS 17 (h := ?_)
                refine tkS 18 (h := ?_)
                refine tkS 19 (h := ?_)
                refine tkS 20 (h := ?_)
                refine tk 21 (hy := (by first | exact pkT | exact pkF)) (h := ?_)
                refine tk 22 (hy := (by first | exact pkT | exact pkF)) (h := ?_)
                refine dn (h := ?_)
                exact ctn () trivial (by repeat (first | exact trivial | refine ⟨rfl, ?_⟩ | refine ⟨by first | (rw [chgV, kA, kB, kC]; rfl) | (rw [chgV, kA, kB]; rfl) | (rw [chgV, kA, kC]; rfl) | (rw [chgV, kA]; rfl), ?_⟩)) (by repeat (first | exact SubL.nil | (apply SubL.cons; (repeat (first | exact At.here | apply At.there))) | exact SubL.refl _ | apply SubL.skip))
          rintro ⟨⟩ -
          refine cd (by exact rfl) (fun h16 => ?_) (fun h16 => ?_)
          · skip
            have hch : chgV f n tie (wonS f won g side) (gamS f won g side) = true := h16
            refine rg (h := ?_)
            refine WL.y (hy := asg) (h := ?_)
            refine nl (h := ?_)
            rw [hch]
            exact ctn () trivial (by repeat (first | exact trivial | refine ⟨rfl, ?_⟩)) (by repeat (first | exact SubL.nil | (apply SubL.cons; (repeat (first | exact At.here | apply At.there))) | exact SubL.refl _ | apply SubL.skip))
          · skip
            have hch : chgV f n tie (wonS f won g side) (gamS f won g side) = false := h16
            refine skp (h := ?_)
            rw [hch]
            exact ctn () trivial (by repeat (first | exact trivial | refine ⟨rfl, ?_⟩)) (by repeat (first | exact SubL.nil | (apply SubL.cons; (repeat (first | exact At.here | apply At.there))) | exact SubL.refl _ | apply SubL.skip))
        rintro ⟨⟩ -
        obtain ⟨hpl, hta⟩ := tabE_at (T := T) hws hgs htr
        have hr := hT (wonS f won g side) (gamS f won g side) (tieN f won g)
        obtain ⟨r, hrr⟩ : ∃ r, r = T (wonS f won g side) (gamS f won g side) (tieN f won g) := ⟨_, rfl⟩
        rw [← hrr] at hta hr
        unfold CsB at hr
        have hz1 := bz_rng (chgV f n tie (wonS f won g side) (gamS f won g side))
        have hz2 := bz_rng (endS f won g side)
        have hE : courV (fun w g _ t => T w g t) f won g n tie side = bumpC r (chgV f n tie (wonS f won g side) (gamS f won g side)) (endS f won g side) := by rw [courV, hov, cond_false, hrr]
        refine sq (h := ?_)
        refine rg (h := ?_)
        refine WL.y (hy := mv) (h := ?_)
        refine WL.y (hy := (by first | exact ldA | exact ldEA)) (h := ?_)
        refine WL.y (hy := (by first | exact ldA | exact ldEA)) (h := ?_)
        refine WL.y (hy := mv) (h := ?_)
        refine cl0 (hc := fun w hS => C_ref9_place (wonS f won g side) (gamS f won g side) (tieN f won g) (by omega) (by omega) htr w) (h := ?_)
        refine WL.y (hy := ix (A := A) (m := 1800) (hb := by omega)) (h := ?_)
        refine WL.y (hy := ldEW (A := A) (hk := hta)) (h := ?_)
        refine al (h := fun b5 => ?_)
        first | refine stA (h := ?_) | refine stEA (h := ?_)
        refine nl (h := ?_)
        refine q_seq (h := ?_)
        refine sq (h := ?_)
        refine rg (h := ?_)
        refine WL.y (hy := (by first | exact fa | exact faE)) (h := ?_)
        refine WL.y (hy := (by first | exact fa | exact faE)) (h := ?_)
        refine WL.y (hy := (by first | exact ld | exact ldE)) (h := ?_)
        refine WL.y (hy := mv) (h := ?_)
        refine WL.y (hy := addI) (h := ?_)
        refine WL.y (hy := (by first | exact fa | exact faE)) (h := ?_)
        refine WL.y (hy := (by first | exact fa | exact faE)) (h := ?_)
        refine WL.y (hy := (by first | exact ld | exact ldE)) (h := ?_)
        refine WL.y (hy := mv) (h := ?_)
        refine WL.y (hy := addI) (h := ?_)
        refine WL.y (hy := bd) (h := ?_)
        refine WL.y (hy := (by first | exact fa | exact faE)) (h := ?_)
        refine WL.y (hy := (by first | exact fa | exact faE)) (h := ?_)
        refine WL.y (hy := (by first | exact ld | exact ldE)) (h := ?_)
        refine WL.y (hy := mv) (h := ?_)
        refine WL.y (hy := addI) (h := ?_)
        refine WL.y (hy := (by first | exact fa | exact faE)) (h := ?_)
        refine WL.y (hy := (by first | exact fa | exact faE)) (h := ?_)
        refine WL.y (hy := (by first | exact ld | exact ldE)) (h := ?_)
        refine WL.y (hy := mv) (h := ?_)
        refine WL.y (hy := addI) (h := ?_)
        refine WL.y (hy := bd) (h := ?_)
        refine WL.y (hy := bd) (h := ?_)
        first | refine stA (h := ?_) | refine stEA (h := ?_)
        refine nl (h := ?_)
        refine q_seq (h := ?_)
        refine rtn (h := ?_)
        refine q_ret (hR := ?_)
        rw [hE]
        exact fun w hS => ⟨rfl, hS.sub (by repeat (first | exact SubL.nil | (apply SubL.cons; (repeat (first | exact At.here | apply At.there))) | exact SubL.refl _ | apply SubL.skip))⟩
  · skip
    have hen : endS f won g side = false := h1
    have hw2 : wonS f won g side = won := by rw [wonS, hen]; rfl
    have hov : overS f won g side = false := by rw [overS, hen]; rfl
    have hws : (0 ≤ (wonS f won g side).1 ∧ (wonS f won g side).1 ≤ 2) ∧ 0 ≤ (wonS f won g side).2 ∧ (wonS f won g side).2 ≤ 2 := by rw [hw2]; omega
    refine sq (h := ?_)
    refine rg (h := ?_)
    refine WL.y (hy := mv) (h := ?_)
    refine WL.y (hy := eql) (h := ?_)
    refine nl (h := ?_)
    refine q_seq (h := ?_)
    refine cd (by exact rfl) (fun h17 => ?_) (fun h17 => ?_)
    · skip
      have hsd : side = 0 := of_decide_eq_true h17
      have hg2 : gamS f won g side = (g.1 + 1, g.2) := by rw [gamS, hen, hsd]; rfl
      have hgs : (0 ≤ (gamS f won g side).1 ∧ (gamS f won g side).1 ≤ 9) ∧ 0 ≤ (gamS f won g side).2 ∧ (gamS f won g side).2 ≤ 9 := by rw [hg2]; dsimp only; omega
      refine rg (h := ?_)
      refine WL.y (hy := (by first | exact fa | exact faE)) (h := ?_)
      refine WL.y (hy := (by first | exact ld | exact ldE)) (h := ?_)
      refine WL.y (hy := addI) (h := ?_)
      refine WL.y (hy := (by first | exact fa | exact faE)) (h := ?_)
      first | refine st (h := ?_) | refine stE (h := ?_)
      refine nl (h := ?_)
      refine q_seq (h := ?_)
      refine sq (h := ?_)
      refine WC.subL (L' := [.blk b2 26 [.int .i64 (gamS f won g side).1, .int .i64 (gamS f won g side).2], .blk b1 26 [.int .i64 (wonS f won g side).1, .int .i64 (wonS f won g side).2], .blk b0 23 f.cells, .blk b3 109 [.int .i64 0, .int .i64 0, .int .i64 0, .int .i64 0], .ro A 4 1800 (tabE T)]) (by rw [hw2, hg2]; repeat (first | exact SubL.nil | (apply SubL.cons; (repeat (first | exact At.here | apply At.there))) | exact SubL.refl _ | apply SubL.skip)) ?_
      refine WC.sub (l' := [(3, .int .i64 tie), (4, .int .i64 n), (6, .slice A 1800 c), (7, .pointer (some ⟨b0, 0, none⟩)), (8, .pointer (some ⟨b1, 0, none⟩)), (9, .pointer (some ⟨b2, 0, none⟩)), (14, .pointer (some ⟨b3, 0, none⟩)), (16, .int .i64 (tieN f won g)), (17, .int .i64 (bz (endS f won g side)))]) (by rw [hen]; repeat (first | exact trivial | refine ⟨rfl, ?_⟩)) ?_
      refine rg (h := ?_)
      refine WL.y (hy := asg) (h := ?_)
      refine nl (h := ?_)
      refine q_seq (h := ?_)
      refine ct (X := Unit) (fun _ => True) (fun _ => (18, .int .i64 (bz (chgV f n tie (wonS f won g side) (gamS f won g side)))) :: [(3, .int .i64 tie), (4, .int .i64 n), (6, .slice A 1800 c), (7, .pointer (some ⟨b0, 0, none⟩)), (8, .pointer (some ⟨b1, 0, none⟩)), (9, .pointer (some ⟨b2, 0, none⟩)), (14, .pointer (some ⟨b3, 0, none⟩)), (16, .int .i64 (tieN f won g)), (17, .int .i64 (bz (endS f won g side)))]) (fun _ => [.blk b2 26 [.int .i64 (gamS f won g side).1, .int .i64 (gamS f won g side).2], .blk b1 26 [.int .i64 (wonS f won g side).1, .int .i64 (wonS f won g side).2], .blk b0 23 f.cells, .blk b3 109 [.int .i64 0, .int .i64 0, .int .i64 0, .int .i64 0], .ro A 4 1800 (tabE T)]) (h1 := ?_) (h2 := ?_)
      · skip
        refine ct (X := Unit) (fun _ => True) (fun _ => (88, .bool (chgV f n tie (wonS f won g side) (gamS f won g side))) :: (18, .int .i64 0) :: [(3, .int .i64 tie), (4, .int .i64 n), (6, .slice A 1800 c), (7, .pointer (some ⟨b0, 0, none⟩)), (8, .pointer (some ⟨b1, 0, none⟩)), (9, .pointer (some ⟨b2, 0, none⟩)), (14, .pointer (some ⟨b3, 0, none⟩)), (16, .int .i64 (tieN f won g)), (17, .int .i64 (bz (endS f won g side)))]) (fun _ => [.blk b2 26 [.int .i64 (gamS f won g side).1, .int .i64 (gamS f won g side).2], .blk b1 26 [.int .i64 (wonS f won g side).1, .int .i64 (wonS f won g side).2], .blk b0 23 f.cells, .blk b3 109 [.int .i64 0, .int .i64 0, .int .i64 0, .int .i64 0], .ro A 4 1800 (tabE T)]) (h1 := ?_) (h2 := ?_)
        · skip
          refine rgD0 (by kernel_rfl) (h := ?_)
          refine tk 0 (hy := (by first | exact ldA | exact ldEA)) (h := ?_)
          refine tk 1 (hy := mv) (h := ?_)
          refine tk 2 (hy := addI) (h := ?_)
          refine one 3 (h := ?_)
          refine cl0 (hc := fun w hS => C_ref9_due f (n + 1) hf (by omega) w) (h := ?_)
          refine nx (h := ?_)
          refine tk 4 (hy := mv) (h := ?_)
          refine brH (g := 70) (by exact rfl) (fun hb18 => ?_) (fun hb18 => ?_)
          · skip
            have kA : dueV f (n + 1) = true := hb18
            refine tk 5 (hy := (by first | exact ldA | exact ldEA)) (h := ?_)
            refine tk 6 (hy := (by first | exact ldA | exact ldEA)) (h := ?_)
            refine tk 7 (hy := (by first | exact ldA | exact ldEA)) (h := ?_)
            refine tk 9 (hy := (by first | exact ldA | exact ldEA)) (h := ?_)
            refine one 8 (h := ?_)
            refine un (h := ?_)
            refine cl0 (hc := fun w hS => C_ref1_IsLast f (wonS f won g side) hf w) (h := ?_)
            refine nx (h := ?_)
            refine one 10 (h := ?_)
            refine un (h := ?_)
            refine cl0 (hc := fun w hS => C_ref9_isTie f _ (gamS f won g side) w) (h := ?_)
            rw [rule_set, end_is hgs.1.1]
            refine nx (h := ?_)
            refine tk 11 (hy := notB) (h := ?_)
            refine tk 12 (hy := (by first | exact pkT | exact pkF)) (h := ?_)
            refine tk 13 (hy := mv) (h := ?_)
            refine brH (g := 79) (by exact rfl) (fun hb19 => ?_) (fun hb19 => ?_)
            · skip
              have kB := hb19
              refine tkS 14 (h := ?_)
              refine tkS 15 (h := ?_)
              refine tkS 16 (h := ?_)
              refine tkS 17 (h := ?_)
              refine tkS 18 (h := ?_)
              refine tkS 19 (h := ?_)
              refine tkS 20 (h := ?_)
              refine tkS 21 (h := ?_)
              refine tk 22 (hy := (by first | exact pkT | exact pkF)) (h := ?_)
              refine dn (h := ?_)
              exact ctn () trivial (by repeat (first | exact trivial | refine ⟨rfl, ?_⟩ | refine ⟨by first | (rw [chgV, kA, kB, kC]; rfl) | (rw [chgV, kA, kB]; rfl) | (rw [chgV, kA, kC]; rfl) | (rw [chgV, kA]; rfl), ?_⟩)) (by repeat (first | exact SubL.nil | (apply SubL.cons; (repeat (first | exact At.here | apply At.there))) | exact SubL.refl _ | apply SubL.skip))
            · skip
              have kB := hb19
              refine tk 14 (hy := mv) (h := ?_)
              refine tk 15 (hy := eql) (h := ?_)
              refine tk 16 (hy := mv) (h := ?_)
              refine brH (g := 82) (by exact rfl) (fun hb20 => ?_) (fun hb20 => ?_)
              · skip
                have kC : decide (tie = 1) = true := hb20
                refine tk 17 (hy := (by first | exact ldA | exact ldEA)) (h := ?_)
                refine tk 18 (hy := mv) (h := ?_)
                refine tk 19 (hy := subI) (h := ?_)
                refine one 20 (h := ?_)
                refine un (h := ?_)
                refine cl0 (hc := fun w hS => C_ref9_due f (n - 1) hf (by omega) w) (h := ?_)
                refine nx (h := ?_)
                refine tk 21 (hy := (by first | exact pkT | exact pkF)) (h := ?_)
                refine tk 22 (hy := (by first | exact pkT | exact pkF)) (h := ?_)
                refine dn (h := ?_)
                exact ctn () trivial (by repeat (first | exact trivial | refine ⟨rfl, ?_⟩ | refine ⟨by first | (rw [chgV, kA, kB, kC]; rfl) | (rw [chgV, kA, kB]; rfl) | (rw [chgV, kA, kC]; rfl) | (rw [chgV, kA]; rfl), ?_⟩)) (by repeat (first | exact SubL.nil | (apply SubL.cons; (repeat (first | exact At.here | apply At.there))) | exact SubL.refl _ | apply SubL.skip))
              · skip
                have kC : decide (tie = 1) = false := hb20
                refine tkS 17 (h := ?_)
                refine tkS 18 (h := ?_)
                refine tkS 19 (h := ?_)
                refine tkS 20 (h := ?_)
                refine tk 21 (hy := (by first | exact pkT | exact pkF)) (h := ?_)
                refine tk 22 (hy := (by first | exact pkT | exact pkF)) (h := ?_)
                refine dn (h := ?_)
                exact ctn () trivial (by repeat (first | exact trivial | refine ⟨rfl, ?_⟩ | refine ⟨by first | (rw [chgV, kA, kB, kC]; rfl) | (rw [chgV, kA, kB]; rfl) | (rw [chgV, kA, kC]; rfl) | (rw [chgV, kA]; rfl), ?_⟩)) (by repeat (first | exact SubL.nil | (apply SubL.cons; (repeat (first | exact At.here | apply At.there))) | exact SubL.refl _ | apply SubL.skip))
          · skip
            have kA : dueV f (n + 1) = false := hb18
            refine tkS 5 (h := ?_)
            refine tkS 6 (h := ?_)
            refine tkS 7 (h := ?_)
            refine tkS 9 (h := ?_)
            refine tkS 8 (h := ?_)
            refine tkS 10 (h := ?_)
            refine tkS 11 (h := ?_)
            refine tk 12 (hy := (by first | exact pkT | exact pkF)) (h := ?_)
            refine tk 13 (hy := mv) (h := ?_)
            refine tk 14 (hy := mv) (h := ?_)
            refine tk 15 (hy := eql) (h := ?_)
            refine tk 16 (hy := mv) (h := ?_)
            refine brH (g := 82) (by exact rfl) (fun hb21 => ?_) (fun hb21 => ?_)
            · skip
              have kC : decide (tie = 1) = true := hb21
              refine tk 17 (hy := (by first | exact ldA | exact ldEA)) (h := ?_)
              refine tk 18 (hy := mv) (h := ?_)
              refine tk 19 (hy := subI) (h := ?_)
              refine one 20 (h := ?_)
              refine un (h := ?_)
              refine cl0 (hc := fun w hS => C_ref9_due f (n - 1) hf (by omega) w) (h := ?_)
              refine nx (h := ?_)
              refine tk 21 (hy := (by first | exact pkT | exact pkF)) (h := ?_)
              refine tk 22 (hy := (by first | exact pkT | exact pkF)) (h := ?_)
              refine dn (h := ?_)
              exact ctn () trivial (by repeat (first | exact trivial | refine ⟨rfl, ?_⟩ | refine ⟨by first | (rw [chgV, kA, kB, kC]; rfl) | (rw [chgV, kA, kB]; rfl) | (rw [chgV, kA, kC]; rfl) | (rw [chgV, kA]; rfl), ?_⟩)) (by repeat (first | exact SubL.nil | (apply SubL.cons; (repeat (first | exact At.here | apply At.there))) | exact SubL.refl _ | apply SubL.skip))
            · skip
              have kC : decide (tie = 1) = false := hb21
              refine tkS 17 (h := ?_)
              refine tkS 18 (h := ?_)
              refine tkS 19 (h := ?_)
              refine tkS 20 (h := ?_)
              refine tk 21 (hy := (by first | exact pkT | exact pkF)) (h := ?_)
              refine tk 22 (hy := (by first | exact pkT | exact pkF)) (h := ?_)
              refine dn (h := ?_)
              exact ctn () trivial (by repeat (first | exact trivial | refine ⟨rfl, ?_⟩ | refine ⟨by first | (rw [chgV, kA, kB, kC]; rfl) | (rw [chgV, kA, kB]; rfl) | (rw [chgV, kA, kC]; rfl) | (rw [chgV, kA]; rfl), ?_⟩)) (by repeat (first | exact SubL.nil | (apply SubL.cons; (repeat (first | exact At.here | apply At.there))) | exact SubL.refl _ | apply SubL.skip))
        rintro ⟨⟩ -
        refine cd (by exact rfl) (fun h22 => ?_) (fun h22 => ?_)
        · skip
          have hch : chgV f n tie (wonS f won g side) (gamS f won g side) = true := h22
          refine rg (h := ?_)
          refine WL.y (hy := asg) (h := ?_)
          refine nl (h := ?_)
          rw [hch]
          exact ctn () trivial (by repeat (first | exact trivial | refine ⟨rfl, ?_⟩)) (by repeat (first | exact SubL.nil | (apply SubL.cons; (repeat (first | exact At.here | apply At.there))) | exact SubL.refl _ | apply SubL.skip))
        · skip
          have hch : chgV f n tie (wonS f won g side) (gamS f won g side) = false := h22
          refine skp (h := ?_)
          rw [hch]
          exact ctn () trivial (by repeat (first | exact trivial | refine ⟨rfl, ?_⟩)) (by repeat (first | exact SubL.nil | (apply SubL.cons; (repeat (first | exact At.here | apply At.there))) | exact SubL.refl _ | apply SubL.skip))
      rintro ⟨⟩ -
      obtain ⟨hpl, hta⟩ := tabE_at (T := T) hws hgs htr
      have hr := hT (wonS f won g side) (gamS f won g side) (tieN f won g)
      obtain ⟨r, hrr⟩ : ∃ r, r = T (wonS f won g side) (gamS f won g side) (tieN f won g) := ⟨_, rfl⟩
      rw [← hrr] at hta hr
      unfold CsB at hr
      have hz1 := bz_rng (chgV f n tie (wonS f won g side) (gamS f won g side))
      have hz2 := bz_rng (endS f won g side)
      have hE : courV (fun w g _ t => T w g t) f won g n tie side = bumpC r (chgV f n tie (wonS f won g side) (gamS f won g side)) (endS f won g side) := by rw [courV, hov, cond_false, hrr]
      refine sq (h := ?_)
      refine rg (h := ?_)
      refine WL.y (hy := mv) (h := ?_)
      refine WL.y (hy := (by first | exact ldA | exact ldEA)) (h := ?_)
      refine WL.y (hy := (by first | exact ldA | exact ldEA)) (h := ?_)
      refine WL.y (hy := mv) (h := ?_)
      refine cl0 (hc := fun w hS => C_ref9_place (wonS f won g side) (gamS f won g side) (tieN f won g) (by omega) (by omega) htr w) (h := ?_)
      refine WL.y (hy := ix (A := A) (m := 1800) (hb := by omega)) (h := ?_)
      refine WL.y (hy := ldEW (A := A) (hk := hta)) (h := ?_)
      refine al (h := fun b6 => ?_)
      first | refine stA (h := ?_) | refine stEA (h := ?_)
      refine nl (h := ?_)
      refine q_seq (h := ?_)
      refine sq (h := ?_)
      refine rg (h := ?_)
      refine WL.y (hy := (by first | exact fa | exact faE)) (h := ?_)
      refine WL.y (hy := (by first | exact fa | exact faE)) (h := ?_)
      refine WL.y (hy := (by first | exact ld | exact ldE)) (h := ?_)
      refine WL.y (hy := mv) (h := ?_)
      refine WL.y (hy := addI) (h := ?_)
      refine WL.y (hy := (by first | exact fa | exact faE)) (h := ?_)
      refine WL.y (hy := (by first | exact fa | exact faE)) (h := ?_)
      refine WL.y (hy := (by first | exact ld | exact ldE)) (h := ?_)
      refine WL.y (hy := mv) (h := ?_)
      refine WL.y (hy := addI) (h := ?_)
      refine WL.y (hy := bd) (h := ?_)
      refine WL.y (hy := (by first | exact fa | exact faE)) (h := ?_)
      refine WL.y (hy := (by first | exact fa | exact faE)) (h := ?_)
      refine WL.y (hy := (by first | exact ld | exact ldE)) (h := ?_)
      refine WL.y (hy := mv) (h := ?_)
      refine WL.y (hy := addI) (h := ?_)
      refine WL.y (hy := (by first | exact fa | exact faE)) (h := ?_)
      refine WL.y (hy := (by first | exact fa | exact faE)) (h := ?_)
      refine WL.y (hy := (by first | exact ld | exact ldE)) (h := ?_)
      refine WL.y (hy := mv) (h := ?_)
      refine WL.y (hy := addI) (h := ?_)
      refine WL.y (hy := bd) (h := ?_)
      refine WL.y (hy := bd) (h := ?_)
      first | refine stA (h := ?_) | refine stEA (h := ?_)
      refine nl (h := ?_)
      refine q_seq (h := ?_)
      refine rtn (h := ?_)
      refine q_ret (hR := ?_)
      rw [hE]
      exact fun w hS => ⟨rfl, hS.sub (by repeat (first | exact SubL.nil | (apply SubL.cons; (repeat (first | exact At.here | apply At.there))) | exact SubL.refl _ | apply SubL.skip))⟩
    · skip
      have hsd : side = 1 := by have := of_decide_eq_false h17; omega
      have hg2 : gamS f won g side = (g.1, g.2 + 1) := by rw [gamS, hen, hsd]; rfl
      have hgs : (0 ≤ (gamS f won g side).1 ∧ (gamS f won g side).1 ≤ 9) ∧ 0 ≤ (gamS f won g side).2 ∧ (gamS f won g side).2 ≤ 9 := by rw [hg2]; dsimp only; omega
      refine rg (h := ?_)
      refine WL.y (hy := (by first | exact fa | exact faE)) (h := ?_)
      refine WL.y (hy := (by first | exact ld | exact ldE)) (h := ?_)
      refine WL.y (hy := addI) (h := ?_)
      refine WL.y (hy := (by first | exact fa | exact faE)) (h := ?_)
      first | refine st (h := ?_) | refine stE (h := ?_)
      refine nl (h := ?_)
      refine q_seq (h := ?_)
      refine sq (h := ?_)
      refine WC.subL (L' := [.blk b2 26 [.int .i64 (gamS f won g side).1, .int .i64 (gamS f won g side).2], .blk b1 26 [.int .i64 (wonS f won g side).1, .int .i64 (wonS f won g side).2], .blk b0 23 f.cells, .blk b3 109 [.int .i64 0, .int .i64 0, .int .i64 0, .int .i64 0], .ro A 4 1800 (tabE T)]) (by rw [hw2, hg2]; repeat (first | exact SubL.nil | (apply SubL.cons; (repeat (first | exact At.here | apply At.there))) | exact SubL.refl _ | apply SubL.skip)) ?_
      refine WC.sub (l' := [(3, .int .i64 tie), (4, .int .i64 n), (6, .slice A 1800 c), (7, .pointer (some ⟨b0, 0, none⟩)), (8, .pointer (some ⟨b1, 0, none⟩)), (9, .pointer (some ⟨b2, 0, none⟩)), (14, .pointer (some ⟨b3, 0, none⟩)), (16, .int .i64 (tieN f won g)), (17, .int .i64 (bz (endS f won g side)))]) (by rw [hen]; repeat (first | exact trivial | refine ⟨rfl, ?_⟩)) ?_
      refine rg (h := ?_)
      refine WL.y (hy := asg) (h := ?_)
      refine nl (h := ?_)
      refine q_seq (h := ?_)
      refine ct (X := Unit) (fun _ => True) (fun _ => (18, .int .i64 (bz (chgV f n tie (wonS f won g side) (gamS f won g side)))) :: [(3, .int .i64 tie), (4, .int .i64 n), (6, .slice A 1800 c), (7, .pointer (some ⟨b0, 0, none⟩)), (8, .pointer (some ⟨b1, 0, none⟩)), (9, .pointer (some ⟨b2, 0, none⟩)), (14, .pointer (some ⟨b3, 0, none⟩)), (16, .int .i64 (tieN f won g)), (17, .int .i64 (bz (endS f won g side)))]) (fun _ => [.blk b2 26 [.int .i64 (gamS f won g side).1, .int .i64 (gamS f won g side).2], .blk b1 26 [.int .i64 (wonS f won g side).1, .int .i64 (wonS f won g side).2], .blk b0 23 f.cells, .blk b3 109 [.int .i64 0, .int .i64 0, .int .i64 0, .int .i64 0], .ro A 4 1800 (tabE T)]) (h1 := ?_) (h2 := ?_)
      · skip
        refine ct (X := Unit) (fun _ => True) (fun _ => (88, .bool (chgV f n tie (wonS f won g side) (gamS f won g side))) :: (18, .int .i64 0) :: [(3, .int .i64 tie), (4, .int .i64 n), (6, .slice A 1800 c), (7, .pointer (some ⟨b0, 0, none⟩)), (8, .pointer (some ⟨b1, 0, none⟩)), (9, .pointer (some ⟨b2, 0, none⟩)), (14, .pointer (some ⟨b3, 0, none⟩)), (16, .int .i64 (tieN f won g)), (17, .int .i64 (bz (endS f won g side)))]) (fun _ => [.blk b2 26 [.int .i64 (gamS f won g side).1, .int .i64 (gamS f won g side).2], .blk b1 26 [.int .i64 (wonS f won g side).1, .int .i64 (wonS f won g side).2], .blk b0 23 f.cells, .blk b3 109 [.int .i64 0, .int .i64 0, .int .i64 0, .int .i64 0], .ro A 4 1800 (tabE T)]) (h1 := ?_) (h2 := ?_)
        · skip
          refine rgD0 (by kernel_rfl) (h := ?_)
          refine tk 0 (hy := (by first | exact ldA | exact ldEA)) (h := ?_)
          refine tk 1 (hy := mv) (h := ?_)
          refine tk 2 (hy := addI) (h := ?_)
          refine one 3 (h := ?_)
          refine cl0 (hc := fun w hS => C_ref9_due f (n + 1) hf (by omega) w) (h := ?_)
          refine nx (h := ?_)
          refine tk 4 (hy := mv) (h := ?_)
          refine brH (g := 70) (by exact rfl) (fun hb23 => ?_) (fun hb23 => ?_)
          · skip
            have kA : dueV f (n + 1) = true := hb23
            refine tk 5 (hy := (by first | exact ldA | exact ldEA)) (h := ?_)
            refine tk 6 (hy := (by first | exact ldA | exact ldEA)) (h := ?_)
            refine tk 7 (hy := (by first | exact ldA | exact ldEA)) (h := ?_)
            refine tk 9 (hy := (by first | exact ldA | exact ldEA)) (h := ?_)
            refine one 8 (h := ?_)
            refine un (h := ?_)
            refine cl0 (hc := fun w hS => C_ref1_IsLast f (wonS f won g side) hf w) (h := ?_)
            refine nx (h := ?_)
            refine one 10 (h := ?_)
            refine un (h := ?_)
            refine cl0 (hc := fun w hS => C_ref9_isTie f _ (gamS f won g side) w) (h := ?_)
            rw [rule_set, end_is hgs.1.1]
            refine nx (h := ?_)
            refine tk 11 (hy := notB) (h := ?_)
            refine tk 12 (hy := (by first | exact pkT | exact pkF)) (h := ?_)
            refine tk 13 (hy := mv) (h := ?_)
            refine brH (g := 79) (by exact rfl) (fun hb24 => ?_) (fun hb24 => ?_)
            · skip
              have kB := hb24
              refine tkS 14 (h := ?_)
              refine tkS 15 (h := ?_)
              refine tkS 16 (h := ?_)
              refine tkS 17 (h := ?_)
              refine tkS 18 (h := ?_)
              refine tkS 19 (h := ?_)
              refine tkS 20 (h := ?_)
              refine tkS 21 (h := ?_)
              refine tk 22 (hy := (by first | exact pkT | exact pkF)) (h := ?_)
              refine dn (h := ?_)
              exact ctn () trivial (by repeat (first | exact trivial | refine ⟨rfl, ?_⟩ | refine ⟨by first | (rw [chgV, kA, kB, kC]; rfl) | (rw [chgV, kA, kB]; rfl) | (rw [chgV, kA, kC]; rfl) | (rw [chgV, kA]; rfl), ?_⟩)) (by repeat (first | exact SubL.nil | (apply SubL.cons; (repeat (first | exact At.here | apply At.there))) | exact SubL.refl _ | apply SubL.skip))
            · skip
              have kB := hb24
              refine tk 14 (hy := mv) (h := ?_)
              refine tk 15 (hy := eql) (h := ?_)
              refine tk 16 (hy := mv) (h := ?_)
              refine brH (g := 82) (by exact rfl) (fun hb25 => ?_) (fun hb25 => ?_)
              · skip
                have kC : decide (tie = 1) = true := hb25
                refine tk 17 (hy := (by first | exact ldA | exact ldEA)) (h := ?_)
                refine tk 18 (hy := mv) (h := ?_)
                refine tk 19 (hy := subI) (h := ?_)
                refine one 20 (h := ?_)
                refine un (h := ?_)
                refine cl0 (hc := fun w hS => C_ref9_due f (n - 1) hf (by omega) w) (h := ?_)
                refine nx (h := ?_)
                refine tk 21 (hy := (by first | exact pkT | exact pkF)) (h := ?_)
                refine tk 22 (hy := (by first | exact pkT | exact pkF)) (h := ?_)
                refine dn (h := ?_)
                exact ctn () trivial (by repeat (first | exact trivial | refine ⟨rfl, ?_⟩ | refine ⟨by first | (rw [chgV, kA, kB, kC]; rfl) | (rw [chgV, kA, kB]; rfl) | (rw [chgV, kA, kC]; rfl) | (rw [chgV, kA]; rfl), ?_⟩)) (by repeat (first | exact SubL.nil | (apply SubL.cons; (repeat (first | exact At.here | apply At.there))) | exact SubL.refl _ | apply SubL.skip))
              · skip
                have kC : decide (tie = 1) = false := hb25
                refine tkS 17 (h := ?_)
                refine tkS 18 (h := ?_)
                refine tkS 19 (h := ?_)
                refine tkS 20 (h := ?_)
                refine tk 21 (hy := (by first | exact pkT | exact pkF)) (h := ?_)
                refine tk 22 (hy := (by first | exact pkT | exact pkF)) (h := ?_)
                refine dn (h := ?_)
                exact ctn () trivial (by repeat (first | exact trivial | refine ⟨rfl, ?_⟩ | refine ⟨by first | (rw [chgV, kA, kB, kC]; rfl) | (rw [chgV, kA, kB]; rfl) | (rw [chgV, kA, kC]; rfl) | (rw [chgV, kA]; rfl), ?_⟩)) (by repeat (first | exact SubL.nil | (apply SubL.cons; (repeat (first | exact At.here | apply At.there))) | exact SubL.refl _ | apply SubL.skip))
          · skip
            have kA : dueV f (n + 1) = false := hb23
            refine tkS 5 (h := ?_)
            refine tkS 6 (h := ?_)
            refine tkS 7 (h := ?_)
            refine tkS 9 (h := ?_)
            refine tkS 8 (h := ?_)
            refine tkS 10 (h := ?_)
            refine tkS 11 (h := ?_)
            refine tk 12 (hy := (by first | exact pkT | exact pkF)) (h := ?_)
            refine tk 13 (hy := mv) (h := ?_)
            refine tk 14 (hy := mv) (h := ?_)
            refine tk 15 (hy := eql) (h := ?_)
            refine tk 16 (hy := mv) (h := ?_)
            refine brH (g := 82) (by exact rfl) (fun hb26 => ?_) (fun hb26 => ?_)
            · skip
              have kC : decide (tie = 1) = true := hb26
              refine tk 17 (hy := (by first | exact ldA | exact ldEA)) (h := ?_)
              refine tk 18 (hy := mv) (h := ?_)
              refine tk 19 (hy := subI) (h := ?_)
              refine one 20 (h := ?_)
              refine un (h := ?_)
              refine cl0 (hc := fun w hS => C_ref9_due f (n - 1) hf (by omega) w) (h := ?_)
              refine nx (h := ?_)
              refine tk 21 (hy := (by first | exact pkT | exact pkF)) (h := ?_)
              refine tk 22 (hy := (by first | exact pkT | exact pkF)) (h := ?_)
              refine dn (h := ?_)
              exact ctn () trivial (by repeat (first | exact trivial | refine ⟨rfl, ?_⟩ | refine ⟨by first | (rw [chgV, kA, kB, kC]; rfl) | (rw [chgV, kA, kB]; rfl) | (rw [chgV, kA, kC]; rfl) | (rw [chgV, kA]; rfl), ?_⟩)) (by repeat (first | exact SubL.nil | (apply SubL.cons; (repeat (first | exact At.here | apply At.there))) | exact SubL.refl _ | apply SubL.skip))
            · skip
              have kC : decide (tie = 1) = false := hb26
              refine tkS 17 (h := ?_)
              refine tkS 18 (h := ?_)
              refine tkS 19 (h := ?_)
              refine tkS 20 (h := ?_)
              refine tk 21 (hy := (by first | exact pkT | exact pkF)) (h := ?_)
              refine tk 22 (hy := (by first | exact pkT | exact pkF)) (h := ?_)
              refine dn (h := ?_)
              exact ctn () trivial (by repeat (first | exact trivial | refine ⟨rfl, ?_⟩ | refine ⟨by first | (rw [chgV, kA, kB, kC]; rfl) | (rw [chgV, kA, kB]; rfl) | (rw [chgV, kA, kC]; rfl) | (rw [chgV, kA]; rfl), ?_⟩)) (by repeat (first | exact SubL.nil | (apply SubL.cons; (repeat (first | exact At.here | apply At.there))) | exact SubL.refl _ | apply SubL.skip))
        rintro ⟨⟩ -
        refine cd (by exact rfl) (fun h27 => ?_) (fun h27 => ?_)
        · skip
          have hch : chgV f n tie (wonS f won g side) (gamS f won g side) = true := h27
          refine rg (h := ?_)
          refine WL.y (hy := asg) (h := ?_)
          refine nl (h := ?_)
          rw [hch]
          exact ctn () trivial (by repeat (first | exact trivial | refine ⟨rfl, ?_⟩)) (by repeat (first | exact SubL.nil | (apply SubL.cons; (repeat (first | exact At.here | apply At.there))) | exact SubL.refl _ | apply SubL.skip))
        · skip
          have hch : chgV f n tie (wonS f won g side) (gamS f won g side) = false := h27
          refine skp (h := ?_)
          rw [hch]
          exact ctn () trivial (by repeat (first | exact trivial | refine ⟨rfl, ?_⟩)) (by repeat (first | exact SubL.nil | (apply SubL.cons; (repeat (first | exact At.here | apply At.there))) | exact SubL.refl _ | apply SubL.skip))
      rintro ⟨⟩ -
      obtain ⟨hpl, hta⟩ := tabE_at (T := T) hws hgs htr
      have hr := hT (wonS f won g side) (gamS f won g side) (tieN f won g)
      obtain ⟨r, hrr⟩ : ∃ r, r = T (wonS f won g side) (gamS f won g side) (tieN f won g) := ⟨_, rfl⟩
      rw [← hrr] at hta hr
      unfold CsB at hr
      have hz1 := bz_rng (chgV f n tie (wonS f won g side) (gamS f won g side))
      have hz2 := bz_rng (endS f won g side)
      have hE : courV (fun w g _ t => T w g t) f won g n tie side = bumpC r (chgV f n tie (wonS f won g side) (gamS f won g side)) (endS f won g side) := by rw [courV, hov, cond_false, hrr]
      refine sq (h := ?_)
      refine rg (h := ?_)
      refine WL.y (hy := mv) (h := ?_)
      refine WL.y (hy := (by first | exact ldA | exact ldEA)) (h := ?_)
      refine WL.y (hy := (by first | exact ldA | exact ldEA)) (h := ?_)
      refine WL.y (hy := mv) (h := ?_)
      refine cl0 (hc := fun w hS => C_ref9_place (wonS f won g side) (gamS f won g side) (tieN f won g) (by omega) (by omega) htr w) (h := ?_)
      refine WL.y (hy := ix (A := A) (m := 1800) (hb := by omega)) (h := ?_)
      refine WL.y (hy := ldEW (A := A) (hk := hta)) (h := ?_)
      refine al (h := fun b7 => ?_)
      first | refine stA (h := ?_) | refine stEA (h := ?_)
      refine nl (h := ?_)
      refine q_seq (h := ?_)
      refine sq (h := ?_)
      refine rg (h := ?_)
      refine WL.y (hy := (by first | exact fa | exact faE)) (h := ?_)
      refine WL.y (hy := (by first | exact fa | exact faE)) (h := ?_)
      refine WL.y (hy := (by first | exact ld | exact ldE)) (h := ?_)
      refine WL.y (hy := mv) (h := ?_)
      refine WL.y (hy := addI) (h := ?_)
      refine WL.y (hy := (by first | exact fa | exact faE)) (h := ?_)
      refine WL.y (hy := (by first | exact fa | exact faE)) (h := ?_)
      refine WL.y (hy := (by first | exact ld | exact ldE)) (h := ?_)
      refine WL.y (hy := mv) (h := ?_)
      refine WL.y (hy := addI) (h := ?_)
      refine WL.y (hy := bd) (h := ?_)
      refine WL.y (hy := (by first | exact fa | exact faE)) (h := ?_)
      refine WL.y (hy := (by first | exact fa | exact faE)) (h := ?_)
      refine WL.y (hy := (by first | exact ld | exact ldE)) (h := ?_)
      refine WL.y (hy := mv) (h := ?_)
      refine WL.y (hy := addI) (h := ?_)
      refine WL.y (hy := (by first | exact fa | exact faE)) (h := ?_)
      refine WL.y (hy := (by first | exact fa | exact faE)) (h := ?_)
      refine WL.y (hy := (by first | exact ld | exact ldE)) (h := ?_)
      refine WL.y (hy := mv) (h := ?_)
      refine WL.y (hy := addI) (h := ?_)
      refine WL.y (hy := bd) (h := ?_)
      refine WL.y (hy := bd) (h := ?_)
      first | refine stA (h := ?_) | refine stEA (h := ?_)
      refine nl (h := ?_)
      refine q_seq (h := ?_)
      refine rtn (h := ?_)
      refine q_ret (hR := ?_)
      rw [hE]
      exact fun w hS => ⟨rfl, hS.sub (by repeat (first | exact SubL.nil | (apply SubL.cons; (repeat (first | exact At.here | apply At.there))) | exact SubL.refl _ | apply SubL.skip))⟩
end Go.Proofs.Ytacaojifempclaa

namespace Go.Proofs.Ytacaojifempclaa
open Go Go.RowKit

def partE (T : TabF) (cur : Nat) : List (List Value) := (List.range 1800).map fun i => ccs (if i < cur then T (decW i) (decG i) (decT i) else zC)
theorem map_rep {N : Nat} {f : Nat → List Value} {c : List Value} (h : ∀ i, f i = c) : (List.range N).map f = List.replicate N c :=
  List.eq_replicate_iff.2 ⟨by rw [List.length_map, List.length_range], fun b hb => by
    obtain ⟨i, _, rfl⟩ := List.mem_map.1 hb
    exact h i⟩
theorem part_zero (T : TabF) : partE T 0 = List.replicate 1800 (ccs zC) := map_rep fun i => by rw [if_neg (Nat.not_lt_zero i)]
theorem part_all (T : TabF) : partE T 1800 = tabE T := by
  unfold partE tabE
  refine List.map_congr_left fun i hi => ?_
  rw [if_pos (List.mem_range.1 hi)]
theorem tab_zero : tabE (fun _ _ _ => zC) = List.replicate 1800 (ccs zC) := map_rep fun _ => rfl
theorem part_len (T : TabF) (cur : Nat) : (partE T cur).length = 1800 := by simp [partE]
theorem part_set (T : TabF) {i : Nat} (hi : i < 1800) : (partE T i).set i (ccs (T (decW i) (decG i) (decT i))) = partE T (i + 1) := by
  refine List.ext_getElem (by simp [part_len]) fun k h1 h2 => ?_
  have hk : k < 1800 := by simpa [part_len] using h1
  rw [List.getElem_set]
  by_cases e : i = k
  · subst e
    rw [if_pos rfl]
    simp [partE]
  · rw [if_neg e]
    simp only [partE, List.getElem_map, List.getElem_range]
    by_cases h : k < i
    · rw [if_pos h, if_pos (by omega)]
    · rw [if_neg h, if_neg (by omega)]
theorem part_skip {T : TabF} {a b : Nat} (hab : a ≤ b) (h : ∀ i, a ≤ i → i < b → i < 1800 → T (decW i) (decG i) (decT i) = zC) : partE T a = partE T b := by
  unfold partE
  refine List.map_congr_left fun i hi => ?_
  have hi' := List.mem_range.1 hi
  by_cases h1 : i < a
  · rw [if_pos h1, if_pos (by omega)]
  · rw [if_neg h1]
    by_cases h2 : i < b
    · rw [if_pos h2, h i (by omega) h2 hi']
    · rw [if_neg h2]
theorem dec_at {u v x y t : Nat} (hv : v ≤ 2) (hx : x ≤ 9) (hy : y ≤ 9) (ht : t ≤ 1) : decW (u * 600 + v * 200 + x * 20 + y * 2 + t) = ((u : Int), (v : Int)) ∧ decG (u * 600 + v * 200 + x * 20 + y * 2 + t) = ((x : Int), (y : Int)) ∧ decT (u * 600 + v * 200 + x * 20 + y * 2 + t) = (t : Int) := by
  unfold decW decG decT
  refine ⟨Prod.ext ?_ ?_, Prod.ext ?_ ?_, ?_⟩ <;> (try dsimp only) <;> omega
theorem place_at (u v x y t : Nat) : (placeI ((u : Int), (v : Int)) ((x : Int), (y : Int)) t).toNat = u * 600 + v * 200 + x * 20 + y * 2 + t := by
  unfold placeI; omega
theorem tab_out {f : Fmt} {B : Int} {j : Nat} {w g : Pr} {t : Int} (h : inR f w g = false) : tabF f B (j + 1) w g t = zC := by rw [tabF, h]; rfl
section
variable {f : Fmt} {B : Int} {j u v x S G : Nat}
def Tn (f : Fmt) (B : Int) (j : Nat) : TabF := fun w g t => tabF f B j w g t
theorem out_g {w g : Pr} (h : f.games < g.2 ∨ f.games < g.1 ∨ f.sets ≤ w.2 ∨ f.sets ≤ w.1) : inR f w g = false := by
  rw [← Bool.not_eq_true]
  intro e
  have := inR_iff.1 e
  omega
theorem skip_y (hG : f.games = (G : Int)) (hg : G ≤ 8) : partE (Tn f B (j + 1)) (u * 600 + v * 200 + x * 20 + (G + 1) * 2) = partE (Tn f B (j + 1)) (u * 600 + v * 200 + (x + 1) * 20) :=
  part_skip (by omega) fun i h1 h2 _ => tab_out (out_g (.inl (by unfold decG; dsimp only; omega)))
theorem skip_x (hG : f.games = (G : Int)) (hg : G ≤ 8) : partE (Tn f B (j + 1)) (u * 600 + v * 200 + (G + 1) * 20) = partE (Tn f B (j + 1)) (u * 600 + (v + 1) * 200) :=
  part_skip (by omega) fun i h1 h2 _ => tab_out (out_g (.inr (.inl (by unfold decG; dsimp only; omega))))
theorem skip_v (hS : f.sets = (S : Int)) (hs : S ≤ 3) : partE (Tn f B (j + 1)) (u * 600 + S * 200) = partE (Tn f B (j + 1)) ((u + 1) * 600) :=
  part_skip (by omega) fun i h1 h2 _ => tab_out (out_g (.inr (.inr (.inl (by unfold decW; dsimp only; omega)))))
theorem skip_u (hS : f.sets = (S : Int)) (hs : S ≤ 3) : partE (Tn f B (j + 1)) (S * 600) = tabE (Tn f B (j + 1)) := by
  rw [← part_all]
  exact part_skip (by omega) fun i h1 h2 _ => tab_out (out_g (.inr (.inr (.inr (by unfold decW; dsimp only; omega)))))
theorem tn_in {w g : Pr} {t : Int} (h : inR f w g = true) : Tn f B (j + 1) w g t = orV (courV (fun w g _ t => Tn f B j w g t) f w g (B - ((j : Int) + 1)) t 0) (courV (fun w g _ t => Tn f B j w g t) f w g (B - ((j : Int) + 1)) t 1) := by
  show tabF f B (j + 1) w g t = _
  rw [tabF, h]; rfl
end
structure KB where
  (j b : Nat)
set_option maxRecDepth 100000 in
set_option maxHeartbeats 8000000 in
theorem C_ref9_courses (f : Fmt) (n B : Int) (hf : f.Ok) (hn : 0 ≤ n ∧ n ≤ B) (hB : B ≤ 1000) (w : World) :
    CR Try.prog 99 [f.val, .int .i64 n, .int .i64 B] w (fun _ : Nat => True) (fun b => .slice (some ⟨b, 0, none⟩) 1800 1800) (fun b => [.own (some ⟨b, 0, none⟩) 1800 109 4 1800 (tabE (Tn f B (B - n).toNat))]) := by
  have hs0 := hf.s0
  have hs1 := hf.s1
  have hg0 := hf.g0
  have hg1 := hf.g1
  obtain ⟨S, hS⟩ : ∃ S : Nat, f.sets = (S : Int) := ⟨f.sets.toNat, by omega⟩
  obtain ⟨G, hG⟩ : ∃ G : Nat, f.games = (G : Int) := ⟨f.games.toNat, by omega⟩
  refine ⟨en Try.func99 Try.ntmps99 (St.init w) (h := fun F => ?_)⟩
  refine sq (h := ?_)
  refine rg (h := ?_)
  refine bxA (h := fun b0 => ?_)
  refine WL.y (hy := asg) (h := ?_)
  refine nl (h := ?_)
  refine q_seq (h := ?_)
  refine sq (h := ?_)
  refine rg (h := ?_)
  refine mks 1800 (h := fun bq => ?_)
  rw [show List.replicate 1800 [Value.int .i64 0, .int .i64 0, .int .i64 0, .int .i64 0] = tabE (Tn f B 0) from tab_zero.symm]
  refine WL.y (hy := asg) (h := ?_)
  refine nl (h := ?_)
  refine q_seq (h := ?_)
  refine sq (h := ?_)
  refine sq (h := ?_)
  refine rg (h := ?_)
  refine WL.y (hy := mv) (h := ?_)
  refine WL.y (hy := subI) (h := ?_)
  refine WL.y (hy := asg) (h := ?_)
  refine nl (h := ?_)
  refine q_seq (h := ?_)
  refine bk (h := ?_)
  refine lp (X := KB) (I := fun z => (z.j : Int) ≤ B - n) (le := fun z => [(1, .int .i64 n), (2, .int .i64 B), (3, .pointer (some ⟨b0, 0, none⟩)), (7, .slice (some ⟨z.b, 0, none⟩) 1800 1800), (8, .int .i64 (B - ((z.j : Int) + 1)))]) (Le := fun z => [.own (some ⟨z.b, 0, none⟩) 1800 109 4 1800 (tabE (Tn f B z.j)), .blk b0 23 f.cells]) (μ := fun z => (B - n).toNat - z.j) ⟨0, bq⟩ (by dsimp only; omega) (by repeat (first | exact trivial | refine ⟨rfl, ?_⟩)) (by repeat (first | exact SubL.nil | (apply SubL.cons; (repeat (first | exact At.here | apply At.there))) | exact SubL.refl _ | apply SubL.skip)) (fun z hz => ?_)
  refine sq (h := ?_)
  refine sq (h := ?_)
  refine rg (h := ?_)
  refine WL.y (hy := mv) (h := ?_)
  refine WL.y (hy := mv) (h := ?_)
  refine WL.y (hy := geq) (h := ?_)
  refine nl (h := ?_)
  refine q_seq (h := ?_)
  refine cd (by exact rfl) (fun h0 => ?_) (fun h0 => ?_)
  · skip
    have hjk : n ≤ B - ((z.j : Int) + 1) := of_decide_eq_true h0
    have hTb : ∀ w g t, CsB (Tn f B z.j w g t) 1000 := fun w g t => by
      have h1 : CsB (Tn f B z.j w g t) z.j := csb_tab B z.j w g t
      unfold CsB at h1 ⊢
      omega
    have hdec : B - ((z.j : Int) + 1) - 1 = B - (((z.j + 1 : Nat) : Int) + 1) := by omega
    refine skp (h := ?_)
    refine q_seq (h := ?_)
    refine sq (h := ?_)
    refine bk (h := ?_)
    refine sq (h := ?_)
    refine rg (h := ?_)
    refine WL.y (hy := mv) (h := ?_)
    refine WL.y (hy := asg) (h := ?_)
    refine nl (h := ?_)
    refine q_seq (h := ?_)
    refine sq (h := ?_)
    refine rg (h := ?_)
    refine WL.y (hy := mv) (h := ?_)
    refine WL.y (hy := lenS) (h := ?_)
    refine mks 1800 (h := fun bn => ?_)
    rw [show List.replicate 1800 [Value.int .i64 0, .int .i64 0, .int .i64 0, .int .i64 0] = partE (Tn f B (z.j + 1)) 0 from (part_zero _).symm]
    refine WL.y (hy := asg) (h := ?_)
    refine nl (h := ?_)
    refine q_seq (h := ?_)
    refine sq (h := ?_)
    refine rg (h := ?_)
    refine WL.y (hy := asg) (h := ?_)
    refine nl (h := ?_)
    refine q_seq (h := ?_)
    refine bk (h := ?_)
    refine lp (X := Nat) (I := fun u => u ≤ S) (le := fun u => [(1, .int .i64 n), (2, .int .i64 B), (3, .pointer (some ⟨b0, 0, none⟩)), (7, .slice (some ⟨bn, 0, none⟩) 1800 1800), (8, .int .i64 (B - ((z.j : Int) + 1))), (9, .slice (some ⟨z.b, 0, none⟩) 1800 1800), (10, .int .i64 u)]) (Le := fun u => [.own (some ⟨bn, 0, none⟩) 1800 109 4 1800 (partE (Tn f B (z.j + 1)) (u * 600)), .own (some ⟨z.b, 0, none⟩) 1800 109 4 1800 (tabE (Tn f B z.j)), .blk b0 23 f.cells]) (μ := fun u => S - u) 0 (Nat.zero_le _) (by repeat (first | exact trivial | refine ⟨rfl, ?_⟩)) (by repeat (first | exact SubL.nil | (apply SubL.cons; (repeat (first | exact At.here | apply At.there))) | exact SubL.refl _ | apply SubL.skip)) (fun u hu => ?_)
    refine sq (h := ?_)
    refine sq (h := ?_)
    refine rg (h := ?_)
    refine WL.y (hy := mv) (h := ?_)
    refine WL.y (hy := (by first | exact fa | exact faE)) (h := ?_)
    refine WL.y (hy := (by first | exact ld | exact ldE)) (h := ?_)
    refine WL.y (hy := lss) (h := ?_)
    refine nl (h := ?_)
    refine q_seq (h := ?_)
    refine cd (by exact rfl) (fun h1 => ?_) (fun h1 => ?_)
    · skip
      have huS : u < S := by have := of_decide_eq_true h1; omega
      refine skp (h := ?_)
      refine q_seq (h := ?_)
      refine sq (h := ?_)
      refine bk (h := ?_)
      refine sq (h := ?_)
      refine rg (h := ?_)
      refine WL.y (hy := asg) (h := ?_)
      refine nl (h := ?_)
      refine q_seq (h := ?_)
      refine bk (h := ?_)
      refine lp (X := Nat) (I := fun v => v ≤ S) (le := fun v => [(1, .int .i64 n), (2, .int .i64 B), (3, .pointer (some ⟨b0, 0, none⟩)), (7, .slice (some ⟨bn, 0, none⟩) 1800 1800), (8, .int .i64 (B - ((z.j : Int) + 1))), (9, .slice (some ⟨z.b, 0, none⟩) 1800 1800), (10, .int .i64 u), (11, .int .i64 v)]) (Le := fun v => [.own (some ⟨bn, 0, none⟩) 1800 109 4 1800 (partE (Tn f B (z.j + 1)) (u * 600 + v * 200)), .own (some ⟨z.b, 0, none⟩) 1800 109 4 1800 (tabE (Tn f B z.j)), .blk b0 23 f.cells]) (μ := fun v => S - v) 0 (Nat.zero_le _) (by repeat (first | exact trivial | refine ⟨rfl, ?_⟩)) (by simp only [Nat.zero_mul, Nat.add_zero]; repeat (first | exact SubL.nil | (apply SubL.cons; (repeat (first | exact At.here | apply At.there))) | exact SubL.refl _ | apply SubL.skip)) (fun v hv => ?_)
      refine sq (h := ?_)
      refine sq (h := ?_)
      refine rg (h := ?_)
      refine WL.y (hy := mv) (h := ?_)
      refine WL.y (hy := (by first | exact fa | exact faE)) (h := ?_)
      refine WL.y (hy := (by first | exact ld | exact ldE)) (h := ?_)
      refine WL.y (hy := lss) (h := ?_)
      refine nl (h := ?_)
      refine q_seq (h := ?_)
      refine cd (by exact rfl) (fun h2 => ?_) (fun h2 => ?_)
      · skip
        have hvS : v < S := by have := of_decide_eq_true h2; omega
        refine skp (h := ?_)
        refine q_seq (h := ?_)
        refine sq (h := ?_)
        refine bk (h := ?_)
        refine sq (h := ?_)
        refine rg (h := ?_)
        refine WL.y (hy := asg) (h := ?_)
        refine nl (h := ?_)
        refine q_seq (h := ?_)
        refine bk (h := ?_)
        refine lp (X := Nat) (I := fun x => x ≤ G + 1) (le := fun x => [(1, .int .i64 n), (2, .int .i64 B), (3, .pointer (some ⟨b0, 0, none⟩)), (7, .slice (some ⟨bn, 0, none⟩) 1800 1800), (8, .int .i64 (B - ((z.j : Int) + 1))), (9, .slice (some ⟨z.b, 0, none⟩) 1800 1800), (10, .int .i64 u), (11, .int .i64 v), (12, .int .i64 x)]) (Le := fun x => [.own (some ⟨bn, 0, none⟩) 1800 109 4 1800 (partE (Tn f B (z.j + 1)) (u * 600 + v * 200 + x * 20)), .own (some ⟨z.b, 0, none⟩) 1800 109 4 1800 (tabE (Tn f B z.j)), .blk b0 23 f.cells]) (μ := fun x => G + 1 - x) 0 (Nat.zero_le _) (by repeat (first | exact trivial | refine ⟨rfl, ?_⟩)) (by simp only [Nat.zero_mul, Nat.add_zero]; repeat (first | exact SubL.nil | (apply SubL.cons; (repeat (first | exact At.here | apply At.there))) | exact SubL.refl _ | apply SubL.skip)) (fun x hx => ?_)
        refine sq (h := ?_)
        refine sq (h := ?_)
        refine rg (h := ?_)
        refine WL.y (hy := mv) (h := ?_)
        refine WL.y (hy := (by first | exact fa | exact faE)) (h := ?_)
        refine WL.y (hy := (by first | exact ld | exact ldE)) (h := ?_)
        refine WL.y (hy := leq) (h := ?_)
        refine nl (h := ?_)
        refine q_seq (h := ?_)
        refine cd (by exact rfl) (fun h3 => ?_) (fun h3 => ?_)
        · skip
          have hxG : x ≤ G := by have := of_decide_eq_true h3; omega
          refine skp (h := ?_)
          refine q_seq (h := ?_)
          refine sq (h := ?_)
          refine bk (h := ?_)
          refine sq (h := ?_)
          refine rg (h := ?_)
          refine WL.y (hy := asg) (h := ?_)
          refine nl (h := ?_)
          refine q_seq (h := ?_)
          refine bk (h := ?_)
          refine lp (X := Nat) (I := fun y => y ≤ G + 1) (le := fun y => [(1, .int .i64 n), (2, .int .i64 B), (3, .pointer (some ⟨b0, 0, none⟩)), (7, .slice (some ⟨bn, 0, none⟩) 1800 1800), (8, .int .i64 (B - ((z.j : Int) + 1))), (9, .slice (some ⟨z.b, 0, none⟩) 1800 1800), (10, .int .i64 u), (11, .int .i64 v), (12, .int .i64 x), (13, .int .i64 y)]) (Le := fun y => [.own (some ⟨bn, 0, none⟩) 1800 109 4 1800 (partE (Tn f B (z.j + 1)) (u * 600 + v * 200 + x * 20 + y * 2)), .own (some ⟨z.b, 0, none⟩) 1800 109 4 1800 (tabE (Tn f B z.j)), .blk b0 23 f.cells]) (μ := fun y => G + 1 - y) 0 (Nat.zero_le _) (by repeat (first | exact trivial | refine ⟨rfl, ?_⟩)) (by simp only [Nat.zero_mul, Nat.add_zero]; repeat (first | exact SubL.nil | (apply SubL.cons; (repeat (first | exact At.here | apply At.there))) | exact SubL.refl _ | apply SubL.skip)) (fun y hy => ?_)
          refine sq (h := ?_)
          refine sq (h := ?_)
          refine rg (h := ?_)
          refine WL.y (hy := mv) (h := ?_)
          refine WL.y (hy := (by first | exact fa | exact faE)) (h := ?_)
          refine WL.y (hy := (by first | exact ld | exact ldE)) (h := ?_)
          refine WL.y (hy := leq) (h := ?_)
          refine nl (h := ?_)
          refine q_seq (h := ?_)
          refine cd (by exact rfl) (fun h4 => ?_) (fun h4 => ?_)
          · skip
            have hyG : y ≤ G := by have := of_decide_eq_true h4; omega
            refine skp (h := ?_)
            refine q_seq (h := ?_)
            refine sq (h := ?_)
            refine bk (h := ?_)
            refine sq (h := ?_)
            refine rg (h := ?_)
            refine WL.y (hy := asg) (h := ?_)
            refine nl (h := ?_)
            refine q_seq (h := ?_)
            refine bk (h := ?_)
            refine lp (X := Nat) (I := fun t => t ≤ 2) (le := fun t => [(1, .int .i64 n), (2, .int .i64 B), (3, .pointer (some ⟨b0, 0, none⟩)), (7, .slice (some ⟨bn, 0, none⟩) 1800 1800), (8, .int .i64 (B - ((z.j : Int) + 1))), (9, .slice (some ⟨z.b, 0, none⟩) 1800 1800), (10, .int .i64 u), (11, .int .i64 v), (12, .int .i64 x), (13, .int .i64 y), (14, .int .i64 t)]) (Le := fun t => [.own (some ⟨bn, 0, none⟩) 1800 109 4 1800 (partE (Tn f B (z.j + 1)) (u * 600 + v * 200 + x * 20 + y * 2 + t)), .own (some ⟨z.b, 0, none⟩) 1800 109 4 1800 (tabE (Tn f B z.j)), .blk b0 23 f.cells]) (μ := fun t => 2 - t) 0 (Nat.zero_le _) (by repeat (first | exact trivial | refine ⟨rfl, ?_⟩)) (by simp only [Nat.zero_mul, Nat.add_zero]; repeat (first | exact SubL.nil | (apply SubL.cons; (repeat (first | exact At.here | apply At.there))) | exact SubL.refl _ | apply SubL.skip)) (fun t ht => ?_)
            refine sq (h := ?_)
            refine sq (h := ?_)
            refine rg (h := ?_)
            refine WL.y (hy := mv) (h := ?_)
            refine WL.y (hy := lss) (h := ?_)
            refine nl (h := ?_)
            refine q_seq (h := ?_)
            refine cd (by exact rfl) (fun h5 => ?_) (fun h5 => ?_)
            · skip
              have ht2 : t < 2 := by have := of_decide_eq_true h5; omega
              obtain ⟨hd1, hd2, hd3⟩ := dec_at (u := u) (v := v) (x := x) (y := y) (t := t) (by omega) (by omega) (by omega) (by omega)
              have hpl := place_at u v x y t
              have hpb : 0 ≤ placeI ((u : Int), (v : Int)) ((x : Int), (y : Int)) t ∧ placeI ((u : Int), (v : Int)) ((x : Int), (y : Int)) t < ((1800 : Nat) : Int) := by unfold placeI; omega
              have hst := part_set (Tn f B (z.j + 1)) (i := u * 600 + v * 200 + x * 20 + y * 2 + t) (by omega)
              rw [hd1, hd2, hd3] at hst
              have hti := tn_in (f := f) (B := B) (j := z.j) (w := ((u : Int), (v : Int))) (g := ((x : Int), (y : Int))) (t := (t : Int)) (inR_iff.2 (by omega))
              refine skp (h := ?_)
              refine q_seq (h := ?_)
              refine sq (h := ?_)
              refine bk (h := ?_)
              refine sq (h := ?_)
              refine rg (h := ?_)
              refine WL.y (hy := mv) (h := ?_)
              refine WL.y (hy := mv) (h := ?_)
              refine WL.y (hy := bd) (h := ?_)
              refine WL.y (hy := mv) (h := ?_)
              refine WL.y (hy := mv) (h := ?_)
              refine WL.y (hy := bd) (h := ?_)
              refine al (h := fun bw => ?_)
              refine al (h := fun bg => ?_)
              first | refine stA (h := ?_) | refine stEA (h := ?_)
              first | refine stA (h := ?_) | refine stEA (h := ?_)
              refine nl (h := ?_)
              refine q_seq (h := ?_)
              refine rgD (by kernel_rfl) [(1000000, .blk b0 23 f.cells), (1000000, .blk bw 26 [.int .i64 u, .int .i64 v]), (1000000, .blk bg 26 [.int .i64 x, .int .i64 y]), (21, .own (some ⟨bn, 0, none⟩) 1800 109 4 1800 (partE (Tn f B (z.j + 1)) (u * 600 + v * 200 + x * 20 + y * 2 + t)))] (by repeat (first | exact HS.nil | (apply HS.keep; (repeat (first | exact At.here | apply At.there))) | (apply HS.ro; (repeat (first | exact Rds.ro | exact Rds.own | apply Rds.there))))) (h := ?_)
              refine tk 0 (hy := mv) (h := ?_)
              refine tk 1 (hy := (by first | exact ldA | exact ldEA)) (h := ?_)
              refine tk 2 (hy := (by first | exact ldA | exact ldEA)) (h := ?_)
              refine tk 3 (hy := mv) (h := ?_)
              refine tk 5 (hy := (by first | exact ldA | exact ldEA)) (h := ?_)
              refine tk 6 (hy := (by first | exact ldA | exact ldEA)) (h := ?_)
              refine tk 7 (hy := (by first | exact ldA | exact ldEA)) (h := ?_)
              refine tk 8 (hy := mv) (h := ?_)
              refine tk 9 (hy := mv) (h := ?_)
              refine tk 10 (hy := mv) (h := ?_)
              refine tk 12 (hy := (by first | exact ldA | exact ldEA)) (h := ?_)
              refine tk 13 (hy := (by first | exact ldA | exact ldEA)) (h := ?_)
              refine tk 14 (hy := (by first | exact ldA | exact ldEA)) (h := ?_)
              refine tk 15 (hy := mv) (h := ?_)
              refine tk 16 (hy := mv) (h := ?_)
              refine tk 17 (hy := mv) (h := ?_)
              refine one 4 (h := ?_)
              refine cl0 (hc := fun w hS => C_ref9_place ((u : Int), (v : Int)) ((x : Int), (y : Int)) t (by omega) (by omega) (by omega) w) (h := ?_)
              refine nx (h := ?_)
              refine one 11 (h := ?_)
              refine cl0 (hc := fun w hS' => C_ref9_after f (Tn f B z.j) ((u : Int), (v : Int)) ((x : Int), (y : Int)) t (B - ((z.j : Int) + 1)) 0 hf (.inl rfl) (by omega) (by omega) (by omega) (by omega) hTb (some ⟨z.b, 0, none⟩) 1800 w (hS'.get (by repeat (first | exact Rds.ro | exact Rds.own | apply Rds.there)))) (h := ?_)
              refine nx (h := ?_)
              refine one 18 (h := ?_)
              refine cl0 (hc := fun w hS' => C_ref9_after f (Tn f B z.j) ((u : Int), (v : Int)) ((x : Int), (y : Int)) t (B - ((z.j : Int) + 1)) 1 hf (.inr rfl) (by omega) (by omega) (by omega) (by omega) hTb (some ⟨z.b, 0, none⟩) 1800 w (hS'.get (by repeat (first | exact Rds.ro | exact Rds.own | apply Rds.there)))) (h := ?_)
              refine nx (h := ?_)
              refine one 19 (h := ?_)
              refine cl0 (hc := fun w hS' => C_ref9_joined _ _ w) (h := ?_)
              rw [← hti]
              refine nx (h := ?_)
              refine tk 20 (hy := ix (A := some ⟨bn, 0, none⟩) (m := 1800) (hb := hpb)) (h := ?_)
              refine one 21 (h := ?_)
              rw [hpl]
              refine stEW (A := some ⟨bn, 0, none⟩) (k := u * 600 + v * 200 + x * 20 + y * 2 + t) (vs := ccs (Tn f B (z.j + 1) ((u : Int), (v : Int)) ((x : Int), (y : Int)) t)) (hk := by omega) (h := ?_)
              rw [hst]
              refine nx (h := ?_)
              refine dn (h := ?_)
              refine q_blk_norm (h := ?_)
              refine q_seq (h := ?_)
              refine rg (h := ?_)
              refine WL.y (hy := mv) (h := ?_)
              refine WL.y (hy := addI) (h := ?_)
              refine WL.y (hy := asg) (h := ?_)
              refine nl (h := ?_)
              refine rn (x := t) (t + 1) (by omega) (by omega) (by repeat (first | exact trivial | refine ⟨rfl, ?_⟩)) (by repeat (first | exact SubL.nil | (apply SubL.cons; (repeat (first | exact At.here | apply At.there))) | exact SubL.refl _ | apply SubL.skip))
            · skip
              have ht2 : t = 2 := by have := of_decide_eq_false h5; omega
              rw [ht2, show u * 600 + v * 200 + x * 20 + y * 2 + 2 = u * 600 + v * 200 + x * 20 + (y + 1) * 2 by omega]
              refine et (h := ?_)
              refine q_then_exit (h := ?_)
              refine q_then_exit (h := ?_)
              refine q_blk_hit (h := ?_)
              refine q_blk_norm (h := ?_)
              refine q_seq (h := ?_)
              refine rg (h := ?_)
              refine WL.y (hy := mv) (h := ?_)
              refine WL.y (hy := addI) (h := ?_)
              refine WL.y (hy := asg) (h := ?_)
              refine nl (h := ?_)
              refine rn (x := y) (y + 1) (by omega) (by omega) (by repeat (first | exact trivial | refine ⟨rfl, ?_⟩)) (by repeat (first | exact SubL.nil | (apply SubL.cons; (repeat (first | exact At.here | apply At.there))) | exact SubL.refl _ | apply SubL.skip))
          · skip
            have hyG : y = G + 1 := by have := of_decide_eq_false h4; omega
            rw [hyG, skip_y hG (by omega)]
            refine et (h := ?_)
            refine q_then_exit (h := ?_)
            refine q_then_exit (h := ?_)
            refine q_blk_hit (h := ?_)
            refine q_blk_norm (h := ?_)
            refine q_seq (h := ?_)
            refine rg (h := ?_)
            refine WL.y (hy := mv) (h := ?_)
            refine WL.y (hy := addI) (h := ?_)
            refine WL.y (hy := asg) (h := ?_)
            refine nl (h := ?_)
            refine rn (x := x) (x + 1) (by omega) (by omega) (by repeat (first | exact trivial | refine ⟨rfl, ?_⟩)) (by repeat (first | exact SubL.nil | (apply SubL.cons; (repeat (first | exact At.here | apply At.there))) | exact SubL.refl _ | apply SubL.skip))
        · skip
          have hxG : x = G + 1 := by have := of_decide_eq_false h3; omega
          rw [hxG, skip_x hG (by omega)]
          refine et (h := ?_)
          refine q_then_exit (h := ?_)
          refine q_then_exit (h := ?_)
          refine q_blk_hit (h := ?_)
          refine q_blk_norm (h := ?_)
          refine q_seq (h := ?_)
          refine rg (h := ?_)
          refine WL.y (hy := mv) (h := ?_)
          refine WL.y (hy := addI) (h := ?_)
          refine WL.y (hy := asg) (h := ?_)
          refine nl (h := ?_)
          refine rn (x := v) (v + 1) hvS (by omega) (by repeat (first | exact trivial | refine ⟨rfl, ?_⟩)) (by repeat (first | exact SubL.nil | (apply SubL.cons; (repeat (first | exact At.here | apply At.there))) | exact SubL.refl _ | apply SubL.skip))
      · skip
        have hvS : v = S := by have := of_decide_eq_false h2; omega
        rw [hvS, skip_v hS (by omega)]
        refine et (h := ?_)
        refine q_then_exit (h := ?_)
        refine q_then_exit (h := ?_)
        refine q_blk_hit (h := ?_)
        refine q_blk_norm (h := ?_)
        refine q_seq (h := ?_)
        refine rg (h := ?_)
        refine WL.y (hy := mv) (h := ?_)
        refine WL.y (hy := addI) (h := ?_)
        refine WL.y (hy := asg) (h := ?_)
        refine nl (h := ?_)
        refine rn (x := u) (u + 1) huS (by omega) (by repeat (first | exact trivial | refine ⟨rfl, ?_⟩)) (by repeat (first | exact SubL.nil | (apply SubL.cons; (repeat (first | exact At.here | apply At.there))) | exact SubL.refl _ | apply SubL.skip))
    · skip
      have huS : u = S := by have := of_decide_eq_false h1; omega
      rw [huS, skip_u hS (by omega)]
      refine et (h := ?_)
      refine q_then_exit (h := ?_)
      refine q_then_exit (h := ?_)
      refine q_blk_hit (h := ?_)
      refine q_blk_norm (h := ?_)
      refine q_seq (h := ?_)
      refine rg (h := ?_)
      refine WL.y (hy := mv) (h := ?_)
      refine WL.y (hy := subI) (h := ?_)
      refine WL.y (hy := asg) (h := ?_)
      refine nl (h := ?_)
      refine rn (x := z) ⟨z.j + 1, bn⟩ (by dsimp only; omega) (by dsimp only; omega) (by dsimp only; rw [← hdec]; repeat (first | exact trivial | refine ⟨rfl, ?_⟩)) (by repeat (first | exact SubL.nil | (apply SubL.cons; (repeat (first | exact At.here | apply At.there))) | exact SubL.refl _ | apply SubL.skip))
  · skip
    have hjk : ¬ n ≤ B - ((z.j : Int) + 1) := of_decide_eq_false h0
    rw [show z.j = (B - n).toNat by omega]
    refine et (h := ?_)
    refine q_then_exit (h := ?_)
    refine q_then_exit (h := ?_)
    refine q_blk_hit (h := ?_)
    refine q_seq (h := ?_)
    refine sq (h := ?_)
    refine rg (h := ?_)
    refine WL.y (hy := mv) (h := ?_)
    refine WL.y (hy := asg) (h := ?_)
    refine nl (h := ?_)
    refine q_seq (h := ?_)
    refine rtn (h := ?_)
    refine q_ret (hR := ?_)
    exact fun w hS => ⟨z.b, trivial, rfl, hS.sub (by repeat (first | exact SubL.nil | (apply SubL.cons; (repeat (first | exact At.here | apply At.there))) | exact SubL.refl _ | apply SubL.skip))⟩
end Go.Proofs.Ytacaojifempclaa
