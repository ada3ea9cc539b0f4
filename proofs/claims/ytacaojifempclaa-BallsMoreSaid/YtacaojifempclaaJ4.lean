/- The texts of the walk, part 4. -/
import Derived.Test.YtacaojifempclaaJ3
namespace Go.Proofs.Ytacaojifempclaa
open Go Go.RowKit

abbrev restc (f : Fmt) (b : Nat) : List Value := [.int .i64 f.sets, .int .i64 f.games, .bool f.noAd, .int .i64 f.tie, .int .i64 f.to, .int .i64 f.ltie, .int .i64 f.lto, .int .i64 f.first, .int .i64 f.thn, .bool f.dbl, .map (some b)]
abbrev restv (f : Fmt) (b : Nat) : Value := .agg #[.int .i64 f.sets, .int .i64 f.games, .bool f.noAd, .int .i64 f.tie, .int .i64 f.to, .int .i64 f.ltie, .int .i64 f.lto, .int .i64 f.first, .int .i64 f.thn, .bool f.dbl, .map (some b)]
structure Spo where
  (won games : Pr) (num t0 t1 : Int)
abbrev Spo.cells (s : Spo) : List Value := [.int .i64 s.won.1, .int .i64 s.won.2, .int .i64 s.games.1, .int .i64 s.games.2, .int .i64 s.num, .int .i64 s.t0, .int .i64 s.t1]
abbrev Spo.val (s : Spo) : Value := .agg #[.int .i64 s.won.1, .int .i64 s.won.2, .int .i64 s.games.1, .int .i64 s.games.2, .int .i64 s.num, .int .i64 s.t0, .int .i64 s.t1]
theorem C_bound_or1 (a b : Pr) (w : World) : C0 Try.prog 122 [pv a, pv b] w (pv (wideV a b)) := by
  refine ⟨en Try.func122 Try.ntmps122 (St.init w) (h := fun F => ?_)⟩
  refine sq (h := ?_)
  refine rg (h := ?_)
  refine bxA (h := fun b0 => ?_)
  refine bxA (h := fun b1 => ?_)
  refine al (h := fun b2 => ?_)
  refine nl (h := ?_)
  refine q_seq (h := ?_)
  refine sq (h := ?_)
  refine rg (h := ?_)
  refine WL.y (hy := (by first | exact fa | exact faE)) (h := ?_)
  refine WL.y (hy := (by first | exact ld | exact ldE)) (h := ?_)
  refine WL.y (hy := (by first | exact fa | exact faE)) (h := ?_)
  refine WL.y (hy := (by first | exact ld | exact ldE)) (h := ?_)
  refine WL.y (hy := minI) (h := ?_)
  refine WL.y (hy := (by first | exact fa | exact faE)) (h := ?_)
  refine WL.y (hy := (by first | exact ld | exact ldE)) (h := ?_)
  refine WL.y (hy := (by first | exact fa | exact faE)) (h := ?_)
  refine WL.y (hy := (by first | exact ld | exact ldE)) (h := ?_)
  refine WL.y (hy := maxI) (h := ?_)
  refine WL.y (hy := bd) (h := ?_)
  first | refine stA (h := ?_) | refine stEA (h := ?_)
  refine nl (h := ?_)
  refine q_seq (h := ?_)
  refine rtn (h := ?_)
  refine q_ret (hR := ?_)
  exact fun w hS => ⟨rfl, hS.sub (by repeat (first | exact SubL.nil | (apply SubL.cons; (repeat (first | exact At.here | apply At.there))) | exact SubL.refl _ | apply SubL.skip))⟩
theorem C_bound_or (a b : Cs) (w : World) : C0 Try.prog 111 [cv a, cv b] w (cv (orV a b)) := by
  refine ⟨en Try.func111 Try.ntmps111 (St.init w) (h := fun F => ?_)⟩
  refine sq (h := ?_)
  refine rg (h := ?_)
  refine bxA (h := fun b0 => ?_)
  refine bxA (h := fun b1 => ?_)
  refine al (h := fun b2 => ?_)
  refine nl (h := ?_)
  refine q_seq (h := ?_)
  refine sq (h := ?_)
  refine rg (h := ?_)
  refine WL.y (hy := asg) (h := ?_)
  refine nl (h := ?_)
  refine q_seq (h := ?_)
  refine sq (h := ?_)
  refine rgD (by kernel_rfl) [(1000000, .blk b0 103 (ccs a)), (1000000, .blk b1 103 (ccs b))] (by repeat (first | exact HS.nil | (apply HS.keep; (repeat (first | exact At.here | apply At.there))) | (apply HS.ro; (repeat (first | exact Rds.ro | exact Rds.own | apply Rds.there))))) (h := ?_)
  refine tk 0 (hy := mv) (h := ?_)
  refine tk 1 (hy := (by first | exact fa | exact faE)) (h := ?_)
  refine tk 2 (hy := (by first | exact ldA | exact ldEA)) (h := ?_)
  refine tk 3 (hy := (by first | exact fa | exact faE)) (h := ?_)
  refine tk 4 (hy := (by first | exact ldA | exact ldEA)) (h := ?_)
  refine tk 6 (hy := mv) (h := ?_)
  refine tk 7 (hy := (by first | exact fa | exact faE)) (h := ?_)
  refine tk 8 (hy := (by first | exact ldA | exact ldEA)) (h := ?_)
  refine tk 9 (hy := (by first | exact fa | exact faE)) (h := ?_)
  refine tk 10 (hy := (by first | exact ldA | exact ldEA)) (h := ?_)
  refine one 5 (h := ?_)
  refine clf0 (f := 122) (fi := []) (cap := []) (hc := fun w hS => C_bound_or1 a.1 b.1 w) (h := ?_)
  refine nx (h := ?_)
  refine one 11 (h := ?_)
  refine clf0 (f := 122) (fi := []) (cap := []) (hc := fun w hS => C_bound_or1 a.2 b.2 w) (h := ?_)
  refine nx (h := ?_)
  refine tk 12 (hy := bd) (h := ?_)
  refine one 13 (h := ?_)
  first | refine stA (h := ?_) | refine stEA (h := ?_)
  refine nx (h := ?_)
  refine dn (h := ?_)
  refine q_seq (h := ?_)
  refine rtn (h := ?_)
  refine q_ret (hR := ?_)
  exact fun w hS => ⟨rfl, hS.sub (by repeat (first | exact SubL.nil | (apply SubL.cons; (repeat (first | exact At.here | apply At.there))) | exact SubL.refl _ | apply SubL.skip))⟩
theorem due_form (f : Fmt) (n : Int) : dueV f n = (decide (0 < f.first) && (decide (n = f.first) || decide (f.first < n) && decide (0 < f.thn) && decide ((n - f.first) % f.thn = 0))) := by
  unfold dueV
  rw [show decide (n - f.first = 0) = decide (n = f.first) from decide_eq_decide.2 (by omega), show decide (0 < n - f.first) = decide (f.first < n) from decide_eq_decide.2 (by omega)]
theorem C_rest_due (f : Fmt) (b : Nat) (n : Int) (hf : f.Ok) (hn : -1000000 ≤ n ∧ n ≤ 1000000) (w : World) : C0 Try.prog 110 [restv f b, .int .i64 n] w (.bool (dueV f n)) := by
  have h1 := hf.f0
  have h2 := hf.f1
  have h3 := hf.n0
  rw [due_form]
  refine ⟨en Try.func110 Try.ntmps110 (St.init w) (h := fun F => ?_)⟩
  refine sq (h := ?_)
  refine rg (h := ?_)
  refine bxA (h := fun b0 => ?_)
  refine WL.y (hy := asg) (h := ?_)
  refine nl (h := ?_)
  refine q_seq (h := ?_)
  refine sq (h := ?_)
  refine rg (h := ?_)
  refine WL.y (hy := (by first | exact fa | exact faE)) (h := ?_)
  refine WL.y (hy := (by first | exact fa | exact faE)) (h := ?_)
  refine WL.y (hy := (by first | exact ld | exact ldE)) (h := ?_)
  refine WL.y (hy := gtr) (h := ?_)
  refine WL.y (hy := mv) (h := ?_)
  apply brAnd 31 9 40 (by exact rfl)
  · intro hb0
    refine un (h := ?_)
    refine WL.y (hy := mv) (h := ?_)
    refine un (h := ?_)
    refine WL.y (hy := (by first | exact fa | exact faE)) (h := ?_)
    refine un (h := ?_)
    refine WL.y (hy := (by first | exact fa | exact faE)) (h := ?_)
    refine un (h := ?_)
    refine WL.y (hy := (by first | exact ld | exact ldE)) (h := ?_)
    refine un (h := ?_)
    refine WL.y (hy := eql) (h := ?_)
    refine un (h := ?_)
    refine WL.y (hy := mv) (h := ?_)
    apply brOr 24 15 39 (by exact rfl)
    · intro hb1
      refine un (h := ?_)
      refine WL.y (hy := mv) (h := ?_)
      refine un (h := ?_)
      refine WL.y (hy := (by first | exact fa | exact faE)) (h := ?_)
      refine un (h := ?_)
      refine WL.y (hy := (by first | exact fa | exact faE)) (h := ?_)
      refine un (h := ?_)
      refine WL.y (hy := (by first | exact ld | exact ldE)) (h := ?_)
      refine un (h := ?_)
      refine WL.y (hy := gtr) (h := ?_)
      refine un (h := ?_)
      refine WL.y (hy := mv) (h := ?_)
      apply brAnd 5 21 26 (by exact rfl)
      · intro hb2
        refine un (h := ?_)
        refine WL.y (hy := (by first | exact fa | exact faE)) (h := ?_)
        refine un (h := ?_)
        refine WL.y (hy := (by first | exact fa | exact faE)) (h := ?_)
        refine un (h := ?_)
        refine WL.y (hy := (by first | exact ld | exact ldE)) (h := ?_)
        refine un (h := ?_)
        refine WL.y (hy := gtr) (h := ?_)
        refine un (h := ?_)
        refine WL.y (hy := (by first | exact pkT | exact pkF)) (h := ?_)
        exact mg (by repeat (first | exact trivial | refine ⟨rfl, ?_⟩ | refine ⟨by rw [hb2]; rfl, ?_⟩ | refine ⟨by rw [hb0]; rfl, ?_⟩ | refine ⟨by rw [hb1]; rfl, ?_⟩)) (by repeat (first | exact SubL.nil | (apply SubL.cons; (repeat (first | exact At.here | apply At.there))) | exact SubL.refl _ | apply SubL.skip))
      · intro hb2
        repeat (first | refine un (h := ?_) | refine sk (h := ?_) | refine WL.y (hy := pkF) (h := ?_) | refine WL.y (hy := pkT) (h := ?_))
        exact mg (by repeat (first | exact trivial | refine ⟨rfl, ?_⟩ | refine ⟨by rw [hb2]; rfl, ?_⟩ | refine ⟨by rw [hb0]; rfl, ?_⟩ | refine ⟨by rw [hb1]; rfl, ?_⟩)) (by repeat (first | exact SubL.nil | (apply SubL.cons; (repeat (first | exact At.here | apply At.there))) | exact SubL.refl _ | apply SubL.skip))
      refine un (h := ?_)
      refine WL.y (hy := mv) (h := ?_)
      apply brAnd 11 27 38 (by exact rfl)
      · intro hb3
        obtain ⟨hng, hthn⟩ : f.first < n ∧ 0 < f.thn := by simp only [Bool.and_eq_true, decide_eq_true_eq] at hb3; omega
        refine un (h := ?_)
        refine WL.y (hy := mv) (h := ?_)
        refine un (h := ?_)
        refine WL.y (hy := (by first | exact fa | exact faE)) (h := ?_)
        refine un (h := ?_)
        refine WL.y (hy := (by first | exact fa | exact faE)) (h := ?_)
        refine un (h := ?_)
        refine WL.y (hy := (by first | exact ld | exact ldE)) (h := ?_)
        refine un (h := ?_)
        refine WL.y (hy := subI) (h := ?_)
        refine un (h := ?_)
        refine WL.y (hy := (by first | exact fa | exact faE)) (h := ?_)
        refine un (h := ?_)
        refine WL.y (hy := (by first | exact fa | exact faE)) (h := ?_)
        refine un (h := ?_)
        refine WL.y (hy := (by first | exact ld | exact ldE)) (h := ?_)
        refine un (h := ?_)
        refine WL.y (hy := remI) (h := ?_)
        refine un (h := ?_)
        refine WL.y (hy := eql) (h := ?_)
        refine un (h := ?_)
        refine WL.y (hy := (by first | exact pkT | exact pkF)) (h := ?_)
        exact mg (by repeat (first | exact trivial | refine ⟨rfl, ?_⟩ | refine ⟨by rw [hb3]; rfl, ?_⟩ | refine ⟨by rw [hb0]; rfl, ?_⟩ | refine ⟨by rw [hb1]; rfl, ?_⟩)) (by repeat (first | exact SubL.nil | (apply SubL.cons; (repeat (first | exact At.here | apply At.there))) | exact SubL.refl _ | apply SubL.skip))
      · intro hb3
        repeat (first | refine un (h := ?_) | refine sk (h := ?_) | refine WL.y (hy := pkF) (h := ?_) | refine WL.y (hy := pkT) (h := ?_))
        exact mg (by repeat (first | exact trivial | refine ⟨rfl, ?_⟩ | refine ⟨by rw [hb3]; rfl, ?_⟩ | refine ⟨by rw [hb0]; rfl, ?_⟩ | refine ⟨by rw [hb1]; rfl, ?_⟩)) (by repeat (first | exact SubL.nil | (apply SubL.cons; (repeat (first | exact At.here | apply At.there))) | exact SubL.refl _ | apply SubL.skip))
      refine un (h := ?_)
      refine WL.y (hy := (by first | exact pkT | exact pkF)) (h := ?_)
      exact mg (by repeat (first | exact trivial | refine ⟨rfl, ?_⟩ | refine ⟨by rw [hb1]; rfl, ?_⟩ | refine ⟨by rw [hb0]; rfl, ?_⟩)) (by repeat (first | exact SubL.nil | (apply SubL.cons; (repeat (first | exact At.here | apply At.there))) | exact SubL.refl _ | apply SubL.skip))
    · intro hb1
      repeat (first | refine un (h := ?_) | refine sk (h := ?_) | refine WL.y (hy := pkF) (h := ?_) | refine WL.y (hy := pkT) (h := ?_))
      exact mg (by repeat (first | exact trivial | refine ⟨rfl, ?_⟩ | refine ⟨by rw [hb1]; rfl, ?_⟩ | refine ⟨by rw [hb0]; rfl, ?_⟩)) (by repeat (first | exact SubL.nil | (apply SubL.cons; (repeat (first | exact At.here | apply At.there))) | exact SubL.refl _ | apply SubL.skip))
    refine WL.y (hy := (by first | exact pkT | exact pkF)) (h := ?_)
    exact mg (by repeat (first | exact trivial | refine ⟨rfl, ?_⟩ | refine ⟨by rw [hb0]; rfl, ?_⟩)) (by repeat (first | exact SubL.nil | (apply SubL.cons; (repeat (first | exact At.here | apply At.there))) | exact SubL.refl _ | apply SubL.skip))
  · intro hb0
    repeat (first | refine un (h := ?_) | refine sk (h := ?_) | refine WL.y (hy := pkF) (h := ?_) | refine WL.y (hy := pkT) (h := ?_))
    exact mg (by repeat (first | exact trivial | refine ⟨rfl, ?_⟩ | refine ⟨by rw [hb0]; rfl, ?_⟩)) (by repeat (first | exact SubL.nil | (apply SubL.cons; (repeat (first | exact At.here | apply At.there))) | exact SubL.refl _ | apply SubL.skip))
  refine WL.y (hy := asg) (h := ?_)
  refine nl (h := ?_)
  refine q_seq (h := ?_)
  refine rtn (h := ?_)
  refine q_ret (hR := ?_)
  exact fun w hS => ⟨rfl, hS.sub (by repeat (first | exact SubL.nil | (apply SubL.cons; (repeat (first | exact At.here | apply At.there))) | exact SubL.refl _ | apply SubL.skip))⟩
theorem C_rest_tie (f : Fmt) (b : Nat) (won g : Pr) (hf : f.Ok) (w : World) : C0 Try.prog 96 [restv f b, pv won, pv g] w (.int .i64 (tieN f won g)) := by
  have hs0 := hf.s0
  have hs1 := hf.s1
  refine ⟨en Try.func96 Try.ntmps96 (St.init w) (h := fun F => ?_)⟩
  refine sq (h := ?_)
  refine rg (h := ?_)
  refine bxA (h := fun b0 => ?_)
  refine bxA (h := fun b1 => ?_)
  refine bxA (h := fun b2 => ?_)
  refine WL.y (hy := asg) (h := ?_)
  refine nl (h := ?_)
  refine q_seq (h := ?_)
  refine sq (h := ?_)
  refine rg (h := ?_)
  refine WL.y (hy := (by first | exact fa | exact faE)) (h := ?_)
  refine WL.y (hy := (by first | exact fa | exact faE)) (h := ?_)
  refine WL.y (hy := (by first | exact ld | exact ldE)) (h := ?_)
  refine WL.y (hy := asg) (h := ?_)
  refine nl (h := ?_)
  refine q_seq (h := ?_)
  refine ct (X := Unit) (fun _ => True) (fun _ => [(3, .pointer (some ⟨b0, 0, none⟩)), (4, .pointer (some ⟨b1, 0, none⟩)), (5, .pointer (some ⟨b2, 0, none⟩)), (7, .int .i64 (setV f won).1)]) (fun _ => [.blk b0 156 (restc f b), .blk b1 26 [.int .i64 won.1, .int .i64 won.2], .blk b2 26 [.int .i64 g.1, .int .i64 g.2]]) (h1 := ?_) (h2 := ?_)
  · skip
    refine sq (h := ?_)
    refine rg (h := ?_)
    refine WL.y (hy := (by first | exact fa | exact faE)) (h := ?_)
    refine WL.y (hy := (by first | exact ld | exact ldE)) (h := ?_)
    refine WL.y (hy := (by first | exact fa | exact faE)) (h := ?_)
    refine WL.y (hy := (by first | exact fa | exact faE)) (h := ?_)
    refine WL.y (hy := (by first | exact ld | exact ldE)) (h := ?_)
    refine WL.y (hy := subI) (h := ?_)
    refine WL.y (hy := eql) (h := ?_)
    refine WL.y (hy := mv) (h := ?_)
    apply brAnd 8 18 26 (by exact rfl)
    · intro hb0
      refine un (h := ?_)
      refine WL.y (hy := (by first | exact fa | exact faE)) (h := ?_)
      refine un (h := ?_)
      refine WL.y (hy := (by first | exact ld | exact ldE)) (h := ?_)
      refine un (h := ?_)
      refine WL.y (hy := (by first | exact fa | exact faE)) (h := ?_)
      refine un (h := ?_)
      refine WL.y (hy := (by first | exact fa | exact faE)) (h := ?_)
      refine un (h := ?_)
      refine WL.y (hy := (by first | exact ld | exact ldE)) (h := ?_)
      refine un (h := ?_)
      refine WL.y (hy := subI) (h := ?_)
      refine un (h := ?_)
      refine WL.y (hy := eql) (h := ?_)
      refine WL.y (hy := (by first | exact pkT | exact pkF)) (h := ?_)
      exact mg (by repeat (first | exact trivial | refine ⟨rfl, ?_⟩ | refine ⟨by rw [hb0]; rfl, ?_⟩)) (by repeat (first | exact SubL.nil | (apply SubL.cons; (repeat (first | exact At.here | apply At.there))) | exact SubL.refl _ | apply SubL.skip))
    · intro hb0
      repeat (first | refine un (h := ?_) | refine sk (h := ?_) | refine WL.y (hy := pkF) (h := ?_) | refine WL.y (hy := pkT) (h := ?_))
      exact mg (by repeat (first | exact trivial | refine ⟨rfl, ?_⟩ | refine ⟨by rw [hb0]; rfl, ?_⟩)) (by repeat (first | exact SubL.nil | (apply SubL.cons; (repeat (first | exact At.here | apply At.there))) | exact SubL.refl _ | apply SubL.skip))
    refine nl (h := ?_)
    refine q_seq (h := ?_)
    refine cd (by exact rfl) (fun h1 => ?_) (fun h1 => ?_)
    · skip
      have hs : (setV f won).1 = f.ltie := by rw [setV, h1]; rfl
      refine rg (h := ?_)
      refine WL.y (hy := (by first | exact fa | exact faE)) (h := ?_)
      refine WL.y (hy := (by first | exact fa | exact faE)) (h := ?_)
      refine WL.y (hy := (by first | exact ld | exact ldE)) (h := ?_)
      refine WL.y (hy := asg) (h := ?_)
      refine nl (h := ?_)
      exact ctn () trivial (by repeat (first | exact trivial | refine ⟨rfl, ?_⟩ | refine ⟨by rw [hs]; rfl, ?_⟩)) (by repeat (first | exact SubL.nil | (apply SubL.cons; (repeat (first | exact At.here | apply At.there))) | exact SubL.refl _ | apply SubL.skip))
    · skip
      have hs : (setV f won).1 = f.tie := by rw [setV, h1]; rfl
      refine skp (h := ?_)
      exact ctn () trivial (by repeat (first | exact trivial | refine ⟨rfl, ?_⟩ | refine ⟨by rw [hs]; rfl, ?_⟩)) (by repeat (first | exact SubL.nil | (apply SubL.cons; (repeat (first | exact At.here | apply At.there))) | exact SubL.refl _ | apply SubL.skip))
  rintro ⟨⟩ -
  refine sq (h := ?_)
  refine sq (h := ?_)
  refine rg (h := ?_)
  refine WL.y (hy := (by first | exact fa | exact faE)) (h := ?_)
  refine WL.y (hy := (by first | exact ld | exact ldE)) (h := ?_)
  refine WL.y (hy := mv) (h := ?_)
  refine WL.y (hy := eql) (h := ?_)
  refine WL.y (hy := mv) (h := ?_)
  apply brAnd 5 34 39 (by exact rfl)
  · intro hb2
    refine un (h := ?_)
    refine WL.y (hy := (by first | exact fa | exact faE)) (h := ?_)
    refine un (h := ?_)
    refine WL.y (hy := (by first | exact ld | exact ldE)) (h := ?_)
    refine un (h := ?_)
    refine WL.y (hy := mv) (h := ?_)
    refine un (h := ?_)
    refine WL.y (hy := eql) (h := ?_)
    refine WL.y (hy := (by first | exact pkT | exact pkF)) (h := ?_)
    exact mg (by repeat (first | exact trivial | refine ⟨rfl, ?_⟩ | refine ⟨by rw [hb2]; rfl, ?_⟩)) (by repeat (first | exact SubL.nil | (apply SubL.cons; (repeat (first | exact At.here | apply At.there))) | exact SubL.refl _ | apply SubL.skip))
  · intro hb2
    repeat (first | refine un (h := ?_) | refine sk (h := ?_) | refine WL.y (hy := pkF) (h := ?_) | refine WL.y (hy := pkT) (h := ?_))
    exact mg (by repeat (first | exact trivial | refine ⟨rfl, ?_⟩ | refine ⟨by rw [hb2]; rfl, ?_⟩)) (by repeat (first | exact SubL.nil | (apply SubL.cons; (repeat (first | exact At.here | apply At.there))) | exact SubL.refl _ | apply SubL.skip))
  refine nl (h := ?_)
  refine q_seq (h := ?_)
  refine cd (by exact rfl) (fun h3 => ?_) (fun h3 => ?_)
  · skip
    have hE : tieN f won g = 1 := by rw [tieN, brksV, h3]; rfl
    refine sq (h := ?_)
    refine rg (h := ?_)
    refine WL.y (hy := asg) (h := ?_)
    refine nl (h := ?_)
    refine q_seq (h := ?_)
    refine rtn (h := ?_)
    refine q_then_ret (h := ?_)
    refine q_ret (hR := ?_)
    rw [hE]
    exact fun w hS => ⟨rfl, hS.sub (by repeat (first | exact SubL.nil | (apply SubL.cons; (repeat (first | exact At.here | apply At.there))) | exact SubL.refl _ | apply SubL.skip))⟩
  · skip
    have hE : tieN f won g = 0 := by rw [tieN, brksV, h3]; rfl
    refine skp (h := ?_)
    refine q_seq (h := ?_)
    refine sq (h := ?_)
    refine rg (h := ?_)
    refine WL.y (hy := asg) (h := ?_)
    refine nl (h := ?_)
    refine q_seq (h := ?_)
    refine rtn (h := ?_)
    refine q_ret (hR := ?_)
    rw [hE]
    exact fun w hS => ⟨rfl, hS.sub (by repeat (first | exact SubL.nil | (apply SubL.cons; (repeat (first | exact At.here | apply At.there))) | exact SubL.refl _ | apply SubL.skip))⟩
theorem same_is {f : Fmt} {won g : Pr} {t0 side : Int} (hs : side = 0 ∨ side = 1) (ht : t0 = tieN f won g) : (decide (t0 = 0) && (decide ((ownP side g).1 + 1 < f.games) || decide ((ownP side g).1 + 1 - (ownP side g).2 < 2))) = !endS f won g side := by
  have h0 : decide (t0 = 0) = !brksV (setV f won) g := by
    rw [ht, tieN]; cases brksV (setV f won) g <;> rfl
  rw [h0, endS, EO, ← own_pair, brks_own hs, Bool.eq_iff_iff]
  cases brksV (setV f won) g
  · simp only [Bool.not_false, Bool.true_and, Bool.false_or, Bool.or_eq_true, Bool.not_eq_true', Bool.and_eq_false_iff, decide_eq_true_eq, decide_eq_false_iff_not]; omega
  · simp
def afterS (f : Fmt) (s : Spo) (side : Int) : Spo := ⟨wonS f s.won s.games side, gamS f s.won s.games side, s.num + 1, tieN f (wonS f s.won s.games side) (gamS f s.won s.games side), s.t0⟩
set_option maxRecDepth 100000 in
theorem C_rest_after0 (f : Fmt) (bm : Nat) (s : Spo) (hf : f.Ok) (ht : s.t0 = tieN f s.won s.games) (hw : (0 ≤ s.won.1 ∧ s.won.1 ≤ 3) ∧ 0 ≤ s.won.2 ∧ s.won.2 ≤ 3) (hg : (0 ≤ s.games.1 ∧ s.games.1 ≤ 1000) ∧ 0 ≤ s.games.2 ∧ s.games.2 ≤ 1000) (hn : 0 ≤ s.num ∧ s.num ≤ 1000) (w : World) : C0 Try.prog 109 [restv f bm, s.val, .int .i64 0] w (.tuple #[(afterS f s 0).val, .bool (!endS f s.won s.games 0), .bool (overS f s.won s.games 0)]) := by
  have hsm := same_is (f := f) (won := s.won) (g := s.games) (side := 0) (.inl rfl) ht
  rw [own0] at hsm
  refine ⟨en Try.func109 Try.ntmps109 (St.init w) (h := fun F => ?_)⟩
  refine sq (h := ?_)
  refine rg (h := ?_)
  refine bxA (h := fun b0 => ?_)
  refine bxA (h := fun b1 => ?_)
  refine al (h := fun b2 => ?_)
  refine WL.y (hy := asg) (h := ?_)
  refine WL.y (hy := asg) (h := ?_)
  refine nl (h := ?_)
  refine q_seq (h := ?_)
  refine sq (h := ?_)
  refine rg (h := ?_)
  refine WL.y (hy := (by first | exact fa | exact faE)) (h := ?_)
  refine WL.y (hy := (by first | exact fa | exact faE)) (h := ?_)
  refine WL.y (hy := (by first | exact fa | exact faE)) (h := ?_)
  refine WL.y (hy := (by first | exact fa | exact faE)) (h := ?_)
  refine WL.y (hy := asg) (h := ?_)
  refine WL.y (hy := asg) (h := ?_)
  refine nl (h := ?_)
  refine q_seq (h := ?_)
  refine sq (h := ?_)
  refine rg (h := ?_)
  refine WL.y (hy := (by first | exact fa | exact faE)) (h := ?_)
  refine WL.y (hy := (by first | exact fa | exact faE)) (h := ?_)
  refine WL.y (hy := asg) (h := ?_)
  refine nl (h := ?_)
  refine q_seq (h := ?_)
  refine sq (h := ?_)
  refine rg (h := ?_)
  refine WL.y (hy := (by first | exact ldA | exact ldEA)) (h := ?_)
  first | refine stA (h := ?_) | refine stEA (h := ?_)
  refine nl (h := ?_)
  refine q_seq (h := ?_)
  refine sq (h := ?_)
  refine sq (h := ?_)
  refine rg (h := ?_)
  refine WL.y (hy := mv) (h := ?_)
  refine WL.y (hy := eql) (h := ?_)
  refine nl (h := ?_)
  refine q_seq (h := ?_)
  refine cd (by exact rfl) (fun h0 => ?_) (fun h0 => ?_)
  · skip
    exfalso
    exact absurd (of_decide_eq_true h0 : (0 : Int) = 1) (by decide)
  · skip
    have h1 := of_decide_eq_false h0
    refine skp (h := ?_)
    refine q_seq (h := ?_)
    refine sq (h := ?_)
    refine rg (h := ?_)
    refine WL.y (hy := mv) (h := ?_)
    refine WL.y (hy := nck) (h := ?_)
    refine WL.y (hy := (by first | exact ld | exact ldE)) (h := ?_)
    refine WL.y (hy := addI) (h := ?_)
    refine WL.y (hy := nck) (h := ?_)
    first | refine st (h := ?_) | refine stE (h := ?_)
    refine nl (h := ?_)
    refine q_seq (h := ?_)
    refine ct (X := Unit) (fun _ => True) (fun _ => [(2, .int .i64 0), (3, .pointer (some ⟨b0, 0, none⟩)), (4, .pointer (some ⟨b1, 0, none⟩)), (6, .pointer (some ⟨b2, 0, none⟩)), (7, .bool (!endS f s.won s.games 0)), (8, .bool false), (9, .pointer (some ⟨b2, 2, none⟩)), (10, .pointer (some ⟨b2, 3, none⟩)), (11, .pointer (some ⟨b2, 0, none⟩))]) (fun _ => [.blk b2 159 [.int .i64 s.won.1, .int .i64 s.won.2, .int .i64 (addV s.games 0).1, .int .i64 (addV s.games 0).2, .int .i64 s.num, .int .i64 s.t0, .int .i64 s.t1], .blk b0 156 (restc f bm), .blk b1 159 s.cells]) (h1 := ?_) (h2 := ?_)
    · skip
      refine rgD0 (by kernel_rfl) (h := ?_)
      refine tk 0 (hy := (by first | exact fa | exact faE)) (h := ?_)
      refine tk 1 (hy := ixA) (h := ?_)
      refine tk 2 (hy := (by first | exact ld | exact ldE)) (h := ?_)
      refine tk 3 (hy := eql) (h := ?_)
      refine tk 4 (hy := mv) (h := ?_)
      refine brH (g := 34) (by exact rfl) (fun hb1 => ?_) (fun hb1 => ?_)
      · skip
        have kA : decide (s.t0 = 0) = true := hb1
        refine tk 5 (hy := mv) (h := ?_)
        refine tk 6 (hy := nck) (h := ?_)
        refine tk 7 (hy := (by first | exact ld | exact ldE)) (h := ?_)
        refine tk 8 (hy := (by first | exact fa | exact faE)) (h := ?_)
        refine tk 9 (hy := (by first | exact fa | exact faE)) (h := ?_)
        refine tk 10 (hy := (by first | exact ld | exact ldE)) (h := ?_)
        refine tk 11 (hy := lss) (h := ?_)
        refine tk 12 (hy := mv) (h := ?_)
        refine brH (g := 42) (by exact rfl) (fun hb2 => ?_) (fun hb2 => ?_)
        · skip
          have kB : decide (s.games.1 + 1 < f.games) = true := hb2
          refine tkS 13 (h := ?_)
          refine tkS 14 (h := ?_)
          refine tkS 15 (h := ?_)
          refine tkS 16 (h := ?_)
          refine tkS 17 (h := ?_)
          refine tkS 18 (h := ?_)
          refine tkS 19 (h := ?_)
          refine tkS 20 (h := ?_)
          refine tk 21 (hy := (by first | exact pkT | exact pkF)) (h := ?_)
          refine tk 22 (hy := (by first | exact pkT | exact pkF)) (h := ?_)
          refine tk 23 (hy := asg) (h := ?_)
          refine dn (h := ?_)
          exact ctn () trivial (by repeat (first | exact trivial | refine ⟨rfl, ?_⟩ | refine ⟨by first | (rw [← hsm, kA, kB]; rfl) | (rw [← hsm, kA]; rfl), ?_⟩)) (by repeat (first | exact SubL.nil | (apply SubL.cons; (repeat (first | exact At.here | apply At.there))) | exact SubL.refl _ | apply SubL.skip))
        · skip
          have kB : decide (s.games.1 + 1 < f.games) = false := hb2
          refine tk 13 (hy := mv) (h := ?_)
          refine tk 14 (hy := nck) (h := ?_)
          refine tk 15 (hy := (by first | exact ld | exact ldE)) (h := ?_)
          refine tk 16 (hy := mv) (h := ?_)
          refine tk 17 (hy := nck) (h := ?_)
          refine tk 18 (hy := (by first | exact ld | exact ldE)) (h := ?_)
          refine tk 19 (hy := subI) (h := ?_)
          refine tk 20 (hy := lss) (h := ?_)
          refine tk 21 (hy := (by first | exact pkT | exact pkF)) (h := ?_)
          refine tk 22 (hy := (by first | exact pkT | exact pkF)) (h := ?_)
          refine tk 23 (hy := asg) (h := ?_)
          refine dn (h := ?_)
          exact ctn () trivial (by repeat (first | exact trivial | refine ⟨rfl, ?_⟩ | refine ⟨by first | (rw [← hsm, kA, kB]; rfl) | (rw [← hsm, kA]; rfl), ?_⟩)) (by repeat (first | exact SubL.nil | (apply SubL.cons; (repeat (first | exact At.here | apply At.there))) | exact SubL.refl _ | apply SubL.skip))
      · skip
        have kA : decide (s.t0 = 0) = false := hb1
        refine tkS 5 (h := ?_)
        refine tkS 6 (h := ?_)
        refine tkS 7 (h := ?_)
        refine tkS 8 (h := ?_)
        refine tkS 9 (h := ?_)
        refine tkS 10 (h := ?_)
        refine tkS 11 (h := ?_)
        refine tkS 12 (h := ?_)
        refine tkS 13 (h := ?_)
        refine tkS 14 (h := ?_)
        refine tkS 15 (h := ?_)
        refine tkS 16 (h := ?_)
        refine tkS 17 (h := ?_)
        refine tkS 18 (h := ?_)
        refine tkS 19 (h := ?_)
        refine tkS 20 (h := ?_)
        refine tkS 21 (h := ?_)
        refine tk 22 (hy := (by first | exact pkT | exact pkF)) (h := ?_)
        refine tk 23 (hy := asg) (h := ?_)
        refine dn (h := ?_)
        exact ctn () trivial (by repeat (first | exact trivial | refine ⟨rfl, ?_⟩ | refine ⟨by first | (rw [← hsm, kA, kB]; rfl) | (rw [← hsm, kA]; rfl), ?_⟩)) (by repeat (first | exact SubL.nil | (apply SubL.cons; (repeat (first | exact At.here | apply At.there))) | exact SubL.refl _ | apply SubL.skip))
    rintro ⟨⟩ -
    refine sq (h := ?_)
    refine sq (h := ?_)
    refine rg (h := ?_)
    refine WL.y (hy := mv) (h := ?_)
    refine WL.y (hy := notB) (h := ?_)
    refine nl (h := ?_)
    refine q_seq (h := ?_)
    refine cd (by exact rfl) (fun h3 => ?_) (fun h3 => ?_)
    · skip
      have hE : endS f s.won s.games 0 = true := by rw [Bool.not_not] at h3; exact h3
      have hw1 : wonS f s.won s.games 0 = addV s.won 0 := by rw [wonS, hE]; rfl
      have hg1 : gamS f s.won s.games 0 = (0, 0) := by rw [gamS, hE]; rfl
      have ho1 : overS f s.won s.games 0 = (true && decide ((ownP 0 (addV s.won 0)).1 = f.sets)) := by rw [overS, hE]
      refine sq (h := ?_)
      refine rg (h := ?_)
      refine WL.y (hy := bd) (h := ?_)
      refine WL.y (hy := (by first | exact fa | exact faE)) (h := ?_)
      first | refine stA (h := ?_) | refine stEA (h := ?_)
      refine nl (h := ?_)
      refine q_seq (h := ?_)
      refine sq (h := ?_)
      refine rg (h := ?_)
      refine WL.y (hy := mv) (h := ?_)
      refine WL.y (hy := nck) (h := ?_)
      refine WL.y (hy := (by first | exact ld | exact ldE)) (h := ?_)
      refine WL.y (hy := addI) (h := ?_)
      refine WL.y (hy := nck) (h := ?_)
      first | refine st (h := ?_) | refine stE (h := ?_)
      refine nl (h := ?_)
      refine q_seq (h := ?_)
      refine rgD0 (by kernel_rfl) (h := ?_)
      refine tk 0 (hy := mv) (h := ?_)
      refine tk 1 (hy := nck) (h := ?_)
      refine tk 2 (hy := (by first | exact ld | exact ldE)) (h := ?_)
      refine tk 3 (hy := (by first | exact fa | exact faE)) (h := ?_)
      refine tk 4 (hy := (by first | exact fa | exact faE)) (h := ?_)
      refine tk 5 (hy := (by first | exact ld | exact ldE)) (h := ?_)
      refine tk 6 (hy := eql) (h := ?_)
      refine tk 7 (hy := asg) (h := ?_)
      refine dn (h := ?_)
      refine q_seq (h := ?_)
      refine sq (h := ?_)
      refine rg (h := ?_)
      refine WL.y (hy := (by first | exact fa | exact faE)) (h := ?_)
      refine WL.y (hy := (by first | exact ld | exact ldE)) (h := ?_)
      refine WL.y (hy := addI) (h := ?_)
      refine WL.y (hy := (by first | exact fa | exact faE)) (h := ?_)
      first | refine st (h := ?_) | refine stE (h := ?_)
      refine nl (h := ?_)
      refine q_seq (h := ?_)
      refine sq (h := ?_)
      refine rgD (by kernel_rfl) [(11, .blk b2 159 _), (1000000, .blk b0 156 (restc f bm)), (1000000, .blk b1 159 s.cells)] (by repeat (first | exact HS.nil | (apply HS.keep; (repeat (first | exact At.here | apply At.there))) | (apply HS.ro; (repeat (first | exact Rds.ro | exact Rds.own | apply Rds.there))))) (h := ?_)
      refine tk 0 (hy := (by first | exact ldA | exact ldEA)) (h := ?_)
      refine tk 1 (hy := (by first | exact fa | exact faE)) (h := ?_)
      refine tk 2 (hy := (by first | exact ldA | exact ldEA)) (h := ?_)
      refine tk 3 (hy := (by first | exact fa | exact faE)) (h := ?_)
      refine tk 4 (hy := (by first | exact ldA | exact ldEA)) (h := ?_)
      refine tk 6 (hy := (by first | exact fa | exact faE)) (h := ?_)
      refine tk 7 (hy := ixA) (h := ?_)
      refine tk 8 (hy := (by first | exact ld | exact ldE)) (h := ?_)
      refine one 5 (h := ?_)
      refine cl0 (hc := fun w hS => C_rest_tie f bm (wonS f s.won s.games 0) (gamS f s.won s.games 0) hf w) (hargs := by rw [hw1, hg1]; repeat (first | exact Evs.nil | (apply Evs.cons; exact rfl))) (h := ?_)
      refine nx (h := ?_)
      refine tk 9 (hy := bdA) (h := ?_)
      refine tk 10 (hy := (by first | exact fa | exact faE)) (h := ?_)
      refine one 11 (h := ?_)
      first | refine stA (h := ?_) | refine stEA (h := ?_)
      refine nx (h := ?_)
      refine dn (h := ?_)
      refine q_seq (h := ?_)
      refine sq (h := ?_)
      refine rg (h := ?_)
      refine WL.y (hy := (by first | exact ldA | exact ldEA)) (h := ?_)
      refine WL.y (hy := mv) (h := ?_)
      refine WL.y (hy := mv) (h := ?_)
      first | refine stA (h := ?_) | refine stEA (h := ?_)
      refine WL.y (hy := asg) (h := ?_)
      refine WL.y (hy := asg) (h := ?_)
      refine nl (h := ?_)
      refine q_seq (h := ?_)
      refine rtn (h := ?_)
      refine q_ret (hR := ?_)
      refine fun w hS => ⟨?_, hS.sub (by repeat (first | exact SubL.nil | (apply SubL.cons; (repeat (first | exact At.here | apply At.there))) | exact SubL.refl _ | apply SubL.skip))⟩
      unfold afterS
      rw [hw1, hg1, ho1, hE]
      rfl
    · skip
      have hE : endS f s.won s.games 0 = false := by rw [Bool.not_not] at h3; exact h3
      have hw1 : wonS f s.won s.games 0 = s.won := by rw [wonS, hE]; rfl
      have hg1 : gamS f s.won s.games 0 = addV s.games 0 := by rw [gamS, hE]; rfl
      have ho1 : overS f s.won s.games 0 = false := by rw [overS, hE]; rfl
      refine skp (h := ?_)
      refine q_seq (h := ?_)
      refine sq (h := ?_)
      refine rg (h := ?_)
      refine WL.y (hy := (by first | exact fa | exact faE)) (h := ?_)
      refine WL.y (hy := (by first | exact ld | exact ldE)) (h := ?_)
      refine WL.y (hy := addI) (h := ?_)
      refine WL.y (hy := (by first | exact fa | exact faE)) (h := ?_)
      first | refine st (h := ?_) | refine stE (h := ?_)
      refine nl (h := ?_)
      refine q_seq (h := ?_)
      refine sq (h := ?_)
      refine rgD (by kernel_rfl) [(11, .blk b2 159 _), (1000000, .blk b0 156 (restc f bm)), (1000000, .blk b1 159 s.cells)] (by repeat (first | exact HS.nil | (apply HS.keep; (repeat (first | exact At.here | apply At.there))) | (apply HS.ro; (repeat (first | exact Rds.ro | exact Rds.own | apply Rds.there))))) (h := ?_)
      refine tk 0 (hy := (by first | exact ldA | exact ldEA)) (h := ?_)
      refine tk 1 (hy := (by first | exact fa | exact faE)) (h := ?_)
      refine tk 2 (hy := (by first | exact ldA | exact ldEA)) (h := ?_)
      refine tk 3 (hy := (by first | exact fa | exact faE)) (h := ?_)
      refine tk 4 (hy := (by first | exact ldA | exact ldEA)) (h := ?_)
      refine tk 6 (hy := (by first | exact fa | exact faE)) (h := ?_)
      refine tk 7 (hy := ixA) (h := ?_)
      refine tk 8 (hy := (by first | exact ld | exact ldE)) (h := ?_)
      refine one 5 (h := ?_)
      refine cl0 (hc := fun w hS => C_rest_tie f bm (wonS f s.won s.games 0) (gamS f s.won s.games 0) hf w) (hargs := by rw [hw1, hg1]; repeat (first | exact Evs.nil | (apply Evs.cons; exact rfl))) (h := ?_)
      refine nx (h := ?_)
      refine tk 9 (hy := bdA) (h := ?_)
      refine tk 10 (hy := (by first | exact fa | exact faE)) (h := ?_)
      refine one 11 (h := ?_)
      first | refine stA (h := ?_) | refine stEA (h := ?_)
      refine nx (h := ?_)
      refine dn (h := ?_)
      refine q_seq (h := ?_)
      refine sq (h := ?_)
      refine rg (h := ?_)
      refine WL.y (hy := (by first | exact ldA | exact ldEA)) (h := ?_)
      refine WL.y (hy := mv) (h := ?_)
      refine WL.y (hy := mv) (h := ?_)
      first | refine stA (h := ?_) | refine stEA (h := ?_)
      refine WL.y (hy := asg) (h := ?_)
      refine WL.y (hy := asg) (h := ?_)
      refine nl (h := ?_)
      refine q_seq (h := ?_)
      refine rtn (h := ?_)
      refine q_ret (hR := ?_)
      refine fun w hS => ⟨?_, hS.sub (by repeat (first | exact SubL.nil | (apply SubL.cons; (repeat (first | exact At.here | apply At.there))) | exact SubL.refl _ | apply SubL.skip))⟩
      unfold afterS
      rw [hw1, hg1, ho1, hE]
      rfl
set_option maxRecDepth 100000 in
theorem C_rest_after1 (f : Fmt) (bm : Nat) (s : Spo) (hf : f.Ok) (ht : s.t0 = tieN f s.won s.games) (hw : (0 ≤ s.won.1 ∧ s.won.1 ≤ 3) ∧ 0 ≤ s.won.2 ∧ s.won.2 ≤ 3) (hg : (0 ≤ s.games.1 ∧ s.games.1 ≤ 1000) ∧ 0 ≤ s.games.2 ∧ s.games.2 ≤ 1000) (hn : 0 ≤ s.num ∧ s.num ≤ 1000) (w : World) : C0 Try.prog 109 [restv f bm, s.val, .int .i64 1] w (.tuple #[(afterS f s 1).val, .bool (!endS f s.won s.games 1), .bool (overS f s.won s.games 1)]) := by
  have hsm := same_is (f := f) (won := s.won) (g := s.games) (side := 1) (.inr rfl) ht
  rw [own1] at hsm
  refine ⟨en Try.func109 Try.ntmps109 (St.init w) (h := fun F => ?_)⟩
  refine sq (h := ?_)
  refine rg (h := ?_)
  refine bxA (h := fun b0 => ?_)
  refine bxA (h := fun b1 => ?_)
  refine al (h := fun b2 => ?_)
  refine WL.y (hy := asg) (h := ?_)
  refine WL.y (hy := asg) (h := ?_)
  refine nl (h := ?_)
  refine q_seq (h := ?_)
  refine sq (h := ?_)
  refine rg (h := ?_)
  refine WL.y (hy := (by first | exact fa | exact faE)) (h := ?_)
  refine WL.y (hy := (by first | exact fa | exact faE)) (h := ?_)
  refine WL.y (hy := (by first | exact fa | exact faE)) (h := ?_)
  refine WL.y (hy := (by first | exact fa | exact faE)) (h := ?_)
  refine WL.y (hy := asg) (h := ?_)
  refine WL.y (hy := asg) (h := ?_)
  refine nl (h := ?_)
  refine q_seq (h := ?_)
  refine sq (h := ?_)
  refine rg (h := ?_)
  refine WL.y (hy := (by first | exact fa | exact faE)) (h := ?_)
  refine WL.y (hy := (by first | exact fa | exact faE)) (h := ?_)
  refine WL.y (hy := asg) (h := ?_)
  refine nl (h := ?_)
  refine q_seq (h := ?_)
  refine sq (h := ?_)
  refine rg (h := ?_)
  refine WL.y (hy := (by first | exact ldA | exact ldEA)) (h := ?_)
  first | refine stA (h := ?_) | refine stEA (h := ?_)
  refine nl (h := ?_)
  refine q_seq (h := ?_)
  refine sq (h := ?_)
  refine sq (h := ?_)
  refine rg (h := ?_)
  refine WL.y (hy := mv) (h := ?_)
  refine WL.y (hy := eql) (h := ?_)
  refine nl (h := ?_)
  refine q_seq (h := ?_)
  refine cd (by exact rfl) (fun h0 => ?_) (fun h0 => ?_)
  · skip
    obtain h1 : (1 : Int) = 1 := of_decide_eq_true h0
    refine rg (h := ?_)
    refine WL.y (hy := mv) (h := ?_)
    refine WL.y (hy := mv) (h := ?_)
    refine WL.y (hy := (by first | exact fa | exact faE)) (h := ?_)
    refine WL.y (hy := (by first | exact fa | exact faE)) (h := ?_)
    refine WL.y (hy := asg) (h := ?_)
    refine WL.y (hy := asg) (h := ?_)
    refine WL.y (hy := asg) (h := ?_)
    refine nl (h := ?_)
    refine q_seq (h := ?_)
    refine sq (h := ?_)
    refine rg (h := ?_)
    refine WL.y (hy := mv) (h := ?_)
    refine WL.y (hy := nck) (h := ?_)
    refine WL.y (hy := (by first | exact ld | exact ldE)) (h := ?_)
    refine WL.y (hy := addI) (h := ?_)
    refine WL.y (hy := nck) (h := ?_)
    first | refine st (h := ?_) | refine stE (h := ?_)
    refine nl (h := ?_)
    refine q_seq (h := ?_)
    refine ct (X := Unit) (fun _ => True) (fun _ => [(2, .int .i64 1), (3, .pointer (some ⟨b0, 0, none⟩)), (4, .pointer (some ⟨b1, 0, none⟩)), (6, .pointer (some ⟨b2, 0, none⟩)), (7, .bool (!endS f s.won s.games 1)), (8, .bool false), (9, .pointer (some ⟨b2, 3, none⟩)), (10, .pointer (some ⟨b2, 2, none⟩)), (11, .pointer (some ⟨b2, 1, none⟩))]) (fun _ => [.blk b2 159 [.int .i64 s.won.1, .int .i64 s.won.2, .int .i64 (addV s.games 1).1, .int .i64 (addV s.games 1).2, .int .i64 s.num, .int .i64 s.t0, .int .i64 s.t1], .blk b0 156 (restc f bm), .blk b1 159 s.cells]) (h1 := ?_) (h2 := ?_)
    · skip
      refine rgD0 (by kernel_rfl) (h := ?_)
      refine tk 0 (hy := (by first | exact fa | exact faE)) (h := ?_)
      refine tk 1 (hy := ixA) (h := ?_)
      refine tk 2 (hy := (by first | exact ld | exact ldE)) (h := ?_)
      refine tk 3 (hy := eql) (h := ?_)
      refine tk 4 (hy := mv) (h := ?_)
      refine brH (g := 34) (by exact rfl) (fun hb1 => ?_) (fun hb1 => ?_)
      · skip
        have kA : decide (s.t0 = 0) = true := hb1
        refine tk 5 (hy := mv) (h := ?_)
        refine tk 6 (hy := nck) (h := ?_)
        refine tk 7 (hy := (by first | exact ld | exact ldE)) (h := ?_)
        refine tk 8 (hy := (by first | exact fa | exact faE)) (h := ?_)
        refine tk 9 (hy := (by first | exact fa | exact faE)) (h := ?_)
        refine tk 10 (hy := (by first | exact ld | exact ldE)) (h := ?_)
        refine tk 11 (hy := lss) (h := ?_)
        refine tk 12 (hy := mv) (h := ?_)
        refine brH (g := 42) (by exact rfl) (fun hb2 => ?_) (fun hb2 => ?_)
        · skip
          have kB : decide (s.games.2 + 1 < f.games) = true := hb2
          refine tkS 13 (h := ?_)
          refine tkS 14 (h := ?_)
          refine tkS 15 (h := ?_)
          refine tkS 16 (h := ?_)
          refine tkS 17 (h := ?_)
          refine tkS 18 (h := ?_)
          refine tkS 19 (h := ?_)
          refine tkS 20 (h := ?_)
          refine tk 21 (hy := (by first | exact pkT | exact pkF)) (h := ?_)
          refine tk 22 (hy := (by first | exact pkT | exact pkF)) (h := ?_)
          refine tk 23 (hy := asg) (h := ?_)
          refine dn (h := ?_)
          exact ctn () trivial (by repeat (first | exact trivial | refine ⟨rfl, ?_⟩ | refine ⟨by first | (rw [← hsm, kA, kB]; rfl) | (rw [← hsm, kA]; rfl), ?_⟩)) (by repeat (first | exact SubL.nil | (apply SubL.cons; (repeat (first | exact At.here | apply At.there))) | exact SubL.refl _ | apply SubL.skip))
        · skip
          have kB : decide (s.games.2 + 1 < f.games) = false := hb2
          refine tk 13 (hy := mv) (h := ?_)
          refine tk 14 (hy := nck) (h := ?_)
          refine tk 15 (hy := (by first | exact ld | exact ldE)) (h := ?_)
          refine tk 16 (hy := mv) (h := ?_)
          refine tk 17 (hy := nck) (h := ?_)
          refine tk 18 (hy := (by first | exact ld | exact ldE)) (h := ?_)
          refine tk 19 (hy := subI) (h := ?_)
          refine tk 20 (hy := lss) (h := ?_)
          refine tk 21 (hy := (by first | exact pkT | exact pkF)) (h := ?_)
          refine tk 22 (hy := (by first | exact pkT | exact pkF)) (h := ?_)
          refine tk 23 (hy := asg) (h := ?_)
          refine dn (h := ?_)
          exact ctn () trivial (by repeat (first | exact trivial | refine ⟨rfl, ?_⟩ | refine ⟨by first | (rw [← hsm, kA, kB]; rfl) | (rw [← hsm, kA]; rfl), ?_⟩)) (by repeat (first | exact SubL.nil | (apply SubL.cons; (repeat (first | exact At.here | apply At.there))) | exact SubL.refl _ | apply SubL.skip))
      · skip
        have kA : decide (s.t0 = 0) = false := hb1
        refine tkS 5 (h := ?_)
        refine tkS 6 (h := ?_)
        refine tkS 7 (h := ?_)
        refine tkS 8 (h := ?_)
        refine tkS 9 (h := ?_)
        refine tkS 10 (h := ?_)
        refine tkS 11 (h := ?_)
        refine tkS 12 (h := ?_)
        refine tkS 13 (h := ?_)
        refine tkS 14 (h := ?_)
        refine tkS 15 (h := ?_)
        refine tkS 16 (h := ?_)
        refine tkS 17 (h := ?_)
        refine tkS 18 (h := ?_)
        refine tkS 19 (h := ?_)
        refine tkS 20 (h := ?_)
        refine tkS 21 (h := ?_)
        refine tk 22 (hy := (by first | exact pkT | exact pkF)) (h := ?_)
        refine tk 23 (hy := asg) (h := ?_)
        refine dn (h := ?_)
        exact ctn () trivial (by repeat (first | exact trivial | refine ⟨rfl, ?_⟩ | refine ⟨by first | (rw [← hsm, kA, kB]; rfl) | (rw [← hsm, kA]; rfl), ?_⟩)) (by repeat (first | exact SubL.nil | (apply SubL.cons; (repeat (first | exact At.here | apply At.there))) | exact SubL.refl _ | apply SubL.skip))
    rintro ⟨⟩ -
    refine sq (h := ?_)
    refine sq (h := ?_)
    refine rg (h := ?_)
    refine WL.y (hy := mv) (h := ?_)
    refine WL.y (hy := notB) (h := ?_)
    refine nl (h := ?_)
    refine q_seq (h := ?_)
    refine cd (by exact rfl) (fun h3 => ?_) (fun h3 => ?_)
    · skip
      have hE : endS f s.won s.games 1 = true := by rw [Bool.not_not] at h3; exact h3
      have hw1 : wonS f s.won s.games 1 = addV s.won 1 := by rw [wonS, hE]; rfl
      have hg1 : gamS f s.won s.games 1 = (0, 0) := by rw [gamS, hE]; rfl
      have ho1 : overS f s.won s.games 1 = (true && decide ((ownP 1 (addV s.won 1)).1 = f.sets)) := by rw [overS, hE]
      refine sq (h := ?_)
      refine rg (h := ?_)
      refine WL.y (hy := bd) (h := ?_)
      refine WL.y (hy := (by first | exact fa | exact faE)) (h := ?_)
      first | refine stA (h := ?_) | refine stEA (h := ?_)
      refine nl (h := ?_)
      refine q_seq (h := ?_)
      refine sq (h := ?_)
      refine rg (h := ?_)
      refine WL.y (hy := mv) (h := ?_)
      refine WL.y (hy := nck) (h := ?_)
      refine WL.y (hy := (by first | exact ld | exact ldE)) (h := ?_)
      refine WL.y (hy := addI) (h := ?_)
      refine WL.y (hy := nck) (h := ?_)
      first | refine st (h := ?_) | refine stE (h := ?_)
      refine nl (h := ?_)
      refine q_seq (h := ?_)
      refine rgD0 (by kernel_rfl) (h := ?_)
      refine tk 0 (hy := mv) (h := ?_)
      refine tk 1 (hy := nck) (h := ?_)
      refine tk 2 (hy := (by first | exact ld | exact ldE)) (h := ?_)
      refine tk 3 (hy := (by first | exact fa | exact faE)) (h := ?_)
      refine tk 4 (hy := (by first | exact fa | exact faE)) (h := ?_)
      refine tk 5 (hy := (by first | exact ld | exact ldE)) (h := ?_)
      refine tk 6 (hy := eql) (h := ?_)
      refine tk 7 (hy := asg) (h := ?_)
      refine dn (h := ?_)
      refine q_seq (h := ?_)
      refine sq (h := ?_)
      refine rg (h := ?_)
      refine WL.y (hy := (by first | exact fa | exact faE)) (h := ?_)
      refine WL.y (hy := (by first | exact ld | exact ldE)) (h := ?_)
      refine WL.y (hy := addI) (h := ?_)
      refine WL.y (hy := (by first | exact fa | exact faE)) (h := ?_)
      first | refine st (h := ?_) | refine stE (h := ?_)
      refine nl (h := ?_)
      refine q_seq (h := ?_)
      refine sq (h := ?_)
      refine rgD (by kernel_rfl) [(11, .blk b2 159 _), (1000000, .blk b0 156 (restc f bm)), (1000000, .blk b1 159 s.cells)] (by repeat (first | exact HS.nil | (apply HS.keep; (repeat (first | exact At.here | apply At.there))) | (apply HS.ro; (repeat (first | exact Rds.ro | exact Rds.own | apply Rds.there))))) (h := ?_)
      refine tk 0 (hy := (by first | exact ldA | exact ldEA)) (h := ?_)
      refine tk 1 (hy := (by first | exact fa | exact faE)) (h := ?_)
      refine tk 2 (hy := (by first | exact ldA | exact ldEA)) (h := ?_)
      refine tk 3 (hy := (by first | exact fa | exact faE)) (h := ?_)
      refine tk 4 (hy := (by first | exact ldA | exact ldEA)) (h := ?_)
      refine tk 6 (hy := (by first | exact fa | exact faE)) (h := ?_)
      refine tk 7 (hy := ixA) (h := ?_)
      refine tk 8 (hy := (by first | exact ld | exact ldE)) (h := ?_)
      refine one 5 (h := ?_)
      refine cl0 (hc := fun w hS => C_rest_tie f bm (wonS f s.won s.games 1) (gamS f s.won s.games 1) hf w) (hargs := by rw [hw1, hg1]; repeat (first | exact Evs.nil | (apply Evs.cons; exact rfl))) (h := ?_)
      refine nx (h := ?_)
      refine tk 9 (hy := bdA) (h := ?_)
      refine tk 10 (hy := (by first | exact fa | exact faE)) (h := ?_)
      refine one 11 (h := ?_)
      first | refine stA (h := ?_) | refine stEA (h := ?_)
      refine nx (h := ?_)
      refine dn (h := ?_)
      refine q_seq (h := ?_)
      refine sq (h := ?_)
      refine rg (h := ?_)
      refine WL.y (hy := (by first | exact ldA | exact ldEA)) (h := ?_)
      refine WL.y (hy := mv) (h := ?_)
      refine WL.y (hy := mv) (h := ?_)
      first | refine stA (h := ?_) | refine stEA (h := ?_)
      refine WL.y (hy := asg) (h := ?_)
      refine WL.y (hy := asg) (h := ?_)
      refine nl (h := ?_)
      refine q_seq (h := ?_)
      refine rtn (h := ?_)
      refine q_ret (hR := ?_)
      refine fun w hS => ⟨?_, hS.sub (by repeat (first | exact SubL.nil | (apply SubL.cons; (repeat (first | exact At.here | apply At.there))) | exact SubL.refl _ | apply SubL.skip))⟩
      unfold afterS
      rw [hw1, hg1, ho1, hE]
      rfl
    · skip
      have hE : endS f s.won s.games 1 = false := by rw [Bool.not_not] at h3; exact h3
      have hw1 : wonS f s.won s.games 1 = s.won := by rw [wonS, hE]; rfl
      have hg1 : gamS f s.won s.games 1 = addV s.games 1 := by rw [gamS, hE]; rfl
      have ho1 : overS f s.won s.games 1 = false := by rw [overS, hE]; rfl
      refine skp (h := ?_)
      refine q_seq (h := ?_)
      refine sq (h := ?_)
      refine rg (h := ?_)
      refine WL.y (hy := (by first | exact fa | exact faE)) (h := ?_)
      refine WL.y (hy := (by first | exact ld | exact ldE)) (h := ?_)
      refine WL.y (hy := addI) (h := ?_)
      refine WL.y (hy := (by first | exact fa | exact faE)) (h := ?_)
      first | refine st (h := ?_) | refine stE (h := ?_)
      refine nl (h := ?_)
      refine q_seq (h := ?_)
      refine sq (h := ?_)
      refine rgD (by kernel_rfl) [(11, .blk b2 159 _), (1000000, .blk b0 156 (restc f bm)), (1000000, .blk b1 159 s.cells)] (by repeat (first | exact HS.nil | (apply HS.keep; (repeat (first | exact At.here | apply At.there))) | (apply HS.ro; (repeat (first | exact Rds.ro | exact Rds.own | apply Rds.there))))) (h := ?_)
      refine tk 0 (hy := (by first | exact ldA | exact ldEA)) (h := ?_)
      refine tk 1 (hy := (by first | exact fa | exact faE)) (h := ?_)
      refine tk 2 (hy := (by first | exact ldA | exact ldEA)) (h := ?_)
      refine tk 3 (hy := (by first | exact fa | exact faE)) (h := ?_)
      refine tk 4 (hy := (by first | exact ldA | exact ldEA)) (h := ?_)
      refine tk 6 (hy := (by first | exact fa | exact faE)) (h := ?_)
      refine tk 7 (hy := ixA) (h := ?_)
      refine tk 8 (hy := (by first | exact ld | exact ldE)) (h := ?_)
      refine one 5 (h := ?_)
      refine cl0 (hc := fun w hS => C_rest_tie f bm (wonS f s.won s.games 1) (gamS f s.won s.games 1) hf w) (hargs := by rw [hw1, hg1]; repeat (first | exact Evs.nil | (apply Evs.cons; exact rfl))) (h := ?_)
      refine nx (h := ?_)
      refine tk 9 (hy := bdA) (h := ?_)
      refine tk 10 (hy := (by first | exact fa | exact faE)) (h := ?_)
      refine one 11 (h := ?_)
      first | refine stA (h := ?_) | refine stEA (h := ?_)
      refine nx (h := ?_)
      refine dn (h := ?_)
      refine q_seq (h := ?_)
      refine sq (h := ?_)
      refine rg (h := ?_)
      refine WL.y (hy := (by first | exact ldA | exact ldEA)) (h := ?_)
      refine WL.y (hy := mv) (h := ?_)
      refine WL.y (hy := mv) (h := ?_)
      first | refine stA (h := ?_) | refine stEA (h := ?_)
      refine WL.y (hy := asg) (h := ?_)
      refine WL.y (hy := asg) (h := ?_)
      refine nl (h := ?_)
      refine q_seq (h := ?_)
      refine rtn (h := ?_)
      refine q_ret (hR := ?_)
      refine fun w hS => ⟨?_, hS.sub (by repeat (first | exact SubL.nil | (apply SubL.cons; (repeat (first | exact At.here | apply At.there))) | exact SubL.refl _ | apply SubL.skip))⟩
      unfold afterS
      rw [hw1, hg1, ho1, hE]
      rfl
  · skip
    exfalso
    exact absurd rfl (of_decide_eq_false h0 : ¬ (1 : Int) = 1)
theorem C_balls_begun (b : Brd) (A : Option Addr) (n c : Nat) (w : World) : C0 Try.prog 98 [b.val A n c] w (.tuple #[.bool ((!isZ b.g || !isZ b.p) || decide (0 < (n : Int))), .bool (!isZ b.g || !isZ b.p)]) := by
  refine ⟨en Try.func98 Try.ntmps98 (St.init w) (h := fun F => ?_)⟩
  refine sq (h := ?_)
  refine rg (h := ?_)
  refine bxA (h := fun b0 => ?_)
  refine WL.y (hy := asg) (h := ?_)
  refine WL.y (hy := asg) (h := ?_)
  refine WL.cut (by repeat (first | exact Cut.nil | apply Cut.hit | apply Cut.miss (by exact rfl))) ?_
  refine nl (h := ?_)
  refine q_seq (h := ?_)
  refine sq (h := ?_)
  refine rg (h := ?_)
  refine WL.y (hy := (by first | exact fa | exact faE)) (h := ?_)
  refine WL.y (hy := (by first | exact ldA | exact ldEA)) (h := ?_)
  refine WL.y (hy := bd) (h := ?_)
  refine WL.y (hy := neqT) (h := ?_)
  refine WL.y (hy := mv) (h := ?_)
  apply brOr 5 8 13 (by exact rfl)
  · intro hb0
    refine un (h := ?_)
    refine WL.y (hy := (by first | exact fa | exact faE)) (h := ?_)
    refine un (h := ?_)
    refine WL.y (hy := (by first | exact ldA | exact ldEA)) (h := ?_)
    refine un (h := ?_)
    refine WL.y (hy := bd) (h := ?_)
    refine un (h := ?_)
    refine WL.y (hy := neqT) (h := ?_)
    refine WL.y (hy := (by first | exact pkT | exact pkF)) (h := ?_)
    exact mg (by repeat (first | exact trivial | refine ⟨rfl, ?_⟩ | refine ⟨by rw [hb0]; rfl, ?_⟩)) (by repeat (first | exact SubL.nil | (apply SubL.cons; (repeat (first | exact At.here | apply At.there))) | exact SubL.refl _ | apply SubL.skip))
  · intro hb0
    repeat (first | refine un (h := ?_) | refine sk (h := ?_) | refine WL.y (hy := pkF) (h := ?_) | refine WL.y (hy := pkT) (h := ?_))
    exact mg (by repeat (first | exact trivial | refine ⟨rfl, ?_⟩ | refine ⟨by rw [hb0]; rfl, ?_⟩)) (by repeat (first | exact SubL.nil | (apply SubL.cons; (repeat (first | exact At.here | apply At.there))) | exact SubL.refl _ | apply SubL.skip))
  refine WL.y (hy := asg) (h := ?_)
  refine WL.cut (by repeat (first | exact Cut.nil | apply Cut.hit | apply Cut.miss (by exact rfl))) ?_
  refine nl (h := ?_)
  refine q_seq (h := ?_)
  refine sq (h := ?_)
  refine rg (h := ?_)
  refine WL.y (hy := mv) (h := ?_)
  refine WL.y (hy := mv) (h := ?_)
  apply brOr 5 15 20 (by exact rfl)
  · intro hb1
    refine un (h := ?_)
    refine WL.y (hy := (by first | exact fa | exact faE)) (h := ?_)
    refine un (h := ?_)
    refine WL.y (hy := (by first | exact ld | exact ldE)) (h := ?_)
    refine un (h := ?_)
    refine WL.y (hy := lenS) (h := ?_)
    refine un (h := ?_)
    refine WL.y (hy := gtr) (h := ?_)
    refine WL.y (hy := (by first | exact pkT | exact pkF)) (h := ?_)
    exact mg (by repeat (first | exact trivial | refine ⟨rfl, ?_⟩ | refine ⟨by rw [hb1]; rfl, ?_⟩)) (by repeat (first | exact SubL.nil | (apply SubL.cons; (repeat (first | exact At.here | apply At.there))) | exact SubL.refl _ | apply SubL.skip))
  · intro hb1
    repeat (first | refine un (h := ?_) | refine sk (h := ?_) | refine WL.y (hy := pkF) (h := ?_) | refine WL.y (hy := pkT) (h := ?_))
    exact mg (by repeat (first | exact trivial | refine ⟨rfl, ?_⟩ | refine ⟨by rw [hb1]; rfl, ?_⟩)) (by repeat (first | exact SubL.nil | (apply SubL.cons; (repeat (first | exact At.here | apply At.there))) | exact SubL.refl _ | apply SubL.skip))
  refine WL.y (hy := mv) (h := ?_)
  refine WL.y (hy := asg) (h := ?_)
  refine WL.y (hy := asg) (h := ?_)
  refine WL.cut (by repeat (first | exact Cut.nil | apply Cut.hit | apply Cut.miss (by exact rfl))) ?_
  refine nl (h := ?_)
  refine q_seq (h := ?_)
  refine rtn (h := ?_)
  refine q_ret (hR := ?_)
  exact fun w hS => ⟨rfl, hS.sub (by repeat (first | exact SubL.nil | (apply SubL.cons; (repeat (first | exact At.here | apply At.there))) | exact SubL.refl _ | apply SubL.skip))⟩
end Go.Proofs.Ytacaojifempclaa

namespace Go.Proofs.Ytacaojifempclaa
open Go Go.RowKit

abbrev keyS (s : Spo) : List Fl := [.i s.won.1, .i s.won.2, .i s.games.1, .i s.games.2, .i s.num, .i s.t0, .i s.t1]
abbrev sh7 : List Bool := [false, false, false, false, false, false, false]
theorem keyS_inj {s t : Spo} (h : keyS s = keyS t) : s = t := by
  obtain ⟨⟨a1, a2⟩, ⟨a3, a4⟩, a5, a6, a7⟩ := s
  obtain ⟨⟨b1, b2⟩, ⟨b3, b4⟩, b5, b6, b7⟩ := t
  simp only [keyS, List.cons.injEq, Fl.i.injEq, and_true] at h
  obtain ⟨rfl, rfl, rfl, rfl, rfl, rfl, rfl⟩ := h
  rfl
def GoodM (f : Fmt) (kv : List (List Fl × Value)) : Prop := (∀ p ∈ kv, shapeOf p.1 = sh7) ∧ ∀ (s : Spo) v, lkp kv (keyS s) = some v → v = cv (fromP f s.won s.games s.num s.t1)
theorem good_nil (f : Fmt) : GoodM f [] := ⟨fun p hp => (by cases hp), fun s v h => by cases h⟩
theorem good_upd {f : Fmt} {kv : List (List Fl × Value)} (h : GoodM f kv) (s : Spo) : GoodM f (updM kv (keyS s) (cv (fromP f s.won s.games s.num s.t1))) := by
  refine ⟨updM_shape h.1 rfl, fun t v ht => ?_⟩
  rw [lkp_upd] at ht
  by_cases e : keyS t = keyS s
  · rw [if_pos e] at ht
    rw [keyS_inj e, ← Option.some.inj ht]
  · rw [if_neg e] at ht
    exact h.2 t v ht
theorem look_good {f : Fmt} {kv : List (List Fl × Value)} (h : GoodM f kv) (s : Spo) : ∃ (c : Cs) (k : Bool), (lkp kv (keyS s)).getD (.agg #[.int .i64 0, .int .i64 0, .int .i64 0, .int .i64 0]) = cv c ∧ (lkp kv (keyS s)).isSome = k ∧ (k = true → c = fromP f s.won s.games s.num s.t1) := by
  cases e : lkp kv (keyS s) with
  | none => exact ⟨zC, false, rfl, rfl, fun h => by cases h⟩
  | some v => exact ⟨fromP f s.won s.games s.num s.t1, true, h.2 s v e, rfl, fun _ => rfl⟩
theorem C_rest_after (f : Fmt) (bm : Nat) (s : Spo) (side : Int) (hs : side = 0 ∨ side = 1) (hf : f.Ok) (ht : s.t0 = tieN f s.won s.games) (hw : (0 ≤ s.won.1 ∧ s.won.1 ≤ 3) ∧ 0 ≤ s.won.2 ∧ s.won.2 ≤ 3) (hg : (0 ≤ s.games.1 ∧ s.games.1 ≤ 1000) ∧ 0 ≤ s.games.2 ∧ s.games.2 ≤ 1000) (hn : 0 ≤ s.num ∧ s.num ≤ 1000) (w : World) : C0 Try.prog 109 [restv f bm, s.val, .int .i64 side] w (.tuple #[(afterS f s side).val, .bool (!endS f s.won s.games side), .bool (overS f s.won s.games side)]) := by
  rcases hs with rfl | rfl
  · exact C_rest_after0 f bm s hf ht hw hg hn w
  · exact C_rest_after1 f bm s hf ht hw hg hn w
theorem chg_is (f : Fmt) (n t1 : Int) (won g : Pr) : (decide (tieN f won g = 0) && dueV f (n + 1) || decide (t1 = 1) && dueV f (n + 1 - 2)) = chgV f n t1 won g := by
  have h0 : decide (tieN f won g = 0) = !brksV (setV f won) g := by
    rw [tieN]; cases brksV (setV f won) g <;> rfl
  rw [chgV, h0, Bool.and_comm (!brksV (setV f won) g), show n + 1 - 2 = n - 1 by omega]
def outV (c0 c1 : Cs) : Nat → Cs
  | 0 => zC
  | 1 => c0
  | _ => orV c1 c0
structure BX where
  (es : Array MapEntry) (c : Nat) (kv : List (List Fl × Value))
structure BL where
  (k : Nat) (es : Array MapEntry) (c : Nat) (kv : List (List Fl × Value))
def FromB (f : Fmt) (k : Nat) : Prop := ∀ (s : Spo) (kv : List (List Fl × Value)) (es : Array MapEntry) (c b : Nat), Vs f s.won s.games → s.t0 = tieN f s.won s.games → remV f s.won s.games < k → (0 ≤ s.num ∧ s.num + remV f s.won s.games ≤ 1000) → MapIs es kv → GoodM f kv →
  Tr Try.prog 97 [restv f b, s.val] [.obj b (.map es c)] (fun x : BX => MapIs x.es x.kv ∧ GoodM f x.kv) (fun _ => cv (fromP f s.won s.games s.num s.t1)) (fun x => [.obj b (.map x.es x.c)])
set_option maxRecDepth 100000 in
set_option maxHeartbeats 4000000 in
theorem fromB_step (f : Fmt) (hf : f.Ok) (hb : Bdd f) (k : Nat) (ih : FromB f k) : FromB f (k + 1) := by
  intro s kv es c b hV hT hk hN hm hgd
  refine ⟨fun w0 w R hst => ?_⟩
  obtain ⟨c0, k0, hl1, hl2, hl3⟩ := look_good hgd s
  have hrp := rem_pos hf hb hV
  have hw0 := hV.1
  have hs1 := hf.s1
  have hg1 := hf.g1
  have hop := open_sum (tie_ok hf s.won) (bdd_set hb hV.1) hV.2
  have hgb : (0 ≤ s.games.1 ∧ s.games.1 ≤ 1000) ∧ 0 ≤ s.games.2 ∧ s.games.2 ≤ 1000 := by have := hV.2; unfold OpenP at this; omega
  have hfe := from_eq (n := s.num) (t1 := s.t1) hf hb hV
  refine en Try.func97 Try.ntmps97 hst (h := fun F => ?_)
  refine sq (h := ?_)
  refine rg (h := ?_)
  refine bxA (h := fun b0 => ?_)
  refine bxA (h := fun b1 => ?_)
  refine al (h := fun b2 => ?_)
  refine nl (h := ?_)
  refine q_seq (h := ?_)
  refine sq (h := ?_)
  refine sq (h := ?_)
  refine rg (h := ?_)
  refine WL.y (hy := (by first | exact fa | exact faE)) (h := ?_)
  refine WL.y (hy := (by first | exact ld | exact ldE)) (h := ?_)
  refine WL.y (hy := (by first | exact ldA | exact ldEA)) (h := ?_)
  refine WL.y (hy := lkC (kv := kv) (k := keyS s) (hm := hm) (hs := hgd.1)) (h := ?_)
  rw [hl1, hl2]
  refine WL.y (hy := mv) (h := ?_)
  refine WL.y (hy := ex) (h := ?_)
  refine WL.y (hy := ex) (h := ?_)
  refine al (h := fun b3 => ?_)
  first | refine stA (h := ?_) | refine stEA (h := ?_)
  refine WL.y (hy := asg) (h := ?_)
  refine nl (h := ?_)
  refine q_seq (h := ?_)
  refine sq (h := ?_)
  refine rg (h := ?_)
  refine WL.y (hy := mv) (h := ?_)
  refine nl (h := ?_)
  refine q_seq (h := ?_)
  refine cd (by exact rfl) (fun h0 => ?_) (fun h0 => ?_)
  · skip
    have hc0 := hl3 h0
    refine sq (h := ?_)
    refine rg (h := ?_)
    refine WL.y (hy := (by first | exact ldA | exact ldEA)) (h := ?_)
    first | refine stA (h := ?_) | refine stEA (h := ?_)
    refine nl (h := ?_)
    refine q_seq (h := ?_)
    refine rtn (h := ?_)
    refine q_then_ret (h := ?_)
    refine q_ret (hR := ?_)
    rw [← hc0]
    exact fun w hS => ⟨⟨es, c, kv⟩, ⟨hm, hgd⟩, rfl, hS.sub (by repeat (first | exact SubL.nil | (apply SubL.cons; (repeat (first | exact At.here | apply At.there))) | exact SubL.refl _ | apply SubL.skip))⟩
  · skip
    refine skp (h := ?_)
    refine q_seq (h := ?_)
    refine sq (h := ?_)
    refine rg (h := ?_)
    refine al (h := fun b4 => ?_)
    refine nl (h := ?_)
    refine q_seq (h := ?_)
    refine sq (h := ?_)
    refine sq (h := ?_)
    refine rg (h := ?_)
    refine WL.y (hy := mv) (h := ?_)
    refine nl (h := ?_)
    refine q_seq (h := ?_)
    refine bk (h := ?_)
    refine lp (X := BL) (I := fun z => z.k ≤ 2 ∧ MapIs z.es z.kv ∧ GoodM f z.kv) (le := fun z => [(2, .pointer (some ⟨b0, 0, none⟩)), (3, .pointer (some ⟨b1, 0, none⟩)), (4, .pointer (some ⟨b2, 0, none⟩)), (7, .pointer (some ⟨b4, 0, none⟩)), (22, .int .i64 z.k)]) (Le := fun z => .obj b (.map z.es z.c) :: .blk b4 103 (ccs (outV (courV (fromP f) f s.won s.games s.num s.t1 0) (courV (fromP f) f s.won s.games s.num s.t1 1) z.k)) :: .blk b0 156 (restc f b) :: .blk b1 159 s.cells :: .blk b2 103 [.int .i64 0, .int .i64 0, .int .i64 0, .int .i64 0] :: R) (μ := fun z => 2 - z.k) ⟨0, es, c, kv⟩ ⟨Nat.zero_le _, hm, hgd⟩ (by repeat (first | exact trivial | refine ⟨rfl, ?_⟩)) (by repeat (first | exact SubL.nil | (apply SubL.cons; (repeat (first | exact At.here | apply At.there))) | exact SubL.refl _ | apply SubL.skip)) (fun z hz => ?_)
    obtain ⟨hzk, hzm, hzg⟩ := hz
    refine sq (h := ?_)
    refine rg (h := ?_)
    refine WL.y (hy := lss) (h := ?_)
    refine nl (h := ?_)
    refine q_seq (h := ?_)
    refine sq (h := ?_)
    refine cd (by exact rfl) (fun h1 => ?_) (fun h1 => ?_)
    · skip
      obtain ⟨z, es1, c1, kv1⟩ := z
      dsimp only at *
      have hkn : z < 2 := by simp only [decide_eq_true_eq] at h1; omega
      have hks : (z : Int) = 0 ∨ (z : Int) = 1 := by omega
      have han : (afterS f s z).num = s.num + 1 := rfl
      refine skp (h := ?_)
      refine q_seq (h := ?_)
      refine sq (h := ?_)
      refine bk (h := ?_)
      refine sq (h := ?_)
      refine rg (h := ?_)
      refine WL.y (hy := mv) (h := ?_)
      refine WL.y (hy := asg) (h := ?_)
      refine nl (h := ?_)
      refine q_seq (h := ?_)
      refine sq (h := ?_)
      refine rg (h := ?_)
      refine WL.y (hy := (by first | exact ldA | exact ldEA)) (h := ?_)
      refine WL.y (hy := (by first | exact ldA | exact ldEA)) (h := ?_)
      refine WL.y (hy := mv) (h := ?_)
      refine cl0 (hc := fun w hS => C_rest_after f b s z hks hf hT (by omega) hgb (by omega) w) (h := ?_)
      refine WL.y (hy := mv) (h := ?_)
      refine WL.y (hy := ex) (h := ?_)
      refine WL.y (hy := ex) (h := ?_)
      refine WL.y (hy := ex) (h := ?_)
      refine al (h := fun b5 => ?_)
      first | refine stA (h := ?_) | refine stEA (h := ?_)
      refine WL.y (hy := asg) (h := ?_)
      refine WL.y (hy := asg) (h := ?_)
      refine nl (h := ?_)
      refine q_seq (h := ?_)
      refine sq (h := ?_)
      refine rg (h := ?_)
      refine al (h := fun b6 => ?_)
      refine nl (h := ?_)
      refine q_seq (h := ?_)
      refine ct (X := BX) (fun x => MapIs x.es x.kv ∧ GoodM f x.kv) (fun _ => [(2, .pointer (some ⟨b0, 0, none⟩)), (3, .pointer (some ⟨b1, 0, none⟩)), (4, .pointer (some ⟨b2, 0, none⟩)), (7, .pointer (some ⟨b4, 0, none⟩)), (8, .int .i64 z), (9, .pointer (some ⟨b5, 0, none⟩)), (10, .bool (!endS f s.won s.games z)), (11, .bool (overS f s.won s.games z)), (12, .pointer (some ⟨b6, 0, none⟩)), (22, .int .i64 z)]) (fun x => .blk b6 103 (ccs (courV (fromP f) f s.won s.games s.num s.t1 z)) :: .obj b (.map x.es x.c) :: .blk b5 159 (afterS f s z).cells :: .blk b4 103 (ccs (outV (courV (fromP f) f s.won s.games s.num s.t1 0) (courV (fromP f) f s.won s.games s.num s.t1 1) z)) :: .blk b0 156 (restc f b) :: .blk b1 159 s.cells :: .blk b2 103 [.int .i64 0, .int .i64 0, .int .i64 0, .int .i64 0] :: R) (h1 := ?_) (h2 := ?_)
      · skip
        refine sq (h := ?_)
        refine rg (h := ?_)
        refine WL.y (hy := mv) (h := ?_)
        refine WL.y (hy := notB) (h := ?_)
        refine nl (h := ?_)
        refine q_seq (h := ?_)
        refine cd (by exact rfl) (fun h2 => ?_) (fun h2 => ?_)
        · skip
          have hov : overS f s.won s.games z = false := by rw [Bool.not_eq_true'] at h2; exact h2
          obtain ⟨hv1, hr1⟩ := step_ok' hf hb hks hV hov
          have hrp1 := rem_pos hf hb hv1
          have hih := ih (afterS f s z) kv1 es1 c1 b hv1 rfl (by show remV f (wonS f s.won s.games z) (gamS f s.won s.games z) < k; omega) ⟨by show 0 ≤ s.num + 1; omega, by show s.num + 1 + remV f (wonS f s.won s.games z) (gamS f s.won s.games z) ≤ 1000; omega⟩ hzm hzg
          obtain ⟨r, hr⟩ : ∃ r, r = fromP f (wonS f s.won s.games z) (gamS f s.won s.games z) (s.num + 1) s.t0 := ⟨_, rfl⟩
          have hrb := csb_P (n := s.num + 1) (t1 := s.t0) hf hv1
          rw [← hr] at hrb
          unfold CsB at hrb
          have hcr : courV (fromP f) f s.won s.games s.num s.t1 z = bumpC r (chgV f s.num s.t1 (wonS f s.won s.games z) (gamS f s.won s.games z)) (endS f s.won s.games z) := by rw [courV, hov, cond_false, ← hT, ← hr]
          refine sq (h := ?_)
          refine rg (h := ?_)
          refine WL.y (hy := (by first | exact ldA | exact ldEA)) (h := ?_)
          refine WL.y (hy := (by first | exact ldA | exact ldEA)) (h := ?_)
          refine clT (hc := hih) (h := fun x hx => ?_)
          rw [show fromP f (afterS f s z).won (afterS f s z).games (afterS f s z).num (afterS f s z).t1 = r from hr.symm]
          obtain ⟨hx1, hx2⟩ := hx
          first | refine stA (h := ?_) | refine stEA (h := ?_)
          refine nl (h := ?_)
          refine q_seq (h := ?_)
          refine ct (X := Unit) (fun _ => True) (fun _ => [(2, .pointer (some ⟨b0, 0, none⟩)), (3, .pointer (some ⟨b1, 0, none⟩)), (4, .pointer (some ⟨b2, 0, none⟩)), (7, .pointer (some ⟨b4, 0, none⟩)), (8, .int .i64 z), (9, .pointer (some ⟨b5, 0, none⟩)), (10, .bool (!endS f s.won s.games z)), (11, .bool (overS f s.won s.games z)), (12, .pointer (some ⟨b6, 0, none⟩)), (22, .int .i64 z)]) (fun _ => .blk b6 103 [.int .i64 (r.1.1 + bz (chgV f s.num s.t1 (wonS f s.won s.games z) (gamS f s.won s.games z))), .int .i64 (r.1.2 + bz (chgV f s.num s.t1 (wonS f s.won s.games z) (gamS f s.won s.games z))), .int .i64 r.2.1, .int .i64 r.2.2] :: .obj b (.map x.es x.c) :: .blk b5 159 (afterS f s z).cells :: .blk b4 103 (ccs (outV (courV (fromP f) f s.won s.games s.num s.t1 0) (courV (fromP f) f s.won s.games s.num s.t1 1) z)) :: .blk b0 156 (restc f b) :: .blk b1 159 s.cells :: .blk b2 103 [.int .i64 0, .int .i64 0, .int .i64 0, .int .i64 0] :: R) (h1 := ?_) (h2 := ?_)
          · skip
            refine sq (h := ?_)
            refine rg (h := ?_)
            refine WL.y (hy := (by first | exact fa | exact faE)) (h := ?_)
            refine WL.y (hy := ixA) (h := ?_)
            refine WL.y (hy := (by first | exact ld | exact ldE)) (h := ?_)
            refine WL.y (hy := eql) (h := ?_)
            refine WL.y (hy := mv) (h := ?_)
            apply brAnd 5 42 47 (by exact rfl)
            · intro hb3
              refine un (h := ?_)
              refine WL.y (hy := (by first | exact ldA | exact ldEA)) (h := ?_)
              refine un (h := ?_)
              refine WL.y (hy := (by first | exact fa | exact faE)) (h := ?_)
              refine un (h := ?_)
              refine WL.y (hy := (by first | exact ld | exact ldE)) (h := ?_)
              refine un (h := ?_)
              refine cl0 (hc := fun w hS => C_rest_due f b (s.num + 1) hf (by omega) w) (h := ?_)
              refine WL.y (hy := (by first | exact pkT | exact pkF)) (h := ?_)
              exact mg (by repeat (first | exact trivial | refine ⟨rfl, ?_⟩ | refine ⟨by rw [hb3]; rfl, ?_⟩)) (by repeat (first | exact SubL.nil | (apply SubL.cons; (repeat (first | exact At.here | apply At.there))) | exact SubL.refl _ | apply SubL.skip))
            · intro hb3
              repeat (first | refine un (h := ?_) | refine sk (h := ?_) | refine WL.y (hy := pkF) (h := ?_) | refine WL.y (hy := pkT) (h := ?_))
              exact mg (by repeat (first | exact trivial | refine ⟨rfl, ?_⟩ | refine ⟨by rw [hb3]; rfl, ?_⟩)) (by repeat (first | exact SubL.nil | (apply SubL.cons; (repeat (first | exact At.here | apply At.there))) | exact SubL.refl _ | apply SubL.skip))
            refine WL.y (hy := mv) (h := ?_)
            apply brOr 12 48 60 (by exact rfl)
            · intro hb4
              refine un (h := ?_)
              refine WL.y (hy := (by first | exact fa | exact faE)) (h := ?_)
              refine un (h := ?_)
              refine WL.y (hy := ixA) (h := ?_)
              refine un (h := ?_)
              refine WL.y (hy := (by first | exact ld | exact ldE)) (h := ?_)
              refine un (h := ?_)
              refine WL.y (hy := eql) (h := ?_)
              refine un (h := ?_)
              refine WL.y (hy := mv) (h := ?_)
              apply brAnd 6 53 59 (by exact rfl)
              · intro hb5
                refine un (h := ?_)
                refine WL.y (hy := (by first | exact ldA | exact ldEA)) (h := ?_)
                refine un (h := ?_)
                refine WL.y (hy := (by first | exact fa | exact faE)) (h := ?_)
                refine un (h := ?_)
                refine WL.y (hy := (by first | exact ld | exact ldE)) (h := ?_)
                refine un (h := ?_)
                refine WL.y (hy := subI) (h := ?_)
                refine un (h := ?_)
                refine cl0 (hc := fun w hS => C_rest_due f b (s.num + 1 - 2) hf (by omega) w) (h := ?_)
                refine un (h := ?_)
                refine WL.y (hy := (by first | exact pkT | exact pkF)) (h := ?_)
                exact mg (by repeat (first | exact trivial | refine ⟨rfl, ?_⟩ | refine ⟨by rw [hb5]; rfl, ?_⟩ | refine ⟨by rw [hb4]; rfl, ?_⟩)) (by repeat (first | exact SubL.nil | (apply SubL.cons; (repeat (first | exact At.here | apply At.there))) | exact SubL.refl _ | apply SubL.skip))
              · intro hb5
                repeat (first | refine un (h := ?_) | refine sk (h := ?_) | refine WL.y (hy := pkF) (h := ?_) | refine WL.y (hy := pkT) (h := ?_))
                exact mg (by repeat (first | exact trivial | refine ⟨rfl, ?_⟩ | refine ⟨by rw [hb5]; rfl, ?_⟩ | refine ⟨by rw [hb4]; rfl, ?_⟩)) (by repeat (first | exact SubL.nil | (apply SubL.cons; (repeat (first | exact At.here | apply At.there))) | exact SubL.refl _ | apply SubL.skip))
              refine WL.y (hy := (by first | exact pkT | exact pkF)) (h := ?_)
              exact mg (by repeat (first | exact trivial | refine ⟨rfl, ?_⟩ | refine ⟨by rw [hb4]; rfl, ?_⟩)) (by repeat (first | exact SubL.nil | (apply SubL.cons; (repeat (first | exact At.here | apply At.there))) | exact SubL.refl _ | apply SubL.skip))
            · intro hb4
              repeat (first | refine un (h := ?_) | refine sk (h := ?_) | refine WL.y (hy := pkF) (h := ?_) | refine WL.y (hy := pkT) (h := ?_))
              exact mg (by repeat (first | exact trivial | refine ⟨rfl, ?_⟩ | refine ⟨by rw [hb4]; rfl, ?_⟩)) (by repeat (first | exact SubL.nil | (apply SubL.cons; (repeat (first | exact At.here | apply At.there))) | exact SubL.refl _ | apply SubL.skip))
            refine nl (h := ?_)
            refine q_seq (h := ?_)
            refine cd (by exact rfl) (fun h6 => ?_) (fun h6 => ?_)
            · skip
              have hch : chgV f s.num s.t1 (wonS f s.won s.games z) (gamS f s.won s.games z) = true := (chg_is ..).symm.trans h6
              refine rg (h := ?_)
              refine WL.y (hy := (by first | exact fa | exact faE)) (h := ?_)
              refine WL.y (hy := (by first | exact fa | exact faE)) (h := ?_)
              refine WL.y (hy := (by first | exact ld | exact ldE)) (h := ?_)
              refine WL.y (hy := addI) (h := ?_)
              refine WL.y (hy := (by first | exact fa | exact faE)) (h := ?_)
              refine WL.y (hy := (by first | exact fa | exact faE)) (h := ?_)
              refine WL.y (hy := (by first | exact ld | exact ldE)) (h := ?_)
              refine WL.y (hy := addI) (h := ?_)
              refine WL.y (hy := bd) (h := ?_)
              refine WL.y (hy := (by first | exact fa | exact faE)) (h := ?_)
              first | refine stA (h := ?_) | refine stEA (h := ?_)
              refine nl (h := ?_)
              first | (rw [hch, show bz true = 1 from rfl]; exact ctn () trivial (by repeat (first | exact trivial | refine ⟨rfl, ?_⟩)) (by repeat (first | exact SubL.nil | (apply SubL.cons; (repeat (first | exact At.here | apply At.there))) | exact SubL.refl _ | apply SubL.skip))) | (rw [hch, show bz false = 0 from rfl, Int.add_zero, Int.add_zero]; exact ctn () trivial (by repeat (first | exact trivial | refine ⟨rfl, ?_⟩)) (by repeat (first | exact SubL.nil | (apply SubL.cons; (repeat (first | exact At.here | apply At.there))) | exact SubL.refl _ | apply SubL.skip)))
            · skip
              have hch : chgV f s.num s.t1 (wonS f s.won s.games z) (gamS f s.won s.games z) = false := (chg_is ..).symm.trans h6
              refine skp (h := ?_)
              first | (rw [hch, show bz true = 1 from rfl]; exact ctn () trivial (by repeat (first | exact trivial | refine ⟨rfl, ?_⟩)) (by repeat (first | exact SubL.nil | (apply SubL.cons; (repeat (first | exact At.here | apply At.there))) | exact SubL.refl _ | apply SubL.skip))) | (rw [hch, show bz false = 0 from rfl, Int.add_zero, Int.add_zero]; exact ctn () trivial (by repeat (first | exact trivial | refine ⟨rfl, ?_⟩)) (by repeat (first | exact SubL.nil | (apply SubL.cons; (repeat (first | exact At.here | apply At.there))) | exact SubL.refl _ | apply SubL.skip)))
          rintro ⟨⟩ -
          have hb1 := bz_rng (chgV f s.num s.t1 (wonS f s.won s.games z) (gamS f s.won s.games z))
          refine sq (h := ?_)
          refine rg (h := ?_)
          refine WL.y (hy := mv) (h := ?_)
          refine WL.y (hy := notB) (h := ?_)
          refine nl (h := ?_)
          refine q_seq (h := ?_)
          refine cd (by exact rfl) (fun h7 => ?_) (fun h7 => ?_)
          · skip
            have hen : endS f s.won s.games z = true := by rw [Bool.not_not] at h7; exact h7
            refine rg (h := ?_)
            refine WL.y (hy := (by first | exact fa | exact faE)) (h := ?_)
            refine WL.y (hy := (by first | exact fa | exact faE)) (h := ?_)
            refine WL.y (hy := (by first | exact ld | exact ldE)) (h := ?_)
            refine WL.y (hy := addI) (h := ?_)
            refine WL.y (hy := (by first | exact fa | exact faE)) (h := ?_)
            refine WL.y (hy := (by first | exact fa | exact faE)) (h := ?_)
            refine WL.y (hy := (by first | exact ld | exact ldE)) (h := ?_)
            refine WL.y (hy := addI) (h := ?_)
            refine WL.y (hy := bd) (h := ?_)
            refine WL.y (hy := (by first | exact fa | exact faE)) (h := ?_)
            first | refine stA (h := ?_) | refine stEA (h := ?_)
            refine nl (h := ?_)
            first
              | (rw [hcr, hen, bumpC, show bz false = 0 from rfl, Int.add_zero, Int.add_zero]; exact ctn x ⟨hx1, hx2⟩ (by repeat (first | exact trivial | refine ⟨rfl, ?_⟩)) (by repeat (first | exact SubL.nil | (apply SubL.cons; (repeat (first | exact At.here | apply At.there))) | exact SubL.refl _ | apply SubL.skip)))
              | (rw [hcr, hen]; exact ctn x ⟨hx1, hx2⟩ (by repeat (first | exact trivial | refine ⟨rfl, ?_⟩)) (by repeat (first | exact SubL.nil | (apply SubL.cons; (repeat (first | exact At.here | apply At.there))) | exact SubL.refl _ | apply SubL.skip)))
              | (rw [hcr]; exact ctn ⟨es1, c1, kv1⟩ ⟨hzm, hzg⟩ (by repeat (first | exact trivial | refine ⟨rfl, ?_⟩)) (by repeat (first | exact SubL.nil | (apply SubL.cons; (repeat (first | exact At.here | apply At.there))) | exact SubL.refl _ | apply SubL.skip)))
          · skip
            have hen : endS f s.won s.games z = false := by rw [Bool.not_not] at h7; exact h7
            refine skp (h := ?_)
            first
              | (rw [hcr, hen, bumpC, show bz false = 0 from rfl, Int.add_zero, Int.add_zero]; exact ctn x ⟨hx1, hx2⟩ (by repeat (first | exact trivial | refine ⟨rfl, ?_⟩)) (by repeat (first | exact SubL.nil | (apply SubL.cons; (repeat (first | exact At.here | apply At.there))) | exact SubL.refl _ | apply SubL.skip)))
              | (rw [hcr, hen]; exact ctn x ⟨hx1, hx2⟩ (by repeat (first | exact trivial | refine ⟨rfl, ?_⟩)) (by repeat (first | exact SubL.nil | (apply SubL.cons; (repeat (first | exact At.here | apply At.there))) | exact SubL.refl _ | apply SubL.skip)))
              | (rw [hcr]; exact ctn ⟨es1, c1, kv1⟩ ⟨hzm, hzg⟩ (by repeat (first | exact trivial | refine ⟨rfl, ?_⟩)) (by repeat (first | exact SubL.nil | (apply SubL.cons; (repeat (first | exact At.here | apply At.there))) | exact SubL.refl _ | apply SubL.skip)))
        · skip
          have hov : overS f s.won s.games z = true := by rw [Bool.not_eq_false'] at h2; exact h2
          have hcr : courV (fromP f) f s.won s.games s.num s.t1 z = zC := by rw [courV, hov, cond_true]
          refine skp (h := ?_)
          first
            | (rw [hcr, hen, bumpC, show bz false = 0 from rfl, Int.add_zero, Int.add_zero]; exact ctn x ⟨hx1, hx2⟩ (by repeat (first | exact trivial | refine ⟨rfl, ?_⟩)) (by repeat (first | exact SubL.nil | (apply SubL.cons; (repeat (first | exact At.here | apply At.there))) | exact SubL.refl _ | apply SubL.skip)))
            | (rw [hcr, hen]; exact ctn x ⟨hx1, hx2⟩ (by repeat (first | exact trivial | refine ⟨rfl, ?_⟩)) (by repeat (first | exact SubL.nil | (apply SubL.cons; (repeat (first | exact At.here | apply At.there))) | exact SubL.refl _ | apply SubL.skip)))
            | (rw [hcr]; exact ctn ⟨es1, c1, kv1⟩ ⟨hzm, hzg⟩ (by repeat (first | exact trivial | refine ⟨rfl, ?_⟩)) (by repeat (first | exact SubL.nil | (apply SubL.cons; (repeat (first | exact At.here | apply At.there))) | exact SubL.refl _ | apply SubL.skip)))
      rintro x ⟨hx1, hx2⟩
      refine ct (X := Unit) (fun _ => True) (fun _ => [(2, .pointer (some ⟨b0, 0, none⟩)), (3, .pointer (some ⟨b1, 0, none⟩)), (4, .pointer (some ⟨b2, 0, none⟩)), (7, .pointer (some ⟨b4, 0, none⟩)), (8, .int .i64 z), (9, .pointer (some ⟨b5, 0, none⟩)), (10, .bool (!endS f s.won s.games z)), (11, .bool (overS f s.won s.games z)), (12, .pointer (some ⟨b6, 0, none⟩)), (22, .int .i64 z)]) (fun _ => .blk b6 103 (ccs (outV (courV (fromP f) f s.won s.games s.num s.t1 0) (courV (fromP f) f s.won s.games s.num s.t1 1) (z + 1))) :: .obj b (.map x.es x.c) :: .blk b5 159 (afterS f s z).cells :: .blk b4 103 (ccs (outV (courV (fromP f) f s.won s.games s.num s.t1 0) (courV (fromP f) f s.won s.games s.num s.t1 1) z)) :: .blk b0 156 (restc f b) :: .blk b1 159 s.cells :: .blk b2 103 [.int .i64 0, .int .i64 0, .int .i64 0, .int .i64 0] :: R) (h1 := ?_) (h2 := ?_)
      · skip
        refine sq (h := ?_)
        refine rg (h := ?_)
        refine WL.y (hy := mv) (h := ?_)
        refine WL.y (hy := eql) (h := ?_)
        refine nl (h := ?_)
        refine q_seq (h := ?_)
        refine cd (by exact rfl) (fun h8 => ?_) (fun h8 => ?_)
        · skip
          obtain rfl : z = 1 := by have := of_decide_eq_true h8; omega
          refine rg (h := ?_)
          refine WL.y (hy := (by first | exact ldA | exact ldEA)) (h := ?_)
          refine WL.y (hy := (by first | exact ldA | exact ldEA)) (h := ?_)
          refine cl0 (hc := fun w hS => C_bound_or (courV (fromP f) f s.won s.games s.num s.t1 ((1 : Nat) : Int)) (outV (courV (fromP f) f s.won s.games s.num s.t1 0) (courV (fromP f) f s.won s.games s.num s.t1 1) 1) w) (h := ?_)
          first | refine stA (h := ?_) | refine stEA (h := ?_)
          refine nl (h := ?_)
          exact ctn () trivial (by repeat (first | exact trivial | refine ⟨rfl, ?_⟩)) (by repeat (first | exact SubL.nil | (apply SubL.cons; (repeat (first | exact At.here | apply At.there))) | exact SubL.refl _ | apply SubL.skip))
        · skip
          obtain rfl : z = 0 := by have := of_decide_eq_false h8; omega
          refine skp (h := ?_)
          exact ctn () trivial (by repeat (first | exact trivial | refine ⟨rfl, ?_⟩)) (by repeat (first | exact SubL.nil | (apply SubL.cons; (repeat (first | exact At.here | apply At.there))) | exact SubL.refl _ | apply SubL.skip))
      rintro ⟨⟩ -
      refine rg (h := ?_)
      refine WL.y (hy := (by first | exact ldA | exact ldEA)) (h := ?_)
      first | refine stA (h := ?_) | refine stEA (h := ?_)
      refine nl (h := ?_)
      refine q_blk_norm (h := ?_)
      refine q_seq (h := ?_)
      refine rg (h := ?_)
      refine WL.y (hy := addI) (h := ?_)
      refine WL.y (hy := mv) (h := ?_)
      refine nl (h := ?_)
      refine rn (X := BL) (x := ⟨z, es1, c1, kv1⟩) ⟨z + 1, x.es, x.c, x.kv⟩ ⟨by dsimp only; omega, hx1, hx2⟩ (by dsimp only; omega) (by repeat (first | exact trivial | refine ⟨rfl, ?_⟩)) (by repeat (first | exact SubL.nil | (apply SubL.cons; (repeat (first | exact At.here | apply At.there))) | exact SubL.refl _ | apply SubL.skip))
    · skip
      have hkn : z.k = 2 := by simp only [decide_eq_false_iff_not] at h1; omega
      rw [hkn]
      refine et (h := ?_)
      refine q_then_exit (h := ?_)
      refine q_then_exit (h := ?_)
      refine q_blk_hit (h := ?_)
      refine q_seq (h := ?_)
      refine sq (h := ?_)
      refine rg (h := ?_)
      refine WL.y (hy := (by first | exact fa | exact faE)) (h := ?_)
      refine WL.y (hy := (by first | exact ld | exact ldE)) (h := ?_)
      refine WL.y (hy := (by first | exact ldA | exact ldEA)) (h := ?_)
      refine WL.y (hy := (by first | exact ldA | exact ldEA)) (h := ?_)
      refine mup (kv := z.kv) (k := keyS s) (hm := hzm) (hs := hzg.1) (h := fun es9 c9 hm9 => ?_)
      refine nl (h := ?_)
      refine q_seq (h := ?_)
      refine sq (h := ?_)
      refine rg (h := ?_)
      refine WL.y (hy := (by first | exact ldA | exact ldEA)) (h := ?_)
      first | refine stA (h := ?_) | refine stEA (h := ?_)
      refine nl (h := ?_)
      refine q_seq (h := ?_)
      refine rtn (h := ?_)
      refine q_ret (hR := ?_)
      rw [hfe, or_comm]
      exact fun w hS => ⟨⟨es9, c9, _⟩, ⟨hm9, by have h9 := good_upd hzg s; rw [hfe, or_comm] at h9; exact h9⟩, rfl, hS.sub (by repeat (first | exact SubL.nil | (apply SubL.cons; (repeat (first | exact At.here | apply At.there))) | exact SubL.refl _ | apply SubL.skip))⟩
theorem fromB_all (f : Fmt) (hf : f.Ok) (hb : Bdd f) : ∀ k, FromB f k
  | 0 => fun s kv es c b hV hT hk hN hm hgd => by have := rem_pos hf hb hV; omega
  | k + 1 => fromB_step f hf hb k (fromB_all f hf hb k)
end Go.Proofs.Ytacaojifempclaa

namespace Go.Proofs.Ytacaojifempclaa
open Go Go.RowKit

def tlB (p : Pr) : Bool := decide (p.1 - p.2 = 1) || decide (p.2 - p.1 = 1)
def tlV (p : Pr) : Int := bif tlB p then 1 else 0
def numTo (l : List Pr) : Nat → Nat
  | 0 => 0
  | k + 1 => match l[k]? with
    | some p => numTo l k + (p.1 + p.2).toNat
    | none => numTo l k
def tailE (l : List Pr) : Nat → List Int
  | 0 => []
  | k + 1 => match l[k]? with
    | some p => [tlV p]
    | none => []
theorem numTo_succ {l : List Pr} {k : Nat} {p : Pr} (h : l[k]? = some p) : numTo l (k + 1) = numTo l k + (p.1 + p.2).toNat := by rw [numTo, h]
theorem tailE_succ {l : List Pr} {k : Nat} {p : Pr} (h : l[k]? = some p) : tailE l (k + 1) = [tlV p] := by rw [tailE, h]
def numV (b : Brd) : Int := numTo b.st b.st.length + (b.g.1 + b.g.2)
def t1V (b : Brd) : Int := bif decide (0 < b.g.1 + b.g.2) then 0 else (tailE b.st b.st.length).getD 0 0
def restC (f : Fmt) (b : Brd) : Cs := bif overV f (wonV b.st) then zC else bumpC (fromP f (wonV b.st) b.g (numV b) (t1V b)) false (isZ b.g && isZ b.p)
theorem sets_over {f : Fmt} {b : Brd} (hf : f.Ok) (hb : brdOk b = true) (h : (arisesV f b).2 = true) {k : Nat} {p : Pr} (hp : b.st[k]? = some p) : expT f (setV f (wonTo b.st k)) p.1 p.2 = some true ∧ overV f (wonTo b.st k) = false := by
  have hok := arises_ok (tb := tableV f) h
  have hk : k < b.st.length := (List.getElem?_eq_some_iff.1 hp).1
  have ho : ∀ j, j ≤ b.st.length → (setsTo (tableV f) f b.st j).ok = true := fun j hj => by
    cases e : (setsTo (tableV f) f b.st j).ok
    · rw [setsTo_stop e hj, e] at hok; cases hok
    · rfl
  have hpf := brd_fit hb p (by simp only [Brd.all]; exact List.mem_append_left _ (List.mem_of_getElem? hp))
  have hw := sets_won (tbOk_table f) hf hb hok k (by omega)
  have h1 := (step_is (tbOk_table f) hf hp (by omega) (ho k (by omega)) hw).1
  rw [ho (k + 1) (by omega)] at h1
  have h2 := h1.symm
  rw [Bool.and_eq_true, Bool.not_eq_true', decide_eq_true_eq] at h2
  exact ⟨h2.2, h2.1⟩
theorem over_sum {f : Fmt} {s : Pr} {a b : Int} (h : expT f s a b = some true) : 1 ≤ a + b := by
  unfold expT at h
  by_cases h0 : a = 0 ∧ b = 0
  · rw [if_pos h0] at h; cases h
  · rw [if_neg h0] at h
    by_cases h1 : OpenP f s (a - 1) b
    · unfold OpenP at h1; omega
    · rw [if_neg h1] at h
      by_cases h2 : OpenP f s a (b - 1)
      · unfold OpenP at h2; omega
      · rw [if_neg h2] at h; cases h
theorem numTo_bd {b : Brd} (hb : brdOk b = true) : ∀ k, k ≤ b.st.length → numTo b.st k ≤ 80 * k
  | 0, _ => Nat.zero_le _
  | k + 1, hk => by
    have ih := numTo_bd hb k (by omega)
    have hp : b.st[k]? = some b.st[k] := List.getElem?_eq_getElem (by omega)
    have hpf := brd_fit hb b.st[k] (by simp only [Brd.all]; exact List.mem_append_left _ (List.getElem_mem _))
    rw [numTo_succ hp]; omega
theorem encI_app' (xs : List Int) (x : Int) : encI (xs ++ [x]) = encI xs ++ [[.int .i64 x]] := by simp [encI]
theorem encI_rep' (xs : List Int) (j : Nat) : encI (xs ++ List.replicate (j + 1) 0) = encI (xs ++ List.replicate j 0) ++ [[.int .i64 0]] := by
  rw [List.replicate_succ', ← List.append_assoc, encI_app']
structure OZ where
  (k : Nat) (A : Option Addr) (c : Nat) (es : List Int)
structure OJ where
  (j : Nat) (A : Option Addr) (c : Nat)
theorem won_bd5 {b : Brd} (hb : brdOk b = true) (k : Nat) (hk : k ≤ b.st.length) : (0 ≤ (wonTo b.st k).1 ∧ (wonTo b.st k).1 ≤ 5) ∧ 0 ≤ (wonTo b.st k).2 ∧ (wonTo b.st k).2 ≤ 5 := by
  have h1 := wonTo_bd b.st k
  have h2 := brd_len hb
  omega
set_option maxRecDepth 100000 in
set_option maxHeartbeats 4000000 in
theorem C_balls_open (f : Fmt) (b : Brd) (hf : f.Ok) (hbd : Bdd f) (hb : brdOk b = true) (hari : (arisesV f b).2 = true) (A : Option Addr) (n c : Nat) (w : World) (h : Rd w A 2 n (encP b.st)) : C0 Try.prog 59 [f.val, b.val A n c] w (.tuple #[cv (restC f b), .bool (overV f (wonV b.st))]) := by
  have hlen : b.st.length = n := by have := h.len; simpa [encP] using this
  have hbl := brd_len hb
  have hbp := brd_fit hb b.p (by simp [Brd.all])
  have hbg := brd_fit hb b.g (by simp [Brd.all])
  have hs1 := hf.s1
  obtain ⟨-, hwo, hw3⟩ := arises_facts hf hb hari
  refine ⟨en Try.func59 Try.ntmps59 ((St.init w).share (e := .ro A 2 n (encP b.st)) h rfl rfl rfl) (h := fun F => ?_)⟩
  refine sq (h := ?_)
  refine rg (h := ?_)
  refine bxA (h := fun b0 => ?_)
  refine bxA (h := fun b1 => ?_)
  refine al (h := fun b2 => ?_)
  refine WL.y (hy := asg) (h := ?_)
  refine nl (h := ?_)
  refine q_seq (h := ?_)
  refine sq (h := ?_)
  refine rg (h := ?_)
  refine WL.y (hy := (by first | exact ldA | exact ldEA)) (h := ?_)
  refine mkm (h := fun b3 => ?_)
  refine WL.y (hy := bd) (h := ?_)
  refine al (h := fun b4 => ?_)
  first | refine stA (h := ?_) | refine stEA (h := ?_)
  refine nl (h := ?_)
  refine q_seq (h := ?_)
  refine sq (h := ?_)
  refine rg (h := ?_)
  refine al (h := fun b5 => ?_)
  refine nl (h := ?_)
  refine q_seq (h := ?_)
  refine sq (h := ?_)
  refine rg (h := ?_)
  refine WL.y (hy := asg) (h := ?_)
  refine nl (h := ?_)
  refine q_seq (h := ?_)
  refine sq (h := ?_)
  refine sq (h := ?_)
  refine WC.nilOwn 3 1 (h := ?_)
  refine rg (h := ?_)
  refine WL.y (hy := (by first | exact fa | exact faE)) (h := ?_)
  refine WL.y (hy := (by first | exact ld | exact ldE)) (h := ?_)
  refine WL.y (hy := lenS) (h := ?_)
  refine WL.y (hy := mv) (h := ?_)
  refine nl (h := ?_)
  refine q_seq (h := ?_)
  refine bk (h := ?_)
  refine lp (X := OZ) (I := fun z => z.k ≤ n ∧ z.es.length = numTo b.st z.k ∧ ∃ pre, z.es = pre ++ tailE b.st z.k) (le := fun z => [(2, .pointer (some ⟨b0, 0, none⟩)), (3, .pointer (some ⟨b1, 0, none⟩)), (4, .pointer (some ⟨b2, 0, none⟩)), (5, .bool false), (6, .pointer (some ⟨b4, 0, none⟩)), (7, .pointer (some ⟨b5, 0, none⟩)), (8, .slice z.A z.es.length z.c), (18, .slice A n c), (19, .int .i64 n), (20, .int .i64 z.k)]) (Le := fun z => [.own z.A z.c 3 1 z.es.length (encI z.es), .obj b3 (.map #[] 0), .blk b5 159 [.int .i64 (wonTo b.st z.k).1, .int .i64 (wonTo b.st z.k).2, .int .i64 0, .int .i64 0, .int .i64 0, .int .i64 0, .int .i64 0], .blk b4 156 (restc f b3), .blk b0 23 f.cells, .blk b1 28 (b.cells A n c), .blk b2 103 [.int .i64 0, .int .i64 0, .int .i64 0, .int .i64 0], .ro A 2 n (encP b.st)]) (μ := fun z => n - z.k) ⟨0, none, 0, []⟩ ⟨Nat.zero_le _, rfl, [], rfl⟩ (by repeat (first | exact trivial | refine ⟨rfl, ?_⟩)) (by repeat (first | exact SubL.nil | (apply SubL.cons; (repeat (first | exact At.here | apply At.there))) | exact SubL.refl _ | apply SubL.skip)) (fun z hz => ?_)
  obtain ⟨hzk, hze, hzt⟩ := hz
  refine sq (h := ?_)
  refine rg (h := ?_)
  refine WL.y (hy := lss) (h := ?_)
  refine nl (h := ?_)
  refine q_seq (h := ?_)
  refine sq (h := ?_)
  refine cd (by exact rfl) (fun h0 => ?_) (fun h0 => ?_)
  · skip
    obtain ⟨z, Az, cz, es⟩ := z
    dsimp only at *
    have hkn : z < n := by simp only [decide_eq_true_eq] at h0; omega
    obtain ⟨p, hp⟩ : ∃ p, b.st[z]? = some p := ⟨_, List.getElem?_eq_getElem (by omega)⟩
    have hpe := encP_at hp
    have hpf := brd_fit hb p (by simp only [Brd.all]; exact List.mem_append_left _ (List.mem_of_getElem? hp))
    obtain ⟨hov, hnv⟩ := sets_over hf hb hari hp
    have hps := over_sum hov
    have hnb := numTo_bd hb z (by omega)
    have hwb := won_bd5 hb z (by omega)
    have hw1 := wonTo_succ hp
    obtain ⟨N, hN⟩ : ∃ N : Nat, p.1 + p.2 = (N : Int) + 1 := ⟨(p.1 + p.2 - 1).toNat, by omega⟩
    have hn1 : numTo b.st (z + 1) = numTo b.st z + N + 1 := by rw [numTo_succ hp]; omega
    have hL9 : ((es ++ List.replicate N (0 : Int)) ++ [tlV p]).length = es.length + N + 1 := by simp only [List.length_append, List.length_replicate, List.length_cons, List.length_nil]
    refine skp (h := ?_)
    refine q_seq (h := ?_)
    refine sq (h := ?_)
    refine bk (h := ?_)
    refine sq (h := ?_)
    refine rg (h := ?_)
    refine WL.y (hy := ix (A := A) (m := n)) (h := ?_)
    refine WL.y (hy := ldEW (A := A) (hk := hpe)) (h := ?_)
    refine al (h := fun b6 => ?_)
    first | refine stA (h := ?_) | refine stEA (h := ?_)
    refine nl (h := ?_)
    refine q_seq (h := ?_)
    refine sq (h := ?_)
    refine sq (h := ?_)
    refine rg (h := ?_)
    refine WL.y (hy := (by first | exact fa | exact faE)) (h := ?_)
    refine WL.y (hy := (by first | exact ld | exact ldE)) (h := ?_)
    refine WL.y (hy := (by first | exact fa | exact faE)) (h := ?_)
    refine WL.y (hy := (by first | exact ld | exact ldE)) (h := ?_)
    refine WL.y (hy := addI) (h := ?_)
    refine WL.y (hy := subI) (h := ?_)
    refine WL.y (hy := mv) (h := ?_)
    refine nl (h := ?_)
    refine q_seq (h := ?_)
    refine bk (h := ?_)
    refine lp (X := OJ) (I := fun u => u.j ≤ N) (le := fun u => [(2, .pointer (some ⟨b0, 0, none⟩)), (3, .pointer (some ⟨b1, 0, none⟩)), (4, .pointer (some ⟨b2, 0, none⟩)), (5, .bool false), (6, .pointer (some ⟨b4, 0, none⟩)), (7, .pointer (some ⟨b5, 0, none⟩)), (8, .slice u.A (es.length + u.j) u.c), (10, .pointer (some ⟨b6, 0, none⟩)), (18, .slice A n c), (19, .int .i64 n), (20, .int .i64 z), (29, .int .i64 (p.1 + p.2 - 1)), (30, .int .i64 u.j)]) (Le := fun u => [.own u.A u.c 3 1 (es.length + u.j) (encI (es ++ List.replicate u.j 0)), .blk b6 26 [.int .i64 p.1, .int .i64 p.2], .obj b3 (.map #[] 0), .blk b5 159 [.int .i64 (wonTo b.st z).1, .int .i64 (wonTo b.st z).2, .int .i64 0, .int .i64 0, .int .i64 0, .int .i64 0, .int .i64 0], .blk b4 156 (restc f b3), .blk b0 23 f.cells, .blk b1 28 (b.cells A n c), .blk b2 103 [.int .i64 0, .int .i64 0, .int .i64 0, .int .i64 0], .ro A 2 n (encP b.st)]) (μ := fun u => N - u.j) ⟨0, Az, cz⟩ (Nat.zero_le _) (by repeat (first | exact trivial | refine ⟨rfl, ?_⟩)) (by dsimp only; rw [List.replicate_zero, List.append_nil]; repeat (first | exact SubL.nil | (apply SubL.cons; (repeat (first | exact At.here | apply At.there))) | exact SubL.refl _ | apply SubL.skip)) (fun u hu => ?_)
    have hu' := hu
    refine sq (h := ?_)
    refine rg (h := ?_)
    refine WL.y (hy := lss) (h := ?_)
    refine nl (h := ?_)
    refine q_seq (h := ?_)
    refine sq (h := ?_)
    refine cd (by exact rfl) (fun h1 => ?_) (fun h1 => ?_)
    · skip
      have hjn : u.j < N := by simp only [decide_eq_true_eq] at h1; omega
      refine skp (h := ?_)
      refine q_seq (h := ?_)
      refine sq (h := ?_)
      refine bk (h := ?_)
      refine rg (h := ?_)
      refine WL.y (hy := mv) (h := ?_)
      refine bs (h := fun b7 => ?_)
      refine ap (A := u.A) (h := fun A3 c3 => ?_)
      refine WL.y (hy := asg) (h := ?_)
      rw [← encI_rep']
      refine nl (h := ?_)
      refine q_blk_norm (h := ?_)
      refine q_seq (h := ?_)
      refine rg (h := ?_)
      refine WL.y (hy := addI) (h := ?_)
      refine WL.y (hy := mv) (h := ?_)
      refine nl (h := ?_)
      refine rn (x := u) ⟨u.j + 1, A3, c3⟩ (by dsimp only; omega) (by dsimp only; omega) (by repeat (first | exact trivial | refine ⟨rfl, ?_⟩)) (by repeat (first | exact SubL.nil | (apply SubL.cons; (repeat (first | exact At.here | apply At.there))) | exact SubL.refl _ | apply SubL.skip))
    · skip
      have hjn : u.j = N := by simp only [decide_eq_false_iff_not] at h1; omega
      rw [hjn]
      refine et (h := ?_)
      refine q_then_exit (h := ?_)
      refine q_then_exit (h := ?_)
      refine q_blk_hit (h := ?_)
      refine q_seq (h := ?_)
      refine sq (h := ?_)
      refine rg (h := ?_)
      refine WL.y (hy := asg) (h := ?_)
      refine nl (h := ?_)
      refine q_seq (h := ?_)
      refine ct (X := Unit) (fun _ => True) (fun _ => [(2, .pointer (some ⟨b0, 0, none⟩)), (3, .pointer (some ⟨b1, 0, none⟩)), (4, .pointer (some ⟨b2, 0, none⟩)), (5, .bool false), (6, .pointer (some ⟨b4, 0, none⟩)), (7, .pointer (some ⟨b5, 0, none⟩)), (8, .slice u.A (es.length + N) u.c), (10, .pointer (some ⟨b6, 0, none⟩)), (11, .int .i64 (tlV p)), (18, .slice A n c), (19, .int .i64 n), (20, .int .i64 z)]) (fun _ => [.own u.A u.c 3 1 (es.length + N) (encI (es ++ List.replicate N 0)), .blk b6 26 [.int .i64 p.1, .int .i64 p.2], .obj b3 (.map #[] 0), .blk b5 159 [.int .i64 (wonTo b.st z).1, .int .i64 (wonTo b.st z).2, .int .i64 0, .int .i64 0, .int .i64 0, .int .i64 0, .int .i64 0], .blk b4 156 (restc f b3), .blk b0 23 f.cells, .blk b1 28 (b.cells A n c), .blk b2 103 [.int .i64 0, .int .i64 0, .int .i64 0, .int .i64 0], .ro A 2 n (encP b.st)]) (h1 := ?_) (h2 := ?_)
      · skip
        refine sq (h := ?_)
        refine rg (h := ?_)
        refine WL.y (hy := (by first | exact fa | exact faE)) (h := ?_)
        refine WL.y (hy := (by first | exact ld | exact ldE)) (h := ?_)
        refine WL.y (hy := (by first | exact fa | exact faE)) (h := ?_)
        refine WL.y (hy := (by first | exact ld | exact ldE)) (h := ?_)
        refine WL.y (hy := subI) (h := ?_)
        refine WL.y (hy := eql) (h := ?_)
        refine WL.y (hy := mv) (h := ?_)
        apply brOr 7 42 49 (by exact rfl)
        · intro hb2
          refine un (h := ?_)
          refine WL.y (hy := (by first | exact fa | exact faE)) (h := ?_)
          refine un (h := ?_)
          refine WL.y (hy := (by first | exact ld | exact ldE)) (h := ?_)
          refine un (h := ?_)
          refine WL.y (hy := (by first | exact fa | exact faE)) (h := ?_)
          refine un (h := ?_)
          refine WL.y (hy := (by first | exact ld | exact ldE)) (h := ?_)
          refine un (h := ?_)
          refine WL.y (hy := subI) (h := ?_)
          refine un (h := ?_)
          refine WL.y (hy := eql) (h := ?_)
          refine WL.y (hy := (by first | exact pkT | exact pkF)) (h := ?_)
          exact mg (by repeat (first | exact trivial | refine ⟨rfl, ?_⟩ | refine ⟨by rw [hb2]; rfl, ?_⟩)) (by repeat (first | exact SubL.nil | (apply SubL.cons; (repeat (first | exact At.here | apply At.there))) | exact SubL.refl _ | apply SubL.skip))
        · intro hb2
          repeat (first | refine un (h := ?_) | refine sk (h := ?_) | refine WL.y (hy := pkF) (h := ?_) | refine WL.y (hy := pkT) (h := ?_))
          exact mg (by repeat (first | exact trivial | refine ⟨rfl, ?_⟩ | refine ⟨by rw [hb2]; rfl, ?_⟩)) (by repeat (first | exact SubL.nil | (apply SubL.cons; (repeat (first | exact At.here | apply At.there))) | exact SubL.refl _ | apply SubL.skip))
        refine nl (h := ?_)
        refine q_seq (h := ?_)
        refine cd (by exact rfl) (fun h3 => ?_) (fun h3 => ?_)
        · skip
          have htl : tlV p = 1 := by rw [tlV, tlB, h3]; rfl
          refine rg (h := ?_)
          refine WL.y (hy := asg) (h := ?_)
          refine nl (h := ?_)
          rw [htl]
          exact ctn () trivial (by repeat (first | exact trivial | refine ⟨rfl, ?_⟩)) (by repeat (first | exact SubL.nil | (apply SubL.cons; (repeat (first | exact At.here | apply At.there))) | exact SubL.refl _ | apply SubL.skip))
        · skip
          have htl : tlV p = 0 := by rw [tlV, tlB, h3]; rfl
          refine skp (h := ?_)
          rw [htl]
          exact ctn () trivial (by repeat (first | exact trivial | refine ⟨rfl, ?_⟩)) (by repeat (first | exact SubL.nil | (apply SubL.cons; (repeat (first | exact At.here | apply At.there))) | exact SubL.refl _ | apply SubL.skip))
      rintro ⟨⟩ -
      refine sq (h := ?_)
      refine rg (h := ?_)
      refine WL.y (hy := mv) (h := ?_)
      refine WL.y (hy := mv) (h := ?_)
      refine bs (h := fun b8 => ?_)
      refine ap (A := u.A) (h := fun A4 c4 => ?_)
      refine WL.y (hy := asg) (h := ?_)
      rw [← encI_app']
      refine nl (h := ?_)
      refine q_seq (h := ?_)
      refine sq (h := ?_)
      refine rg (h := ?_)
      refine WL.y (hy := (by first | exact fa | exact faE)) (h := ?_)
      refine WL.y (hy := (by first | exact ld | exact ldE)) (h := ?_)
      refine WL.y (hy := (by first | exact fa | exact faE)) (h := ?_)
      refine WL.y (hy := (by first | exact ld | exact ldE)) (h := ?_)
      refine WL.y (hy := gtr) (h := ?_)
      refine nl (h := ?_)
      refine q_seq (h := ?_)
      refine cd (by exact rfl) (fun h4 => ?_) (fun h4 => ?_)
      · skip
        have hwn : wonTo b.st (z + 1) = ((wonTo b.st z).1 + 1, (wonTo b.st z).2) := by rw [hw1, wside, h4]; rfl
        refine rg (h := ?_)
        refine WL.y (hy := (by first | exact fa | exact faE)) (h := ?_)
        refine WL.y (hy := (by first | exact fa | exact faE)) (h := ?_)
        refine WL.y (hy := (by first | exact ld | exact ldE)) (h := ?_)
        refine WL.y (hy := addI) (h := ?_)
        refine WL.y (hy := (by first | exact fa | exact faE)) (h := ?_)
        refine WL.y (hy := (by first | exact fa | exact faE)) (h := ?_)
        first | refine st (h := ?_) | refine stE (h := ?_)
        refine nl (h := ?_)
        refine q_blk_norm (h := ?_)
        refine q_seq (h := ?_)
        refine rg (h := ?_)
        refine WL.y (hy := addI) (h := ?_)
        refine WL.y (hy := mv) (h := ?_)
        refine nl (h := ?_)
        refine rn (X := OZ) (x := ⟨z, Az, cz, es⟩) ⟨z + 1, A4, c4, (es ++ List.replicate N 0) ++ [tlV p]⟩ ⟨by dsimp only; omega, by dsimp only; simp only [List.length_append, List.length_replicate, List.length_cons, List.length_nil]; omega, es ++ List.replicate N 0, by rw [tailE_succ hp]⟩ (by dsimp only; omega) (by dsimp only; rw [hL9]; repeat (first | exact trivial | refine ⟨rfl, ?_⟩)) (by dsimp only; rw [hL9, hwn]; repeat (first | exact SubL.nil | (apply SubL.cons; (repeat (first | exact At.here | apply At.there))) | exact SubL.refl _ | apply SubL.skip))
      · skip
        have hwn : wonTo b.st (z + 1) = ((wonTo b.st z).1, (wonTo b.st z).2 + 1) := by rw [hw1, wside, h4]; rfl
        refine rg (h := ?_)
        refine WL.y (hy := (by first | exact fa | exact faE)) (h := ?_)
        refine WL.y (hy := (by first | exact fa | exact faE)) (h := ?_)
        refine WL.y (hy := (by first | exact ld | exact ldE)) (h := ?_)
        refine WL.y (hy := addI) (h := ?_)
        refine WL.y (hy := (by first | exact fa | exact faE)) (h := ?_)
        refine WL.y (hy := (by first | exact fa | exact faE)) (h := ?_)
        first | refine st (h := ?_) | refine stE (h := ?_)
        refine nl (h := ?_)
        refine q_blk_norm (h := ?_)
        refine q_seq (h := ?_)
        refine rg (h := ?_)
        refine WL.y (hy := addI) (h := ?_)
        refine WL.y (hy := mv) (h := ?_)
        refine nl (h := ?_)
        refine rn (X := OZ) (x := ⟨z, Az, cz, es⟩) ⟨z + 1, A4, c4, (es ++ List.replicate N 0) ++ [tlV p]⟩ ⟨by dsimp only; omega, by dsimp only; simp only [List.length_append, List.length_replicate, List.length_cons, List.length_nil]; omega, es ++ List.replicate N 0, by rw [tailE_succ hp]⟩ (by dsimp only; omega) (by dsimp only; rw [hL9]; repeat (first | exact trivial | refine ⟨rfl, ?_⟩)) (by dsimp only; rw [hL9, hwn]; repeat (first | exact SubL.nil | (apply SubL.cons; (repeat (first | exact At.here | apply At.there))) | exact SubL.refl _ | apply SubL.skip))
  · skip
    have hkn : z.k = n := by simp only [decide_eq_false_iff_not] at h0; omega
    obtain ⟨z, Az, cz, es⟩ := z
    dsimp only at *
    have hkn2 := hkn.symm
    subst hkn2
    have hnb := numTo_bd hb n (by omega)
    have hwv : wonV b.st = wonTo b.st n := by rw [wonV, hlen]
    rw [← hwv]
    obtain ⟨G, hG⟩ : ∃ G : Nat, b.g.1 + b.g.2 = (G : Int) := ⟨(b.g.1 + b.g.2).toNat, by omega⟩
    refine et (h := ?_)
    refine q_then_exit (h := ?_)
    refine q_then_exit (h := ?_)
    refine q_blk_hit (h := ?_)
    refine q_seq (h := ?_)
    refine sq (h := ?_)
    refine sq (h := ?_)
    refine rg (h := ?_)
    refine WL.y (hy := (by first | exact fa | exact faE)) (h := ?_)
    refine WL.y (hy := (by first | exact fa | exact faE)) (h := ?_)
    refine WL.y (hy := (by first | exact ld | exact ldE)) (h := ?_)
    refine WL.y (hy := (by first | exact fa | exact faE)) (h := ?_)
    refine WL.y (hy := (by first | exact fa | exact faE)) (h := ?_)
    refine WL.y (hy := (by first | exact ld | exact ldE)) (h := ?_)
    refine WL.y (hy := maxI) (h := ?_)
    refine WL.y (hy := (by first | exact fa | exact faE)) (h := ?_)
    refine WL.y (hy := (by first | exact ld | exact ldE)) (h := ?_)
    refine WL.y (hy := eql) (h := ?_)
    refine nl (h := ?_)
    refine q_seq (h := ?_)
    refine cd (by exact rfl) (fun h5 => ?_) (fun h5 => ?_)
    · skip
      have hov : overV f (wonV b.st) = true := h5
      have hE : restC f b = zC := by rw [restC, hov]; rfl
      refine sq (h := ?_)
      refine rg (h := ?_)
      refine WL.y (hy := bd) (h := ?_)
      first | refine stA (h := ?_) | refine stEA (h := ?_)
      refine WL.y (hy := asg) (h := ?_)
      refine nl (h := ?_)
      refine q_seq (h := ?_)
      refine rtn (h := ?_)
      refine q_then_ret (h := ?_)
      refine q_ret (hR := ?_)
      rw [hE, hov]
      exact fun w hS => ⟨rfl, hS.sub (by repeat (first | exact SubL.nil | (apply SubL.cons; (repeat (first | exact At.here | apply At.there))) | exact SubL.refl _ | apply SubL.skip))⟩
    · skip
      have hov : overV f (wonV b.st) = false := h5
      obtain ⟨hop, hpt⟩ : OpenP f (setV f (wonV b.st)) b.g.1 b.g.2 ∧ arePts f (tiedV f b.st b.g) (setV f (wonV b.st)).2 b.p = true := by
        rcases hw3 with h3 | ⟨_, h4, h5⟩
        · rw [h3] at hov; cases hov
        · exact ⟨h4, h5⟩
      have hov2 := hov
      rw [over_won hwo, Bool.or_eq_false_iff, decide_eq_false_iff_not, decide_eq_false_iff_not] at hov2
      unfold WonOk at hwo
      have hV : Vs f (wonV b.st) b.g := ⟨by omega, hop⟩
      refine skp (h := ?_)
      refine q_seq (h := ?_)
      refine sq (h := ?_)
      refine sq (h := ?_)
      refine rg (h := ?_)
      refine WL.y (hy := (by first | exact fa | exact faE)) (h := ?_)
      refine WL.y (hy := (by first | exact fa | exact faE)) (h := ?_)
      refine WL.y (hy := (by first | exact ld | exact ldE)) (h := ?_)
      refine WL.y (hy := (by first | exact fa | exact faE)) (h := ?_)
      refine WL.y (hy := (by first | exact fa | exact faE)) (h := ?_)
      refine WL.y (hy := (by first | exact ld | exact ldE)) (h := ?_)
      refine WL.y (hy := addI) (h := ?_)
      refine WL.y (hy := mv) (h := ?_)
      refine nl (h := ?_)
      refine q_seq (h := ?_)
      refine bk (h := ?_)
      refine lp (X := OJ) (I := fun v => v.j ≤ G) (le := fun v => [(2, .pointer (some ⟨b0, 0, none⟩)), (3, .pointer (some ⟨b1, 0, none⟩)), (4, .pointer (some ⟨b2, 0, none⟩)), (5, .bool false), (6, .pointer (some ⟨b4, 0, none⟩)), (7, .pointer (some ⟨b5, 0, none⟩)), (8, .slice v.A (es.length + v.j) v.c), (89, .int .i64 (b.g.1 + b.g.2)), (90, .int .i64 v.j)]) (Le := fun v => [.own v.A v.c 3 1 (es.length + v.j) (encI (es ++ List.replicate v.j 0)), .obj b3 (.map #[] 0), .blk b5 159 [.int .i64 (wonV b.st).1, .int .i64 (wonV b.st).2, .int .i64 0, .int .i64 0, .int .i64 0, .int .i64 0, .int .i64 0], .blk b4 156 (restc f b3), .blk b0 23 f.cells, .blk b1 28 (b.cells A n c), .blk b2 103 [.int .i64 0, .int .i64 0, .int .i64 0, .int .i64 0], .ro A 2 n (encP b.st)]) (μ := fun v => G - v.j) ⟨0, Az, cz⟩ (Nat.zero_le _) (by repeat (first | exact trivial | refine ⟨rfl, ?_⟩)) (by dsimp only; rw [List.replicate_zero, List.append_nil]; repeat (first | exact SubL.nil | (apply SubL.cons; (repeat (first | exact At.here | apply At.there))) | exact SubL.refl _ | apply SubL.skip)) (fun v hv => ?_)
      have hv' := hv
      refine sq (h := ?_)
      refine rg (h := ?_)
      refine WL.y (hy := lss) (h := ?_)
      refine nl (h := ?_)
      refine q_seq (h := ?_)
      refine sq (h := ?_)
      refine cd (by exact rfl) (fun h6 => ?_) (fun h6 => ?_)
      · skip
        have hjn : v.j < G := by simp only [decide_eq_true_eq] at h6; omega
        refine skp (h := ?_)
        refine q_seq (h := ?_)
        refine sq (h := ?_)
        refine bk (h := ?_)
        refine rg (h := ?_)
        refine WL.y (hy := mv) (h := ?_)
        refine bs (h := fun b9 => ?_)
        refine ap (A := v.A) (h := fun A5 c5 => ?_)
        refine WL.y (hy := asg) (h := ?_)
        rw [← encI_rep']
        refine nl (h := ?_)
        refine q_blk_norm (h := ?_)
        refine q_seq (h := ?_)
        refine rg (h := ?_)
        refine WL.y (hy := addI) (h := ?_)
        refine WL.y (hy := mv) (h := ?_)
        refine nl (h := ?_)
        refine rn (x := v) ⟨v.j + 1, A5, c5⟩ (by dsimp only; omega) (by dsimp only; omega) (by repeat (first | exact trivial | refine ⟨rfl, ?_⟩)) (by repeat (first | exact SubL.nil | (apply SubL.cons; (repeat (first | exact At.here | apply At.there))) | exact SubL.refl _ | apply SubL.skip))
      · skip
        have hjn : v.j = G := by simp only [decide_eq_false_iff_not] at h6; omega
        rw [hjn]
        have hnv : numV b = ((es.length + G : Nat) : Int) := by rw [numV, hlen, hG, hze]; omega
        have hnl : ((es ++ List.replicate G 0).length : Int) = numV b := by rw [List.length_append, List.length_replicate, hnv]
        have hel : (es ++ List.replicate G 0).length = es.length + G := by rw [List.length_append, List.length_replicate]
        refine et (h := ?_)
        refine q_then_exit (h := ?_)
        refine q_then_exit (h := ?_)
        refine q_blk_hit (h := ?_)
        refine q_seq (h := ?_)
        refine sq (h := ?_)
        refine rg (h := ?_)
        refine WL.y (hy := (by first | exact fa | exact faE)) (h := ?_)
        refine WL.y (hy := (by first | exact ldA | exact ldEA)) (h := ?_)
        refine WL.y (hy := mv) (h := ?_)
        refine WL.y (hy := lenS) (h := ?_)
        refine WL.y (hy := (by first | exact fa | exact faE)) (h := ?_)
        first | refine stA (h := ?_) | refine stEA (h := ?_)
        refine WL.y (hy := (by first | exact fa | exact faE)) (h := ?_)
        first | refine st (h := ?_) | refine stE (h := ?_)
        rw [← hnv]
        refine nl (h := ?_)
        refine q_seq (h := ?_)
        refine sq (h := ?_)
        refine rg (h := ?_)
        refine WL.y (hy := (by first | exact ldA | exact ldEA)) (h := ?_)
        refine WL.y (hy := (by first | exact fa | exact faE)) (h := ?_)
        refine WL.y (hy := (by first | exact ldA | exact ldEA)) (h := ?_)
        refine WL.y (hy := (by first | exact fa | exact faE)) (h := ?_)
        refine WL.y (hy := (by first | exact ldA | exact ldEA)) (h := ?_)
        refine cl0 (hc := fun w hS => C_rest_tie f b3 (wonV b.st) b.g hf w) (h := ?_)
        refine WL.y (hy := (by first | exact fa | exact faE)) (h := ?_)
        refine WL.y (hy := ixA) (h := ?_)
        first | refine st (h := ?_) | refine stE (h := ?_)
        refine nl (h := ?_)
        refine q_seq (h := ?_)
        refine ct (X := Unit) (fun _ => True) (fun _ => [(2, .pointer (some ⟨b0, 0, none⟩)), (3, .pointer (some ⟨b1, 0, none⟩)), (4, .pointer (some ⟨b2, 0, none⟩)), (5, .bool false), (6, .pointer (some ⟨b4, 0, none⟩)), (7, .pointer (some ⟨b5, 0, none⟩))]) (fun _ => [.obj b3 (.map #[] 0), .blk b5 159 [.int .i64 (wonV b.st).1, .int .i64 (wonV b.st).2, .int .i64 b.g.1, .int .i64 b.g.2, .int .i64 (numV b), .int .i64 (tieN f (wonV b.st) b.g), .int .i64 (t1V b)], .blk b4 156 (restc f b3), .blk b0 23 f.cells, .blk b1 28 (b.cells A n c), .blk b2 103 [.int .i64 0, .int .i64 0, .int .i64 0, .int .i64 0], .ro A 2 n (encP b.st)]) (h1 := ?_) (h2 := ?_)
        · skip
          refine sq (h := ?_)
          refine rg (h := ?_)
          refine WL.y (hy := (by first | exact fa | exact faE)) (h := ?_)
          refine WL.y (hy := (by first | exact ld | exact ldE)) (h := ?_)
          refine WL.y (hy := gtr) (h := ?_)
          refine nl (h := ?_)
          refine q_seq (h := ?_)
          refine cd (by exact rfl) (fun h7 => ?_) (fun h7 => ?_)
          · skip
            have hpos : 0 < numV b := of_decide_eq_true h7
            have hlast : (es ++ List.replicate G 0)[(numV b - 1).toNat]? = some (t1V b) := by
              obtain ⟨pre, hpre⟩ := hzt
              rw [show (numV b - 1).toNat = es.length + G - 1 by omega, t1V, hG]
              cases hGc : G with
              | zero =>
                rw [hpre, hlen]
                rcases Nat.eq_zero_or_pos n with hn0 | hn0
                · have h9 : es.length = 0 := by rw [hze, hn0]; rfl
                  omega
                · obtain ⟨z', hz'⟩ : ∃ z', n = z' + 1 := ⟨n - 1, by omega⟩
                  have hp' : b.st[z']? = some (b.st[z']'(by omega)) := List.getElem?_eq_getElem (by omega)
                  rw [hz', tailE_succ hp', List.replicate_zero, List.append_nil]
                  simp
              | succ G' =>
                rw [List.getElem?_append_right (by omega), List.getElem?_replicate, if_pos (by omega), decide_eq_true (by omega)]; rfl
            have hle9 := encI_at hlast
            refine rg (h := ?_)
            refine WL.y (hy := mv) (h := ?_)
            refine WL.y (hy := (by first | exact fa | exact faE)) (h := ?_)
            refine WL.y (hy := (by first | exact ld | exact ldE)) (h := ?_)
            refine WL.y (hy := subI) (h := ?_)
            refine WL.y (hy := ix (A := v.A) (m := es.length + G) (hb := by omega)) (h := ?_)
            refine WL.y (hy := ldE (A := v.A) (hk := hle9)) (h := ?_)
            refine WL.y (hy := (by first | exact fa | exact faE)) (h := ?_)
            refine WL.y (hy := ixA) (h := ?_)
            first | refine st (h := ?_) | refine stE (h := ?_)
            refine nl (h := ?_)
            first | exact ctn () trivial (by repeat (first | exact trivial | refine ⟨rfl, ?_⟩)) (by rw [ht0]; repeat (first | exact SubL.nil | (apply SubL.cons; (repeat (first | exact At.here | apply At.there))) | exact SubL.refl _ | apply SubL.skip)) | exact ctn () trivial (by repeat (first | exact trivial | refine ⟨rfl, ?_⟩)) (by repeat (first | exact SubL.nil | (apply SubL.cons; (repeat (first | exact At.here | apply At.there))) | exact SubL.refl _ | apply SubL.skip))
          · skip
            have hz0 : ¬ 0 < numV b := of_decide_eq_false h7
            have ht0 : t1V b = 0 := by
              obtain ⟨pre, hpre⟩ := hzt
              rw [t1V]
              cases hc : decide (0 < b.g.1 + b.g.2)
              · rw [cond_false, hlen]
                have he : es = [] := List.eq_nil_of_length_eq_zero (by omega)
                rw [he] at hpre
                have := (List.append_eq_nil_iff.1 hpre.symm).2
                rw [this]; rfl
              · rfl
            refine skp (h := ?_)
            first | exact ctn () trivial (by repeat (first | exact trivial | refine ⟨rfl, ?_⟩)) (by rw [ht0]; repeat (first | exact SubL.nil | (apply SubL.cons; (repeat (first | exact At.here | apply At.there))) | exact SubL.refl _ | apply SubL.skip)) | exact ctn () trivial (by repeat (first | exact trivial | refine ⟨rfl, ?_⟩)) (by repeat (first | exact SubL.nil | (apply SubL.cons; (repeat (first | exact At.here | apply At.there))) | exact SubL.refl _ | apply SubL.skip))
        rintro ⟨⟩ -
        refine sq (h := ?_)
        refine rg (h := ?_)
        refine WL.y (hy := (by first | exact ldA | exact ldEA)) (h := ?_)
        refine WL.y (hy := (by first | exact ldA | exact ldEA)) (h := ?_)
        refine clT (hc := fromB_all f hf hbd 200 ⟨wonV b.st, b.g, numV b, tieN f (wonV b.st) b.g, t1V b⟩ [] #[] 0 b3 hV rfl (by show remV f (wonV b.st) b.g < _; have := rem_le hf hV; omega) ⟨by show 0 ≤ numV b; omega, by show numV b + remV f (wonV b.st) b.g ≤ 1000; have := rem_le hf hV; omega⟩ mapIs0 (good_nil f)) (h := fun x hx => ?_)
        dsimp only
        obtain ⟨r, hr⟩ : ∃ r, r = fromP f (wonV b.st) b.g (numV b) (t1V b) := ⟨_, rfl⟩
        have hrb := csb_P (n := numV b) (t1 := t1V b) hf hV
        rw [← hr] at hrb ⊢
        unfold CsB at hrb
        first | refine stA (h := ?_) | refine stEA (h := ?_)
        refine nl (h := ?_)
        refine q_seq (h := ?_)
        refine sq (h := ?_)
        refine sq (h := ?_)
        refine rg (h := ?_)
        refine WL.y (hy := (by first | exact ldA | exact ldEA)) (h := ?_)
        refine cl0 (hc := fun w hS => C_balls_begun _ _ _ _ w) (h := ?_)
        refine WL.y (hy := mv) (h := ?_)
        refine WL.y (hy := ex) (h := ?_)
        refine WL.y (hy := ex) (h := ?_)
        refine WL.y (hy := asg) (h := ?_)
        refine WL.y (hy := asg) (h := ?_)
        refine nl (h := ?_)
        refine q_seq (h := ?_)
        refine sq (h := ?_)
        refine rg (h := ?_)
        refine WL.y (hy := mv) (h := ?_)
        refine WL.y (hy := notB) (h := ?_)
        refine nl (h := ?_)
        refine q_seq (h := ?_)
        refine cd (by exact rfl) (fun h8 => ?_) (fun h8 => ?_)
        · skip
          have hz : (isZ b.g && isZ b.p) = true := by
            have h' : (!(!isZ b.g || !isZ b.p)) = true := h8
            cases h1 : isZ b.g <;> cases h2 : isZ b.p <;> rw [h1, h2] at h' <;> first | rfl | cases h'
          have hE : restC f b = bumpC r false true := by rw [restC, hov, cond_false, hz, ← hr]
          refine rg (h := ?_)
          refine WL.y (hy := (by first | exact fa | exact faE)) (h := ?_)
          refine WL.y (hy := (by first | exact fa | exact faE)) (h := ?_)
          refine WL.y (hy := (by first | exact ld | exact ldE)) (h := ?_)
          refine WL.y (hy := addI) (h := ?_)
          refine WL.y (hy := (by first | exact fa | exact faE)) (h := ?_)
          refine WL.y (hy := (by first | exact fa | exact faE)) (h := ?_)
          refine WL.y (hy := (by first | exact ld | exact ldE)) (h := ?_)
          refine WL.y (hy := addI) (h := ?_)
          refine WL.y (hy := bd) (h := ?_)
          refine WL.y (hy := (by first | exact fa | exact faE)) (h := ?_)
          first | refine stA (h := ?_) | refine stEA (h := ?_)
          refine nl (h := ?_)
          refine q_seq (h := ?_)
          refine sq (h := ?_)
          refine rg (h := ?_)
          refine WL.y (hy := (by first | exact ldA | exact ldEA)) (h := ?_)
          first | refine stA (h := ?_) | refine stEA (h := ?_)
          refine WL.y (hy := asg) (h := ?_)
          refine nl (h := ?_)
          refine q_seq (h := ?_)
          refine rtn (h := ?_)
          refine q_ret (hR := ?_)
          rw [hE, hov, bumpC, show bz false = 0 from rfl, show bz true = 1 from rfl, Int.add_zero, Int.add_zero]
          exact fun w hS => ⟨rfl, hS.sub (by repeat (first | exact SubL.nil | (apply SubL.cons; (repeat (first | exact At.here | apply At.there))) | exact SubL.refl _ | apply SubL.skip))⟩
        · skip
          have hz : (isZ b.g && isZ b.p) = false := by
            have h' : (!(!isZ b.g || !isZ b.p)) = false := h8
            cases h1 : isZ b.g <;> cases h2 : isZ b.p <;> rw [h1, h2] at h' <;> first | rfl | cases h'
          have hE : restC f b = bumpC r false false := by rw [restC, hov, cond_false, hz, ← hr]
          refine skp (h := ?_)
          refine q_seq (h := ?_)
          refine sq (h := ?_)
          refine rg (h := ?_)
          refine WL.y (hy := (by first | exact ldA | exact ldEA)) (h := ?_)
          first | refine stA (h := ?_) | refine stEA (h := ?_)
          refine WL.y (hy := asg) (h := ?_)
          refine nl (h := ?_)
          refine q_seq (h := ?_)
          refine rtn (h := ?_)
          refine q_ret (hR := ?_)
          rw [hE, hov, bumpC, show bz false = 0 from rfl, Int.add_zero, Int.add_zero, Int.add_zero, Int.add_zero]
          exact fun w hS => ⟨rfl, hS.sub (by repeat (first | exact SubL.nil | (apply SubL.cons; (repeat (first | exact At.here | apply At.there))) | exact SubL.refl _ | apply SubL.skip))⟩
end Go.Proofs.Ytacaojifempclaa

namespace Go.Proofs.Ytacaojifempclaa
open Go Go.RowKit

def shortV (f : Fmt) : Int := bif decide ((ruleV f (decide (f.sets = 1))).1 = 0) then 1 else max 2 f.games
def fewV (f : Fmt) : Int := bif decide ((ruleV f (decide (f.sets = 1))).1 = 0) then max (ruleV f (decide (f.sets = 1))).2 2 else 4 * max 2 f.games
def highV (f : Fmt) : Int := bif decide (0 ≤ f.ltie) && (decide (f.sets = 1) || decide (0 ≤ f.tie)) then (2 * f.sets - 2) * (2 * f.tie + 1) + 2 * f.ltie + 1 else -1
theorem ext_form {f : Fmt} {s : Pr} (ht : TieOk f s) : extV f s = ⟨bif decide (s.1 = 0) then 1 else max f.games 2, bif decide (0 ≤ s.1) then 2 * s.1 + 1 else -1, bif decide (s.1 = 0) then max s.2 2 else 4 * max f.games 2⟩ := by
  unfold extV
  unfold TieOk at ht
  by_cases h0 : s.1 = 0
  · rw [decide_eq_true h0, h0]; rfl
  · rw [decide_eq_false h0]
    by_cases h1 : s.1 = -1
    · rw [decide_eq_true h1, decide_eq_false (show ¬ 0 ≤ s.1 by omega)]; rfl
    · rw [decide_eq_false h1, decide_eq_true (show 0 ≤ s.1 by omega)]; rfl
theorem range_ref {f : Fmt} (hf : f.Ok) : rangeE f = ⟨f.sets * shortV f, highV f, f.sets * fewV f⟩ := by
  have ht : TieOk f (f.tie, f.to) := ⟨hf.g0, hf.t⟩
  have hl : TieOk f (f.ltie, f.lto) := ⟨hf.g0, hf.lt⟩
  unfold rangeE
  by_cases h1 : f.sets = 1
  · rw [decide_eq_true h1, cond_true, lastE, ext_form hl, shortV, fewV, highV, decide_eq_true h1, h1]
    simp only [ruleV, cond_true, Bool.true_or, Bool.and_true, Int.one_mul]
    rw [Int.max_comm f.games 2, show (2 * 1 - 2 : Int) = 0 by rfl, Int.zero_mul, Int.zero_add]
    rfl
  · rw [decide_eq_false h1, cond_false, lastE, eachE, ext_form hl, ext_form ht, shortV, fewV, highV, decide_eq_false h1]
    simp only [ruleV, cond_false, Bool.false_or]
    rw [Int.max_comm f.games 2]
    by_cases a : 0 ≤ f.ltie
    · by_cases b : 0 ≤ f.tie
      · simp only [decide_eq_true a, decide_eq_true b, cond_true, Bool.true_and]
        rw [decide_eq_true (show (0 : Int) ≤ 2 * f.ltie + 1 by omega), decide_eq_true (show (0 : Int) ≤ 2 * f.tie + 1 by omega)]
        simp only [Bool.and_self, cond_true, Int.add_assoc]
        rfl
      · simp only [decide_eq_true a, decide_eq_false b, cond_true, cond_false, Bool.and_false]
        rw [show decide ((0 : Int) ≤ -1) = false from rfl, Bool.and_false]
        rfl
    · simp only [decide_eq_false a, cond_false, Bool.false_and]
      rfl
theorem bdd_high {f : Fmt} (hf : f.Ok) (h : ¬ (rangeE f).high < 0) : Bdd f ∧ (rangeE f).high = (2 * f.sets - 2) * (2 * f.tie + 1) + 2 * f.ltie + 1 := by
  rw [range_ref hf] at h ⊢
  dsimp only at h ⊢
  unfold highV at *
  cases hc : decide (0 ≤ f.ltie) && (decide (f.sets = 1) || decide (0 ≤ f.tie))
  · rw [hc] at h; exact absurd (show (-1 : Int) < 0 by decide) h
  · rw [Bool.and_eq_true, Bool.or_eq_true, decide_eq_true_eq, decide_eq_true_eq, decide_eq_true_eq] at hc
    exact ⟨hc, rfl⟩
theorem C_ref1_Range (f : Fmt) (w : World) : C0 Try.prog 60 [f.val] w (.tuple (rangeR f).toArray) := by
  refine ⟨en Try.func60 Try.ntmps60 (St.init w) (h := fun F => ?_)⟩
  refine sq (h := ?_)
  refine rg (h := ?_)
  refine bxA (h := fun b0 => ?_)
  refine al (h := fun b1 => ?_)
  refine WL.y (hy := asg) (h := ?_)
  refine WL.y (hy := asg) (h := ?_)
  refine nl (h := ?_)
  refine q_seq (h := ?_)
  refine sq (h := ?_)
  refine sq (h := ?_)
  refine rg (h := ?_)
  refine WL.y (hy := (by first | exact ldA | exact ldEA)) (h := ?_)
  refine cl0 (hc := fun w hS => C_ref1_Check _ w) (h := ?_)
  refine WL.y (hy := neq) (h := ?_)
  refine nl (h := ?_)
  refine q_seq (h := ?_)
  refine cd (by exact rfl) (fun h0 => ?_) (fun h0 => ?_)
  · skip
    have h' : decide (chkF f = 0) = false := by simpa using h0
    have hck : (!decide (chkF f = 0)) = true := h0
    have hR : rangeR f = [.agg #[.int .i64 0, .int .i64 0], .int .i64 0, .int .i64 10] := by rw [rangeR, h', chk_bad hck]; rfl
    refine sq (h := ?_)
    refine rg (h := ?_)
    refine WL.y (hy := bd) (h := ?_)
    first | refine stA (h := ?_) | refine stEA (h := ?_)
    refine WL.y (hy := asg) (h := ?_)
    refine WL.y (hy := asg) (h := ?_)
    refine nl (h := ?_)
    refine q_seq (h := ?_)
    refine rtn (h := ?_)
    refine q_then_ret (h := ?_)
    refine q_ret (hR := ?_)
    rw [hR]
    exact fun w hS => ⟨rfl, hS.sub (by repeat (first | exact SubL.nil | (apply SubL.cons; (repeat (first | exact At.here | apply At.there))) | exact SubL.refl _ | apply SubL.skip))⟩
  · skip
    have hf := chkF_ok h0
    have hc : decide (chkF f = 0) = true := by simpa using h0
    have hR0 : rangeR f = [.agg #[.int .i64 (f.sets * shortV f), .int .i64 (highV f)], .int .i64 (f.sets * fewV f), .int .i64 0] := by rw [rangeR, hc, range_ref hf]; rfl
    have hs0 := hf.s0
    have hs1 := hf.s1
    have hg0 := hf.g0
    have hg1 := hf.g1
    have ho := hf.o1
    have hlo := hf.l1
    have ho0 := hf.o0
    have hlo0 := hf.l0
    have ht := hf.t
    have hlt := hf.lt
    have hrb : 1 ≤ (ruleV f (decide (f.sets = 1))).2 ∧ (ruleV f (decide (f.sets = 1))).2 ≤ 15 := by unfold ruleV; cases decide (f.sets = 1) <;> simp only [cond_true, cond_false] <;> omega
    have hsv : f.sets = 1 ∨ f.sets = 2 ∨ f.sets = 3 := by omega
    have hsh : 1 ≤ shortV f ∧ shortV f ≤ 8 := by unfold shortV; cases decide ((ruleV f (decide (f.sets = 1))).1 = 0) <;> simp only [cond_true, cond_false] <;> omega
    have hfw : 1 ≤ fewV f ∧ fewV f ≤ 32 := by unfold fewV; cases decide ((ruleV f (decide (f.sets = 1))).1 = 0) <;> simp only [cond_true, cond_false] <;> omega
    have m1 : -1000 ≤ f.sets * shortV f ∧ f.sets * shortV f ≤ 1000 := by rcases hsv with e | e | e <;> rw [e] <;> omega
    have m2 : -1000 ≤ f.sets * fewV f ∧ f.sets * fewV f ≤ 1000 := by rcases hsv with e | e | e <;> rw [e] <;> omega
    have m3 : -1000 ≤ (2 * f.sets - 2) * (2 * f.tie + 1) ∧ (2 * f.sets - 2) * (2 * f.tie + 1) ≤ 1000 := by rcases hsv with e | e | e <;> rw [e] <;> omega
    refine skp (h := ?_)
    refine q_seq (h := ?_)
    refine sq (h := ?_)
    refine rg (h := ?_)
    refine WL.y (hy := (by first | exact fa | exact faE)) (h := ?_)
    refine WL.y (hy := (by first | exact ld | exact ldE)) (h := ?_)
    refine WL.y (hy := eql) (h := ?_)
    refine WL.y (hy := asg) (h := ?_)
    refine nl (h := ?_)
    refine q_seq (h := ?_)
    refine sq (h := ?_)
    refine rg (h := ?_)
    refine WL.y (hy := (by first | exact ldA | exact ldEA)) (h := ?_)
    refine WL.y (hy := mv) (h := ?_)
    refine cl0 (hc := fun w hS => C_ref1_Rule f _ w) (h := ?_)
    refine WL.y (hy := mv) (h := ?_)
    refine WL.y (hy := ex) (h := ?_)
    refine WL.y (hy := ex) (h := ?_)
    refine WL.y (hy := asg) (h := ?_)
    refine WL.y (hy := asg) (h := ?_)
    refine nl (h := ?_)
    refine q_seq (h := ?_)
    refine sq (h := ?_)
    refine rgD0 (by kernel_rfl) (h := ?_)
    refine tk 0 (hy := (by first | exact fa | exact faE)) (h := ?_)
    refine tk 1 (hy := (by first | exact ld | exact ldE)) (h := ?_)
    refine tk 2 (hy := maxI) (h := ?_)
    refine tk 3 (hy := (by first | exact fa | exact faE)) (h := ?_)
    refine tk 4 (hy := (by first | exact ld | exact ldE)) (h := ?_)
    refine tk 5 (hy := maxI) (h := ?_)
    refine tk 6 (hy := mulI) (h := ?_)
    refine tk 7 (hy := asg) (h := ?_)
    refine tk 8 (hy := asg) (h := ?_)
    refine dn (h := ?_)
    refine q_seq (h := ?_)
    refine ct (X := Unit) (fun _ => True) (fun _ => [(1, .pointer (some ⟨b0, 0, none⟩)), (2, .pointer (some ⟨b1, 0, none⟩)), (3, .int .i64 0), (4, .int .i64 0), (5, .bool (decide (f.sets = 1))), (8, .int .i64 (shortV f)), (9, .int .i64 (fewV f))]) (fun _ => [.blk b1 39 [.int .i64 0, .int .i64 0], .blk b0 23 f.cells]) (h1 := ?_) (h2 := ?_)
    · skip
      refine sq (h := ?_)
      refine rg (h := ?_)
      refine WL.y (hy := mv) (h := ?_)
      refine WL.y (hy := eql) (h := ?_)
      refine nl (h := ?_)
      refine q_seq (h := ?_)
      refine cd (by exact rfl) (fun h1 => ?_) (fun h1 => ?_)
      · skip
        have k1 : shortV f = 1 := by rw [shortV, h1]; rfl
        have k2 : fewV f = max (ruleV f (decide (f.sets = 1))).2 2 := by rw [fewV, h1]; rfl
        refine rg (h := ?_)
        refine WL.y (hy := mv) (h := ?_)
        refine WL.y (hy := maxI) (h := ?_)
        refine WL.y (hy := asg) (h := ?_)
        refine WL.y (hy := asg) (h := ?_)
        refine nl (h := ?_)
        rw [k1, k2]
        exact ctn () trivial (by repeat (first | exact trivial | refine ⟨rfl, ?_⟩)) (by repeat (first | exact SubL.nil | (apply SubL.cons; (repeat (first | exact At.here | apply At.there))) | exact SubL.refl _ | apply SubL.skip))
      · skip
        have k1 : shortV f = max 2 f.games := by rw [shortV, h1]; rfl
        have k2 : fewV f = 4 * max 2 f.games := by rw [fewV, h1]; rfl
        refine skp (h := ?_)
        rw [k1, k2]
        exact ctn () trivial (by repeat (first | exact trivial | refine ⟨rfl, ?_⟩)) (by repeat (first | exact SubL.nil | (apply SubL.cons; (repeat (first | exact At.here | apply At.there))) | exact SubL.refl _ | apply SubL.skip))
    rintro ⟨⟩ -
    refine sq (h := ?_)
    refine rg (h := ?_)
    refine WL.y (hy := (by first | exact fa | exact faE)) (h := ?_)
    refine WL.y (hy := (by first | exact ld | exact ldE)) (h := ?_)
    refine WL.y (hy := mv) (h := ?_)
    refine WL.y (hy := mulI (a := f.sets) (b := shortV f) (hb := by omega)) (h := ?_)
    refine WL.y (hy := bd) (h := ?_)
    first | refine stA (h := ?_) | refine stEA (h := ?_)
    refine nl (h := ?_)
    refine q_seq (h := ?_)
    refine ct (X := Unit) (fun _ => True) (fun _ => [(1, .pointer (some ⟨b0, 0, none⟩)), (2, .pointer (some ⟨b1, 0, none⟩)), (3, .int .i64 0), (4, .int .i64 0), (9, .int .i64 (fewV f))]) (fun _ => [.blk b1 39 [.int .i64 (f.sets * shortV f), .int .i64 (highV f)], .blk b0 23 f.cells]) (h1 := ?_) (h2 := ?_)
    · skip
      refine sq (h := ?_)
      refine rg (h := ?_)
      refine WL.y (hy := (by first | exact fa | exact faE)) (h := ?_)
      refine WL.y (hy := (by first | exact ld | exact ldE)) (h := ?_)
      refine WL.y (hy := geq) (h := ?_)
      refine WL.y (hy := mv) (h := ?_)
      apply brAnd 7 42 49 (by exact rfl)
      · intro hb2
        refine un (h := ?_)
        refine WL.y (hy := mv) (h := ?_)
        refine un (h := ?_)
        refine WL.y (hy := mv) (h := ?_)
        apply brOr 4 44 48 (by exact rfl)
        · intro hb3
          refine un (h := ?_)
          refine WL.y (hy := (by first | exact fa | exact faE)) (h := ?_)
          refine un (h := ?_)
          refine WL.y (hy := (by first | exact ld | exact ldE)) (h := ?_)
          refine un (h := ?_)
          refine WL.y (hy := geq) (h := ?_)
          refine un (h := ?_)
          refine WL.y (hy := (by first | exact pkT | exact pkF)) (h := ?_)
          exact mg (by repeat (first | exact trivial | refine ⟨rfl, ?_⟩ | refine ⟨by rw [hb3]; rfl, ?_⟩ | refine ⟨by rw [hb2]; rfl, ?_⟩)) (by repeat (first | exact SubL.nil | (apply SubL.cons; (repeat (first | exact At.here | apply At.there))) | exact SubL.refl _ | apply SubL.skip))
        · intro hb3
          repeat (first | refine un (h := ?_) | refine sk (h := ?_) | refine WL.y (hy := pkF) (h := ?_) | refine WL.y (hy := pkT) (h := ?_))
          exact mg (by repeat (first | exact trivial | refine ⟨rfl, ?_⟩ | refine ⟨by rw [hb3]; rfl, ?_⟩ | refine ⟨by rw [hb2]; rfl, ?_⟩)) (by repeat (first | exact SubL.nil | (apply SubL.cons; (repeat (first | exact At.here | apply At.there))) | exact SubL.refl _ | apply SubL.skip))
        refine WL.y (hy := (by first | exact pkT | exact pkF)) (h := ?_)
        exact mg (by repeat (first | exact trivial | refine ⟨rfl, ?_⟩ | refine ⟨by rw [hb2]; rfl, ?_⟩)) (by repeat (first | exact SubL.nil | (apply SubL.cons; (repeat (first | exact At.here | apply At.there))) | exact SubL.refl _ | apply SubL.skip))
      · intro hb2
        repeat (first | refine un (h := ?_) | refine sk (h := ?_) | refine WL.y (hy := pkF) (h := ?_) | refine WL.y (hy := pkT) (h := ?_))
        exact mg (by repeat (first | exact trivial | refine ⟨rfl, ?_⟩ | refine ⟨by rw [hb2]; rfl, ?_⟩)) (by repeat (first | exact SubL.nil | (apply SubL.cons; (repeat (first | exact At.here | apply At.there))) | exact SubL.refl _ | apply SubL.skip))
      refine nl (h := ?_)
      refine q_seq (h := ?_)
      refine cd (by exact rfl) (fun h4 => ?_) (fun h4 => ?_)
      · skip
        have k3 : highV f = (2 * f.sets - 2) * (2 * f.tie + 1) + 2 * f.ltie + 1 := by rw [highV, h4]; rfl
        refine rg (h := ?_)
        refine WL.y (hy := (by first | exact fa | exact faE)) (h := ?_)
        refine WL.y (hy := (by first | exact ld | exact ldE)) (h := ?_)
        refine WL.y (hy := mulI) (h := ?_)
        refine WL.y (hy := subI) (h := ?_)
        refine WL.y (hy := (by first | exact fa | exact faE)) (h := ?_)
        refine WL.y (hy := (by first | exact ld | exact ldE)) (h := ?_)
        refine WL.y (hy := mulI) (h := ?_)
        refine WL.y (hy := addI) (h := ?_)
        refine WL.y (hy := mulI (a := 2 * f.sets - 2) (b := 2 * f.tie + 1) (hb := by omega)) (h := ?_)
        refine WL.y (hy := (by first | exact fa | exact faE)) (h := ?_)
        refine WL.y (hy := (by first | exact ld | exact ldE)) (h := ?_)
        refine WL.y (hy := mulI) (h := ?_)
        refine WL.y (hy := addI) (h := ?_)
        refine WL.y (hy := addI) (h := ?_)
        refine WL.y (hy := (by first | exact fa | exact faE)) (h := ?_)
        first | refine st (h := ?_) | refine stE (h := ?_)
        refine nl (h := ?_)
        rw [k3]
        exact ctn () trivial (by repeat (first | exact trivial | refine ⟨rfl, ?_⟩)) (by repeat (first | exact SubL.nil | (apply SubL.cons; (repeat (first | exact At.here | apply At.there))) | exact SubL.refl _ | apply SubL.skip))
      · skip
        have k3 : highV f = -1 := by rw [highV, h4]; rfl
        refine skp (h := ?_)
        rw [k3]
        exact ctn () trivial (by repeat (first | exact trivial | refine ⟨rfl, ?_⟩)) (by repeat (first | exact SubL.nil | (apply SubL.cons; (repeat (first | exact At.here | apply At.there))) | exact SubL.refl _ | apply SubL.skip))
    rintro ⟨⟩ -
    have hR := hR0
    refine sq (h := ?_)
    refine rgD (by kernel_rfl) [(1000000, .blk b0 23 f.cells), (5, .blk b1 39 _)] (by repeat (first | exact HS.nil | (apply HS.keep; (repeat (first | exact At.here | apply At.there))) | (apply HS.ro; (repeat (first | exact Rds.ro | exact Rds.own | apply Rds.there))))) (h := ?_)
    refine tk 0 (hy := (by first | exact ldA | exact ldEA)) (h := ?_)
    refine tk 1 (hy := (by first | exact fa | exact faE)) (h := ?_)
    refine tk 2 (hy := (by first | exact ld | exact ldE)) (h := ?_)
    refine tk 3 (hy := mv) (h := ?_)
    refine tk 4 (hy := mulI (a := f.sets) (b := fewV f) (hb := by omega)) (h := ?_)
    refine one 5 (h := ?_)
    first | refine stA (h := ?_) | refine stEA (h := ?_)
    refine nx (h := ?_)
    refine tk 6 (hy := asg) (h := ?_)
    refine tk 7 (hy := asg) (h := ?_)
    refine dn (h := ?_)
    refine q_seq (h := ?_)
    refine rtn (h := ?_)
    refine q_ret (hR := ?_)
    rw [hR]
    exact fun w hS => ⟨rfl, hS.sub (by repeat (first | exact SubL.nil | (apply SubL.cons; (repeat (first | exact At.here | apply At.there))) | exact SubL.refl _ | apply SubL.skip))⟩

def checkE (f : Fmt) (b : Brd) : Int := bif !decide (chkF f = 0) then chkF f else bif !brdOk b then 12 else bif !(arisesV f b).2 then 12 else bif decide ((rangeE f).high < 0) then 3 else 0
theorem check_form (f : Fmt) (b : Brd) : ∃ (is : Bool) (e : Int), arisesR f b = [.bool is, .int .i64 e] ∧ checkE f b = (bif !decide (e = 0) then e else bif !is then 12 else bif decide ((rangeE f).high < 0) then 3 else 0) ∧ (e = 0 → (!decide (chkF f = 0)) = false ∧ brdOk b = true ∧ (arisesV f b).2 = is) := by
  unfold arisesR checkE
  cases hc : !decide (chkF f = 0)
  · cases hb : brdOk b
    · exact ⟨false, 12, rfl, rfl, fun e => by cases e⟩
    · exact ⟨_, 0, rfl, rfl, fun _ => ⟨rfl, rfl, rfl⟩⟩
  · have h10 := chk_bad hc
    refine ⟨false, chkF f, rfl, by rw [h10]; rfl, fun e => by rw [h10] at e; cases e⟩
theorem check_ok {f : Fmt} {b : Brd} (h : checkE f b = 0) : f.Ok ∧ brdOk b = true ∧ (arisesV f b).2 = true ∧ ¬ (rangeE f).high < 0 := by
  obtain ⟨is, e, -, h1, h2⟩ := check_form f b
  rw [h1] at h
  cases he : !decide (e = 0)
  · obtain ⟨a1, a2, a3⟩ := h2 (by simpa using he)
    rw [he, cond_false] at h
    cases his : is
    · rw [his] at h; cases h
    · rw [his] at h a3
      cases hh : decide ((rangeE f).high < 0)
      · exact ⟨chkF_ok a1, a2, a3, of_decide_eq_false hh⟩
      · rw [hh] at h; cases h
  · rw [he, cond_true] at h
    rw [h] at he; cases he
theorem rangeR_ok {f : Fmt} (h : (!decide (chkF f = 0)) = false) : rangeR f = [.agg #[.int .i64 (rangeE f).low, .int .i64 (rangeE f).high], .int .i64 (rangeE f).pts, .int .i64 0] := by
  have hc : decide (chkF f = 0) = true := by simpa using h
  rw [rangeR, hc]; rfl
theorem C_balls_check (f : Fmt) (b : Brd) (A : Option Addr) (n c : Nat) (w : World) (h : Rd w A 2 n (encP b.st)) (hn : n ≤ 9223372036854775807) : C0 Try.prog 58 [f.val, b.val A n c] w (.int .i64 (checkE f b)) := by
  obtain ⟨is, e, hA, hL, hfa⟩ := check_form f b
  refine ⟨en Try.func58 Try.ntmps58 ((St.init w).share (e := .ro A 2 n (encP b.st)) h rfl rfl rfl) (h := fun F => ?_)⟩
  refine sq (h := ?_)
  refine rg (h := ?_)
  refine bxA (h := fun b0 => ?_)
  refine bxA (h := fun b1 => ?_)
  refine WL.y (hy := asg) (h := ?_)
  refine nl (h := ?_)
  refine q_seq (h := ?_)
  refine sq (h := ?_)
  refine rg (h := ?_)
  refine WL.y (hy := (by first | exact ldA | exact ldEA)) (h := ?_)
  refine WL.y (hy := (by first | exact ldA | exact ldEA)) (h := ?_)
  refine cl0 (hc := fun w hS => C_score_Arises f b A n c w (hS.get (by repeat (first | exact Rds.ro | exact Rds.own | apply Rds.there))) hn) (h := ?_)
  rw [hA]
  refine WL.y (hy := mv) (h := ?_)
  refine WL.y (hy := ex) (h := ?_)
  refine WL.y (hy := ex) (h := ?_)
  refine WL.y (hy := asg) (h := ?_)
  refine WL.y (hy := asg) (h := ?_)
  refine nl (h := ?_)
  refine q_seq (h := ?_)
  refine sq (h := ?_)
  refine sq (h := ?_)
  refine rg (h := ?_)
  refine WL.y (hy := mv) (h := ?_)
  refine WL.y (hy := neq) (h := ?_)
  refine nl (h := ?_)
  refine q_seq (h := ?_)
  refine cd (by exact rfl) (fun h0 => ?_) (fun h0 => ?_)
  · skip
    have hE : checkE f b = e := by rw [hL, h0]; rfl
    refine sq (h := ?_)
    refine rg (h := ?_)
    refine WL.y (hy := mv) (h := ?_)
    refine WL.y (hy := asg) (h := ?_)
    refine nl (h := ?_)
    refine q_seq (h := ?_)
    refine rtn (h := ?_)
    refine q_then_ret (h := ?_)
    refine q_ret (hR := ?_)
    rw [hE]
    exact fun w hS => ⟨rfl, hS.sub (by repeat (first | exact SubL.nil | (apply SubL.cons; (repeat (first | exact At.here | apply At.there))) | exact SubL.refl _ | apply SubL.skip))⟩
  · skip
    have he0 : e = 0 := by simpa using h0
    obtain ⟨hck, hbo, hari⟩ := hfa he0
    rw [h0, cond_false] at hL
    refine skp (h := ?_)
    refine q_seq (h := ?_)
    refine sq (h := ?_)
    refine sq (h := ?_)
    refine rg (h := ?_)
    refine WL.y (hy := mv) (h := ?_)
    refine WL.y (hy := notB) (h := ?_)
    refine nl (h := ?_)
    refine q_seq (h := ?_)
    refine cd (by exact rfl) (fun h1 => ?_) (fun h1 => ?_)
    · skip
      have hE : checkE f b = 12 := by rw [hL, h1]; rfl
      refine sq (h := ?_)
      refine rg (h := ?_)
      refine WL.y (hy := asg) (h := ?_)
      refine nl (h := ?_)
      refine q_seq (h := ?_)
      refine rtn (h := ?_)
      refine q_then_ret (h := ?_)
      refine q_ret (hR := ?_)
      rw [hE]
      exact fun w hS => ⟨rfl, hS.sub (by repeat (first | exact SubL.nil | (apply SubL.cons; (repeat (first | exact At.here | apply At.there))) | exact SubL.refl _ | apply SubL.skip))⟩
    · skip
      rw [h1, cond_false] at hL
      refine skp (h := ?_)
      refine q_seq (h := ?_)
      refine sq (h := ?_)
      refine sq (h := ?_)
      refine rg (h := ?_)
      refine WL.y (hy := (by first | exact ldA | exact ldEA)) (h := ?_)
      refine cl0 (hc := fun w hS => C_score_Range f w) (h := ?_)
      rw [rangeR_ok hck]
      refine WL.y (hy := mv) (h := ?_)
      refine WL.y (hy := ex) (h := ?_)
      refine WL.y (hy := ex) (h := ?_)
      refine WL.y (hy := ex) (h := ?_)
      refine al (h := fun b2 => ?_)
      first | refine stA (h := ?_) | refine stEA (h := ?_)
      refine WL.y (hy := asg) (h := ?_)
      refine WL.y (hy := asg) (h := ?_)
      refine nl (h := ?_)
      refine q_seq (h := ?_)
      refine sq (h := ?_)
      refine rg (h := ?_)
      refine WL.y (hy := (by first | exact fa | exact faE)) (h := ?_)
      refine WL.y (hy := (by first | exact ld | exact ldE)) (h := ?_)
      refine WL.y (hy := lss) (h := ?_)
      refine nl (h := ?_)
      refine q_seq (h := ?_)
      refine cd (by exact rfl) (fun h2 => ?_) (fun h2 => ?_)
      · skip
        have hE : checkE f b = 3 := by rw [hL, h2]; rfl
        refine sq (h := ?_)
        refine rg (h := ?_)
        refine WL.y (hy := asg) (h := ?_)
        refine nl (h := ?_)
        refine q_seq (h := ?_)
        refine rtn (h := ?_)
        refine q_then_ret (h := ?_)
        refine q_ret (hR := ?_)
        rw [hE]
        exact fun w hS => ⟨rfl, hS.sub (by repeat (first | exact SubL.nil | (apply SubL.cons; (repeat (first | exact At.here | apply At.there))) | exact SubL.refl _ | apply SubL.skip))⟩
      · skip
        have hE : checkE f b = 0 := by rw [hL, h2]; rfl
        refine skp (h := ?_)
        refine q_seq (h := ?_)
        refine sq (h := ?_)
        refine rg (h := ?_)
        refine WL.y (hy := asg) (h := ?_)
        refine nl (h := ?_)
        refine q_seq (h := ?_)
        refine rtn (h := ?_)
        refine q_ret (hR := ?_)
        rw [hE]
        exact fun w hS => ⟨rfl, hS.sub (by repeat (first | exact SubL.nil | (apply SubL.cons; (repeat (first | exact At.here | apply At.there))) | exact SubL.refl _ | apply SubL.skip))⟩
def restR (f : Fmt) (b : Brd) : List Value := bif !decide (checkE f b = 0) then [pv (0, 0), pv (0, 0), .int .i64 (checkE f b)] else [pv (restC f b).1, pv (restC f b).2, .int .i64 0]
theorem C_balls_Rest (f : Fmt) (b : Brd) (A : Option Addr) (n c : Nat) (w : World) (h : Rd w A 2 n (encP b.st)) (hn : n ≤ 9223372036854775807) : C0 Try.prog 18 [f.val, b.val A n c] w (.tuple (restR f b).toArray) := by
  refine ⟨en Try.func18 Try.ntmps18 ((St.init w).share (e := .ro A 2 n (encP b.st)) h rfl rfl rfl) (h := fun F => ?_)⟩
  refine sq (h := ?_)
  refine rg (h := ?_)
  refine bxA (h := fun b0 => ?_)
  refine bxA (h := fun b1 => ?_)
  refine al (h := fun b2 => ?_)
  refine al (h := fun b3 => ?_)
  refine WL.y (hy := asg) (h := ?_)
  refine nl (h := ?_)
  refine q_seq (h := ?_)
  refine sq (h := ?_)
  refine sq (h := ?_)
  refine rg (h := ?_)
  refine WL.y (hy := (by first | exact ldA | exact ldEA)) (h := ?_)
  refine WL.y (hy := (by first | exact ldA | exact ldEA)) (h := ?_)
  refine cl0 (hc := fun w hS => C_balls_check _ _ _ _ _ w (hS.get (by repeat (first | exact Rds.ro | exact Rds.own | apply Rds.there))) (by omega)) (h := ?_)
  refine WL.y (hy := asg) (h := ?_)
  refine nl (h := ?_)
  refine q_seq (h := ?_)
  refine sq (h := ?_)
  refine rg (h := ?_)
  refine WL.y (hy := mv) (h := ?_)
  refine WL.y (hy := neq) (h := ?_)
  refine nl (h := ?_)
  refine q_seq (h := ?_)
  refine cd (by exact rfl) (fun h0 => ?_) (fun h0 => ?_)
  · skip
    have hE : restR f b = [pv (0, 0), pv (0, 0), .int .i64 (checkE f b)] := by rw [restR, h0]; rfl
    refine sq (h := ?_)
    refine rg (h := ?_)
    refine WL.y (hy := bd) (h := ?_)
    refine WL.y (hy := bd) (h := ?_)
    refine WL.y (hy := mv) (h := ?_)
    first | refine stA (h := ?_) | refine stEA (h := ?_)
    first | refine stA (h := ?_) | refine stEA (h := ?_)
    refine WL.y (hy := asg) (h := ?_)
    refine nl (h := ?_)
    refine q_seq (h := ?_)
    refine rtn (h := ?_)
    refine q_then_ret (h := ?_)
    refine q_ret (hR := ?_)
    rw [hE]
    exact fun w hS => ⟨rfl, hS.sub (by repeat (first | exact SubL.nil | (apply SubL.cons; (repeat (first | exact At.here | apply At.there))) | exact SubL.refl _ | apply SubL.skip))⟩
  · skip
    have hE : restR f b = [pv (restC f b).1, pv (restC f b).2, .int .i64 0] := by rw [restR, h0]; rfl
    obtain ⟨hf, hbo, hari, hhi⟩ := check_ok (by simpa using h0)
    refine skp (h := ?_)
    refine q_seq (h := ?_)
    refine sq (h := ?_)
    refine rg (h := ?_)
    refine WL.y (hy := (by first | exact ldA | exact ldEA)) (h := ?_)
    refine WL.y (hy := (by first | exact ldA | exact ldEA)) (h := ?_)
    refine cl0 (hc := fun w hS => C_balls_open f b hf (bdd_high hf hhi).1 hbo hari A n c w (hS.get (by repeat (first | exact Rds.ro | exact Rds.own | apply Rds.there)))) (h := ?_)
    refine WL.y (hy := mv) (h := ?_)
    refine WL.y (hy := ex) (h := ?_)
    refine WL.y (hy := ex) (h := ?_)
    refine al (h := fun b4 => ?_)
    first | refine stA (h := ?_) | refine stEA (h := ?_)
    refine WL.y (hy := asg) (h := ?_)
    refine nl (h := ?_)
    refine q_seq (h := ?_)
    refine sq (h := ?_)
    refine rgD (by kernel_rfl) [(1000000, .blk b4 103 (ccs (restC f b))), (4, .blk b2 39 [.int .i64 0, .int .i64 0]), (5, .blk b3 39 [.int .i64 0, .int .i64 0])] (by repeat (first | exact HS.nil | (apply HS.keep; (repeat (first | exact At.here | apply At.there))) | (apply HS.ro; (repeat (first | exact Rds.ro | exact Rds.own | apply Rds.there))))) (h := ?_)
    refine tk 0 (hy := (by first | exact fa | exact faE)) (h := ?_)
    refine tk 1 (hy := (by first | exact ldA | exact ldEA)) (h := ?_)
    refine tk 2 (hy := (by first | exact fa | exact faE)) (h := ?_)
    refine tk 3 (hy := (by first | exact ldA | exact ldEA)) (h := ?_)
    refine one 4 (h := ?_)
    first | refine stA (h := ?_) | refine stEA (h := ?_)
    refine nx (h := ?_)
    refine one 5 (h := ?_)
    first | refine stA (h := ?_) | refine stEA (h := ?_)
    refine nx (h := ?_)
    refine tk 6 (hy := asg) (h := ?_)
    refine dn (h := ?_)
    refine q_seq (h := ?_)
    refine rtn (h := ?_)
    refine q_ret (hR := ?_)
    rw [hE]
    exact fun w hS => ⟨rfl, hS.sub (by repeat (first | exact SubL.nil | (apply SubL.cons; (repeat (first | exact At.here | apply At.there))) | exact SubL.refl _ | apply SubL.skip))⟩
end Go.Proofs.Ytacaojifempclaa

namespace Go.Proofs.Ytacaojifempclaa
open Go Go.RowKit

end Go.Proofs.Ytacaojifempclaa

namespace Go.Proofs.Ytacaojifempclaa
open Go Go.RowKit

section
variable {f : Fmt} {B : Int} {j u v x S G : Nat}
end
end Go.Proofs.Ytacaojifempclaa

namespace Go.Proofs.Ytacaojifempclaa
open Go Go.RowKit

section
variable {f : Fmt} {b : Brd}
end
end Go.Proofs.Ytacaojifempclaa

namespace Go.Proofs.Ytacaojifempclaa
open Go Go.RowKit

section
variable {F : Fence} {P : Program} {ops : Array Oper} {Q : Exit → Act → World → Prop} {rest : List Oper} {n : Nat} {D : List Deferred} {l : Env} {w0 : World} {L M : List Ent}
variable {d : Nat} {ty : TypeId} {pos : String} {aft : Array Edge}

theorem Spl.thr {L Lp R : List Ent} {e : Ent} (h : Spl L Lp R) : Spl (e :: L) Lp (e :: R) := by
  induction h with
  | nil => exact .nil
  | cons h _ ih => exact .cons (.there h) ih
theorem ldP {x : Operand} {t : TypeId} {size bytes : Nat} {z : Value} {zl : List Value} (hT : Ty P t true size bytes z zl := by infer_instance) {b o : Nat} {T : TypeId} {cs vs : List Value}
    (hx : ev l x = some (.pointer (some ⟨b, o, none⟩)) := by exact rfl) (ha : At L (.blk b T cs) M := by repeat (first | exact At.here | apply At.there))
    (hl : vs.length = size := by rfl) (hc : ∀ j v, vs[j]? = some v → cs[o + j]? = some v) : Yd P n D l w0 L (.load t x) (.agg vs.toArray) :=
  ⟨by simp, by simp, fun oo ho ac w hfr hst => by
    have hcell : ∀ j v, vs[j]? = some v → w.cell? ((⟨b, o, none⟩ : Addr).add j) = some v := fun j v hj => by
      rw [add_lit, hst.cell ha]; exact hc j v hj
    simp [execOp, ho, hfr.eval hx, Instr.loadAt, Instr.sureAddr, run_loadVarA hT hl hcell]⟩
theorem ldW {x : Operand} {t : TypeId} {size bytes : Nat} {z : Value} {zl : List Value} (hT : Ty P t true size bytes z zl := by infer_instance) {b : Nat} {T : TypeId} {cs : List Value}
    (hx : ev l x = some (.pointer (some ⟨b, 0, none⟩)) := by exact rfl) (ha : At L (.blk b T cs) M := by repeat (first | exact At.here | apply At.there))
    (hl : cs.length = size := by rfl) : Yd P n D l w0 L (.load t x) (.agg cs.toArray) :=
  ldP hT hx ha hl fun j v hj => by rw [Nat.zero_add]; exact hj
theorem stP {x y : Operand} {t : TypeId} {size bytes : Nat} {z : Value} {zl : List Value} (hT : Ty P t true size bytes z zl := by infer_instance) {b o : Nat} {T : TypeId} {cs vs : List Value}
    (hx : ev l x = some (.pointer (some ⟨b, o, none⟩)) := by exact rfl) (hy : ev l y = some (.agg vs.toArray) := by exact rfl) (h1 : ∀ v ∈ vs, v.oneCell' = true) (hsz : vs.length = size)
    (ha : At L (.blk b T cs) M := by repeat (first | exact At.here | apply At.there)) (ho : o + vs.length ≤ cs.length)
    (h : WL F P ops Q rest n D l w0 (.blk b T (putAll cs o vs) :: M)) : WL F P ops Q (⟨none, .store t x y, ty, pos, aft, none⟩ :: rest) n D l w0 L :=
  WL.skipop (by simp) (fun ac w hfr hst => by
    obtain ⟨w', hr, hs⟩ := run_storeCells (P := P) vs cs o 0 w (hst.pull ha) (fun _ => by omega) h1
    rw [Nat.add_zero] at hs
    refine ⟨w', ?_, hs⟩
    simp [execOp, hfr.eval hx, hfr.eval hy, Instr.storeAt, Instr.sureAddr, storeVar, run_sizeOf hT, Value.cells, hsz, hr]) h
theorem stW {x y : Operand} {t : TypeId} {size bytes : Nat} {z : Value} {zl : List Value} (hT : Ty P t true size bytes z zl := by infer_instance) {b : Nat} {T : TypeId} {cs vs : List Value}
    (hx : ev l x = some (.pointer (some ⟨b, 0, none⟩)) := by exact rfl) (hy : ev l y = some (.agg vs.toArray) := by exact rfl) (h1 : ∀ v ∈ vs, v.oneCell' = true) (hsz : vs.length = size)
    (ha : At L (.blk b T cs) M := by repeat (first | exact At.here | apply At.there)) (ho : cs.length = vs.length)
    (h : WL F P ops Q rest n D l w0 (.blk b T vs :: M)) : WL F P ops Q (⟨none, .store t x y, ty, pos, aft, none⟩ :: rest) n D l w0 L :=
  stP hT hx hy h1 hsz ha (by omega) (by rw [putAll_whole vs cs ho]; exact h)
def numE (N : Nat) (F : Nat → Int) : List Value := (List.range N).map fun i => .int .i64 (F i)
theorem numE_len (N : Nat) (F : Nat → Int) : (numE N F).length = N := by simp [numE]
theorem numE_at {N : Nat} {F : Nat → Int} {o : Nat} (h : o < N) : (numE N F)[o]? = some (.int .i64 (F o)) := by
  rw [numE, List.getElem?_map, List.getElem?_range h]; rfl
theorem numE_one {N : Nat} {F : Nat → Int} : ∀ v ∈ numE N F, v.oneCell' = true := fun v hv => by
  obtain ⟨i, _, rfl⟩ := List.mem_map.1 hv
  rfl
theorem numE_set {N : Nat} (F : Nat → Int) (o : Nat) (v : Int) : (numE N F).set o (.int .i64 v) = numE N (fun i => if i = o then v else F i) := by
  refine List.ext_getElem (by simp [numE_len]) fun k h1 h2 => ?_
  rw [List.getElem_set]
  simp only [numE, List.getElem_map, List.getElem_range]
  by_cases e : o = k
  · rw [if_pos e, if_pos e.symm]
  · rw [if_neg e, if_neg (fun x => e x.symm)]
theorem numE_congr {N : Nat} {F G : Nat → Int} (h : ∀ i, i < N → F i = G i) : numE N F = numE N G := by
  unfold numE
  exact List.map_congr_left fun i hi => by rw [h i (List.mem_range.1 hi)]
theorem WL.blkTo {b : Nat} {T : TypeId} {cs : List Value} (cs' : List Value) (ha : At L (.blk b T cs) M) (he : cs = cs') (h : WL F P ops Q rest n D l w0 (.blk b T cs' :: M)) : WL F P ops Q rest n D l w0 L := fun hF a w hfr hst => h hF a w hfr (by
  subst he
  exact hst.sub (.cons ha (SubL.refl _)))
theorem Tk.all {α : Type} : ∀ cs : List α, Tk cs 0 cs.length cs
  | [] => .nil
  | _ :: cs => .cons (Tk.all cs)
theorem tk_num (N : Nat) (F : Nat → Int) : Tk (numE N F) 0 N (numE N F) := by
  have := Tk.all (numE N F)
  rwa [numE_len] at this
theorem ixv {x i : Operand} {t e : TypeId} {len size bytes : Nat} {z : Value} {zl : List Value} {k : IntKind} {j : Int} {cs : List Value} (hT : ArrayTy P t len e := by infer_instance) (hE : Ty P e true size bytes z zl := by infer_instance)
    (hx : ev l x = some (.agg cs.toArray) := by exact rfl) (hi : ev l i = some (.int k j) := by exact rfl) (hb : 0 ≤ j ∧ j < len := by omega) : Yd P n D l w0 L (.index t x i) (.agg ((cs.drop (j.toNat * size)).take size).toArray) :=
  ⟨by simp, by simp, fun oo ho ac w hfr hst => by
    simp [execOp, ho, hfr.eval hx, hfr.eval hi, Instr.index, asIntOf, run_underlying hT.und, hb, run_sizeOf hE, part, run_isAgg hE, List.extract_toArray]⟩
theorem slA {x : Operand} {t e : TypeId} {len size bytes b o : Nat} {agg : Bool} {z : Value} {zl : List Value} (hT : ArrayTy P t len e := by infer_instance) (hE : Ty P e agg size bytes z zl := by infer_instance) {lo : Option Operand} (lo' : Nat)
    (hx : ev l x = some (.pointer (some ⟨b, o, none⟩)) := by exact rfl) (hl : lo = none ∧ lo' = 0 ∨ ∃ y k i, lo = some y ∧ ev l y = some (.int k i) ∧ 0 ≤ i ∧ i ≤ len ∧ lo' = i.toNat) (hne : lo' ≠ len) : Yd P n D l w0 L (.slice t x lo none none) (.slice (some ⟨b, o + lo' * size, none⟩) (len - lo') (len - lo')) :=
  ⟨by simp, by simp, fun oo ho ac w hfr hst => by
    rcases hl with ⟨rfl, rfl⟩ | ⟨y, k, i, rfl, h1, h2, h3, rfl⟩
    · simp [execOp, ho, hfr.eval hx, Instr.sliceAt, Instr.sureAddr, run_underlying hT.und, Instr.sliceBounds, run_sizeOf hE, Addr.add]
    · simp [execOp, ho, hfr.eval hx, hfr.eval h1, Instr.sliceAt, Instr.sureAddr, run_underlying hT.und, Instr.sliceBounds, run_sizeOf hE, sliceBound_ok (P := P) ⟨h2, h3⟩]
      rw [if_neg (fun h => hne h.symm), add_lit]⟩
theorem rd_blkA {w : World} {b o : Nat} {T : TypeId} {cs : List Value} (h : (Ent.blk b T cs).ok w) {size m : Nat} {es : List (List Value)} (hl : es.length = m) (he : ∀ c ∈ es, c.length = size) (ho : ∀ c ∈ es, ∀ v ∈ c, v.oneCell' = true)
    (hc : ∀ k c, es[k]? = some c → ∀ j v, c[j]? = some v → cs[o + (k * size + j)]? = some v) : Rd w (some ⟨b, o, none⟩) size m es := by
  refine ⟨hl, he, fun _ => ⟨_, rfl⟩, fun ad ha k c hk j v hj => ?_, ho⟩
  cases ha
  rw [add_lit, cell_of_row w b _ _ T (0, 0) h]
  simpa using hc k c hk j v hj
end
end Go.Proofs.Ytacaojifempclaa

namespace Go.Proofs.Ytacaojifempclaa
open Go Go.RowKit

structure Fx where
  (day : Int) (f : Fmt) (b : Brd) (A : Option Addr) (c : Nat)
abbrev Fx.enc (x : Fx) : List Value := [.int .i64 x.day, .int .i64 x.f.sets, .int .i64 x.f.games, .bool x.f.noAd, .int .i64 x.f.tie, .int .i64 x.f.to, .int .i64 x.f.ltie, .int .i64 x.f.lto, .int .i64 x.f.first, .int .i64 x.f.thn, .bool x.f.dbl, .slice x.A x.b.st.length x.c, .int .i64 x.b.g.1, .int .i64 x.b.g.2, .int .i64 x.b.p.1, .int .i64 x.b.p.2]
abbrev Fx.val (x : Fx) : Value := .agg #[.int .i64 x.day, .int .i64 x.f.sets, .int .i64 x.f.games, .bool x.f.noAd, .int .i64 x.f.tie, .int .i64 x.f.to, .int .i64 x.f.ltie, .int .i64 x.f.lto, .int .i64 x.f.first, .int .i64 x.f.thn, .bool x.f.dbl, .slice x.A x.b.st.length x.c, .int .i64 x.b.g.1, .int .i64 x.b.g.2, .int .i64 x.b.p.1, .int .i64 x.b.p.2]
structure Fx.ok (x : Fx) (w : World) : Prop where
  r : Rd w x.A 2 x.b.st.length (encP x.b.st)
  n : x.b.st.length ≤ x.c
  c : x.c ≤ 9223372036854775807
structure Cx where
  (day item count : Int)
abbrev Cx.enc (x : Cx) : List Value := [.int .i64 x.day, .int .i64 x.item, .int .i64 x.count]
structure Dp where
  (each tow fra : Int) (st : List Int) (fx : List Fx) (cr : List Cx)
structure DA where
  (sA fA cA : Option Addr) (sc fc cc : Nat)
abbrev Dp.cells (d : Dp) (a : DA) : List Value := [.int .i64 d.each, .int .i64 d.tow, .int .i64 d.fra, .slice a.sA d.st.length a.sc, .slice a.fA d.fx.length a.fc, .slice a.cA d.cr.length a.cc]
abbrev Dp.val (d : Dp) (a : DA) : Value := .agg #[.int .i64 d.each, .int .i64 d.tow, .int .i64 d.fra, .slice a.sA d.st.length a.sc, .slice a.fA d.fx.length a.fc, .slice a.cA d.cr.length a.cc]
structure DpR (w : World) (d : Dp) (a : DA) : Prop where
  s : Rd w a.sA 1 d.st.length (encI d.st)
  f : Rd w a.fA 16 d.fx.length (d.fx.map Fx.enc)
  c : Rd w a.cA 3 d.cr.length (d.cr.map Cx.enc)
  x : ∀ y ∈ d.fx, y.ok w
  sc : d.st.length ≤ 9223372036854775807
  fc : d.fx.length ≤ 9223372036854775807
  cc : d.cr.length ≤ 9223372036854775807
def kitB (d : Dp) : Bool := wi d.each 0 20 && wi d.tow 0 20 && wi d.fra 0 20
def lenB (d : Dp) : Bool := !(!decide ((d.st.length : Int) = 3) || decide (30 < (d.fx.length : Int)) || decide (30 < (d.cr.length : Int)))
def stB (d : Dp) : Bool := d.st.all fun n => wi n 0 99999
def fxOk (x : Fx) : Bool := !(!wi x.day 0 60 || !decide (checkE x.f x.b = 0))
def fxB (d : Dp) : Bool := d.fx.all fxOk
def crOk (c : Cx) : Bool := !(!wi c.day 0 60 || !wi c.item 0 2 || !wi c.count 0 99999)
def crB (d : Dp) : Bool := d.cr.all crOk
def depOk (d : Dp) : Bool := kitB d && lenB d && stB d && fxB d && crB d
def depE (d : Dp) : Int := bif depOk d then 0 else 90
section
variable {d : Dp}
theorem dep_kit (h : kitB d = false) : depE d = 90 := by rw [depE, depOk, h]; rfl
theorem dep_len (h : lenB d = false) : depE d = 90 := by rw [depE, depOk, h, Bool.and_false]; rfl
theorem dep_st (h : stB d = false) : depE d = 90 := by rw [depE, depOk, h, Bool.and_false]; rfl
theorem dep_fx (h : fxB d = false) : depE d = 90 := by rw [depE, depOk, h, Bool.and_false]; rfl
theorem dep_cr (h : crB d = false) : depE d = 90 := by rw [depE, depOk, h, Bool.and_false]; rfl
theorem dep_yes (h1 : kitB d = true) (h2 : lenB d = true) (h3 : stB d = true) (h4 : fxB d = true) (h5 : crB d = true) : depE d = 0 := by rw [depE, depOk, h1, h2, h3, h4, h5]; rfl
theorem dep_ok (h : depE d = 0) : depOk d = true := by
  unfold depE at h
  cases e : depOk d
  · rw [e] at h; cases h
  · rfl
end
theorem all_to {α : Type} {l : List α} {p : α → Bool} (h : ∀ i x, i < l.length → l[i]? = some x → p x = true) : l.all p = true :=
  List.all_eq_true.2 fun x hx => by
    obtain ⟨i, hi, e⟩ := List.getElem_of_mem hx
    exact h i x hi (by rw [List.getElem?_eq_getElem hi, e])
theorem all_no {α : Type} {l : List α} {p : α → Bool} {i : Nat} {x : α} (hx : l[i]? = some x) (h : p x = false) : l.all p = false := by
  cases e : l.all p
  · rfl
  · have := List.all_eq_true.1 e x (List.mem_of_getElem? hx)
    rw [h] at this; cases this
theorem map_at {α β : Type} {f : α → β} {l : List α} {k : Nat} {x : α} (h : l[k]? = some x) : (l.map f)[k]? = some (f x) := by rw [List.getElem?_map, h]; rfl
def Upto {α : Type} (l : List α) (p : α → Bool) (k : Nat) : Prop := ∀ i x, i < k → l[i]? = some x → p x = true
theorem upto_zero {α : Type} {l : List α} {p : α → Bool} : Upto l p 0 := fun i x hi => by omega
theorem upto_succ {α : Type} {l : List α} {p : α → Bool} {k : Nat} {x : α} (h : Upto l p k) (hx : l[k]? = some x) (hp : p x = true) : Upto l p (k + 1) := fun i y hi hy => by
  by_cases e : i = k
  · subst e
    rw [hx] at hy
    rw [← Option.some.inj hy]; exact hp
  · exact h i y (by omega) hy
theorem C_balls_within (n lo hi : Int) (w : World) : C0 Try.prog 67 [.int .i64 n, .int .i64 lo, .int .i64 hi] w (.bool (wi n lo hi)) := by
  refine ⟨en Try.func67 Try.ntmps67 (St.init w) (h := fun F => ?_)⟩
  refine sq (h := ?_)
  refine rg (h := ?_)
  refine WL.y (hy := asg) (h := ?_)
  refine nl (h := ?_)
  refine q_seq (h := ?_)
  refine sq (h := ?_)
  refine rg (h := ?_)
  refine WL.y (hy := mv) (h := ?_)
  refine WL.y (hy := mv) (h := ?_)
  refine WL.y (hy := leq) (h := ?_)
  refine WL.y (hy := mv) (h := ?_)
  apply brAnd 4 10 14 (by exact rfl)
  · intro hb0
    refine un (h := ?_)
    refine WL.y (hy := mv) (h := ?_)
    refine un (h := ?_)
    refine WL.y (hy := mv) (h := ?_)
    refine un (h := ?_)
    refine WL.y (hy := leq) (h := ?_)
    refine WL.y (hy := (by first | exact pkT | exact pkF)) (h := ?_)
    exact mg (by repeat (first | exact trivial | refine ⟨rfl, ?_⟩ | refine ⟨by rw [hb0]; rfl, ?_⟩)) (by repeat (first | exact SubL.nil | (apply SubL.cons; (repeat (first | exact At.here | apply At.there))) | exact SubL.refl _ | apply SubL.skip))
  · intro hb0
    repeat (first | refine un (h := ?_) | refine sk (h := ?_) | refine WL.y (hy := pkF) (h := ?_) | refine WL.y (hy := pkT) (h := ?_))
    exact mg (by repeat (first | exact trivial | refine ⟨rfl, ?_⟩ | refine ⟨by rw [hb0]; rfl, ?_⟩)) (by repeat (first | exact SubL.nil | (apply SubL.cons; (repeat (first | exact At.here | apply At.there))) | exact SubL.refl _ | apply SubL.skip))
  refine WL.y (hy := asg) (h := ?_)
  refine nl (h := ?_)
  refine q_seq (h := ?_)
  refine rtn (h := ?_)
  refine q_ret (hR := ?_)
  exact fun w hS => ⟨rfl, hS.sub (by repeat (first | exact SubL.nil | (apply SubL.cons; (repeat (first | exact At.here | apply At.there))) | exact SubL.refl _ | apply SubL.skip))⟩
theorem C_ref9_within (n lo hi : Int) (w : World) : C0 Try.prog 70 [.int .i64 n, .int .i64 lo, .int .i64 hi] w (.bool (wi n lo hi)) := by
  refine ⟨en Try.func70 Try.ntmps70 (St.init w) (h := fun F => ?_)⟩
  refine sq (h := ?_)
  refine rg (h := ?_)
  refine WL.y (hy := asg) (h := ?_)
  refine nl (h := ?_)
  refine q_seq (h := ?_)
  refine sq (h := ?_)
  refine rg (h := ?_)
  refine WL.y (hy := mv) (h := ?_)
  refine WL.y (hy := mv) (h := ?_)
  refine WL.y (hy := geq) (h := ?_)
  refine WL.y (hy := mv) (h := ?_)
  apply brAnd 4 10 14 (by exact rfl)
  · intro hb0
    refine un (h := ?_)
    refine WL.y (hy := mv) (h := ?_)
    refine un (h := ?_)
    refine WL.y (hy := mv) (h := ?_)
    refine un (h := ?_)
    refine WL.y (hy := leq) (h := ?_)
    refine WL.y (hy := (by first | exact pkT | exact pkF)) (h := ?_)
    exact mg (by repeat (first | exact trivial | refine ⟨rfl, ?_⟩ | refine ⟨by rw [hb0]; rfl, ?_⟩)) (by repeat (first | exact SubL.nil | (apply SubL.cons; (repeat (first | exact At.here | apply At.there))) | exact SubL.refl _ | apply SubL.skip))
  · intro hb0
    repeat (first | refine un (h := ?_) | refine sk (h := ?_) | refine WL.y (hy := pkF) (h := ?_) | refine WL.y (hy := pkT) (h := ?_))
    exact mg (by repeat (first | exact trivial | refine ⟨rfl, ?_⟩ | refine ⟨by rw [hb0]; rfl, ?_⟩)) (by repeat (first | exact SubL.nil | (apply SubL.cons; (repeat (first | exact At.here | apply At.there))) | exact SubL.refl _ | apply SubL.skip))
  refine WL.y (hy := asg) (h := ?_)
  refine nl (h := ?_)
  refine q_seq (h := ?_)
  refine rtn (h := ?_)
  refine q_ret (hR := ?_)
  exact fun w hS => ⟨by first | rfl | (rw [Bool.and_comm]; rfl), hS.sub (by repeat (first | exact SubL.nil | (apply SubL.cons; (repeat (first | exact At.here | apply At.there))) | exact SubL.refl _ | apply SubL.skip))⟩
theorem C_Check1 (n : Int) (w : World) : C0 Try.prog 66 [.int .i64 n] w (.bool (wi n 0 99999)) := by
  refine ⟨en Try.func66 Try.ntmps66 (St.init w) (h := fun F => ?_)⟩
  refine sq (h := ?_)
  refine rg (h := ?_)
  refine WL.y (hy := asg) (h := ?_)
  refine nl (h := ?_)
  refine q_seq (h := ?_)
  refine sq (h := ?_)
  refine rg (h := ?_)
  refine WL.y (hy := mv) (h := ?_)
  refine cl0 (hc := fun w hS => C_balls_within _ _ _ w) (h := ?_)
  refine WL.y (hy := asg) (h := ?_)
  refine nl (h := ?_)
  refine q_seq (h := ?_)
  refine rtn (h := ?_)
  refine q_ret (hR := ?_)
  exact fun w hS => ⟨rfl, hS.sub (by repeat (first | exact SubL.nil | (apply SubL.cons; (repeat (first | exact At.here | apply At.there))) | exact SubL.refl _ | apply SubL.skip))⟩
theorem T_Check2 (n : Int) (a0 : Nat) : Tr Try.prog 69 [.int .i64 n, .pointer (some ⟨a0, 0, none⟩)] [.blk a0 119 [.func (.func 66) #[] #[]]] (fun _ : Unit => True) (fun _ => .bool (!wi n 0 99999)) (fun _ => [.blk a0 119 [.func (.func 66) #[] #[]]]) := by
  refine ⟨fun w0 w R hst => ?_⟩
  refine en Try.func69 Try.ntmps69 hst (h := fun F => ?_)
  refine sq (h := ?_)
  refine rg (h := ?_)
  refine WL.y (hy := asg) (h := ?_)
  refine nl (h := ?_)
  refine q_seq (h := ?_)
  refine sq (h := ?_)
  refine rg (h := ?_)
  refine WL.y (hy := (by first | exact ld | exact ldE)) (h := ?_)
  refine WL.y (hy := mv) (h := ?_)
  refine clfT inferInstance (fi := []) (cap := []) (by exact rfl) (by repeat (first | exact Evs.nil | (apply Evs.cons; exact rfl))) (C0.tr [] (C_Check1 n)) rfl Spl.nil (h := fun _ _ => ?_)
  refine WL.y (hy := notB) (h := ?_)
  refine WL.y (hy := asg) (h := ?_)
  refine nl (h := ?_)
  refine q_seq (h := ?_)
  refine rtn (h := ?_)
  refine q_ret (hR := ?_)
  exact fun w hS => ⟨(), trivial, rfl, hS.sub (by repeat (first | exact SubL.nil | (apply SubL.cons; (repeat (first | exact At.here | apply At.there))) | exact SubL.refl _ | apply SubL.skip))⟩
theorem T_IndexIntB {E : Ent} {A : Option Addr} {n c : Nat} {ws : List Int} (hE : ∀ w, E.ok w → Rd w A 1 n (encI ws)) {g : FuncId} (hg : FnOk Try.prog g) (fi cap : List Value) (Lp : List Ent) (p : Int → Bool) (hn : n ≤ 9223372036854775807) (hlen : ws.length = n)
    (hp : ∀ x ∈ ws, Tr Try.prog g (fi ++ [.int .i64 x] ++ cap) Lp (fun _ : Unit => True) (fun _ => .bool (p x)) (fun _ => Lp)) :
    Tr Try.prog 102 [.slice A n c, .func (.func g) fi.toArray cap.toArray] (E :: Lp) (Fst (pAt ws p) n) (fun j => .int .i64 j) (fun _ => E :: Lp) := by
  refine ⟨fun w0 w R hst => ?_⟩
  refine en Try.func102 Try.ntmps102 hst (h := fun F => ?_)
  refine sq (h := ?_)
  refine rg (h := ?_)
  refine WL.y (hy := asg) (h := ?_)
  refine nl (h := ?_)
  refine q_seq (h := ?_)
  refine sq (h := ?_)
  refine sq (h := ?_)
  refine rg (h := ?_)
  refine WL.y (hy := mv) (h := ?_)
  refine WL.y (hy := lenS) (h := ?_)
  refine WL.y (hy := mv) (h := ?_)
  refine nl (h := ?_)
  refine q_seq (h := ?_)
  refine bk (h := ?_)
  refine lp (X := Nat) (I := fun k => k ≤ n ∧ ∀ i, i < k → pAt ws p i = false) (le := fun k => [(0, .slice A n c), (1, .func (.func g) fi.toArray cap.toArray), (7, .int .i64 n), (8, .int .i64 k)]) (Le := fun _ => E :: (Lp ++ R)) (μ := fun k => n - k) 0 ⟨by omega, fun i hi => by omega⟩ (by repeat (first | exact trivial | refine ⟨rfl, ?_⟩)) (SubL.refl _) (fun k hk => ?_)
  obtain ⟨hk, hall⟩ := hk
  refine sq (h := ?_)
  refine rg (h := ?_)
  refine WL.y (hy := lss) (h := ?_)
  refine nl (h := ?_)
  refine q_seq (h := ?_)
  refine sq (h := ?_)
  refine cd (by exact rfl) (fun h0 => ?_) (fun h0 => ?_)
  · skip
    have hkn : k < n := by simp only [decide_eq_true_eq] at h0; omega
    obtain ⟨x, hx⟩ : ∃ x, ws[k]? = some x := ⟨_, List.getElem?_eq_getElem (by omega)⟩
    have hxe := encI_at hx
    refine skp (h := ?_)
    refine q_seq (h := ?_)
    refine sq (h := ?_)
    refine bk (h := ?_)
    refine sq (h := ?_)
    refine rg (h := ?_)
    refine WL.y (hy := mv) (h := ?_)
    refine WL.y (hy := asg) (h := ?_)
    refine nl (h := ?_)
    refine q_seq (h := ?_)
    refine sq (h := ?_)
    refine rg (h := ?_)
    refine WL.y (hy := mv) (h := ?_)
    refine WL.y (hy := mv) (h := ?_)
    refine WL.y (hy := mv) (h := ?_)
    refine WL.y (hy := ix (A := A) (m := n) (hr := Rds.any hE)) (h := ?_)
    refine WL.y (hy := ldE (A := A) (hr := Rds.any hE) (hk := hxe)) (h := ?_)
    refine clfT hg (fi := fi) (cap := cap) (by exact rfl) (by repeat (first | exact Evs.nil | (apply Evs.cons; exact rfl))) (hp x (List.mem_of_getElem? hx)) rfl (Spl.thr (Spl.app _ _)) (h := fun _ _ => ?_)
    refine WL.subL (SubL.cons (At.app _ _) (SubL.refl _)) ?_
    refine nl (h := ?_)
    refine q_seq (h := ?_)
    refine cd (by exact rfl) (fun h1 => ?_) (fun h1 => ?_)
    · skip
      refine sq (h := ?_)
      refine rg (h := ?_)
      refine WL.y (hy := mv) (h := ?_)
      refine WL.y (hy := asg) (h := ?_)
      refine nl (h := ?_)
      refine q_seq (h := ?_)
      refine rtn (h := ?_)
      refine q_blk_ret (h := ?_)
      refine q_then_ret (h := ?_)
      refine q_then_ret (h := ?_)
      refine q_blk_ret (h := ?_)
      refine q_then_ret (h := ?_)
      refine q_ret (hR := ?_)
      exact fun w hS => ⟨_, .inl ⟨k, hkn, rfl, by rw [pAt_eq hx]; assumption, hall⟩, rfl, hS⟩
    · skip
      refine skp (h := ?_)
      refine q_blk_norm (h := ?_)
      refine q_seq (h := ?_)
      refine rg (h := ?_)
      refine WL.y (hy := addI) (h := ?_)
      refine WL.y (hy := mv) (h := ?_)
      refine nl (h := ?_)
      refine rn (k + 1) ⟨by omega, fun i hi => ?_⟩ (by omega) (by repeat (first | exact trivial | refine ⟨rfl, ?_⟩)) (SubL.refl _)
      rcases Nat.lt_succ_iff_lt_or_eq.1 hi with h | rfl
      · exact hall i h
      · rw [pAt_eq hx]; assumption
  · skip
    have hkn : k = n := by simp only [decide_eq_false_iff_not] at h0; omega
    refine et (h := ?_)
    refine q_then_exit (h := ?_)
    refine q_then_exit (h := ?_)
    refine q_blk_hit (h := ?_)
    refine q_seq (h := ?_)
    refine sq (h := ?_)
    refine rg (h := ?_)
    refine WL.y (hy := asg) (h := ?_)
    refine nl (h := ?_)
    refine q_seq (h := ?_)
    refine rtn (h := ?_)
    refine q_ret (hR := ?_)
    exact fun w hS => ⟨_, .inr ⟨rfl, by subst hkn; exact hall⟩, rfl, hS⟩
theorem T_ContainsIntB {E : Ent} {A : Option Addr} {n c : Nat} {ws : List Int} (hE : ∀ w, E.ok w → Rd w A 1 n (encI ws)) {g : FuncId} (hg : FnOk Try.prog g) (fi cap : List Value) (Lp : List Ent) (p : Int → Bool) (hn : n ≤ 9223372036854775807) (hlen : ws.length = n)
    (hp : ∀ x ∈ ws, Tr Try.prog g (fi ++ [.int .i64 x] ++ cap) Lp (fun _ : Unit => True) (fun _ => .bool (p x)) (fun _ => Lp)) :
    Tr Try.prog 68 [.slice A n c, .func (.func g) fi.toArray cap.toArray] (E :: Lp) (fun _ : Unit => True) (fun _ => .bool (ws.any p)) (fun _ => E :: Lp) := by
  refine ⟨fun w0 w R hst => ?_⟩
  refine en Try.func68 Try.ntmps68 hst (h := fun F => ?_)
  refine sq (h := ?_)
  refine rg (h := ?_)
  refine WL.y (hy := asg) (h := ?_)
  refine nl (h := ?_)
  refine q_seq (h := ?_)
  refine sq (h := ?_)
  refine rg (h := ?_)
  refine WL.y (hy := mv) (h := ?_)
  refine WL.y (hy := mv) (h := ?_)
  refine clT (hc := T_IndexIntB (c := c) hE hg fi cap Lp p hn hlen hp) (hs := Spl.cons .here (Spl.app _ _)) (h := fun x0 hx0 => ?_)
  refine WL.y (hy := geq) (h := ?_)
  refine WL.y (hy := asg) (h := ?_)
  refine nl (h := ?_)
  refine q_seq (h := ?_)
  refine rtn (h := ?_)
  refine q_ret (hR := ?_)
  exact fun w hS => ⟨(), trivial, by simp only [resV, hx0.any]; rw [← hlen, pAt_any], hS⟩
set_option maxRecDepth 100000 in
set_option maxHeartbeats 2000000 in
theorem C_balls_Check (d : Dp) (a : DA) (w : World) (h : DpR w d a) : C0 Try.prog 29 [d.val a] w (.int .i64 (depE d)) := by
  have hsc := h.sc
  have hfc := h.fc
  have hcc := h.cc
  refine ⟨en Try.func29 Try.ntmps29 ((((St.init w).share (e := .ro a.sA 1 d.st.length (encI d.st)) h.s rfl rfl rfl).share (e := .ro a.fA 16 d.fx.length (d.fx.map Fx.enc)) h.f rfl rfl rfl).share (e := .ro a.cA 3 d.cr.length (d.cr.map Cx.enc)) h.c rfl rfl rfl) (h := fun F => ?_)⟩
  refine sq (h := ?_)
  refine rg (h := ?_)
  refine bxA (h := fun b0 => ?_)
  refine WL.y (hy := asg) (h := ?_)
  refine nl (h := ?_)
  refine q_seq (h := ?_)
  refine sq (h := ?_)
  refine rg (h := ?_)
  refine al (h := fun bf => ?_)
  first | refine st (h := ?_) | refine stE (h := ?_)
  refine nl (h := ?_)
  refine q_seq (h := ?_)
  refine sq (h := ?_)
  refine sq (h := ?_)
  refine rg (h := ?_)
  refine WL.y (hy := (by first | exact fa | exact faE)) (h := ?_)
  refine WL.y (hy := (by first | exact fa | exact faE)) (h := ?_)
  refine WL.y (hy := (by first | exact ld | exact ldE)) (h := ?_)
  refine WL.y (hy := (by first | exact fa | exact faE)) (h := ?_)
  refine WL.y (hy := (by first | exact fa | exact faE)) (h := ?_)
  refine WL.y (hy := (by first | exact ld | exact ldE)) (h := ?_)
  refine WL.y (hy := (by first | exact fa | exact faE)) (h := ?_)
  refine WL.y (hy := (by first | exact fa | exact faE)) (h := ?_)
  refine WL.y (hy := (by first | exact ld | exact ldE)) (h := ?_)
  refine bs (h := fun b2 => ?_)
  refine WL.y (hy := lenS) (h := ?_)
  refine WL.y (hy := mv) (h := ?_)
  refine nl (h := ?_)
  refine q_seq (h := ?_)
  refine bk (h := ?_)
  refine lp (X := Nat) (I := fun k => k ≤ 3 ∧ Upto [d.each, d.tow, d.fra] (fun n => wi n 0 20) k) (le := fun k => [(1, .pointer (some ⟨b0, 0, none⟩)), (3, .pointer (some ⟨bf, 0, none⟩)), (19, .slice (some ⟨b2, 0, none⟩) 3 3), (20, .int .i64 3), (21, .int .i64 k)]) (Le := fun _ => [.own (some ⟨b2, 0, none⟩) 3 3 1 3 (encI [d.each, d.tow, d.fra]), .blk bf 119 [.func (.func 66) #[] #[]], .blk b0 49 (d.cells a), .ro a.sA 1 d.st.length (encI d.st), .ro a.fA 16 d.fx.length (d.fx.map Fx.enc), .ro a.cA 3 d.cr.length (d.cr.map Cx.enc)]) (μ := fun k => 3 - k) 0 ⟨Nat.zero_le _, upto_zero⟩ (by repeat (first | exact trivial | refine ⟨rfl, ?_⟩)) (by repeat (first | exact SubL.nil | (apply SubL.cons; (repeat (first | exact At.here | apply At.there))) | exact SubL.refl _ | apply SubL.skip)) (fun k hk => ?_)
  obtain ⟨hk0, hku⟩ := hk
  refine sq (h := ?_)
  refine rg (h := ?_)
  refine WL.y (hy := lss) (h := ?_)
  refine nl (h := ?_)
  refine q_seq (h := ?_)
  refine sq (h := ?_)
  refine cd (by exact rfl) (fun h0 => ?_) (fun h0 => ?_)
  · skip
    have hk3 : k < 3 := by have := of_decide_eq_true h0; omega
    obtain ⟨m, hm⟩ : ∃ m, [d.each, d.tow, d.fra][k]? = some m := ⟨_, List.getElem?_eq_getElem (by simpa using hk3)⟩
    have hne := encI_at hm
    refine skp (h := ?_)
    refine q_seq (h := ?_)
    refine sq (h := ?_)
    refine bk (h := ?_)
    refine sq (h := ?_)
    refine rg (h := ?_)
    refine WL.y (hy := ix (A := some ⟨b2, 0, none⟩) (m := 3)) (h := ?_)
    refine WL.y (hy := ldE (A := some ⟨b2, 0, none⟩) (hk := hne)) (h := ?_)
    refine WL.y (hy := asg) (h := ?_)
    refine nl (h := ?_)
    refine q_seq (h := ?_)
    refine sq (h := ?_)
    refine rg (h := ?_)
    refine WL.y (hy := mv) (h := ?_)
    refine cl0 (hc := fun w hS => C_balls_within _ _ _ w) (h := ?_)
    refine WL.y (hy := notB) (h := ?_)
    refine nl (h := ?_)
    refine q_seq (h := ?_)
    refine cd (by exact rfl) (fun h1 => ?_) (fun h1 => ?_)
    · skip
      have hE : depE d = 90 := dep_kit (by
        have hm' : wi m 0 20 = false := by simpa using h1
        have hall : ([d.each, d.tow, d.fra].all fun n => wi n 0 20) = false := all_no hm hm'
        rw [kitB, ← hall]
        simp only [List.all_cons, List.all_nil, Bool.and_true, Bool.and_assoc])
      refine sq (h := ?_)
      refine rg (h := ?_)
      refine WL.y (hy := asg) (h := ?_)
      refine nl (h := ?_)
      refine q_seq (h := ?_)
      refine rtn (h := ?_)
      refine q_blk_ret (h := ?_)
      refine q_then_ret (h := ?_)
      refine q_then_ret (h := ?_)
      refine q_blk_ret (h := ?_)
      refine q_then_ret (h := ?_)
      refine q_ret (hR := ?_)
      rw [hE]
      exact fun w hS => ⟨rfl, hS.sub (by repeat (first | exact SubL.nil | (apply SubL.cons; (repeat (first | exact At.here | apply At.there))) | exact SubL.refl _ | apply SubL.skip))⟩
    · skip
      have hmk : wi m 0 20 = true := by simpa using h1
      have hkn := upto_succ hku hm hmk
      refine skp (h := ?_)
      refine q_blk_norm (h := ?_)
      refine q_seq (h := ?_)
      refine rg (h := ?_)
      refine WL.y (hy := addI) (h := ?_)
      refine WL.y (hy := mv) (h := ?_)
      refine nl (h := ?_)
      refine rn (x := k) (k + 1) ⟨by omega, hkn⟩ (by omega) (by repeat (first | exact trivial | refine ⟨rfl, ?_⟩)) (by repeat (first | exact SubL.nil | (apply SubL.cons; (repeat (first | exact At.here | apply At.there))) | exact SubL.refl _ | apply SubL.skip))
  · skip
    have hk3 : k = 3 := by have := of_decide_eq_false h0; omega
    have hkit : kitB d = true := by
      rw [hk3] at hku
      have k0 : wi d.each 0 20 = true := hku 0 d.each (by omega) rfl
      have k1 : wi d.tow 0 20 = true := hku 1 d.tow (by omega) rfl
      have k2 : wi d.fra 0 20 = true := hku 2 d.fra (by omega) rfl
      rw [kitB, k0, k1, k2]; rfl
    refine et (h := ?_)
    refine q_then_exit (h := ?_)
    refine q_then_exit (h := ?_)
    refine q_blk_hit (h := ?_)
    refine q_seq (h := ?_)
    refine sq (h := ?_)
    refine sq (h := ?_)
    refine rg (h := ?_)
    refine WL.y (hy := (by first | exact fa | exact faE)) (h := ?_)
    refine WL.y (hy := (by first | exact ld | exact ldE)) (h := ?_)
    refine WL.y (hy := lenS) (h := ?_)
    refine WL.y (hy := neq) (h := ?_)
    refine WL.y (hy := mv) (h := ?_)
    apply brOr 5 33 38 (by exact rfl)
    · intro hb2
      refine un (h := ?_)
      refine WL.y (hy := (by first | exact fa | exact faE)) (h := ?_)
      refine un (h := ?_)
      refine WL.y (hy := (by first | exact ld | exact ldE)) (h := ?_)
      refine un (h := ?_)
      refine WL.y (hy := lenS) (h := ?_)
      refine un (h := ?_)
      refine WL.y (hy := gtr) (h := ?_)
      refine WL.y (hy := (by first | exact pkT | exact pkF)) (h := ?_)
      exact mg (by repeat (first | exact trivial | refine ⟨rfl, ?_⟩ | refine ⟨by rw [hb2]; rfl, ?_⟩)) (by repeat (first | exact SubL.nil | (apply SubL.cons; (repeat (first | exact At.here | apply At.there))) | exact SubL.refl _ | apply SubL.skip))
    · intro hb2
      repeat (first | refine un (h := ?_) | refine sk (h := ?_) | refine WL.y (hy := pkF) (h := ?_) | refine WL.y (hy := pkT) (h := ?_))
      exact mg (by repeat (first | exact trivial | refine ⟨rfl, ?_⟩ | refine ⟨by rw [hb2]; rfl, ?_⟩)) (by repeat (first | exact SubL.nil | (apply SubL.cons; (repeat (first | exact At.here | apply At.there))) | exact SubL.refl _ | apply SubL.skip))
    refine WL.y (hy := mv) (h := ?_)
    apply brOr 5 39 44 (by exact rfl)
    · intro hb3
      refine un (h := ?_)
      refine WL.y (hy := (by first | exact fa | exact faE)) (h := ?_)
      refine un (h := ?_)
      refine WL.y (hy := (by first | exact ld | exact ldE)) (h := ?_)
      refine un (h := ?_)
      refine WL.y (hy := lenS) (h := ?_)
      refine un (h := ?_)
      refine WL.y (hy := gtr) (h := ?_)
      refine WL.y (hy := (by first | exact pkT | exact pkF)) (h := ?_)
      exact mg (by repeat (first | exact trivial | refine ⟨rfl, ?_⟩ | refine ⟨by rw [hb3]; rfl, ?_⟩)) (by repeat (first | exact SubL.nil | (apply SubL.cons; (repeat (first | exact At.here | apply At.there))) | exact SubL.refl _ | apply SubL.skip))
    · intro hb3
      repeat (first | refine un (h := ?_) | refine sk (h := ?_) | refine WL.y (hy := pkF) (h := ?_) | refine WL.y (hy := pkT) (h := ?_))
      exact mg (by repeat (first | exact trivial | refine ⟨rfl, ?_⟩ | refine ⟨by rw [hb3]; rfl, ?_⟩)) (by repeat (first | exact SubL.nil | (apply SubL.cons; (repeat (first | exact At.here | apply At.there))) | exact SubL.refl _ | apply SubL.skip))
    refine nl (h := ?_)
    refine q_seq (h := ?_)
    refine cd (by exact rfl) (fun h4 => ?_) (fun h4 => ?_)
    · skip
      have hE : depE d = 90 := dep_len (by rw [lenB, h4]; rfl)
      refine sq (h := ?_)
      refine rg (h := ?_)
      refine WL.y (hy := asg) (h := ?_)
      refine nl (h := ?_)
      refine q_seq (h := ?_)
      refine rtn (h := ?_)
      refine q_then_ret (h := ?_)
      refine q_ret (hR := ?_)
      rw [hE]
      exact fun w hS => ⟨rfl, hS.sub (by repeat (first | exact SubL.nil | (apply SubL.cons; (repeat (first | exact At.here | apply At.there))) | exact SubL.refl _ | apply SubL.skip))⟩
    · skip
      have hln : lenB d = true := by rw [lenB, h4]; rfl
      simp only [Bool.or_eq_false_iff, Bool.not_eq_false', decide_eq_true_eq, decide_eq_false_iff_not] at h4
      refine skp (h := ?_)
      refine q_seq (h := ?_)
      refine sq (h := ?_)
      refine sq (h := ?_)
      refine rg (h := ?_)
      refine WL.y (hy := (by first | exact fa | exact faE)) (h := ?_)
      refine WL.y (hy := (by first | exact ld | exact ldE)) (h := ?_)
      refine WL.y (hy := mkf) (h := ?_)
      refine clT (hc := T_ContainsIntB (E := .ro a.sA 1 d.st.length (encI d.st)) (ws := d.st) (c := a.sc) (fun w hw => hw) inferInstance [] [.pointer (some ⟨bf, 0, none⟩)] [.blk bf 119 [.func (.func 66) #[] #[]]] (fun n => !wi n 0 99999) h.sc rfl (fun x _ => T_Check2 x bf)) (h := fun x48 _ => ?_)
      refine nl (h := ?_)
      refine q_seq (h := ?_)
      refine cd (by exact rfl) (fun h5 => ?_) (fun h5 => ?_)
      · skip
        have hE : depE d = 90 := dep_st (by
          obtain ⟨n, hn, hp⟩ := List.any_eq_true.1 h5
          obtain ⟨i, hi, e⟩ := List.getElem_of_mem hn
          exact all_no (i := i) (x := n) (by rw [List.getElem?_eq_getElem hi, e]) (by simpa using hp))
        refine sq (h := ?_)
        refine rg (h := ?_)
        refine WL.y (hy := asg) (h := ?_)
        refine nl (h := ?_)
        refine q_seq (h := ?_)
        refine rtn (h := ?_)
        refine q_then_ret (h := ?_)
        refine q_ret (hR := ?_)
        rw [hE]
        exact fun w hS => ⟨rfl, hS.sub (by repeat (first | exact SubL.nil | (apply SubL.cons; (repeat (first | exact At.here | apply At.there))) | exact SubL.refl _ | apply SubL.skip))⟩
      · skip
        have hst : stB d = true := List.all_eq_true.2 fun n hn => by
          have := List.any_eq_false.1 h5 n hn
          simpa using this
        refine skp (h := ?_)
        refine q_seq (h := ?_)
        refine sq (h := ?_)
        refine sq (h := ?_)
        refine rg (h := ?_)
        refine WL.y (hy := (by first | exact fa | exact faE)) (h := ?_)
        refine WL.y (hy := (by first | exact ld | exact ldE)) (h := ?_)
        refine WL.y (hy := lenS) (h := ?_)
        refine WL.y (hy := mv) (h := ?_)
        refine nl (h := ?_)
        refine q_seq (h := ?_)
        refine bk (h := ?_)
        refine lp (X := Nat) (I := fun j => j ≤ d.fx.length ∧ Upto d.fx fxOk j) (le := fun j => [(1, .pointer (some ⟨b0, 0, none⟩)), (3, .pointer (some ⟨bf, 0, none⟩)), (50, .slice a.fA d.fx.length a.fc), (51, .int .i64 d.fx.length), (52, .int .i64 j)]) (Le := fun _ => [.blk bf 119 [.func (.func 66) #[] #[]], .blk b0 49 (d.cells a), .ro a.sA 1 d.st.length (encI d.st), .ro a.fA 16 d.fx.length (d.fx.map Fx.enc), .ro a.cA 3 d.cr.length (d.cr.map Cx.enc)]) (μ := fun j => d.fx.length - j) 0 ⟨Nat.zero_le _, upto_zero⟩ (by repeat (first | exact trivial | refine ⟨rfl, ?_⟩)) (by repeat (first | exact SubL.nil | (apply SubL.cons; (repeat (first | exact At.here | apply At.there))) | exact SubL.refl _ | apply SubL.skip)) (fun j hj => ?_)
        obtain ⟨hj0, hju⟩ := hj
        refine sq (h := ?_)
        refine rg (h := ?_)
        refine WL.y (hy := lss) (h := ?_)
        refine nl (h := ?_)
        refine q_seq (h := ?_)
        refine sq (h := ?_)
        refine cd (by exact rfl) (fun h6 => ?_) (fun h6 => ?_)
        · skip
          have hkn2 : j < d.fx.length := by have := of_decide_eq_true h6; omega
          obtain ⟨x, hx⟩ : ∃ x, d.fx[j]? = some x := ⟨_, List.getElem?_eq_getElem hkn2⟩
          refine skp (h := ?_)
          refine q_seq (h := ?_)
          refine sq (h := ?_)
          refine bk (h := ?_)
          refine sq (h := ?_)
          refine rg (h := ?_)
          refine WL.y (hy := ix (A := a.fA) (m := d.fx.length)) (h := ?_)
          refine WL.y (hy := ldEW (A := a.fA) (hk := map_at hx)) (h := ?_)
          refine al (h := fun bx => ?_)
          first | refine stA (h := ?_) | refine stEA (h := ?_)
          refine nl (h := ?_)
          refine q_seq (h := ?_)
          refine sq (h := ?_)
          refine rg (h := ?_)
          refine WL.y (hy := (by first | exact fa | exact faE)) (h := ?_)
          refine WL.y (hy := (by first | exact ld | exact ldE)) (h := ?_)
          refine cl0 (hc := fun w hS => C_balls_within _ _ _ w) (h := ?_)
          refine WL.y (hy := notB) (h := ?_)
          refine WL.y (hy := mv) (h := ?_)
          apply brOr 7 60 67 (by exact rfl)
          · intro hb7
            refine un (h := ?_)
            refine WL.y (hy := (by first | exact fa | exact faE)) (h := ?_)
            refine un (h := ?_)
            refine WL.y (hy := (by first | exact ldA | exact ldEA)) (h := ?_)
            refine un (h := ?_)
            refine WL.y (hy := (by first | exact fa | exact faE)) (h := ?_)
            refine un (h := ?_)
            refine WL.y (hy := (by first | exact ldA | exact ldEA)) (h := ?_)
            refine un (h := ?_)
            refine cl0 (hc := fun w hS => C_balls_check x.f x.b x.A x.b.st.length x.c w ((hS.old (h.x x (List.mem_of_getElem? hx)).r).get) (by have h1 := (h.x x (List.mem_of_getElem? hx)).n; have h2 := (h.x x (List.mem_of_getElem? hx)).c; omega)) (h := ?_)
            refine un (h := ?_)
            refine WL.y (hy := neq) (h := ?_)
            refine WL.y (hy := (by first | exact pkT | exact pkF)) (h := ?_)
            exact mg (by repeat (first | exact trivial | refine ⟨rfl, ?_⟩ | refine ⟨by rw [hb7]; rfl, ?_⟩)) (by repeat (first | exact SubL.nil | (apply SubL.cons; (repeat (first | exact At.here | apply At.there))) | exact SubL.refl _ | apply SubL.skip))
          · intro hb7
            repeat (first | refine un (h := ?_) | refine sk (h := ?_) | refine WL.y (hy := pkF) (h := ?_) | refine WL.y (hy := pkT) (h := ?_))
            exact mg (by repeat (first | exact trivial | refine ⟨rfl, ?_⟩ | refine ⟨by rw [hb7]; rfl, ?_⟩)) (by repeat (first | exact SubL.nil | (apply SubL.cons; (repeat (first | exact At.here | apply At.there))) | exact SubL.refl _ | apply SubL.skip))
          refine nl (h := ?_)
          refine q_seq (h := ?_)
          refine cd (by exact rfl) (fun h8 => ?_) (fun h8 => ?_)
          · skip
            have hE : depE d = 90 := dep_fx (all_no hx (by rw [fxOk, h8]; rfl))
            refine sq (h := ?_)
            refine rg (h := ?_)
            refine WL.y (hy := asg) (h := ?_)
            refine nl (h := ?_)
            refine q_seq (h := ?_)
            refine rtn (h := ?_)
            refine q_blk_ret (h := ?_)
            refine q_then_ret (h := ?_)
            refine q_then_ret (h := ?_)
            refine q_blk_ret (h := ?_)
            refine q_then_ret (h := ?_)
            refine q_ret (hR := ?_)
            rw [hE]
            exact fun w hS => ⟨rfl, hS.sub (by repeat (first | exact SubL.nil | (apply SubL.cons; (repeat (first | exact At.here | apply At.there))) | exact SubL.refl _ | apply SubL.skip))⟩
          · skip
            have hjn := upto_succ hju hx (by rw [fxOk, h8]; rfl)
            refine skp (h := ?_)
            refine q_blk_norm (h := ?_)
            refine q_seq (h := ?_)
            refine rg (h := ?_)
            refine WL.y (hy := addI) (h := ?_)
            refine WL.y (hy := mv) (h := ?_)
            refine nl (h := ?_)
            refine rn (x := j) (j + 1) ⟨hkn2, hjn⟩ (by omega) (by repeat (first | exact trivial | refine ⟨rfl, ?_⟩)) (by repeat (first | exact SubL.nil | (apply SubL.cons; (repeat (first | exact At.here | apply At.there))) | exact SubL.refl _ | apply SubL.skip))
        · skip
          have hkn2 : j = d.fx.length := by have := of_decide_eq_false h6; omega
          have hfx : fxB d = true := all_to fun i x hi => hju i x (by omega)
          refine et (h := ?_)
          refine q_then_exit (h := ?_)
          refine q_then_exit (h := ?_)
          refine q_blk_hit (h := ?_)
          refine q_seq (h := ?_)
          refine sq (h := ?_)
          refine sq (h := ?_)
          refine rg (h := ?_)
          refine WL.y (hy := (by first | exact fa | exact faE)) (h := ?_)
          refine WL.y (hy := (by first | exact ld | exact ldE)) (h := ?_)
          refine WL.y (hy := lenS) (h := ?_)
          refine WL.y (hy := mv) (h := ?_)
          refine nl (h := ?_)
          refine q_seq (h := ?_)
          refine bk (h := ?_)
          refine lp (X := Nat) (I := fun i => i ≤ d.cr.length ∧ Upto d.cr crOk i) (le := fun i => [(1, .pointer (some ⟨b0, 0, none⟩)), (3, .pointer (some ⟨bf, 0, none⟩)), (70, .slice a.cA d.cr.length a.cc), (71, .int .i64 d.cr.length), (72, .int .i64 i)]) (Le := fun _ => [.blk bf 119 [.func (.func 66) #[] #[]], .blk b0 49 (d.cells a), .ro a.sA 1 d.st.length (encI d.st), .ro a.fA 16 d.fx.length (d.fx.map Fx.enc), .ro a.cA 3 d.cr.length (d.cr.map Cx.enc)]) (μ := fun i => d.cr.length - i) 0 ⟨Nat.zero_le _, upto_zero⟩ (by repeat (first | exact trivial | refine ⟨rfl, ?_⟩)) (by repeat (first | exact SubL.nil | (apply SubL.cons; (repeat (first | exact At.here | apply At.there))) | exact SubL.refl _ | apply SubL.skip)) (fun i hi => ?_)
          obtain ⟨hi0, hiu⟩ := hi
          refine sq (h := ?_)
          refine rg (h := ?_)
          refine WL.y (hy := lss) (h := ?_)
          refine nl (h := ?_)
          refine q_seq (h := ?_)
          refine sq (h := ?_)
          refine cd (by exact rfl) (fun h9 => ?_) (fun h9 => ?_)
          · skip
            have hkn3 : i < d.cr.length := by have := of_decide_eq_true h9; omega
            obtain ⟨y, hc⟩ : ∃ y, d.cr[i]? = some y := ⟨_, List.getElem?_eq_getElem hkn3⟩
            refine skp (h := ?_)
            refine q_seq (h := ?_)
            refine sq (h := ?_)
            refine bk (h := ?_)
            refine sq (h := ?_)
            refine rg (h := ?_)
            refine WL.y (hy := ix (A := a.cA) (m := d.cr.length)) (h := ?_)
            refine WL.y (hy := ldEW (A := a.cA) (hk := map_at hc)) (h := ?_)
            refine al (h := fun bc => ?_)
            first | refine stA (h := ?_) | refine stEA (h := ?_)
            refine nl (h := ?_)
            refine q_seq (h := ?_)
            refine sq (h := ?_)
            refine rg (h := ?_)
            refine WL.y (hy := (by first | exact fa | exact faE)) (h := ?_)
            refine WL.y (hy := (by first | exact ld | exact ldE)) (h := ?_)
            refine cl0 (hc := fun w hS => C_balls_within _ _ _ w) (h := ?_)
            refine WL.y (hy := notB) (h := ?_)
            refine WL.y (hy := mv) (h := ?_)
            apply brOr 5 80 85 (by exact rfl)
            · intro hb10
              refine un (h := ?_)
              refine WL.y (hy := (by first | exact fa | exact faE)) (h := ?_)
              refine un (h := ?_)
              refine WL.y (hy := (by first | exact ld | exact ldE)) (h := ?_)
              refine un (h := ?_)
              refine cl0 (hc := fun w hS => C_balls_within _ _ _ w) (h := ?_)
              refine un (h := ?_)
              refine WL.y (hy := notB) (h := ?_)
              refine WL.y (hy := (by first | exact pkT | exact pkF)) (h := ?_)
              exact mg (by repeat (first | exact trivial | refine ⟨rfl, ?_⟩ | refine ⟨by rw [hb10]; rfl, ?_⟩)) (by repeat (first | exact SubL.nil | (apply SubL.cons; (repeat (first | exact At.here | apply At.there))) | exact SubL.refl _ | apply SubL.skip))
            · intro hb10
              repeat (first | refine un (h := ?_) | refine sk (h := ?_) | refine WL.y (hy := pkF) (h := ?_) | refine WL.y (hy := pkT) (h := ?_))
              exact mg (by repeat (first | exact trivial | refine ⟨rfl, ?_⟩ | refine ⟨by rw [hb10]; rfl, ?_⟩)) (by repeat (first | exact SubL.nil | (apply SubL.cons; (repeat (first | exact At.here | apply At.there))) | exact SubL.refl _ | apply SubL.skip))
            refine WL.y (hy := mv) (h := ?_)
            apply brOr 6 86 92 (by exact rfl)
            · intro hb11
              refine un (h := ?_)
              refine WL.y (hy := (by first | exact ld | exact ldE)) (h := ?_)
              refine un (h := ?_)
              refine WL.y (hy := (by first | exact fa | exact faE)) (h := ?_)
              refine un (h := ?_)
              refine WL.y (hy := (by first | exact ld | exact ldE)) (h := ?_)
              refine un (h := ?_)
              refine clf0 (f := 66) (fi := []) (cap := []) (hc := fun w hS => C_Check1 y.count w) (h := ?_)
              refine un (h := ?_)
              refine WL.y (hy := notB) (h := ?_)
              refine WL.y (hy := (by first | exact pkT | exact pkF)) (h := ?_)
              exact mg (by repeat (first | exact trivial | refine ⟨rfl, ?_⟩ | refine ⟨by rw [hb11]; rfl, ?_⟩)) (by repeat (first | exact SubL.nil | (apply SubL.cons; (repeat (first | exact At.here | apply At.there))) | exact SubL.refl _ | apply SubL.skip))
            · intro hb11
              repeat (first | refine un (h := ?_) | refine sk (h := ?_) | refine WL.y (hy := pkF) (h := ?_) | refine WL.y (hy := pkT) (h := ?_))
              exact mg (by repeat (first | exact trivial | refine ⟨rfl, ?_⟩ | refine ⟨by rw [hb11]; rfl, ?_⟩)) (by repeat (first | exact SubL.nil | (apply SubL.cons; (repeat (first | exact At.here | apply At.there))) | exact SubL.refl _ | apply SubL.skip))
            refine nl (h := ?_)
            refine q_seq (h := ?_)
            refine cd (by exact rfl) (fun h12 => ?_) (fun h12 => ?_)
            · skip
              have hE : depE d = 90 := dep_cr (all_no hc (by rw [crOk, h12]; rfl))
              refine sq (h := ?_)
              refine rg (h := ?_)
              refine WL.y (hy := asg) (h := ?_)
              refine nl (h := ?_)
              refine q_seq (h := ?_)
              refine rtn (h := ?_)
              refine q_blk_ret (h := ?_)
              refine q_then_ret (h := ?_)
              refine q_then_ret (h := ?_)
              refine q_blk_ret (h := ?_)
              refine q_then_ret (h := ?_)
              refine q_ret (hR := ?_)
              rw [hE]
              exact fun w hS => ⟨rfl, hS.sub (by repeat (first | exact SubL.nil | (apply SubL.cons; (repeat (first | exact At.here | apply At.there))) | exact SubL.refl _ | apply SubL.skip))⟩
            · skip
              have hin := upto_succ hiu hc (by rw [crOk, h12]; rfl)
              refine skp (h := ?_)
              refine q_blk_norm (h := ?_)
              refine q_seq (h := ?_)
              refine rg (h := ?_)
              refine WL.y (hy := addI) (h := ?_)
              refine WL.y (hy := mv) (h := ?_)
              refine nl (h := ?_)
              refine rn (x := i) (i + 1) ⟨hkn3, hin⟩ (by omega) (by repeat (first | exact trivial | refine ⟨rfl, ?_⟩)) (by repeat (first | exact SubL.nil | (apply SubL.cons; (repeat (first | exact At.here | apply At.there))) | exact SubL.refl _ | apply SubL.skip))
          · skip
            have hkn3 : i = d.cr.length := by have := of_decide_eq_false h9; omega
            have hcr : crB d = true := all_to fun i' x hi' => hiu i' x (by omega)
            have hE := dep_yes hkit hln hst hfx hcr
            refine et (h := ?_)
            refine q_then_exit (h := ?_)
            refine q_then_exit (h := ?_)
            refine q_blk_hit (h := ?_)
            refine q_seq (h := ?_)
            refine sq (h := ?_)
            refine rg (h := ?_)
            refine WL.y (hy := asg) (h := ?_)
            refine nl (h := ?_)
            refine q_seq (h := ?_)
            refine rtn (h := ?_)
            refine q_ret (hR := ?_)
            rw [hE]
            exact fun w hS => ⟨rfl, hS.sub (by repeat (first | exact SubL.nil | (apply SubL.cons; (repeat (first | exact At.here | apply At.there))) | exact SubL.refl _ | apply SubL.skip))⟩
theorem DpR.old {w0 w : World} {L : List Ent} {d : Dp} {a : DA} (h : DpR w0 d a) (hS : St w0 w L) : DpR w d a :=
  ⟨(hS.old h.s).get, (hS.old h.f).get, (hS.old h.c).get, fun y hy => ⟨(hS.old (h.x y hy).r).get, (h.x y hy).n, (h.x y hy).c⟩, h.sc, h.fc, h.cc⟩
end Go.Proofs.Ytacaojifempclaa

namespace Go.Proofs.Ytacaojifempclaa
open Go Go.RowKit

abbrev fixtureSp : List Sp := [.int .i64, .int .i64, .int .i64, .bool, .int .i64, .int .i64, .int .i64, .int .i64, .int .i64, .int .i64, .bool, .sl i2, .int .i64, .int .i64, .int .i64, .int .i64]
abbrev crateSp : List Sp := [.int .i64, .int .i64, .int .i64]
abbrev depotSp : List Sp := [.int .i64, .int .i64, .int .i64, .sl [.int .i64], .sl fixtureSp, .sl crateSp]
theorem crate_cells {w : World} {cs : List Value} (h : Mts w crateSp cs) : ∃ c : Cx, cs = c.enc := by
  obtain ⟨a1, cs, rfl, _, h⟩ := Mts.int_inv h
  obtain ⟨a2, cs, rfl, _, h⟩ := h.int_inv
  obtain ⟨a3, cs, rfl, _, h⟩ := h.int_inv
  rw [h.nil_inv]
  exact ⟨⟨a1, a2, a3⟩, rfl⟩
theorem crate_open {w : World} {cs : List Value} (h : Mts w crateSp cs) : ∃ c : Cx, Value.agg cs.toArray = .agg #[.int .i64 c.day, .int .i64 c.item, .int .i64 c.count] := by
  obtain ⟨c, rfl⟩ := crate_cells h
  exact ⟨c, rfl⟩
theorem fixture_cells {w : World} {cs : List Value} (h : Mts w fixtureSp cs) : ∃ x : Fx, cs = x.enc ∧ x.ok w := by
  obtain ⟨a0, cs, rfl, _, h⟩ := Mts.int_inv h
  obtain ⟨a1, cs, rfl, _, h⟩ := h.int_inv
  obtain ⟨a2, cs, rfl, _, h⟩ := h.int_inv
  obtain ⟨a3, cs, rfl, h3⟩ := h.bool_inv
  obtain ⟨a4, cs, rfl, _, h⟩ := h3.int_inv
  obtain ⟨a5, cs, rfl, _, h⟩ := h.int_inv
  obtain ⟨a6, cs, rfl, _, h⟩ := h.int_inv
  obtain ⟨a7, cs, rfl, _, h⟩ := h.int_inv
  obtain ⟨a8, cs, rfl, _, h⟩ := h.int_inv
  obtain ⟨a9, cs, rfl, _, h⟩ := h.int_inv
  obtain ⟨a10, cs, rfl, h10⟩ := h.bool_inv
  obtain ⟨A, n, c, xs, cs, rfl, hr, hn, hx, h⟩ := h10.sl_invc
  obtain ⟨b1, cs, rfl, _, h⟩ := h.int_inv
  obtain ⟨b2, cs, rfl, _, h⟩ := h.int_inv
  obtain ⟨b3, cs, rfl, _, h⟩ := h.int_inv
  obtain ⟨b4, cs, rfl, _, h⟩ := h.int_inv
  rw [h.nil_inv]
  obtain ⟨ys, rfl⟩ := map_of (f := fun p : Pr => [.int .i64 p.1, .int .i64 p.2]) (xs := xs) fun x hxm => i2_open (hx x hxm)
  have hl : ys.length = n := by have := hr.len; simpa using this
  subst hl
  exact ⟨⟨a0, ⟨a1, a2, a3, a4, a5, a6, a7, a8, a9, a10⟩, ⟨ys, (b1, b2), (b3, b4)⟩, A, c⟩, rfl, hr, hn.1, hn.2⟩
theorem fixture_open {w : World} {cs : List Value} (h : Mts w fixtureSp cs) : ∃ x : Fx, Value.agg cs.toArray = x.val ∧ x.ok w := by
  obtain ⟨x, rfl, hx⟩ := fixture_cells h
  exact ⟨x, rfl, hx⟩
theorem map_ofP {α : Type} {f : α → List Value} {p : α → Prop} : ∀ {xs : List (List Value)}, (∀ x ∈ xs, ∃ a, x = f a ∧ p a) → ∃ ys : List α, xs = ys.map f ∧ ∀ y ∈ ys, p y
  | [], _ => ⟨[], rfl, fun y hy => by cases hy⟩
  | x :: xs, h => by
    obtain ⟨a, rfl, ha⟩ := h x (by simp)
    obtain ⟨ys, rfl, hy⟩ := map_ofP (xs := xs) fun y hy => h y (by simp [hy])
    exact ⟨a :: ys, rfl, fun y hm => by
      rcases List.mem_cons.1 hm with rfl | hm
      · exact ha
      · exact hy y hm⟩
theorem depot_open {w : World} {cs : List Value} (h : Mts w depotSp cs) : ∃ (d : Dp) (a : DA), Value.agg cs.toArray = d.val a ∧ DpR w d a := by
  obtain ⟨k1, cs, rfl, _, h⟩ := Mts.int_inv h
  obtain ⟨k2, cs, rfl, _, h⟩ := h.int_inv
  obtain ⟨k3, cs, rfl, _, h⟩ := h.int_inv
  obtain ⟨A, n, c, xs, cs, rfl, hr, hn, hx, h⟩ := h.sl_invc
  obtain ⟨B, m, d, ys, cs, rfl, hr2, hm, hy, h⟩ := h.sl_invc
  obtain ⟨C, k, e, zs, cs, rfl, hr3, hk, hz, h⟩ := h.sl_invc
  rw [h.nil_inv]
  obtain ⟨xs, rfl⟩ := map_of (f := fun x : Int => [.int .i64 x]) (xs := xs) fun x hxm => by
    obtain ⟨a, cs, rfl, _, h⟩ := (hx x hxm).int_inv
    rw [h.nil_inv]
    exact ⟨a, rfl⟩
  obtain ⟨ys, rfl, hys⟩ := map_ofP (f := Fx.enc) (p := fun x => x.ok w) (xs := ys) fun x hxm => fixture_cells (hy x hxm)
  obtain ⟨zs, rfl⟩ := map_of (f := Cx.enc) (xs := zs) fun x hxm => crate_cells (hz x hxm)
  have hl : xs.length = n := by have := hr.len; simpa using this
  have hl2 : ys.length = m := by have := hr2.len; simpa using this
  have hl3 : zs.length = k := by have := hr3.len; simpa using this
  subst hl hl2 hl3
  exact ⟨⟨k1, k2, k3, xs, ys, zs⟩, ⟨A, B, C, c, d, e⟩, rfl, hr, hr2, hr3, hys, by show xs.length ≤ _; omega, by show ys.length ≤ _; omega, by show zs.length ≤ _; omega⟩
end Go.Proofs.Ytacaojifempclaa

namespace Go.Proofs.Ytacaojifempclaa
open Go Go.RowKit

def playersV (f : Fmt) : Int := bif f.dbl then 4 else 2
def begB (b : Brd) : Bool := decide (0 < (b.st.length : Int)) || !isZ b.g || !isZ b.p
def onceV (b : Brd) : Int := bif begB b then 0 else 1
def timesV (s : Pr) (n : Int) : Pr := (s.1 * n, s.2 * n)
def ndV (each tow fra : Int) (x : Fx) (item : Int) : Pr :=
  bif decide (item = 0) then timesV ((restC x.f x.b).1.1 + onceV x.b, (restC x.f x.b).1.2 + onceV x.b) each
  else bif decide (item = 1) then timesV (restC x.f x.b).2 (tow * playersV x.f) else timesV (onceV x.b, onceV x.b) (fra * playersV x.f)
theorem mul_rng {a b A B : Int} (ha : 0 ≤ a ∧ a ≤ A) (hb : 0 ≤ b ∧ b ≤ B) : 0 ≤ a * b ∧ a * b ≤ A * B :=
  ⟨Int.mul_nonneg ha.1 hb.1, Int.mul_le_mul ha.2 hb.2 hb.1 (Int.le_trans ha.1 ha.2)⟩
theorem once_rng (b : Brd) : 0 ≤ onceV b ∧ onceV b ≤ 1 := by unfold onceV; cases begB b <;> decide
theorem players_rng (f : Fmt) : 2 ≤ playersV f ∧ playersV f ≤ 4 := by unfold playersV; cases f.dbl <;> decide
theorem csb_rest {f : Fmt} {b : Brd} (h : checkE f b = 0) : CsB (restC f b) 86 := by
  obtain ⟨hf, hbo, hari, hhi⟩ := check_ok h
  obtain ⟨-, hwo, hw3⟩ := arises_facts hf hbo hari
  unfold restC
  cases hov : overV f (wonV b.st)
  · rw [cond_false]
    rcases hw3 with h3 | ⟨_, h4, _⟩
    · rw [h3] at hov; cases hov
    · rw [over_won hwo, Bool.or_eq_false_iff, decide_eq_false_iff_not, decide_eq_false_iff_not] at hov
      unfold WonOk at hwo
      exact csb_bump (csb_P hf ⟨by omega, h4⟩) _ _
  · exact csb_zero (by omega)
theorem nd_rng {each tow fra : Int} {x : Fx} {item : Int} (hk : (0 ≤ each ∧ each ≤ 20) ∧ (0 ≤ tow ∧ tow ≤ 20) ∧ 0 ≤ fra ∧ fra ≤ 20) (h : checkE x.f x.b = 0) : 0 ≤ (ndV each tow fra x item).1 ∧ (ndV each tow fra x item).1 ≤ (ndV each tow fra x item).2 ∧ (ndV each tow fra x item).2 ≤ 10000 := by
  have h1 := csb_rest h
  have h2 := once_rng x.b
  have h3 := players_rng x.f
  unfold CsB at h1
  have m1 := mul_rng (a := tow) (b := playersV x.f) (A := 20) (B := 4) (by omega) (by omega)
  have m2 := mul_rng (a := fra) (b := playersV x.f) (A := 20) (B := 4) (by omega) (by omega)
  unfold ndV timesV
  cases decide (item = 0)
  · cases decide (item = 1)
    · have m3 := mul_rng (a := onceV x.b) (b := fra * playersV x.f) (A := 1) (B := 80) h2 m2
      simp only [cond_false]; omega
    · have m3 := mul_rng (a := (restC x.f x.b).2.1) (b := tow * playersV x.f) (A := 86) (B := 80) (by omega) m1
      have m4 := mul_rng (a := (restC x.f x.b).2.2) (b := tow * playersV x.f) (A := 86) (B := 80) (by omega) m1
      have m5 := Int.mul_le_mul_of_nonneg_right h1.2.2.1 m1.1
      simp only [cond_false, cond_true]; omega
  · have m3 := mul_rng (a := (restC x.f x.b).1.1 + onceV x.b) (b := each) (A := 87) (B := 20) (by omega) (by omega)
    have m4 := mul_rng (a := (restC x.f x.b).1.2 + onceV x.b) (b := each) (A := 87) (B := 20) (by omega) (by omega)
    have m5 := Int.mul_le_mul_of_nonneg_right (show (restC x.f x.b).1.1 + onceV x.b ≤ (restC x.f x.b).1.2 + onceV x.b by omega) hk.1.1
    simp only [cond_true]; omega
theorem over_beg {f : Fmt} {b : Brd} (hf : f.Ok) (h : overV f (wonV b.st) = true) : begB b = true := by
  have hs0 := hf.s0
  unfold begB
  cases hl : b.st.length with
  | zero =>
    exfalso
    have hw : wonV b.st = (0, 0) := by unfold wonV; rw [hl]; rfl
    rw [hw] at h
    have h2 : max (0 : Int) 0 = f.sets := by unfold overV at h; exact of_decide_eq_true h
    have h3 : max (0 : Int) 0 = 0 := rfl
    omega
  | succ k => rw [decide_eq_true (by omega)]; rfl
theorem beg_prog (b : Brd) : ((!isZ b.g || !isZ b.p) || decide (0 < (b.st.length : Int))) = begB b := by
  unfold begB
  cases isZ b.g <;> cases isZ b.p <;> cases decide (0 < (b.st.length : Int)) <;> rfl
theorem C_balls_times (s : Pr) (n : Int) (h1 : -1000000000 ≤ s.1 * n ∧ s.1 * n ≤ 1000000000) (h2 : -1000000000 ≤ s.2 * n ∧ s.2 * n ≤ 1000000000) (w : World) : C0 Try.prog 126 [pv s, .int .i64 n] w (pv (timesV s n)) := by
  refine ⟨en Try.func126 Try.ntmps126 (St.init w) (h := fun F => ?_)⟩
  refine sq (h := ?_)
  refine rg (h := ?_)
  refine bxA (h := fun b0 => ?_)
  refine al (h := fun b1 => ?_)
  refine nl (h := ?_)
  refine q_seq (h := ?_)
  refine sq (h := ?_)
  refine rg (h := ?_)
  refine WL.y (hy := (by first | exact fa | exact faE)) (h := ?_)
  refine WL.y (hy := (by first | exact ld | exact ldE)) (h := ?_)
  refine WL.y (hy := mv) (h := ?_)
  refine WL.y (hy := mulI) (h := ?_)
  refine WL.y (hy := (by first | exact fa | exact faE)) (h := ?_)
  refine WL.y (hy := (by first | exact ld | exact ldE)) (h := ?_)
  refine WL.y (hy := mv) (h := ?_)
  refine WL.y (hy := mulI) (h := ?_)
  refine WL.y (hy := bd) (h := ?_)
  first | refine stA (h := ?_) | refine stEA (h := ?_)
  refine nl (h := ?_)
  refine q_seq (h := ?_)
  refine rtn (h := ?_)
  refine q_ret (hR := ?_)
  exact fun w hS => ⟨rfl, hS.sub (by repeat (first | exact SubL.nil | (apply SubL.cons; (repeat (first | exact At.here | apply At.there))) | exact SubL.refl _ | apply SubL.skip))⟩
abbrev nd6 (each tow fra : Int) (x : Fx) : List Value := [.int .i64 (ndV each tow fra x 0).1, .int .i64 (ndV each tow fra x 0).2, .int .i64 (ndV each tow fra x 1).1, .int .i64 (ndV each tow fra x 1).2, .int .i64 (ndV each tow fra x 2).1, .int .i64 (ndV each tow fra x 2).2]
set_option maxRecDepth 100000 in
theorem C_balls_needs (each tow fra : Int) (x : Fx) (hk : (0 ≤ each ∧ each ≤ 20) ∧ (0 ≤ tow ∧ tow ≤ 20) ∧ 0 ≤ fra ∧ fra ≤ 20) (hc : checkE x.f x.b = 0) (w : World) (h : Rd w x.A 2 x.b.st.length (encP x.b.st)) : C0 Try.prog 114 [.agg #[.int .i64 each, .int .i64 tow, .int .i64 fra], x.val] w (.agg (nd6 each tow fra x).toArray) := by
  obtain ⟨hf, hbo, hari, hhi⟩ := check_ok hc
  have h1 := csb_rest hc
  have h2 := once_rng x.b
  have h3 := players_rng x.f
  unfold CsB at h1
  have m1 := mul_rng (a := tow) (b := playersV x.f) (A := 20) (B := 4) (by omega) (by omega)
  have m2 := mul_rng (a := fra) (b := playersV x.f) (A := 20) (B := 4) (by omega) (by omega)
  have m3 := mul_rng (a := onceV x.b) (b := fra * playersV x.f) (A := 1) (B := 80) h2 m2
  have m4 := mul_rng (a := (restC x.f x.b).2.1) (b := tow * playersV x.f) (A := 86) (B := 80) (by omega) m1
  have m5 := mul_rng (a := (restC x.f x.b).2.2) (b := tow * playersV x.f) (A := 86) (B := 80) (by omega) m1
  have m6 := mul_rng (a := (restC x.f x.b).1.1 + onceV x.b) (b := each) (A := 87) (B := 20) (by omega) (by omega)
  have m7 := mul_rng (a := (restC x.f x.b).1.2 + onceV x.b) (b := each) (A := 87) (B := 20) (by omega) (by omega)
  refine ⟨en Try.func114 Try.ntmps114 ((St.init w).share (e := .ro x.A 2 x.b.st.length (encP x.b.st)) h rfl rfl rfl) (h := fun F => ?_)⟩
  refine sq (h := ?_)
  refine rg (h := ?_)
  refine bxA (h := fun b0 => ?_)
  refine bxA (h := fun b1 => ?_)
  refine al (h := fun b2 => ?_)
  refine nl (h := ?_)
  refine q_seq (h := ?_)
  refine sq (h := ?_)
  refine rg (h := ?_)
  refine WL.y (hy := (by first | exact fa | exact faE)) (h := ?_)
  refine WL.y (hy := (by first | exact ldA | exact ldEA)) (h := ?_)
  refine WL.y (hy := (by first | exact fa | exact faE)) (h := ?_)
  refine WL.y (hy := (by first | exact ldA | exact ldEA)) (h := ?_)
  refine cl0 (hc := fun w hS => C_balls_open x.f x.b hf (bdd_high hf hhi).1 hbo hari x.A x.b.st.length x.c w (hS.get (by repeat (first | exact Rds.ro | exact Rds.own | apply Rds.there)))) (h := ?_)
  refine WL.y (hy := mv) (h := ?_)
  refine WL.y (hy := ex) (h := ?_)
  refine WL.y (hy := ex) (h := ?_)
  refine al (h := fun b3 => ?_)
  first | refine stA (h := ?_) | refine stEA (h := ?_)
  refine WL.y (hy := asg) (h := ?_)
  refine nl (h := ?_)
  refine q_seq (h := ?_)
  refine sq (h := ?_)
  refine sq (h := ?_)
  refine rg (h := ?_)
  refine WL.y (hy := mv) (h := ?_)
  refine nl (h := ?_)
  refine q_seq (h := ?_)
  refine cd (by exact rfl) (fun h0 => ?_) (fun h0 => ?_)
  · skip
    have hov : overV x.f (wonV x.b.st) = true := h0
    have hz : onceV x.b = 0 := by rw [onceV, over_beg hf hov]; rfl
    have hr : restC x.f x.b = zC := by rw [restC, hov]; rfl
    have hE : nd6 each tow fra x = [.int .i64 0, .int .i64 0, .int .i64 0, .int .i64 0, .int .i64 0, .int .i64 0] := by
      have hn : ∀ i : Int, ndV each tow fra x i = (0, 0) := fun i => by
        unfold ndV timesV
        rw [hz, hr]
        cases decide (i = 0) <;> cases decide (i = 1) <;> simp [zC]
      simp only [nd6, hn]
    refine sq (h := ?_)
    refine rg (h := ?_)
    refine WL.y (hy := (by first | exact ldA | exact ldEA)) (h := ?_)
    first | refine stA (h := ?_) | refine stEA (h := ?_)
    refine nl (h := ?_)
    refine q_seq (h := ?_)
    refine rtn (h := ?_)
    refine q_then_ret (h := ?_)
    refine q_ret (hR := ?_)
    rw [hE]
    exact fun w hS => ⟨rfl, hS.sub (by repeat (first | exact SubL.nil | (apply SubL.cons; (repeat (first | exact At.here | apply At.there))) | exact SubL.refl _ | apply SubL.skip))⟩
  · skip
    refine skp (h := ?_)
    refine q_seq (h := ?_)
    refine sq (h := ?_)
    refine rg (h := ?_)
    refine WL.y (hy := asg) (h := ?_)
    refine nl (h := ?_)
    refine q_seq (h := ?_)
    refine ct (X := Unit) (fun _ => True) (fun _ => [(2, .pointer (some ⟨b0, 0, none⟩)), (3, .pointer (some ⟨b1, 0, none⟩)), (4, .pointer (some ⟨b2, 0, none⟩)), (5, .pointer (some ⟨b3, 0, none⟩)), (7, .int .i64 (playersV x.f))]) (fun _ => [.blk b3 103 (ccs (restC x.f x.b)), .blk b0 44 [.int .i64 each, .int .i64 tow, .int .i64 fra], .blk b1 60 x.enc, .blk b2 182 [.int .i64 0, .int .i64 0, .int .i64 0, .int .i64 0, .int .i64 0, .int .i64 0], .ro x.A 2 x.b.st.length (encP x.b.st)]) (h1 := ?_) (h2 := ?_)
    · skip
      refine sq (h := ?_)
      refine rg (h := ?_)
      refine WL.y (hy := (by first | exact fa | exact faE)) (h := ?_)
      refine WL.y (hy := (by first | exact fa | exact faE)) (h := ?_)
      refine WL.y (hy := (by first | exact ld | exact ldE)) (h := ?_)
      refine nl (h := ?_)
      refine q_seq (h := ?_)
      refine cd (by exact rfl) (fun h1 => ?_) (fun h1 => ?_)
      · skip
        have hp : playersV x.f = 4 := by rw [playersV, h1]; rfl
        refine rg (h := ?_)
        refine WL.y (hy := asg) (h := ?_)
        refine nl (h := ?_)
        rw [hp]
        exact ctn () trivial (by repeat (first | exact trivial | refine ⟨rfl, ?_⟩)) (by repeat (first | exact SubL.nil | (apply SubL.cons; (repeat (first | exact At.here | apply At.there))) | exact SubL.refl _ | apply SubL.skip))
      · skip
        have hp : playersV x.f = 2 := by rw [playersV, h1]; rfl
        refine skp (h := ?_)
        rw [hp]
        exact ctn () trivial (by repeat (first | exact trivial | refine ⟨rfl, ?_⟩)) (by repeat (first | exact SubL.nil | (apply SubL.cons; (repeat (first | exact At.here | apply At.there))) | exact SubL.refl _ | apply SubL.skip))
    rintro ⟨⟩ -
    refine sq (h := ?_)
    refine rg (h := ?_)
    refine WL.y (hy := asg) (h := ?_)
    refine nl (h := ?_)
    refine q_seq (h := ?_)
    refine ct (X := Unit) (fun _ => True) (fun _ => [(2, .pointer (some ⟨b0, 0, none⟩)), (3, .pointer (some ⟨b1, 0, none⟩)), (4, .pointer (some ⟨b2, 0, none⟩)), (5, .pointer (some ⟨b3, 0, none⟩)), (7, .int .i64 (playersV x.f)), (8, .int .i64 (onceV x.b))]) (fun _ => [.blk b3 103 (ccs (restC x.f x.b)), .blk b0 44 [.int .i64 each, .int .i64 tow, .int .i64 fra], .blk b1 60 x.enc, .blk b2 182 [.int .i64 0, .int .i64 0, .int .i64 0, .int .i64 0, .int .i64 0, .int .i64 0], .ro x.A 2 x.b.st.length (encP x.b.st)]) (h1 := ?_) (h2 := ?_)
    · skip
      refine sq (h := ?_)
      refine rg (h := ?_)
      refine WL.y (hy := (by first | exact fa | exact faE)) (h := ?_)
      refine WL.y (hy := (by first | exact ldA | exact ldEA)) (h := ?_)
      refine cl0 (hc := fun w hS => C_balls_begun x.b x.A x.b.st.length x.c w) (h := ?_)
      rw [beg_prog]
      refine WL.y (hy := mv) (h := ?_)
      refine WL.y (hy := ex) (h := ?_)
      refine WL.y (hy := ex) (h := ?_)
      refine WL.y (hy := asg) (h := ?_)
      refine WL.y (hy := asg) (h := ?_)
      refine nl (h := ?_)
      refine q_seq (h := ?_)
      refine sq (h := ?_)
      refine rg (h := ?_)
      refine WL.y (hy := mv) (h := ?_)
      refine nl (h := ?_)
      refine q_seq (h := ?_)
      refine cd (by exact rfl) (fun h2 => ?_) (fun h2 => ?_)
      · skip
        have hz : onceV x.b = 0 := by rw [onceV, h2]; rfl
        refine rg (h := ?_)
        refine WL.y (hy := asg) (h := ?_)
        refine nl (h := ?_)
        rw [hz]
        exact ctn () trivial (by repeat (first | exact trivial | refine ⟨rfl, ?_⟩)) (by repeat (first | exact SubL.nil | (apply SubL.cons; (repeat (first | exact At.here | apply At.there))) | exact SubL.refl _ | apply SubL.skip))
      · skip
        have hz : onceV x.b = 1 := by rw [onceV, h2]; rfl
        refine skp (h := ?_)
        rw [hz]
        exact ctn () trivial (by repeat (first | exact trivial | refine ⟨rfl, ?_⟩)) (by repeat (first | exact SubL.nil | (apply SubL.cons; (repeat (first | exact At.here | apply At.there))) | exact SubL.refl _ | apply SubL.skip))
    rintro ⟨⟩ -
    refine sq (h := ?_)
    refine rg (h := ?_)
    refine WL.y (hy := (by first | exact fa | exact faE)) (h := ?_)
    refine WL.y (hy := (by first | exact fa | exact faE)) (h := ?_)
    refine WL.y (hy := (by first | exact ld | exact ldE)) (h := ?_)
    refine WL.y (hy := mv) (h := ?_)
    refine WL.y (hy := addI) (h := ?_)
    refine WL.y (hy := (by first | exact fa | exact faE)) (h := ?_)
    refine WL.y (hy := (by first | exact fa | exact faE)) (h := ?_)
    refine WL.y (hy := (by first | exact ld | exact ldE)) (h := ?_)
    refine WL.y (hy := mv) (h := ?_)
    refine WL.y (hy := addI) (h := ?_)
    refine WL.y (hy := bd) (h := ?_)
    refine WL.y (hy := (by first | exact fa | exact faE)) (h := ?_)
    refine WL.y (hy := (by first | exact ld | exact ldE)) (h := ?_)
    refine cl0 (hc := fun w hS => C_balls_times ((restC x.f x.b).1.1 + onceV x.b, (restC x.f x.b).1.2 + onceV x.b) each (by dsimp only; omega) (by dsimp only; omega) w) (h := ?_)
    refine WL.y (hy := ixA) (h := ?_)
    first | refine stA (h := ?_) | refine stEA (h := ?_)
    refine nl (h := ?_)
    refine q_seq (h := ?_)
    refine sq (h := ?_)
    refine rg (h := ?_)
    refine WL.y (hy := (by first | exact fa | exact faE)) (h := ?_)
    refine WL.y (hy := (by first | exact ldA | exact ldEA)) (h := ?_)
    refine WL.y (hy := (by first | exact fa | exact faE)) (h := ?_)
    refine WL.y (hy := (by first | exact ld | exact ldE)) (h := ?_)
    refine WL.y (hy := mv) (h := ?_)
    refine WL.y (hy := mulI) (h := ?_)
    refine cl0 (hc := fun w hS => C_balls_times (restC x.f x.b).2 (tow * playersV x.f) (by omega) (by omega) w) (h := ?_)
    refine WL.y (hy := ixA) (h := ?_)
    first | refine stA (h := ?_) | refine stEA (h := ?_)
    refine nl (h := ?_)
    refine q_seq (h := ?_)
    refine sq (h := ?_)
    refine rg (h := ?_)
    refine WL.y (hy := mv) (h := ?_)
    refine WL.y (hy := mv) (h := ?_)
    refine WL.y (hy := bd) (h := ?_)
    refine WL.y (hy := (by first | exact fa | exact faE)) (h := ?_)
    refine WL.y (hy := (by first | exact ld | exact ldE)) (h := ?_)
    refine WL.y (hy := mv) (h := ?_)
    refine WL.y (hy := mulI) (h := ?_)
    refine cl0 (hc := fun w hS => C_balls_times (onceV x.b, onceV x.b) (fra * playersV x.f) (by dsimp only; omega) (by dsimp only; omega) w) (h := ?_)
    refine WL.y (hy := ixA) (h := ?_)
    first | refine stA (h := ?_) | refine stEA (h := ?_)
    refine nl (h := ?_)
    refine q_seq (h := ?_)
    refine sq (h := ?_)
    refine rg (h := ?_)
    refine WL.y (hy := (by first | exact ldA | exact ldEA)) (h := ?_)
    first | refine stA (h := ?_) | refine stEA (h := ?_)
    refine nl (h := ?_)
    refine q_seq (h := ?_)
    refine rtn (h := ?_)
    refine q_ret (hR := ?_)
    exact fun w hS => ⟨rfl, hS.sub (by repeat (first | exact SubL.nil | (apply SubL.cons; (repeat (first | exact At.here | apply At.there))) | exact SubL.refl _ | apply SubL.skip))⟩
theorem range_form (f : Fmt) : ∃ lo hi pts : Int, rangeR f = [.agg #[.int .i64 lo, .int .i64 hi], .int .i64 pts, .int .i64 (chkF f)] ∧ (chkF f = 0 → hi = (rangeE f).high ∧ lo = (rangeE f).low ∧ pts = (rangeE f).pts) := by
  cases hc : !decide (chkF f = 0)
  · have h0 : chkF f = 0 := by simpa using hc
    exact ⟨_, _, _, by rw [rangeR_ok hc, h0], fun _ => ⟨rfl, rfl, rfl⟩⟩
  · have h1 : decide (chkF f = 0) = false := by simpa using hc
    exact ⟨0, 0, 0, by rw [rangeR, h1]; rfl, fun h => by rw [h] at h1; cases h1⟩
theorem check_chk {f : Fmt} {b : Brd} (h : checkE f b = 0) : (!decide (chkF f = 0)) = false := by
  unfold checkE at h
  cases hc : !decide (chkF f = 0)
  · rfl
  · rw [hc, cond_true] at h
    rw [h] at hc; cases hc
theorem C_ref9_isFixture (x : Fx) (w : World) (h : Rd w x.A 2 x.b.st.length (encP x.b.st)) (hnc : x.b.st.length ≤ x.c) (hn : x.b.st.length ≤ 1000) : C0 Try.prog 71 [x.val] w (.bool (fxOk x)) := by
  obtain ⟨lo, hi, pts, hR, hRf⟩ := range_form x.f
  obtain ⟨is, e, hA, hL, hfa⟩ := check_form x.f x.b
  refine ⟨en Try.func71 Try.ntmps71 ((St.init w).share (e := .ro x.A 2 x.b.st.length (encP x.b.st)) h rfl rfl rfl) (h := fun F => ?_)⟩
  refine sq (h := ?_)
  refine rg (h := ?_)
  refine bxA (h := fun b0 => ?_)
  refine WL.y (hy := asg) (h := ?_)
  refine nl (h := ?_)
  refine q_seq (h := ?_)
  refine sq (h := ?_)
  refine sq (h := ?_)
  refine rg (h := ?_)
  refine WL.y (hy := (by first | exact fa | exact faE)) (h := ?_)
  refine WL.y (hy := (by first | exact ld | exact ldE)) (h := ?_)
  refine cl0 (hc := fun w hS => C_ref9_within _ _ _ w) (h := ?_)
  refine WL.y (hy := notB) (h := ?_)
  refine nl (h := ?_)
  refine q_seq (h := ?_)
  refine cd (by exact rfl) (fun h0 => ?_) (fun h0 => ?_)
  · skip
    have hE : fxOk x = false := by rw [fxOk, h0]; rfl
    refine sq (h := ?_)
    refine rg (h := ?_)
    refine WL.y (hy := asg) (h := ?_)
    refine nl (h := ?_)
    refine q_seq (h := ?_)
    refine rtn (h := ?_)
    refine q_then_ret (h := ?_)
    refine q_ret (hR := ?_)
    rw [hE]
    exact fun w hS => ⟨rfl, hS.sub (by repeat (first | exact SubL.nil | (apply SubL.cons; (repeat (first | exact At.here | apply At.there))) | exact SubL.refl _ | apply SubL.skip))⟩
  · skip
    have hd := h0
    refine skp (h := ?_)
    refine q_seq (h := ?_)
    refine sq (h := ?_)
    refine rg (h := ?_)
    refine WL.y (hy := (by first | exact fa | exact faE)) (h := ?_)
    refine WL.y (hy := (by first | exact ldA | exact ldEA)) (h := ?_)
    refine cl0 (hc := fun w hS => C_ref1_Range x.f w) (h := ?_)
    rw [hR]
    refine WL.y (hy := mv) (h := ?_)
    refine WL.y (hy := ex) (h := ?_)
    refine WL.y (hy := ex) (h := ?_)
    refine WL.y (hy := ex) (h := ?_)
    refine al (h := fun b1 => ?_)
    first | refine stA (h := ?_) | refine stEA (h := ?_)
    refine WL.y (hy := asg) (h := ?_)
    refine WL.y (hy := asg) (h := ?_)
    refine nl (h := ?_)
    refine q_seq (h := ?_)
    refine sq (h := ?_)
    refine sq (h := ?_)
    refine rg (h := ?_)
    refine WL.y (hy := mv) (h := ?_)
    refine WL.y (hy := neq) (h := ?_)
    refine WL.y (hy := mv) (h := ?_)
    apply brOr 4 21 25 (by exact rfl)
    · intro hb1
      refine un (h := ?_)
      refine WL.y (hy := (by first | exact fa | exact faE)) (h := ?_)
      refine un (h := ?_)
      refine WL.y (hy := (by first | exact ld | exact ldE)) (h := ?_)
      refine un (h := ?_)
      refine WL.y (hy := lss) (h := ?_)
      refine WL.y (hy := (by first | exact pkT | exact pkF)) (h := ?_)
      exact mg (by repeat (first | exact trivial | refine ⟨rfl, ?_⟩ | refine ⟨by rw [hb1]; rfl, ?_⟩)) (by repeat (first | exact SubL.nil | (apply SubL.cons; (repeat (first | exact At.here | apply At.there))) | exact SubL.refl _ | apply SubL.skip))
    · intro hb1
      repeat (first | refine un (h := ?_) | refine sk (h := ?_) | refine WL.y (hy := pkF) (h := ?_) | refine WL.y (hy := pkT) (h := ?_))
      exact mg (by repeat (first | exact trivial | refine ⟨rfl, ?_⟩ | refine ⟨by rw [hb1]; rfl, ?_⟩)) (by repeat (first | exact SubL.nil | (apply SubL.cons; (repeat (first | exact At.here | apply At.there))) | exact SubL.refl _ | apply SubL.skip))
    refine nl (h := ?_)
    refine q_seq (h := ?_)
    refine cd (by exact rfl) (fun h2 => ?_) (fun h2 => ?_)
    · skip
      have hne : ¬ checkE x.f x.b = 0 := fun h0 => by
        have hq1 := check_chk h0
        obtain ⟨-, -, -, hq⟩ := check_ok h0
        have h3 := (hRf (by simpa using hq1)).1
        have h' : (!decide (chkF x.f = 0) || decide (hi < 0)) = true := h2
        rw [hq1, Bool.false_or, decide_eq_true_eq, h3] at h'
        exact hq h'
      have hE : fxOk x = false := by rw [fxOk, hd, decide_eq_false hne]; rfl
      refine sq (h := ?_)
      refine rg (h := ?_)
      refine WL.y (hy := asg) (h := ?_)
      refine nl (h := ?_)
      refine q_seq (h := ?_)
      refine rtn (h := ?_)
      refine q_then_ret (h := ?_)
      refine q_ret (hR := ?_)
      rw [hE]
      exact fun w hS => ⟨rfl, hS.sub (by repeat (first | exact SubL.nil | (apply SubL.cons; (repeat (first | exact At.here | apply At.there))) | exact SubL.refl _ | apply SubL.skip))⟩
    · skip
      have h' : (!decide (chkF x.f = 0) || decide (hi < 0)) = false := h2
      rw [Bool.or_eq_false_iff] at h'
      have h3 := (hRf (by simpa using h'.1)).1
      rw [h3] at h'
      rw [h'.2, cond_false] at hL
      have hE : fxOk x = (is && decide (e = 0)) := by
        rw [fxOk, hd, hL, Bool.false_or, Bool.not_not]
        cases he : decide (e = 0)
        · rw [show decide ((bif !false then e else bif !is then (12 : Int) else 0) = 0) = decide (e = 0) from rfl, he, Bool.and_false]
        · cases is <;> rfl
      refine skp (h := ?_)
      refine q_seq (h := ?_)
      refine sq (h := ?_)
      refine rg (h := ?_)
      refine WL.y (hy := (by first | exact fa | exact faE)) (h := ?_)
      refine WL.y (hy := (by first | exact ldA | exact ldEA)) (h := ?_)
      refine WL.y (hy := (by first | exact fa | exact faE)) (h := ?_)
      refine WL.y (hy := (by first | exact ldA | exact ldEA)) (h := ?_)
      refine cl0 (hc := fun w hS => C_ref1_Arises x.f x.b x.A x.b.st.length x.c hnc w (hS.get (by repeat (first | exact Rds.ro | exact Rds.own | apply Rds.there))) hn) (h := ?_)
      rw [hA]
      refine WL.y (hy := mv) (h := ?_)
      refine WL.y (hy := ex) (h := ?_)
      refine WL.y (hy := ex) (h := ?_)
      refine WL.y (hy := asg) (h := ?_)
      refine WL.y (hy := asg) (h := ?_)
      refine nl (h := ?_)
      refine q_seq (h := ?_)
      refine sq (h := ?_)
      refine rg (h := ?_)
      refine WL.y (hy := mv) (h := ?_)
      refine WL.y (hy := mv) (h := ?_)
      apply brAnd 3 35 38 (by exact rfl)
      · intro hb3
        refine un (h := ?_)
        refine WL.y (hy := mv) (h := ?_)
        refine un (h := ?_)
        refine WL.y (hy := eql) (h := ?_)
        refine WL.y (hy := (by first | exact pkT | exact pkF)) (h := ?_)
        exact mg (by repeat (first | exact trivial | refine ⟨rfl, ?_⟩ | refine ⟨by rw [hb3]; rfl, ?_⟩)) (by repeat (first | exact SubL.nil | (apply SubL.cons; (repeat (first | exact At.here | apply At.there))) | exact SubL.refl _ | apply SubL.skip))
      · intro hb3
        repeat (first | refine un (h := ?_) | refine sk (h := ?_) | refine WL.y (hy := pkF) (h := ?_) | refine WL.y (hy := pkT) (h := ?_))
        exact mg (by repeat (first | exact trivial | refine ⟨rfl, ?_⟩ | refine ⟨by rw [hb3]; rfl, ?_⟩)) (by repeat (first | exact SubL.nil | (apply SubL.cons; (repeat (first | exact At.here | apply At.there))) | exact SubL.refl _ | apply SubL.skip))
      refine WL.y (hy := asg) (h := ?_)
      refine nl (h := ?_)
      refine q_seq (h := ?_)
      refine rtn (h := ?_)
      refine q_ret (hR := ?_)
      rw [hE]
      exact fun w hS => ⟨rfl, hS.sub (by repeat (first | exact SubL.nil | (apply SubL.cons; (repeat (first | exact At.here | apply At.there))) | exact SubL.refl _ | apply SubL.skip))⟩
set_option maxRecDepth 100000 in
set_option maxHeartbeats 2000000 in
theorem C_ref9_Check (d : Dp) (a : DA) (w : World) (h : DpR w d a) (hsm : ∀ x ∈ d.fx, x.b.st.length ≤ 1000) : C0 Try.prog 30 [d.val a] w (.int .i64 (depE d)) := by
  have hsc := h.sc
  have hfc := h.fc
  have hcc := h.cc
  refine ⟨en Try.func30 Try.ntmps30 ((((St.init w).share (e := .ro a.sA 1 d.st.length (encI d.st)) h.s rfl rfl rfl).share (e := .ro a.fA 16 d.fx.length (d.fx.map Fx.enc)) h.f rfl rfl rfl).share (e := .ro a.cA 3 d.cr.length (d.cr.map Cx.enc)) h.c rfl rfl rfl) (h := fun F => ?_)⟩
  refine sq (h := ?_)
  refine rg (h := ?_)
  refine bxA (h := fun b0 => ?_)
  refine WL.y (hy := asg) (h := ?_)
  refine nl (h := ?_)
  refine q_seq (h := ?_)
  refine sq (h := ?_)
  refine sq (h := ?_)
  refine rg (h := ?_)
  refine WL.y (hy := (by first | exact fa | exact faE)) (h := ?_)
  refine WL.y (hy := (by first | exact fa | exact faE)) (h := ?_)
  refine WL.y (hy := (by first | exact ld | exact ldE)) (h := ?_)
  refine cl0 (hc := fun w hS => C_ref9_within _ _ _ w) (h := ?_)
  refine WL.y (hy := notB) (h := ?_)
  refine WL.y (hy := mv) (h := ?_)
  apply brOr 6 12 18 (by exact rfl)
  · intro hb0
    refine un (h := ?_)
    refine WL.y (hy := (by first | exact fa | exact faE)) (h := ?_)
    refine un (h := ?_)
    refine WL.y (hy := (by first | exact fa | exact faE)) (h := ?_)
    refine un (h := ?_)
    refine WL.y (hy := (by first | exact ld | exact ldE)) (h := ?_)
    refine un (h := ?_)
    refine cl0 (hc := fun w hS => C_ref9_within _ _ _ w) (h := ?_)
    refine un (h := ?_)
    refine WL.y (hy := notB) (h := ?_)
    refine WL.y (hy := (by first | exact pkT | exact pkF)) (h := ?_)
    exact mg (by repeat (first | exact trivial | refine ⟨rfl, ?_⟩ | refine ⟨by rw [hb0]; rfl, ?_⟩)) (by repeat (first | exact SubL.nil | (apply SubL.cons; (repeat (first | exact At.here | apply At.there))) | exact SubL.refl _ | apply SubL.skip))
  · intro hb0
    repeat (first | refine un (h := ?_) | refine sk (h := ?_) | refine WL.y (hy := pkF) (h := ?_) | refine WL.y (hy := pkT) (h := ?_))
    exact mg (by repeat (first | exact trivial | refine ⟨rfl, ?_⟩ | refine ⟨by rw [hb0]; rfl, ?_⟩)) (by repeat (first | exact SubL.nil | (apply SubL.cons; (repeat (first | exact At.here | apply At.there))) | exact SubL.refl _ | apply SubL.skip))
  refine WL.y (hy := mv) (h := ?_)
  apply brOr 6 19 25 (by exact rfl)
  · intro hb1
    refine un (h := ?_)
    refine WL.y (hy := (by first | exact fa | exact faE)) (h := ?_)
    refine un (h := ?_)
    refine WL.y (hy := (by first | exact fa | exact faE)) (h := ?_)
    refine un (h := ?_)
    refine WL.y (hy := (by first | exact ld | exact ldE)) (h := ?_)
    refine un (h := ?_)
    refine cl0 (hc := fun w hS => C_ref9_within _ _ _ w) (h := ?_)
    refine un (h := ?_)
    refine WL.y (hy := notB) (h := ?_)
    refine WL.y (hy := (by first | exact pkT | exact pkF)) (h := ?_)
    exact mg (by repeat (first | exact trivial | refine ⟨rfl, ?_⟩ | refine ⟨by rw [hb1]; rfl, ?_⟩)) (by repeat (first | exact SubL.nil | (apply SubL.cons; (repeat (first | exact At.here | apply At.there))) | exact SubL.refl _ | apply SubL.skip))
  · intro hb1
    repeat (first | refine un (h := ?_) | refine sk (h := ?_) | refine WL.y (hy := pkF) (h := ?_) | refine WL.y (hy := pkT) (h := ?_))
    exact mg (by repeat (first | exact trivial | refine ⟨rfl, ?_⟩ | refine ⟨by rw [hb1]; rfl, ?_⟩)) (by repeat (first | exact SubL.nil | (apply SubL.cons; (repeat (first | exact At.here | apply At.there))) | exact SubL.refl _ | apply SubL.skip))
  refine WL.y (hy := mv) (h := ?_)
  apply brOr 5 26 31 (by exact rfl)
  · intro hb2
    refine un (h := ?_)
    refine WL.y (hy := (by first | exact fa | exact faE)) (h := ?_)
    refine un (h := ?_)
    refine WL.y (hy := (by first | exact ld | exact ldE)) (h := ?_)
    refine un (h := ?_)
    refine WL.y (hy := lenS) (h := ?_)
    refine un (h := ?_)
    refine WL.y (hy := neq) (h := ?_)
    refine WL.y (hy := (by first | exact pkT | exact pkF)) (h := ?_)
    exact mg (by repeat (first | exact trivial | refine ⟨rfl, ?_⟩ | refine ⟨by rw [hb2]; rfl, ?_⟩)) (by repeat (first | exact SubL.nil | (apply SubL.cons; (repeat (first | exact At.here | apply At.there))) | exact SubL.refl _ | apply SubL.skip))
  · intro hb2
    repeat (first | refine un (h := ?_) | refine sk (h := ?_) | refine WL.y (hy := pkF) (h := ?_) | refine WL.y (hy := pkT) (h := ?_))
    exact mg (by repeat (first | exact trivial | refine ⟨rfl, ?_⟩ | refine ⟨by rw [hb2]; rfl, ?_⟩)) (by repeat (first | exact SubL.nil | (apply SubL.cons; (repeat (first | exact At.here | apply At.there))) | exact SubL.refl _ | apply SubL.skip))
  refine WL.y (hy := mv) (h := ?_)
  apply brOr 5 32 37 (by exact rfl)
  · intro hb3
    refine un (h := ?_)
    refine WL.y (hy := (by first | exact fa | exact faE)) (h := ?_)
    refine un (h := ?_)
    refine WL.y (hy := (by first | exact ld | exact ldE)) (h := ?_)
    refine un (h := ?_)
    refine WL.y (hy := lenS) (h := ?_)
    refine un (h := ?_)
    refine WL.y (hy := gtr) (h := ?_)
    refine WL.y (hy := (by first | exact pkT | exact pkF)) (h := ?_)
    exact mg (by repeat (first | exact trivial | refine ⟨rfl, ?_⟩ | refine ⟨by rw [hb3]; rfl, ?_⟩)) (by repeat (first | exact SubL.nil | (apply SubL.cons; (repeat (first | exact At.here | apply At.there))) | exact SubL.refl _ | apply SubL.skip))
  · intro hb3
    repeat (first | refine un (h := ?_) | refine sk (h := ?_) | refine WL.y (hy := pkF) (h := ?_) | refine WL.y (hy := pkT) (h := ?_))
    exact mg (by repeat (first | exact trivial | refine ⟨rfl, ?_⟩ | refine ⟨by rw [hb3]; rfl, ?_⟩)) (by repeat (first | exact SubL.nil | (apply SubL.cons; (repeat (first | exact At.here | apply At.there))) | exact SubL.refl _ | apply SubL.skip))
  refine WL.y (hy := mv) (h := ?_)
  apply brOr 5 38 43 (by exact rfl)
  · intro hb4
    refine un (h := ?_)
    refine WL.y (hy := (by first | exact fa | exact faE)) (h := ?_)
    refine un (h := ?_)
    refine WL.y (hy := (by first | exact ld | exact ldE)) (h := ?_)
    refine un (h := ?_)
    refine WL.y (hy := lenS) (h := ?_)
    refine un (h := ?_)
    refine WL.y (hy := gtr) (h := ?_)
    refine WL.y (hy := (by first | exact pkT | exact pkF)) (h := ?_)
    exact mg (by repeat (first | exact trivial | refine ⟨rfl, ?_⟩ | refine ⟨by rw [hb4]; rfl, ?_⟩)) (by repeat (first | exact SubL.nil | (apply SubL.cons; (repeat (first | exact At.here | apply At.there))) | exact SubL.refl _ | apply SubL.skip))
  · intro hb4
    repeat (first | refine un (h := ?_) | refine sk (h := ?_) | refine WL.y (hy := pkF) (h := ?_) | refine WL.y (hy := pkT) (h := ?_))
    exact mg (by repeat (first | exact trivial | refine ⟨rfl, ?_⟩ | refine ⟨by rw [hb4]; rfl, ?_⟩)) (by repeat (first | exact SubL.nil | (apply SubL.cons; (repeat (first | exact At.here | apply At.there))) | exact SubL.refl _ | apply SubL.skip))
  refine nl (h := ?_)
  refine q_seq (h := ?_)
  refine cd (by exact rfl) (fun h5 => ?_) (fun h5 => ?_)
  · skip
    have hE : depE d = 90 := by
      cases hk : kitB d
      · exact dep_kit hk
      · refine dep_len ?_
        rw [lenB]
        rw [kitB, Bool.and_eq_true, Bool.and_eq_true] at hk
        rw [hk.1.1, hk.1.2, hk.2] at h5
        rw [show (!decide ((d.st.length : Int) = 3) || decide (30 < (d.fx.length : Int)) || decide (30 < (d.cr.length : Int))) = true from h5]; rfl
    refine sq (h := ?_)
    refine rg (h := ?_)
    refine WL.y (hy := asg) (h := ?_)
    refine nl (h := ?_)
    refine q_seq (h := ?_)
    refine rtn (h := ?_)
    refine q_then_ret (h := ?_)
    refine q_ret (hR := ?_)
    rw [hE]
    exact fun w hS => ⟨rfl, hS.sub (by repeat (first | exact SubL.nil | (apply SubL.cons; (repeat (first | exact At.here | apply At.there))) | exact SubL.refl _ | apply SubL.skip))⟩
  · skip
    simp only [Bool.or_eq_false_iff, Bool.not_eq_false', decide_eq_true_eq, decide_eq_false_iff_not] at h5
    have hkit : kitB d = true := by rw [kitB, h5.1.1.1.1.1, h5.1.1.1.1.2, h5.1.1.1.2]; rfl
    have hln : lenB d = true := by rw [lenB, decide_eq_true h5.1.1.2, decide_eq_false h5.1.2, decide_eq_false h5.2]; rfl
    have hl3 : d.st.length = 3 := by have := h5.1.1.2; omega
    refine skp (h := ?_)
    refine q_seq (h := ?_)
    refine sq (h := ?_)
    refine sq (h := ?_)
    refine rg (h := ?_)
    refine WL.y (hy := asg) (h := ?_)
    refine nl (h := ?_)
    refine q_seq (h := ?_)
    refine bk (h := ?_)
    refine lp (X := Nat) (I := fun k => k ≤ 3 ∧ Upto d.st (fun n => wi n 0 99999) k) (le := fun k => [(1, .pointer (some ⟨b0, 0, none⟩)), (3, .int .i64 k)]) (Le := fun _ => [.blk b0 49 (d.cells a), .ro a.sA 1 d.st.length (encI d.st), .ro a.fA 16 d.fx.length (d.fx.map Fx.enc), .ro a.cA 3 d.cr.length (d.cr.map Cx.enc)]) (μ := fun k => 3 - k) 0 ⟨Nat.zero_le _, upto_zero⟩ (by repeat (first | exact trivial | refine ⟨rfl, ?_⟩)) (by repeat (first | exact SubL.nil | (apply SubL.cons; (repeat (first | exact At.here | apply At.there))) | exact SubL.refl _ | apply SubL.skip)) (fun k hk => ?_)
    obtain ⟨hk0, hku⟩ := hk
    refine sq (h := ?_)
    refine sq (h := ?_)
    refine rg (h := ?_)
    refine WL.y (hy := mv) (h := ?_)
    refine WL.y (hy := lss) (h := ?_)
    refine nl (h := ?_)
    refine q_seq (h := ?_)
    refine cd (by exact rfl) (fun h6 => ?_) (fun h6 => ?_)
    · skip
      have hk3 : k < 3 := by have := of_decide_eq_true h6; omega
      obtain ⟨m, hm⟩ : ∃ m, d.st[k]? = some m := ⟨_, List.getElem?_eq_getElem (by omega)⟩
      refine skp (h := ?_)
      refine q_seq (h := ?_)
      refine sq (h := ?_)
      refine bk (h := ?_)
      refine sq (h := ?_)
      refine rg (h := ?_)
      refine WL.y (hy := (by first | exact fa | exact faE)) (h := ?_)
      refine WL.y (hy := (by first | exact ld | exact ldE)) (h := ?_)
      refine WL.y (hy := mv) (h := ?_)
      refine WL.y (hy := ix (A := a.sA) (m := d.st.length)) (h := ?_)
      refine WL.y (hy := ldE (A := a.sA) (hk := encI_at hm)) (h := ?_)
      refine cl0 (hc := fun w hS => C_ref9_within _ _ _ w) (h := ?_)
      refine WL.y (hy := notB) (h := ?_)
      refine nl (h := ?_)
      refine q_seq (h := ?_)
      refine cd (by exact rfl) (fun h7 => ?_) (fun h7 => ?_)
      · skip
        have hE : depE d = 90 := dep_st (all_no hm (by simpa using h7))
        refine sq (h := ?_)
        refine rg (h := ?_)
        refine WL.y (hy := asg) (h := ?_)
        refine nl (h := ?_)
        refine q_seq (h := ?_)
        refine rtn (h := ?_)
        refine q_blk_ret (h := ?_)
        refine q_then_ret (h := ?_)
        refine q_then_ret (h := ?_)
        refine q_blk_ret (h := ?_)
        refine q_then_ret (h := ?_)
        refine q_ret (hR := ?_)
        rw [hE]
        exact fun w hS => ⟨rfl, hS.sub (by repeat (first | exact SubL.nil | (apply SubL.cons; (repeat (first | exact At.here | apply At.there))) | exact SubL.refl _ | apply SubL.skip))⟩
      · skip
        have hkn := upto_succ hku hm (by simpa using h7)
        refine skp (h := ?_)
        refine q_blk_norm (h := ?_)
        refine q_seq (h := ?_)
        refine rg (h := ?_)
        refine WL.y (hy := mv) (h := ?_)
        refine WL.y (hy := addI) (h := ?_)
        refine WL.y (hy := asg) (h := ?_)
        refine nl (h := ?_)
        refine rn (x := k) (k + 1) ⟨by omega, hkn⟩ (by omega) (by repeat (first | exact trivial | refine ⟨rfl, ?_⟩)) (by repeat (first | exact SubL.nil | (apply SubL.cons; (repeat (first | exact At.here | apply At.there))) | exact SubL.refl _ | apply SubL.skip))
    · skip
      have hk3 : k = 3 := by have := of_decide_eq_false h6; omega
      have hst : stB d = true := all_to fun i x hi => hku i x (by omega)
      refine et (h := ?_)
      refine q_then_exit (h := ?_)
      refine q_then_exit (h := ?_)
      refine q_blk_hit (h := ?_)
      refine q_seq (h := ?_)
      refine sq (h := ?_)
      refine sq (h := ?_)
      refine rg (h := ?_)
      refine WL.y (hy := asg) (h := ?_)
      refine nl (h := ?_)
      refine q_seq (h := ?_)
      refine bk (h := ?_)
      refine lp (X := Nat) (I := fun j => j ≤ d.fx.length ∧ Upto d.fx fxOk j) (le := fun j => [(1, .pointer (some ⟨b0, 0, none⟩)), (4, .int .i64 j)]) (Le := fun _ => [.blk b0 49 (d.cells a), .ro a.sA 1 d.st.length (encI d.st), .ro a.fA 16 d.fx.length (d.fx.map Fx.enc), .ro a.cA 3 d.cr.length (d.cr.map Cx.enc)]) (μ := fun j => d.fx.length - j) 0 ⟨Nat.zero_le _, upto_zero⟩ (by repeat (first | exact trivial | refine ⟨rfl, ?_⟩)) (by repeat (first | exact SubL.nil | (apply SubL.cons; (repeat (first | exact At.here | apply At.there))) | exact SubL.refl _ | apply SubL.skip)) (fun j hj => ?_)
      obtain ⟨hj0, hju⟩ := hj
      refine sq (h := ?_)
      refine sq (h := ?_)
      refine rg (h := ?_)
      refine WL.y (hy := mv) (h := ?_)
      refine WL.y (hy := (by first | exact fa | exact faE)) (h := ?_)
      refine WL.y (hy := (by first | exact ld | exact ldE)) (h := ?_)
      refine WL.y (hy := lenS) (h := ?_)
      refine WL.y (hy := lss) (h := ?_)
      refine nl (h := ?_)
      refine q_seq (h := ?_)
      refine cd (by exact rfl) (fun h8 => ?_) (fun h8 => ?_)
      · skip
        have hkn2 : j < d.fx.length := by have := of_decide_eq_true h8; omega
        obtain ⟨x, hx⟩ : ∃ x, d.fx[j]? = some x := ⟨_, List.getElem?_eq_getElem hkn2⟩
        refine skp (h := ?_)
        refine q_seq (h := ?_)
        refine sq (h := ?_)
        refine bk (h := ?_)
        refine sq (h := ?_)
        refine rg (h := ?_)
        refine WL.y (hy := (by first | exact fa | exact faE)) (h := ?_)
        refine WL.y (hy := (by first | exact ld | exact ldE)) (h := ?_)
        refine WL.y (hy := mv) (h := ?_)
        refine WL.y (hy := ix (A := a.fA) (m := d.fx.length)) (h := ?_)
        refine WL.y (hy := ldEW (A := a.fA) (hk := map_at hx)) (h := ?_)
        refine cl0 (hc := fun w hS => C_ref9_isFixture x w ((hS.old (h.x x (List.mem_of_getElem? hx)).r).get) (h.x x (List.mem_of_getElem? hx)).n (hsm x (List.mem_of_getElem? hx))) (h := ?_)
        refine WL.y (hy := notB) (h := ?_)
        refine nl (h := ?_)
        refine q_seq (h := ?_)
        refine cd (by exact rfl) (fun h9 => ?_) (fun h9 => ?_)
        · skip
          have hE : depE d = 90 := dep_fx (all_no hx (by simpa using h9))
          refine sq (h := ?_)
          refine rg (h := ?_)
          refine WL.y (hy := asg) (h := ?_)
          refine nl (h := ?_)
          refine q_seq (h := ?_)
          refine rtn (h := ?_)
          refine q_blk_ret (h := ?_)
          refine q_then_ret (h := ?_)
          refine q_then_ret (h := ?_)
          refine q_blk_ret (h := ?_)
          refine q_then_ret (h := ?_)
          refine q_ret (hR := ?_)
          rw [hE]
          exact fun w hS => ⟨rfl, hS.sub (by repeat (first | exact SubL.nil | (apply SubL.cons; (repeat (first | exact At.here | apply At.there))) | exact SubL.refl _ | apply SubL.skip))⟩
        · skip
          have hjn := upto_succ hju hx (by simpa using h9)
          refine skp (h := ?_)
          refine q_blk_norm (h := ?_)
          refine q_seq (h := ?_)
          refine rg (h := ?_)
          refine WL.y (hy := mv) (h := ?_)
          refine WL.y (hy := addI) (h := ?_)
          refine WL.y (hy := asg) (h := ?_)
          refine nl (h := ?_)
          refine rn (x := j) (j + 1) ⟨hkn2, hjn⟩ (by omega) (by repeat (first | exact trivial | refine ⟨rfl, ?_⟩)) (by repeat (first | exact SubL.nil | (apply SubL.cons; (repeat (first | exact At.here | apply At.there))) | exact SubL.refl _ | apply SubL.skip))
      · skip
        have hkn2 : j = d.fx.length := by have := of_decide_eq_false h8; omega
        have hfx : fxB d = true := all_to fun i x hi => hju i x (by omega)
        refine et (h := ?_)
        refine q_then_exit (h := ?_)
        refine q_then_exit (h := ?_)
        refine q_blk_hit (h := ?_)
        refine q_seq (h := ?_)
        refine sq (h := ?_)
        refine sq (h := ?_)
        refine rg (h := ?_)
        refine WL.y (hy := asg) (h := ?_)
        refine nl (h := ?_)
        refine q_seq (h := ?_)
        refine bk (h := ?_)
        refine lp (X := Nat) (I := fun i => i ≤ d.cr.length ∧ Upto d.cr crOk i) (le := fun i => [(1, .pointer (some ⟨b0, 0, none⟩)), (5, .int .i64 i)]) (Le := fun _ => [.blk b0 49 (d.cells a), .ro a.sA 1 d.st.length (encI d.st), .ro a.fA 16 d.fx.length (d.fx.map Fx.enc), .ro a.cA 3 d.cr.length (d.cr.map Cx.enc)]) (μ := fun i => d.cr.length - i) 0 ⟨Nat.zero_le _, upto_zero⟩ (by repeat (first | exact trivial | refine ⟨rfl, ?_⟩)) (by repeat (first | exact SubL.nil | (apply SubL.cons; (repeat (first | exact At.here | apply At.there))) | exact SubL.refl _ | apply SubL.skip)) (fun i hi => ?_)
        obtain ⟨hi0, hiu⟩ := hi
        refine sq (h := ?_)
        refine sq (h := ?_)
        refine rg (h := ?_)
        refine WL.y (hy := mv) (h := ?_)
        refine WL.y (hy := (by first | exact fa | exact faE)) (h := ?_)
        refine WL.y (hy := (by first | exact ld | exact ldE)) (h := ?_)
        refine WL.y (hy := lenS) (h := ?_)
        refine WL.y (hy := lss) (h := ?_)
        refine nl (h := ?_)
        refine q_seq (h := ?_)
        refine cd (by exact rfl) (fun h10 => ?_) (fun h10 => ?_)
        · skip
          have hkn3 : i < d.cr.length := by have := of_decide_eq_true h10; omega
          obtain ⟨y, hc⟩ : ∃ y, d.cr[i]? = some y := ⟨_, List.getElem?_eq_getElem hkn3⟩
          refine skp (h := ?_)
          refine q_seq (h := ?_)
          refine sq (h := ?_)
          refine bk (h := ?_)
          refine sq (h := ?_)
          refine rg (h := ?_)
          refine WL.y (hy := (by first | exact fa | exact faE)) (h := ?_)
          refine WL.y (hy := (by first | exact ld | exact ldE)) (h := ?_)
          refine WL.y (hy := mv) (h := ?_)
          refine WL.y (hy := ix (A := a.cA) (m := d.cr.length)) (h := ?_)
          refine WL.y (hy := ldEW (A := a.cA) (hk := map_at hc)) (h := ?_)
          refine al (h := fun b1 => ?_)
          first | refine stA (h := ?_) | refine stEA (h := ?_)
          refine nl (h := ?_)
          refine q_seq (h := ?_)
          refine sq (h := ?_)
          refine rg (h := ?_)
          refine WL.y (hy := (by first | exact fa | exact faE)) (h := ?_)
          refine WL.y (hy := (by first | exact ld | exact ldE)) (h := ?_)
          refine cl0 (hc := fun w hS => C_ref9_within _ _ _ w) (h := ?_)
          refine WL.y (hy := notB) (h := ?_)
          refine WL.y (hy := mv) (h := ?_)
          apply brOr 5 85 90 (by exact rfl)
          · intro hb11
            refine un (h := ?_)
            refine WL.y (hy := (by first | exact fa | exact faE)) (h := ?_)
            refine un (h := ?_)
            refine WL.y (hy := (by first | exact ld | exact ldE)) (h := ?_)
            refine un (h := ?_)
            refine cl0 (hc := fun w hS => C_ref9_within _ _ _ w) (h := ?_)
            refine un (h := ?_)
            refine WL.y (hy := notB) (h := ?_)
            refine WL.y (hy := (by first | exact pkT | exact pkF)) (h := ?_)
            exact mg (by repeat (first | exact trivial | refine ⟨rfl, ?_⟩ | refine ⟨by rw [hb11]; rfl, ?_⟩)) (by repeat (first | exact SubL.nil | (apply SubL.cons; (repeat (first | exact At.here | apply At.there))) | exact SubL.refl _ | apply SubL.skip))
          · intro hb11
            repeat (first | refine un (h := ?_) | refine sk (h := ?_) | refine WL.y (hy := pkF) (h := ?_) | refine WL.y (hy := pkT) (h := ?_))
            exact mg (by repeat (first | exact trivial | refine ⟨rfl, ?_⟩ | refine ⟨by rw [hb11]; rfl, ?_⟩)) (by repeat (first | exact SubL.nil | (apply SubL.cons; (repeat (first | exact At.here | apply At.there))) | exact SubL.refl _ | apply SubL.skip))
          refine WL.y (hy := mv) (h := ?_)
          apply brOr 5 91 96 (by exact rfl)
          · intro hb12
            refine un (h := ?_)
            refine WL.y (hy := (by first | exact fa | exact faE)) (h := ?_)
            refine un (h := ?_)
            refine WL.y (hy := (by first | exact ld | exact ldE)) (h := ?_)
            refine un (h := ?_)
            refine cl0 (hc := fun w hS => C_ref9_within _ _ _ w) (h := ?_)
            refine un (h := ?_)
            refine WL.y (hy := notB) (h := ?_)
            refine WL.y (hy := (by first | exact pkT | exact pkF)) (h := ?_)
            exact mg (by repeat (first | exact trivial | refine ⟨rfl, ?_⟩ | refine ⟨by rw [hb12]; rfl, ?_⟩)) (by repeat (first | exact SubL.nil | (apply SubL.cons; (repeat (first | exact At.here | apply At.there))) | exact SubL.refl _ | apply SubL.skip))
          · intro hb12
            repeat (first | refine un (h := ?_) | refine sk (h := ?_) | refine WL.y (hy := pkF) (h := ?_) | refine WL.y (hy := pkT) (h := ?_))
            exact mg (by repeat (first | exact trivial | refine ⟨rfl, ?_⟩ | refine ⟨by rw [hb12]; rfl, ?_⟩)) (by repeat (first | exact SubL.nil | (apply SubL.cons; (repeat (first | exact At.here | apply At.there))) | exact SubL.refl _ | apply SubL.skip))
          refine nl (h := ?_)
          refine q_seq (h := ?_)
          refine cd (by exact rfl) (fun h13 => ?_) (fun h13 => ?_)
          · skip
            have hE : depE d = 90 := dep_cr (all_no hc (by rw [crOk, h13]; rfl))
            refine sq (h := ?_)
            refine rg (h := ?_)
            refine WL.y (hy := asg) (h := ?_)
            refine nl (h := ?_)
            refine q_seq (h := ?_)
            refine rtn (h := ?_)
            refine q_blk_ret (h := ?_)
            refine q_then_ret (h := ?_)
            refine q_then_ret (h := ?_)
            refine q_blk_ret (h := ?_)
            refine q_then_ret (h := ?_)
            refine q_ret (hR := ?_)
            rw [hE]
            exact fun w hS => ⟨rfl, hS.sub (by repeat (first | exact SubL.nil | (apply SubL.cons; (repeat (first | exact At.here | apply At.there))) | exact SubL.refl _ | apply SubL.skip))⟩
          · skip
            have hin := upto_succ hiu hc (by rw [crOk, h13]; rfl)
            refine skp (h := ?_)
            refine q_blk_norm (h := ?_)
            refine q_seq (h := ?_)
            refine rg (h := ?_)
            refine WL.y (hy := mv) (h := ?_)
            refine WL.y (hy := addI) (h := ?_)
            refine WL.y (hy := asg) (h := ?_)
            refine nl (h := ?_)
            refine rn (x := i) (i + 1) ⟨hkn3, hin⟩ (by omega) (by repeat (first | exact trivial | refine ⟨rfl, ?_⟩)) (by repeat (first | exact SubL.nil | (apply SubL.cons; (repeat (first | exact At.here | apply At.there))) | exact SubL.refl _ | apply SubL.skip))
        · skip
          have hkn3 : i = d.cr.length := by have := of_decide_eq_false h10; omega
          have hcr : crB d = true := all_to fun i' x hi' => hiu i' x (by omega)
          have hE := dep_yes hkit hln hst hfx hcr
          refine et (h := ?_)
          refine q_then_exit (h := ?_)
          refine q_then_exit (h := ?_)
          refine q_blk_hit (h := ?_)
          refine q_seq (h := ?_)
          refine sq (h := ?_)
          refine rg (h := ?_)
          refine WL.y (hy := asg) (h := ?_)
          refine nl (h := ?_)
          refine q_seq (h := ?_)
          refine rtn (h := ?_)
          refine q_ret (hR := ?_)
          rw [hE]
          exact fun w hS => ⟨rfl, hS.sub (by repeat (first | exact SubL.nil | (apply SubL.cons; (repeat (first | exact At.here | apply At.there))) | exact SubL.refl _ | apply SubL.skip))⟩
end Go.Proofs.Ytacaojifempclaa
