/- Walks of score, three: the methods of a match that turn it. -/
import Derived.Test.YtacaojifempclaaS2
namespace Go.Proofs.Ytacaojifempclaa
open Go Go.RowKit

set_option maxRecDepth 100000 in
theorem T_next (m : MS) (a : MA) (b : Nat) (hf : m.f.Ok) (hfs : 0 ≤ m.first ∧ m.first ≤ 1) (ht : (m.ties.length : Int) ≤ 90000) (hbal : 0 ≤ m.balls ∧ m.balls ≤ 100000) :
    Tr Try.prog 117 [.pointer (some ⟨b, 0, none⟩)] (m.ents a b) (fun _ : MA => True) (fun _ => .tuple #[]) (fun a' => (nextV m).ents a' b) := by
  refine ⟨fun w0 w R hst => ?_⟩
  have hb1 : 1 ≤ ((tiesV m).length : Int) ∧ ((tiesV m).length : Int) ≤ 100000 := by
    have : (tiesV m).length = m.ties.length + 1 := by simp [tiesV]
    omega
  have hl : (tiesV m).length = m.ties.length + 1 := by simp [tiesV]
  have he : encB (tiesV m) = encB m.ties ++ [[.bool (brksV (setV m.f m.won) m.g)]] := (encB_app ..).symm
  refine en Try.func117 Try.ntmps117 hst (h := fun F => ?_)
  refine sq (h := ?_)
  refine sq (h := ?_)
  refine rg (h := ?_)
  refine WL.y (hy := mv) (h := ?_)
  refine WL.y (hy := nck) (h := ?_)
  refine WL.y (hy := (by first | exact fa | exact faE)) (h := ?_)
  refine WL.y (hy := (by first | exact fa | exact faE)) (h := ?_)
  refine WL.y (hy := (by first | exact ld | exact ldE)) (h := ?_)
  refine WL.y (hy := geq) (h := ?_)
  refine nl (h := ?_)
  refine q_seq (h := ?_)
  refine cd (by exact rfl) (fun h0 => ?_) (fun h0 => ?_)
  · skip
    have hnx : nextV m = { m with server := -1 } := by rw [nextV, h0]; rfl
    refine sq (h := ?_)
    refine rg (h := ?_)
    refine WL.y (hy := mv) (h := ?_)
    refine WL.y (hy := nck) (h := ?_)
    refine WL.y (hy := (by first | exact fa | exact faE)) (h := ?_)
    refine WL.y (hy := (by first | exact fa | exact faE)) (h := ?_)
    first | refine st (h := ?_) | refine stE (h := ?_)
    refine nl (h := ?_)
    refine q_seq (h := ?_)
    refine rtn (h := ?_)
    refine q_then_ret (h := ?_)
    refine q_ret (hR := ?_)
    rw [hnx]
    exact fun w hS => ⟨a, trivial, rfl, hS.sub (by repeat (first | exact SubL.nil | (apply SubL.cons; (repeat (first | exact At.here | apply At.there))) | exact SubL.refl _ | apply SubL.skip))⟩
  · skip
    have hw0 : decide (0 ≤ m.winner) = false := h0
    refine skp (h := ?_)
    refine q_seq (h := ?_)
    refine ct (X := Option Addr × Nat) (fun _ => True) (fun _ => [(0, .pointer (some ⟨b, 0, none⟩))]) (fun x => ({ m with ties := tiesV m } : MS).ents ⟨a.sA, x.1, a.gA, a.sc, x.2, a.gc⟩ b ++ R) (h1 := ?_) (h2 := ?_)
    · skip
      refine rgD (by kernel_rfl) [(25, m.blk a b)] (by repeat (first | exact HS.nil | (apply HS.keep; (repeat (first | exact At.here | apply At.there))) | (apply HS.ro; (repeat (first | exact Rds.ro | exact Rds.own | apply Rds.there))))) (h := ?_)
      refine tk 0 (hy := mv) (h := ?_)
      refine tk 1 (hy := mv) (h := ?_)
      refine tk 2 (hy := nck) (h := ?_)
      refine tk 3 (hy := (by first | exact fa | exact faE)) (h := ?_)
      refine tk 4 (hy := (by first | exact ld | exact ldE)) (h := ?_)
      refine tk 5 (hy := mv) (h := ?_)
      refine tk 6 (hy := nck) (h := ?_)
      refine tk 7 (hy := (by first | exact fa | exact faE)) (h := ?_)
      refine tk 8 (hy := (by first | exact ldA | exact ldEA)) (h := ?_)
      refine tk 9 (hy := mv) (h := ?_)
      refine tk 10 (hy := nck) (h := ?_)
      refine tk 11 (hy := (by first | exact fa | exact faE)) (h := ?_)
      refine tk 12 (hy := (by first | exact ldA | exact ldEA)) (h := ?_)
      refine tk 14 (hy := mv) (h := ?_)
      refine tk 15 (hy := nck) (h := ?_)
      refine tk 16 (hy := (by first | exact fa | exact faE)) (h := ?_)
      refine tk 17 (hy := (by first | exact fa | exact faE)) (h := ?_)
      refine tk 18 (hy := (by first | exact fa | exact faE)) (h := ?_)
      refine tk 19 (hy := (by first | exact ldA | exact ldEA)) (h := ?_)
      refine one 13 (h := ?_)
      refine cl0 (hc := fun w hS => C_rules_set _ _ (by assumption) w) (h := ?_)
      refine nx (h := ?_)
      refine one 20 (h := ?_)
      refine cl0 (hc := fun w hS => C_set_breaks _ _ w) (h := ?_)
      refine nx (h := ?_)
      refine one 21 (h := ?_)
      refine bs (h := fun b0 => ?_)
      refine nx (h := ?_)
      refine one 22 (h := ?_)
      first | refine ap (h := fun A1 c1 => ?_) | refine ap0 (h := fun A1 c1 => ?_)
      refine nx (h := ?_)
      refine tk 23 (hy := nck) (h := ?_)
      refine tk 24 (hy := (by first | exact fa | exact faE)) (h := ?_)
      refine one 25 (h := ?_)
      first | refine st (h := ?_) | refine stE (h := ?_)
      refine nx (h := ?_)
      refine dn (h := ?_)
      exact ctn ⟨_, _⟩ trivial (by repeat (first | exact trivial | refine ⟨rfl, ?_⟩)) (by dsimp only [MS.ents, MS.blk, MS.cells, MS.tiesE]; rw [hl, he]; repeat (first | exact SubL.nil | (apply SubL.cons; (repeat (first | exact At.here | apply At.there))) | exact SubL.refl _ | apply SubL.skip))
    rintro ⟨A1, c1⟩ -
    dsimp only [MS.ents, MS.blk, MS.cells, MS.tiesE]
    refine sq (h := ?_)
    refine sq (h := ?_)
    refine rg (h := ?_)
    refine WL.y (hy := mv) (h := ?_)
    refine clT (hc := T_fresh { m with ties := tiesV m } ⟨a.sA, A1, a.gA, a.sc, c1, a.gc⟩ b hf hb1) (h := fun _ _ => ?_)
    dsimp only [MS.blk, MS.cells, MS.tiesE]
    refine nl (h := ?_)
    refine q_seq (h := ?_)
    refine cd (by exact rfl) (fun h1 => ?_) (fun h1 => ?_)
    · skip
      have hnx : nextV m = { m with ties := tiesV m, balls := m.balls + 1, server := servesV m.f m.first (tiesV m) 0 } := by rw [nextV, hw0, h1]; rfl
      refine rg (h := ?_)
      refine WL.y (hy := mv) (h := ?_)
      refine WL.y (hy := nck) (h := ?_)
      refine WL.y (hy := (by first | exact fa | exact faE)) (h := ?_)
      refine WL.y (hy := (by first | exact fa | exact faE)) (h := ?_)
      refine WL.y (hy := (by first | exact ld | exact ldE)) (h := ?_)
      refine WL.y (hy := addI) (h := ?_)
      refine WL.y (hy := nck) (h := ?_)
      refine WL.y (hy := (by first | exact fa | exact faE)) (h := ?_)
      refine WL.y (hy := (by first | exact fa | exact faE)) (h := ?_)
      first | refine st (h := ?_) | refine stE (h := ?_)
      refine nl (h := ?_)
      refine q_seq (h := ?_)
      refine rg (h := ?_)
      refine WL.y (hy := mv) (h := ?_)
      refine WL.y (hy := mv) (h := ?_)
      first
        | refine clT (hc := T_serves { m with ties := tiesV m, balls := m.balls + 1 } ⟨a.sA, A1, a.gA, a.sc, c1, a.gc⟩ b 0 hfs (by omega) hb1) (h := fun _ _ => ?_)
        | refine clT (hc := T_serves { m with ties := tiesV m } ⟨a.sA, A1, a.gA, a.sc, c1, a.gc⟩ b 0 hfs (by omega) hb1) (h := fun _ _ => ?_)
      refine WL.y (hy := nck) (h := ?_)
      refine WL.y (hy := (by first | exact fa | exact faE)) (h := ?_)
      refine WL.y (hy := (by first | exact fa | exact faE)) (h := ?_)
      first | refine st (h := ?_) | refine stE (h := ?_)
      refine nl (h := ?_)
      refine q_end (hR := ?_)
      rw [hnx]
      exact fun w hS => ⟨⟨a.sA, A1, a.gA, a.sc, c1, a.gc⟩, trivial, rfl, hS.sub (by repeat (first | exact SubL.nil | (apply SubL.cons; (repeat (first | exact At.here | apply At.there))) | exact SubL.refl _ | apply SubL.skip))⟩
    · skip
      have hnx : nextV m = { m with ties := tiesV m, server := servesV m.f m.first (tiesV m) 0 } := by rw [nextV, hw0, h1]; rfl
      refine skp (h := ?_)
      refine q_seq (h := ?_)
      refine rg (h := ?_)
      refine WL.y (hy := mv) (h := ?_)
      refine WL.y (hy := mv) (h := ?_)
      first
        | refine clT (hc := T_serves { m with ties := tiesV m, balls := m.balls + 1 } ⟨a.sA, A1, a.gA, a.sc, c1, a.gc⟩ b 0 hfs (by omega) hb1) (h := fun _ _ => ?_)
        | refine clT (hc := T_serves { m with ties := tiesV m } ⟨a.sA, A1, a.gA, a.sc, c1, a.gc⟩ b 0 hfs (by omega) hb1) (h := fun _ _ => ?_)
      refine WL.y (hy := nck) (h := ?_)
      refine WL.y (hy := (by first | exact fa | exact faE)) (h := ?_)
      refine WL.y (hy := (by first | exact fa | exact faE)) (h := ?_)
      first | refine st (h := ?_) | refine stE (h := ?_)
      refine nl (h := ?_)
      refine q_end (hR := ?_)
      rw [hnx]
      exact fun w hS => ⟨⟨a.sA, A1, a.gA, a.sc, c1, a.gc⟩, trivial, rfl, hS.sub (by repeat (first | exact SubL.nil | (apply SubL.cons; (repeat (first | exact At.here | apply At.there))) | exact SubL.refl _ | apply SubL.skip))⟩

set_option maxRecDepth 100000 in
theorem C_score_begin (f : Fmt) (first : Int) (hf : f.Ok) (hfs : 0 ≤ first ∧ first ≤ 1) (w : World) :
    CR Try.prog 104 [f.val, .int .i64 first] w (fun _ : Nat × MA => True) (fun x => .pointer (some ⟨x.1, 0, none⟩)) (fun x => (beginV f first).ents x.2 x.1) := by
  refine ⟨en Try.func104 Try.ntmps104 (St.init w) (h := fun F => ?_)⟩
  refine sq (h := ?_)
  refine rg (h := ?_)
  refine bxA (h := fun b0 => ?_)
  refine WL.y (hy := asg) (h := ?_)
  refine nl (h := ?_)
  refine q_seq (h := ?_)
  refine sq (h := ?_)
  refine rg (h := ?_)
  refine WL.y (hy := (by first | exact ldA | exact ldEA)) (h := ?_)
  refine WL.y (hy := mv) (h := ?_)
  refine WL.y (hy := bd) (h := ?_)
  refine bxA (h := fun b1 => ?_)
  refine WL.y (hy := asg) (h := ?_)
  refine nl (h := ?_)
  refine q_seq (h := ?_)
  refine sq (h := ?_)
  refine rg (h := ?_)
  refine WL.y (hy := mv) (h := ?_)
  refine WL.y (hy := nck) (h := ?_)
  refine WL.y (hy := (by first | exact fa | exact faE)) (h := ?_)
  refine WL.y (hy := (by first | exact fa | exact faE)) (h := ?_)
  first | refine st (h := ?_) | refine stE (h := ?_)
  refine nl (h := ?_)
  refine q_seq (h := ?_)
  refine sq (h := ?_)
  refine rg (h := ?_)
  refine WL.y (hy := mv) (h := ?_)
  refine WL.nilOwn 26 2 (h := ?_)
  refine WL.nilOwn 4 1 (h := ?_)
  refine WL.nilOwn 188 7 (h := ?_)
  refine clT (hc := T_next (begin0 f first) ⟨none, none, none, 0, 0, 0⟩ b1 hf hfs (by simp [begin0]) (by simp [begin0])) (h := fun x _ => ?_)
  refine nl (h := ?_)
  refine q_seq (h := ?_)
  refine sq (h := ?_)
  refine rg (h := ?_)
  refine WL.y (hy := mv) (h := ?_)
  refine WL.y (hy := asg) (h := ?_)
  refine nl (h := ?_)
  refine q_seq (h := ?_)
  refine rtn (h := ?_)
  refine q_ret (hR := ?_)
  exact fun w hS => ⟨(b1, x), trivial, rfl, hS.sub (by repeat (first | exact SubL.nil | (apply SubL.cons; (repeat (first | exact At.here | apply At.there))) | exact SubL.refl _ | apply SubL.skip))⟩
end Go.Proofs.Ytacaojifempclaa
