/- Walks of draws, ten: Obeys, Breaks; the document's answer on what obeys. -/
import Derived.Test.YtjkoaifjmcgpfaaD9
namespace Go.Proofs.Ytjkoaifjmcgpfaa
open Go Go.RowKit

def facV (a : Int) : Int := bif decide (a % 2 = 0) then a + 1 else a - 1
section rules
variable {P : Program} {n : Nat} {D : List Deferred} {l : Env} {w0 : World} {L : List Ent}
theorem xor8 {x y : Operand} {a : Int} {t u : TypeId} (hx : ev l x = some (.int .i64 a) := by exact rfl) (hy : ev l y = some (.int .i64 1) := by exact rfl) (hb : 0 ≤ a ∧ a ≤ 7 := by omega) : Yd P n D l w0 L (.binOp .xor t x y u) (.int .i64 (facV a)) :=
  ⟨by simp, by simp, fun oo ho ac w hfr _ => by
    have h0 : (Op.intBits .xor .i64 a 1) = (pure (.int .i64 (facV a)) : Sem Value) := by
      rcases (by omega : a = 0 ∨ a = 1 ∨ a = 2 ∨ a = 3 ∨ a = 4 ∨ a = 5 ∨ a = 6 ∨ a = 7) with rfl | rfl | rfl | rfl | rfl | rfl | rfl | rfl <;> rfl
    simp [execOp, ho, hfr.eval hx, hfr.eval hy, eqGuard_xor, binOp_xor, h0]⟩
end rules
theorem C_faces (a : Int) (ha : 0 ≤ a ∧ a ≤ 7) (w : World) : C0 Try.prog 58 [.int .i64 a] w (.int .i64 (facV a)) := by
  refine ⟨en Try.func58 Try.ntmps58 (St.init w) (h := fun F => ?_)⟩
  refine sq (h := ?_)
  refine rg (h := ?_)
  refine WL.y (hy := asg) (h := ?_)
  refine nl (h := ?_)
  refine q_seq (h := ?_)
  refine sq (h := ?_)
  refine rg (h := ?_)
  refine WL.y (hy := mv) (h := ?_)
  refine WL.y (hy := xor8) (h := ?_)
  refine WL.y (hy := asg) (h := ?_)
  refine nl (h := ?_)
  refine q_seq (h := ?_)
  refine rtn (h := ?_)
  refine q_ret (hR := ?_)
  exact fun w hS => ⟨rfl, hS.sub (by repeat (first | exact SubL.nil | (apply SubL.cons; (repeat (first | exact At.here | apply At.there))) | exact SubL.refl _ | apply SubL.skip))⟩
def fullV (p : Pl) (sheet : List Int) : Bool := !p.ps.any fun x => !inV sheet x.player
theorem C_isFull (p : Pl) (a : PA) (sheet : List Int) (sA : Option Addr) (n sc : Nat) (hn : sheet.length = n) (hn2 : n ≤ 1000) (w : World) (h : PRd w p a) (hs : Rd w sA 1 n (enI sheet)) : C0 Try.prog 55 [p.val a, .slice sA n sc] w (.bool (fullV p sheet)) := by
  obtain ⟨hp, hl, hpn, hln, hpc⟩ := h
  refine ⟨en Try.func55 Try.ntmps55 ((((St.init w).share (e := .ro a.pA 3 p.ps.length (encPs p.ps)) hp rfl rfl rfl).share (e := .ro a.lA 1 p.lots.length (enI p.lots)) hl rfl rfl rfl).share (e := .ro sA 1 n (enI sheet)) hs rfl rfl rfl) (h := fun F => ?_)⟩
  refine sq (h := ?_)
  refine rg (h := ?_)
  refine bxA (h := fun b0 => ?_)
  refine WL.y (hy := asg) (h := ?_)
  refine nl (h := ?_)
  refine q_seq (h := ?_)
  refine sq (h := ?_)
  refine sq (h := ?_)
  refine rg (h := ?_)
  refine WL.y (hy := asg) (h := ?_)
  refine nl (h := ?_)
  refine q_seq (h := ?_)
  refine bk (h := ?_)
  refine lp (X := IZ) (I := fun z => z.k ≤ p.ps.length ∧ (p.ps.take z.k).any (fun x => !inV sheet x.player) = false) (le := fun z => [(1, .slice sA n sc), (2, .pointer (some ⟨b0, 0, none⟩)), (5, .int .i64 z.k)]) (Le := fun _ => .ro sA 1 n (enI sheet) :: plL p a b0) (μ := fun z => p.ps.length - z.k) ⟨0⟩ ⟨Nat.zero_le _, rfl⟩ (by repeat (first | exact trivial | refine ⟨rfl, ?_⟩)) (by repeat (first | exact SubL.nil | (apply SubL.cons; (repeat (first | exact At.here | apply At.there))) | exact SubL.refl _ | apply SubL.skip)) (fun z hz => ?_)
  obtain ⟨hz1, hz2⟩ := hz
  refine sq (h := ?_)
  refine sq (h := ?_)
  refine rg (h := ?_)
  refine WL.y (hy := mv) (h := ?_)
  refine WL.y (hy := (by first | exact fa | exact faE)) (h := ?_)
  refine WL.y (hy := (by first | exact ld | exact ldE)) (h := ?_)
  refine WL.y (hy := lenS) (h := ?_)
  refine WL.y (hy := lss) (h := ?_)
  refine nl (h := ?_)
  refine q_seq (h := ?_)
  refine cd (by exact rfl) (fun h0 => ?_) (fun h0 => ?_)
  · skip
    have hkn : z.k < p.ps.length := by simp only [decide_eq_true_eq] at h0; omega
    obtain ⟨x, hx1⟩ : ∃ x, p.ps[z.k]? = some x := ⟨_, List.getElem?_eq_getElem hkn⟩
    have hxe := encPs_at hx1
    refine skp (h := ?_)
    refine q_seq (h := ?_)
    refine sq (h := ?_)
    refine bk (h := ?_)
    refine sq (h := ?_)
    refine rg (h := ?_)
    refine WL.y (hy := mv) (h := ?_)
    refine WL.y (hy := (by first | exact fa | exact faE)) (h := ?_)
    refine WL.y (hy := (by first | exact ld | exact ldE)) (h := ?_)
    refine WL.y (hy := mv) (h := ?_)
    refine WL.y (hy := ix (A := a.pA) (m := p.ps.length)) (h := ?_)
    refine WL.y (hy := (by first | exact fa | exact faE)) (h := ?_)
    refine WL.y (hy := ldE (A := a.pA) (hk := hxe)) (h := ?_)
    refine cl0 (hc := fun w hS => C_In sheet x.player sA n sc (by omega) w (hS.get (by repeat (first | exact Rds.ro | apply Rds.there)))) (h := ?_)
    refine WL.y (hy := notB) (h := ?_)
    refine nl (h := ?_)
    refine q_seq (h := ?_)
    refine cd (by exact rfl) (fun h1 => ?_) (fun h1 => ?_)
    · skip
      have hE : fullV p sheet = false := by rw [fullV, List.any_eq_true.2 ⟨x, List.mem_of_getElem? hx1, h1⟩]; rfl
      refine sq (h := ?_)
      refine rg (h := ?_)
      refine WL.y (hy := asg) (h := ?_)
      refine nl (h := ?_)
      refine q_seq (h := ?_)
      refine rtn (h := ?_)
      refine q_blk_ret (h := ?_)
      refine q_then_ret (h := ?_)
      refine q_then_ret (h := ?_)
      refine q_blk_ret (h := ?_)
      refine q_then_ret (h := ?_)
      refine q_ret (hR := ?_)
      rw [hE]
      exact fun w hS => ⟨rfl, hS.sub (by repeat (first | exact SubL.nil | (apply SubL.cons; (repeat (first | exact At.here | apply At.there))) | exact SubL.refl _ | apply SubL.skip))⟩
    · skip
      have hno : (!inV sheet x.player) = false := h1
      refine skp (h := ?_)
      refine q_blk_norm (h := ?_)
      refine q_seq (h := ?_)
      refine rg (h := ?_)
      refine WL.y (hy := mv) (h := ?_)
      refine WL.y (hy := addI) (h := ?_)
      refine WL.y (hy := asg) (h := ?_)
      refine nl (h := ?_)
      refine rn (x := z) ⟨z.k + 1⟩ ⟨by dsimp only; omega, by dsimp only; rw [List.take_add_one, hx1, List.any_append, hz2]; simpa using hno⟩ (by dsimp only; omega) (by repeat (first | exact trivial | refine ⟨rfl, ?_⟩)) (by repeat (first | exact SubL.nil | (apply SubL.cons; (repeat (first | exact At.here | apply At.there))) | exact SubL.refl _ | apply SubL.skip))
  · skip
    have hkn : z.k = p.ps.length := by simp only [decide_eq_false_iff_not] at h0; omega
    have hE : fullV p sheet = true := by rw [hkn, List.take_length] at hz2; rw [fullV, hz2]; rfl
    refine et (h := ?_)
    refine q_then_exit (h := ?_)
    refine q_then_exit (h := ?_)
    refine q_blk_hit (h := ?_)
    refine q_seq (h := ?_)
    refine sq (h := ?_)
    refine rg (h := ?_)
    refine WL.y (hy := asg) (h := ?_)
    refine nl (h := ?_)
    refine q_seq (h := ?_)
    refine rtn (h := ?_)
    refine q_ret (hR := ?_)
    rw [hE]
    exact fun w hS => ⟨rfl, hS.sub (by repeat (first | exact SubL.nil | (apply SubL.cons; (repeat (first | exact At.here | apply At.there))) | exact SubL.refl _ | apply SubL.skip))⟩
/-- A player who has a person, or none. -/
def ShP (p : Pl) (y : Int) : Prop := y = -1 ∨ (y ≠ -1 ∧ 0 ≤ perI p y)
theorem num_in {p : Pl} {y : Int} (h : ShP p y) : InP p (numV p y) := by
  rcases h with rfl | ⟨h1, h2⟩
  · exact .inl rfl
  · have := per_rng p y
    right
    rw [numV, decide_eq_false h1]
    exact ⟨h2, this.2⟩
theorem num_none {p : Pl} {y : Int} (h : ShP p y) : decide (numV p y = -1) = decide (y = -1) := by
  rcases h with rfl | ⟨h1, h2⟩
  · rfl
  · rw [decide_eq_false h1, numV, decide_eq_false h1]
    exact decide_eq_false (by simp only [cond_false]; omega)
theorem num_eq {p : Pl} {x y : Int} (hx : ShP p x) (hy : ShP p y) : decide (numV p x = numV p y) = decide (x = y) := by
  refine decide_eq_decide.2 ⟨fun h => ?_, fun h => by rw [h]⟩
  rcases hx with rfl | ⟨h1, h2⟩
  · have := num_none hy
    rw [← h] at this
    exact (of_decide_eq_true (this.symm.trans (decide_eq_true rfl))).symm
  · rcases hy with rfl | ⟨h3, h4⟩
    · have := num_none (p := p) (y := x) (.inr ⟨h1, h2⟩)
      rw [h, decide_eq_false h1] at this
      exact absurd this (by simp [numV])
    · rw [numV, numV, decide_eq_false h1, decide_eq_false h3] at h
      exact per_inj h2 h
set_option maxHeartbeats 4000000 in
theorem C_mayFace (p : Pl) (a : PA) (x y : Int) (hx : ShP p x) (hy : ShP p y) (w : World) (h : PRd w p a) : C0 Try.prog 56 [p.val a, .int .i64 x, .int .i64 y] w (.bool (apartV p (numV p x) (numV p y))) := by
  obtain ⟨hp, hl, hpn, hln, hpc⟩ := h
  refine ⟨en Try.func56 Try.ntmps56 (((St.init w).share (e := .ro a.pA 3 p.ps.length (encPs p.ps)) hp rfl rfl rfl).share (e := .ro a.lA 1 p.lots.length (enI p.lots)) hl rfl rfl rfl) (h := fun F => ?_)⟩
  refine sq (h := ?_)
  refine rg (h := ?_)
  refine bxA (h := fun b0 => ?_)
  refine WL.y (hy := asg) (h := ?_)
  refine nl (h := ?_)
  refine q_seq (h := ?_)
  refine sq (h := ?_)
  refine sq (h := ?_)
  refine rg (h := ?_)
  refine WL.y (hy := mv) (h := ?_)
  refine WL.y (hy := eql) (h := ?_)
  refine WL.y (hy := mv) (h := ?_)
  apply brOr 3 11 14 (by exact rfl)
  · intro hb0
    refine un (h := ?_)
    refine WL.y (hy := mv) (h := ?_)
    refine un (h := ?_)
    refine WL.y (hy := eql) (h := ?_)
    refine WL.y (hy := (by first | exact pkT | exact pkF)) (h := ?_)
    exact mg (by repeat (first | exact trivial | refine ⟨rfl, ?_⟩ | refine ⟨by rw [hb0]; rfl, ?_⟩)) (by repeat (first | exact SubL.nil | (apply SubL.cons; (repeat (first | exact At.here | apply At.there))) | exact SubL.refl _ | apply SubL.skip))
  · intro hb0
    repeat (first | refine un (h := ?_) | refine sk (h := ?_) | refine WL.y (hy := pkF) (h := ?_) | refine WL.y (hy := pkT) (h := ?_))
    exact mg (by repeat (first | exact trivial | refine ⟨rfl, ?_⟩ | refine ⟨by rw [hb0]; rfl, ?_⟩)) (by repeat (first | exact SubL.nil | (apply SubL.cons; (repeat (first | exact At.here | apply At.there))) | exact SubL.refl _ | apply SubL.skip))
  refine nl (h := ?_)
  refine q_seq (h := ?_)
  refine cd (by exact rfl) (fun h1 => ?_) (fun h1 => ?_)
  · skip
    have hE : apartV p (numV p x) (numV p y) = !decide (x = y) := by rw [apartV, num_none hx, num_none hy, h1, num_eq hx hy]; rfl
    refine sq (h := ?_)
    refine rg (h := ?_)
    refine WL.y (hy := mv) (h := ?_)
    refine WL.y (hy := mv) (h := ?_)
    refine WL.y (hy := neq) (h := ?_)
    refine WL.y (hy := asg) (h := ?_)
    refine nl (h := ?_)
    refine q_seq (h := ?_)
    refine rtn (h := ?_)
    refine q_then_ret (h := ?_)
    refine q_ret (hR := ?_)
    rw [hE]
    exact fun w hS => ⟨rfl, hS.sub (by repeat (first | exact SubL.nil | (apply SubL.cons; (repeat (first | exact At.here | apply At.there))) | exact SubL.refl _ | apply SubL.skip))⟩
  · skip
    have hE : apartV p (numV p x) (numV p y) = ((decide ((psAt p (perI p x)).nation = 0) || !decide ((psAt p (perI p x)).nation = (psAt p (perI p y)).nation)) && !((psAt p (perI p x)).qual && (psAt p (perI p y)).qual)) := by
      simp only [Bool.or_eq_false_iff] at h1
      rw [apartV, num_none hx, num_none hy, h1.1, h1.2, numV, numV, h1.1, h1.2, Bool.or_comm (decide _)]; rfl
    obtain ⟨hx1, hy1⟩ : (0 ≤ perI p x ∧ perI p x < p.ps.length) ∧ (0 ≤ perI p y ∧ perI p y < p.ps.length) := by
      simp only [Bool.or_eq_false_iff, decide_eq_false_iff_not] at h1
      have := per_rng p x
      have := per_rng p y
      rcases hx with h | ⟨_, h⟩ <;> rcases hy with h' | ⟨_, h'⟩ <;> first | exact absurd h h1.1 | exact absurd h' h1.2 | omega
    have hxe := encPs_at (psAt_eq hx1)
    have hye := encPs_at (psAt_eq hy1)
    refine skp (h := ?_)
    refine q_seq (h := ?_)
    refine ct (X := Nat × Nat) (fun _ => True) (fun u => [(3, .pointer (some ⟨b0, 0, none⟩)), (7, .pointer (some ⟨u.1, 0, none⟩)), (8, .pointer (some ⟨u.2, 0, none⟩))]) (fun u => .blk u.1 42 (psAt p (perI p x)).enc :: .blk u.2 42 (psAt p (perI p y)).enc :: plL p a b0) (h1 := ?_) (h2 := ?_)
    · skip
      refine rgD0 (by kernel_rfl) (h := ?_)
      refine tk 0 (hy := (by first | exact fa | exact faE)) (h := ?_)
      refine tk 1 (hy := (by first | exact ld | exact ldE)) (h := ?_)
      refine tk 2 (hy := (by first | exact ldA | exact ldEA)) (h := ?_)
      refine tk 3 (hy := mv) (h := ?_)
      refine tk 7 (hy := (by first | exact fa | exact faE)) (h := ?_)
      refine tk 8 (hy := (by first | exact ld | exact ldE)) (h := ?_)
      refine tk 9 (hy := (by first | exact ldA | exact ldEA)) (h := ?_)
      refine tk 10 (hy := mv) (h := ?_)
      refine fan [4, 14, 15] (h := ⟨⟨_, by exact rfl, ?_⟩, ⟨_, by exact rfl, ?_⟩, ⟨_, by exact rfl, ?_⟩, trivial⟩)
      · skip
        refine cl0 (hc := fun w hS => C_Number p a x w ⟨hS.get (by repeat (first | exact Rds.ro | apply Rds.there)), hS.get (by repeat (first | exact Rds.ro | apply Rds.there)), hpn, hln, hpc⟩) (h := ?_)
        refine nx (h := ?_)
        refine tk 5 (hy := ix (A := a.pA) (m := p.ps.length)) (h := ?_)
        refine tk 6 (hy := ldEA (A := a.pA) (hk := hxe)) (h := ?_)
        refine fan [11, 14, 15] (h := ⟨⟨_, by exact rfl, ?_⟩, ⟨_, by exact rfl, ?_⟩, ⟨_, by exact rfl, ?_⟩, trivial⟩)
        · skip
          refine cl0 (hc := fun w hS => C_Number p a y w ⟨hS.get (by repeat (first | exact Rds.ro | apply Rds.there)), hS.get (by repeat (first | exact Rds.ro | apply Rds.there)), hpn, hln, hpc⟩) (h := ?_)
          refine nx (h := ?_)
          refine tk 12 (hy := ix (A := a.pA) (m := p.ps.length)) (h := ?_)
          refine tk 13 (hy := ldEA (A := a.pA) (hk := hye)) (h := ?_)
          refine two 14 15 (h1 := ?_) (h2 := ?_)
          · skip
            refine al (h := fun b1 => ?_)
            refine nx (h := ?_)
            refine one 15 (h := ?_)
            refine al (h := fun b2 => ?_)
            refine nx (h := ?_)
            refine one 16 (h := ?_)
            first | refine stA (h := ?_) | refine stEA (h := ?_)
            refine nx (h := ?_)
            refine one 17 (h := ?_)
            first | refine stA (h := ?_) | refine stEA (h := ?_)
            refine nx (h := ?_)
            refine dn (h := ?_)
            exact ctn (_, _) trivial (by repeat (first | exact trivial | refine ⟨rfl, ?_⟩)) (by repeat (first | exact SubL.nil | (apply SubL.cons; (repeat (first | exact At.here | apply At.there))) | exact SubL.refl _ | apply SubL.skip))
          · skip
            refine al (h := fun b3 => ?_)
            refine nx (h := ?_)
            refine one 14 (h := ?_)
            refine al (h := fun b4 => ?_)
            refine nx (h := ?_)
            refine one 16 (h := ?_)
            first | refine stA (h := ?_) | refine stEA (h := ?_)
            refine nx (h := ?_)
            refine one 17 (h := ?_)
            first | refine stA (h := ?_) | refine stEA (h := ?_)
            refine nx (h := ?_)
            refine dn (h := ?_)
            exact ctn (_, _) trivial (by repeat (first | exact trivial | refine ⟨rfl, ?_⟩)) (by repeat (first | exact SubL.nil | (apply SubL.cons; (repeat (first | exact At.here | apply At.there))) | exact SubL.refl _ | apply SubL.skip))
        · skip
          refine al (h := fun b5 => ?_)
          refine nx (h := ?_)
          refine two 11 15 (h1 := ?_) (h2 := ?_)
          · skip
            refine cl0 (hc := fun w hS => C_Number p a y w ⟨hS.get (by repeat (first | exact Rds.ro | apply Rds.there)), hS.get (by repeat (first | exact Rds.ro | apply Rds.there)), hpn, hln, hpc⟩) (h := ?_)
            refine nx (h := ?_)
            refine tk 12 (hy := ix (A := a.pA) (m := p.ps.length)) (h := ?_)
            refine tk 13 (hy := ldEA (A := a.pA) (hk := hye)) (h := ?_)
            refine one 15 (h := ?_)
            refine al (h := fun b6 => ?_)
            refine nx (h := ?_)
            refine one 16 (h := ?_)
            first | refine stA (h := ?_) | refine stEA (h := ?_)
            refine nx (h := ?_)
            refine one 17 (h := ?_)
            first | refine stA (h := ?_) | refine stEA (h := ?_)
            refine nx (h := ?_)
            refine dn (h := ?_)
            exact ctn (_, _) trivial (by repeat (first | exact trivial | refine ⟨rfl, ?_⟩)) (by repeat (first | exact SubL.nil | (apply SubL.cons; (repeat (first | exact At.here | apply At.there))) | exact SubL.refl _ | apply SubL.skip))
          · skip
            refine al (h := fun b7 => ?_)
            refine nx (h := ?_)
            refine one 11 (h := ?_)
            refine cl0 (hc := fun w hS => C_Number p a y w ⟨hS.get (by repeat (first | exact Rds.ro | apply Rds.there)), hS.get (by repeat (first | exact Rds.ro | apply Rds.there)), hpn, hln, hpc⟩) (h := ?_)
            refine nx (h := ?_)
            refine tk 12 (hy := ix (A := a.pA) (m := p.ps.length)) (h := ?_)
            refine tk 13 (hy := ldEA (A := a.pA) (hk := hye)) (h := ?_)
            refine one 16 (h := ?_)
            first | refine stA (h := ?_) | refine stEA (h := ?_)
            refine nx (h := ?_)
            refine one 17 (h := ?_)
            first | refine stA (h := ?_) | refine stEA (h := ?_)
            refine nx (h := ?_)
            refine dn (h := ?_)
            exact ctn (_, _) trivial (by repeat (first | exact trivial | refine ⟨rfl, ?_⟩)) (by repeat (first | exact SubL.nil | (apply SubL.cons; (repeat (first | exact At.here | apply At.there))) | exact SubL.refl _ | apply SubL.skip))
        · skip
          refine al (h := fun b8 => ?_)
          refine nx (h := ?_)
          refine two 11 14 (h1 := ?_) (h2 := ?_)
          · skip
            refine cl0 (hc := fun w hS => C_Number p a y w ⟨hS.get (by repeat (first | exact Rds.ro | apply Rds.there)), hS.get (by repeat (first | exact Rds.ro | apply Rds.there)), hpn, hln, hpc⟩) (h := ?_)
            refine nx (h := ?_)
            refine tk 12 (hy := ix (A := a.pA) (m := p.ps.length)) (h := ?_)
            refine tk 13 (hy := ldEA (A := a.pA) (hk := hye)) (h := ?_)
            refine one 14 (h := ?_)
            refine al (h := fun b9 => ?_)
            refine nx (h := ?_)
            refine one 16 (h := ?_)
            first | refine stA (h := ?_) | refine stEA (h := ?_)
            refine nx (h := ?_)
            refine one 17 (h := ?_)
            first | refine stA (h := ?_) | refine stEA (h := ?_)
            refine nx (h := ?_)
            refine dn (h := ?_)
            exact ctn (_, _) trivial (by repeat (first | exact trivial | refine ⟨rfl, ?_⟩)) (by repeat (first | exact SubL.nil | (apply SubL.cons; (repeat (first | exact At.here | apply At.there))) | exact SubL.refl _ | apply SubL.skip))
          · skip
            refine al (h := fun b10 => ?_)
            refine nx (h := ?_)
            refine one 11 (h := ?_)
            refine cl0 (hc := fun w hS => C_Number p a y w ⟨hS.get (by repeat (first | exact Rds.ro | apply Rds.there)), hS.get (by repeat (first | exact Rds.ro | apply Rds.there)), hpn, hln, hpc⟩) (h := ?_)
            refine nx (h := ?_)
            refine tk 12 (hy := ix (A := a.pA) (m := p.ps.length)) (h := ?_)
            refine tk 13 (hy := ldEA (A := a.pA) (hk := hye)) (h := ?_)
            refine one 16 (h := ?_)
            first | refine stA (h := ?_) | refine stEA (h := ?_)
            refine nx (h := ?_)
            refine one 17 (h := ?_)
            first | refine stA (h := ?_) | refine stEA (h := ?_)
            refine nx (h := ?_)
            refine dn (h := ?_)
            exact ctn (_, _) trivial (by repeat (first | exact trivial | refine ⟨rfl, ?_⟩)) (by repeat (first | exact SubL.nil | (apply SubL.cons; (repeat (first | exact At.here | apply At.there))) | exact SubL.refl _ | apply SubL.skip))
      · skip
        refine al (h := fun b11 => ?_)
        refine nx (h := ?_)
        refine two 4 15 (h1 := ?_) (h2 := ?_)
        · skip
          refine cl0 (hc := fun w hS => C_Number p a x w ⟨hS.get (by repeat (first | exact Rds.ro | apply Rds.there)), hS.get (by repeat (first | exact Rds.ro | apply Rds.there)), hpn, hln, hpc⟩) (h := ?_)
          refine nx (h := ?_)
          refine tk 5 (hy := ix (A := a.pA) (m := p.ps.length)) (h := ?_)
          refine tk 6 (hy := ldEA (A := a.pA) (hk := hxe)) (h := ?_)
          refine two 11 15 (h1 := ?_) (h2 := ?_)
          · skip
            refine cl0 (hc := fun w hS => C_Number p a y w ⟨hS.get (by repeat (first | exact Rds.ro | apply Rds.there)), hS.get (by repeat (first | exact Rds.ro | apply Rds.there)), hpn, hln, hpc⟩) (h := ?_)
            refine nx (h := ?_)
            refine tk 12 (hy := ix (A := a.pA) (m := p.ps.length)) (h := ?_)
            refine tk 13 (hy := ldEA (A := a.pA) (hk := hye)) (h := ?_)
            refine one 15 (h := ?_)
            refine al (h := fun b12 => ?_)
            refine nx (h := ?_)
            refine one 16 (h := ?_)
            first | refine stA (h := ?_) | refine stEA (h := ?_)
            refine nx (h := ?_)
            refine one 17 (h := ?_)
            first | refine stA (h := ?_) | refine stEA (h := ?_)
            refine nx (h := ?_)
            refine dn (h := ?_)
            exact ctn (_, _) trivial (by repeat (first | exact trivial | refine ⟨rfl, ?_⟩)) (by repeat (first | exact SubL.nil | (apply SubL.cons; (repeat (first | exact At.here | apply At.there))) | exact SubL.refl _ | apply SubL.skip))
          · skip
            refine al (h := fun b13 => ?_)
            refine nx (h := ?_)
            refine one 11 (h := ?_)
            refine cl0 (hc := fun w hS => C_Number p a y w ⟨hS.get (by repeat (first | exact Rds.ro | apply Rds.there)), hS.get (by repeat (first | exact Rds.ro | apply Rds.there)), hpn, hln, hpc⟩) (h := ?_)
            refine nx (h := ?_)
            refine tk 12 (hy := ix (A := a.pA) (m := p.ps.length)) (h := ?_)
            refine tk 13 (hy := ldEA (A := a.pA) (hk := hye)) (h := ?_)
            refine one 16 (h := ?_)
            first | refine stA (h := ?_) | refine stEA (h := ?_)
            refine nx (h := ?_)
            refine one 17 (h := ?_)
            first | refine stA (h := ?_) | refine stEA (h := ?_)
            refine nx (h := ?_)
            refine dn (h := ?_)
            exact ctn (_, _) trivial (by repeat (first | exact trivial | refine ⟨rfl, ?_⟩)) (by repeat (first | exact SubL.nil | (apply SubL.cons; (repeat (first | exact At.here | apply At.there))) | exact SubL.refl _ | apply SubL.skip))
        · skip
          refine al (h := fun b14 => ?_)
          refine nx (h := ?_)
          refine one 4 (h := ?_)
          refine cl0 (hc := fun w hS => C_Number p a x w ⟨hS.get (by repeat (first | exact Rds.ro | apply Rds.there)), hS.get (by repeat (first | exact Rds.ro | apply Rds.there)), hpn, hln, hpc⟩) (h := ?_)
          refine nx (h := ?_)
          refine tk 5 (hy := ix (A := a.pA) (m := p.ps.length)) (h := ?_)
          refine tk 6 (hy := ldEA (A := a.pA) (hk := hxe)) (h := ?_)
          refine one 11 (h := ?_)
          refine cl0 (hc := fun w hS => C_Number p a y w ⟨hS.get (by repeat (first | exact Rds.ro | apply Rds.there)), hS.get (by repeat (first | exact Rds.ro | apply Rds.there)), hpn, hln, hpc⟩) (h := ?_)
          refine nx (h := ?_)
          refine tk 12 (hy := ix (A := a.pA) (m := p.ps.length)) (h := ?_)
          refine tk 13 (hy := ldEA (A := a.pA) (hk := hye)) (h := ?_)
          refine one 16 (h := ?_)
          first | refine stA (h := ?_) | refine stEA (h := ?_)
          refine nx (h := ?_)
          refine one 17 (h := ?_)
          first | refine stA (h := ?_) | refine stEA (h := ?_)
          refine nx (h := ?_)
          refine dn (h := ?_)
          exact ctn (_, _) trivial (by repeat (first | exact trivial | refine ⟨rfl, ?_⟩)) (by repeat (first | exact SubL.nil | (apply SubL.cons; (repeat (first | exact At.here | apply At.there))) | exact SubL.refl _ | apply SubL.skip))
      · skip
        refine al (h := fun b15 => ?_)
        refine nx (h := ?_)
        refine two 4 14 (h1 := ?_) (h2 := ?_)
        · skip
          refine cl0 (hc := fun w hS => C_Number p a x w ⟨hS.get (by repeat (first | exact Rds.ro | apply Rds.there)), hS.get (by repeat (first | exact Rds.ro | apply Rds.there)), hpn, hln, hpc⟩) (h := ?_)
          refine nx (h := ?_)
          refine tk 5 (hy := ix (A := a.pA) (m := p.ps.length)) (h := ?_)
          refine tk 6 (hy := ldEA (A := a.pA) (hk := hxe)) (h := ?_)
          refine two 11 14 (h1 := ?_) (h2 := ?_)
          · skip
            refine cl0 (hc := fun w hS => C_Number p a y w ⟨hS.get (by repeat (first | exact Rds.ro | apply Rds.there)), hS.get (by repeat (first | exact Rds.ro | apply Rds.there)), hpn, hln, hpc⟩) (h := ?_)
            refine nx (h := ?_)
            refine tk 12 (hy := ix (A := a.pA) (m := p.ps.length)) (h := ?_)
            refine tk 13 (hy := ldEA (A := a.pA) (hk := hye)) (h := ?_)
            refine one 14 (h := ?_)
            refine al (h := fun b16 => ?_)
            refine nx (h := ?_)
            refine one 16 (h := ?_)
            first | refine stA (h := ?_) | refine stEA (h := ?_)
            refine nx (h := ?_)
            refine one 17 (h := ?_)
            first | refine stA (h := ?_) | refine stEA (h := ?_)
            refine nx (h := ?_)
            refine dn (h := ?_)
            exact ctn (_, _) trivial (by repeat (first | exact trivial | refine ⟨rfl, ?_⟩)) (by repeat (first | exact SubL.nil | (apply SubL.cons; (repeat (first | exact At.here | apply At.there))) | exact SubL.refl _ | apply SubL.skip))
          · skip
            refine al (h := fun b17 => ?_)
            refine nx (h := ?_)
            refine one 11 (h := ?_)
            refine cl0 (hc := fun w hS => C_Number p a y w ⟨hS.get (by repeat (first | exact Rds.ro | apply Rds.there)), hS.get (by repeat (first | exact Rds.ro | apply Rds.there)), hpn, hln, hpc⟩) (h := ?_)
            refine nx (h := ?_)
            refine tk 12 (hy := ix (A := a.pA) (m := p.ps.length)) (h := ?_)
            refine tk 13 (hy := ldEA (A := a.pA) (hk := hye)) (h := ?_)
            refine one 16 (h := ?_)
            first | refine stA (h := ?_) | refine stEA (h := ?_)
            refine nx (h := ?_)
            refine one 17 (h := ?_)
            first | refine stA (h := ?_) | refine stEA (h := ?_)
            refine nx (h := ?_)
            refine dn (h := ?_)
            exact ctn (_, _) trivial (by repeat (first | exact trivial | refine ⟨rfl, ?_⟩)) (by repeat (first | exact SubL.nil | (apply SubL.cons; (repeat (first | exact At.here | apply At.there))) | exact SubL.refl _ | apply SubL.skip))
        · skip
          refine al (h := fun b18 => ?_)
          refine nx (h := ?_)
          refine one 4 (h := ?_)
          refine cl0 (hc := fun w hS => C_Number p a x w ⟨hS.get (by repeat (first | exact Rds.ro | apply Rds.there)), hS.get (by repeat (first | exact Rds.ro | apply Rds.there)), hpn, hln, hpc⟩) (h := ?_)
          refine nx (h := ?_)
          refine tk 5 (hy := ix (A := a.pA) (m := p.ps.length)) (h := ?_)
          refine tk 6 (hy := ldEA (A := a.pA) (hk := hxe)) (h := ?_)
          refine one 11 (h := ?_)
          refine cl0 (hc := fun w hS => C_Number p a y w ⟨hS.get (by repeat (first | exact Rds.ro | apply Rds.there)), hS.get (by repeat (first | exact Rds.ro | apply Rds.there)), hpn, hln, hpc⟩) (h := ?_)
          refine nx (h := ?_)
          refine tk 12 (hy := ix (A := a.pA) (m := p.ps.length)) (h := ?_)
          refine tk 13 (hy := ldEA (A := a.pA) (hk := hye)) (h := ?_)
          refine one 16 (h := ?_)
          first | refine stA (h := ?_) | refine stEA (h := ?_)
          refine nx (h := ?_)
          refine one 17 (h := ?_)
          first | refine stA (h := ?_) | refine stEA (h := ?_)
          refine nx (h := ?_)
          refine dn (h := ?_)
          exact ctn (_, _) trivial (by repeat (first | exact trivial | refine ⟨rfl, ?_⟩)) (by repeat (first | exact SubL.nil | (apply SubL.cons; (repeat (first | exact At.here | apply At.there))) | exact SubL.refl _ | apply SubL.skip))
    rintro ⟨u1, u2⟩ -
    dsimp only
    refine sq (h := ?_)
    refine rg (h := ?_)
    refine WL.y (hy := (by first | exact fa | exact faE)) (h := ?_)
    refine WL.y (hy := (by first | exact ld | exact ldE)) (h := ?_)
    refine WL.y (hy := eql) (h := ?_)
    refine WL.y (hy := mv) (h := ?_)
    apply brOr 6 35 41 (by exact rfl)
    · intro hb2
      refine un (h := ?_)
      refine WL.y (hy := (by first | exact fa | exact faE)) (h := ?_)
      refine un (h := ?_)
      refine WL.y (hy := (by first | exact ld | exact ldE)) (h := ?_)
      refine un (h := ?_)
      refine WL.y (hy := (by first | exact fa | exact faE)) (h := ?_)
      refine un (h := ?_)
      refine WL.y (hy := (by first | exact ld | exact ldE)) (h := ?_)
      refine un (h := ?_)
      refine WL.y (hy := neq) (h := ?_)
      refine WL.y (hy := (by first | exact pkT | exact pkF)) (h := ?_)
      exact mg (by repeat (first | exact trivial | refine ⟨rfl, ?_⟩ | refine ⟨by rw [hb2]; rfl, ?_⟩)) (by repeat (first | exact SubL.nil | (apply SubL.cons; (repeat (first | exact At.here | apply At.there))) | exact SubL.refl _ | apply SubL.skip))
    · intro hb2
      repeat (first | refine un (h := ?_) | refine sk (h := ?_) | refine WL.y (hy := pkF) (h := ?_) | refine WL.y (hy := pkT) (h := ?_))
      exact mg (by repeat (first | exact trivial | refine ⟨rfl, ?_⟩ | refine ⟨by rw [hb2]; rfl, ?_⟩)) (by repeat (first | exact SubL.nil | (apply SubL.cons; (repeat (first | exact At.here | apply At.there))) | exact SubL.refl _ | apply SubL.skip))
    refine WL.y (hy := mv) (h := ?_)
    apply brAnd 8 42 50 (by exact rfl)
    · intro hb3
      refine un (h := ?_)
      refine WL.y (hy := (by first | exact fa | exact faE)) (h := ?_)
      refine un (h := ?_)
      refine WL.y (hy := (by first | exact ld | exact ldE)) (h := ?_)
      refine un (h := ?_)
      refine WL.y (hy := mv) (h := ?_)
      apply brAnd 3 45 48 (by exact rfl)
      · intro hb4
        refine un (h := ?_)
        refine WL.y (hy := (by first | exact fa | exact faE)) (h := ?_)
        refine un (h := ?_)
        refine WL.y (hy := (by first | exact ld | exact ldE)) (h := ?_)
        refine un (h := ?_)
        refine WL.y (hy := (by first | exact pkT | exact pkF)) (h := ?_)
        exact mg (by repeat (first | exact trivial | refine ⟨rfl, ?_⟩ | refine ⟨by rw [hb4]; rfl, ?_⟩ | refine ⟨by rw [hb3]; rfl, ?_⟩)) (by repeat (first | exact SubL.nil | (apply SubL.cons; (repeat (first | exact At.here | apply At.there))) | exact SubL.refl _ | apply SubL.skip))
      · intro hb4
        repeat (first | refine un (h := ?_) | refine sk (h := ?_) | refine WL.y (hy := pkF) (h := ?_) | refine WL.y (hy := pkT) (h := ?_))
        exact mg (by repeat (first | exact trivial | refine ⟨rfl, ?_⟩ | refine ⟨by rw [hb4]; rfl, ?_⟩ | refine ⟨by rw [hb3]; rfl, ?_⟩)) (by repeat (first | exact SubL.nil | (apply SubL.cons; (repeat (first | exact At.here | apply At.there))) | exact SubL.refl _ | apply SubL.skip))
      refine un (h := ?_)
      refine WL.y (hy := notB) (h := ?_)
      refine WL.y (hy := (by first | exact pkT | exact pkF)) (h := ?_)
      exact mg (by repeat (first | exact trivial | refine ⟨rfl, ?_⟩ | refine ⟨by rw [hb3]; rfl, ?_⟩)) (by repeat (first | exact SubL.nil | (apply SubL.cons; (repeat (first | exact At.here | apply At.there))) | exact SubL.refl _ | apply SubL.skip))
    · intro hb3
      repeat (first | refine un (h := ?_) | refine sk (h := ?_) | refine WL.y (hy := pkF) (h := ?_) | refine WL.y (hy := pkT) (h := ?_))
      exact mg (by repeat (first | exact trivial | refine ⟨rfl, ?_⟩ | refine ⟨by rw [hb3]; rfl, ?_⟩)) (by repeat (first | exact SubL.nil | (apply SubL.cons; (repeat (first | exact At.here | apply At.there))) | exact SubL.refl _ | apply SubL.skip))
    refine WL.y (hy := asg) (h := ?_)
    refine nl (h := ?_)
    refine q_seq (h := ?_)
    refine rtn (h := ?_)
    refine q_ret (hR := ?_)
    rw [hE]
    exact fun w hS => ⟨rfl, hS.sub (by repeat (first | exact SubL.nil | (apply SubL.cons; (repeat (first | exact At.here | apply At.there))) | exact SubL.refl _ | apply SubL.skip))⟩
def slotV (sheet : List Int) (y : Int) : Int := idxF (pAt sheet fun x => decide (x = y)) sheet.length
theorem C_slot (sheet : List Int) (y : Int) (sA : Option Addr) (n sc : Nat) (hn : sheet.length = n) (hn2 : n ≤ 1000) (w : World) (hs : Rd w sA 1 n (enI sheet)) : C0 Try.prog 57 [.slice sA n sc, .int .i64 y] w (.int .i64 (slotV sheet y)) := by
  refine ⟨en Try.func57 Try.ntmps57 ((St.init w).share (e := .ro sA 1 n (enI sheet)) hs rfl rfl rfl) (h := fun F => ?_)⟩
  refine sq (h := ?_)
  refine rg (h := ?_)
  refine WL.y (hy := asg) (h := ?_)
  refine nl (h := ?_)
  refine q_seq (h := ?_)
  refine sq (h := ?_)
  refine sq (h := ?_)
  refine rg (h := ?_)
  refine WL.y (hy := asg) (h := ?_)
  refine nl (h := ?_)
  refine q_seq (h := ?_)
  refine bk (h := ?_)
  refine lp (X := IZ) (I := fun z => z.k ≤ n ∧ ∀ j, j < z.k → pAt sheet (fun x => decide (x = y)) j = false) (le := fun z => [(0, .slice sA n sc), (1, .int .i64 y), (5, .int .i64 z.k)]) (Le := fun _ => [.ro sA 1 n (enI sheet)]) (μ := fun z => n - z.k) ⟨0⟩ ⟨Nat.zero_le _, fun j hj => by cases hj⟩ (by repeat (first | exact trivial | refine ⟨rfl, ?_⟩)) (by repeat (first | exact SubL.nil | (apply SubL.cons; (repeat (first | exact At.here | apply At.there))) | exact SubL.refl _ | apply SubL.skip)) (fun z hz => ?_)
  obtain ⟨hz1, hz2⟩ := hz
  refine sq (h := ?_)
  refine sq (h := ?_)
  refine rg (h := ?_)
  refine WL.y (hy := mv) (h := ?_)
  refine WL.y (hy := mv) (h := ?_)
  refine WL.y (hy := lenS) (h := ?_)
  refine WL.y (hy := lss) (h := ?_)
  refine nl (h := ?_)
  refine q_seq (h := ?_)
  refine cd (by exact rfl) (fun h0 => ?_) (fun h0 => ?_)
  · skip
    have hkn : z.k < n := by simp only [decide_eq_true_eq] at h0; omega
    obtain ⟨x, hx1⟩ : ∃ x, sheet[z.k]? = some x := ⟨_, List.getElem?_eq_getElem (by omega)⟩
    have hxe := enI_at hx1
    refine skp (h := ?_)
    refine q_seq (h := ?_)
    refine sq (h := ?_)
    refine bk (h := ?_)
    refine sq (h := ?_)
    refine rg (h := ?_)
    refine WL.y (hy := mv) (h := ?_)
    refine WL.y (hy := mv) (h := ?_)
    refine WL.y (hy := ix (A := sA) (m := n)) (h := ?_)
    refine WL.y (hy := ldE (A := sA) (hk := hxe)) (h := ?_)
    refine WL.y (hy := mv) (h := ?_)
    refine WL.y (hy := eql) (h := ?_)
    refine nl (h := ?_)
    refine q_seq (h := ?_)
    refine cd (by exact rfl) (fun h1 => ?_) (fun h1 => ?_)
    · skip
      have hE : slotV sheet y = z.k := (idxF_spec _ _).uniq (.inl ⟨z.k, by omega, rfl, by rw [pAt_eq hx1]; exact h1, hz2⟩)
      refine sq (h := ?_)
      refine rg (h := ?_)
      refine WL.y (hy := mv) (h := ?_)
      refine WL.y (hy := asg) (h := ?_)
      refine nl (h := ?_)
      refine q_seq (h := ?_)
      refine rtn (h := ?_)
      refine q_blk_ret (h := ?_)
      refine q_then_ret (h := ?_)
      refine q_then_ret (h := ?_)
      refine q_blk_ret (h := ?_)
      refine q_then_ret (h := ?_)
      refine q_ret (hR := ?_)
      rw [hE]
      exact fun w hS => ⟨rfl, hS.sub (by repeat (first | exact SubL.nil | (apply SubL.cons; (repeat (first | exact At.here | apply At.there))) | exact SubL.refl _ | apply SubL.skip))⟩
    · skip
      have hno : pAt sheet (fun x => decide (x = y)) z.k = false := by rw [pAt_eq hx1]; exact h1
      refine skp (h := ?_)
      refine q_blk_norm (h := ?_)
      refine q_seq (h := ?_)
      refine rg (h := ?_)
      refine WL.y (hy := mv) (h := ?_)
      refine WL.y (hy := addI) (h := ?_)
      refine WL.y (hy := asg) (h := ?_)
      refine nl (h := ?_)
      refine rn (x := z) ⟨z.k + 1⟩ ⟨by dsimp only; omega, fun j hj => by
        rcases Nat.lt_succ_iff_lt_or_eq.1 hj with h | rfl
        · exact hz2 j h
        · exact hno⟩ (by dsimp only; omega) (by repeat (first | exact trivial | refine ⟨rfl, ?_⟩)) (by repeat (first | exact SubL.nil | (apply SubL.cons; (repeat (first | exact At.here | apply At.there))) | exact SubL.refl _ | apply SubL.skip))
  · skip
    have hkn : z.k = n := by simp only [decide_eq_false_iff_not] at h0; omega
    have hE : slotV sheet y = -1 := (idxF_spec _ _).uniq (.inr ⟨rfl, by rw [hn, ← hkn]; exact hz2⟩)
    refine et (h := ?_)
    refine q_then_exit (h := ?_)
    refine q_then_exit (h := ?_)
    refine q_blk_hit (h := ?_)
    refine q_seq (h := ?_)
    refine sq (h := ?_)
    refine rg (h := ?_)
    refine WL.y (hy := asg) (h := ?_)
    refine nl (h := ?_)
    refine q_seq (h := ?_)
    refine rtn (h := ?_)
    refine q_ret (hR := ?_)
    rw [hE]
    exact fun w hS => ⟨rfl, hS.sub (by repeat (first | exact SubL.nil | (apply SubL.cons; (repeat (first | exact At.here | apply At.there))) | exact SubL.refl _ | apply SubL.skip))⟩
/-! #### Legal -/
def pairOk (p : Pl) (sheet : List Int) (j : Nat) : Bool := apartV p (numV p (sheet.getD (2 * j) 0)) (numV p (sheet.getD (2 * j + 1) 0))
def pairTo (p : Pl) (sheet : List Int) : Nat → Bool
  | 0 => true
  | j + 1 => pairTo p sheet j && pairOk p sheet j
theorem pairTo_le {p : Pl} {sheet : List Int} {j : Nat} (h : pairTo p sheet j = false) : ∀ {k : Nat}, j ≤ k → pairTo p sheet k = false
  | 0, hk => by obtain rfl : j = 0 := by omega
                exact h
  | k + 1, hk => by
    by_cases e : j = k + 1
    · subst e; exact h
    · rw [pairTo, pairTo_le h (k := k) (by omega)]; rfl
def atV (p : Pl) (sheet : List Int) (s : Nat) : Int := slotV sheet (psAt p s).player
def seatBad (p : Pl) (s : Nat) (at_ : Int) : Bool := (decide ((s : Int) = 0) && !decide (at_ = 0)) || (decide ((s : Int) = 1) && !decide (at_ = p.size - 1)) || ((decide (2 ≤ (s : Int)) && !decide (at_ = p.size / 4)) && !decide (at_ = p.size - 1 - p.size / 4))
def seedOk (p : Pl) (sheet : List Int) (s : Nat) : Bool := !seatBad p s (atV p sheet s) && (decide ((s : Int) < byesV p) == decide (sheet.getD (facV (atV p sheet s)).toNat 0 = -1))
def seedTo (p : Pl) (sheet : List Int) : Nat → Bool
  | 0 => true
  | s + 1 => seedTo p sheet s && seedOk p sheet s
theorem seedTo_le {p : Pl} {sheet : List Int} {j : Nat} (h : seedTo p sheet j = false) : ∀ {k : Nat}, j ≤ k → seedTo p sheet k = false
  | 0, hk => by obtain rfl : j = 0 := by omega
                exact h
  | k + 1, hk => by
    by_cases e : j = k + 1
    · subst e; exact h
    · rw [seedTo, seedTo_le h (k := k) (by omega)]; rfl
def legalV (p : Pl) (sheet : List Int) : Bool := fullV p sheet && pairTo p sheet (p.size / 2).toNat && seedTo p sheet p.seeds.toNat
theorem slot_in {sheet : List Int} {y : Int} (h : inV sheet y = true) : ∃ k : Nat, slotV sheet y = k ∧ k < sheet.length ∧ sheet[k]? = some y := by
  rcases idxF_spec (pAt sheet fun x => decide (x = y)) sheet.length with ⟨k, hk, he, hp, _⟩ | ⟨he, hb⟩
  · obtain ⟨x, hx⟩ : ∃ x, sheet[k]? = some x := ⟨_, List.getElem?_eq_getElem hk⟩
    rw [pAt_eq hx] at hp
    exact ⟨k, he, hk, by rw [hx, of_decide_eq_true hp]⟩
  · exfalso
    obtain ⟨k, hk, e⟩ := List.getElem_of_mem (inV_iff.1 h)
    have := hb k hk
    rw [pAt_eq (List.getElem?_eq_getElem hk), decide_eq_false_iff_not] at this
    exact this e
set_option maxRecDepth 100000 in
set_option maxHeartbeats 4000000 in
theorem C_Legal (p : Pl) (a : PA) (sheet : List Int) (sA : Option Addr) (n sc : Nat) (hq : p.Ok) (hn : sheet.length = n) (hns : (n : Int) = p.size) (hsh : ∀ y ∈ sheet, ShP p y) (w : World) (h : PRd w p a) (hs : Rd w sA 1 n (enI sheet)) : C0 Try.prog 24 [p.val a, .slice sA n sc] w (.bool (legalV p sheet)) := by
  obtain ⟨hp, hl, hpn, hln, hpc⟩ := h
  have hz := hq.z
  have hqn := hq.n
  have hqs := hq.s
  refine ⟨en Try.func24 Try.ntmps24 ((((St.init w).share (e := .ro a.pA 3 p.ps.length (encPs p.ps)) hp rfl rfl rfl).share (e := .ro a.lA 1 p.lots.length (enI p.lots)) hl rfl rfl rfl).share (e := .ro sA 1 n (enI sheet)) hs rfl rfl rfl) (h := fun F => ?_)⟩
  refine sq (h := ?_)
  refine rg (h := ?_)
  refine bxA (h := fun b0 => ?_)
  refine WL.y (hy := asg) (h := ?_)
  refine nl (h := ?_)
  refine q_seq (h := ?_)
  refine sq (h := ?_)
  refine sq (h := ?_)
  refine rg (h := ?_)
  refine WL.y (hy := (by first | exact ldA | exact ldEA)) (h := ?_)
  refine WL.y (hy := mv) (h := ?_)
  refine cl0 (hc := fun w hS => C_isFull p a sheet sA n sc hn (by omega) w ⟨hS.get, hS.get, hpn, hln, hpc⟩ hS.get) (h := ?_)
  refine WL.y (hy := notB) (h := ?_)
  refine nl (h := ?_)
  refine q_seq (h := ?_)
  refine cd (by exact rfl) (fun h0 => ?_) (fun h0 => ?_)
  · skip
    have hE : legalV p sheet = false := by rw [legalV, (by simpa using h0 : fullV p sheet = false)]; rfl
    refine sq (h := ?_)
    refine rg (h := ?_)
    refine WL.y (hy := asg) (h := ?_)
    refine nl (h := ?_)
    refine q_seq (h := ?_)
    refine rtn (h := ?_)
    refine q_then_ret (h := ?_)
    refine q_ret (hR := ?_)
    rw [hE]
    exact fun w hS => ⟨rfl, hS.sub (by repeat (first | exact SubL.nil | (apply SubL.cons; (repeat (first | exact At.here | apply At.there))) | exact SubL.refl _ | apply SubL.skip))⟩
  · skip
    have hF : fullV p sheet = true := by simpa using h0
    refine skp (h := ?_)
    refine q_seq (h := ?_)
    refine sq (h := ?_)
    refine sq (h := ?_)
    refine rg (h := ?_)
    refine WL.y (hy := asg) (h := ?_)
    refine nl (h := ?_)
    refine q_seq (h := ?_)
    refine bk (h := ?_)
    refine lp (X := IZ) (I := fun z => (2 * z.k : Int) ≤ p.size ∧ pairTo p sheet z.k = true) (le := fun z => [(1, .slice sA n sc), (2, .pointer (some ⟨b0, 0, none⟩)), (5, .int .i64 (2 * (z.k : Int)))]) (Le := fun _ => .ro sA 1 n (enI sheet) :: plL p a b0) (μ := fun z => p.size.toNat - z.k) ⟨0⟩ ⟨by dsimp only; omega, rfl⟩ (by repeat (first | exact trivial | refine ⟨rfl, ?_⟩)) (by repeat (first | exact SubL.nil | (apply SubL.cons; (repeat (first | exact At.here | apply At.there))) | exact SubL.refl _ | apply SubL.skip)) (fun z hz => ?_)
    obtain ⟨hz1, hz2⟩ := hz
    refine sq (h := ?_)
    refine sq (h := ?_)
    refine rg (h := ?_)
    refine WL.y (hy := mv) (h := ?_)
    refine WL.y (hy := (by first | exact fa | exact faE)) (h := ?_)
    refine WL.y (hy := (by first | exact ld | exact ldE)) (h := ?_)
    refine WL.y (hy := lss) (h := ?_)
    refine nl (h := ?_)
    refine q_seq (h := ?_)
    refine cd (by exact rfl) (fun h1 => ?_) (fun h1 => ?_)
    · skip
      have hkn : 2 * z.k + 1 < n := by simp only [decide_eq_true_eq] at h1; omega
      obtain ⟨x, hx1⟩ : ∃ x, sheet[2 * z.k]? = some x := ⟨_, List.getElem?_eq_getElem (by omega)⟩
      obtain ⟨y, hy1⟩ : ∃ y, sheet[2 * z.k + 1]? = some y := ⟨_, List.getElem?_eq_getElem (by omega)⟩
      have hxs := hsh x (List.mem_of_getElem? hx1)
      have hys := hsh y (List.mem_of_getElem? hy1)
      have hxe : (enI sheet)[((2 * (z.k : Int))).toNat]? = some [.int .i64 x] := by rw [show (2 * (z.k : Int)).toNat = 2 * z.k by omega]; exact enI_at hx1
      have hye : (enI sheet)[((2 * (z.k : Int)) + 1).toNat]? = some [.int .i64 y] := by rw [show (2 * (z.k : Int) + 1).toNat = 2 * z.k + 1 by omega]; exact enI_at hy1
      have hpk : pairOk p sheet z.k = apartV p (numV p x) (numV p y) := by rw [pairOk, getD_at hx1, getD_at hy1]
      refine skp (h := ?_)
      refine q_seq (h := ?_)
      refine sq (h := ?_)
      refine bk (h := ?_)
      refine sq (h := ?_)
      refine rgD0 (by kernel_rfl) (h := ?_)
      refine tk 0 (hy := (by first | exact ldA | exact ldEA)) (h := ?_)
      refine tk 1 (hy := mv) (h := ?_)
      refine tk 2 (hy := mv) (h := ?_)
      refine tk 3 (hy := ix (A := sA) (m := n)) (h := ?_)
      refine tk 4 (hy := ldE (A := sA) (hk := hxe)) (h := ?_)
      refine tk 5 (hy := mv) (h := ?_)
      refine tk 6 (hy := mv) (h := ?_)
      refine tk 7 (hy := addI) (h := ?_)
      refine tk 8 (hy := ix (A := sA) (m := n)) (h := ?_)
      refine tk 9 (hy := ldE (A := sA) (hk := hye)) (h := ?_)
      refine one 10 (h := ?_)
      refine cl0 (hc := fun w hS => C_mayFace p a x y hxs hys w ⟨hS.get (by repeat (first | exact Rds.ro | apply Rds.there)), hS.get (by repeat (first | exact Rds.ro | apply Rds.there)), hpn, hln, hpc⟩) (h := ?_)
      refine nx (h := ?_)
      refine tk 11 (hy := notB) (h := ?_)
      refine dn (h := ?_)
      refine q_seq (h := ?_)
      refine cd (by exact rfl) (fun h2 => ?_) (fun h2 => ?_)
      · skip
        have hE : legalV p sheet = false := by rw [legalV, pairTo_le (j := z.k + 1) (by rw [pairTo, hz2, hpk, (by simpa using h2 : apartV p (numV p x) (numV p y) = false)]; rfl) (by omega)]; simp
        refine sq (h := ?_)
        refine rg (h := ?_)
        refine WL.y (hy := asg) (h := ?_)
        refine nl (h := ?_)
        refine q_seq (h := ?_)
        refine rtn (h := ?_)
        refine q_blk_ret (h := ?_)
        refine q_then_ret (h := ?_)
        refine q_then_ret (h := ?_)
        refine q_blk_ret (h := ?_)
        refine q_then_ret (h := ?_)
        refine q_ret (hR := ?_)
        rw [hE]
        exact fun w hS => ⟨rfl, hS.sub (by repeat (first | exact SubL.nil | (apply SubL.cons; (repeat (first | exact At.here | apply At.there))) | exact SubL.refl _ | apply SubL.skip))⟩
      · skip
        have hg : pairTo p sheet (z.k + 1) = true := by rw [pairTo, hz2, hpk, (by simpa using h2 : apartV p (numV p x) (numV p y) = true)]; rfl
        refine skp (h := ?_)
        refine q_blk_norm (h := ?_)
        refine q_seq (h := ?_)
        refine rg (h := ?_)
        refine WL.y (hy := mv) (h := ?_)
        refine WL.y (hy := addI) (h := ?_)
        refine WL.y (hy := asg) (h := ?_)
        refine nl (h := ?_)
        refine rn (x := z) ⟨z.k + 1⟩ ⟨by dsimp only; omega, hg⟩ (by dsimp only; omega) (by repeat (first | exact trivial | refine ⟨rfl, ?_⟩ | refine ⟨by show some (Value.int .i64 (2 * (z.k : Int) + 2)) = some (Value.int .i64 (2 * ((z.k + 1 : Nat) : Int))); congr 2; omega, ?_⟩)) (by repeat (first | exact SubL.nil | (apply SubL.cons; (repeat (first | exact At.here | apply At.there))) | exact SubL.refl _ | apply SubL.skip))
    · skip
      have hkn : (p.size / 2).toNat = z.k := by simp only [decide_eq_false_iff_not] at h1; omega
      have hP : pairTo p sheet (p.size / 2).toNat = true := by rw [hkn]; exact hz2
      refine et (h := ?_)
      refine q_then_exit (h := ?_)
      refine q_then_exit (h := ?_)
      refine q_blk_hit (h := ?_)
      refine q_seq (h := ?_)
      refine sq (h := ?_)
      refine rg (h := ?_)
      refine WL.y (hy := (by first | exact fa | exact faE)) (h := ?_)
      refine WL.y (hy := (by first | exact ld | exact ldE)) (h := ?_)
      refine WL.y (hy := (by first | exact fa | exact faE)) (h := ?_)
      refine WL.y (hy := (by first | exact ld | exact ldE)) (h := ?_)
      refine WL.y (hy := lenS) (h := ?_)
      refine WL.y (hy := subI) (h := ?_)
      refine WL.y (hy := asg) (h := ?_)
      refine nl (h := ?_)
      refine q_seq (h := ?_)
      refine sq (h := ?_)
      refine sq (h := ?_)
      refine rg (h := ?_)
      refine WL.y (hy := asg) (h := ?_)
      refine nl (h := ?_)
      refine q_seq (h := ?_)
      refine bk (h := ?_)
      refine lp (X := IZ) (I := fun u => (u.k : Int) ≤ p.seeds ∧ seedTo p sheet u.k = true) (le := fun u => [(1, .slice sA n sc), (2, .pointer (some ⟨b0, 0, none⟩)), (6, .int .i64 (p.size - p.ps.length)), (7, .int .i64 u.k)]) (Le := fun _ => .ro sA 1 n (enI sheet) :: plL p a b0) (μ := fun u => p.seeds.toNat - u.k) ⟨0⟩ ⟨by dsimp only; omega, rfl⟩ (by repeat (first | exact trivial | refine ⟨rfl, ?_⟩)) (by repeat (first | exact SubL.nil | (apply SubL.cons; (repeat (first | exact At.here | apply At.there))) | exact SubL.refl _ | apply SubL.skip)) (fun u hu => ?_)
      obtain ⟨hu1, hu2⟩ := hu
      refine sq (h := ?_)
      refine sq (h := ?_)
      refine rg (h := ?_)
      refine WL.y (hy := mv) (h := ?_)
      refine WL.y (hy := (by first | exact fa | exact faE)) (h := ?_)
      refine WL.y (hy := (by first | exact ld | exact ldE)) (h := ?_)
      refine WL.y (hy := lss) (h := ?_)
      refine nl (h := ?_)
      refine q_seq (h := ?_)
      refine cd (by exact rfl) (fun h3 => ?_) (fun h3 => ?_)
      · skip
        have hkn2 : (u.k : Int) < p.seeds := by simpa only [decide_eq_true_eq] using h3
        obtain ⟨x, hx1⟩ : ∃ x, p.ps[u.k]? = some x := ⟨_, List.getElem?_eq_getElem (by omega)⟩
        have hxe := encPs_at hx1
        have hpx : psAt p u.k = x := by unfold psAt; rw [Int.toNat_natCast, hx1]; rfl
        have hin : inV sheet x.player = true := by
          unfold fullV at hF
          rw [Bool.not_eq_true', List.any_eq_false] at hF
          have := hF x (List.mem_of_getElem? hx1)
          simpa using this
        obtain ⟨q, hq1, hq2, hq3⟩ := slot_in hin
        have hat : atV p sheet u.k = q := by rw [atV, hpx]; exact hq1
        have hfr : 0 ≤ facV q ∧ facV q < n := by
          unfold facV
          by_cases e : (q : Int) % 2 = 0
          · rw [decide_eq_true e]; simp only [cond_true]; omega
          · rw [decide_eq_false e]; simp only [cond_false]; omega
        obtain ⟨v, hv⟩ : ∃ v, sheet[(facV q).toNat]? = some v := ⟨_, List.getElem?_eq_getElem (by omega)⟩
        have hve := enI_at hv
        have hsk : seedOk p sheet u.k = (!seatBad p u.k q && (decide ((u.k : Int) < byesV p) == decide (v = -1))) := by rw [seedOk, hat, getD_at hv]
        have hby : byesV p = p.size - p.ps.length := rfl
        refine skp (h := ?_)
        refine q_seq (h := ?_)
        refine sq (h := ?_)
        refine bk (h := ?_)
        refine sq (h := ?_)
        refine rg (h := ?_)
        refine WL.y (hy := mv) (h := ?_)
        refine WL.y (hy := (by first | exact fa | exact faE)) (h := ?_)
        refine WL.y (hy := (by first | exact ld | exact ldE)) (h := ?_)
        refine WL.y (hy := mv) (h := ?_)
        refine WL.y (hy := ix (A := a.pA) (m := p.ps.length)) (h := ?_)
        refine WL.y (hy := (by first | exact fa | exact faE)) (h := ?_)
        refine WL.y (hy := ldE (A := a.pA) (hk := hxe)) (h := ?_)
        refine cl0 (hc := fun w hS => C_slot sheet x.player sA n sc hn (by omega) w (hS.get (by repeat (first | exact Rds.ro | apply Rds.there)))) (h := ?_)
        rw [hq1]
        refine WL.y (hy := asg) (h := ?_)
        refine nl (h := ?_)
        refine q_seq (h := ?_)
        refine sq (h := ?_)
        refine rgD0 (by kernel_rfl) (h := ?_)
        refine tk 0 (hy := (by first | exact fa | exact faE)) (h := ?_)
        refine tk 1 (hy := (by first | exact ld | exact ldE)) (h := ?_)
        refine tk 2 (hy := quoI) (h := ?_)
        refine tk 3 (hy := (by first | exact fa | exact faE)) (h := ?_)
        refine tk 4 (hy := (by first | exact ld | exact ldE)) (h := ?_)
        refine tk 5 (hy := subI) (h := ?_)
        refine tk 6 (hy := (by first | exact fa | exact faE)) (h := ?_)
        refine tk 7 (hy := (by first | exact ld | exact ldE)) (h := ?_)
        refine tk 8 (hy := quoI) (h := ?_)
        refine tk 9 (hy := subI) (h := ?_)
        refine tk 10 (hy := asg) (h := ?_)
        refine tk 11 (hy := asg) (h := ?_)
        refine dn (h := ?_)
        refine q_seq (h := ?_)
        refine sq (h := ?_)
        refine sq (h := ?_)
        refine rg (h := ?_)
        refine WL.y (hy := mv) (h := ?_)
        refine WL.y (hy := eql) (h := ?_)
        refine WL.y (hy := mv) (h := ?_)
        apply brAnd 3 65 68 (by exact rfl)
        · intro hb4
          refine un (h := ?_)
          refine WL.y (hy := mv) (h := ?_)
          refine un (h := ?_)
          refine WL.y (hy := neq) (h := ?_)
          refine WL.y (hy := (by first | exact pkT | exact pkF)) (h := ?_)
          exact mg (by repeat (first | exact trivial | refine ⟨rfl, ?_⟩ | refine ⟨by rw [hb4]; rfl, ?_⟩)) (by repeat (first | exact SubL.nil | (apply SubL.cons; (repeat (first | exact At.here | apply At.there))) | exact SubL.refl _ | apply SubL.skip))
        · intro hb4
          repeat (first | refine un (h := ?_) | refine sk (h := ?_) | refine WL.y (hy := pkF) (h := ?_) | refine WL.y (hy := pkT) (h := ?_))
          exact mg (by repeat (first | exact trivial | refine ⟨rfl, ?_⟩ | refine ⟨by rw [hb4]; rfl, ?_⟩)) (by repeat (first | exact SubL.nil | (apply SubL.cons; (repeat (first | exact At.here | apply At.there))) | exact SubL.refl _ | apply SubL.skip))
        refine WL.y (hy := mv) (h := ?_)
        apply brOr 10 69 79 (by exact rfl)
        · intro hb5
          refine un (h := ?_)
          refine WL.y (hy := mv) (h := ?_)
          refine un (h := ?_)
          refine WL.y (hy := eql) (h := ?_)
          refine un (h := ?_)
          refine WL.y (hy := mv) (h := ?_)
          apply brAnd 6 72 78 (by exact rfl)
          · intro hb6
            refine un (h := ?_)
            refine WL.y (hy := mv) (h := ?_)
            refine un (h := ?_)
            refine WL.y (hy := (by first | exact fa | exact faE)) (h := ?_)
            refine un (h := ?_)
            refine WL.y (hy := (by first | exact ld | exact ldE)) (h := ?_)
            refine un (h := ?_)
            refine WL.y (hy := subI) (h := ?_)
            refine un (h := ?_)
            refine WL.y (hy := neq) (h := ?_)
            refine un (h := ?_)
            refine WL.y (hy := (by first | exact pkT | exact pkF)) (h := ?_)
            exact mg (by repeat (first | exact trivial | refine ⟨rfl, ?_⟩ | refine ⟨by rw [hb6]; rfl, ?_⟩ | refine ⟨by rw [hb5]; rfl, ?_⟩)) (by repeat (first | exact SubL.nil | (apply SubL.cons; (repeat (first | exact At.here | apply At.there))) | exact SubL.refl _ | apply SubL.skip))
          · intro hb6
            repeat (first | refine un (h := ?_) | refine sk (h := ?_) | refine WL.y (hy := pkF) (h := ?_) | refine WL.y (hy := pkT) (h := ?_))
            exact mg (by repeat (first | exact trivial | refine ⟨rfl, ?_⟩ | refine ⟨by rw [hb6]; rfl, ?_⟩ | refine ⟨by rw [hb5]; rfl, ?_⟩)) (by repeat (first | exact SubL.nil | (apply SubL.cons; (repeat (first | exact At.here | apply At.there))) | exact SubL.refl _ | apply SubL.skip))
          refine WL.y (hy := (by first | exact pkT | exact pkF)) (h := ?_)
          exact mg (by repeat (first | exact trivial | refine ⟨rfl, ?_⟩ | refine ⟨by rw [hb5]; rfl, ?_⟩)) (by repeat (first | exact SubL.nil | (apply SubL.cons; (repeat (first | exact At.here | apply At.there))) | exact SubL.refl _ | apply SubL.skip))
        · intro hb5
          repeat (first | refine un (h := ?_) | refine sk (h := ?_) | refine WL.y (hy := pkF) (h := ?_) | refine WL.y (hy := pkT) (h := ?_))
          exact mg (by repeat (first | exact trivial | refine ⟨rfl, ?_⟩ | refine ⟨by rw [hb5]; rfl, ?_⟩)) (by repeat (first | exact SubL.nil | (apply SubL.cons; (repeat (first | exact At.here | apply At.there))) | exact SubL.refl _ | apply SubL.skip))
        refine WL.y (hy := mv) (h := ?_)
        apply brOr 13 80 93 (by exact rfl)
        · intro hb7
          refine un (h := ?_)
          refine WL.y (hy := mv) (h := ?_)
          refine un (h := ?_)
          refine WL.y (hy := geq) (h := ?_)
          refine un (h := ?_)
          refine WL.y (hy := mv) (h := ?_)
          apply brAnd 4 83 87 (by exact rfl)
          · intro hb8
            refine un (h := ?_)
            refine WL.y (hy := mv) (h := ?_)
            refine un (h := ?_)
            refine WL.y (hy := mv) (h := ?_)
            refine un (h := ?_)
            refine WL.y (hy := neq) (h := ?_)
            refine un (h := ?_)
            refine WL.y (hy := (by first | exact pkT | exact pkF)) (h := ?_)
            exact mg (by repeat (first | exact trivial | refine ⟨rfl, ?_⟩ | refine ⟨by rw [hb8]; rfl, ?_⟩ | refine ⟨by rw [hb7]; rfl, ?_⟩)) (by repeat (first | exact SubL.nil | (apply SubL.cons; (repeat (first | exact At.here | apply At.there))) | exact SubL.refl _ | apply SubL.skip))
          · intro hb8
            repeat (first | refine un (h := ?_) | refine sk (h := ?_) | refine WL.y (hy := pkF) (h := ?_) | refine WL.y (hy := pkT) (h := ?_))
            exact mg (by repeat (first | exact trivial | refine ⟨rfl, ?_⟩ | refine ⟨by rw [hb8]; rfl, ?_⟩ | refine ⟨by rw [hb7]; rfl, ?_⟩)) (by repeat (first | exact SubL.nil | (apply SubL.cons; (repeat (first | exact At.here | apply At.there))) | exact SubL.refl _ | apply SubL.skip))
          refine un (h := ?_)
          refine WL.y (hy := mv) (h := ?_)
          apply brAnd 4 88 92 (by exact rfl)
          · intro hb9
            refine un (h := ?_)
            refine WL.y (hy := mv) (h := ?_)
            refine un (h := ?_)
            refine WL.y (hy := mv) (h := ?_)
            refine un (h := ?_)
            refine WL.y (hy := neq) (h := ?_)
            refine un (h := ?_)
            refine WL.y (hy := (by first | exact pkT | exact pkF)) (h := ?_)
            exact mg (by repeat (first | exact trivial | refine ⟨rfl, ?_⟩ | refine ⟨by rw [hb9]; rfl, ?_⟩ | refine ⟨by rw [hb7]; rfl, ?_⟩)) (by repeat (first | exact SubL.nil | (apply SubL.cons; (repeat (first | exact At.here | apply At.there))) | exact SubL.refl _ | apply SubL.skip))
          · intro hb9
            repeat (first | refine un (h := ?_) | refine sk (h := ?_) | refine WL.y (hy := pkF) (h := ?_) | refine WL.y (hy := pkT) (h := ?_))
            exact mg (by repeat (first | exact trivial | refine ⟨rfl, ?_⟩ | refine ⟨by rw [hb9]; rfl, ?_⟩ | refine ⟨by rw [hb7]; rfl, ?_⟩)) (by repeat (first | exact SubL.nil | (apply SubL.cons; (repeat (first | exact At.here | apply At.there))) | exact SubL.refl _ | apply SubL.skip))
          refine WL.y (hy := (by first | exact pkT | exact pkF)) (h := ?_)
          exact mg (by repeat (first | exact trivial | refine ⟨rfl, ?_⟩ | refine ⟨by rw [hb7]; rfl, ?_⟩)) (by repeat (first | exact SubL.nil | (apply SubL.cons; (repeat (first | exact At.here | apply At.there))) | exact SubL.refl _ | apply SubL.skip))
        · intro hb7
          repeat (first | refine un (h := ?_) | refine sk (h := ?_) | refine WL.y (hy := pkF) (h := ?_) | refine WL.y (hy := pkT) (h := ?_))
          exact mg (by repeat (first | exact trivial | refine ⟨rfl, ?_⟩ | refine ⟨by rw [hb7]; rfl, ?_⟩)) (by repeat (first | exact SubL.nil | (apply SubL.cons; (repeat (first | exact At.here | apply At.there))) | exact SubL.refl _ | apply SubL.skip))
        refine nl (h := ?_)
        refine q_seq (h := ?_)
        refine cd (by exact rfl) (fun h10 => ?_) (fun h10 => ?_)
        · skip
          have hE : legalV p sheet = false := by rw [legalV, seedTo_le (j := u.k + 1) (by rw [seedTo, hu2, hsk, show seatBad p u.k q = true from h10]; rfl) (by omega), Bool.and_false]
          refine sq (h := ?_)
          refine rg (h := ?_)
          refine WL.y (hy := asg) (h := ?_)
          refine nl (h := ?_)
          refine q_seq (h := ?_)
          refine rtn (h := ?_)
          refine q_then_ret (h := ?_)
          refine q_blk_ret (h := ?_)
          refine q_then_ret (h := ?_)
          refine q_then_ret (h := ?_)
          refine q_blk_ret (h := ?_)
          refine q_then_ret (h := ?_)
          refine q_ret (hR := ?_)
          rw [hE]
          exact fun w hS => ⟨rfl, hS.sub (by repeat (first | exact SubL.nil | (apply SubL.cons; (repeat (first | exact At.here | apply At.there))) | exact SubL.refl _ | apply SubL.skip))⟩
        · skip
          have hsb : seatBad p u.k q = false := h10
          refine skp (h := ?_)
          refine q_seq (h := ?_)
          refine sq (h := ?_)
          refine rg (h := ?_)
          refine WL.y (hy := mv) (h := ?_)
          refine WL.y (hy := mv) (h := ?_)
          refine WL.y (hy := lss) (h := ?_)
          refine WL.y (hy := mv) (h := ?_)
          refine WL.y (hy := mv) (h := ?_)
          refine cl0 (hc := fun w hS => C_faces q (by omega) w) (h := ?_)
          refine WL.y (hy := ix (A := sA) (m := n)) (h := ?_)
          refine WL.y (hy := ldE (A := sA) (hk := hve)) (h := ?_)
          refine WL.y (hy := eql) (h := ?_)
          refine WL.y (hy := neqB) (h := ?_)
          refine nl (h := ?_)
          refine q_seq (h := ?_)
          refine cd (by exact rfl) (fun h11 => ?_) (fun h11 => ?_)
          · skip
            have hE : legalV p sheet = false := by rw [legalV, seedTo_le (j := u.k + 1) (by rw [seedTo, hu2, hsk, hsb, hby]; simpa using h11) (by omega), Bool.and_false]
            refine sq (h := ?_)
            refine rg (h := ?_)
            refine WL.y (hy := asg) (h := ?_)
            refine nl (h := ?_)
            refine q_seq (h := ?_)
            refine rtn (h := ?_)
            refine q_blk_ret (h := ?_)
            refine q_then_ret (h := ?_)
            refine q_then_ret (h := ?_)
            refine q_blk_ret (h := ?_)
            refine q_then_ret (h := ?_)
            refine q_ret (hR := ?_)
            rw [hE]
            exact fun w hS => ⟨rfl, hS.sub (by repeat (first | exact SubL.nil | (apply SubL.cons; (repeat (first | exact At.here | apply At.there))) | exact SubL.refl _ | apply SubL.skip))⟩
          · skip
            have hg : seedTo p sheet (u.k + 1) = true := by rw [seedTo, hu2, hsk, hsb, hby]; simpa using h11
            refine skp (h := ?_)
            refine q_blk_norm (h := ?_)
            refine q_seq (h := ?_)
            refine rg (h := ?_)
            refine WL.y (hy := mv) (h := ?_)
            refine WL.y (hy := addI) (h := ?_)
            refine WL.y (hy := asg) (h := ?_)
            refine nl (h := ?_)
            refine rn (x := u) ⟨u.k + 1⟩ ⟨by dsimp only; omega, hg⟩ (by dsimp only; omega) (by repeat (first | exact trivial | refine ⟨rfl, ?_⟩)) (by repeat (first | exact SubL.nil | (apply SubL.cons; (repeat (first | exact At.here | apply At.there))) | exact SubL.refl _ | apply SubL.skip))
      · skip
        have hkn2 : p.seeds.toNat = u.k := by simp only [decide_eq_false_iff_not] at h3; omega
        have hE : legalV p sheet = true := by rw [legalV, hF, hP, hkn2, hu2]; rfl
        refine et (h := ?_)
        refine q_then_exit (h := ?_)
        refine q_then_exit (h := ?_)
        refine q_blk_hit (h := ?_)
        refine q_seq (h := ?_)
        refine sq (h := ?_)
        refine rg (h := ?_)
        refine WL.y (hy := asg) (h := ?_)
        refine nl (h := ?_)
        refine q_seq (h := ?_)
        refine rtn (h := ?_)
        refine q_ret (hR := ?_)
        rw [hE]
        exact fun w hS => ⟨rfl, hS.sub (by repeat (first | exact SubL.nil | (apply SubL.cons; (repeat (first | exact At.here | apply At.there))) | exact SubL.refl _ | apply SubL.skip))⟩
end Go.Proofs.Ytjkoaifjmcgpfaa
