/- Walk of score: least, Least. -/
import Derived.Test.YtacaojifempclaaSB
namespace Go.Proofs.Ytacaojifempclaa
open Go Go.RowKit

theorem keepV_1 (won games pts : Pr) (z : Int × Kn) : (keepV won games pts z).1 = z.1 := rfl
theorem keepV_2 (won games pts : Pr) (z : Int × Kn) : (keepV won games pts z).2 = bif isZ pts then kput z.2 (won, games) z.1 else z.2 := rfl
theorem subTo_succ (rec : Pr → Pr → Int → Kn → Int × Kn) (f : Fmt) (won games pts : Pr) (more : Int) (kn : Kn) (k : Nat) : subTo rec f won games pts more kn (k + 1) = (min (subTo rec f won games pts more kn k).1 (takesV f (setV f won) (brksV (setV f won) games) pts k + (restV rec f won games more k (subTo rec f won games pts more kn k).2).1), (restV rec f won games more k (subTo rec f won games pts more kn k).2).2) := rfl
def LeastOk (f : Fmt) (side : Int) (n : Nat) : Prop := ∀ (won games pts : Pr) (more : Int) (kn : Kn) (es : Array MapEntry) (c b : Nat), meas f won more < n → ((0 ≤ won.1 ∧ won.1 ≤ f.sets) ∧ 0 ≤ won.2 ∧ won.2 ≤ f.sets) → (0 ≤ games.1 ∧ 0 ≤ games.2 ∧ games.1 + more ≤ 2000 ∧ games.2 + more ≤ 2000) → ((0 ≤ pts.1 ∧ pts.1 ≤ 1000) ∧ 0 ≤ pts.2 ∧ pts.2 ≤ 1000) → (0 ≤ more ∧ more ≤ 20) → kOk kn → MapIs es (encK kn) →
  Tr Try.prog 46 [f.val, .agg #[.int .i64 won.1, .int .i64 won.2, .int .i64 games.1, .int .i64 games.2], pv pts, .int .i64 side, .int .i64 more, .map (some b)] [.obj b (.map es c)] (fun x : Array MapEntry × Nat => MapIs x.1 (encK (leastF f side n won games pts more kn).2)) (fun _ => .int .i64 (leastF f side n won games pts more kn).1) (fun x => [.obj b (.map x.1 x.2)])

set_option maxRecDepth 100000 in
set_option maxHeartbeats 2000000 in
theorem T_least_step (f : Fmt) (side : Int) (hf : f.Ok) (n : Nat) (ih : LeastOk f side n) : LeastOk f side (n + 1) := by
  intro won games pts more kn es c b hme hw hg hp hmo hk hm
  refine ⟨fun w0 w R hst => ?_⟩
  obtain ⟨rec, hrec⟩ : ∃ rec : Pr → Pr → Int → Kn → Int × Kn, rec = fun w g m kn => leastF f side n w g (0, 0) m kn := ⟨_, rfl⟩
  have hrok : RecOk rec := by rw [hrec]; exact fun w g m kn hk => leastF_ok f side n w g (0, 0) m kn hk
  have hsb := fun k => subTo_ok hrok f won games pts more hk k
  have hSw : Sm won := sm_of (K := 1000) (by have := hf.s1; omega) (by omega)
  have hme' : (2 * f.sets - won.1 - won.2) * 25 + more < (n : Int) + 1 := by
    have h0 : meas f won more < ((n + 1 : Nat) : Int) := hme
    unfold meas at h0
    omega
  have hs1 := hf.s1
  have hs0 := hf.s0
  have hg0 := hf.g0
  have hg1 := hf.g1
  have hSg : Sm games := ⟨by omega, by omega⟩
  have hset : (setV f won).2 ≤ 15 := by
    have h1 := hf.o1
    have h2 := hf.l1
    unfold setV
    cases decide (won.1 = f.sets - 1) && decide (won.2 = f.sets - 1) <;> simp only [cond_true, cond_false] <;> omega
  refine en Try.func46 Try.ntmps46 hst (h := fun F => ?_)
  refine sq (h := ?_)
  refine rg (h := ?_)
  refine bxA (h := fun b0 => ?_)
  refine bxA (h := fun b1 => ?_)
  refine bxA (h := fun b2 => ?_)
  refine WL.y (hy := asg) (h := ?_)
  refine nl (h := ?_)
  refine q_seq (h := ?_)
  refine sq (h := ?_)
  refine bk (h := ?_)
  refine sq (h := ?_)
  refine rg (h := ?_)
  refine WL.y (hy := (by first | exact ldA | exact ldEA)) (h := ?_)
  refine WL.y (hy := (by first | exact fa | exact faE)) (h := ?_)
  refine WL.y (hy := (by first | exact ldA | exact ldEA)) (h := ?_)
  refine cl0 (hc := fun w hS => C_rules_over _ _ w) (h := ?_)
  refine WL.y (hy := mv) (h := ?_)
  apply brAnd 9 27 36 (by exact rfl)
  · intro hb0
    refine un (h := ?_)
    refine WL.y (hy := (by first | exact fa | exact faE)) (h := ?_)
    refine un (h := ?_)
    refine WL.y (hy := (by first | exact ldA | exact ldEA)) (h := ?_)
    refine un (h := ?_)
    refine WL.y (hy := (by first | exact fa | exact faE)) (h := ?_)
    refine un (h := ?_)
    refine WL.y (hy := (by first | exact fa | exact faE)) (h := ?_)
    refine un (h := ?_)
    refine WL.y (hy := (by first | exact ld | exact ldE)) (h := ?_)
    refine un (h := ?_)
    refine cl0 (hc := fun w hS => C_score_leads _ _ _ (by assumption) w) (h := ?_)
    refine un (h := ?_)
    refine WL.y (hy := mv) (h := ?_)
    refine un (h := ?_)
    refine WL.y (hy := eql) (h := ?_)
    refine WL.y (hy := (by first | exact pkT | exact pkF)) (h := ?_)
    exact mg (by repeat (first | exact trivial | refine ⟨rfl, ?_⟩ | refine ⟨by rw [hb0]; rfl, ?_⟩)) (by repeat (first | exact SubL.nil | (apply SubL.cons; (repeat (first | exact At.here | apply At.there))) | exact SubL.refl _ | apply SubL.skip))
  · intro hb0
    repeat (first | refine un (h := ?_) | refine sk (h := ?_) | refine WL.y (hy := pkF) (h := ?_) | refine WL.y (hy := pkT) (h := ?_))
    exact mg (by repeat (first | exact trivial | refine ⟨rfl, ?_⟩ | refine ⟨by rw [hb0]; rfl, ?_⟩)) (by repeat (first | exact SubL.nil | (apply SubL.cons; (repeat (first | exact At.here | apply At.there))) | exact SubL.refl _ | apply SubL.skip))
  refine WL.y (hy := asg) (h := ?_)
  refine nl (h := ?_)
  refine q_seq (h := ?_)
  refine cd (by exact rfl) (fun h1 => ?_) (fun h1 => ?_)
  · skip
    refine sq (h := ?_)
    refine rg (h := ?_)
    refine WL.y (hy := asg) (h := ?_)
    refine nl (h := ?_)
    refine q_seq (h := ?_)
    refine rtn (h := ?_)
    refine q_blk_ret (h := ?_)
    refine q_then_ret (h := ?_)
    refine q_ret (hR := ?_)
    have hL : leastF f side (n + 1) won games pts more kn = (0, kn) := by rw [leastF, h1, cond_true]
    rw [hL]
    exact fun w hS => ⟨(es, c), hm, rfl, hS.sub (by repeat (first | exact SubL.nil | (apply SubL.cons; (repeat (first | exact At.here | apply At.there))) | exact SubL.refl _ | apply SubL.skip))⟩
  · skip
    have kA : (overV f won && decide (leadsV won f.sets 1 = side)) = false := h1
    refine sq (h := ?_)
    refine sq (h := ?_)
    refine rg (h := ?_)
    refine WL.y (hy := (by first | exact ldA | exact ldEA)) (h := ?_)
    refine WL.y (hy := (by first | exact fa | exact faE)) (h := ?_)
    refine WL.y (hy := (by first | exact ldA | exact ldEA)) (h := ?_)
    refine cl0 (hc := fun w hS => C_rules_over _ _ w) (h := ?_)
    refine WL.y (hy := asg) (h := ?_)
    refine nl (h := ?_)
    refine q_seq (h := ?_)
    refine cd (by exact rfl) (fun h2 => ?_) (fun h2 => ?_)
    · skip
      refine skp (h := ?_)
      refine q_seq (h := ?_)
      refine cd (by exact rfl) (fun h3 => ?_) (fun h3 => ?_)
      · skip
        refine sq (h := ?_)
        refine rg (h := ?_)
        refine WL.y (hy := asg) (h := ?_)
        refine nl (h := ?_)
        refine q_seq (h := ?_)
        refine rtn (h := ?_)
        refine q_blk_ret (h := ?_)
        refine q_then_ret (h := ?_)
        refine q_ret (hR := ?_)
        have hL : leastF f side (n + 1) won games pts more kn = (farV, kn) := by rw [leastF, kA, h2, cond_false, cond_true]
        rw [hL]
        exact fun w hS => ⟨(es, c), hm, rfl, hS.sub (by repeat (first | exact SubL.nil | (apply SubL.cons; (repeat (first | exact At.here | apply At.there))) | exact SubL.refl _ | apply SubL.skip))⟩
      · skip
        exact absurd (h2.symm.trans h3) (by decide)
    · skip
      have kO : overV f won = false := h2
      refine rg (h := ?_)
      refine WL.y (hy := mv) (h := ?_)
      refine WL.y (hy := eql) (h := ?_)
      refine WL.y (hy := asg) (h := ?_)
      refine nl (h := ?_)
      refine q_seq (h := ?_)
      refine cd (by exact rfl) (fun h4 => ?_) (fun h4 => ?_)
      · skip
        have kM : decide (more = 0) = true := h4
        refine sq (h := ?_)
        refine rg (h := ?_)
        refine WL.y (hy := asg) (h := ?_)
        refine nl (h := ?_)
        refine q_seq (h := ?_)
        refine rtn (h := ?_)
        refine q_blk_ret (h := ?_)
        refine q_then_ret (h := ?_)
        refine q_ret (hR := ?_)
        have hL : leastF f side (n + 1) won games pts more kn = (farV, kn) := by rw [leastF, kA, kO, kM, cond_false, cond_false, cond_true]
        rw [hL]
        exact fun w hS => ⟨(es, c), hm, rfl, hS.sub (by repeat (first | exact SubL.nil | (apply SubL.cons; (repeat (first | exact At.here | apply At.there))) | exact SubL.refl _ | apply SubL.skip))⟩
      · skip
        have kM : decide (more = 0) = false := h4
        refine WC.sub (l' := [(3, .int .i64 side), (4, .int .i64 more), (5, .map (some b)), (6, .pointer (some ⟨b0, 0, none⟩)), (7, .pointer (some ⟨b1, 0, none⟩)), (8, .pointer (some ⟨b2, 0, none⟩))]) (by repeat (first | exact trivial | refine ⟨rfl, ?_⟩)) ?_
        refine skp (h := ?_)
        refine q_blk_norm (h := ?_)
        refine q_seq (h := ?_)
        refine sq (h := ?_)
        refine rg (h := ?_)
        refine WL.y (hy := (by first | exact ldA | exact ldEA)) (h := ?_)
        refine WL.y (hy := bd) (h := ?_)
        refine WL.y (hy := eqlT) (h := ?_)
        refine WL.y (hy := asg) (h := ?_)
        refine nl (h := ?_)
        refine q_seq (h := ?_)
        refine sq (h := ?_)
        refine sq (h := ?_)
        refine rg (h := ?_)
        refine WL.y (hy := mv) (h := ?_)
        refine WL.y (hy := (by first | exact ldA | exact ldEA)) (h := ?_)
        refine WL.y (hy := lkC (kv := encK kn) (hm := hm) (hs := encK_shape _)) (h := ?_)
        rw [lkp_encK (p := (won, games)), getD_encK, isSome_encK]
        refine WL.y (hy := mv) (h := ?_)
        refine WL.y (hy := ex) (h := ?_)
        refine WL.y (hy := ex) (h := ?_)
        refine WL.y (hy := asg) (h := ?_)
        refine WL.y (hy := asg) (h := ?_)
        refine nl (h := ?_)
        refine q_seq (h := ?_)
        refine sq (h := ?_)
        refine rg (h := ?_)
        refine WL.y (hy := mv) (h := ?_)
        refine WL.y (hy := mv) (h := ?_)
        apply brAnd 2 54 56 (by exact rfl)
        · intro hb5
          refine un (h := ?_)
          refine WL.y (hy := mv) (h := ?_)
          refine WL.y (hy := (by first | exact pkT | exact pkF)) (h := ?_)
          exact mg (by repeat (first | exact trivial | refine ⟨rfl, ?_⟩ | refine ⟨by rw [hb5]; rfl, ?_⟩)) (by repeat (first | exact SubL.nil | (apply SubL.cons; (repeat (first | exact At.here | apply At.there))) | exact SubL.refl _ | apply SubL.skip))
        · intro hb5
          repeat (first | refine un (h := ?_) | refine sk (h := ?_) | refine WL.y (hy := pkF) (h := ?_) | refine WL.y (hy := pkT) (h := ?_))
          exact mg (by repeat (first | exact trivial | refine ⟨rfl, ?_⟩ | refine ⟨by rw [hb5]; rfl, ?_⟩)) (by repeat (first | exact SubL.nil | (apply SubL.cons; (repeat (first | exact At.here | apply At.there))) | exact SubL.refl _ | apply SubL.skip))
        refine nl (h := ?_)
        refine q_seq (h := ?_)
        refine cd (by exact rfl) (fun h6 => ?_) (fun h6 => ?_)
        · skip
          have kK : ((kget kn (won, games)).isSome && isZ pts) = true := h6
          refine sq (h := ?_)
          refine rg (h := ?_)
          refine WL.y (hy := mv) (h := ?_)
          refine WL.y (hy := asg) (h := ?_)
          refine nl (h := ?_)
          refine q_seq (h := ?_)
          refine rtn (h := ?_)
          refine q_then_ret (h := ?_)
          refine q_ret (hR := ?_)
          have hL : leastF f side (n + 1) won games pts more kn = ((kget kn (won, games)).getD 0, kn) := by rw [leastF, kA, kO, kM, kK, cond_false, cond_false, cond_false, cond_true]
          rw [hL]
          exact fun w hS => ⟨(es, c), hm, rfl, hS.sub (by repeat (first | exact SubL.nil | (apply SubL.cons; (repeat (first | exact At.here | apply At.there))) | exact SubL.refl _ | apply SubL.skip))⟩
        · skip
          have kK : ((kget kn (won, games)).isSome && isZ pts) = false := h6
          have hov : ¬ max won.1 won.2 = f.sets := by simpa [overV] using kO
          have hmo1 : 1 ≤ more := by
            have : ¬ more = 0 := by simpa using kM
            omega
          refine skp (h := ?_)
          refine q_seq (h := ?_)
          refine sq (h := ?_)
          refine rg (h := ?_)
          refine WL.y (hy := (by first | exact ldA | exact ldEA)) (h := ?_)
          refine WL.y (hy := (by first | exact fa | exact faE)) (h := ?_)
          refine WL.y (hy := (by first | exact ldA | exact ldEA)) (h := ?_)
          refine cl0 (hc := fun w hS => C_rules_set _ _ (by assumption) w) (h := ?_)
          refine al (h := fun b3 => ?_)
          first | refine stA (h := ?_) | refine stEA (h := ?_)
          refine nl (h := ?_)
          refine q_seq (h := ?_)
          refine sq (h := ?_)
          refine rg (h := ?_)
          refine WL.y (hy := (by first | exact ldA | exact ldEA)) (h := ?_)
          refine WL.y (hy := (by first | exact fa | exact faE)) (h := ?_)
          refine WL.y (hy := (by first | exact ldA | exact ldEA)) (h := ?_)
          refine cl0 (hc := fun w hS => C_set_breaks _ _ w) (h := ?_)
          refine WL.y (hy := asg) (h := ?_)
          refine nl (h := ?_)
          refine q_seq (h := ?_)
          refine sq (h := ?_)
          refine rg (h := ?_)
          refine WL.y (hy := asg) (h := ?_)
          refine nl (h := ?_)
          refine q_seq (h := ?_)
          refine sq (h := ?_)
          refine sq (h := ?_)
          refine rg (h := ?_)
          refine WL.y (hy := mv) (h := ?_)
          refine nl (h := ?_)
          refine q_seq (h := ?_)
          refine bk (h := ?_)
          refine lp (X := BZ) (I := fun z => z.k ≤ 2 ∧ MapIs z.es (encK (subTo rec f won games pts more kn z.k).2)) (le := fun z => [(3, .int .i64 side), (4, .int .i64 more), (5, .map (some b)), (6, .pointer (some ⟨b0, 0, none⟩)), (7, .pointer (some ⟨b1, 0, none⟩)), (8, .pointer (some ⟨b2, 0, none⟩)), (13, .bool (isZ pts)), (16, .pointer (some ⟨b3, 0, none⟩)), (17, .bool (brksV (setV f won) games)), (18, .int .i64 (subTo rec f won games pts more kn z.k).1), (66, .int .i64 z.k)]) (Le := fun z => .obj b (.map z.es z.c) :: .blk b0 80 f.cells :: .blk b1 86 [.int .i64 won.1, .int .i64 won.2, .int .i64 games.1, .int .i64 games.2] :: .blk b2 26 [.int .i64 pts.1, .int .i64 pts.2] :: .blk b3 137 [.int .i64 (setV f won).1, .int .i64 (setV f won).2] :: R) (μ := fun z => 2 - z.k) ⟨0, es, c⟩ ⟨Nat.zero_le _, hm⟩ (by repeat (first | exact trivial | refine ⟨rfl, ?_⟩)) (by repeat (first | exact SubL.nil | (apply SubL.cons; (repeat (first | exact At.here | apply At.there))) | exact SubL.refl _ | apply SubL.skip)) (fun z hz => ?_)
          obtain ⟨hzk, hzm⟩ := hz
          refine sq (h := ?_)
          refine rg (h := ?_)
          refine WL.y (hy := lss) (h := ?_)
          refine nl (h := ?_)
          refine q_seq (h := ?_)
          refine sq (h := ?_)
          refine cd (by exact rfl) (fun h7 => ?_) (fun h7 => ?_)
          · skip
            have hkn : z.k < 2 := by simp only [decide_eq_true_eq] at h7; omega
            have hks : (z.k : Int) = 0 ∨ (z.k : Int) = 1 := by omega
            have hgb := addV_bd (K := 2000 - more) (side := (z.k : Int)) (p := games) (by omega)
            have hwb := addV_bd (K := f.sets - 1) (side := (z.k : Int)) (p := won) (by omega)
            have hSg' : Sm (addV games z.k) := ⟨by omega, by omega⟩
            have htv := takesV_nn f (setV f won) (brksV (setV f won) games) pts z.k
            have htl := takesV_le (f := f) (s := setV f won) (tie := brksV (setV f won) games) (side := (z.k : Int)) hp
            have hsbk := hsb z.k
            have hfar : farV = 1099511627776 := rfl
            have hwn : (addV won z.k).1 + (addV won z.k).2 = won.1 + won.2 + 1 := by unfold addV; cases decide ((z.k : Int) = 0) <;> simp only [cond_true, cond_false] <;> omega
            refine skp (h := ?_)
            refine q_seq (h := ?_)
            refine sq (h := ?_)
            refine bk (h := ?_)
            refine sq (h := ?_)
            refine rg (h := ?_)
            refine WL.y (hy := mv) (h := ?_)
            refine WL.y (hy := asg) (h := ?_)
            refine nl (h := ?_)
            refine q_seq (h := ?_)
            refine ct (X := Nat) (fun _ => True) (fun x => [(3, .int .i64 side), (4, .int .i64 more), (5, .map (some b)), (6, .pointer (some ⟨b0, 0, none⟩)), (7, .pointer (some ⟨b1, 0, none⟩)), (8, .pointer (some ⟨b2, 0, none⟩)), (13, .bool (isZ pts)), (16, .pointer (some ⟨b3, 0, none⟩)), (17, .bool (brksV (setV f won) games)), (18, .int .i64 (subTo rec f won games pts more kn z.k).1), (66, .int .i64 z.k), (19, .int .i64 z.k), (20, .pointer (some ⟨x, 0, none⟩)), (21, .int .i64 (more - 1))]) (fun x => .blk x 86 [.int .i64 won.1, .int .i64 won.2, .int .i64 (addV games z.k).1, .int .i64 (addV games z.k).2] :: .obj b (.map z.es z.c) :: .blk b0 80 f.cells :: .blk b1 86 [.int .i64 won.1, .int .i64 won.2, .int .i64 games.1, .int .i64 games.2] :: .blk b2 26 [.int .i64 pts.1, .int .i64 pts.2] :: .blk b3 137 [.int .i64 (setV f won).1, .int .i64 (setV f won).2] :: R) (h1 := ?_) (h2 := ?_)
            · skip
              refine rgD (by kernel_rfl) [(1000000, .blk b1 86 [.int .i64 won.1, .int .i64 won.2, .int .i64 games.1, .int .i64 games.2])] (by repeat (first | exact HS.nil | (apply HS.keep; (repeat (first | exact At.here | apply At.there))) | (apply HS.ro; (repeat (first | exact Rds.ro | exact Rds.own | apply Rds.there))))) (h := ?_)
              refine tk 0 (hy := (by first | exact fa | exact faE)) (h := ?_)
              refine tk 1 (hy := (by first | exact ldA | exact ldEA)) (h := ?_)
              refine tk 2 (hy := (by first | exact fa | exact faE)) (h := ?_)
              refine tk 3 (hy := (by first | exact ldA | exact ldEA)) (h := ?_)
              refine tk 4 (hy := mv) (h := ?_)
              refine tk 7 (hy := mv) (h := ?_)
              refine tk 8 (hy := subI) (h := ?_)
              refine two 5 9 (h1 := ?_) (h2 := ?_)
              · skip
                refine cl0 (hc := fun w hS => C_score_add games z.k hSg w) (h := ?_)
                refine nx (h := ?_)
                refine tk 6 (hy := bd) (h := ?_)
                refine one 9 (h := ?_)
                refine al (h := fun b4 => ?_)
                refine nx (h := ?_)
                refine one 10 (h := ?_)
                first | refine stA (h := ?_) | refine stEA (h := ?_)
                refine nx (h := ?_)
                refine tk 11 (hy := asg) (h := ?_)
                refine dn (h := ?_)
                exact ctn _ trivial (by repeat (first | exact trivial | refine ⟨rfl, ?_⟩)) (by repeat (first | exact SubL.nil | (apply SubL.cons; (repeat (first | exact At.here | apply At.there))) | exact SubL.refl _ | apply SubL.skip))
              · skip
                refine al (h := fun b5 => ?_)
                refine nx (h := ?_)
                refine one 5 (h := ?_)
                refine cl0 (hc := fun w hS => C_score_add games z.k hSg w) (h := ?_)
                refine nx (h := ?_)
                refine tk 6 (hy := bd) (h := ?_)
                refine one 10 (h := ?_)
                first | refine stA (h := ?_) | refine stEA (h := ?_)
                refine nx (h := ?_)
                refine tk 11 (hy := asg) (h := ?_)
                refine dn (h := ?_)
                exact ctn _ trivial (by repeat (first | exact trivial | refine ⟨rfl, ?_⟩)) (by repeat (first | exact SubL.nil | (apply SubL.cons; (repeat (first | exact At.here | apply At.there))) | exact SubL.refl _ | apply SubL.skip))
            rintro x20 -
            refine sq (h := ?_)
            refine sq (h := ?_)
            refine rg (h := ?_)
            refine WL.y (hy := mv) (h := ?_)
            refine WL.y (hy := mv) (h := ?_)
            apply brOr 8 79 87 (by exact rfl)
            · intro hb8
              refine un (h := ?_)
              refine WL.y (hy := (by first | exact fa | exact faE)) (h := ?_)
              refine un (h := ?_)
              refine WL.y (hy := (by first | exact ldA | exact ldEA)) (h := ?_)
              refine un (h := ?_)
              refine WL.y (hy := (by first | exact fa | exact faE)) (h := ?_)
              refine un (h := ?_)
              refine WL.y (hy := (by first | exact fa | exact faE)) (h := ?_)
              refine un (h := ?_)
              refine WL.y (hy := (by first | exact ld | exact ldE)) (h := ?_)
              refine un (h := ?_)
              refine cl0 (hc := fun w hS => C_score_leads _ _ _ (by assumption) w) (h := ?_)
              refine un (h := ?_)
              refine WL.y (hy := geq) (h := ?_)
              refine WL.y (hy := (by first | exact pkT | exact pkF)) (h := ?_)
              exact mg (by repeat (first | exact trivial | refine ⟨rfl, ?_⟩ | refine ⟨by rw [hb8]; rfl, ?_⟩)) (by repeat (first | exact SubL.nil | (apply SubL.cons; (repeat (first | exact At.here | apply At.there))) | exact SubL.refl _ | apply SubL.skip))
            · intro hb8
              repeat (first | refine un (h := ?_) | refine sk (h := ?_) | refine WL.y (hy := pkF) (h := ?_) | refine WL.y (hy := pkT) (h := ?_))
              exact mg (by repeat (first | exact trivial | refine ⟨rfl, ?_⟩ | refine ⟨by rw [hb8]; rfl, ?_⟩)) (by repeat (first | exact SubL.nil | (apply SubL.cons; (repeat (first | exact At.here | apply At.there))) | exact SubL.refl _ | apply SubL.skip))
            refine nl (h := ?_)
            refine q_seq (h := ?_)
            refine cd (by exact rfl) (fun h9 => ?_) (fun h9 => ?_)
            · skip
              have hen : endsV f won games z.k = true := h9
              have hih := ih (addV won z.k) (0, 0) (0, 0) (mostV f) (subTo rec f won games pts more kn z.k).2 z.es z.c b (by show (2 * f.sets - (addV won z.k).1 - (addV won z.k).2) * 25 + (2 * f.games + 4) < (n : Int); omega) (by omega) (by show 0 ≤ (0 : Int) ∧ 0 ≤ (0 : Int) ∧ 0 + (2 * f.games + 4) ≤ 2000 ∧ 0 + (2 * f.games + 4) ≤ 2000; omega) (by decide) (by show 0 ≤ 2 * f.games + 4 ∧ 2 * f.games + 4 ≤ 20; omega) hsbk.2 hzm
              have hrv := (leastF_ok f side n (addV won z.k) (0, 0) (0, 0) (mostV f) (subTo rec f won games pts more kn z.k).2 hsbk.2).1
              have hnx : subTo rec f won games pts more kn (z.k + 1) = (min (subTo rec f won games pts more kn z.k).1 (takesV f (setV f won) (brksV (setV f won) games) pts z.k + (leastF f side n (addV won z.k) (0, 0) (0, 0) (mostV f) (subTo rec f won games pts more kn z.k).2).1), (leastF f side n (addV won z.k) (0, 0) (0, 0) (mostV f) (subTo rec f won games pts more kn z.k).2).2) := by rw [subTo_succ, restV, hen, hrec]; rfl
              refine rgD (by kernel_rfl) [(1000000, .blk b1 86 [.int .i64 won.1, .int .i64 won.2, .int .i64 games.1, .int .i64 games.2]), (1000000, .blk b0 80 f.cells)] (by repeat (first | exact HS.nil | (apply HS.keep; (repeat (first | exact At.here | apply At.there))) | (apply HS.ro; (repeat (first | exact Rds.ro | exact Rds.own | apply Rds.there))))) (h := ?_)
              refine tk 0 (hy := (by first | exact fa | exact faE)) (h := ?_)
              refine tk 1 (hy := (by first | exact ldA | exact ldEA)) (h := ?_)
              refine tk 2 (hy := mv) (h := ?_)
              refine tk 5 (hy := (by first | exact ldA | exact ldEA)) (h := ?_)
              refine one 3 (h := ?_)
              refine cl0 (hc := fun w hS => C_score_add won z.k hSw w) (h := ?_)
              refine nx (h := ?_)
              refine tk 4 (hy := bd) (h := ?_)
              refine one 6 (h := ?_)
              refine cl0 (hc := fun w hS => C_rules_most _ (by assumption) w) (h := ?_)
              refine nx (h := ?_)
              refine one 7 (h := ?_)
              first | refine stA (h := ?_) | refine stEA (h := ?_)
              refine nx (h := ?_)
              refine tk 8 (hy := asg) (h := ?_)
              refine dn (h := ?_)
              refine q_seq (h := ?_)
              refine rgD (by kernel_rfl) [(1000000, .blk b0 80 f.cells), (1000000, .blk b3 137 [.int .i64 (setV f won).1, .int .i64 (setV f won).2]), (1000000, .blk b2 26 [.int .i64 pts.1, .int .i64 pts.2]), (1000000, .blk x20 86 _)] (by repeat (first | exact HS.nil | (apply HS.keep; (repeat (first | exact At.here | apply At.there))) | (apply HS.ro; (repeat (first | exact Rds.ro | exact Rds.own | apply Rds.there))))) (h := ?_)
              refine tk 0 (hy := mv) (h := ?_)
              refine tk 1 (hy := (by first | exact ldA | exact ldEA)) (h := ?_)
              refine tk 2 (hy := (by first | exact ldA | exact ldEA)) (h := ?_)
              refine tk 3 (hy := mv) (h := ?_)
              refine tk 4 (hy := (by first | exact ldA | exact ldEA)) (h := ?_)
              refine tk 5 (hy := mv) (h := ?_)
              refine tk 7 (hy := (by first | exact ldA | exact ldEA)) (h := ?_)
              refine tk 8 (hy := (by first | exact ldA | exact ldEA)) (h := ?_)
              refine tk 9 (hy := bd) (h := ?_)
              refine tk 10 (hy := mv) (h := ?_)
              refine tk 11 (hy := mv) (h := ?_)
              refine tk 12 (hy := mv) (h := ?_)
              refine one 6 (h := ?_)
              refine cl0 (hc := fun w hS => C_rules_takes f (setV f won) (brksV (setV f won) games) pts z.k hset hks hp w) (h := ?_)
              refine nx (h := ?_)
              refine one 13 (h := ?_)
              refine clT (hc := hih) (h := fun x hx => ?_)
              refine nx (h := ?_)
              refine tk 14 (hy := addI) (h := ?_)
              refine tk 15 (hy := minI) (h := ?_)
              refine tk 16 (hy := asg) (h := ?_)
              refine dn (h := ?_)
              refine q_blk_norm (h := ?_)
              refine q_seq (h := ?_)
              refine rg (h := ?_)
              refine WL.y (hy := addI) (h := ?_)
              refine WL.y (hy := mv) (h := ?_)
              refine nl (h := ?_)
              refine rn (x := z) ⟨z.k + 1, x.1, x.2⟩ ⟨by dsimp only; omega, by dsimp only; rw [hnx]; exact hx⟩ (by dsimp only; omega) (by dsimp only; rw [hnx]; repeat (first | exact trivial | refine ⟨rfl, ?_⟩)) (by repeat (first | exact SubL.nil | (apply SubL.cons; (repeat (first | exact At.here | apply At.there))) | exact SubL.refl _ | apply SubL.skip))
            · skip
              have hen : endsV f won games z.k = false := h9
              have hih := ih won (addV games z.k) (0, 0) (more - 1) (subTo rec f won games pts more kn z.k).2 z.es z.c b (by show (2 * f.sets - won.1 - won.2) * 25 + (more - 1) < (n : Int); omega) (by omega) (by omega) (by decide) (by omega) hsbk.2 hzm
              have hrv := (leastF_ok f side n won (addV games z.k) (0, 0) (more - 1) (subTo rec f won games pts more kn z.k).2 hsbk.2).1
              have hnx : subTo rec f won games pts more kn (z.k + 1) = (min (subTo rec f won games pts more kn z.k).1 (takesV f (setV f won) (brksV (setV f won) games) pts z.k + (leastF f side n won (addV games z.k) (0, 0) (more - 1) (subTo rec f won games pts more kn z.k).2).1), (leastF f side n won (addV games z.k) (0, 0) (more - 1) (subTo rec f won games pts more kn z.k).2).2) := by rw [subTo_succ, restV, hen, hrec]; rfl
              refine skp (h := ?_)
              refine q_seq (h := ?_)
              refine rgD (by kernel_rfl) [(1000000, .blk b0 80 f.cells), (1000000, .blk b3 137 [.int .i64 (setV f won).1, .int .i64 (setV f won).2]), (1000000, .blk b2 26 [.int .i64 pts.1, .int .i64 pts.2]), (1000000, .blk x20 86 _)] (by repeat (first | exact HS.nil | (apply HS.keep; (repeat (first | exact At.here | apply At.there))) | (apply HS.ro; (repeat (first | exact Rds.ro | exact Rds.own | apply Rds.there))))) (h := ?_)
              refine tk 0 (hy := mv) (h := ?_)
              refine tk 1 (hy := (by first | exact ldA | exact ldEA)) (h := ?_)
              refine tk 2 (hy := (by first | exact ldA | exact ldEA)) (h := ?_)
              refine tk 3 (hy := mv) (h := ?_)
              refine tk 4 (hy := (by first | exact ldA | exact ldEA)) (h := ?_)
              refine tk 5 (hy := mv) (h := ?_)
              refine tk 7 (hy := (by first | exact ldA | exact ldEA)) (h := ?_)
              refine tk 8 (hy := (by first | exact ldA | exact ldEA)) (h := ?_)
              refine tk 9 (hy := bd) (h := ?_)
              refine tk 10 (hy := mv) (h := ?_)
              refine tk 11 (hy := mv) (h := ?_)
              refine tk 12 (hy := mv) (h := ?_)
              refine one 6 (h := ?_)
              refine cl0 (hc := fun w hS => C_rules_takes f (setV f won) (brksV (setV f won) games) pts z.k hset hks hp w) (h := ?_)
              refine nx (h := ?_)
              refine one 13 (h := ?_)
              refine clT (hc := hih) (h := fun x hx => ?_)
              refine nx (h := ?_)
              refine tk 14 (hy := addI) (h := ?_)
              refine tk 15 (hy := minI) (h := ?_)
              refine tk 16 (hy := asg) (h := ?_)
              refine dn (h := ?_)
              refine q_blk_norm (h := ?_)
              refine q_seq (h := ?_)
              refine rg (h := ?_)
              refine WL.y (hy := addI) (h := ?_)
              refine WL.y (hy := mv) (h := ?_)
              refine nl (h := ?_)
              refine rn (x := z) ⟨z.k + 1, x.1, x.2⟩ ⟨by dsimp only; omega, by dsimp only; rw [hnx]; exact hx⟩ (by dsimp only; omega) (by dsimp only; rw [hnx]; repeat (first | exact trivial | refine ⟨rfl, ?_⟩)) (by repeat (first | exact SubL.nil | (apply SubL.cons; (repeat (first | exact At.here | apply At.there))) | exact SubL.refl _ | apply SubL.skip))
          · skip
            have hkn : z.k = 2 := by simp only [decide_eq_false_iff_not] at h7; omega
            have hzm2 : MapIs z.es (encK (subTo rec f won games pts more kn 2).2) := by rw [hkn] at hzm; exact hzm
            have hL : leastF f side (n + 1) won games pts more kn = keepV won games pts (subTo rec f won games pts more kn 2) := by
              rw [leastF, kA, kO, kM, kK, hrec]
              simp only [cond_false]
            refine et (h := ?_)
            refine q_then_exit (h := ?_)
            refine q_then_exit (h := ?_)
            refine q_blk_hit (h := ?_)
            refine q_seq (h := ?_)
            refine sq (h := ?_)
            refine sq (h := ?_)
            refine rg (h := ?_)
            refine WL.y (hy := mv) (h := ?_)
            refine nl (h := ?_)
            refine q_seq (h := ?_)
            refine cd (by exact rfl) (fun h10 => ?_) (fun h10 => ?_)
            · skip
              have kF : isZ pts = true := h10
              refine rg (h := ?_)
              refine WL.y (hy := mv) (h := ?_)
              refine WL.y (hy := (by first | exact ldA | exact ldEA)) (h := ?_)
              refine WL.y (hy := mv) (h := ?_)
              refine mup (kv := encK (subTo rec f won games pts more kn 2).2) (hm := hzm2) (hs := encK_shape _) (h := fun es1 c1 hm1 => ?_)
              refine nl (h := ?_)
              refine q_seq (h := ?_)
              refine sq (h := ?_)
              refine rg (h := ?_)
              refine WL.y (hy := mv) (h := ?_)
              refine WL.y (hy := asg) (h := ?_)
              refine nl (h := ?_)
              refine q_seq (h := ?_)
              refine rtn (h := ?_)
              refine q_ret (hR := ?_)
              rw [hL, keepV_1]
              first
                | (rw [hkn] at hm1; rw [keepV_2, kF, cond_true, ← upd_encK]; exact fun w hS => ⟨(es1, c1), hm1, by rw [hkn]; rfl, hS.sub (by repeat (first | exact SubL.nil | (apply SubL.cons; (repeat (first | exact At.here | apply At.there))) | exact SubL.refl _ | apply SubL.skip))⟩)
                | (rw [keepV_2, kF, cond_false]; exact fun w hS => ⟨(z.es, z.c), hzm2, by rw [hkn]; rfl, hS.sub (by repeat (first | exact SubL.nil | (apply SubL.cons; (repeat (first | exact At.here | apply At.there))) | exact SubL.refl _ | apply SubL.skip))⟩)
            · skip
              have kF : isZ pts = false := h10
              refine skp (h := ?_)
              refine q_seq (h := ?_)
              refine sq (h := ?_)
              refine rg (h := ?_)
              refine WL.y (hy := mv) (h := ?_)
              refine WL.y (hy := asg) (h := ?_)
              refine nl (h := ?_)
              refine q_seq (h := ?_)
              refine rtn (h := ?_)
              refine q_ret (hR := ?_)
              rw [hL, keepV_1]
              first
                | (rw [hkn] at hm1; rw [keepV_2, kF, cond_true, ← upd_encK]; exact fun w hS => ⟨(es1, c1), hm1, by rw [hkn]; rfl, hS.sub (by repeat (first | exact SubL.nil | (apply SubL.cons; (repeat (first | exact At.here | apply At.there))) | exact SubL.refl _ | apply SubL.skip))⟩)
                | (rw [keepV_2, kF, cond_false]; exact fun w hS => ⟨(z.es, z.c), hzm2, by rw [hkn]; rfl, hS.sub (by repeat (first | exact SubL.nil | (apply SubL.cons; (repeat (first | exact At.here | apply At.there))) | exact SubL.refl _ | apply SubL.skip))⟩)
theorem leastOk (f : Fmt) (side : Int) (hf : f.Ok) : ∀ n, LeastOk f side n
  | 0 => fun won games pts more kn es c b hme hw hg hp hmo hk hm => by
    exfalso
    unfold meas at hme
    omega
  | n + 1 => T_least_step f side hf n (leastOk f side hf n)
end Go.Proofs.Ytacaojifempclaa
