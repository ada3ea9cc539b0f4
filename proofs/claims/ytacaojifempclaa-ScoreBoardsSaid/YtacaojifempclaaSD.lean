/- Walks of score: Least; what works looks at. -/
import Derived.Test.YtacaojifempclaaSC
namespace Go.Proofs.Ytacaojifempclaa
open Go Go.RowKit

def WonOk (f : Fmt) (p : Pr) : Prop := (0 ≤ p.1 ∧ p.1 ≤ f.sets) ∧ 0 ≤ p.2 ∧ p.2 ≤ f.sets
theorem setStep_won {tb : Pr → Tb} {f : Fmt} {r : SR} {p : Pr} (h : WonOk f r.won) : WonOk f (setStep tb f r p).won := by
  unfold setStep
  cases hb : !(tget (tb (setV f r.won)) p).isSome || !(tat (tb (setV f r.won)) p).2 || overV f r.won
  · simp only [cond_false]
    have ho : overV f r.won = false := by simp only [Bool.or_eq_false_iff] at hb; exact hb.2
    have hm : ¬ max r.won.1 r.won.2 = f.sets := by simpa [overV] using ho
    have := h
    unfold WonOk at this ⊢
    unfold addV
    cases decide (setSide p = 0) <;> simp only [cond_true, cond_false] <;> omega
  · exact h
theorem setsTo_won {tb : Pr → Tb} {f : Fmt} {l : List Pr} (hs : 0 ≤ f.sets) : ∀ k, WonOk f (setsTo tb f l k).won
  | 0 => by unfold WonOk; simp only [setsTo]; omega
  | k + 1 => by
    have ih := setsTo_won (tb := tb) (l := l) hs k
    rw [setsTo]
    cases l[k]? with
    | none => exact ih
    | some p =>
      dsimp only
      cases (setsTo tb f l k).ok
      · exact ih
      · exact setStep_won ih
theorem arises_won (tb : Pr → Tb) (f : Fmt) (b : Brd) : (arisesT tb f b).1 = (setsTo tb f b.st b.st.length).won := by
  unfold arisesT
  repeat (first | rfl | (cases (_ : Bool) <;> rfl) | (rw [Bool.cond_eq_ite]; split))
def leastV (f : Fmt) (b : Brd) (side : Int) : Int := (leastF f side 300 (arisesV f b).1 b.g b.p (mostV f) []).1
def leastR (f : Fmt) (b : Brd) (side : Int) : List Value := bif !decide (chkF f = 0) then [.int .i64 0, .int .i64 (chkF f)] else bif !brdOk b then [.int .i64 0, .int .i64 12] else bif !(arisesV f b).2 then [.int .i64 0, .int .i64 12] else bif sideBad side then [.int .i64 0, .int .i64 1]
  else bif overV f (arisesV f b).1 && !decide (leadsV (arisesV f b).1 f.sets 1 = side) then [.int .i64 0, .int .i64 3] else [.int .i64 (leastV f b side), .int .i64 0]

set_option maxRecDepth 100000 in
theorem C_score_Least (f : Fmt) (b : Brd) (side : Int) (A : Option Addr) (n c : Nat) (w : World) (h : Rd w A 2 n (encP b.st)) (hn : n ≤ 9223372036854775807) : C0 Try.prog 13 [f.val, b.val A n c, .int .i64 side] w (.tuple (leastR f b side).toArray) := by
  have hlen : b.st.length = n := by have := h.len; simpa [encP] using this
  obtain ⟨r, hr⟩ : ∃ r, r = arisesV f b := ⟨_, rfl⟩
  refine ⟨en Try.func13 Try.ntmps13 ((St.init w).share (e := .ro A 2 n (encP b.st)) h rfl rfl rfl) (h := fun F => ?_)⟩
  refine sq (h := ?_)
  refine rg (h := ?_)
  refine bxA (h := fun b0 => ?_)
  refine bxA (h := fun b1 => ?_)
  refine WL.y (hy := asg) (h := ?_)
  refine WL.y (hy := asg) (h := ?_)
  refine nl (h := ?_)
  refine q_seq (h := ?_)
  refine sq (h := ?_)
  refine sq (h := ?_)
  refine rg (h := ?_)
  refine WL.y (hy := (by first | exact ldA | exact ldEA)) (h := ?_)
  refine cl0 (hc := fun w hS => C_score_Check _ w) (h := ?_)
  refine WL.y (hy := asg) (h := ?_)
  refine nl (h := ?_)
  refine q_seq (h := ?_)
  refine sq (h := ?_)
  refine rg (h := ?_)
  refine WL.y (hy := mv) (h := ?_)
  refine WL.y (hy := neq) (h := ?_)
  refine nl (h := ?_)
  refine q_seq (h := ?_)
  refine cd (by exact rfl) (fun h0 => ?_) (fun h0 => ?_)
  · skip
    refine sq (h := ?_)
    refine rg (h := ?_)
    refine WL.y (hy := mv) (h := ?_)
    refine WL.y (hy := asg) (h := ?_)
    refine WL.y (hy := asg) (h := ?_)
    refine nl (h := ?_)
    refine q_seq (h := ?_)
    refine rtn (h := ?_)
    refine q_then_ret (h := ?_)
    refine q_ret (hR := ?_)
    exact fun w hS => ⟨cdT' (fun x : List Value => Ending.returned (Value.tuple x.toArray)) h0, hS.sub (by repeat (first | exact SubL.nil | (apply SubL.cons; (repeat (first | exact At.here | apply At.there))) | exact SubL.refl _ | apply SubL.skip))⟩
  · skip
    have hf := chkF_ok h0
    have hwon : WonOk f (arisesV f b).1 := by
      have h1 : (arisesV f b).1 = (setsTo (tableV f) f b.st b.st.length).won := arises_won _ _ _
      rw [h1]; exact setsTo_won (by have := hf.s0; omega) _
    refine skp (h := ?_)
    refine q_seq (h := ?_)
    refine sq (h := ?_)
    refine rg (h := ?_)
    refine WL.y (hy := (by first | exact ldA | exact ldEA)) (h := ?_)
    refine WL.y (hy := bd) (h := ?_)
    refine al (h := fun b2 => ?_)
    first | refine stA (h := ?_) | refine stEA (h := ?_)
    refine nl (h := ?_)
    refine q_seq (h := ?_)
    refine sq (h := ?_)
    refine sq (h := ?_)
    refine rg (h := ?_)
    refine WL.y (hy := (by first | exact ldA | exact ldEA)) (h := ?_)
    refine cl0 (hc := fun w hS => C_isBoard _ _ _ _ w (hS.get (by repeat (first | exact Rds.ro | exact Rds.own | apply Rds.there))) (by omega)) (h := ?_)
    refine WL.y (hy := notB) (h := ?_)
    refine nl (h := ?_)
    refine q_seq (h := ?_)
    refine cd (by exact rfl) (fun h1 => ?_) (fun h1 => ?_)
    · skip
      refine sq (h := ?_)
      refine rg (h := ?_)
      refine WL.y (hy := asg) (h := ?_)
      refine WL.y (hy := asg) (h := ?_)
      refine nl (h := ?_)
      refine q_seq (h := ?_)
      refine rtn (h := ?_)
      refine q_then_ret (h := ?_)
      refine q_ret (hR := ?_)
      exact fun w hS => ⟨(cdT' (fun x : List Value => Ending.returned (Value.tuple x.toArray)) h1).trans (cdF' (fun x : List Value => Ending.returned (Value.tuple x.toArray)) h0), hS.sub (by repeat (first | exact SubL.nil | (apply SubL.cons; (repeat (first | exact At.here | apply At.there))) | exact SubL.refl _ | apply SubL.skip))⟩
    · skip
      have hbo : brdOk b = true := by simpa using h1
      have hbl := brd_len hbo
      have hbp := brd_fit hbo b.p (by simp [Brd.all])
      have hbg := brd_fit hbo b.g (by simp [Brd.all])
      refine skp (h := ?_)
      refine q_seq (h := ?_)
      refine sq (h := ?_)
      refine rg (h := ?_)
      refine WL.y (hy := (by first | exact ldA | exact ldEA)) (h := ?_)
      refine WL.y (hy := (by first | exact ldA | exact ldEA)) (h := ?_)
      refine cl0 (hc := fun w hS => C_rules_arises f b hf (by omega) A n c w (hS.get (by repeat (first | exact Rds.ro | exact Rds.own | apply Rds.there))) (by omega)) (h := ?_)
      refine WL.y (hy := mv) (h := ?_)
      refine WL.y (hy := ex) (h := ?_)
      refine WL.y (hy := ex) (h := ?_)
      refine al (h := fun b3 => ?_)
      first | refine stA (h := ?_) | refine stEA (h := ?_)
      refine WL.y (hy := asg) (h := ?_)
      refine nl (h := ?_)
      refine q_seq (h := ?_)
      refine sq (h := ?_)
      refine bk (h := ?_)
      refine sq (h := ?_)
      refine rg (h := ?_)
      refine WL.y (hy := mv) (h := ?_)
      refine WL.y (hy := notB) (h := ?_)
      refine WL.y (hy := asg) (h := ?_)
      refine nl (h := ?_)
      refine q_seq (h := ?_)
      refine cd (by exact rfl) (fun h2 => ?_) (fun h2 => ?_)
      · skip
        refine sq (h := ?_)
        refine rg (h := ?_)
        refine WL.y (hy := asg) (h := ?_)
        refine WL.y (hy := asg) (h := ?_)
        refine nl (h := ?_)
        refine q_seq (h := ?_)
        refine rtn (h := ?_)
        refine q_blk_ret (h := ?_)
        refine q_then_ret (h := ?_)
        refine q_ret (hR := ?_)
        exact fun w hS => ⟨((cdT' (fun x : List Value => Ending.returned (Value.tuple x.toArray)) h2).trans (cdF' (fun x : List Value => Ending.returned (Value.tuple x.toArray)) h1)).trans (cdF' (fun x : List Value => Ending.returned (Value.tuple x.toArray)) h0), hS.sub (by repeat (first | exact SubL.nil | (apply SubL.cons; (repeat (first | exact At.here | apply At.there))) | exact SubL.refl _ | apply SubL.skip))⟩
      · skip
        refine sq (h := ?_)
        refine rg (h := ?_)
        refine WL.y (hy := mv) (h := ?_)
        refine WL.y (hy := neq) (h := ?_)
        refine WL.y (hy := mv) (h := ?_)
        apply brAnd 3 34 37 (by exact rfl)
        · intro hb3
          refine un (h := ?_)
          refine WL.y (hy := mv) (h := ?_)
          refine un (h := ?_)
          refine WL.y (hy := neq) (h := ?_)
          refine WL.y (hy := (by first | exact pkT | exact pkF)) (h := ?_)
          exact mg (by repeat (first | exact trivial | refine ⟨rfl, ?_⟩ | refine ⟨by rw [hb3]; rfl, ?_⟩)) (by repeat (first | exact SubL.nil | (apply SubL.cons; (repeat (first | exact At.here | apply At.there))) | exact SubL.refl _ | apply SubL.skip))
        · intro hb3
          repeat (first | refine un (h := ?_) | refine sk (h := ?_) | refine WL.y (hy := pkF) (h := ?_) | refine WL.y (hy := pkT) (h := ?_))
          exact mg (by repeat (first | exact trivial | refine ⟨rfl, ?_⟩ | refine ⟨by rw [hb3]; rfl, ?_⟩)) (by repeat (first | exact SubL.nil | (apply SubL.cons; (repeat (first | exact At.here | apply At.there))) | exact SubL.refl _ | apply SubL.skip))
        refine WL.y (hy := asg) (h := ?_)
        refine nl (h := ?_)
        refine q_seq (h := ?_)
        refine cd (by exact rfl) (fun h4 => ?_) (fun h4 => ?_)
        · skip
          refine sq (h := ?_)
          refine rg (h := ?_)
          refine WL.y (hy := asg) (h := ?_)
          refine WL.y (hy := asg) (h := ?_)
          refine nl (h := ?_)
          refine q_seq (h := ?_)
          refine rtn (h := ?_)
          refine q_blk_ret (h := ?_)
          refine q_then_ret (h := ?_)
          refine q_ret (hR := ?_)
          exact fun w hS => ⟨(((cdT' (fun x : List Value => Ending.returned (Value.tuple x.toArray)) h4).trans (cdF' (fun x : List Value => Ending.returned (Value.tuple x.toArray)) h2)).trans (cdF' (fun x : List Value => Ending.returned (Value.tuple x.toArray)) h1)).trans (cdF' (fun x : List Value => Ending.returned (Value.tuple x.toArray)) h0), hS.sub (by repeat (first | exact SubL.nil | (apply SubL.cons; (repeat (first | exact At.here | apply At.there))) | exact SubL.refl _ | apply SubL.skip))⟩
        · skip
          refine sq (h := ?_)
          refine rg (h := ?_)
          refine WL.y (hy := (by first | exact ldA | exact ldEA)) (h := ?_)
          refine WL.y (hy := (by first | exact ldA | exact ldEA)) (h := ?_)
          refine cl0 (hc := fun w hS => C_rules_over _ _ w) (h := ?_)
          refine WL.y (hy := mv) (h := ?_)
          apply brAnd 8 42 50 (by exact rfl)
          · intro hb5
            refine un (h := ?_)
            refine WL.y (hy := (by first | exact ldA | exact ldEA)) (h := ?_)
            refine un (h := ?_)
            refine WL.y (hy := (by first | exact fa | exact faE)) (h := ?_)
            refine un (h := ?_)
            refine WL.y (hy := (by first | exact fa | exact faE)) (h := ?_)
            refine un (h := ?_)
            refine WL.y (hy := (by first | exact ld | exact ldE)) (h := ?_)
            refine un (h := ?_)
            refine cl0 (hc := fun w hS => C_score_leads (arisesV f b).1 f.sets 1 (by have h1 := hf.s1; have h2 := hwon; unfold WonOk at h2; exact ⟨by omega, by omega⟩) w) (h := ?_)
            refine un (h := ?_)
            refine WL.y (hy := mv) (h := ?_)
            refine un (h := ?_)
            refine WL.y (hy := neq) (h := ?_)
            refine WL.y (hy := (by first | exact pkT | exact pkF)) (h := ?_)
            exact mg (by repeat (first | exact trivial | refine ⟨rfl, ?_⟩ | refine ⟨by rw [hb5]; rfl, ?_⟩)) (by repeat (first | exact SubL.nil | (apply SubL.cons; (repeat (first | exact At.here | apply At.there))) | exact SubL.refl _ | apply SubL.skip))
          · intro hb5
            repeat (first | refine un (h := ?_) | refine sk (h := ?_) | refine WL.y (hy := pkF) (h := ?_) | refine WL.y (hy := pkT) (h := ?_))
            exact mg (by repeat (first | exact trivial | refine ⟨rfl, ?_⟩ | refine ⟨by rw [hb5]; rfl, ?_⟩)) (by repeat (first | exact SubL.nil | (apply SubL.cons; (repeat (first | exact At.here | apply At.there))) | exact SubL.refl _ | apply SubL.skip))
          refine WL.y (hy := asg) (h := ?_)
          refine nl (h := ?_)
          refine q_seq (h := ?_)
          refine cd (by exact rfl) (fun h6 => ?_) (fun h6 => ?_)
          · skip
            refine sq (h := ?_)
            refine rg (h := ?_)
            refine WL.y (hy := asg) (h := ?_)
            refine WL.y (hy := asg) (h := ?_)
            refine nl (h := ?_)
            refine q_seq (h := ?_)
            refine rtn (h := ?_)
            refine q_blk_ret (h := ?_)
            refine q_then_ret (h := ?_)
            refine q_ret (hR := ?_)
            exact fun w hS => ⟨((((cdT' (fun x : List Value => Ending.returned (Value.tuple x.toArray)) h6).trans (cdF' (fun x : List Value => Ending.returned (Value.tuple x.toArray)) h4)).trans (cdF' (fun x : List Value => Ending.returned (Value.tuple x.toArray)) h2)).trans (cdF' (fun x : List Value => Ending.returned (Value.tuple x.toArray)) h1)).trans (cdF' (fun x : List Value => Ending.returned (Value.tuple x.toArray)) h0), hS.sub (by repeat (first | exact SubL.nil | (apply SubL.cons; (repeat (first | exact At.here | apply At.there))) | exact SubL.refl _ | apply SubL.skip))⟩
          · skip
            have hmo : mostV f = 2 * f.games + 4 := rfl
            have hg0 := hf.g0
            have hg1 := hf.g1
            have hs1 := hf.s1
            have hw1 := hwon
            unfold WonOk at hw1
            refine skp (h := ?_)
            refine q_blk_norm (h := ?_)
            refine q_seq (h := ?_)
            refine sq (h := ?_)
            refine rgD (by kernel_rfl) [(1000000, .blk b3 26 [.int .i64 (arisesV f b).1.1, .int .i64 (arisesV f b).1.2]), (1000000, .blk b1 28 (b.cells A n c)), (1000000, .blk b2 80 f.cells)] (by repeat (first | exact HS.nil | (apply HS.keep; (repeat (first | exact At.here | apply At.there))) | (apply HS.ro; (repeat (first | exact Rds.ro | exact Rds.own | apply Rds.there))))) (h := ?_)
            refine tk 0 (hy := (by first | exact ldA | exact ldEA)) (h := ?_)
            refine tk 1 (hy := (by first | exact ldA | exact ldEA)) (h := ?_)
            refine tk 2 (hy := (by first | exact fa | exact faE)) (h := ?_)
            refine tk 3 (hy := (by first | exact ldA | exact ldEA)) (h := ?_)
            refine tk 4 (hy := bd) (h := ?_)
            refine tk 5 (hy := (by first | exact fa | exact faE)) (h := ?_)
            refine tk 6 (hy := (by first | exact ldA | exact ldEA)) (h := ?_)
            refine tk 7 (hy := mv) (h := ?_)
            refine tk 8 (hy := (by first | exact ldA | exact ldEA)) (h := ?_)
            refine two 9 10 (h1 := ?_) (h2 := ?_)
            · skip
              refine cl0 (hc := fun w hS => C_rules_most _ (by assumption) w) (h := ?_)
              refine nx (h := ?_)
              refine one 10 (h := ?_)
              refine mkm (h := fun b4 => ?_)
              refine nx (h := ?_)
              refine one 11 (h := ?_)
              refine clT (hc := leastOk f side hf 300 (arisesV f b).1 b.g b.p (mostV f) [] #[] 0 _ (by unfold meas; omega) hw1 (by omega) (by omega) (by omega) (fun e he => by cases he) rfl) (h := fun x hx => ?_)
              refine nx (h := ?_)
              refine tk 12 (hy := asg) (h := ?_)
              refine tk 13 (hy := asg) (h := ?_)
              refine dn (h := ?_)
              refine q_seq (h := ?_)
              refine rtn (h := ?_)
              refine q_ret (hR := ?_)
              exact fun w hS => ⟨((((cdF' (fun x : List Value => Ending.returned (Value.tuple x.toArray)) h6).trans (cdF' (fun x : List Value => Ending.returned (Value.tuple x.toArray)) h4)).trans (cdF' (fun x : List Value => Ending.returned (Value.tuple x.toArray)) h2)).trans (cdF' (fun x : List Value => Ending.returned (Value.tuple x.toArray)) h1)).trans (cdF' (fun x : List Value => Ending.returned (Value.tuple x.toArray)) h0), hS.sub (by repeat (first | exact SubL.nil | (apply SubL.cons; (repeat (first | exact At.here | apply At.there))) | exact SubL.refl _ | apply SubL.skip))⟩
            · skip
              refine mkm (h := fun b5 => ?_)
              refine nx (h := ?_)
              refine one 9 (h := ?_)
              refine cl0 (hc := fun w hS => C_rules_most _ (by assumption) w) (h := ?_)
              refine nx (h := ?_)
              refine one 11 (h := ?_)
              refine clT (hc := leastOk f side hf 300 (arisesV f b).1 b.g b.p (mostV f) [] #[] 0 _ (by unfold meas; omega) hw1 (by omega) (by omega) (by omega) (fun e he => by cases he) rfl) (h := fun x hx => ?_)
              refine nx (h := ?_)
              refine tk 12 (hy := asg) (h := ?_)
              refine tk 13 (hy := asg) (h := ?_)
              refine dn (h := ?_)
              refine q_seq (h := ?_)
              refine rtn (h := ?_)
              refine q_ret (hR := ?_)
              exact fun w hS => ⟨((((cdF' (fun x : List Value => Ending.returned (Value.tuple x.toArray)) h6).trans (cdF' (fun x : List Value => Ending.returned (Value.tuple x.toArray)) h4)).trans (cdF' (fun x : List Value => Ending.returned (Value.tuple x.toArray)) h2)).trans (cdF' (fun x : List Value => Ending.returned (Value.tuple x.toArray)) h1)).trans (cdF' (fun x : List Value => Ending.returned (Value.tuple x.toArray)) h0), hS.sub (by repeat (first | exact SubL.nil | (apply SubL.cons; (repeat (first | exact At.here | apply At.there))) | exact SubL.refl _ | apply SubL.skip))⟩
end Go.Proofs.Ytacaojifempclaa
