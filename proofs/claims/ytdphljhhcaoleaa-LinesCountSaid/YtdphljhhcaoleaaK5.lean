/- The law LinesShows, walked. -/
import Derived.Test.YtdphljhhcaoleaaLC
namespace Go.Proofs.Ytdphljhhcaoleaa
open Go Go.RowKit

theorem far_of {v : View} {n : Nat} (h : farB v n = false) : n ≤ 40 := by
  simp only [farB, Bool.or_eq_false_iff, decide_eq_false_iff_not] at h
  omega
theorem sho_val {v : View} {b : Box} {c : Int} (h0 : chkVB v b = 0) (h1 : isC c = false) : shoE v b c = bif !decide (callV v b = c) && !decide (callV v b = 3) then 3 else 0 := by
  simp only [shoE, h0, h1, decide_true, Bool.not_true, cond_false]
theorem isC_or {c : Int} (h : isC c = false) : c = 1 ∨ c = 2 := by
  simp only [isC, Bool.and_eq_false_iff, Bool.not_eq_false', decide_eq_true_eq] at h
  exact h
theorem call_range {v : View} {b : Box} (h : none0 v = false) : callV v b = 1 ∨ callV v b = 2 ∨ callV v b = 3 := by
  rcases call_cases (v := v) (b := b) with ⟨e, _⟩ | ⟨_, e, _⟩ | ⟨_, e, _⟩ | ⟨_, e, _⟩
  · rw [h] at e; cases e
  · exact .inl e
  · exact .inr (.inl e)
  · exact .inr (.inr e)
theorem sho_bool {a c : Int} : (bif !decide (a = c) && !decide (a = 3) then (3 : Int) else 0) = if ¬ a = c ∧ ¬ a = 3 then 3 else 0 := by
  by_cases h1 : a = c <;> by_cases h2 : a = 3 <;> simp [h1, h2]
theorem show_law {v : View} {b : Box} {c : Int} {m : Mark} {e : Int} (h : ShowR v b c m e) : e = shoE v b c ∧ (e ≠ 0 → m = mark0) ∧ (e = 0 → v.Near ∧ b.Ok ∧ isT v m = true ∧ tch m b = decide (c = 1)) := by
  have hh := h
  rcases h with ⟨h0, rfl, rfl⟩ | ⟨h0, h1, rfl, rfl⟩ | ⟨h0, h1, rfl, p, hp, hm⟩ | ⟨h0, h1, rfl, rfl, hall⟩
  · exact ⟨by simp [shoE, h0], fun _ => rfl, fun h => absurd h h0⟩
  · exact ⟨by simp [shoE, h0, h1], fun _ => rfl, fun h => by omega⟩
  · obtain ⟨hvb, hbb⟩ := chkVB_ok (v := v) (b := b) (by simp [h0])
    have hvn := vbad_near hvb
    have hno : none0 v = false := by
      cases hn : none0 v
      · rfl
      · exact absurd hp (none_mem hn)
    have hr := call_range (b := b) hno
    rw [sho_val h0 h1, sho_bool]
    rcases isC_or h1 with rfl | rfl
    · obtain ⟨k1, k2⟩ := show_in hvn h0 hno hh
      have := k1.1 rfl
      exact ⟨by rw [if_neg (by omega)], fun h => absurd rfl h, fun _ => ⟨hvn, bbad_ok hbb, (k2 rfl).1, (k2 rfl).2⟩⟩
    · obtain ⟨k1, k2⟩ := show_out hvn h0 hno hh
      have := k1.1 rfl
      exact ⟨by rw [if_neg (by omega)], fun h => absurd rfl h, fun _ => ⟨hvn, bbad_ok hbb, (k2 rfl).1, (k2 rfl).2⟩⟩
  · obtain ⟨hvb, hbb⟩ := chkVB_ok (v := v) (b := b) (by simp [h0])
    have hvn := vbad_near hvb
    refine ⟨?_, fun _ => rfl, fun h => by omega⟩
    rw [sho_val h0 h1, sho_bool]
    cases hno : none0 v
    · have hr := call_range (b := b) hno
      rcases isC_or h1 with rfl | rfl
      · have k1 := (show_in hvn h0 hno hh).1
        rw [if_pos (by omega)]
      · have k1 := (show_out hvn h0 hno hh).1
        rw [if_pos (by omega)]
    · have : callV v b = 0 := by simp [callV, hno]
      rcases isC_or h1 with rfl | rfl <;> rw [if_pos (by omega)]
theorem shows1 {e s : Int} {m : Mark} (h1 : e = s) (h2 : e ≠ 0 → m = mark0) (hc : (!decide (e = s) || !decide (e = 0) && !decide ([m.x, m.y, m.hx, m.hy] = [0, 0, 0, 0])) = true) : False := by
  by_cases he : e = 0
  · simp [h1.symm, he] at hc
  · rw [h2 he] at hc
    simp [h1.symm, mark0] at hc

theorem shows2 {e c : Int} {t T : Bool} (h : e = 0 → t = true ∧ T = decide (c = 1)) : ((!decide (e = 0) || t && (T == decide (c = 1))) && true) = true := by
  by_cases he : e = 0
  · obtain ⟨e1, e2⟩ := h he
    simp [e1, e2]
  · simp [he]
theorem K_LinesShows (v : View) (b : Box) (call : Int) (A : Option Addr) (n c : Nat) (w : World) (h : Rd w A 4 n v.enc) (hn : n ≤ 9223372036854775807) : C0 Try.prog 5 [v.val A n c, b.val, .int .i64 call] w (.bool true) := by
  refine ⟨en Try.func5 Try.ntmps5 ((St.init w).share (e := .ro A 4 n v.enc) h rfl rfl rfl) (h := fun F => ?_)⟩
  refine sq (h := ?_)
  refine rg (h := ?_)
  refine bxA (h := fun b0 => ?_)
  refine bxA (h := fun b1 => ?_)
  refine WL.y (hy := asg) (h := ?_)
  refine nl (h := ?_)
  refine q_seq (h := ?_)
  refine sq (h := ?_)
  refine sq (h := ?_)
  refine rg (h := ?_)
  refine WL.y (hy := (by first | exact ldA | exact ldEA)) (h := ?_)
  refine cl0 (hc := fun w hS => C_deucelaw02_Far _ _ _ _ w (hS.get (by repeat (first | exact Rds.ro | exact Rds.own | apply Rds.there))) (by omega)) (h := ?_)
  refine nl (h := ?_)
  refine q_seq (h := ?_)
  refine cd (by exact rfl) (fun h0 => ?_) (fun h0 => ?_)
  · skip
    refine sq (h := ?_)
    refine rg (h := ?_)
    refine cl0 (hc := fun w hS => C_deucelaw02_works w) (h := ?_)
    refine WL.y (hy := asg) (h := ?_)
    refine nl (h := ?_)
    refine q_seq (h := ?_)
    refine rtn (h := ?_)
    refine q_then_ret (h := ?_)
    refine q_ret (hR := ?_)
    first
      | exact fun w hS => ⟨rfl, hS.sub (by repeat (first | exact SubL.nil | (apply SubL.cons; (repeat (first | exact At.here | apply At.there)))))⟩
      | exact fun w hS => ⟨congrArg (fun x => Ending.returned (Value.bool x)) (shows2 fun he => ⟨(hs3 he).2.2.1, (hs3 he).2.2.2⟩), hS.sub (by repeat (first | exact SubL.nil | (apply SubL.cons; (repeat (first | exact At.here | apply At.there)))))⟩
  · skip
    have hn40 := far_of h0
    refine skp (h := ?_)
    refine q_seq (h := ?_)
    refine sq (h := ?_)
    refine rgD0 (by kernel_rfl) (h := ?_)
    refine tk 0 (hy := (by first | exact ldA | exact ldEA)) (h := ?_)
    refine tk 2 (hy := (by first | exact ldA | exact ldEA)) (h := ?_)
    refine tk 3 (hy := mv) (h := ?_)
    refine two 1 8 (h1 := ?_) (h2 := ?_)
    · skip
      refine cl (hc := fun w hS => C_ref_Copy _ _ _ _ w (hS.get (by repeat (first | exact Rds.ro | exact Rds.own | apply Rds.there))) (by omega)) (h := fun x2 _ => ?_)
      refine nx (h := ?_)
      refine two 4 8 (h1 := ?_) (h2 := ?_)
      · skip
        refine cl (hc := fun w hS => C_lines_Show _ _ _ _ _ _ w (hS.get (by repeat (first | exact Rds.ro | exact Rds.own | apply Rds.there))) (by omega)) (h := fun xs hxs => ?_)
        obtain ⟨hs1, hs2, hs3⟩ := show_law hxs
        refine nx (h := ?_)
        refine tk 5 (hy := mv) (h := ?_)
        refine tk 6 (hy := ex) (h := ?_)
        refine tk 7 (hy := ex) (h := ?_)
        refine one 8 (h := ?_)
        refine al (h := fun b2 => ?_)
        refine nx (h := ?_)
        refine one 9 (h := ?_)
        first | refine stA (h := ?_) | refine stEA (h := ?_)
        refine nx (h := ?_)
        refine tk 10 (hy := asg) (h := ?_)
        refine dn (h := ?_)
        refine q_seq (h := ?_)
        refine sq (h := ?_)
        refine sq (h := ?_)
        refine rg (h := ?_)
        refine WL.y (hy := mv) (h := ?_)
        refine WL.y (hy := (by first | exact ldA | exact ldEA)) (h := ?_)
        refine WL.y (hy := (by first | exact ldA | exact ldEA)) (h := ?_)
        refine WL.y (hy := mv) (h := ?_)
        refine cl0 (hc := fun w hS => C_ref_CheckShow _ _ _ _ _ _ w (hS.get (by repeat (first | exact Rds.ro | exact Rds.own | apply Rds.there))) (by omega)) (h := ?_)
        refine WL.y (hy := neq) (h := ?_)
        refine WL.y (hy := mv) (h := ?_)
        apply brOr 8 26 34 (by exact rfl)
        · intro hb1
          refine un (h := ?_)
          refine WL.y (hy := mv) (h := ?_)
          refine un (h := ?_)
          refine WL.y (hy := neq) (h := ?_)
          refine un (h := ?_)
          refine WL.y (hy := mv) (h := ?_)
          apply brAnd 4 29 33 (by exact rfl)
          · intro hb2
            refine un (h := ?_)
            refine WL.y (hy := (by first | exact ldA | exact ldEA)) (h := ?_)
            refine un (h := ?_)
            refine WL.y (hy := bd) (h := ?_)
            refine un (h := ?_)
            refine WL.y (hy := neqT) (h := ?_)
            refine un (h := ?_)
            refine WL.y (hy := (by first | exact pkT | exact pkF)) (h := ?_)
            exact mg (by repeat (first | exact trivial | refine ⟨rfl, ?_⟩ | refine ⟨by rw [hb2]; rfl, ?_⟩ | refine ⟨by rw [hb1]; rfl, ?_⟩)) (by repeat (first | exact SubL.nil | (apply SubL.cons; (repeat (first | exact At.here | apply At.there)))))
          · intro hb2
            repeat (first | refine un (h := ?_) | refine sk (h := ?_) | refine WL.y (hy := pkF) (h := ?_) | refine WL.y (hy := pkT) (h := ?_))
            exact mg (by repeat (first | exact trivial | refine ⟨rfl, ?_⟩ | refine ⟨by rw [hb2]; rfl, ?_⟩ | refine ⟨by rw [hb1]; rfl, ?_⟩)) (by repeat (first | exact SubL.nil | (apply SubL.cons; (repeat (first | exact At.here | apply At.there)))))
          refine WL.y (hy := (by first | exact pkT | exact pkF)) (h := ?_)
          exact mg (by repeat (first | exact trivial | refine ⟨rfl, ?_⟩ | refine ⟨by rw [hb1]; rfl, ?_⟩)) (by repeat (first | exact SubL.nil | (apply SubL.cons; (repeat (first | exact At.here | apply At.there)))))
        · intro hb1
          repeat (first | refine un (h := ?_) | refine sk (h := ?_) | refine WL.y (hy := pkF) (h := ?_) | refine WL.y (hy := pkT) (h := ?_))
          exact mg (by repeat (first | exact trivial | refine ⟨rfl, ?_⟩ | refine ⟨by rw [hb1]; rfl, ?_⟩)) (by repeat (first | exact SubL.nil | (apply SubL.cons; (repeat (first | exact At.here | apply At.there)))))
        refine nl (h := ?_)
        refine q_seq (h := ?_)
        refine cd (by exact rfl) (fun h3 => ?_) (fun h3 => ?_)
        · skip
          exact (shows1 hs1 hs2 h3).elim
        · skip
          refine skp (h := ?_)
          refine q_seq (h := ?_)
          refine sq (h := ?_)
          refine rg (h := ?_)
          refine WL.y (hy := mv) (h := ?_)
          refine WL.y (hy := neq) (h := ?_)
          refine WL.y (hy := mv) (h := ?_)
          apply brOr 12 37 49 (by exact rfl)
          · intro hb4
            obtain ⟨hvn, hbok, hmt, htc⟩ := hs3 (by simpa using hb4)
            have hmok := isT_ok hvn hmt
            refine un (h := ?_)
            refine WL.y (hy := (by first | exact ldA | exact ldEA)) (h := ?_)
            refine un (h := ?_)
            refine WL.y (hy := (by first | exact ldA | exact ldEA)) (h := ?_)
            refine un (h := ?_)
            refine cl0 (hc := fun w hS => C_ref_IsTruth _ _ _ _ _ w (hS.get (by repeat (first | exact Rds.ro | exact Rds.own | apply Rds.there))) ‹_›) (h := ?_)
            refine un (h := ?_)
            refine WL.y (hy := mv) (h := ?_)
            apply brAnd 7 41 48 (by exact rfl)
            · intro hb5
              refine un (h := ?_)
              refine WL.y (hy := (by first | exact ldA | exact ldEA)) (h := ?_)
              refine un (h := ?_)
              refine WL.y (hy := (by first | exact ldA | exact ldEA)) (h := ?_)
              refine un (h := ?_)
              refine cl0 (hc := fun w hS => C_ref_Touch _ _ ‹_› ‹_› w) (h := ?_)
              refine un (h := ?_)
              refine WL.y (hy := mv) (h := ?_)
              refine un (h := ?_)
              refine WL.y (hy := eql) (h := ?_)
              refine un (h := ?_)
              refine WL.y (hy := eqlB) (h := ?_)
              refine un (h := ?_)
              refine WL.y (hy := (by first | exact pkT | exact pkF)) (h := ?_)
              exact mg (by repeat (first | exact trivial | refine ⟨rfl, ?_⟩ | refine ⟨by rw [hb5]; rfl, ?_⟩ | refine ⟨by rw [hb4]; rfl, ?_⟩)) (by repeat (first | exact SubL.nil | (apply SubL.cons; (repeat (first | exact At.here | apply At.there)))))
            · intro hb5
              repeat (first | refine un (h := ?_) | refine sk (h := ?_) | refine WL.y (hy := pkF) (h := ?_) | refine WL.y (hy := pkT) (h := ?_))
              exact mg (by repeat (first | exact trivial | refine ⟨rfl, ?_⟩ | refine ⟨by rw [hb5]; rfl, ?_⟩ | refine ⟨by rw [hb4]; rfl, ?_⟩)) (by repeat (first | exact SubL.nil | (apply SubL.cons; (repeat (first | exact At.here | apply At.there)))))
            refine WL.y (hy := (by first | exact pkT | exact pkF)) (h := ?_)
            exact mg (by repeat (first | exact trivial | refine ⟨rfl, ?_⟩ | refine ⟨by rw [hb4]; rfl, ?_⟩)) (by repeat (first | exact SubL.nil | (apply SubL.cons; (repeat (first | exact At.here | apply At.there)))))
          · intro hb4
            repeat (first | refine un (h := ?_) | refine sk (h := ?_) | refine WL.y (hy := pkF) (h := ?_) | refine WL.y (hy := pkT) (h := ?_))
            exact mg (by repeat (first | exact trivial | refine ⟨rfl, ?_⟩ | refine ⟨by rw [hb4]; rfl, ?_⟩)) (by repeat (first | exact SubL.nil | (apply SubL.cons; (repeat (first | exact At.here | apply At.there)))))
          refine WL.y (hy := mv) (h := ?_)
          apply brAnd 2 50 52 (by exact rfl)
          · intro hb6
            refine un (h := ?_)
            refine cl0 (hc := fun w hS => C_deucelaw02_works w) (h := ?_)
            refine WL.y (hy := (by first | exact pkT | exact pkF)) (h := ?_)
            exact mg (by repeat (first | exact trivial | refine ⟨rfl, ?_⟩ | refine ⟨by rw [hb6]; rfl, ?_⟩)) (by repeat (first | exact SubL.nil | (apply SubL.cons; (repeat (first | exact At.here | apply At.there)))))
          · intro hb6
            repeat (first | refine un (h := ?_) | refine sk (h := ?_) | refine WL.y (hy := pkF) (h := ?_) | refine WL.y (hy := pkT) (h := ?_))
            exact mg (by repeat (first | exact trivial | refine ⟨rfl, ?_⟩ | refine ⟨by rw [hb6]; rfl, ?_⟩)) (by repeat (first | exact SubL.nil | (apply SubL.cons; (repeat (first | exact At.here | apply At.there)))))
          refine WL.y (hy := asg) (h := ?_)
          refine nl (h := ?_)
          refine q_seq (h := ?_)
          refine rtn (h := ?_)
          refine q_ret (hR := ?_)
          first
            | exact fun w hS => ⟨rfl, hS.sub (by repeat (first | exact SubL.nil | (apply SubL.cons; (repeat (first | exact At.here | apply At.there)))))⟩
            | exact fun w hS => ⟨congrArg (fun x => Ending.returned (Value.bool x)) (shows2 fun he => ⟨(hs3 he).2.2.1, (hs3 he).2.2.2⟩), hS.sub (by repeat (first | exact SubL.nil | (apply SubL.cons; (repeat (first | exact At.here | apply At.there)))))⟩
      · skip
        refine al (h := fun b3 => ?_)
        refine nx (h := ?_)
        refine one 4 (h := ?_)
        refine cl (hc := fun w hS => C_lines_Show _ _ _ _ _ _ w (hS.get (by repeat (first | exact Rds.ro | exact Rds.own | apply Rds.there))) (by omega)) (h := fun xs hxs => ?_)
        obtain ⟨hs1, hs2, hs3⟩ := show_law hxs
        refine nx (h := ?_)
        refine tk 5 (hy := mv) (h := ?_)
        refine tk 6 (hy := ex) (h := ?_)
        refine tk 7 (hy := ex) (h := ?_)
        refine one 9 (h := ?_)
        first | refine stA (h := ?_) | refine stEA (h := ?_)
        refine nx (h := ?_)
        refine tk 10 (hy := asg) (h := ?_)
        refine dn (h := ?_)
        refine q_seq (h := ?_)
        refine sq (h := ?_)
        refine sq (h := ?_)
        refine rg (h := ?_)
        refine WL.y (hy := mv) (h := ?_)
        refine WL.y (hy := (by first | exact ldA | exact ldEA)) (h := ?_)
        refine WL.y (hy := (by first | exact ldA | exact ldEA)) (h := ?_)
        refine WL.y (hy := mv) (h := ?_)
        refine cl0 (hc := fun w hS => C_ref_CheckShow _ _ _ _ _ _ w (hS.get (by repeat (first | exact Rds.ro | exact Rds.own | apply Rds.there))) (by omega)) (h := ?_)
        refine WL.y (hy := neq) (h := ?_)
        refine WL.y (hy := mv) (h := ?_)
        apply brOr 8 26 34 (by exact rfl)
        · intro hb7
          refine un (h := ?_)
          refine WL.y (hy := mv) (h := ?_)
          refine un (h := ?_)
          refine WL.y (hy := neq) (h := ?_)
          refine un (h := ?_)
          refine WL.y (hy := mv) (h := ?_)
          apply brAnd 4 29 33 (by exact rfl)
          · intro hb8
            refine un (h := ?_)
            refine WL.y (hy := (by first | exact ldA | exact ldEA)) (h := ?_)
            refine un (h := ?_)
            refine WL.y (hy := bd) (h := ?_)
            refine un (h := ?_)
            refine WL.y (hy := neqT) (h := ?_)
            refine un (h := ?_)
            refine WL.y (hy := (by first | exact pkT | exact pkF)) (h := ?_)
            exact mg (by repeat (first | exact trivial | refine ⟨rfl, ?_⟩ | refine ⟨by rw [hb8]; rfl, ?_⟩ | refine ⟨by rw [hb7]; rfl, ?_⟩)) (by repeat (first | exact SubL.nil | (apply SubL.cons; (repeat (first | exact At.here | apply At.there)))))
          · intro hb8
            repeat (first | refine un (h := ?_) | refine sk (h := ?_) | refine WL.y (hy := pkF) (h := ?_) | refine WL.y (hy := pkT) (h := ?_))
            exact mg (by repeat (first | exact trivial | refine ⟨rfl, ?_⟩ | refine ⟨by rw [hb8]; rfl, ?_⟩ | refine ⟨by rw [hb7]; rfl, ?_⟩)) (by repeat (first | exact SubL.nil | (apply SubL.cons; (repeat (first | exact At.here | apply At.there)))))
          refine WL.y (hy := (by first | exact pkT | exact pkF)) (h := ?_)
          exact mg (by repeat (first | exact trivial | refine ⟨rfl, ?_⟩ | refine ⟨by rw [hb7]; rfl, ?_⟩)) (by repeat (first | exact SubL.nil | (apply SubL.cons; (repeat (first | exact At.here | apply At.there)))))
        · intro hb7
          repeat (first | refine un (h := ?_) | refine sk (h := ?_) | refine WL.y (hy := pkF) (h := ?_) | refine WL.y (hy := pkT) (h := ?_))
          exact mg (by repeat (first | exact trivial | refine ⟨rfl, ?_⟩ | refine ⟨by rw [hb7]; rfl, ?_⟩)) (by repeat (first | exact SubL.nil | (apply SubL.cons; (repeat (first | exact At.here | apply At.there)))))
        refine nl (h := ?_)
        refine q_seq (h := ?_)
        refine cd (by exact rfl) (fun h9 => ?_) (fun h9 => ?_)
        · skip
          exact (shows1 hs1 hs2 h9).elim
        · skip
          refine skp (h := ?_)
          refine q_seq (h := ?_)
          refine sq (h := ?_)
          refine rg (h := ?_)
          refine WL.y (hy := mv) (h := ?_)
          refine WL.y (hy := neq) (h := ?_)
          refine WL.y (hy := mv) (h := ?_)
          apply brOr 12 37 49 (by exact rfl)
          · intro hb10
            obtain ⟨hvn, hbok, hmt, htc⟩ := hs3 (by simpa using hb10)
            have hmok := isT_ok hvn hmt
            refine un (h := ?_)
            refine WL.y (hy := (by first | exact ldA | exact ldEA)) (h := ?_)
            refine un (h := ?_)
            refine WL.y (hy := (by first | exact ldA | exact ldEA)) (h := ?_)
            refine un (h := ?_)
            refine cl0 (hc := fun w hS => C_ref_IsTruth _ _ _ _ _ w (hS.get (by repeat (first | exact Rds.ro | exact Rds.own | apply Rds.there))) ‹_›) (h := ?_)
            refine un (h := ?_)
            refine WL.y (hy := mv) (h := ?_)
            apply brAnd 7 41 48 (by exact rfl)
            · intro hb11
              refine un (h := ?_)
              refine WL.y (hy := (by first | exact ldA | exact ldEA)) (h := ?_)
              refine un (h := ?_)
              refine WL.y (hy := (by first | exact ldA | exact ldEA)) (h := ?_)
              refine un (h := ?_)
              refine cl0 (hc := fun w hS => C_ref_Touch _ _ ‹_› ‹_› w) (h := ?_)
              refine un (h := ?_)
              refine WL.y (hy := mv) (h := ?_)
              refine un (h := ?_)
              refine WL.y (hy := eql) (h := ?_)
              refine un (h := ?_)
              refine WL.y (hy := eqlB) (h := ?_)
              refine un (h := ?_)
              refine WL.y (hy := (by first | exact pkT | exact pkF)) (h := ?_)
              exact mg (by repeat (first | exact trivial | refine ⟨rfl, ?_⟩ | refine ⟨by rw [hb11]; rfl, ?_⟩ | refine ⟨by rw [hb10]; rfl, ?_⟩)) (by repeat (first | exact SubL.nil | (apply SubL.cons; (repeat (first | exact At.here | apply At.there)))))
            · intro hb11
              repeat (first | refine un (h := ?_) | refine sk (h := ?_) | refine WL.y (hy := pkF) (h := ?_) | refine WL.y (hy := pkT) (h := ?_))
              exact mg (by repeat (first | exact trivial | refine ⟨rfl, ?_⟩ | refine ⟨by rw [hb11]; rfl, ?_⟩ | refine ⟨by rw [hb10]; rfl, ?_⟩)) (by repeat (first | exact SubL.nil | (apply SubL.cons; (repeat (first | exact At.here | apply At.there)))))
            refine WL.y (hy := (by first | exact pkT | exact pkF)) (h := ?_)
            exact mg (by repeat (first | exact trivial | refine ⟨rfl, ?_⟩ | refine ⟨by rw [hb10]; rfl, ?_⟩)) (by repeat (first | exact SubL.nil | (apply SubL.cons; (repeat (first | exact At.here | apply At.there)))))
          · intro hb10
            repeat (first | refine un (h := ?_) | refine sk (h := ?_) | refine WL.y (hy := pkF) (h := ?_) | refine WL.y (hy := pkT) (h := ?_))
            exact mg (by repeat (first | exact trivial | refine ⟨rfl, ?_⟩ | refine ⟨by rw [hb10]; rfl, ?_⟩)) (by repeat (first | exact SubL.nil | (apply SubL.cons; (repeat (first | exact At.here | apply At.there)))))
          refine WL.y (hy := mv) (h := ?_)
          apply brAnd 2 50 52 (by exact rfl)
          · intro hb12
            refine un (h := ?_)
            refine cl0 (hc := fun w hS => C_deucelaw02_works w) (h := ?_)
            refine WL.y (hy := (by first | exact pkT | exact pkF)) (h := ?_)
            exact mg (by repeat (first | exact trivial | refine ⟨rfl, ?_⟩ | refine ⟨by rw [hb12]; rfl, ?_⟩)) (by repeat (first | exact SubL.nil | (apply SubL.cons; (repeat (first | exact At.here | apply At.there)))))
          · intro hb12
            repeat (first | refine un (h := ?_) | refine sk (h := ?_) | refine WL.y (hy := pkF) (h := ?_) | refine WL.y (hy := pkT) (h := ?_))
            exact mg (by repeat (first | exact trivial | refine ⟨rfl, ?_⟩ | refine ⟨by rw [hb12]; rfl, ?_⟩)) (by repeat (first | exact SubL.nil | (apply SubL.cons; (repeat (first | exact At.here | apply At.there)))))
          refine WL.y (hy := asg) (h := ?_)
          refine nl (h := ?_)
          refine q_seq (h := ?_)
          refine rtn (h := ?_)
          refine q_ret (hR := ?_)
          first
            | exact fun w hS => ⟨rfl, hS.sub (by repeat (first | exact SubL.nil | (apply SubL.cons; (repeat (first | exact At.here | apply At.there)))))⟩
            | exact fun w hS => ⟨congrArg (fun x => Ending.returned (Value.bool x)) (shows2 fun he => ⟨(hs3 he).2.2.1, (hs3 he).2.2.2⟩), hS.sub (by repeat (first | exact SubL.nil | (apply SubL.cons; (repeat (first | exact At.here | apply At.there)))))⟩
    · skip
      refine al (h := fun b4 => ?_)
      refine nx (h := ?_)
      refine one 1 (h := ?_)
      refine cl (hc := fun w hS => C_ref_Copy _ _ _ _ w (hS.get (by repeat (first | exact Rds.ro | exact Rds.own | apply Rds.there))) (by omega)) (h := fun x11 _ => ?_)
      refine nx (h := ?_)
      refine one 4 (h := ?_)
      refine cl (hc := fun w hS => C_lines_Show _ _ _ _ _ _ w (hS.get (by repeat (first | exact Rds.ro | exact Rds.own | apply Rds.there))) (by omega)) (h := fun xs hxs => ?_)
      obtain ⟨hs1, hs2, hs3⟩ := show_law hxs
      refine nx (h := ?_)
      refine tk 5 (hy := mv) (h := ?_)
      refine tk 6 (hy := ex) (h := ?_)
      refine tk 7 (hy := ex) (h := ?_)
      refine one 9 (h := ?_)
      first | refine stA (h := ?_) | refine stEA (h := ?_)
      refine nx (h := ?_)
      refine tk 10 (hy := asg) (h := ?_)
      refine dn (h := ?_)
      refine q_seq (h := ?_)
      refine sq (h := ?_)
      refine sq (h := ?_)
      refine rg (h := ?_)
      refine WL.y (hy := mv) (h := ?_)
      refine WL.y (hy := (by first | exact ldA | exact ldEA)) (h := ?_)
      refine WL.y (hy := (by first | exact ldA | exact ldEA)) (h := ?_)
      refine WL.y (hy := mv) (h := ?_)
      refine cl0 (hc := fun w hS => C_ref_CheckShow _ _ _ _ _ _ w (hS.get (by repeat (first | exact Rds.ro | exact Rds.own | apply Rds.there))) (by omega)) (h := ?_)
      refine WL.y (hy := neq) (h := ?_)
      refine WL.y (hy := mv) (h := ?_)
      apply brOr 8 26 34 (by exact rfl)
      · intro hb13
        refine un (h := ?_)
        refine WL.y (hy := mv) (h := ?_)
        refine un (h := ?_)
        refine WL.y (hy := neq) (h := ?_)
        refine un (h := ?_)
        refine WL.y (hy := mv) (h := ?_)
        apply brAnd 4 29 33 (by exact rfl)
        · intro hb14
          refine un (h := ?_)
          refine WL.y (hy := (by first | exact ldA | exact ldEA)) (h := ?_)
          refine un (h := ?_)
          refine WL.y (hy := bd) (h := ?_)
          refine un (h := ?_)
          refine WL.y (hy := neqT) (h := ?_)
          refine un (h := ?_)
          refine WL.y (hy := (by first | exact pkT | exact pkF)) (h := ?_)
          exact mg (by repeat (first | exact trivial | refine ⟨rfl, ?_⟩ | refine ⟨by rw [hb14]; rfl, ?_⟩ | refine ⟨by rw [hb13]; rfl, ?_⟩)) (by repeat (first | exact SubL.nil | (apply SubL.cons; (repeat (first | exact At.here | apply At.there)))))
        · intro hb14
          repeat (first | refine un (h := ?_) | refine sk (h := ?_) | refine WL.y (hy := pkF) (h := ?_) | refine WL.y (hy := pkT) (h := ?_))
          exact mg (by repeat (first | exact trivial | refine ⟨rfl, ?_⟩ | refine ⟨by rw [hb14]; rfl, ?_⟩ | refine ⟨by rw [hb13]; rfl, ?_⟩)) (by repeat (first | exact SubL.nil | (apply SubL.cons; (repeat (first | exact At.here | apply At.there)))))
        refine WL.y (hy := (by first | exact pkT | exact pkF)) (h := ?_)
        exact mg (by repeat (first | exact trivial | refine ⟨rfl, ?_⟩ | refine ⟨by rw [hb13]; rfl, ?_⟩)) (by repeat (first | exact SubL.nil | (apply SubL.cons; (repeat (first | exact At.here | apply At.there)))))
      · intro hb13
        repeat (first | refine un (h := ?_) | refine sk (h := ?_) | refine WL.y (hy := pkF) (h := ?_) | refine WL.y (hy := pkT) (h := ?_))
        exact mg (by repeat (first | exact trivial | refine ⟨rfl, ?_⟩ | refine ⟨by rw [hb13]; rfl, ?_⟩)) (by repeat (first | exact SubL.nil | (apply SubL.cons; (repeat (first | exact At.here | apply At.there)))))
      refine nl (h := ?_)
      refine q_seq (h := ?_)
      refine cd (by exact rfl) (fun h15 => ?_) (fun h15 => ?_)
      · skip
        exact (shows1 hs1 hs2 h15).elim
      · skip
        refine skp (h := ?_)
        refine q_seq (h := ?_)
        refine sq (h := ?_)
        refine rg (h := ?_)
        refine WL.y (hy := mv) (h := ?_)
        refine WL.y (hy := neq) (h := ?_)
        refine WL.y (hy := mv) (h := ?_)
        apply brOr 12 37 49 (by exact rfl)
        · intro hb16
          obtain ⟨hvn, hbok, hmt, htc⟩ := hs3 (by simpa using hb16)
          have hmok := isT_ok hvn hmt
          refine un (h := ?_)
          refine WL.y (hy := (by first | exact ldA | exact ldEA)) (h := ?_)
          refine un (h := ?_)
          refine WL.y (hy := (by first | exact ldA | exact ldEA)) (h := ?_)
          refine un (h := ?_)
          refine cl0 (hc := fun w hS => C_ref_IsTruth _ _ _ _ _ w (hS.get (by repeat (first | exact Rds.ro | exact Rds.own | apply Rds.there))) ‹_›) (h := ?_)
          refine un (h := ?_)
          refine WL.y (hy := mv) (h := ?_)
          apply brAnd 7 41 48 (by exact rfl)
          · intro hb17
            refine un (h := ?_)
            refine WL.y (hy := (by first | exact ldA | exact ldEA)) (h := ?_)
            refine un (h := ?_)
            refine WL.y (hy := (by first | exact ldA | exact ldEA)) (h := ?_)
            refine un (h := ?_)
            refine cl0 (hc := fun w hS => C_ref_Touch _ _ ‹_› ‹_› w) (h := ?_)
            refine un (h := ?_)
            refine WL.y (hy := mv) (h := ?_)
            refine un (h := ?_)
            refine WL.y (hy := eql) (h := ?_)
            refine un (h := ?_)
            refine WL.y (hy := eqlB) (h := ?_)
            refine un (h := ?_)
            refine WL.y (hy := (by first | exact pkT | exact pkF)) (h := ?_)
            exact mg (by repeat (first | exact trivial | refine ⟨rfl, ?_⟩ | refine ⟨by rw [hb17]; rfl, ?_⟩ | refine ⟨by rw [hb16]; rfl, ?_⟩)) (by repeat (first | exact SubL.nil | (apply SubL.cons; (repeat (first | exact At.here | apply At.there)))))
          · intro hb17
            repeat (first | refine un (h := ?_) | refine sk (h := ?_) | refine WL.y (hy := pkF) (h := ?_) | refine WL.y (hy := pkT) (h := ?_))
            exact mg (by repeat (first | exact trivial | refine ⟨rfl, ?_⟩ | refine ⟨by rw [hb17]; rfl, ?_⟩ | refine ⟨by rw [hb16]; rfl, ?_⟩)) (by repeat (first | exact SubL.nil | (apply SubL.cons; (repeat (first | exact At.here | apply At.there)))))
          refine WL.y (hy := (by first | exact pkT | exact pkF)) (h := ?_)
          exact mg (by repeat (first | exact trivial | refine ⟨rfl, ?_⟩ | refine ⟨by rw [hb16]; rfl, ?_⟩)) (by repeat (first | exact SubL.nil | (apply SubL.cons; (repeat (first | exact At.here | apply At.there)))))
        · intro hb16
          repeat (first | refine un (h := ?_) | refine sk (h := ?_) | refine WL.y (hy := pkF) (h := ?_) | refine WL.y (hy := pkT) (h := ?_))
          exact mg (by repeat (first | exact trivial | refine ⟨rfl, ?_⟩ | refine ⟨by rw [hb16]; rfl, ?_⟩)) (by repeat (first | exact SubL.nil | (apply SubL.cons; (repeat (first | exact At.here | apply At.there)))))
        refine WL.y (hy := mv) (h := ?_)
        apply brAnd 2 50 52 (by exact rfl)
        · intro hb18
          refine un (h := ?_)
          refine cl0 (hc := fun w hS => C_deucelaw02_works w) (h := ?_)
          refine WL.y (hy := (by first | exact pkT | exact pkF)) (h := ?_)
          exact mg (by repeat (first | exact trivial | refine ⟨rfl, ?_⟩ | refine ⟨by rw [hb18]; rfl, ?_⟩)) (by repeat (first | exact SubL.nil | (apply SubL.cons; (repeat (first | exact At.here | apply At.there)))))
        · intro hb18
          repeat (first | refine un (h := ?_) | refine sk (h := ?_) | refine WL.y (hy := pkF) (h := ?_) | refine WL.y (hy := pkT) (h := ?_))
          exact mg (by repeat (first | exact trivial | refine ⟨rfl, ?_⟩ | refine ⟨by rw [hb18]; rfl, ?_⟩)) (by repeat (first | exact SubL.nil | (apply SubL.cons; (repeat (first | exact At.here | apply At.there)))))
        refine WL.y (hy := asg) (h := ?_)
        refine nl (h := ?_)
        refine q_seq (h := ?_)
        refine rtn (h := ?_)
        refine q_ret (hR := ?_)
        first
          | exact fun w hS => ⟨rfl, hS.sub (by repeat (first | exact SubL.nil | (apply SubL.cons; (repeat (first | exact At.here | apply At.there)))))⟩
          | exact fun w hS => ⟨congrArg (fun x => Ending.returned (Value.bool x)) (shows2 fun he => ⟨(hs3 he).2.2.1, (hs3 he).2.2.2⟩), hS.sub (by repeat (first | exact SubL.nil | (apply SubL.cons; (repeat (first | exact At.here | apply At.there)))))⟩
end Go.Proofs.Ytdphljhhcaoleaa
