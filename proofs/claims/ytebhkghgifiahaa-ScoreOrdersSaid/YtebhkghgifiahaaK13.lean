/- The law of the orders. -/
import Derived.Test.YtebhkghgifiahaaSH
namespace Go.Proofs.Ytebhkghgifiahaa
open Go Go.RowKit

theorem encP_take (l : List Pr) (k : Nat) : (encP l).take k = encP (l.take k) := by
  simp [encP, List.map_take]
set_option maxHeartbeats 2000000 in
theorem K_ScoreOrders (f : Fmt) (l : List Pr) (A : Option Addr) (n c : Nat) (cut : Int) (w : World) (h : Rd w A 2 n (encP l)) (hn : n ≤ c ∧ c ≤ 9223372036854775807) :
    C0 Try.prog 3 [f.val, .slice A n c, .int .i64 cut] w (.bool true) := by
  have hlen : l.length = n := by have := h.len; simpa [encP] using this
  refine ⟨en Try.func3 Try.ntmps3 ((St.init w).share (e := .ro A 2 n (encP l)) h rfl rfl rfl) (h := fun F => ?_)⟩
  refine sq (h := ?_)
  refine rg (h := ?_)
  refine bxA (h := fun b0 => ?_)
  refine WL.y (hy := asg) (h := ?_)
  refine nl (h := ?_)
  refine q_seq (h := ?_)
  refine sq (h := ?_)
  refine sq (h := ?_)
  refine rg (h := ?_)
  refine WL.y (hy := (by first | exact ldA | exact ldEA)) (h := ?_)
  refine cl0 (hc := fun w hS => C_ref1_Check _ w) (h := ?_)
  refine WL.y (hy := neq) (h := ?_)
  refine WL.y (hy := mv) (h := ?_)
  apply brOr 4 20 24 (by exact rfl)
  · intro hb0
    refine un (h := ?_)
    refine WL.y (hy := mv) (h := ?_)
    refine un (h := ?_)
    refine WL.y (hy := lenS) (h := ?_)
    refine un (h := ?_)
    refine WL.y (hy := gtr) (h := ?_)
    refine WL.y (hy := (by first | exact pkT | exact pkF)) (h := ?_)
    exact mg (by repeat (first | exact trivial | refine ⟨rfl, ?_⟩ | refine ⟨by rw [hb0]; rfl, ?_⟩)) (by repeat (first | exact SubL.nil | (apply SubL.cons; (repeat (first | exact At.here | apply At.there))) | exact SubL.refl _ | apply SubL.skip))
  · intro hb0
    repeat (first | refine un (h := ?_) | refine sk (h := ?_) | refine WL.y (hy := pkF) (h := ?_) | refine WL.y (hy := pkT) (h := ?_))
    exact mg (by repeat (first | exact trivial | refine ⟨rfl, ?_⟩ | refine ⟨by rw [hb0]; rfl, ?_⟩)) (by repeat (first | exact SubL.nil | (apply SubL.cons; (repeat (first | exact At.here | apply At.there))) | exact SubL.refl _ | apply SubL.skip))
  refine WL.y (hy := mv) (h := ?_)
  apply brOr 3 25 28 (by exact rfl)
  · intro hb1
    refine un (h := ?_)
    refine WL.y (hy := mv) (h := ?_)
    refine un (h := ?_)
    refine WL.y (hy := lss) (h := ?_)
    refine WL.y (hy := (by first | exact pkT | exact pkF)) (h := ?_)
    exact mg (by repeat (first | exact trivial | refine ⟨rfl, ?_⟩ | refine ⟨by rw [hb1]; rfl, ?_⟩)) (by repeat (first | exact SubL.nil | (apply SubL.cons; (repeat (first | exact At.here | apply At.there))) | exact SubL.refl _ | apply SubL.skip))
  · intro hb1
    repeat (first | refine un (h := ?_) | refine sk (h := ?_) | refine WL.y (hy := pkF) (h := ?_) | refine WL.y (hy := pkT) (h := ?_))
    exact mg (by repeat (first | exact trivial | refine ⟨rfl, ?_⟩ | refine ⟨by rw [hb1]; rfl, ?_⟩)) (by repeat (first | exact SubL.nil | (apply SubL.cons; (repeat (first | exact At.here | apply At.there))) | exact SubL.refl _ | apply SubL.skip))
  refine WL.y (hy := mv) (h := ?_)
  apply brOr 5 29 34 (by exact rfl)
  · intro hb2
    refine un (h := ?_)
    refine WL.y (hy := mv) (h := ?_)
    refine un (h := ?_)
    refine WL.y (hy := mv) (h := ?_)
    refine un (h := ?_)
    refine WL.y (hy := lenS) (h := ?_)
    refine un (h := ?_)
    refine WL.y (hy := geq) (h := ?_)
    refine WL.y (hy := (by first | exact pkT | exact pkF)) (h := ?_)
    exact mg (by repeat (first | exact trivial | refine ⟨rfl, ?_⟩ | refine ⟨by rw [hb2]; rfl, ?_⟩)) (by repeat (first | exact SubL.nil | (apply SubL.cons; (repeat (first | exact At.here | apply At.there))) | exact SubL.refl _ | apply SubL.skip))
  · intro hb2
    repeat (first | refine un (h := ?_) | refine sk (h := ?_) | refine WL.y (hy := pkF) (h := ?_) | refine WL.y (hy := pkT) (h := ?_))
    exact mg (by repeat (first | exact trivial | refine ⟨rfl, ?_⟩ | refine ⟨by rw [hb2]; rfl, ?_⟩)) (by repeat (first | exact SubL.nil | (apply SubL.cons; (repeat (first | exact At.here | apply At.there))) | exact SubL.refl _ | apply SubL.skip))
  refine nl (h := ?_)
  refine q_seq (h := ?_)
  refine cd (by exact rfl) (fun h3 => ?_) (fun h3 => ?_)
  · skip
    refine sq (h := ?_)
    refine rg (h := ?_)
    refine cl0 (hc := fun w hS => C_law1_works w) (h := ?_)
    refine WL.y (hy := asg) (h := ?_)
    refine nl (h := ?_)
    refine q_seq (h := ?_)
    refine rtn (h := ?_)
    refine q_then_ret (h := ?_)
    refine q_ret (hR := ?_)
    first
      | exact fun w hS => ⟨rfl, hS.sub (by repeat (first | exact SubL.nil | (apply SubL.cons; (repeat (first | exact At.here | apply At.there))) | exact SubL.refl _ | apply SubL.skip))⟩
      | exact fun w hS => ⟨congrArg (fun b => Ending.returned (Value.bool (b && true))) hE, hS.sub (by repeat (first | exact SubL.nil | (apply SubL.cons; (repeat (first | exact At.here | apply At.there))) | exact SubL.refl _ | apply SubL.skip))⟩
      | exact fun w hS => ⟨by rw [q9, q10]; simp [resV], hS.sub (by repeat (first | exact SubL.nil | (apply SubL.cons; (repeat (first | exact At.here | apply At.there))) | exact SubL.refl _ | apply SubL.skip))⟩
  · skip
    simp only [Bool.or_eq_false_iff, decide_eq_false_iff_not, Bool.not_eq_false', decide_eq_true_eq] at h3
    obtain ⟨⟨⟨hc0, hn5⟩, hcut0⟩, hcutn⟩ := h3
    have hc : chkF f = 0 := by simpa using hc0
    obtain ⟨k, hk⟩ : ∃ k : Nat, cut = k := ⟨cut.toNat, by omega⟩
    subst hk
    have hkn : k < n := by omega
    obtain ⟨p, hp⟩ : ∃ p, l[k]? = some p := ⟨_, List.getElem?_eq_getElem (by omega)⟩
    have hpe := encP_at hp
    refine skp (h := ?_)
    refine q_seq (h := ?_)
    refine sq (h := ?_)
    refine rg (h := ?_)
    refine WL.y (hy := (by first | exact ldA | exact ldEA)) (h := ?_)
    refine WL.y (hy := mv) (h := ?_)
    refine cl0 (hc := fun w hS => C_score_Ways f l _ _ _ w (hS.get (by repeat (first | exact Rds.ro | exact Rds.own | apply Rds.there))) (by omega)) (h := ?_)
    rw [waysR_eq]
    refine WL.y (hy := mv) (h := ?_)
    refine WL.y (hy := ex) (h := ?_)
    refine WL.y (hy := ex) (h := ?_)
    refine WL.y (hy := asg) (h := ?_)
    refine WL.y (hy := asg) (h := ?_)
    refine nl (h := ?_)
    refine q_seq (h := ?_)
    refine sq (h := ?_)
    refine WC.pre (A := A) (m := n) (by repeat (first | exact At.here | apply At.there)) (k + 1) (by omega) ?_
    refine WC.pre (A := A) (m := n) (es := encP l) (by repeat (first | exact At.here | apply At.there)) k (by omega) ?_
    refine rgD0 (by kernel_rfl) (h := ?_)
    refine tk 0 (hy := (by first | exact ldA | exact ldEA)) (h := ?_)
    refine tk 2 (hy := mv) (h := ?_)
    refine tk 3 (hy := mv) (h := ?_)
    refine tk 4 (hy := addI) (h := ?_)
    refine tk 5 (hy := slP (A := A) (m := n) (cap := c) (hi' := k + 1) (hc := by omega)) (h := ?_)
    refine one 1 (h := ?_)
    refine bs (h := fun b1 => ?_)
    refine nx (h := ?_)
    refine one 6 (h := ?_)
    first | refine ap (h := fun A1 c1 => ?_) | refine ap0 (h := fun A1 c1 => ?_)
    refine nx (h := ?_)
    refine one 7 (h := ?_)
    refine cl0 (hc := fun w hS => C_score_Ways f (l.take (k + 1)) _ _ _ w (hS.get (by rw [← encP_take]; repeat (first | exact Rds.ro | exact Rds.own | apply Rds.there))) (by omega)) (h := ?_)
    rw [waysR_eq]
    refine nx (h := ?_)
    refine tk 8 (hy := mv) (h := ?_)
    refine tk 9 (hy := ex) (h := ?_)
    refine tk 10 (hy := ex) (h := ?_)
    refine tk 11 (hy := asg) (h := ?_)
    refine tk 12 (hy := asg) (h := ?_)
    refine dn (h := ?_)
    refine q_seq (h := ?_)
    refine sq (h := ?_)
    refine rgD0 (by kernel_rfl) (h := ?_)
    refine tk 0 (hy := (by first | exact ldA | exact ldEA)) (h := ?_)
    refine tk 2 (hy := mv) (h := ?_)
    refine tk 3 (hy := mv) (h := ?_)
    refine tk 4 (hy := slP (A := A) (m := n) (cap := c) (hi' := k) (hc := by omega)) (h := ?_)
    refine one 1 (h := ?_)
    refine bs (h := fun b2 => ?_)
    refine nx (h := ?_)
    refine one 5 (h := ?_)
    first | refine ap (h := fun A2 c2 => ?_) | refine ap0 (h := fun A2 c2 => ?_)
    refine nx (h := ?_)
    refine one 6 (h := ?_)
    refine cl0 (hc := fun w hS => C_score_Ways f (l.take k) _ _ _ w (hS.get (by rw [← encP_take]; repeat (first | exact Rds.ro | exact Rds.own | apply Rds.there))) (by omega)) (h := ?_)
    rw [waysR_eq]
    refine nx (h := ?_)
    refine tk 7 (hy := mv) (h := ?_)
    refine tk 8 (hy := ex) (h := ?_)
    refine tk 9 (hy := ex) (h := ?_)
    refine tk 10 (hy := asg) (h := ?_)
    refine tk 11 (hy := asg) (h := ?_)
    refine dn (h := ?_)
    refine q_seq (h := ?_)
    refine sq (h := ?_)
    refine sq (h := ?_)
    refine rg (h := ?_)
    refine WL.y (hy := mv) (h := ?_)
    refine WL.y (hy := neq) (h := ?_)
    refine nl (h := ?_)
    refine q_seq (h := ?_)
    refine cd (by exact rfl) (fun h4 => ?_) (fun h4 => ?_)
    · skip
      have he : ¬ waysE f l = 0 := by simpa using h4
      have hE : (decide (waysE f l = 12) || decide (waysE f l = 2)) = true := by
        rcases ways_err hc with h | h | h
        · exact absurd h he
        · rw [h]; rfl
        · rw [h]; rfl
      refine sq (h := ?_)
      refine rg (h := ?_)
      refine WL.y (hy := mv) (h := ?_)
      refine WL.y (hy := eql) (h := ?_)
      refine WL.y (hy := mv) (h := ?_)
      apply brOr 3 67 70 (by exact rfl)
      · intro hb5
        refine un (h := ?_)
        refine WL.y (hy := mv) (h := ?_)
        refine un (h := ?_)
        refine WL.y (hy := eql) (h := ?_)
        refine WL.y (hy := (by first | exact pkT | exact pkF)) (h := ?_)
        exact mg (by repeat (first | exact trivial | refine ⟨rfl, ?_⟩ | refine ⟨by rw [hb5]; rfl, ?_⟩)) (by repeat (first | exact SubL.nil | (apply SubL.cons; (repeat (first | exact At.here | apply At.there))) | exact SubL.refl _ | apply SubL.skip))
      · intro hb5
        repeat (first | refine un (h := ?_) | refine sk (h := ?_) | refine WL.y (hy := pkF) (h := ?_) | refine WL.y (hy := pkT) (h := ?_))
        exact mg (by repeat (first | exact trivial | refine ⟨rfl, ?_⟩ | refine ⟨by rw [hb5]; rfl, ?_⟩)) (by repeat (first | exact SubL.nil | (apply SubL.cons; (repeat (first | exact At.here | apply At.there))) | exact SubL.refl _ | apply SubL.skip))
      refine WL.y (hy := mv) (h := ?_)
      apply brAnd 2 71 73 (by exact rfl)
      · intro hb6
        refine un (h := ?_)
        refine cl0 (hc := fun w hS => C_law1_works w) (h := ?_)
        refine WL.y (hy := (by first | exact pkT | exact pkF)) (h := ?_)
        exact mg (by repeat (first | exact trivial | refine ⟨rfl, ?_⟩ | refine ⟨by rw [hb6]; rfl, ?_⟩)) (by repeat (first | exact SubL.nil | (apply SubL.cons; (repeat (first | exact At.here | apply At.there))) | exact SubL.refl _ | apply SubL.skip))
      · intro hb6
        repeat (first | refine un (h := ?_) | refine sk (h := ?_) | refine WL.y (hy := pkF) (h := ?_) | refine WL.y (hy := pkT) (h := ?_))
        exact mg (by repeat (first | exact trivial | refine ⟨rfl, ?_⟩ | refine ⟨by rw [hb6]; rfl, ?_⟩)) (by repeat (first | exact SubL.nil | (apply SubL.cons; (repeat (first | exact At.here | apply At.there))) | exact SubL.refl _ | apply SubL.skip))
      refine WL.y (hy := asg) (h := ?_)
      refine nl (h := ?_)
      refine q_seq (h := ?_)
      refine rtn (h := ?_)
      refine q_then_ret (h := ?_)
      refine q_ret (hR := ?_)
      first
        | exact fun w hS => ⟨rfl, hS.sub (by repeat (first | exact SubL.nil | (apply SubL.cons; (repeat (first | exact At.here | apply At.there))) | exact SubL.refl _ | apply SubL.skip))⟩
        | exact fun w hS => ⟨congrArg (fun b => Ending.returned (Value.bool (b && true))) hE, hS.sub (by repeat (first | exact SubL.nil | (apply SubL.cons; (repeat (first | exact At.here | apply At.there))) | exact SubL.refl _ | apply SubL.skip))⟩
        | exact fun w hS => ⟨by rw [q9, q10]; simp [resV], hS.sub (by repeat (first | exact SubL.nil | (apply SubL.cons; (repeat (first | exact At.here | apply At.there))) | exact SubL.refl _ | apply SubL.skip))⟩
    · skip
      have he : waysE f l = 0 := by simpa using h4
      obtain ⟨q1, q2, q3, q4, q5, q6, q7, q8⟩ := orders_law hc (c := k) (by omega) he
      obtain ⟨q9, q10⟩ := q8 p hp
      refine skp (h := ?_)
      refine q_seq (h := ?_)
      refine sq (h := ?_)
      refine sq (h := ?_)
      refine rg (h := ?_)
      refine WL.y (hy := mv) (h := ?_)
      refine WL.y (hy := neq) (h := ?_)
      refine WL.y (hy := mv) (h := ?_)
      apply brOr 3 76 79 (by exact rfl)
      · intro hb7
        refine un (h := ?_)
        refine WL.y (hy := mv) (h := ?_)
        refine un (h := ?_)
        refine WL.y (hy := neq) (h := ?_)
        refine WL.y (hy := (by first | exact pkT | exact pkF)) (h := ?_)
        exact mg (by repeat (first | exact trivial | refine ⟨rfl, ?_⟩ | refine ⟨by rw [hb7]; rfl, ?_⟩)) (by repeat (first | exact SubL.nil | (apply SubL.cons; (repeat (first | exact At.here | apply At.there))) | exact SubL.refl _ | apply SubL.skip))
      · intro hb7
        repeat (first | refine un (h := ?_) | refine sk (h := ?_) | refine WL.y (hy := pkF) (h := ?_) | refine WL.y (hy := pkT) (h := ?_))
        exact mg (by repeat (first | exact trivial | refine ⟨rfl, ?_⟩ | refine ⟨by rw [hb7]; rfl, ?_⟩)) (by repeat (first | exact SubL.nil | (apply SubL.cons; (repeat (first | exact At.here | apply At.there))) | exact SubL.refl _ | apply SubL.skip))
      refine WL.y (hy := mv) (h := ?_)
      apply brOr 3 80 83 (by exact rfl)
      · intro hb8
        refine un (h := ?_)
        refine WL.y (hy := mv) (h := ?_)
        refine un (h := ?_)
        refine WL.y (hy := lss) (h := ?_)
        refine WL.y (hy := (by first | exact pkT | exact pkF)) (h := ?_)
        exact mg (by repeat (first | exact trivial | refine ⟨rfl, ?_⟩ | refine ⟨by rw [hb8]; rfl, ?_⟩)) (by repeat (first | exact SubL.nil | (apply SubL.cons; (repeat (first | exact At.here | apply At.there))) | exact SubL.refl _ | apply SubL.skip))
      · intro hb8
        repeat (first | refine un (h := ?_) | refine sk (h := ?_) | refine WL.y (hy := pkF) (h := ?_) | refine WL.y (hy := pkT) (h := ?_))
        exact mg (by repeat (first | exact trivial | refine ⟨rfl, ?_⟩ | refine ⟨by rw [hb8]; rfl, ?_⟩)) (by repeat (first | exact SubL.nil | (apply SubL.cons; (repeat (first | exact At.here | apply At.there))) | exact SubL.refl _ | apply SubL.skip))
      refine WL.y (hy := mv) (h := ?_)
      apply brOr 4 84 88 (by exact rfl)
      · intro hb9
        refine un (h := ?_)
        refine WL.y (hy := mv) (h := ?_)
        refine un (h := ?_)
        refine WL.y (hy := mv) (h := ?_)
        refine un (h := ?_)
        refine WL.y (hy := lss) (h := ?_)
        refine WL.y (hy := (by first | exact pkT | exact pkF)) (h := ?_)
        exact mg (by repeat (first | exact trivial | refine ⟨rfl, ?_⟩ | refine ⟨by rw [hb9]; rfl, ?_⟩)) (by repeat (first | exact SubL.nil | (apply SubL.cons; (repeat (first | exact At.here | apply At.there))) | exact SubL.refl _ | apply SubL.skip))
      · intro hb9
        repeat (first | refine un (h := ?_) | refine sk (h := ?_) | refine WL.y (hy := pkF) (h := ?_) | refine WL.y (hy := pkT) (h := ?_))
        exact mg (by repeat (first | exact trivial | refine ⟨rfl, ?_⟩ | refine ⟨by rw [hb9]; rfl, ?_⟩)) (by repeat (first | exact SubL.nil | (apply SubL.cons; (repeat (first | exact At.here | apply At.there))) | exact SubL.refl _ | apply SubL.skip))
      refine WL.y (hy := mv) (h := ?_)
      apply brOr 5 89 94 (by exact rfl)
      · intro hb10
        refine un (h := ?_)
        refine WL.y (hy := mv) (h := ?_)
        refine un (h := ?_)
        refine WL.y (hy := mv) (h := ?_)
        refine un (h := ?_)
        refine WL.y (hy := remI) (h := ?_)
        refine un (h := ?_)
        refine WL.y (hy := neq) (h := ?_)
        refine WL.y (hy := (by first | exact pkT | exact pkF)) (h := ?_)
        exact mg (by repeat (first | exact trivial | refine ⟨rfl, ?_⟩ | refine ⟨by rw [hb10]; rfl, ?_⟩)) (by repeat (first | exact SubL.nil | (apply SubL.cons; (repeat (first | exact At.here | apply At.there))) | exact SubL.refl _ | apply SubL.skip))
      · intro hb10
        repeat (first | refine un (h := ?_) | refine sk (h := ?_) | refine WL.y (hy := pkF) (h := ?_) | refine WL.y (hy := pkT) (h := ?_))
        exact mg (by repeat (first | exact trivial | refine ⟨rfl, ?_⟩ | refine ⟨by rw [hb10]; rfl, ?_⟩)) (by repeat (first | exact SubL.nil | (apply SubL.cons; (repeat (first | exact At.here | apply At.there))) | exact SubL.refl _ | apply SubL.skip))
      refine WL.y (hy := mv) (h := ?_)
      apply brOr 4 95 99 (by exact rfl)
      · intro hb11
        refine un (h := ?_)
        refine WL.y (hy := mv) (h := ?_)
        refine un (h := ?_)
        refine WL.y (hy := mv) (h := ?_)
        refine un (h := ?_)
        refine WL.y (hy := lss) (h := ?_)
        refine WL.y (hy := (by first | exact pkT | exact pkF)) (h := ?_)
        exact mg (by repeat (first | exact trivial | refine ⟨rfl, ?_⟩ | refine ⟨by rw [hb11]; rfl, ?_⟩)) (by repeat (first | exact SubL.nil | (apply SubL.cons; (repeat (first | exact At.here | apply At.there))) | exact SubL.refl _ | apply SubL.skip))
      · intro hb11
        repeat (first | refine un (h := ?_) | refine sk (h := ?_) | refine WL.y (hy := pkF) (h := ?_) | refine WL.y (hy := pkT) (h := ?_))
        exact mg (by repeat (first | exact trivial | refine ⟨rfl, ?_⟩ | refine ⟨by rw [hb11]; rfl, ?_⟩)) (by repeat (first | exact SubL.nil | (apply SubL.cons; (repeat (first | exact At.here | apply At.there))) | exact SubL.refl _ | apply SubL.skip))
      refine WL.y (hy := mv) (h := ?_)
      apply brOr 5 100 105 (by exact rfl)
      · intro hb12
        refine un (h := ?_)
        refine WL.y (hy := mv) (h := ?_)
        refine un (h := ?_)
        refine WL.y (hy := mv) (h := ?_)
        refine un (h := ?_)
        refine WL.y (hy := remI) (h := ?_)
        refine un (h := ?_)
        refine WL.y (hy := neq) (h := ?_)
        refine WL.y (hy := (by first | exact pkT | exact pkF)) (h := ?_)
        exact mg (by repeat (first | exact trivial | refine ⟨rfl, ?_⟩ | refine ⟨by rw [hb12]; rfl, ?_⟩)) (by repeat (first | exact SubL.nil | (apply SubL.cons; (repeat (first | exact At.here | apply At.there))) | exact SubL.refl _ | apply SubL.skip))
      · intro hb12
        repeat (first | refine un (h := ?_) | refine sk (h := ?_) | refine WL.y (hy := pkF) (h := ?_) | refine WL.y (hy := pkT) (h := ?_))
        exact mg (by repeat (first | exact trivial | refine ⟨rfl, ?_⟩ | refine ⟨by rw [hb12]; rfl, ?_⟩)) (by repeat (first | exact SubL.nil | (apply SubL.cons; (repeat (first | exact At.here | apply At.there))) | exact SubL.refl _ | apply SubL.skip))
      refine nl (h := ?_)
      refine q_seq (h := ?_)
      refine cd (by exact rfl) (fun h13 => ?_) (fun h13 => ?_)
      · skip
        exfalso
        rw [q1, q2, decide_eq_false (by omega : ¬ waysN f (l.take k) < 1), decide_eq_false (by omega : ¬ waysN f (l.take (k + 1)) < waysN f (l.take k)), decide_eq_false (by omega : ¬ waysN f l < waysN f (l.take (k + 1)))] at h13
        simp [q5, q7] at h13
      · skip
        refine skp (h := ?_)
        refine q_seq (h := ?_)
        refine sq (h := ?_)
        refine rg (h := ?_)
        refine WL.y (hy := mv) (h := ?_)
        refine WL.y (hy := mv) (h := ?_)
        refine WL.y (hy := ix (A := A) (m := n)) (h := ?_)
        refine WL.y (hy := ldEA (A := A) (hk := hpe)) (h := ?_)
        refine al (h := fun b3 => ?_)
        first | refine stA (h := ?_) | refine stEA (h := ?_)
        refine nl (h := ?_)
        refine q_seq (h := ?_)
        refine sq (h := ?_)
        refine rgD0 (by kernel_rfl) (h := ?_)
        refine tk 1 (hy := mv) (h := ?_)
        refine tk 2 (hy := mv) (h := ?_)
        refine tk 3 (hy := slP (A := A) (m := n) (cap := c) (hi' := k) (hc := by omega)) (h := ?_)
        refine tk 5 (hy := (by first | exact ldA | exact ldEA)) (h := ?_)
        refine one 0 (h := ?_)
        refine bs (h := fun b4 => ?_)
        refine nx (h := ?_)
        refine one 4 (h := ?_)
        first | refine ap (h := fun A3 c3 => ?_) | refine ap0 (h := fun A3 c3 => ?_)
        refine nx (h := ?_)
        refine one 6 (h := ?_)
        refine cl0 (hc := fun w hS => C_law1_swapped _ w) (h := ?_)
        refine nx (h := ?_)
        refine one 7 (h := ?_)
        refine bs (h := fun b5 => ?_)
        refine nx (h := ?_)
        refine one 8 (h := ?_)
        first | refine ap (h := fun A4 c4 => ?_) | refine ap0 (h := fun A4 c4 => ?_)
        refine nx (h := ?_)
        refine tk 9 (hy := asg) (h := ?_)
        refine dn (h := ?_)
        refine q_seq (h := ?_)
        refine sq (h := ?_)
        refine rg (h := ?_)
        refine WL.y (hy := (by first | exact ldA | exact ldEA)) (h := ?_)
        refine WL.y (hy := mv) (h := ?_)
        refine cl0 (hc := fun w hS => C_score_Ways f (l.take k ++ [swp p]) _ _ _ w (hS.get (by rw [← encP_app, ← encP_take]; repeat (first | exact Rds.ro | exact Rds.own | apply Rds.there))) (by omega)) (h := ?_)
        rw [waysR_eq]
        refine WL.y (hy := mv) (h := ?_)
        refine WL.y (hy := ex) (h := ?_)
        refine WL.y (hy := ex) (h := ?_)
        refine WL.y (hy := asg) (h := ?_)
        refine WL.y (hy := asg) (h := ?_)
        refine nl (h := ?_)
        refine q_seq (h := ?_)
        refine sq (h := ?_)
        refine rg (h := ?_)
        refine WL.y (hy := mv) (h := ?_)
        refine WL.y (hy := eql) (h := ?_)
        refine WL.y (hy := mv) (h := ?_)
        apply brAnd 4 127 131 (by exact rfl)
        · intro hb14
          refine un (h := ?_)
          refine WL.y (hy := mv) (h := ?_)
          refine un (h := ?_)
          refine WL.y (hy := mv) (h := ?_)
          refine un (h := ?_)
          refine WL.y (hy := eql) (h := ?_)
          refine WL.y (hy := (by first | exact pkT | exact pkF)) (h := ?_)
          exact mg (by repeat (first | exact trivial | refine ⟨rfl, ?_⟩ | refine ⟨by rw [hb14]; rfl, ?_⟩)) (by repeat (first | exact SubL.nil | (apply SubL.cons; (repeat (first | exact At.here | apply At.there))) | exact SubL.refl _ | apply SubL.skip))
        · intro hb14
          repeat (first | refine un (h := ?_) | refine sk (h := ?_) | refine WL.y (hy := pkF) (h := ?_) | refine WL.y (hy := pkT) (h := ?_))
          exact mg (by repeat (first | exact trivial | refine ⟨rfl, ?_⟩ | refine ⟨by rw [hb14]; rfl, ?_⟩)) (by repeat (first | exact SubL.nil | (apply SubL.cons; (repeat (first | exact At.here | apply At.there))) | exact SubL.refl _ | apply SubL.skip))
        refine WL.y (hy := mv) (h := ?_)
        apply brAnd 2 132 134 (by exact rfl)
        · intro hb15
          refine un (h := ?_)
          refine cl0 (hc := fun w hS => C_law1_works w) (h := ?_)
          refine WL.y (hy := (by first | exact pkT | exact pkF)) (h := ?_)
          exact mg (by repeat (first | exact trivial | refine ⟨rfl, ?_⟩ | refine ⟨by rw [hb15]; rfl, ?_⟩)) (by repeat (first | exact SubL.nil | (apply SubL.cons; (repeat (first | exact At.here | apply At.there))) | exact SubL.refl _ | apply SubL.skip))
        · intro hb15
          repeat (first | refine un (h := ?_) | refine sk (h := ?_) | refine WL.y (hy := pkF) (h := ?_) | refine WL.y (hy := pkT) (h := ?_))
          exact mg (by repeat (first | exact trivial | refine ⟨rfl, ?_⟩ | refine ⟨by rw [hb15]; rfl, ?_⟩)) (by repeat (first | exact SubL.nil | (apply SubL.cons; (repeat (first | exact At.here | apply At.there))) | exact SubL.refl _ | apply SubL.skip))
        refine WL.y (hy := asg) (h := ?_)
        refine nl (h := ?_)
        refine q_seq (h := ?_)
        refine rtn (h := ?_)
        refine q_ret (hR := ?_)
        first
          | exact fun w hS => ⟨rfl, hS.sub (by repeat (first | exact SubL.nil | (apply SubL.cons; (repeat (first | exact At.here | apply At.there))) | exact SubL.refl _ | apply SubL.skip))⟩
          | exact fun w hS => ⟨congrArg (fun b => Ending.returned (Value.bool (b && true))) hE, hS.sub (by repeat (first | exact SubL.nil | (apply SubL.cons; (repeat (first | exact At.here | apply At.there))) | exact SubL.refl _ | apply SubL.skip))⟩
          | exact fun w hS => ⟨by rw [q9, q10]; simp [resV], hS.sub (by repeat (first | exact SubL.nil | (apply SubL.cons; (repeat (first | exact At.here | apply At.there))) | exact SubL.refl _ | apply SubL.skip))⟩
end Go.Proofs.Ytebhkghgifiahaa
