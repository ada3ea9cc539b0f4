/- The texts of the walk, part 5. -/
import Derived.Test.YtncoimjgjpcipaaJ4
namespace Go.Proofs.Ytncoimjgjpcipaa
open Go Go.RowKit

theorem C_ref3_within (n lo hi : Int) (w : World) : C0 Try.prog 43 [.int .i64 n, .int .i64 lo, .int .i64 hi] w (.bool (wi n lo hi)) := by
  refine ⟨en Try.func43 Try.ntmps43 (St.init w) (h := fun F => ?_)⟩
  refine sq (h := ?_)
  refine rg (h := ?_)
  refine WL.y (hy := asg) (h := ?_)
  refine nl (h := ?_)
  refine q_seq (h := ?_)
  refine sq (h := ?_)
  refine rg (h := ?_)
  refine WL.y (hy := mv) (h := ?_)
  refine WL.y (hy := mv) (h := ?_)
  refine WL.y (hy := geq) (h := ?_)
  refine WL.y (hy := mv) (h := ?_)
  apply brAnd 4 10 14 (by exact rfl)
  · intro hb0
    refine un (h := ?_)
    refine WL.y (hy := mv) (h := ?_)
    refine un (h := ?_)
    refine WL.y (hy := mv) (h := ?_)
    refine un (h := ?_)
    refine WL.y (hy := leq) (h := ?_)
    refine WL.y (hy := (by first | exact pkT | exact pkF)) (h := ?_)
    exact mg (by repeat (first | exact trivial | refine ⟨rfl, ?_⟩ | refine ⟨by rw [hb0]; rfl, ?_⟩)) (by repeat (first | exact SubL.nil | (apply SubL.cons; (repeat (first | exact At.here | apply At.there))) | exact SubL.refl _ | apply SubL.skip))
  · intro hb0
    repeat (first | refine un (h := ?_) | refine sk (h := ?_) | refine WL.y (hy := pkF) (h := ?_) | refine WL.y (hy := pkT) (h := ?_))
    exact mg (by repeat (first | exact trivial | refine ⟨rfl, ?_⟩ | refine ⟨by rw [hb0]; rfl, ?_⟩)) (by repeat (first | exact SubL.nil | (apply SubL.cons; (repeat (first | exact At.here | apply At.there))) | exact SubL.refl _ | apply SubL.skip))
  refine WL.y (hy := asg) (h := ?_)
  refine nl (h := ?_)
  refine q_seq (h := ?_)
  refine rtn (h := ?_)
  refine q_ret (hR := ?_)
  exact fun w hS => ⟨rfl, hS.sub (by repeat (first | exact SubL.nil | (apply SubL.cons; (repeat (first | exact At.here | apply At.there))) | exact SubL.refl _ | apply SubL.skip))⟩
theorem mk_two {x : Nt} (h : x.kind = 2) : mkV x = (decide (x.side = 0) && wi x.pair.2 0 30 && wi x.pair.1 0 x.pair.2) := by
  rw [mkV, decide_eq_false (show ¬ x.kind = 1 by omega), decide_eq_true h, cond_false, cond_true, prV]
  rw [Bool.eq_iff_iff]
  simp only [Bool.and_eq_true, wi_iff, decide_eq_true_eq]
  omega
set_option maxRecDepth 100000 in
theorem C_ref3_IsMark (x : Nt) (w : World) : C0 Try.prog 16 [x.val] w (.bool (mkV x)) := by
  have zP : decide ([x.pair.1, x.pair.2] = [(0 : Int), 0]) = decide (x.pair = (0, 0)) := by rw [pair_eq2]; exact dec_pr x.pair (0, 0)
  refine ⟨en Try.func16 Try.ntmps16 (St.init w) (h := fun F => ?_)⟩
  refine sq (h := ?_)
  refine rg (h := ?_)
  refine bxA (h := fun b0 => ?_)
  refine WL.y (hy := asg) (h := ?_)
  refine nl (h := ?_)
  refine q_seq (h := ?_)
  refine sq (h := ?_)
  refine rg (h := ?_)
  refine WL.y (hy := (by first | exact fa | exact faE)) (h := ?_)
  refine WL.y (hy := (by first | exact fa | exact faE)) (h := ?_)
  refine WL.y (hy := (by first | exact ld | exact ldE)) (h := ?_)
  refine cl0 (hc := fun w hS => C_ref3_within ..) (h := ?_)
  refine WL.y (hy := mv) (h := ?_)
  apply brAnd 5 9 14 (by exact rfl)
  · intro hb0
    refine un (h := ?_)
    refine WL.y (hy := (by first | exact fa | exact faE)) (h := ?_)
    refine un (h := ?_)
    refine WL.y (hy := (by first | exact fa | exact faE)) (h := ?_)
    refine un (h := ?_)
    refine WL.y (hy := (by first | exact ld | exact ldE)) (h := ?_)
    refine un (h := ?_)
    refine cl0 (hc := fun w hS => C_ref3_within ..) (h := ?_)
    refine WL.y (hy := (by first | exact pkT | exact pkF)) (h := ?_)
    exact mg (by repeat (first | exact trivial | refine ⟨rfl, ?_⟩ | refine ⟨by rw [hb0]; rfl, ?_⟩)) (by repeat (first | exact SubL.nil | (apply SubL.cons; (repeat (first | exact At.here | apply At.there))) | exact SubL.refl _ | apply SubL.skip))
  · intro hb0
    repeat (first | refine un (h := ?_) | refine sk (h := ?_) | refine WL.y (hy := pkF) (h := ?_) | refine WL.y (hy := pkT) (h := ?_))
    exact mg (by repeat (first | exact trivial | refine ⟨rfl, ?_⟩ | refine ⟨by rw [hb0]; rfl, ?_⟩)) (by repeat (first | exact SubL.nil | (apply SubL.cons; (repeat (first | exact At.here | apply At.there))) | exact SubL.refl _ | apply SubL.skip))
  refine WL.y (hy := asg) (h := ?_)
  refine nl (h := ?_)
  refine q_seq (h := ?_)
  refine sq (h := ?_)
  refine rg (h := ?_)
  refine WL.y (hy := (by first | exact fa | exact faE)) (h := ?_)
  refine WL.y (hy := (by first | exact ldA | exact ldEA)) (h := ?_)
  refine WL.y (hy := bd) (h := ?_)
  refine WL.y (hy := eqlT) (h := ?_)
  rw [zP]
  refine WL.y (hy := asg) (h := ?_)
  refine nl (h := ?_)
  refine q_seq (h := ?_)
  refine sq (h := ?_)
  refine sq (h := ?_)
  refine rg (h := ?_)
  refine WL.y (hy := (by first | exact fa | exact faE)) (h := ?_)
  refine WL.y (hy := (by first | exact ld | exact ldE)) (h := ?_)
  refine nl (h := ?_)
  refine q_seq (h := ?_)
  refine bk (h := ?_)
  refine sq (h := ?_)
  refine rg (h := ?_)
  refine WL.y (hy := eql) (h := ?_)
  refine WL.y (hy := asg) (h := ?_)
  refine nl (h := ?_)
  refine q_seq (h := ?_)
  refine cd (by exact rfl) (fun h1 => ?_) (fun h1 => ?_)
  · skip
    refine sq (h := ?_)
    refine rg (h := ?_)
    refine WL.y (hy := mv) (h := ?_)
    refine WL.y (hy := mv) (h := ?_)
    apply brAnd 4 24 28 (by exact rfl)
    · intro hb2
      refine un (h := ?_)
      refine WL.y (hy := (by first | exact fa | exact faE)) (h := ?_)
      refine un (h := ?_)
      refine WL.y (hy := (by first | exact ld | exact ldE)) (h := ?_)
      refine un (h := ?_)
      refine cl0 (hc := fun w hS => C_ref3_within ..) (h := ?_)
      refine WL.y (hy := (by first | exact pkT | exact pkF)) (h := ?_)
      exact mg (by repeat (first | exact trivial | refine ⟨rfl, ?_⟩ | refine ⟨by rw [hb2]; rfl, ?_⟩)) (by repeat (first | exact SubL.nil | (apply SubL.cons; (repeat (first | exact At.here | apply At.there))) | exact SubL.refl _ | apply SubL.skip))
    · intro hb2
      repeat (first | refine un (h := ?_) | refine sk (h := ?_) | refine WL.y (hy := pkF) (h := ?_) | refine WL.y (hy := pkT) (h := ?_))
      exact mg (by repeat (first | exact trivial | refine ⟨rfl, ?_⟩ | refine ⟨by rw [hb2]; rfl, ?_⟩)) (by repeat (first | exact SubL.nil | (apply SubL.cons; (repeat (first | exact At.here | apply At.there))) | exact SubL.refl _ | apply SubL.skip))
    refine WL.y (hy := asg) (h := ?_)
    refine nl (h := ?_)
    refine q_seq (h := ?_)
    refine rtn (h := ?_)
    refine q_blk_ret (h := ?_)
    refine q_then_ret (h := ?_)
    refine q_ret (hR := ?_)
    refine fun w hS => ⟨?_, hS.sub (by repeat (first | exact SubL.nil | (apply SubL.cons; (repeat (first | exact At.here | apply At.there))) | exact SubL.refl _ | apply SubL.skip))⟩
    clear hS
    first
      | (rw [hm]; rfl)
      | (simp_all [mkV, sdV, prV, resV, Bool.and_assoc, Bool.and_comm])
  · skip
    refine sq (h := ?_)
    refine rg (h := ?_)
    refine WL.y (hy := eql) (h := ?_)
    refine WL.y (hy := asg) (h := ?_)
    refine nl (h := ?_)
    refine q_seq (h := ?_)
    refine cd (by exact rfl) (fun h3 => ?_) (fun h3 => ?_)
    · skip
      have hm := mk_two (of_decide_eq_true h3)
      refine sq (h := ?_)
      refine rg (h := ?_)
      refine WL.y (hy := (by first | exact fa | exact faE)) (h := ?_)
      refine WL.y (hy := (by first | exact ld | exact ldE)) (h := ?_)
      refine WL.y (hy := eql) (h := ?_)
      refine WL.y (hy := mv) (h := ?_)
      apply brAnd 5 34 39 (by exact rfl)
      · intro hb4
        refine un (h := ?_)
        refine WL.y (hy := (by first | exact fa | exact faE)) (h := ?_)
        refine un (h := ?_)
        refine WL.y (hy := (by first | exact fa | exact faE)) (h := ?_)
        refine un (h := ?_)
        refine WL.y (hy := (by first | exact ld | exact ldE)) (h := ?_)
        refine un (h := ?_)
        refine cl0 (hc := fun w hS => C_ref3_within ..) (h := ?_)
        refine WL.y (hy := (by first | exact pkT | exact pkF)) (h := ?_)
        exact mg (by repeat (first | exact trivial | refine ⟨rfl, ?_⟩ | refine ⟨by rw [hb4]; rfl, ?_⟩)) (by repeat (first | exact SubL.nil | (apply SubL.cons; (repeat (first | exact At.here | apply At.there))) | exact SubL.refl _ | apply SubL.skip))
      · intro hb4
        repeat (first | refine un (h := ?_) | refine sk (h := ?_) | refine WL.y (hy := pkF) (h := ?_) | refine WL.y (hy := pkT) (h := ?_))
        exact mg (by repeat (first | exact trivial | refine ⟨rfl, ?_⟩ | refine ⟨by rw [hb4]; rfl, ?_⟩)) (by repeat (first | exact SubL.nil | (apply SubL.cons; (repeat (first | exact At.here | apply At.there))) | exact SubL.refl _ | apply SubL.skip))
      refine WL.y (hy := mv) (h := ?_)
      apply brAnd 8 40 48 (by exact rfl)
      · intro hb5
        refine un (h := ?_)
        refine WL.y (hy := (by first | exact fa | exact faE)) (h := ?_)
        refine un (h := ?_)
        refine WL.y (hy := (by first | exact fa | exact faE)) (h := ?_)
        refine un (h := ?_)
        refine WL.y (hy := (by first | exact ld | exact ldE)) (h := ?_)
        refine un (h := ?_)
        refine WL.y (hy := (by first | exact fa | exact faE)) (h := ?_)
        refine un (h := ?_)
        refine WL.y (hy := (by first | exact fa | exact faE)) (h := ?_)
        refine un (h := ?_)
        refine WL.y (hy := (by first | exact ld | exact ldE)) (h := ?_)
        refine un (h := ?_)
        refine cl0 (hc := fun w hS => C_ref3_within ..) (h := ?_)
        refine WL.y (hy := (by first | exact pkT | exact pkF)) (h := ?_)
        exact mg (by repeat (first | exact trivial | refine ⟨rfl, ?_⟩ | refine ⟨by rw [hb5]; rfl, ?_⟩)) (by repeat (first | exact SubL.nil | (apply SubL.cons; (repeat (first | exact At.here | apply At.there))) | exact SubL.refl _ | apply SubL.skip))
      · intro hb5
        repeat (first | refine un (h := ?_) | refine sk (h := ?_) | refine WL.y (hy := pkF) (h := ?_) | refine WL.y (hy := pkT) (h := ?_))
        exact mg (by repeat (first | exact trivial | refine ⟨rfl, ?_⟩ | refine ⟨by rw [hb5]; rfl, ?_⟩)) (by repeat (first | exact SubL.nil | (apply SubL.cons; (repeat (first | exact At.here | apply At.there))) | exact SubL.refl _ | apply SubL.skip))
      refine WL.y (hy := asg) (h := ?_)
      refine nl (h := ?_)
      refine q_seq (h := ?_)
      refine rtn (h := ?_)
      refine q_blk_ret (h := ?_)
      refine q_then_ret (h := ?_)
      refine q_ret (hR := ?_)
      refine fun w hS => ⟨?_, hS.sub (by repeat (first | exact SubL.nil | (apply SubL.cons; (repeat (first | exact At.here | apply At.there))) | exact SubL.refl _ | apply SubL.skip))⟩
      clear hS
      first
        | (rw [hm]; rfl)
        | (simp_all [mkV, sdV, prV, resV, Bool.and_assoc, Bool.and_comm])
    · skip
      refine sq (h := ?_)
      refine sq (h := ?_)
      refine rg (h := ?_)
      refine WL.y (hy := eql) (h := ?_)
      refine WL.y (hy := asg) (h := ?_)
      refine WL.cut (by repeat (first | exact Cut.nil | apply Cut.hit | apply Cut.miss (by exact rfl))) ?_
      refine nl (h := ?_)
      refine q_seq (h := ?_)
      refine cd (by exact rfl) (fun h6 => ?_) (fun h6 => ?_)
      · skip
        refine skp (h := ?_)
        refine q_seq (h := ?_)
        refine cd (by exact rfl) (fun h7 => ?_) (fun h7 => ?_)
        · skip
          refine sq (h := ?_)
          refine rg (h := ?_)
          refine WL.y (hy := (by first | exact fa | exact faE)) (h := ?_)
          refine WL.y (hy := (by first | exact ld | exact ldE)) (h := ?_)
          refine WL.y (hy := eql) (h := ?_)
          refine WL.y (hy := mv) (h := ?_)
          apply brAnd 2 56 58 (by exact rfl)
          · intro hb8
            refine un (h := ?_)
            refine WL.y (hy := mv) (h := ?_)
            refine WL.y (hy := (by first | exact pkT | exact pkF)) (h := ?_)
            exact mg (by repeat (first | exact trivial | refine ⟨rfl, ?_⟩ | refine ⟨by rw [hb8]; rfl, ?_⟩)) (by repeat (first | exact SubL.nil | (apply SubL.cons; (repeat (first | exact At.here | apply At.there))) | exact SubL.refl _ | apply SubL.skip))
          · intro hb8
            repeat (first | refine un (h := ?_) | refine sk (h := ?_) | refine WL.y (hy := pkF) (h := ?_) | refine WL.y (hy := pkT) (h := ?_))
            exact mg (by repeat (first | exact trivial | refine ⟨rfl, ?_⟩ | refine ⟨by rw [hb8]; rfl, ?_⟩)) (by repeat (first | exact SubL.nil | (apply SubL.cons; (repeat (first | exact At.here | apply At.there))) | exact SubL.refl _ | apply SubL.skip))
          refine WL.y (hy := asg) (h := ?_)
          refine nl (h := ?_)
          refine q_seq (h := ?_)
          refine rtn (h := ?_)
          refine q_blk_ret (h := ?_)
          refine q_then_ret (h := ?_)
          refine q_ret (hR := ?_)
          refine fun w hS => ⟨?_, hS.sub (by repeat (first | exact SubL.nil | (apply SubL.cons; (repeat (first | exact At.here | apply At.there))) | exact SubL.refl _ | apply SubL.skip))⟩
          clear hS
          first
            | (rw [hm]; rfl)
            | (simp_all [mkV, sdV, prV, resV, Bool.and_assoc, Bool.and_comm])
        · skip
          refine sq (h := ?_)
          refine sq (h := ?_)
          refine rg (h := ?_)
          refine WL.y (hy := eql) (h := ?_)
          refine WL.y (hy := asg) (h := ?_)
          refine WL.cut (by repeat (first | exact Cut.nil | apply Cut.hit | apply Cut.miss (by exact rfl))) ?_
          refine nl (h := ?_)
          refine q_seq (h := ?_)
          refine cd (by exact rfl) (fun h9 => ?_) (fun h9 => ?_)
          · skip
            refine skp (h := ?_)
            refine q_seq (h := ?_)
            refine cd (by exact rfl) (fun h10 => ?_) (fun h10 => ?_)
            · skip
              refine sq (h := ?_)
              refine rg (h := ?_)
              refine WL.y (hy := mv) (h := ?_)
              refine WL.y (hy := mv) (h := ?_)
              apply brAnd 4 63 67 (by exact rfl)
              · intro hb11
                refine un (h := ?_)
                refine WL.y (hy := (by first | exact fa | exact faE)) (h := ?_)
                refine un (h := ?_)
                refine WL.y (hy := (by first | exact ld | exact ldE)) (h := ?_)
                refine un (h := ?_)
                refine cl0 (hc := fun w hS => C_ref3_within ..) (h := ?_)
                refine WL.y (hy := (by first | exact pkT | exact pkF)) (h := ?_)
                exact mg (by repeat (first | exact trivial | refine ⟨rfl, ?_⟩ | refine ⟨by rw [hb11]; rfl, ?_⟩)) (by repeat (first | exact SubL.nil | (apply SubL.cons; (repeat (first | exact At.here | apply At.there))) | exact SubL.refl _ | apply SubL.skip))
              · intro hb11
                repeat (first | refine un (h := ?_) | refine sk (h := ?_) | refine WL.y (hy := pkF) (h := ?_) | refine WL.y (hy := pkT) (h := ?_))
                exact mg (by repeat (first | exact trivial | refine ⟨rfl, ?_⟩ | refine ⟨by rw [hb11]; rfl, ?_⟩)) (by repeat (first | exact SubL.nil | (apply SubL.cons; (repeat (first | exact At.here | apply At.there))) | exact SubL.refl _ | apply SubL.skip))
              refine WL.y (hy := asg) (h := ?_)
              refine nl (h := ?_)
              refine q_seq (h := ?_)
              refine rtn (h := ?_)
              refine q_blk_ret (h := ?_)
              refine q_then_ret (h := ?_)
              refine q_ret (hR := ?_)
              refine fun w hS => ⟨?_, hS.sub (by repeat (first | exact SubL.nil | (apply SubL.cons; (repeat (first | exact At.here | apply At.there))) | exact SubL.refl _ | apply SubL.skip))⟩
              clear hS
              first
                | (rw [hm]; rfl)
                | (simp_all [mkV, sdV, prV, resV, Bool.and_assoc, Bool.and_comm])
            · skip
              refine skp (h := ?_)
              refine q_blk_norm (h := ?_)
              refine q_seq (h := ?_)
              refine sq (h := ?_)
              refine rg (h := ?_)
              refine WL.y (hy := asg) (h := ?_)
              refine nl (h := ?_)
              refine q_seq (h := ?_)
              refine rtn (h := ?_)
              refine q_ret (hR := ?_)
              refine fun w hS => ⟨?_, hS.sub (by repeat (first | exact SubL.nil | (apply SubL.cons; (repeat (first | exact At.here | apply At.there))) | exact SubL.refl _ | apply SubL.skip))⟩
              clear hS
              first
                | (rw [hm]; rfl)
                | (simp_all [mkV, sdV, prV, resV, Bool.and_assoc, Bool.and_comm])
          · skip
            refine rg (h := ?_)
            refine WL.y (hy := eql) (h := ?_)
            refine WL.y (hy := asg) (h := ?_)
            refine WL.cut (by repeat (first | exact Cut.nil | apply Cut.hit | apply Cut.miss (by exact rfl))) ?_
            refine nl (h := ?_)
            refine q_seq (h := ?_)
            refine cd (by exact rfl) (fun h12 => ?_) (fun h12 => ?_)
            · skip
              refine sq (h := ?_)
              refine rg (h := ?_)
              refine WL.y (hy := mv) (h := ?_)
              refine WL.y (hy := mv) (h := ?_)
              apply brAnd 4 63 67 (by exact rfl)
              · intro hb13
                refine un (h := ?_)
                refine WL.y (hy := (by first | exact fa | exact faE)) (h := ?_)
                refine un (h := ?_)
                refine WL.y (hy := (by first | exact ld | exact ldE)) (h := ?_)
                refine un (h := ?_)
                refine cl0 (hc := fun w hS => C_ref3_within ..) (h := ?_)
                refine WL.y (hy := (by first | exact pkT | exact pkF)) (h := ?_)
                exact mg (by repeat (first | exact trivial | refine ⟨rfl, ?_⟩ | refine ⟨by rw [hb13]; rfl, ?_⟩)) (by repeat (first | exact SubL.nil | (apply SubL.cons; (repeat (first | exact At.here | apply At.there))) | exact SubL.refl _ | apply SubL.skip))
              · intro hb13
                repeat (first | refine un (h := ?_) | refine sk (h := ?_) | refine WL.y (hy := pkF) (h := ?_) | refine WL.y (hy := pkT) (h := ?_))
                exact mg (by repeat (first | exact trivial | refine ⟨rfl, ?_⟩ | refine ⟨by rw [hb13]; rfl, ?_⟩)) (by repeat (first | exact SubL.nil | (apply SubL.cons; (repeat (first | exact At.here | apply At.there))) | exact SubL.refl _ | apply SubL.skip))
              refine WL.y (hy := asg) (h := ?_)
              refine nl (h := ?_)
              refine q_seq (h := ?_)
              refine rtn (h := ?_)
              refine q_blk_ret (h := ?_)
              refine q_then_ret (h := ?_)
              refine q_ret (hR := ?_)
              refine fun w hS => ⟨?_, hS.sub (by repeat (first | exact SubL.nil | (apply SubL.cons; (repeat (first | exact At.here | apply At.there))) | exact SubL.refl _ | apply SubL.skip))⟩
              clear hS
              first
                | (rw [hm]; rfl)
                | (simp_all [mkV, sdV, prV, resV, Bool.and_assoc, Bool.and_comm])
            · skip
              refine skp (h := ?_)
              refine q_blk_norm (h := ?_)
              refine q_seq (h := ?_)
              refine sq (h := ?_)
              refine rg (h := ?_)
              refine WL.y (hy := asg) (h := ?_)
              refine nl (h := ?_)
              refine q_seq (h := ?_)
              refine rtn (h := ?_)
              refine q_ret (hR := ?_)
              refine fun w hS => ⟨?_, hS.sub (by repeat (first | exact SubL.nil | (apply SubL.cons; (repeat (first | exact At.here | apply At.there))) | exact SubL.refl _ | apply SubL.skip))⟩
              clear hS
              first
                | (rw [hm]; rfl)
                | (simp_all [mkV, sdV, prV, resV, Bool.and_assoc, Bool.and_comm])
      · skip
        refine sq (h := ?_)
        refine rg (h := ?_)
        refine WL.y (hy := eql) (h := ?_)
        refine WL.y (hy := asg) (h := ?_)
        refine WL.cut (by repeat (first | exact Cut.nil | apply Cut.hit | apply Cut.miss (by exact rfl))) ?_
        refine nl (h := ?_)
        refine q_seq (h := ?_)
        refine cd (by exact rfl) (fun h14 => ?_) (fun h14 => ?_)
        · skip
          refine skp (h := ?_)
          refine q_seq (h := ?_)
          refine cd (by exact rfl) (fun h15 => ?_) (fun h15 => ?_)
          · skip
            refine sq (h := ?_)
            refine rg (h := ?_)
            refine WL.y (hy := (by first | exact fa | exact faE)) (h := ?_)
            refine WL.y (hy := (by first | exact ld | exact ldE)) (h := ?_)
            refine WL.y (hy := eql) (h := ?_)
            refine WL.y (hy := mv) (h := ?_)
            apply brAnd 2 56 58 (by exact rfl)
            · intro hb16
              refine un (h := ?_)
              refine WL.y (hy := mv) (h := ?_)
              refine WL.y (hy := (by first | exact pkT | exact pkF)) (h := ?_)
              exact mg (by repeat (first | exact trivial | refine ⟨rfl, ?_⟩ | refine ⟨by rw [hb16]; rfl, ?_⟩)) (by repeat (first | exact SubL.nil | (apply SubL.cons; (repeat (first | exact At.here | apply At.there))) | exact SubL.refl _ | apply SubL.skip))
            · intro hb16
              repeat (first | refine un (h := ?_) | refine sk (h := ?_) | refine WL.y (hy := pkF) (h := ?_) | refine WL.y (hy := pkT) (h := ?_))
              exact mg (by repeat (first | exact trivial | refine ⟨rfl, ?_⟩ | refine ⟨by rw [hb16]; rfl, ?_⟩)) (by repeat (first | exact SubL.nil | (apply SubL.cons; (repeat (first | exact At.here | apply At.there))) | exact SubL.refl _ | apply SubL.skip))
            refine WL.y (hy := asg) (h := ?_)
            refine nl (h := ?_)
            refine q_seq (h := ?_)
            refine rtn (h := ?_)
            refine q_blk_ret (h := ?_)
            refine q_then_ret (h := ?_)
            refine q_ret (hR := ?_)
            refine fun w hS => ⟨?_, hS.sub (by repeat (first | exact SubL.nil | (apply SubL.cons; (repeat (first | exact At.here | apply At.there))) | exact SubL.refl _ | apply SubL.skip))⟩
            clear hS
            first
              | (rw [hm]; rfl)
              | (simp_all [mkV, sdV, prV, resV, Bool.and_assoc, Bool.and_comm])
          · skip
            refine sq (h := ?_)
            refine sq (h := ?_)
            refine rg (h := ?_)
            refine WL.y (hy := eql) (h := ?_)
            refine WL.y (hy := asg) (h := ?_)
            refine WL.cut (by repeat (first | exact Cut.nil | apply Cut.hit | apply Cut.miss (by exact rfl))) ?_
            refine nl (h := ?_)
            refine q_seq (h := ?_)
            refine cd (by exact rfl) (fun h17 => ?_) (fun h17 => ?_)
            · skip
              refine skp (h := ?_)
              refine q_seq (h := ?_)
              refine cd (by exact rfl) (fun h18 => ?_) (fun h18 => ?_)
              · skip
                refine sq (h := ?_)
                refine rg (h := ?_)
                refine WL.y (hy := mv) (h := ?_)
                refine WL.y (hy := mv) (h := ?_)
                apply brAnd 4 63 67 (by exact rfl)
                · intro hb19
                  refine un (h := ?_)
                  refine WL.y (hy := (by first | exact fa | exact faE)) (h := ?_)
                  refine un (h := ?_)
                  refine WL.y (hy := (by first | exact ld | exact ldE)) (h := ?_)
                  refine un (h := ?_)
                  refine cl0 (hc := fun w hS => C_ref3_within ..) (h := ?_)
                  refine WL.y (hy := (by first | exact pkT | exact pkF)) (h := ?_)
                  exact mg (by repeat (first | exact trivial | refine ⟨rfl, ?_⟩ | refine ⟨by rw [hb19]; rfl, ?_⟩)) (by repeat (first | exact SubL.nil | (apply SubL.cons; (repeat (first | exact At.here | apply At.there))) | exact SubL.refl _ | apply SubL.skip))
                · intro hb19
                  repeat (first | refine un (h := ?_) | refine sk (h := ?_) | refine WL.y (hy := pkF) (h := ?_) | refine WL.y (hy := pkT) (h := ?_))
                  exact mg (by repeat (first | exact trivial | refine ⟨rfl, ?_⟩ | refine ⟨by rw [hb19]; rfl, ?_⟩)) (by repeat (first | exact SubL.nil | (apply SubL.cons; (repeat (first | exact At.here | apply At.there))) | exact SubL.refl _ | apply SubL.skip))
                refine WL.y (hy := asg) (h := ?_)
                refine nl (h := ?_)
                refine q_seq (h := ?_)
                refine rtn (h := ?_)
                refine q_blk_ret (h := ?_)
                refine q_then_ret (h := ?_)
                refine q_ret (hR := ?_)
                refine fun w hS => ⟨?_, hS.sub (by repeat (first | exact SubL.nil | (apply SubL.cons; (repeat (first | exact At.here | apply At.there))) | exact SubL.refl _ | apply SubL.skip))⟩
                clear hS
                first
                  | (rw [hm]; rfl)
                  | (simp_all [mkV, sdV, prV, resV, Bool.and_assoc, Bool.and_comm])
              · skip
                refine skp (h := ?_)
                refine q_blk_norm (h := ?_)
                refine q_seq (h := ?_)
                refine sq (h := ?_)
                refine rg (h := ?_)
                refine WL.y (hy := asg) (h := ?_)
                refine nl (h := ?_)
                refine q_seq (h := ?_)
                refine rtn (h := ?_)
                refine q_ret (hR := ?_)
                refine fun w hS => ⟨?_, hS.sub (by repeat (first | exact SubL.nil | (apply SubL.cons; (repeat (first | exact At.here | apply At.there))) | exact SubL.refl _ | apply SubL.skip))⟩
                clear hS
                first
                  | (rw [hm]; rfl)
                  | (simp_all [mkV, sdV, prV, resV, Bool.and_assoc, Bool.and_comm])
            · skip
              refine rg (h := ?_)
              refine WL.y (hy := eql) (h := ?_)
              refine WL.y (hy := asg) (h := ?_)
              refine WL.cut (by repeat (first | exact Cut.nil | apply Cut.hit | apply Cut.miss (by exact rfl))) ?_
              refine nl (h := ?_)
              refine q_seq (h := ?_)
              refine cd (by exact rfl) (fun h20 => ?_) (fun h20 => ?_)
              · skip
                refine sq (h := ?_)
                refine rg (h := ?_)
                refine WL.y (hy := mv) (h := ?_)
                refine WL.y (hy := mv) (h := ?_)
                apply brAnd 4 63 67 (by exact rfl)
                · intro hb21
                  refine un (h := ?_)
                  refine WL.y (hy := (by first | exact fa | exact faE)) (h := ?_)
                  refine un (h := ?_)
                  refine WL.y (hy := (by first | exact ld | exact ldE)) (h := ?_)
                  refine un (h := ?_)
                  refine cl0 (hc := fun w hS => C_ref3_within ..) (h := ?_)
                  refine WL.y (hy := (by first | exact pkT | exact pkF)) (h := ?_)
                  exact mg (by repeat (first | exact trivial | refine ⟨rfl, ?_⟩ | refine ⟨by rw [hb21]; rfl, ?_⟩)) (by repeat (first | exact SubL.nil | (apply SubL.cons; (repeat (first | exact At.here | apply At.there))) | exact SubL.refl _ | apply SubL.skip))
                · intro hb21
                  repeat (first | refine un (h := ?_) | refine sk (h := ?_) | refine WL.y (hy := pkF) (h := ?_) | refine WL.y (hy := pkT) (h := ?_))
                  exact mg (by repeat (first | exact trivial | refine ⟨rfl, ?_⟩ | refine ⟨by rw [hb21]; rfl, ?_⟩)) (by repeat (first | exact SubL.nil | (apply SubL.cons; (repeat (first | exact At.here | apply At.there))) | exact SubL.refl _ | apply SubL.skip))
                refine WL.y (hy := asg) (h := ?_)
                refine nl (h := ?_)
                refine q_seq (h := ?_)
                refine rtn (h := ?_)
                refine q_blk_ret (h := ?_)
                refine q_then_ret (h := ?_)
                refine q_ret (hR := ?_)
                refine fun w hS => ⟨?_, hS.sub (by repeat (first | exact SubL.nil | (apply SubL.cons; (repeat (first | exact At.here | apply At.there))) | exact SubL.refl _ | apply SubL.skip))⟩
                clear hS
                first
                  | (rw [hm]; rfl)
                  | (simp_all [mkV, sdV, prV, resV, Bool.and_assoc, Bool.and_comm])
              · skip
                refine skp (h := ?_)
                refine q_blk_norm (h := ?_)
                refine q_seq (h := ?_)
                refine sq (h := ?_)
                refine rg (h := ?_)
                refine WL.y (hy := asg) (h := ?_)
                refine nl (h := ?_)
                refine q_seq (h := ?_)
                refine rtn (h := ?_)
                refine q_ret (hR := ?_)
                refine fun w hS => ⟨?_, hS.sub (by repeat (first | exact SubL.nil | (apply SubL.cons; (repeat (first | exact At.here | apply At.there))) | exact SubL.refl _ | apply SubL.skip))⟩
                clear hS
                first
                  | (rw [hm]; rfl)
                  | (simp_all [mkV, sdV, prV, resV, Bool.and_assoc, Bool.and_comm])
        · skip
          refine rg (h := ?_)
          refine WL.y (hy := eql) (h := ?_)
          refine WL.y (hy := asg) (h := ?_)
          refine WL.cut (by repeat (first | exact Cut.nil | apply Cut.hit | apply Cut.miss (by exact rfl))) ?_
          refine nl (h := ?_)
          refine q_seq (h := ?_)
          refine cd (by exact rfl) (fun h22 => ?_) (fun h22 => ?_)
          · skip
            refine sq (h := ?_)
            refine rg (h := ?_)
            refine WL.y (hy := (by first | exact fa | exact faE)) (h := ?_)
            refine WL.y (hy := (by first | exact ld | exact ldE)) (h := ?_)
            refine WL.y (hy := eql) (h := ?_)
            refine WL.y (hy := mv) (h := ?_)
            apply brAnd 2 56 58 (by exact rfl)
            · intro hb23
              refine un (h := ?_)
              refine WL.y (hy := mv) (h := ?_)
              refine WL.y (hy := (by first | exact pkT | exact pkF)) (h := ?_)
              exact mg (by repeat (first | exact trivial | refine ⟨rfl, ?_⟩ | refine ⟨by rw [hb23]; rfl, ?_⟩)) (by repeat (first | exact SubL.nil | (apply SubL.cons; (repeat (first | exact At.here | apply At.there))) | exact SubL.refl _ | apply SubL.skip))
            · intro hb23
              repeat (first | refine un (h := ?_) | refine sk (h := ?_) | refine WL.y (hy := pkF) (h := ?_) | refine WL.y (hy := pkT) (h := ?_))
              exact mg (by repeat (first | exact trivial | refine ⟨rfl, ?_⟩ | refine ⟨by rw [hb23]; rfl, ?_⟩)) (by repeat (first | exact SubL.nil | (apply SubL.cons; (repeat (first | exact At.here | apply At.there))) | exact SubL.refl _ | apply SubL.skip))
            refine WL.y (hy := asg) (h := ?_)
            refine nl (h := ?_)
            refine q_seq (h := ?_)
            refine rtn (h := ?_)
            refine q_blk_ret (h := ?_)
            refine q_then_ret (h := ?_)
            refine q_ret (hR := ?_)
            refine fun w hS => ⟨?_, hS.sub (by repeat (first | exact SubL.nil | (apply SubL.cons; (repeat (first | exact At.here | apply At.there))) | exact SubL.refl _ | apply SubL.skip))⟩
            clear hS
            first
              | (rw [hm]; rfl)
              | (simp_all [mkV, sdV, prV, resV, Bool.and_assoc, Bool.and_comm])
          · skip
            refine sq (h := ?_)
            refine sq (h := ?_)
            refine rg (h := ?_)
            refine WL.y (hy := eql) (h := ?_)
            refine WL.y (hy := asg) (h := ?_)
            refine WL.cut (by repeat (first | exact Cut.nil | apply Cut.hit | apply Cut.miss (by exact rfl))) ?_
            refine nl (h := ?_)
            refine q_seq (h := ?_)
            refine cd (by exact rfl) (fun h24 => ?_) (fun h24 => ?_)
            · skip
              refine skp (h := ?_)
              refine q_seq (h := ?_)
              refine cd (by exact rfl) (fun h25 => ?_) (fun h25 => ?_)
              · skip
                refine sq (h := ?_)
                refine rg (h := ?_)
                refine WL.y (hy := mv) (h := ?_)
                refine WL.y (hy := mv) (h := ?_)
                apply brAnd 4 63 67 (by exact rfl)
                · intro hb26
                  refine un (h := ?_)
                  refine WL.y (hy := (by first | exact fa | exact faE)) (h := ?_)
                  refine un (h := ?_)
                  refine WL.y (hy := (by first | exact ld | exact ldE)) (h := ?_)
                  refine un (h := ?_)
                  refine cl0 (hc := fun w hS => C_ref3_within ..) (h := ?_)
                  refine WL.y (hy := (by first | exact pkT | exact pkF)) (h := ?_)
                  exact mg (by repeat (first | exact trivial | refine ⟨rfl, ?_⟩ | refine ⟨by rw [hb26]; rfl, ?_⟩)) (by repeat (first | exact SubL.nil | (apply SubL.cons; (repeat (first | exact At.here | apply At.there))) | exact SubL.refl _ | apply SubL.skip))
                · intro hb26
                  repeat (first | refine un (h := ?_) | refine sk (h := ?_) | refine WL.y (hy := pkF) (h := ?_) | refine WL.y (hy := pkT) (h := ?_))
                  exact mg (by repeat (first | exact trivial | refine ⟨rfl, ?_⟩ | refine ⟨by rw [hb26]; rfl, ?_⟩)) (by repeat (first | exact SubL.nil | (apply SubL.cons; (repeat (first | exact At.here | apply At.there))) | exact SubL.refl _ | apply SubL.skip))
                refine WL.y (hy := asg) (h := ?_)
                refine nl (h := ?_)
                refine q_seq (h := ?_)
                refine rtn (h := ?_)
                refine q_blk_ret (h := ?_)
                refine q_then_ret (h := ?_)
                refine q_ret (hR := ?_)
                refine fun w hS => ⟨?_, hS.sub (by repeat (first | exact SubL.nil | (apply SubL.cons; (repeat (first | exact At.here | apply At.there))) | exact SubL.refl _ | apply SubL.skip))⟩
                clear hS
                first
                  | (rw [hm]; rfl)
                  | (simp_all [mkV, sdV, prV, resV, Bool.and_assoc, Bool.and_comm])
              · skip
                refine skp (h := ?_)
                refine q_blk_norm (h := ?_)
                refine q_seq (h := ?_)
                refine sq (h := ?_)
                refine rg (h := ?_)
                refine WL.y (hy := asg) (h := ?_)
                refine nl (h := ?_)
                refine q_seq (h := ?_)
                refine rtn (h := ?_)
                refine q_ret (hR := ?_)
                refine fun w hS => ⟨?_, hS.sub (by repeat (first | exact SubL.nil | (apply SubL.cons; (repeat (first | exact At.here | apply At.there))) | exact SubL.refl _ | apply SubL.skip))⟩
                clear hS
                first
                  | (rw [hm]; rfl)
                  | (simp_all [mkV, sdV, prV, resV, Bool.and_assoc, Bool.and_comm])
            · skip
              refine rg (h := ?_)
              refine WL.y (hy := eql) (h := ?_)
              refine WL.y (hy := asg) (h := ?_)
              refine WL.cut (by repeat (first | exact Cut.nil | apply Cut.hit | apply Cut.miss (by exact rfl))) ?_
              refine nl (h := ?_)
              refine q_seq (h := ?_)
              refine cd (by exact rfl) (fun h27 => ?_) (fun h27 => ?_)
              · skip
                refine sq (h := ?_)
                refine rg (h := ?_)
                refine WL.y (hy := mv) (h := ?_)
                refine WL.y (hy := mv) (h := ?_)
                apply brAnd 4 63 67 (by exact rfl)
                · intro hb28
                  refine un (h := ?_)
                  refine WL.y (hy := (by first | exact fa | exact faE)) (h := ?_)
                  refine un (h := ?_)
                  refine WL.y (hy := (by first | exact ld | exact ldE)) (h := ?_)
                  refine un (h := ?_)
                  refine cl0 (hc := fun w hS => C_ref3_within ..) (h := ?_)
                  refine WL.y (hy := (by first | exact pkT | exact pkF)) (h := ?_)
                  exact mg (by repeat (first | exact trivial | refine ⟨rfl, ?_⟩ | refine ⟨by rw [hb28]; rfl, ?_⟩)) (by repeat (first | exact SubL.nil | (apply SubL.cons; (repeat (first | exact At.here | apply At.there))) | exact SubL.refl _ | apply SubL.skip))
                · intro hb28
                  repeat (first | refine un (h := ?_) | refine sk (h := ?_) | refine WL.y (hy := pkF) (h := ?_) | refine WL.y (hy := pkT) (h := ?_))
                  exact mg (by repeat (first | exact trivial | refine ⟨rfl, ?_⟩ | refine ⟨by rw [hb28]; rfl, ?_⟩)) (by repeat (first | exact SubL.nil | (apply SubL.cons; (repeat (first | exact At.here | apply At.there))) | exact SubL.refl _ | apply SubL.skip))
                refine WL.y (hy := asg) (h := ?_)
                refine nl (h := ?_)
                refine q_seq (h := ?_)
                refine rtn (h := ?_)
                refine q_blk_ret (h := ?_)
                refine q_then_ret (h := ?_)
                refine q_ret (hR := ?_)
                refine fun w hS => ⟨?_, hS.sub (by repeat (first | exact SubL.nil | (apply SubL.cons; (repeat (first | exact At.here | apply At.there))) | exact SubL.refl _ | apply SubL.skip))⟩
                clear hS
                first
                  | (rw [hm]; rfl)
                  | (simp_all [mkV, sdV, prV, resV, Bool.and_assoc, Bool.and_comm])
              · skip
                refine skp (h := ?_)
                refine q_blk_norm (h := ?_)
                refine q_seq (h := ?_)
                refine sq (h := ?_)
                refine rg (h := ?_)
                refine WL.y (hy := asg) (h := ?_)
                refine nl (h := ?_)
                refine q_seq (h := ?_)
                refine rtn (h := ?_)
                refine q_ret (hR := ?_)
                refine fun w hS => ⟨?_, hS.sub (by repeat (first | exact SubL.nil | (apply SubL.cons; (repeat (first | exact At.here | apply At.there))) | exact SubL.refl _ | apply SubL.skip))⟩
                clear hS
                first
                  | (rw [hm]; rfl)
                  | (simp_all [mkV, sdV, prV, resV, Bool.and_assoc, Bool.and_comm])
theorem C_ref3_Most (x : Nt) (w : World) : C0 Try.prog 61 [x.val] w (.int .i64 (mostN x)) := by
  refine ⟨en Try.func61 Try.ntmps61 (St.init w) (h := fun F => ?_)⟩
  refine sq (h := ?_)
  refine rg (h := ?_)
  refine bxA (h := fun b0 => ?_)
  refine WL.y (hy := asg) (h := ?_)
  refine nl (h := ?_)
  refine q_seq (h := ?_)
  refine sq (h := ?_)
  refine sq (h := ?_)
  refine rg (h := ?_)
  refine WL.y (hy := (by first | exact fa | exact faE)) (h := ?_)
  refine WL.y (hy := (by first | exact ld | exact ldE)) (h := ?_)
  refine nl (h := ?_)
  refine q_seq (h := ?_)
  refine bk (h := ?_)
  refine sq (h := ?_)
  refine rg (h := ?_)
  refine WL.y (hy := eql) (h := ?_)
  refine WL.y (hy := asg) (h := ?_)
  refine nl (h := ?_)
  refine q_seq (h := ?_)
  refine cd (by exact rfl) (fun h0 => ?_) (fun h0 => ?_)
  · skip
    have hm : mostN x = 1 := by unfold mostN; rw [if_pos (of_decide_eq_true h0)]
    refine sq (h := ?_)
    refine rg (h := ?_)
    refine WL.y (hy := asg) (h := ?_)
    refine nl (h := ?_)
    refine q_seq (h := ?_)
    refine rtn (h := ?_)
    refine q_blk_ret (h := ?_)
    refine q_then_ret (h := ?_)
    refine q_ret (hR := ?_)
    rw [hm]
    exact fun w hS => ⟨rfl, hS.sub (by repeat (first | exact SubL.nil | (apply SubL.cons; (repeat (first | exact At.here | apply At.there))) | exact SubL.refl _ | apply SubL.skip))⟩
  · skip
    have n1 := of_decide_eq_false h0
    refine sq (h := ?_)
    refine rg (h := ?_)
    refine WL.y (hy := eql) (h := ?_)
    refine WL.y (hy := asg) (h := ?_)
    refine nl (h := ?_)
    refine q_seq (h := ?_)
    refine cd (by exact rfl) (fun h1 => ?_) (fun h1 => ?_)
    · skip
      have hm : mostN x = x.pair.2 := by unfold mostN; rw [if_neg n1, if_pos (of_decide_eq_true h1)]
      refine sq (h := ?_)
      refine rg (h := ?_)
      refine WL.y (hy := (by first | exact fa | exact faE)) (h := ?_)
      refine WL.y (hy := (by first | exact fa | exact faE)) (h := ?_)
      refine WL.y (hy := (by first | exact ld | exact ldE)) (h := ?_)
      refine WL.y (hy := asg) (h := ?_)
      refine nl (h := ?_)
      refine q_seq (h := ?_)
      refine rtn (h := ?_)
      refine q_blk_ret (h := ?_)
      refine q_then_ret (h := ?_)
      refine q_ret (hR := ?_)
      rw [hm]
      exact fun w hS => ⟨rfl, hS.sub (by repeat (first | exact SubL.nil | (apply SubL.cons; (repeat (first | exact At.here | apply At.there))) | exact SubL.refl _ | apply SubL.skip))⟩
    · skip
      have hm : mostN x = 0 := by unfold mostN; rw [if_neg n1, if_neg (of_decide_eq_false h1)]
      refine skp (h := ?_)
      refine q_blk_norm (h := ?_)
      refine q_seq (h := ?_)
      refine sq (h := ?_)
      refine rg (h := ?_)
      refine WL.y (hy := asg) (h := ?_)
      refine nl (h := ?_)
      refine q_seq (h := ?_)
      refine rtn (h := ?_)
      refine q_ret (hR := ?_)
      rw [hm]
      exact fun w hS => ⟨rfl, hS.sub (by repeat (first | exact SubL.nil | (apply SubL.cons; (repeat (first | exact At.here | apply At.there))) | exact SubL.refl _ | apply SubL.skip))⟩
theorem C_ref3_Check (f : Fmt) (first : Int) (xs : List Nt) (A : Option Addr) (n c : Nat) (w : World) (h : Rd w A 4 n (encN xs)) (hn : n ≤ 9223372036854775807) : C0 Try.prog 31 [.agg (cardC f first A n c).toArray] w (.int .i64 (chkC f first xs)) := by
  have hlen : xs.length = n := by have := h.len; rwa [encN_len] at this
  refine ⟨en Try.func31 Try.ntmps31 ((St.init w).share (e := .ro A 4 n (encN xs)) h rfl rfl rfl) (h := fun F => ?_)⟩
  refine sq (h := ?_)
  refine rg (h := ?_)
  refine bxA (h := fun b0 => ?_)
  refine WL.y (hy := asg) (h := ?_)
  refine nl (h := ?_)
  refine q_seq (h := ?_)
  refine sq (h := ?_)
  refine sq (h := ?_)
  refine rg (h := ?_)
  refine WL.y (hy := (by first | exact fa | exact faE)) (h := ?_)
  refine WL.y (hy := (by first | exact ldA | exact ldEA)) (h := ?_)
  refine cl0 (hc := fun w hS => C_ref1_Check f w) (h := ?_)
  refine WL.y (hy := neq) (h := ?_)
  refine WL.y (hy := mv) (h := ?_)
  apply brOr 5 9 14 (by exact rfl)
  · intro hb0
    refine un (h := ?_)
    refine WL.y (hy := (by first | exact fa | exact faE)) (h := ?_)
    refine un (h := ?_)
    refine WL.y (hy := (by first | exact ld | exact ldE)) (h := ?_)
    refine un (h := ?_)
    refine cl0 (hc := fun w hS => C_ref3_within ..) (h := ?_)
    refine un (h := ?_)
    refine WL.y (hy := notB) (h := ?_)
    refine WL.y (hy := (by first | exact pkT | exact pkF)) (h := ?_)
    exact mg (by repeat (first | exact trivial | refine ⟨rfl, ?_⟩ | refine ⟨by rw [hb0]; rfl, ?_⟩)) (by repeat (first | exact SubL.nil | (apply SubL.cons; (repeat (first | exact At.here | apply At.there))) | exact SubL.refl _ | apply SubL.skip))
  · intro hb0
    repeat (first | refine un (h := ?_) | refine sk (h := ?_) | refine WL.y (hy := pkF) (h := ?_) | refine WL.y (hy := pkT) (h := ?_))
    exact mg (by repeat (first | exact trivial | refine ⟨rfl, ?_⟩ | refine ⟨by rw [hb0]; rfl, ?_⟩)) (by repeat (first | exact SubL.nil | (apply SubL.cons; (repeat (first | exact At.here | apply At.there))) | exact SubL.refl _ | apply SubL.skip))
  refine WL.y (hy := mv) (h := ?_)
  apply brOr 5 15 20 (by exact rfl)
  · intro hb1
    refine un (h := ?_)
    refine WL.y (hy := (by first | exact fa | exact faE)) (h := ?_)
    refine un (h := ?_)
    refine WL.y (hy := (by first | exact ld | exact ldE)) (h := ?_)
    refine un (h := ?_)
    refine WL.y (hy := lenS) (h := ?_)
    refine un (h := ?_)
    refine WL.y (hy := gtr) (h := ?_)
    refine WL.y (hy := (by first | exact pkT | exact pkF)) (h := ?_)
    exact mg (by repeat (first | exact trivial | refine ⟨rfl, ?_⟩ | refine ⟨by rw [hb1]; rfl, ?_⟩)) (by repeat (first | exact SubL.nil | (apply SubL.cons; (repeat (first | exact At.here | apply At.there))) | exact SubL.refl _ | apply SubL.skip))
  · intro hb1
    repeat (first | refine un (h := ?_) | refine sk (h := ?_) | refine WL.y (hy := pkF) (h := ?_) | refine WL.y (hy := pkT) (h := ?_))
    exact mg (by repeat (first | exact trivial | refine ⟨rfl, ?_⟩ | refine ⟨by rw [hb1]; rfl, ?_⟩)) (by repeat (first | exact SubL.nil | (apply SubL.cons; (repeat (first | exact At.here | apply At.there))) | exact SubL.refl _ | apply SubL.skip))
  refine nl (h := ?_)
  refine q_seq (h := ?_)
  refine cd (by exact rfl) (fun h2 => ?_) (fun h2 => ?_)
  · skip
    have hE : chkC f first xs = 30 := by
      have h' : headB f first xs.length = true := by rw [hlen]; exact h2
      rw [chkC, h']; rfl
    refine sq (h := ?_)
    refine rg (h := ?_)
    refine WL.y (hy := asg) (h := ?_)
    refine nl (h := ?_)
    refine q_seq (h := ?_)
    refine rtn (h := ?_)
    refine q_then_ret (h := ?_)
    refine q_ret (hR := ?_)
    rw [hE]
    exact fun w hS => ⟨rfl, hS.sub (by repeat (first | exact SubL.nil | (apply SubL.cons; (repeat (first | exact At.here | apply At.there))) | exact SubL.refl _ | apply SubL.skip))⟩
  · skip
    have hH : headB f first xs.length = false := by rw [hlen]; exact h2
    have hn30 : n ≤ 30 := by
      have h' := hH
      unfold headB at h'
      simp only [Bool.or_eq_false_iff, decide_eq_false_iff_not] at h'
      omega
    refine skp (h := ?_)
    refine q_seq (h := ?_)
    refine sq (h := ?_)
    refine rg (h := ?_)
    refine WL.y (hy := asg) (h := ?_)
    refine WL.cut (by repeat (first | exact Cut.nil | apply Cut.hit | apply Cut.miss (by exact rfl))) ?_
    refine nl (h := ?_)
    refine q_seq (h := ?_)
    refine sq (h := ?_)
    refine sq (h := ?_)
    refine rg (h := ?_)
    refine WL.y (hy := asg) (h := ?_)
    refine WL.cut (by repeat (first | exact Cut.nil | apply Cut.hit | apply Cut.miss (by exact rfl))) ?_
    refine nl (h := ?_)
    refine q_seq (h := ?_)
    refine bk (h := ?_)
    refine lp (X := CKZ) (I := fun z => z.k ≤ n ∧ (xs.take z.k).all mkV = true ∧ 0 ≤ mostS (xs.take z.k) ∧ mostS (xs.take z.k) ≤ 30 * (z.k : Int)) (le := fun z => [(1, .pointer (some ⟨b0, 0, none⟩)), (3, .int .i64 (mostS (xs.take z.k))), (4, .int .i64 z.k)]) (Le := fun z => [.blk b0 26 (cardC f first A n c), .ro A 4 n (encN xs)]) (μ := fun z => n - z.k) ⟨0⟩ ⟨Nat.zero_le _, rfl, by exact Int.le_refl _, by exact Int.le_refl _⟩ (by repeat (first | exact trivial | refine ⟨rfl, ?_⟩)) (by repeat (first | exact SubL.nil | (apply SubL.cons; (repeat (first | exact At.here | apply At.there))) | exact SubL.refl _ | apply SubL.skip)) (fun z hz => ?_)
    obtain ⟨hzk, hza, hz0, hzm⟩ := hz
    refine sq (h := ?_)
    refine sq (h := ?_)
    refine rg (h := ?_)
    refine WL.y (hy := mv) (h := ?_)
    refine WL.y (hy := (by first | exact fa | exact faE)) (h := ?_)
    refine WL.y (hy := (by first | exact ld | exact ldE)) (h := ?_)
    refine WL.y (hy := lenS) (h := ?_)
    refine WL.y (hy := lss) (h := ?_)
    refine nl (h := ?_)
    refine q_seq (h := ?_)
    refine cd (by exact rfl) (fun h3 => ?_) (fun h3 => ?_)
    · skip
      have hkn : z.k < n := by simp only [decide_eq_true_eq] at h3; omega
      obtain ⟨x, hx⟩ : ∃ x, xs[z.k]? = some x := ⟨_, List.getElem?_eq_getElem (by omega)⟩
      have hxe := encN_at hx
      have hms := mostS_succ hx
      have hal := all_take hx
      refine skp (h := ?_)
      refine q_seq (h := ?_)
      refine sq (h := ?_)
      refine bk (h := ?_)
      refine sq (h := ?_)
      refine sq (h := ?_)
      refine rg (h := ?_)
      refine WL.y (hy := (by first | exact fa | exact faE)) (h := ?_)
      refine WL.y (hy := (by first | exact ld | exact ldE)) (h := ?_)
      refine WL.y (hy := mv) (h := ?_)
      refine WL.y (hy := ix (hb := by omega)) (h := ?_)
      refine WL.y (hy := ldEA (hk := hxe)) (h := ?_)
      refine cl0 (hc := fun w hS => C_ref3_IsMark _ w) (h := ?_)
      refine WL.y (hy := notB) (h := ?_)
      refine nl (h := ?_)
      refine q_seq (h := ?_)
      refine cd (by exact rfl) (fun h4 => ?_) (fun h4 => ?_)
      · skip
        have hE : chkC f first xs = 30 := by
          have h1 : (!mkV x) = true := h4
          have h2 : xs.all mkV = false := all_bad (k := z.k + 1) (by rw [hal, show mkV x = false by simpa using h1, Bool.and_false])
          rw [chkC, hH, h2]; rfl
        refine sq (h := ?_)
        refine rg (h := ?_)
        refine WL.y (hy := asg) (h := ?_)
        refine nl (h := ?_)
        refine q_seq (h := ?_)
        refine rtn (h := ?_)
        refine q_then_ret (h := ?_)
        refine q_blk_ret (h := ?_)
        refine q_then_ret (h := ?_)
        refine q_then_ret (h := ?_)
        refine q_blk_ret (h := ?_)
        refine q_then_ret (h := ?_)
        refine q_ret (hR := ?_)
        rw [hE]
        exact fun w hS => ⟨rfl, hS.sub (by repeat (first | exact SubL.nil | (apply SubL.cons; (repeat (first | exact At.here | apply At.there))) | exact SubL.refl _ | apply SubL.skip))⟩
      · skip
        have hmk : mkV x = true := by simpa using h4
        have hmb := most_bd hmk
        have hal2 : (xs.take (z.k + 1)).all mkV = true := by rw [hal, hza, hmk]; rfl
        refine skp (h := ?_)
        refine q_seq (h := ?_)
        refine rg (h := ?_)
        refine WL.y (hy := mv) (h := ?_)
        refine WL.y (hy := (by first | exact fa | exact faE)) (h := ?_)
        refine WL.y (hy := (by first | exact ld | exact ldE)) (h := ?_)
        refine WL.y (hy := mv) (h := ?_)
        refine WL.y (hy := ix (hb := by omega)) (h := ?_)
        refine WL.y (hy := ldEA (hk := hxe)) (h := ?_)
        refine cl0 (hc := fun w hS => C_ref3_Most _ w) (h := ?_)
        refine WL.y (hy := addI (hb := by omega)) (h := ?_)
        refine WL.y (hy := asg) (h := ?_)
        refine WL.cut (by repeat (first | exact Cut.nil | apply Cut.hit | apply Cut.miss (by exact rfl))) ?_
        refine nl (h := ?_)
        refine q_blk_norm (h := ?_)
        refine q_seq (h := ?_)
        refine rg (h := ?_)
        refine WL.y (hy := mv) (h := ?_)
        refine WL.y (hy := addI) (h := ?_)
        refine WL.y (hy := asg) (h := ?_)
        refine WL.cut (by repeat (first | exact Cut.nil | apply Cut.hit | apply Cut.miss (by exact rfl))) ?_
        refine nl (h := ?_)
        refine rn (x := z) ⟨z.k + 1⟩ ⟨by dsimp only; omega, hal2, by dsimp only; omega, by dsimp only; omega⟩ (by dsimp only; omega) (by dsimp only; rw [hms]; repeat (first | exact trivial | refine ⟨rfl, ?_⟩)) (by repeat (first | exact SubL.nil | (apply SubL.cons; (repeat (first | exact At.here | apply At.there))) | exact SubL.refl _ | apply SubL.skip))
    · skip
      have hkn : z.k = n := by simp only [decide_eq_false_iff_not] at h3; omega
      have htk : xs.take z.k = xs := by rw [hkn, ← hlen, List.take_length]
      rw [htk] at hza hzm
      refine et (h := ?_)
      refine q_then_exit (h := ?_)
      refine q_then_exit (h := ?_)
      refine q_blk_hit (h := ?_)
      refine q_seq (h := ?_)
      refine sq (h := ?_)
      refine sq (h := ?_)
      refine rg (h := ?_)
      refine WL.y (hy := mv) (h := ?_)
      refine WL.y (hy := gtr) (h := ?_)
      refine nl (h := ?_)
      refine q_seq (h := ?_)
      refine cd (by exact rfl) (fun h5 => ?_) (fun h5 => ?_)
      · skip
        have h8 := h5
        rw [htk] at h8
        have hE : chkC f first xs = 30 := by rw [chkC, hH, hza, show decide (600 < mostS xs) = true from h8]; rfl
        refine sq (h := ?_)
        refine rg (h := ?_)
        refine WL.y (hy := asg) (h := ?_)
        refine nl (h := ?_)
        refine q_seq (h := ?_)
        refine rtn (h := ?_)
        refine q_then_ret (h := ?_)
        refine q_ret (hR := ?_)
        rw [hE]
        exact fun w hS => ⟨rfl, hS.sub (by repeat (first | exact SubL.nil | (apply SubL.cons; (repeat (first | exact At.here | apply At.there))) | exact SubL.refl _ | apply SubL.skip))⟩
      · skip
        have h8 := h5
        rw [htk] at h8
        have hE : chkC f first xs = 0 := by rw [chkC, hH, hza, show decide (600 < mostS xs) = false from h8]; rfl
        refine skp (h := ?_)
        refine q_seq (h := ?_)
        refine sq (h := ?_)
        refine rg (h := ?_)
        refine WL.y (hy := asg) (h := ?_)
        refine nl (h := ?_)
        refine q_seq (h := ?_)
        refine rtn (h := ?_)
        refine q_ret (hR := ?_)
        rw [hE]
        exact fun w hS => ⟨rfl, hS.sub (by repeat (first | exact SubL.nil | (apply SubL.cons; (repeat (first | exact At.here | apply At.there))) | exact SubL.refl _ | apply SubL.skip))⟩
theorem C_ref3_Copy (f : Fmt) (first : Int) (xs : List Nt) (A : Option Addr) (n c : Nat) (w : World) (h : Rd w A 4 n (encN xs)) (hn : n ≤ 1000000) : CR Try.prog 13 [.agg (cardC f first A n c).toArray] w (fun _ : Option Addr × Nat => True) (fun p => .agg (cardC f first p.1 n p.2).toArray) (fun p => [.own p.1 p.2 40 4 n (encN xs)]) := by
  refine ⟨en Try.func13 Try.ntmps13 ((St.init w).share (e := .ro A 4 n (encN xs)) h rfl rfl rfl) (h := fun F => ?_)⟩
  refine sq (h := ?_)
  refine rg (h := ?_)
  refine bxA (h := fun b0 => ?_)
  refine al (h := fun b1 => ?_)
  refine nl (h := ?_)
  refine q_seq (h := ?_)
  refine sq (h := ?_)
  refine rg (h := ?_)
  refine WL.y (hy := (by first | exact ldA | exact ldEA)) (h := ?_)
  refine al (h := fun b2 => ?_)
  first | refine stA (h := ?_) | refine stEA (h := ?_)
  skip
  refine nl (h := ?_)
  refine q_seq (h := ?_)
  refine sq (h := ?_)
  refine rg (h := ?_)
  refine bs (h := fun b3 => ?_)
  refine WL.y (hy := (by first | exact fa | exact faE)) (h := ?_)
  refine WL.y (hy := (by first | exact ld | exact ldE)) (h := ?_)
  refine ap (es := []) (es2 := encN xs) (m := 0) (k := n) (A := some ⟨b3, 0, none⟩) (A2 := A) (h := fun A1 c1 => ?_)
  simp only [Nat.zero_add, List.nil_append]
  refine WL.y (hy := (by first | exact fa | exact faE)) (h := ?_)
  first | refine st (h := ?_) | refine stE (h := ?_)
  refine nl (h := ?_)
  refine q_seq (h := ?_)
  refine sq (h := ?_)
  refine rg (h := ?_)
  refine WL.y (hy := (by first | exact ldA | exact ldEA)) (h := ?_)
  first | refine stA (h := ?_) | refine stEA (h := ?_)
  refine nl (h := ?_)
  refine q_seq (h := ?_)
  refine rtn (h := ?_)
  refine q_ret (hR := ?_)
  exact fun w hS => ⟨(A1, c1), trivial, rfl, hS.sub (by repeat (first | exact SubL.nil | (apply SubL.cons; (repeat (first | exact At.here | apply At.there))) | exact SubL.refl _ | apply SubL.skip))⟩
end Go.Proofs.Ytncoimjgjpcipaa

namespace Go.Proofs.Ytncoimjgjpcipaa
open Go Go.RowKit

def misN (x : Nt) : Int := bif decide (x.kind = 2) then x.pair.2 else 0
def misS (xs : List Nt) : Int := (xs.map misN).sum
theorem put_len (l : List En) (e : En) : (putC l e).length ≤ l.length + 1 := by
  induction l with
  | nil => exact Nat.le_refl _
  | cons x l ih =>
    rw [putC]
    by_cases h : x.1 = e.1
    · rw [if_pos h]; simp
    · rw [if_neg h]; simp only [List.length_cons]; omega
theorem norm_len (l : List En) : (normC l).length ≤ l.length := by
  have : ∀ (l acc : List En), (l.foldl putC acc).length ≤ acc.length + l.length := fun l => by
    induction l with
    | nil => intro acc; exact Nat.le_refl _
    | cons e l ih =>
      intro acc
      have h1 := ih (putC acc e)
      have h2 := put_len acc e
      rw [List.foldl_cons, List.length_cons]; omega
  have := this l []
  rw [normC]; simpa using this
theorem go_len (f : Fmt) (side : Int) (e : En) (p : Int) : (goE f side e p).length ≤ 1 := by
  unfold goE
  by_cases h : side = -1 ∨ side = p
  · rw [if_pos h]; cases nxtS f e.1 p <;> simp
  · rw [if_neg h]; simp
theorem step_len (f : Fmt) (l : List En) (side : Int) : (stepC f l side).length ≤ 2 * l.length := by
  refine Nat.le_trans (norm_len _) ?_
  unfold stepI
  induction l with
  | nil => simp
  | cons e l ih =>
    have h0 := go_len f side e 0
    have h1 := go_len f side e 1
    rw [List.flatMap_cons, List.length_append, List.length_append, List.length_cons]; omega
theorem iter_len (f : Fmt) (l : List En) : ∀ k, (iterC f l k).length ≤ 2 ^ k * l.length
  | 0 => by simp [iterC]
  | k + 1 => by
    have h1 := step_len f (iterC f l k) (-1)
    have h2 := iter_len f l k
    show (stepC f (iterC f l k) (-1)).length ≤ _
    rw [Nat.pow_succ, Nat.mul_comm (2 ^ k) 2, Nat.mul_assoc]
    omega
theorem missI_len (f : Fmt) (l : List En) (a : Int) : ∀ k, (missI f l a k).length + l.length ≤ 2 ^ k * l.length
  | 0 => by simp [missI]
  | k + 1 => by
    have h1 := missI_len f l a k
    have h2 := iter_len f l k
    have h3 : (if a ≤ (k : Int) then iterC f l k else []).length ≤ (iterC f l k).length := by
      by_cases h : a ≤ (k : Int)
      · rw [if_pos h]; exact Nat.le_refl _
      · rw [if_neg h]; exact Nat.zero_le _
    rw [missI, List.length_append, Nat.pow_succ, Nat.mul_comm (2 ^ k) 2, Nat.mul_assoc]
    omega
def expN (x : Nt) : Nat := 1 + (misN x).toNat
theorem after_len (f : Fmt) (l : List En) (x : Nt) : (afterC f l x).length ≤ 2 ^ expN x * l.length := by
  unfold afterC
  by_cases h1 : x.kind = 1
  · rw [if_pos h1]
    have := step_len f l x.side
    have e : expN x = 1 := by unfold expN misN; rw [decide_eq_false (by omega)]; rfl
    rw [e]; omega
  · rw [if_neg h1]
    by_cases h2 : x.kind = 2
    · rw [if_pos h2]
      have e : expN x = x.pair.2.toNat + 1 := by unfold expN misN; rw [decide_eq_true h2]; show 1 + x.pair.2.toNat = _; omega
      have h3 := missI_len f l x.pair.1 (x.pair.2.toNat + 1)
      have h4 := norm_len (missI f l x.pair.1 (x.pair.2.toNat + 1))
      rw [e]
      show (normC _).length ≤ _
      omega
    · rw [if_neg h2]
      have h3 : (testC f x l).length ≤ l.length := List.length_filter_le ..
      have h4 : 1 ≤ 2 ^ expN x := Nat.one_le_two_pow
      exact Nat.le_trans h3 (Nat.le_mul_of_pos_left _ h4)
def expS (xs : List Nt) : Nat := (xs.map expN).sum
theorem crowd_len (f : Fmt) (cf : Int) (xs : List Nt) : (crowdC f cf xs).length ≤ 2 ^ expS xs * 2 := by
  have key : ∀ (xs : List Nt) (l : List En), (xs.foldl (afterC f) l).length ≤ 2 ^ expS xs * l.length := fun xs => by
    induction xs with
    | nil => intro l; simp [expS]
    | cons x xs ih =>
      intro l
      rw [List.foldl_cons]
      refine Nat.le_trans (ih _) ?_
      have h1 := after_len f l x
      have : expS (x :: xs) = expN x + expS xs := by unfold expS; rw [List.map_cons, List.sum_cons]
      rw [this, Nat.pow_add, Nat.mul_comm (2 ^ expN x), Nat.mul_assoc]
      exact Nat.mul_le_mul_left _ h1
  refine Nat.le_trans (key xs (begC cf)) (Nat.mul_le_mul_left _ ?_)
  unfold begC
  rw [List.length_append]
  have : ∀ (p : Prop) [Decidable p] (e : En), (if p then [e] else []).length ≤ 1 := fun p _ e => by
    by_cases h : p
    · rw [if_pos h]; exact Nat.le_refl _
    · rw [if_neg h]; exact Nat.zero_le _
  have h1 := this (cf = -1 ∨ cf = 0) (⟨0, [], (0, 0), (0, 0)⟩, (0, 0, 0))
  have h2 := this (cf = -1 ∨ cf = 1) (⟨1, [], (0, 0), (0, 0)⟩, (0, 0, 0))
  omega
theorem exp_mis {xs : List Nt} (h : ∀ x ∈ xs, mkV x = true) : (expS xs : Int) = xs.length + misS xs ∧ mostS xs ≤ xs.length + misS xs ∧ 0 ≤ misS xs := by
  induction xs with
  | nil => exact ⟨rfl, Int.le_refl _, Int.le_refl _⟩
  | cons x xs ih =>
    obtain ⟨h1, h2, h3⟩ := ih fun y hy => h y (by simp [hy])
    have hk := mk_kind (h x (by simp))
    have h4 : 0 ≤ misN x ∧ mostN x ≤ 1 + misN x := by
      unfold misN mostN
      by_cases e1 : x.kind = 1
      · rw [decide_eq_false (by omega), if_pos e1]; exact ⟨Int.le_refl _, by show (1 : Int) ≤ 1 + 0; omega⟩
      · rw [if_neg e1]
        by_cases e2 : x.kind = 2
        · have := hk.2.2.1 e2
          rw [decide_eq_true e2, if_pos e2]
          show 0 ≤ x.pair.2 ∧ x.pair.2 ≤ 1 + x.pair.2
          omega
        · rw [decide_eq_false e2, if_neg e2]; exact ⟨Int.le_refl _, by show (0 : Int) ≤ 1 + 0; omega⟩
    have e1 : expS (x :: xs) = expN x + expS xs := by unfold expS; rw [List.map_cons, List.sum_cons]
    have e2 : misS (x :: xs) = misN x + misS xs := by unfold misS; rw [List.map_cons, List.sum_cons]
    have e3 : mostS (x :: xs) = mostN x + mostS xs := by unfold mostS; rw [List.map_cons, List.sum_cons]
    rw [e1, e2, e3, List.length_cons]
    unfold expN
    omega
def farC (f : Fmt) (cf : Int) (xs : List Nt) : Bool := decide ((60 : Int) < xs.length) || (decide (chkC f cf xs = 0) && (decide (8 < misS xs) || decide ((12 : Int) < xs.length)))
def rdyC (f : Fmt) (cf : Int) (xs : List Nt) : Bool := !farC f cf xs && decide (chkC f cf xs = 0)
structure Rdy (f : Fmt) (cf : Int) (xs : List Nt) : Prop where
  c : chkC f cf xs = 0
  n : xs.length ≤ 12
  m : mostS xs ≤ 20
  b : (crowdC f cf xs).length ≤ 4194304
  mks : ∀ x ∈ xs, mkV x = true
  ok : f.Ok
  cf : -1 ≤ cf ∧ cf ≤ 1
  mis : misS xs ≤ 8
theorem rdy_of {f : Fmt} {cf : Int} {xs : List Nt} (h1 : chkC f cf xs = 0) (hn : xs.length ≤ 12) (hm : misS xs ≤ 8) : Rdy f cf xs := by
  obtain ⟨h2, h3, h4, h5, h6, h7⟩ := chk_facts h1
  obtain ⟨e1, e2, e3⟩ := exp_mis h6
  have hl := crowd_len f cf xs
  have he : expS xs ≤ 20 := by omega
  have hp : 2 ^ expS xs ≤ 2 ^ 20 := Nat.pow_le_pow_right (by omega) he
  exact ⟨h1, hn, by omega, by omega, h6, h3, h4, hm⟩
theorem rdy_facts {f : Fmt} {cf : Int} {xs : List Nt} (h : rdyC f cf xs = true) : Rdy f cf xs := by
  unfold rdyC farC at h
  rw [Bool.and_eq_true, Bool.not_eq_true', Bool.or_eq_false_iff, decide_eq_true_eq] at h
  obtain ⟨⟨_, h2⟩, h1⟩ := h
  rw [decide_eq_true h1, Bool.true_and, Bool.or_eq_false_iff, decide_eq_false_iff_not, decide_eq_false_iff_not] at h2
  exact rdy_of h1 (by omega) (by omega)
theorem misS_succ {xs : List Nt} {k : Nat} {x : Nt} (h : xs[k]? = some x) : misS (xs.take (k + 1)) = misS (xs.take k) + misN x := by
  unfold misS
  rw [List.take_add_one, h, List.map_append, List.sum_append]
  show _ + (misN x + 0) = _
  omega
theorem C_law3_Far (f : Fmt) (first : Int) (xs : List Nt) (A : Option Addr) (n c : Nat) (w : World) (h : Rd w A 4 n (encN xs)) (hn : n ≤ 9223372036854775807) : C0 Try.prog 30 [.agg (cardC f first A n c).toArray] w (.bool (farC f first xs)) := by
  have hlen : xs.length = n := by have := h.len; rwa [encN_len] at this
  refine ⟨en Try.func30 Try.ntmps30 ((St.init w).share (e := .ro A 4 n (encN xs)) h rfl rfl rfl) (h := fun F => ?_)⟩
  refine sq (h := ?_)
  refine rg (h := ?_)
  refine bxA (h := fun b0 => ?_)
  refine WL.y (hy := asg) (h := ?_)
  refine nl (h := ?_)
  refine q_seq (h := ?_)
  refine sq (h := ?_)
  refine sq (h := ?_)
  refine rg (h := ?_)
  refine WL.y (hy := (by first | exact fa | exact faE)) (h := ?_)
  refine WL.y (hy := (by first | exact ld | exact ldE)) (h := ?_)
  refine WL.y (hy := lenS) (h := ?_)
  refine WL.y (hy := gtr) (h := ?_)
  refine nl (h := ?_)
  refine q_seq (h := ?_)
  refine cd (by exact rfl) (fun h0 => ?_) (fun h0 => ?_)
  · skip
    have hE : farC f first xs = true := by rw [farC, hlen, show decide ((60 : Int) < n) = true from h0]; rfl
    refine sq (h := ?_)
    refine rg (h := ?_)
    refine WL.y (hy := asg) (h := ?_)
    refine nl (h := ?_)
    refine q_seq (h := ?_)
    refine rtn (h := ?_)
    refine q_then_ret (h := ?_)
    refine q_ret (hR := ?_)
    rw [hE]
    exact fun w hS => ⟨rfl, hS.sub (by repeat (first | exact SubL.nil | (apply SubL.cons; (repeat (first | exact At.here | apply At.there))) | exact SubL.refl _ | apply SubL.skip))⟩
  · skip
    have h60 : decide ((60 : Int) < n) = false := h0
    refine skp (h := ?_)
    refine q_seq (h := ?_)
    refine sq (h := ?_)
    refine sq (h := ?_)
    refine rg (h := ?_)
    refine WL.y (hy := (by first | exact ldA | exact ldEA)) (h := ?_)
    refine cl0 (hc := fun w hS => C_ref3_Check f first xs A n c w (hS.get (by repeat (first | exact Rds.ro | exact Rds.own | apply Rds.there))) hn) (h := ?_)
    refine WL.y (hy := neq) (h := ?_)
    refine nl (h := ?_)
    refine q_seq (h := ?_)
    refine cd (by exact rfl) (fun h1 => ?_) (fun h1 => ?_)
    · skip
      have hcn : chkC f first xs ≠ 0 := by simpa using h1
      have hE : farC f first xs = false := by rw [farC, hlen, h60, decide_eq_false hcn]; rfl
      refine sq (h := ?_)
      refine rg (h := ?_)
      refine WL.y (hy := asg) (h := ?_)
      refine nl (h := ?_)
      refine q_seq (h := ?_)
      refine rtn (h := ?_)
      refine q_then_ret (h := ?_)
      refine q_ret (hR := ?_)
      rw [hE]
      exact fun w hS => ⟨rfl, hS.sub (by repeat (first | exact SubL.nil | (apply SubL.cons; (repeat (first | exact At.here | apply At.there))) | exact SubL.refl _ | apply SubL.skip))⟩
    · skip
      have hcn : chkC f first xs = 0 := by simpa using h1
      obtain ⟨_, _, _, hl30, hmk, _⟩ := chk_facts hcn
      refine skp (h := ?_)
      refine q_seq (h := ?_)
      refine sq (h := ?_)
      refine rg (h := ?_)
      refine WL.y (hy := asg) (h := ?_)
      refine WL.cut (by repeat (first | exact Cut.nil | apply Cut.hit | apply Cut.miss (by exact rfl))) ?_
      refine nl (h := ?_)
      refine q_seq (h := ?_)
      refine sq (h := ?_)
      refine sq (h := ?_)
      refine rg (h := ?_)
      refine WL.y (hy := asg) (h := ?_)
      refine WL.cut (by repeat (first | exact Cut.nil | apply Cut.hit | apply Cut.miss (by exact rfl))) ?_
      refine nl (h := ?_)
      refine q_seq (h := ?_)
      refine bk (h := ?_)
      refine lp (X := CKZ) (I := fun z => z.k ≤ n ∧ 0 ≤ misS (xs.take z.k) ∧ misS (xs.take z.k) ≤ 30 * (z.k : Int)) (le := fun z => [(1, .pointer (some ⟨b0, 0, none⟩)), (3, .int .i64 (misS (xs.take z.k))), (4, .int .i64 z.k)]) (Le := fun z => [.blk b0 26 (cardC f first A n c), .ro A 4 n (encN xs)]) (μ := fun z => n - z.k) ⟨0⟩ ⟨Nat.zero_le _, by exact Int.le_refl _, by exact Int.le_refl _⟩ (by repeat (first | exact trivial | refine ⟨rfl, ?_⟩)) (by repeat (first | exact SubL.nil | (apply SubL.cons; (repeat (first | exact At.here | apply At.there))) | exact SubL.refl _ | apply SubL.skip)) (fun z hz => ?_)
      obtain ⟨hzk, hz0, hzm⟩ := hz
      refine sq (h := ?_)
      refine sq (h := ?_)
      refine rg (h := ?_)
      refine WL.y (hy := mv) (h := ?_)
      refine WL.y (hy := (by first | exact fa | exact faE)) (h := ?_)
      refine WL.y (hy := (by first | exact ld | exact ldE)) (h := ?_)
      refine WL.y (hy := lenS) (h := ?_)
      refine WL.y (hy := lss) (h := ?_)
      refine nl (h := ?_)
      refine q_seq (h := ?_)
      refine cd (by exact rfl) (fun h2 => ?_) (fun h2 => ?_)
      · skip
        have hkn : z.k < n := by simp only [decide_eq_true_eq] at h2; omega
        obtain ⟨x, hx⟩ : ∃ x, xs[z.k]? = some x := ⟨_, List.getElem?_eq_getElem (by omega)⟩
        have hxe := encN_at hx
        have hms := misS_succ hx
        have hxm := mk_kind (hmk x (List.mem_of_getElem? hx))
        refine skp (h := ?_)
        refine q_seq (h := ?_)
        refine sq (h := ?_)
        refine bk (h := ?_)
        refine sq (h := ?_)
        refine rg (h := ?_)
        refine WL.y (hy := (by first | exact fa | exact faE)) (h := ?_)
        refine WL.y (hy := (by first | exact ld | exact ldE)) (h := ?_)
        refine WL.y (hy := mv) (h := ?_)
        refine WL.y (hy := ix (hb := by omega)) (h := ?_)
        refine WL.y (hy := (by first | exact fa | exact faE)) (h := ?_)
        refine WL.y (hy := ldE (hk := hxe)) (h := ?_)
        refine WL.y (hy := eql) (h := ?_)
        refine nl (h := ?_)
        refine q_seq (h := ?_)
        refine cd (by exact rfl) (fun h3 => ?_) (fun h3 => ?_)
        · skip
          have hk2 : x.kind = 2 := of_decide_eq_true h3
          have hmi : misN x = x.pair.2 := by unfold misN; rw [decide_eq_true hk2]; rfl
          have hpb := hxm.2.2.1 hk2
          refine rg (h := ?_)
          refine WL.y (hy := mv) (h := ?_)
          refine WL.y (hy := (by first | exact fa | exact faE)) (h := ?_)
          refine WL.y (hy := (by first | exact ld | exact ldE)) (h := ?_)
          refine WL.y (hy := mv) (h := ?_)
          refine WL.y (hy := ix (hb := by omega)) (h := ?_)
          refine WL.y (hy := (by first | exact fa | exact faE)) (h := ?_)
          refine WL.y (hy := faE) (h := ?_)
          refine WL.y (hy := ldE (hk := hxe)) (h := ?_)
          refine WL.y (hy := addI (hb := by omega)) (h := ?_)
          refine WL.y (hy := asg) (h := ?_)
          refine WL.cut (by repeat (first | exact Cut.nil | apply Cut.hit | apply Cut.miss (by exact rfl))) ?_
          refine nl (h := ?_)
          refine q_blk_norm (h := ?_)
          refine q_seq (h := ?_)
          refine rg (h := ?_)
          refine WL.y (hy := mv) (h := ?_)
          refine WL.y (hy := addI) (h := ?_)
          refine WL.y (hy := asg) (h := ?_)
          refine WL.cut (by repeat (first | exact Cut.nil | apply Cut.hit | apply Cut.miss (by exact rfl))) ?_
          refine nl (h := ?_)
          refine rn (x := z) ⟨z.k + 1⟩ ⟨by dsimp only; omega, by dsimp only; omega, by dsimp only; omega⟩ (by dsimp only; omega) (by dsimp only; rw [hms, hmi]; (try rw [Int.add_zero]); repeat (first | exact trivial | refine ⟨rfl, ?_⟩)) (by repeat (first | exact SubL.nil | (apply SubL.cons; (repeat (first | exact At.here | apply At.there))) | exact SubL.refl _ | apply SubL.skip))
        · skip
          have hmi : misN x = 0 := by unfold misN; rw [h3]; rfl
          refine skp (h := ?_)
          refine q_blk_norm (h := ?_)
          refine q_seq (h := ?_)
          refine rg (h := ?_)
          refine WL.y (hy := mv) (h := ?_)
          refine WL.y (hy := addI) (h := ?_)
          refine WL.y (hy := asg) (h := ?_)
          refine WL.cut (by repeat (first | exact Cut.nil | apply Cut.hit | apply Cut.miss (by exact rfl))) ?_
          refine nl (h := ?_)
          refine rn (x := z) ⟨z.k + 1⟩ ⟨by dsimp only; omega, by dsimp only; omega, by dsimp only; omega⟩ (by dsimp only; omega) (by dsimp only; rw [hms, hmi]; (try rw [Int.add_zero]); repeat (first | exact trivial | refine ⟨rfl, ?_⟩)) (by repeat (first | exact SubL.nil | (apply SubL.cons; (repeat (first | exact At.here | apply At.there))) | exact SubL.refl _ | apply SubL.skip))
      · skip
        have hkn : z.k = n := by simp only [decide_eq_false_iff_not] at h2; omega
        have htk : xs.take z.k = xs := by rw [hkn, ← hlen, List.take_length]
        have hE : farC f first xs = (decide (8 < misS (xs.take z.k)) || decide ((12 : Int) < n)) := by rw [farC, hlen, h60, decide_eq_true hcn, htk]; rfl
        refine et (h := ?_)
        refine q_then_exit (h := ?_)
        refine q_then_exit (h := ?_)
        refine q_blk_hit (h := ?_)
        refine q_seq (h := ?_)
        refine sq (h := ?_)
        refine rg (h := ?_)
        refine WL.y (hy := mv) (h := ?_)
        refine WL.y (hy := gtr) (h := ?_)
        refine WL.y (hy := mv) (h := ?_)
        apply brOr 5 37 42 (by exact rfl)
        · intro hb4
          refine un (h := ?_)
          refine WL.y (hy := (by first | exact fa | exact faE)) (h := ?_)
          refine un (h := ?_)
          refine WL.y (hy := (by first | exact ld | exact ldE)) (h := ?_)
          refine un (h := ?_)
          refine WL.y (hy := lenS) (h := ?_)
          refine un (h := ?_)
          refine WL.y (hy := gtr) (h := ?_)
          refine WL.y (hy := (by first | exact pkT | exact pkF)) (h := ?_)
          exact mg (by repeat (first | exact trivial | refine ⟨rfl, ?_⟩ | refine ⟨by rw [hb4]; rfl, ?_⟩)) (by repeat (first | exact SubL.nil | (apply SubL.cons; (repeat (first | exact At.here | apply At.there))) | exact SubL.refl _ | apply SubL.skip))
        · intro hb4
          repeat (first | refine un (h := ?_) | refine sk (h := ?_) | refine WL.y (hy := pkF) (h := ?_) | refine WL.y (hy := pkT) (h := ?_))
          exact mg (by repeat (first | exact trivial | refine ⟨rfl, ?_⟩ | refine ⟨by rw [hb4]; rfl, ?_⟩)) (by repeat (first | exact SubL.nil | (apply SubL.cons; (repeat (first | exact At.here | apply At.there))) | exact SubL.refl _ | apply SubL.skip))
        refine WL.y (hy := asg) (h := ?_)
        refine nl (h := ?_)
        refine q_seq (h := ?_)
        refine rtn (h := ?_)
        refine q_ret (hR := ?_)
        rw [hE]
        exact fun w hS => ⟨rfl, hS.sub (by repeat (first | exact SubL.nil | (apply SubL.cons; (repeat (first | exact At.here | apply At.there))) | exact SubL.refl _ | apply SubL.skip))⟩
theorem C_law3_ready (f : Fmt) (first : Int) (xs : List Nt) (A : Option Addr) (n c : Nat) (w : World) (h : Rd w A 4 n (encN xs)) (hn : n ≤ 9223372036854775807) : C0 Try.prog 10 [.agg (cardC f first A n c).toArray] w (.bool (rdyC f first xs)) := by
  refine ⟨en Try.func10 Try.ntmps10 ((St.init w).share (e := .ro A 4 n (encN xs)) h rfl rfl rfl) (h := fun F => ?_)⟩
  refine sq (h := ?_)
  refine rg (h := ?_)
  refine bxA (h := fun b0 => ?_)
  refine WL.y (hy := asg) (h := ?_)
  refine nl (h := ?_)
  refine q_seq (h := ?_)
  refine sq (h := ?_)
  refine rg (h := ?_)
  refine WL.y (hy := (by first | exact ldA | exact ldEA)) (h := ?_)
  refine cl0 (hc := fun w hS => C_law3_Far f first xs A n c w (hS.get (by repeat (first | exact Rds.ro | exact Rds.own | apply Rds.there))) hn) (h := ?_)
  refine WL.y (hy := notB) (h := ?_)
  refine WL.y (hy := mv) (h := ?_)
  apply brAnd 4 6 10 (by exact rfl)
  · intro hb0
    refine un (h := ?_)
    refine WL.y (hy := (by first | exact ldA | exact ldEA)) (h := ?_)
    refine un (h := ?_)
    refine cl0 (hc := fun w hS => C_ref3_Check f first xs A n c w (hS.get (by repeat (first | exact Rds.ro | exact Rds.own | apply Rds.there))) hn) (h := ?_)
    refine un (h := ?_)
    refine WL.y (hy := eql) (h := ?_)
    refine WL.y (hy := (by first | exact pkT | exact pkF)) (h := ?_)
    exact mg (by repeat (first | exact trivial | refine ⟨rfl, ?_⟩ | refine ⟨by rw [hb0]; rfl, ?_⟩)) (by repeat (first | exact SubL.nil | (apply SubL.cons; (repeat (first | exact At.here | apply At.there))) | exact SubL.refl _ | apply SubL.skip))
  · intro hb0
    repeat (first | refine un (h := ?_) | refine sk (h := ?_) | refine WL.y (hy := pkF) (h := ?_) | refine WL.y (hy := pkT) (h := ?_))
    exact mg (by repeat (first | exact trivial | refine ⟨rfl, ?_⟩ | refine ⟨by rw [hb0]; rfl, ?_⟩)) (by repeat (first | exact SubL.nil | (apply SubL.cons; (repeat (first | exact At.here | apply At.there))) | exact SubL.refl _ | apply SubL.skip))
  refine WL.y (hy := asg) (h := ?_)
  refine nl (h := ?_)
  refine q_seq (h := ?_)
  refine rtn (h := ?_)
  refine q_ret (hR := ?_)
  exact fun w hS => ⟨rfl, hS.sub (by repeat (first | exact SubL.nil | (apply SubL.cons; (repeat (first | exact At.here | apply At.there))) | exact SubL.refl _ | apply SubL.skip))⟩
end Go.Proofs.Ytncoimjgjpcipaa

namespace Go.Proofs.Ytncoimjgjpcipaa
open Go Go.RowKit

theorem same_fin {a b : Brd} {n m k : Nat} (hla : a.st.length = n) (hlb : b.st.length = m) (hk : k ≤ n ∧ k ≤ m) (htk : a.st.take k = b.st.take k) (hk2 : ¬ ((k : Int) < n ∧ (k : Int) < m)) : decide (a = b) = (decide ((n : Int) = m) && decide ([a.g.1, a.g.2] = [b.g.1, b.g.2]) && decide ([a.p.1, a.p.2] = [b.p.1, b.p.2])) := by
  rw [Bool.eq_iff_iff, Bool.and_eq_true, Bool.and_eq_true, decide_eq_true_eq, decide_eq_true_eq, decide_eq_true_eq, decide_eq_true_eq, pr_list, pr_list]
  constructor
  · intro e; subst e; exact ⟨⟨by omega, rfl⟩, rfl⟩
  · rintro ⟨⟨h1, h2⟩, h3⟩
    have hkn : k = n := by omega
    have hst : a.st = b.st := by
      rw [List.take_of_length_le (by omega), List.take_of_length_le (by omega)] at htk; exact htk
    cases a; cases b
    simp only at hst h2 h3
    rw [hst, h2, h3]
set_option maxRecDepth 100000 in
theorem C_ref3_SameBoard (a b : Brd) (A B : Option Addr) (n c m d : Nat) (w : World) (h : Rd w A 2 n (encP a.st)) (h' : Rd w B 2 m (encP b.st)) (hn : n ≤ 9223372036854775807) (hm : m ≤ 9223372036854775807) :
    C0 Try.prog 15 [a.val A n c, b.val B m d] w (.bool (decide (a = b))) := by
  have hla : a.st.length = n := by have := h.len; simpa [encP] using this
  have hlb : b.st.length = m := by have := h'.len; simpa [encP] using this
  refine ⟨en Try.func15 Try.ntmps15 (((St.init w).share (e := .ro A 2 n (encP a.st)) h rfl rfl rfl).share (e := .ro B 2 m (encP b.st)) h' rfl rfl rfl) (h := fun F => ?_)⟩
  refine sq (h := ?_)
  refine rg (h := ?_)
  refine bxA (h := fun b0 => ?_)
  refine bxA (h := fun b1 => ?_)
  refine WL.y (hy := asg) (h := ?_)
  refine nl (h := ?_)
  refine q_seq (h := ?_)
  refine sq (h := ?_)
  refine sq (h := ?_)
  refine rg (h := ?_)
  refine WL.y (hy := asg) (h := ?_)
  refine WL.cut (by repeat (first | exact Cut.nil | apply Cut.hit | apply Cut.miss (by exact rfl))) ?_
  refine nl (h := ?_)
  refine q_seq (h := ?_)
  refine bk (h := ?_)
  refine lp (X := Nat) (I := fun k => (k ≤ n ∧ k ≤ m) ∧ a.st.take k = b.st.take k) (le := fun k => [(2, .pointer (some ⟨b0, 0, none⟩)), (3, .pointer (some ⟨b1, 0, none⟩)), (5, .int .i64 k)]) (Le := fun _ => [.blk b0 44 (a.cells A n c), .blk b1 44 (b.cells B m d), .ro A 2 n (encP a.st), .ro B 2 m (encP b.st)]) (μ := fun k => n - k) 0 ⟨⟨Nat.zero_le _, Nat.zero_le _⟩, rfl⟩ (by repeat (first | exact trivial | refine ⟨rfl, ?_⟩)) (by repeat (first | exact SubL.nil | (apply SubL.cons; (repeat (first | exact At.here | apply At.there))) | exact SubL.refl _ | apply SubL.skip)) (fun k hk0 => ?_)
  obtain ⟨hk, htk⟩ := hk0
  refine sq (h := ?_)
  refine sq (h := ?_)
  refine rg (h := ?_)
  refine WL.y (hy := mv) (h := ?_)
  refine WL.y (hy := (by first | exact fa | exact faE)) (h := ?_)
  refine WL.y (hy := (by first | exact ld | exact ldE)) (h := ?_)
  refine WL.y (hy := lenS) (h := ?_)
  refine WL.y (hy := lss) (h := ?_)
  refine WL.y (hy := mv) (h := ?_)
  apply brAnd 6 11 17 (by exact rfl)
  · intro hb0
    refine un (h := ?_)
    refine WL.y (hy := mv) (h := ?_)
    refine un (h := ?_)
    refine WL.y (hy := (by first | exact fa | exact faE)) (h := ?_)
    refine un (h := ?_)
    refine WL.y (hy := (by first | exact ld | exact ldE)) (h := ?_)
    refine un (h := ?_)
    refine WL.y (hy := lenS) (h := ?_)
    refine un (h := ?_)
    refine WL.y (hy := lss) (h := ?_)
    refine WL.y (hy := (by first | exact pkT | exact pkF)) (h := ?_)
    exact mg (by repeat (first | exact trivial | refine ⟨rfl, ?_⟩ | refine ⟨by rw [hb0]; rfl, ?_⟩)) (by repeat (first | exact SubL.nil | (apply SubL.cons; (repeat (first | exact At.here | apply At.there))) | exact SubL.refl _ | apply SubL.skip))
  · intro hb0
    repeat (first | refine un (h := ?_) | refine sk (h := ?_) | refine WL.y (hy := pkF) (h := ?_) | refine WL.y (hy := pkT) (h := ?_))
    exact mg (by repeat (first | exact trivial | refine ⟨rfl, ?_⟩ | refine ⟨by rw [hb0]; rfl, ?_⟩)) (by repeat (first | exact SubL.nil | (apply SubL.cons; (repeat (first | exact At.here | apply At.there))) | exact SubL.refl _ | apply SubL.skip))
  refine nl (h := ?_)
  refine q_seq (h := ?_)
  refine cd (by exact rfl) (fun h1 => ?_) (fun h1 => ?_)
  · skip
    have hk2 : (k : Int) < n ∧ (k : Int) < m := by simpa using h1
    have hkn : k < n := by omega
    have hkm : k < m := by omega
    obtain ⟨p, hp⟩ : ∃ p, a.st[k]? = some p := ⟨_, List.getElem?_eq_getElem (by omega)⟩
    obtain ⟨q, hq⟩ : ∃ q, b.st[k]? = some q := ⟨_, List.getElem?_eq_getElem (by omega)⟩
    have hpe := encP_at hp
    have hqe := encP_at hq
    refine skp (h := ?_)
    refine q_seq (h := ?_)
    refine sq (h := ?_)
    refine bk (h := ?_)
    refine sq (h := ?_)
    refine rgD0 (by kernel_rfl) (h := ?_)
    refine tk 0 (hy := (by first | exact fa | exact faE)) (h := ?_)
    refine tk 1 (hy := (by first | exact ld | exact ldE)) (h := ?_)
    refine tk 2 (hy := mv) (h := ?_)
    refine tk 3 (hy := ix (A := A) (m := n)) (h := ?_)
    refine tk 4 (hy := ldEA (A := A) (hk := hpe)) (h := ?_)
    refine tk 5 (hy := (by first | exact fa | exact faE)) (h := ?_)
    refine tk 6 (hy := (by first | exact ld | exact ldE)) (h := ?_)
    refine tk 7 (hy := mv) (h := ?_)
    refine tk 8 (hy := ix (A := B) (m := m)) (h := ?_)
    refine tk 9 (hy := ldEA (A := B) (hk := hqe)) (h := ?_)
    refine tk 10 (hy := neqT) (h := ?_)
    refine dn (h := ?_)
    refine q_seq (h := ?_)
    refine cd (by exact rfl) (fun h2 => ?_) (fun h2 => ?_)
    · skip
      have hne : ¬ a = b := fun e => by
        subst e
        rw [hp] at hq
        injection hq with hq
        subst hq
        simp at h2
      refine sq (h := ?_)
      refine rg (h := ?_)
      refine WL.y (hy := asg) (h := ?_)
      refine nl (h := ?_)
      refine q_seq (h := ?_)
      refine rtn (h := ?_)
      refine q_blk_ret (h := ?_)
      refine q_then_ret (h := ?_)
      refine q_then_ret (h := ?_)
      refine q_blk_ret (h := ?_)
      refine q_then_ret (h := ?_)
      refine q_ret (hR := ?_)
      first
        | exact fun w hS => ⟨by rw [decide_eq_false hne]; rfl, hS.sub (by repeat (first | exact SubL.nil | (apply SubL.cons; (repeat (first | exact At.here | apply At.there))) | exact SubL.refl _ | apply SubL.skip))⟩
        | (rw [hfin]; exact fun w hS => ⟨rfl, hS.sub (by repeat (first | exact SubL.nil | (apply SubL.cons; (repeat (first | exact At.here | apply At.there))) | exact SubL.refl _ | apply SubL.skip))⟩)
    · skip
      have hpq : p = q := by
        have : [p.1, p.2] = [q.1, q.2] := by simpa using h2
        exact pr_list.1 this
      refine skp (h := ?_)
      refine q_blk_norm (h := ?_)
      refine q_seq (h := ?_)
      refine rg (h := ?_)
      refine WL.y (hy := mv) (h := ?_)
      refine WL.y (hy := addI) (h := ?_)
      refine WL.y (hy := asg) (h := ?_)
      refine WL.cut (by repeat (first | exact Cut.nil | apply Cut.hit | apply Cut.miss (by exact rfl))) ?_
      refine nl (h := ?_)
      refine rn (x := k) (k + 1) ⟨⟨by omega, by omega⟩, by rw [List.take_add_one, List.take_add_one, hp, hq, htk, hpq]⟩ (by omega) (by repeat (first | exact trivial | refine ⟨rfl, ?_⟩)) (by repeat (first | exact SubL.nil | (apply SubL.cons; (repeat (first | exact At.here | apply At.there))) | exact SubL.refl _ | apply SubL.skip))
  · skip
    have hk2 : ¬ ((k : Int) < n ∧ (k : Int) < m) := by simpa using h1
    have hfin : decide (a = b) = (decide ((n : Int) = m) && decide ([a.g.1, a.g.2] = [b.g.1, b.g.2]) && decide ([a.p.1, a.p.2] = [b.p.1, b.p.2])) := same_fin hla hlb hk htk hk2
    refine et (h := ?_)
    refine q_then_exit (h := ?_)
    refine q_then_exit (h := ?_)
    refine q_blk_hit (h := ?_)
    refine q_seq (h := ?_)
    refine sq (h := ?_)
    refine rg (h := ?_)
    refine WL.y (hy := (by first | exact fa | exact faE)) (h := ?_)
    refine WL.y (hy := (by first | exact ld | exact ldE)) (h := ?_)
    refine WL.y (hy := lenS) (h := ?_)
    refine WL.y (hy := (by first | exact fa | exact faE)) (h := ?_)
    refine WL.y (hy := (by first | exact ld | exact ldE)) (h := ?_)
    refine WL.y (hy := lenS) (h := ?_)
    refine WL.y (hy := eql) (h := ?_)
    refine WL.y (hy := mv) (h := ?_)
    apply brAnd 6 38 44 (by exact rfl)
    · intro hb3
      refine un (h := ?_)
      refine WL.y (hy := (by first | exact fa | exact faE)) (h := ?_)
      refine un (h := ?_)
      refine WL.y (hy := (by first | exact ldA | exact ldEA)) (h := ?_)
      refine un (h := ?_)
      refine WL.y (hy := (by first | exact fa | exact faE)) (h := ?_)
      refine un (h := ?_)
      refine WL.y (hy := (by first | exact ldA | exact ldEA)) (h := ?_)
      refine un (h := ?_)
      refine WL.y (hy := eqlT) (h := ?_)
      refine WL.y (hy := (by first | exact pkT | exact pkF)) (h := ?_)
      exact mg (by repeat (first | exact trivial | refine ⟨rfl, ?_⟩ | refine ⟨by rw [hb3]; rfl, ?_⟩)) (by repeat (first | exact SubL.nil | (apply SubL.cons; (repeat (first | exact At.here | apply At.there))) | exact SubL.refl _ | apply SubL.skip))
    · intro hb3
      repeat (first | refine un (h := ?_) | refine sk (h := ?_) | refine WL.y (hy := pkF) (h := ?_) | refine WL.y (hy := pkT) (h := ?_))
      exact mg (by repeat (first | exact trivial | refine ⟨rfl, ?_⟩ | refine ⟨by rw [hb3]; rfl, ?_⟩)) (by repeat (first | exact SubL.nil | (apply SubL.cons; (repeat (first | exact At.here | apply At.there))) | exact SubL.refl _ | apply SubL.skip))
    refine WL.y (hy := mv) (h := ?_)
    apply brAnd 6 45 51 (by exact rfl)
    · intro hb4
      refine un (h := ?_)
      refine WL.y (hy := (by first | exact fa | exact faE)) (h := ?_)
      refine un (h := ?_)
      refine WL.y (hy := (by first | exact ldA | exact ldEA)) (h := ?_)
      refine un (h := ?_)
      refine WL.y (hy := (by first | exact fa | exact faE)) (h := ?_)
      refine un (h := ?_)
      refine WL.y (hy := (by first | exact ldA | exact ldEA)) (h := ?_)
      refine un (h := ?_)
      refine WL.y (hy := eqlT) (h := ?_)
      refine WL.y (hy := (by first | exact pkT | exact pkF)) (h := ?_)
      exact mg (by repeat (first | exact trivial | refine ⟨rfl, ?_⟩ | refine ⟨by rw [hb4]; rfl, ?_⟩)) (by repeat (first | exact SubL.nil | (apply SubL.cons; (repeat (first | exact At.here | apply At.there))) | exact SubL.refl _ | apply SubL.skip))
    · intro hb4
      repeat (first | refine un (h := ?_) | refine sk (h := ?_) | refine WL.y (hy := pkF) (h := ?_) | refine WL.y (hy := pkT) (h := ?_))
      exact mg (by repeat (first | exact trivial | refine ⟨rfl, ?_⟩ | refine ⟨by rw [hb4]; rfl, ?_⟩)) (by repeat (first | exact SubL.nil | (apply SubL.cons; (repeat (first | exact At.here | apply At.there))) | exact SubL.refl _ | apply SubL.skip))
    refine WL.y (hy := asg) (h := ?_)
    refine nl (h := ?_)
    refine q_seq (h := ?_)
    refine rtn (h := ?_)
    refine q_ret (hR := ?_)
    first
      | exact fun w hS => ⟨by rw [decide_eq_false hne]; rfl, hS.sub (by repeat (first | exact SubL.nil | (apply SubL.cons; (repeat (first | exact At.here | apply At.there))) | exact SubL.refl _ | apply SubL.skip))⟩
      | (rw [hfin]; exact fun w hS => ⟨rfl, hS.sub (by repeat (first | exact SubL.nil | (apply SubL.cons; (repeat (first | exact At.here | apply At.there))) | exact SubL.refl _ | apply SubL.skip))⟩)
def exX : List Nt := [⟨1, 0, (0, 0)⟩, ⟨2, 0, (2, 4)⟩, ⟨3, 0, (3, 1)⟩, ⟨2, 0, (1, 1)⟩, ⟨4, 0, (1, 0)⟩]
theorem C_law3_Example (w : World) : CR Try.prog 32 [] w (fun _ : Nat => True) (fun b => .agg (cardC exF 0 (some ⟨b, 0, none⟩) 5 5).toArray) (fun b => [.own (some ⟨b, 0, none⟩) 5 40 4 5 (encN exX)]) := by
  refine ⟨en Try.func32 Try.ntmps32 (St.init w) (h := fun F => ?_)⟩
  refine sq (h := ?_)
  refine rg (h := ?_)
  refine al (h := fun b0 => ?_)
  refine nl (h := ?_)
  refine q_seq (h := ?_)
  refine sq (h := ?_)
  refine rg (h := ?_)
  refine cl (hc := fun w hS => C_law1_Example w) (h := fun x0 _ => ?_)
  refine WL.y (hy := mv) (h := ?_)
  refine WL.y (hy := ex) (h := ?_)
  refine WL.y (hy := ex) (h := ?_)
  refine al (h := fun b1 => ?_)
  first | refine stA (h := ?_) | refine stEA (h := ?_)
  refine WL.y (hy := asg) (h := ?_)
  refine nl (h := ?_)
  refine q_seq (h := ?_)
  refine sq (h := ?_)
  refine rg (h := ?_)
  refine WL.y (hy := (by first | exact ldA | exact ldEA)) (h := ?_)
  refine WL.y (hy := bd) (h := ?_)
  refine WL.y (hy := bd) (h := ?_)
  refine WL.y (hy := bd) (h := ?_)
  refine WL.y (hy := bd) (h := ?_)
  refine WL.y (hy := bd) (h := ?_)
  refine WL.y (hy := bd) (h := ?_)
  refine WL.y (hy := bd) (h := ?_)
  refine WL.y (hy := bd) (h := ?_)
  refine WL.y (hy := bd) (h := ?_)
  refine bs (h := fun b2 => ?_)
  refine WL.y (hy := bd) (h := ?_)
  first | refine stA (h := ?_) | refine stEA (h := ?_)
  refine nl (h := ?_)
  refine q_seq (h := ?_)
  refine rtn (h := ?_)
  refine q_ret (hR := ?_)
  exact fun w hS => ⟨_, trivial, rfl, hS.sub (by repeat (first | exact SubL.nil | (apply SubL.cons; (repeat (first | exact At.here | apply At.there))) | exact SubL.refl _ | apply SubL.skip))⟩
theorem ex_chk : chkC exF 0 exX = 0 := by kernel_rfl
theorem ex_bad : badC exF 0 exX = -1 := by kernel_rfl
theorem ex_most : mostS exX = 6 := by kernel_rfl
theorem ex_boards : boardsC (keyC (crowdC exF 0 exX)) = [⟨[], (1, 0), (0, 0)⟩] := by kernel_rfl
theorem ex_cnt : cntC exF 0 exX = (5, 5) := by kernel_rfl
theorem ex_sure : sureB exF 0 exX ⟨6, 1, (0, 0)⟩ = true := by kernel_rfl
theorem ex_len : (crowdC exF 0 exX).length = 1 := by kernel_rfl
end Go.Proofs.Ytncoimjgjpcipaa

namespace Go.Proofs.Ytncoimjgjpcipaa
open Go Go.RowKit

theorem ex_all : allB exF 0 exX = -1 := by rw [allB, ex_chk, ex_bad]; rfl
theorem ex_pos : posE exF 0 exX = 0 := by rw [posE, ex_chk, ex_bad]; rfl
theorem ex_cntV : cntV exF 0 exX = (5, 5) := by rw [cntV, ex_pos, ex_cnt]; rfl
theorem ex_sureE : sureE exF 0 exX ⟨6, 1, (0, 0)⟩ = 0 := by rw [sureE, ex_chk, ex_pos]; rfl
theorem ex_sureV : sureV exF 0 exX ⟨6, 1, (0, 0)⟩ = true := by rw [sureV, ex_sureE, ex_sure]; rfl
theorem ex_bd {o : Option BDR} (h : BdOk exF 0 exX o) : ∃ A A' c c', o = some ⟨[⟨⟨[], (1, 0), (0, 0)⟩, A', c'⟩], A, c⟩ := by
  cases o with
  | none => exact absurd ex_pos h
  | some s =>
    obtain ⟨zs, A, c⟩ := s
    have h2 := h.2.1
    rw [ex_boards] at h2
    dsimp only at h2
    cases zs with
    | nil => simp at h2
    | cons x l =>
      cases l with
      | cons _ _ => simp at h2
      | nil =>
        obtain ⟨b, A', c'⟩ := x
        simp only [List.map_cons, List.map_nil, List.cons.injEq, and_true] at h2
        subst h2
        exact ⟨A, A', c, c', rfl⟩
set_option maxRecDepth 100000 in
theorem C_law3_works (w : World) : C0 Try.prog 11 [] w (.bool true) := by
  refine ⟨en Try.func11 Try.ntmps11 (St.init w) (h := fun F => ?_)⟩
  refine sq (h := ?_)
  refine rg (h := ?_)
  refine WL.y (hy := asg) (h := ?_)
  refine nl (h := ?_)
  refine q_seq (h := ?_)
  refine sq (h := ?_)
  refine rg (h := ?_)
  refine cl (hc := fun w hS => C_law3_Example w) (h := fun x0 _ => ?_)
  refine al (h := fun b0 => ?_)
  first | refine stA (h := ?_) | refine stEA (h := ?_)
  refine nl (h := ?_)
  refine q_seq (h := ?_)
  refine sq (h := ?_)
  refine rg (h := ?_)
  refine WL.y (hy := (by first | exact ldA | exact ldEA)) (h := ?_)
  refine cl0 (hc := fun w hS => C_card_First exF 0 exX (some ⟨x0, 0, none⟩) 5 5 w (hS.get (by repeat (first | exact Rds.ro | exact Rds.own | apply Rds.there))) (by omega) (fun _ => by rw [ex_most]; decide)) (h := ?_)
  rw [ex_all, ex_chk]
  refine WL.y (hy := mv) (h := ?_)
  refine WL.y (hy := ex) (h := ?_)
  refine WL.y (hy := ex) (h := ?_)
  refine WL.y (hy := asg) (h := ?_)
  refine WL.y (hy := asg) (h := ?_)
  refine nl (h := ?_)
  refine q_seq (h := ?_)
  refine sq (h := ?_)
  refine rg (h := ?_)
  refine WL.y (hy := (by first | exact ldA | exact ldEA)) (h := ?_)
  refine cl (hfresh := fun o => by cases o <;> rfl) (hc := fun w hS => C_card_Boards exF 0 exX (some ⟨x0, 0, none⟩) 5 5 w (hS.get (by repeat (first | exact Rds.ro | exact Rds.own | apply Rds.there))) (by omega) (fun _ => by rw [ex_most]; decide) (by rw [ex_len]; decide)) (h := fun o ho => ?_)
  obtain ⟨A1, A2, c1, c2, rfl⟩ := ex_bd ho
  rw [ex_pos]
  refine WL.subL (L' := [.own A1 c1 44 5 1 (encX [⟨⟨[], (1, 0), (0, 0)⟩, A2, c2⟩]), .blk b0 26 (cardC exF 0 (some ⟨x0, 0, none⟩) 5 5), .own (some ⟨x0, 0, none⟩) 5 40 4 5 (encN exX)]) (by repeat (first | exact SubL.nil | (apply SubL.cons; (repeat (first | exact At.here | apply At.there))) | exact SubL.refl _ | apply SubL.skip)) ?_
  refine WL.y (hy := mv) (h := ?_)
  refine WL.y (hy := ex) (h := ?_)
  refine WL.y (hy := ex) (h := ?_)
  refine WL.y (hy := asg) (h := ?_)
  refine WL.y (hy := asg) (h := ?_)
  refine nl (h := ?_)
  refine q_seq (h := ?_)
  refine sq (h := ?_)
  refine rg (h := ?_)
  refine WL.y (hy := (by first | exact ldA | exact ldEA)) (h := ?_)
  refine cl0 (hc := fun w hS => C_card_Count exF 0 exX (some ⟨x0, 0, none⟩) 5 5 w (hS.get (by repeat (first | exact Rds.ro | exact Rds.own | apply Rds.there))) (by omega) (fun _ => by rw [ex_most]; decide)) (h := ?_)
  rw [ex_cntV, ex_pos]
  refine WL.y (hy := mv) (h := ?_)
  refine WL.y (hy := ex) (h := ?_)
  refine WL.y (hy := ex) (h := ?_)
  refine al (h := fun b1 => ?_)
  first | refine stA (h := ?_) | refine stEA (h := ?_)
  refine WL.y (hy := asg) (h := ?_)
  refine nl (h := ?_)
  refine q_seq (h := ?_)
  refine sq (h := ?_)
  refine rg (h := ?_)
  refine WL.y (hy := (by first | exact ldA | exact ldEA)) (h := ?_)
  refine WL.y (hy := bd) (h := ?_)
  refine cl0 (hc := fun w hS => C_card_Sure exF 0 exX ⟨6, 1, (0, 0)⟩ (some ⟨x0, 0, none⟩) 5 5 w (hS.get (by repeat (first | exact Rds.ro | exact Rds.own | apply Rds.there))) (by omega) (fun _ => by rw [ex_most]; decide)) (h := ?_)
  rw [ex_sureV, ex_sureE]
  refine WL.y (hy := mv) (h := ?_)
  refine WL.y (hy := ex) (h := ?_)
  refine WL.y (hy := ex) (h := ?_)
  refine WL.y (hy := asg) (h := ?_)
  refine WL.y (hy := asg) (h := ?_)
  refine nl (h := ?_)
  refine q_seq (h := ?_)
  refine sq (h := ?_)
  refine rg (h := ?_)
  refine WL.y (hy := mv) (h := ?_)
  refine WL.y (hy := eql) (h := ?_)
  refine WL.y (hy := mv) (h := ?_)
  apply brAnd 3 34 37 (by exact rfl)
  · intro hb0
    refine un (h := ?_)
    refine WL.y (hy := mv) (h := ?_)
    refine un (h := ?_)
    refine WL.y (hy := eql) (h := ?_)
    refine WL.y (hy := (by first | exact pkT | exact pkF)) (h := ?_)
    exact mg (by repeat (first | exact trivial | refine ⟨rfl, ?_⟩ | refine ⟨by rw [hb0]; rfl, ?_⟩)) (by repeat (first | exact SubL.nil | (apply SubL.cons; (repeat (first | exact At.here | apply At.there))) | exact SubL.refl _ | apply SubL.skip))
  · intro hb0
    repeat (first | refine un (h := ?_) | refine sk (h := ?_) | refine WL.y (hy := pkF) (h := ?_) | refine WL.y (hy := pkT) (h := ?_))
    exact mg (by repeat (first | exact trivial | refine ⟨rfl, ?_⟩ | refine ⟨by rw [hb0]; rfl, ?_⟩)) (by repeat (first | exact SubL.nil | (apply SubL.cons; (repeat (first | exact At.here | apply At.there))) | exact SubL.refl _ | apply SubL.skip))
  refine WL.y (hy := mv) (h := ?_)
  apply brAnd 3 38 41 (by exact rfl)
  · intro hb1
    refine un (h := ?_)
    refine WL.y (hy := mv) (h := ?_)
    refine un (h := ?_)
    refine WL.y (hy := eql) (h := ?_)
    refine WL.y (hy := (by first | exact pkT | exact pkF)) (h := ?_)
    exact mg (by repeat (first | exact trivial | refine ⟨rfl, ?_⟩ | refine ⟨by rw [hb1]; rfl, ?_⟩)) (by repeat (first | exact SubL.nil | (apply SubL.cons; (repeat (first | exact At.here | apply At.there))) | exact SubL.refl _ | apply SubL.skip))
  · intro hb1
    repeat (first | refine un (h := ?_) | refine sk (h := ?_) | refine WL.y (hy := pkF) (h := ?_) | refine WL.y (hy := pkT) (h := ?_))
    exact mg (by repeat (first | exact trivial | refine ⟨rfl, ?_⟩ | refine ⟨by rw [hb1]; rfl, ?_⟩)) (by repeat (first | exact SubL.nil | (apply SubL.cons; (repeat (first | exact At.here | apply At.there))) | exact SubL.refl _ | apply SubL.skip))
  refine WL.y (hy := mv) (h := ?_)
  apply brAnd 3 42 45 (by exact rfl)
  · intro hb2
    refine un (h := ?_)
    refine WL.y (hy := mv) (h := ?_)
    refine un (h := ?_)
    refine WL.y (hy := eql) (h := ?_)
    refine WL.y (hy := (by first | exact pkT | exact pkF)) (h := ?_)
    exact mg (by repeat (first | exact trivial | refine ⟨rfl, ?_⟩ | refine ⟨by rw [hb2]; rfl, ?_⟩)) (by repeat (first | exact SubL.nil | (apply SubL.cons; (repeat (first | exact At.here | apply At.there))) | exact SubL.refl _ | apply SubL.skip))
  · intro hb2
    repeat (first | refine un (h := ?_) | refine sk (h := ?_) | refine WL.y (hy := pkF) (h := ?_) | refine WL.y (hy := pkT) (h := ?_))
    exact mg (by repeat (first | exact trivial | refine ⟨rfl, ?_⟩ | refine ⟨by rw [hb2]; rfl, ?_⟩)) (by repeat (first | exact SubL.nil | (apply SubL.cons; (repeat (first | exact At.here | apply At.there))) | exact SubL.refl _ | apply SubL.skip))
  refine WL.y (hy := mv) (h := ?_)
  apply brAnd 3 46 49 (by exact rfl)
  · intro hb3
    refine un (h := ?_)
    refine WL.y (hy := mv) (h := ?_)
    refine un (h := ?_)
    refine WL.y (hy := eql) (h := ?_)
    refine WL.y (hy := (by first | exact pkT | exact pkF)) (h := ?_)
    exact mg (by repeat (first | exact trivial | refine ⟨rfl, ?_⟩ | refine ⟨by rw [hb3]; rfl, ?_⟩)) (by repeat (first | exact SubL.nil | (apply SubL.cons; (repeat (first | exact At.here | apply At.there))) | exact SubL.refl _ | apply SubL.skip))
  · intro hb3
    repeat (first | refine un (h := ?_) | refine sk (h := ?_) | refine WL.y (hy := pkF) (h := ?_) | refine WL.y (hy := pkT) (h := ?_))
    exact mg (by repeat (first | exact trivial | refine ⟨rfl, ?_⟩ | refine ⟨by rw [hb3]; rfl, ?_⟩)) (by repeat (first | exact SubL.nil | (apply SubL.cons; (repeat (first | exact At.here | apply At.there))) | exact SubL.refl _ | apply SubL.skip))
  refine WL.y (hy := mv) (h := ?_)
  apply brAnd 4 50 54 (by exact rfl)
  · intro hb4
    refine un (h := ?_)
    refine WL.y (hy := mv) (h := ?_)
    refine un (h := ?_)
    refine WL.y (hy := lenS) (h := ?_)
    refine un (h := ?_)
    refine WL.y (hy := eql) (h := ?_)
    refine WL.y (hy := (by first | exact pkT | exact pkF)) (h := ?_)
    exact mg (by repeat (first | exact trivial | refine ⟨rfl, ?_⟩ | refine ⟨by rw [hb4]; rfl, ?_⟩)) (by repeat (first | exact SubL.nil | (apply SubL.cons; (repeat (first | exact At.here | apply At.there))) | exact SubL.refl _ | apply SubL.skip))
  · intro hb4
    repeat (first | refine un (h := ?_) | refine sk (h := ?_) | refine WL.y (hy := pkF) (h := ?_) | refine WL.y (hy := pkT) (h := ?_))
    exact mg (by repeat (first | exact trivial | refine ⟨rfl, ?_⟩ | refine ⟨by rw [hb4]; rfl, ?_⟩)) (by repeat (first | exact SubL.nil | (apply SubL.cons; (repeat (first | exact At.here | apply At.there))) | exact SubL.refl _ | apply SubL.skip))
  refine WL.y (hy := mv) (h := ?_)
  apply brAnd 7 55 62 (by exact rfl)
  · intro hb5
    refine un (h := ?_)
    refine WL.y (hy := mv) (h := ?_)
    refine un (h := ?_)
    refine WL.y (hy := ix (A := A1) (m := 1)) (h := ?_)
    refine un (h := ?_)
    refine WL.y (hy := (by first | exact fa | exact faE)) (h := ?_)
    refine un (h := ?_)
    refine WL.y (hy := ldEA (A := A1) (k := 0) (hk := rfl)) (h := ?_)
    refine un (h := ?_)
    refine WL.y (hy := bd) (h := ?_)
    refine un (h := ?_)
    refine WL.y (hy := eqlT) (h := ?_)
    refine WL.y (hy := (by first | exact pkT | exact pkF)) (h := ?_)
    exact mg (by repeat (first | exact trivial | refine ⟨rfl, ?_⟩ | refine ⟨by rw [hb5]; rfl, ?_⟩)) (by repeat (first | exact SubL.nil | (apply SubL.cons; (repeat (first | exact At.here | apply At.there))) | exact SubL.refl _ | apply SubL.skip))
  · intro hb5
    repeat (first | refine un (h := ?_) | refine sk (h := ?_) | refine WL.y (hy := pkF) (h := ?_) | refine WL.y (hy := pkT) (h := ?_))
    exact mg (by repeat (first | exact trivial | refine ⟨rfl, ?_⟩ | refine ⟨by rw [hb5]; rfl, ?_⟩)) (by repeat (first | exact SubL.nil | (apply SubL.cons; (repeat (first | exact At.here | apply At.there))) | exact SubL.refl _ | apply SubL.skip))
  refine WL.y (hy := mv) (h := ?_)
  apply brAnd 4 63 67 (by exact rfl)
  · intro hb6
    refine un (h := ?_)
    refine WL.y (hy := (by first | exact ldA | exact ldEA)) (h := ?_)
    refine un (h := ?_)
    refine WL.y (hy := bd) (h := ?_)
    refine un (h := ?_)
    refine WL.y (hy := eqlT) (h := ?_)
    refine WL.y (hy := (by first | exact pkT | exact pkF)) (h := ?_)
    exact mg (by repeat (first | exact trivial | refine ⟨rfl, ?_⟩ | refine ⟨by rw [hb6]; rfl, ?_⟩)) (by repeat (first | exact SubL.nil | (apply SubL.cons; (repeat (first | exact At.here | apply At.there))) | exact SubL.refl _ | apply SubL.skip))
  · intro hb6
    repeat (first | refine un (h := ?_) | refine sk (h := ?_) | refine WL.y (hy := pkF) (h := ?_) | refine WL.y (hy := pkT) (h := ?_))
    exact mg (by repeat (first | exact trivial | refine ⟨rfl, ?_⟩ | refine ⟨by rw [hb6]; rfl, ?_⟩)) (by repeat (first | exact SubL.nil | (apply SubL.cons; (repeat (first | exact At.here | apply At.there))) | exact SubL.refl _ | apply SubL.skip))
  refine WL.y (hy := mv) (h := ?_)
  apply brAnd 2 68 70 (by exact rfl)
  · intro hb7
    refine un (h := ?_)
    refine WL.y (hy := mv) (h := ?_)
    refine WL.y (hy := (by first | exact pkT | exact pkF)) (h := ?_)
    exact mg (by repeat (first | exact trivial | refine ⟨rfl, ?_⟩ | refine ⟨by rw [hb7]; rfl, ?_⟩)) (by repeat (first | exact SubL.nil | (apply SubL.cons; (repeat (first | exact At.here | apply At.there))) | exact SubL.refl _ | apply SubL.skip))
  · intro hb7
    repeat (first | refine un (h := ?_) | refine sk (h := ?_) | refine WL.y (hy := pkF) (h := ?_) | refine WL.y (hy := pkT) (h := ?_))
    exact mg (by repeat (first | exact trivial | refine ⟨rfl, ?_⟩ | refine ⟨by rw [hb7]; rfl, ?_⟩)) (by repeat (first | exact SubL.nil | (apply SubL.cons; (repeat (first | exact At.here | apply At.there))) | exact SubL.refl _ | apply SubL.skip))
  refine WL.y (hy := asg) (h := ?_)
  refine nl (h := ?_)
  refine q_seq (h := ?_)
  refine rtn (h := ?_)
  refine q_ret (hR := ?_)
  exact fun w hS => ⟨rfl, hS.sub .nil⟩
end Go.Proofs.Ytncoimjgjpcipaa

namespace Go.Proofs.Ytncoimjgjpcipaa
open Go Go.RowKit

theorem chk_of {f : Fmt} {cf : Int} {xs : List Nt} (h1 : chkF f = 0) (h2 : -1 ≤ cf ∧ cf ≤ 1) (h3 : xs.length ≤ 30) (h4 : ∀ x ∈ xs, mkV x = true) (h5 : mostS xs ≤ 600) : chkC f cf xs = 0 := by
  have e1 : headB f cf xs.length = false := by
    unfold headB
    rw [decide_eq_true h1, show wi cf (-1) 1 = true from wi_iff.2 h2, decide_eq_false (by omega)]; rfl
  rw [chkC, e1, List.all_eq_true.2 h4, decide_eq_false (by omega)]; rfl
theorem misN_nn {x : Nt} (h : mkV x = true) : 0 ≤ misN x ∧ 0 ≤ mostN x := by
  have h1 := (exp_mis (xs := [x]) (by simpa using h)).2.2
  have h2 := most_bd h
  exact ⟨by simpa [misS] using h1, by omega⟩
theorem sub_sums {ys xs : List Nt} (hs : ys.Sublist xs) (h : ∀ x ∈ xs, mkV x = true) : misS ys ≤ misS xs ∧ mostS ys ≤ mostS xs := by
  induction hs with
  | slnil => exact ⟨Int.le_refl _, Int.le_refl _⟩
  | @cons l1 l2 a hs ih =>
    obtain ⟨h1, h2⟩ := ih fun x hx => h x (by simp [hx])
    obtain ⟨h3, h4⟩ := misN_nn (h a (by simp))
    have e2 : misS (a :: l2) = misN a + misS l2 := by unfold misS; rw [List.map_cons, List.sum_cons]
    have e3 : mostS (a :: l2) = mostN a + mostS l2 := by unfold mostS; rw [List.map_cons, List.sum_cons]
    omega
  | @cons_cons l1 l2 a hs ih =>
    obtain ⟨h1, h2⟩ := ih fun x hx => h x (by simp [hx])
    have e : ∀ l : List Nt, misS (a :: l) = misN a + misS l ∧ mostS (a :: l) = mostN a + mostS l := fun l => by unfold misS mostS; rw [List.map_cons, List.sum_cons, List.map_cons, List.sum_cons]; exact ⟨rfl, rfl⟩
    have e1 := e l1
    have e2 := e l2
    omega
theorem Rdy.sub {f : Fmt} {cf : Int} {ys xs : List Nt} (h : Rdy f cf xs) (hs : ys.Sublist xs) : Rdy f cf ys := by
  obtain ⟨h1, h2⟩ := sub_sums hs h.mks
  obtain ⟨c1, c2, c3, c4, c5, c6⟩ := chk_facts h.c
  have hn := h.n
  have hm := h.m
  have hi := h.mis
  have hl := hs.length_le
  exact rdy_of (chk_of c1 c3 (by omega) (fun x hx => c5 x (hs.subset hx)) (by omega)) (by omega) (by omega)
theorem Rdy.take {f : Fmt} {cf : Int} {xs : List Nt} (h : Rdy f cf xs) (k : Nat) : Rdy f cf (xs.take k) := h.sub (List.take_sublist _ _)
theorem encN_set (xs : List Nt) (k : Nat) (x : Nt) : (encN xs).set k x.cells = encN (xs.set k x) := by unfold encN; rw [List.map_set]
theorem bad_rng (f : Fmt) (cf : Int) (xs : List Nt) : -1 ≤ badC f cf xs ∧ badC f cf xs < xs.length := by
  unfold badC
  rcases fstC_spec (fun i => (crowdC f cf (xs.take (i + 1))).isEmpty) xs.length with ⟨h1, _⟩ | ⟨k, hk, h1, _⟩ <;> rw [h1] <;> omega
theorem Rdy.pos {f : Fmt} {cf : Int} {xs : List Nt} (h : Rdy f cf xs) : posE f cf xs = if badC f cf xs = -1 then 0 else 3 := by
  have hb := bad_rng f cf xs
  rw [posE, decide_eq_true h.c, cond_true]
  by_cases e : badC f cf xs = -1
  · rw [if_pos e, e]; rfl
  · rw [if_neg e, decide_eq_true (show 0 ≤ badC f cf xs by omega)]; rfl
theorem Rdy.all {f : Fmt} {cf : Int} {xs : List Nt} (h : Rdy f cf xs) : allB f cf xs = badC f cf xs := by rw [allB, decide_eq_true h.c]; rfl

section rules
variable {F : Fence} {P : Program} {ops : Array Oper} {Q : Exit → Act → World → Prop} {rest : List Oper} {n : Nat} {D : List Deferred} {l : Env} {w0 : World} {L M : List Ent}
variable {d : Nat} {ty : TypeId} {pos : String} {aft : Array Edge}
theorem stEJ {x y : Operand} {t T : TypeId} {bytes size sz cap m k j : Nat} {z : Value} {zl : List Value} {A : Option Addr} {es : List (List Value)} {cs vs : List Value} (hx : ev l x = some (pe A sz k j) := by exact rfl) (hy : ev l y = some (.agg vs.toArray) := by exact rfl)
    (hT : Ty P t true size bytes z zl := by infer_instance) (h1 : vs.all (·.oneCell') = true := by rfl) (hsz : vs.length = size := by rfl)
    (ha : At L (.own A cap T sz m es) M := by repeat (first | exact At.here | apply At.there)) (hk : es[k]? = some cs) (hj : Nat.ble (j + vs.length) sz = true := by rfl)
    (h : WL F P ops Q rest n D l w0 (.own A cap T sz m (es.set k (putAll cs j vs)) :: M)) : WL F P ops Q (⟨none, .store t x y, ty, pos, aft, none⟩ :: rest) n D l w0 L :=
  WL.skipop (by simp) (fun ac w hfr hst => by
    have hst1 := hst.pull ha
    have hrd := (hst1.ok _ List.mem_cons_self).2
    have hlen : es.length = m := hrd.len
    obtain ⟨ad, rfl⟩ := hrd.some_ (by have := (List.getElem?_eq_some_iff.1 hk).1; omega)
    obtain ⟨w', hr, hs⟩ := run_storeRow (P := P) vs j w es _ hst1 hk (by simpa [Nat.ble_eq] using hj) (by simpa using h1)
    refine ⟨w', ?_, hs⟩
    have he := hfr.eval hx
    have hr' := hr ad rfl
    have hr2 : (storeCells (ad.add (k * sz + j)) vs).run P w = .ok () w' := by
      have e : ∀ (vs : List Value) (i : Nat) (w : World), (storeCells (ad.add (k * sz)) vs (j + i)).run P w = (storeCells (ad.add (k * sz + j)) vs i).run P w := fun vs => by
        induction vs with
        | nil => intro i w; simp [storeCells]
        | cons v vs ih =>
          intro i w
          unfold storeCells
          rw [Sem.run_bind, Sem.run_bind, add_add', add_add', show k * sz + (j + i) = k * sz + j + i by omega]
          congr 1
          funext u w2
          exact ih (i + 1) w2
      rw [← e vs 0 w]; exact hr'
    simp [execOp, he, pe, hfr.eval hy, Instr.storeAt, Instr.sureAddr, storeVar, run_sizeOf hT, Value.cells, hsz, hr2]) h
end rules
theorem sub_swap : ∀ (L R : List Ent), SubL (R ++ L) (L ++ R)
  | L, [] => by rw [List.append_nil]; exact SubL.refl _
  | L, r :: R => by
    have : ∀ L : List Ent, At (L ++ r :: R) r (L ++ R) := fun L => by
      induction L with
      | nil => exact .here
      | cons x L ih => exact .there ih
    exact .cons (this L) (sub_swap L R)
theorem set_mid {α : Type} {xs : List α} {k : Nat} {x x' : α} (h : xs[k]? = some x) : xs = xs.take k ++ x :: xs.drop (k + 1) ∧ xs.set k x' = xs.take k ++ x' :: xs.drop (k + 1) := by
  obtain ⟨hk, hx⟩ := List.getElem?_eq_some_iff.1 h
  subst hx
  exact ⟨by simp, by rw [List.set_eq_take_append_cons_drop, if_pos hk]⟩
theorem crowd_set {f : Fmt} {cf : Int} {xs : List Nt} {k : Nat} {x x' : Nt} (hx : xs[k]? = some x) (h : ∀ t u, Rel f x t u → Rel f x' t u) {s : Spot} (hs : s ∈ keyC (crowdC f cf xs)) : s ∈ keyC (crowdC f cf (xs.set k x')) := by
  obtain ⟨e1, e2⟩ := set_mid (x' := x') hx
  rw [e1] at hs
  rw [e2]
  rw [crowd_run] at hs ⊢
  exact run_looser h hs
theorem crowd_first {f : Fmt} {cf : Int} {xs : List Nt} {s : Spot} (hs : s ∈ keyC (crowdC f cf xs)) : s ∈ keyC (crowdC f (-1) xs) := by
  rw [crowd_run] at hs ⊢
  exact run_mono (fun t ht => beg_looser cf ht) hs
structure Lsr (f : Fmt) (cf : Int) (xs : List Nt) (cf' : Int) (xs' : List Nt) : Prop where
  len : xs'.length = xs.length
  sub : ∀ s, s ∈ keyC (crowdC f cf xs) → s ∈ keyC (crowdC f cf' xs')
theorem lsr_side {f : Fmt} {cf : Int} {xs : List Nt} {k : Nat} {x : Nt} (hx : xs[k]? = some x) (h : x.kind = 1) : Lsr f cf xs cf (xs.set k ⟨x.kind, -1, x.pair⟩) := ⟨List.length_set .., fun _ => crowd_set hx fun _ _ => looser_side h⟩
theorem lsr_pair {f : Fmt} {cf : Int} {xs : List Nt} {k : Nat} {x : Nt} (hx : xs[k]? = some x) (h : x.kind = 2) {q : Pr} (ha : q.1 ≤ x.pair.1) (hb : x.pair.2 ≤ q.2) : Lsr f cf xs cf (xs.set k ⟨x.kind, x.side, q⟩) := ⟨List.length_set .., fun _ => crowd_set hx fun _ _ => looser_pair h ha hb⟩
theorem lsr_first (f : Fmt) (cf : Int) (xs : List Nt) : Lsr f cf xs (-1) xs := ⟨rfl, fun _ => crowd_first⟩
theorem Rdy.bad_key {f : Fmt} {cf : Int} {xs : List Nt} (h : Rdy f cf xs) : badC f cf xs = -1 ↔ ∃ s, s ∈ keyC (crowdC f cf xs) := by
  rw [bad_none h.cf]
  cases hc : crowdC f cf xs with
  | nil => exact ⟨fun e => absurd rfl e, fun ⟨s, hs⟩ => by cases hs⟩
  | cons e l => exact ⟨fun _ => ⟨e.1, by simp [keyC]⟩, fun _ => by simp⟩
theorem Lsr.pos {f : Fmt} {cf cf' : Int} {xs xs' : List Nt} (h : Lsr f cf xs cf' xs') (hR : Rdy f cf xs) (hR' : Rdy f cf' xs') (h0 : posE f cf xs = 0) : posE f cf' xs' = 0 := by
  rw [hR.pos] at h0
  by_cases e : badC f cf xs = -1
  · obtain ⟨s, hs⟩ := hR.bad_key.1 e
    rw [hR'.pos, if_pos (hR'.bad_key.2 ⟨s, h.sub s hs⟩)]
  · rw [if_neg e] at h0; cases h0
def fndX (zs : List BA) (b : Brd) (j : Nat) : Bool := (zs.take j).any fun y => decide (b = y.b)
theorem fnd_succ {zs : List BA} {b : Brd} {j : Nat} {y : BA} (h : zs[j]? = some y) : fndX zs b (j + 1) = (fndX zs b j || decide (b = y.b)) := by
  unfold fndX
  rw [List.take_add_one, h, List.any_append]; simp
theorem fnd_mem {zs : List BA} {b : Brd} (h : b ∈ zs.map (·.b)) : fndX zs b zs.length = true := by
  obtain ⟨y, hy, rfl⟩ := List.mem_map.1 h
  unfold fndX
  rw [List.take_length, List.any_eq_true]
  exact ⟨y, hy, decide_eq_true rfl⟩
theorem BdOk.some_ {f : Fmt} {cf : Int} {xs : List Nt} {o : Option BDR} (h : BdOk f cf xs o) (h0 : posE f cf xs = 0) : ∃ q, o = some q := by
  cases o with
  | none => exact absurd h0 h
  | some q => exact ⟨q, rfl⟩
theorem BdOk.mem {f : Fmt} {cf : Int} {xs : List Nt} {q : BDR} (h : BdOk f cf xs (some q)) (b : Brd) : b ∈ q.zs.map (·.b) ↔ ∃ s ∈ keyC (crowdC f cf xs), brdOf s = b := by
  rw [h.2.1]; exact (boards_facts _).2 b
end Go.Proofs.Ytncoimjgjpcipaa

namespace Go.Proofs.Ytncoimjgjpcipaa
open Go Go.RowKit

set_option maxRecDepth 100000 in
theorem K_CardLooser (f : Fmt) (cf : Int) (xs : List Nt) (A : Option Addr) (n c : Nat) (mark : Int) (by_ : Pr) (w : World) (h : Rd w A 4 n (encN xs)) (hn : n ≤ 9223372036854775807) : C0 Try.prog 4 [.agg (cardC f cf A n c).toArray, .int .i64 mark, .agg #[.int .i64 by_.1, .int .i64 by_.2]] w (.bool true) := by
  have hlen : xs.length = n := by have := h.len; rwa [encN_len] at this
  refine ⟨en Try.func4 Try.ntmps4 ((St.init w).share (e := .ro A 4 n (encN xs)) h rfl rfl rfl) (h := fun F => ?_)⟩
  refine sq (h := ?_)
  refine rg (h := ?_)
  refine bxA (h := fun b0 => ?_)
  refine bxA (h := fun b1 => ?_)
  refine WL.y (hy := asg) (h := ?_)
  refine nl (h := ?_)
  refine q_seq (h := ?_)
  refine sq (h := ?_)
  refine sq (h := ?_)
  refine rg (h := ?_)
  refine WL.y (hy := (by first | exact ldA | exact ldEA)) (h := ?_)
  refine cl0 (hc := fun w hS => C_law3_ready f cf xs A n c w (hS.get (by repeat (first | exact Rds.ro | exact Rds.own | apply Rds.there))) hn) (h := ?_)
  refine WL.y (hy := notB) (h := ?_)
  refine WL.y (hy := mv) (h := ?_)
  apply brOr 3 19 22 (by exact rfl)
  · intro hb0
    refine un (h := ?_)
    refine WL.y (hy := mv) (h := ?_)
    refine un (h := ?_)
    refine WL.y (hy := lss) (h := ?_)
    refine WL.y (hy := (by first | exact pkT | exact pkF)) (h := ?_)
    exact mg (by repeat (first | exact trivial | refine ⟨rfl, ?_⟩ | refine ⟨by rw [hb0]; rfl, ?_⟩)) (by repeat (first | exact SubL.nil | (apply SubL.cons; (repeat (first | exact At.here | apply At.there))) | exact SubL.refl _ | apply SubL.skip))
  · intro hb0
    repeat (first | refine un (h := ?_) | refine sk (h := ?_) | refine WL.y (hy := pkF) (h := ?_) | refine WL.y (hy := pkT) (h := ?_))
    exact mg (by repeat (first | exact trivial | refine ⟨rfl, ?_⟩ | refine ⟨by rw [hb0]; rfl, ?_⟩)) (by repeat (first | exact SubL.nil | (apply SubL.cons; (repeat (first | exact At.here | apply At.there))) | exact SubL.refl _ | apply SubL.skip))
  refine WL.y (hy := mv) (h := ?_)
  apply brOr 6 23 29 (by exact rfl)
  · intro hb1
    refine un (h := ?_)
    refine WL.y (hy := mv) (h := ?_)
    refine un (h := ?_)
    refine WL.y (hy := (by first | exact fa | exact faE)) (h := ?_)
    refine un (h := ?_)
    refine WL.y (hy := (by first | exact ld | exact ldE)) (h := ?_)
    refine un (h := ?_)
    refine WL.y (hy := lenS) (h := ?_)
    refine un (h := ?_)
    refine WL.y (hy := geq) (h := ?_)
    refine WL.y (hy := (by first | exact pkT | exact pkF)) (h := ?_)
    exact mg (by repeat (first | exact trivial | refine ⟨rfl, ?_⟩ | refine ⟨by rw [hb1]; rfl, ?_⟩)) (by repeat (first | exact SubL.nil | (apply SubL.cons; (repeat (first | exact At.here | apply At.there))) | exact SubL.refl _ | apply SubL.skip))
  · intro hb1
    repeat (first | refine un (h := ?_) | refine sk (h := ?_) | refine WL.y (hy := pkF) (h := ?_) | refine WL.y (hy := pkT) (h := ?_))
    exact mg (by repeat (first | exact trivial | refine ⟨rfl, ?_⟩ | refine ⟨by rw [hb1]; rfl, ?_⟩)) (by repeat (first | exact SubL.nil | (apply SubL.cons; (repeat (first | exact At.here | apply At.there))) | exact SubL.refl _ | apply SubL.skip))
  refine WL.y (hy := mv) (h := ?_)
  apply brOr 4 30 34 (by exact rfl)
  · intro hb2
    refine un (h := ?_)
    refine WL.y (hy := (by first | exact fa | exact faE)) (h := ?_)
    refine un (h := ?_)
    refine WL.y (hy := (by first | exact ld | exact ldE)) (h := ?_)
    refine un (h := ?_)
    refine WL.y (hy := lss) (h := ?_)
    refine WL.y (hy := (by first | exact pkT | exact pkF)) (h := ?_)
    exact mg (by repeat (first | exact trivial | refine ⟨rfl, ?_⟩ | refine ⟨by rw [hb2]; rfl, ?_⟩)) (by repeat (first | exact SubL.nil | (apply SubL.cons; (repeat (first | exact At.here | apply At.there))) | exact SubL.refl _ | apply SubL.skip))
  · intro hb2
    repeat (first | refine un (h := ?_) | refine sk (h := ?_) | refine WL.y (hy := pkF) (h := ?_) | refine WL.y (hy := pkT) (h := ?_))
    exact mg (by repeat (first | exact trivial | refine ⟨rfl, ?_⟩ | refine ⟨by rw [hb2]; rfl, ?_⟩)) (by repeat (first | exact SubL.nil | (apply SubL.cons; (repeat (first | exact At.here | apply At.there))) | exact SubL.refl _ | apply SubL.skip))
  refine WL.y (hy := mv) (h := ?_)
  apply brOr 4 35 39 (by exact rfl)
  · intro hb3
    refine un (h := ?_)
    refine WL.y (hy := (by first | exact fa | exact faE)) (h := ?_)
    refine un (h := ?_)
    refine WL.y (hy := (by first | exact ld | exact ldE)) (h := ?_)
    refine un (h := ?_)
    refine WL.y (hy := lss) (h := ?_)
    refine WL.y (hy := (by first | exact pkT | exact pkF)) (h := ?_)
    exact mg (by repeat (first | exact trivial | refine ⟨rfl, ?_⟩ | refine ⟨by rw [hb3]; rfl, ?_⟩)) (by repeat (first | exact SubL.nil | (apply SubL.cons; (repeat (first | exact At.here | apply At.there))) | exact SubL.refl _ | apply SubL.skip))
  · intro hb3
    repeat (first | refine un (h := ?_) | refine sk (h := ?_) | refine WL.y (hy := pkF) (h := ?_) | refine WL.y (hy := pkT) (h := ?_))
    exact mg (by repeat (first | exact trivial | refine ⟨rfl, ?_⟩ | refine ⟨by rw [hb3]; rfl, ?_⟩)) (by repeat (first | exact SubL.nil | (apply SubL.cons; (repeat (first | exact At.here | apply At.there))) | exact SubL.refl _ | apply SubL.skip))
  refine WL.y (hy := mv) (h := ?_)
  apply brOr 4 40 44 (by exact rfl)
  · intro hb4
    refine un (h := ?_)
    refine WL.y (hy := (by first | exact fa | exact faE)) (h := ?_)
    refine un (h := ?_)
    refine WL.y (hy := (by first | exact ld | exact ldE)) (h := ?_)
    refine un (h := ?_)
    refine WL.y (hy := gtr) (h := ?_)
    refine WL.y (hy := (by first | exact pkT | exact pkF)) (h := ?_)
    exact mg (by repeat (first | exact trivial | refine ⟨rfl, ?_⟩ | refine ⟨by rw [hb4]; rfl, ?_⟩)) (by repeat (first | exact SubL.nil | (apply SubL.cons; (repeat (first | exact At.here | apply At.there))) | exact SubL.refl _ | apply SubL.skip))
  · intro hb4
    repeat (first | refine un (h := ?_) | refine sk (h := ?_) | refine WL.y (hy := pkF) (h := ?_) | refine WL.y (hy := pkT) (h := ?_))
    exact mg (by repeat (first | exact trivial | refine ⟨rfl, ?_⟩ | refine ⟨by rw [hb4]; rfl, ?_⟩)) (by repeat (first | exact SubL.nil | (apply SubL.cons; (repeat (first | exact At.here | apply At.there))) | exact SubL.refl _ | apply SubL.skip))
  refine WL.y (hy := mv) (h := ?_)
  apply brOr 4 45 49 (by exact rfl)
  · intro hb5
    refine un (h := ?_)
    refine WL.y (hy := (by first | exact fa | exact faE)) (h := ?_)
    refine un (h := ?_)
    refine WL.y (hy := (by first | exact ld | exact ldE)) (h := ?_)
    refine un (h := ?_)
    refine WL.y (hy := gtr) (h := ?_)
    refine WL.y (hy := (by first | exact pkT | exact pkF)) (h := ?_)
    exact mg (by repeat (first | exact trivial | refine ⟨rfl, ?_⟩ | refine ⟨by rw [hb5]; rfl, ?_⟩)) (by repeat (first | exact SubL.nil | (apply SubL.cons; (repeat (first | exact At.here | apply At.there))) | exact SubL.refl _ | apply SubL.skip))
  · intro hb5
    repeat (first | refine un (h := ?_) | refine sk (h := ?_) | refine WL.y (hy := pkF) (h := ?_) | refine WL.y (hy := pkT) (h := ?_))
    exact mg (by repeat (first | exact trivial | refine ⟨rfl, ?_⟩ | refine ⟨by rw [hb5]; rfl, ?_⟩)) (by repeat (first | exact SubL.nil | (apply SubL.cons; (repeat (first | exact At.here | apply At.there))) | exact SubL.refl _ | apply SubL.skip))
  refine nl (h := ?_)
  refine q_seq (h := ?_)
  refine cd (by exact rfl) (fun h6 => ?_) (fun h6 => ?_)
  · skip
    refine sq (h := ?_)
    refine rg (h := ?_)
    refine cl0 (hc := fun w hS => C_law3_works w) (h := ?_)
    refine WL.y (hy := asg) (h := ?_)
    refine nl (h := ?_)
    refine q_seq (h := ?_)
    refine rtn (h := ?_)
    refine q_then_ret (h := ?_)
    refine q_ret (hR := ?_)
    first
      | exact fun w hS => ⟨rfl, hS.sub (by repeat (first | exact SubL.nil | (apply SubL.cons; (repeat (first | exact At.here | apply At.there))) | exact SubL.refl _ | apply SubL.skip))⟩
      | (refine fun w hS => ⟨?_, hS.sub (by repeat (first | exact SubL.nil | (apply SubL.cons; (repeat (first | exact At.here | apply At.there))) | exact SubL.refl _ | apply SubL.skip))⟩
         clear hS
         rw [hR'.pos]
         by_cases e : badC f cf' xs' = -1
         · rw [if_pos e]; rfl
         · rw [if_neg e]; rfl)
  · skip
    have h0 := h6
    simp only [Bool.or_eq_false_iff, Bool.not_eq_false', decide_eq_false_iff_not] at h0
    have hR := rdy_facts h0.1.1.1.1.1.1
    obtain ⟨k, rfl⟩ : ∃ k : Nat, mark = (k : Int) := ⟨mark.toNat, by omega⟩
    have hkn : k < n := by omega
    obtain ⟨x, hx⟩ : ∃ x, xs[k]? = some x := ⟨_, List.getElem?_eq_getElem (by omega)⟩
    have hxe := encN_at hx
    have hxm := mk_kind (hR.mks x (List.mem_of_getElem? hx))
    refine skp (h := ?_)
    refine q_seq (h := ?_)
    refine sq (h := ?_)
    refine rg (h := ?_)
    refine WL.y (hy := (by first | exact ldA | exact ldEA)) (h := ?_)
    refine cl (hc := fun w hS => C_ref3_Copy f cf xs A n c w (hS.get (by repeat (first | exact Rds.ro | exact Rds.own | apply Rds.there))) (by have := hR.n; omega)) (h := fun q _ => ?_)
    refine al (h := fun b2 => ?_)
    first | refine stA (h := ?_) | refine stEA (h := ?_)
    refine nl (h := ?_)
    refine q_seq (h := ?_)
    refine ct (X := Int × List Nt) (fun z => Lsr f cf xs z.1 z.2) (fun _ => [(3, .pointer (some ⟨b0, 0, none⟩)), (7, .pointer (some ⟨b2, 0, none⟩))]) (fun z => [.blk b2 26 (cardC f z.1 q.1 n q.2), .own q.1 q.2 40 4 n (encN z.2), .blk b0 26 (cardC f cf A n c), .ro A 4 n (encN xs)]) (h1 := ?_) (h2 := ?_)
    · skip
      refine sq (h := ?_)
      refine rg (h := ?_)
      refine WL.y (hy := (by first | exact fa | exact faE)) (h := ?_)
      refine WL.y (hy := (by first | exact ld | exact ldE)) (h := ?_)
      refine WL.y (hy := mv) (h := ?_)
      refine WL.y (hy := ix (A := q.1) (m := n) (hb := by omega)) (h := ?_)
      refine WL.y (hy := (by first | exact fa | exact faE)) (h := ?_)
      refine WL.y (hy := ldE (A := q.1) (hk := hxe)) (h := ?_)
      refine nl (h := ?_)
      refine q_seq (h := ?_)
      refine bk (h := ?_)
      refine sq (h := ?_)
      refine rg (h := ?_)
      refine WL.y (hy := eql) (h := ?_)
      refine WL.y (hy := asg) (h := ?_)
      refine nl (h := ?_)
      refine q_seq (h := ?_)
      refine cd (by exact rfl) (fun h7 => ?_) (fun h7 => ?_)
      · skip
        have hk1 : x.kind = 1 := of_decide_eq_true h7
        refine rg (h := ?_)
        refine WL.y (hy := (by first | exact fa | exact faE)) (h := ?_)
        refine WL.y (hy := (by first | exact ld | exact ldE)) (h := ?_)
        refine WL.y (hy := mv) (h := ?_)
        refine WL.y (hy := ix (A := q.1) (m := n) (hb := by omega)) (h := ?_)
        refine WL.y (hy := (by first | exact fa | exact faE)) (h := ?_)
        refine stE (A := q.1) (k := k) (j := 1) (hk := hxe) (h := ?_)
        refine nl (h := ?_)
        refine q_blk_norm (h := ?_)
        first
          | exact ctn (cf, xs.set k ⟨x.kind, -1, x.pair⟩) (lsr_side hx hk1) (by repeat (first | exact trivial | refine ⟨rfl, ?_⟩)) (by rw [← encN_set]; exact (by repeat (first | exact SubL.nil | (apply SubL.cons; (repeat (first | exact At.here | apply At.there))) | exact SubL.refl _ | apply SubL.skip)))
          | exact ctn (cf, xs.set k ⟨x.kind, x.side, (max 0 (x.pair.1 - by_.1), min 30 (x.pair.2 + by_.2))⟩) (lsr_pair hx hk2 (by show max 0 (x.pair.1 - by_.1) ≤ _; omega) (by show _ ≤ min 30 (x.pair.2 + by_.2); omega)) (by repeat (first | exact trivial | refine ⟨rfl, ?_⟩)) (by rw [← encN_set]; exact (by repeat (first | exact SubL.nil | (apply SubL.cons; (repeat (first | exact At.here | apply At.there))) | exact SubL.refl _ | apply SubL.skip)))
          | exact ctn (-1, xs) (lsr_first f cf xs) (by repeat (first | exact trivial | refine ⟨rfl, ?_⟩)) (by repeat (first | exact SubL.nil | (apply SubL.cons; (repeat (first | exact At.here | apply At.there))) | exact SubL.refl _ | apply SubL.skip))
      · skip
        refine sq (h := ?_)
        refine rg (h := ?_)
        refine WL.y (hy := eql) (h := ?_)
        refine WL.y (hy := asg) (h := ?_)
        refine nl (h := ?_)
        refine q_seq (h := ?_)
        refine cd (by exact rfl) (fun h8 => ?_) (fun h8 => ?_)
        · skip
          have hk2 : x.kind = 2 := of_decide_eq_true h8
          have hpb := hxm.2.2.1 hk2
          refine sq (h := ?_)
          refine rg (h := ?_)
          refine WL.y (hy := (by first | exact fa | exact faE)) (h := ?_)
          refine WL.y (hy := (by first | exact ld | exact ldE)) (h := ?_)
          refine WL.y (hy := mv) (h := ?_)
          refine WL.y (hy := ix (A := q.1) (m := n) (hb := by omega)) (h := ?_)
          refine WL.y (hy := (by first | exact fa | exact faE)) (h := ?_)
          refine WL.y (hy := ldEA (A := q.1) (hk := hxe)) (h := ?_)
          refine al (h := fun b3 => ?_)
          first | refine stA (h := ?_) | refine stEA (h := ?_)
          refine nl (h := ?_)
          refine q_seq (h := ?_)
          refine rg (h := ?_)
          refine WL.y (hy := (by first | exact fa | exact faE)) (h := ?_)
          refine WL.y (hy := (by first | exact ld | exact ldE)) (h := ?_)
          refine WL.y (hy := mv) (h := ?_)
          refine WL.y (hy := (by first | exact fa | exact faE)) (h := ?_)
          refine WL.y (hy := (by first | exact ld | exact ldE)) (h := ?_)
          refine WL.y (hy := (by first | exact fa | exact faE)) (h := ?_)
          refine WL.y (hy := (by first | exact ld | exact ldE)) (h := ?_)
          refine WL.y (hy := subI (hb := by omega)) (h := ?_)
          refine WL.y (hy := maxI) (h := ?_)
          refine WL.y (hy := (by first | exact fa | exact faE)) (h := ?_)
          refine WL.y (hy := (by first | exact ld | exact ldE)) (h := ?_)
          refine WL.y (hy := (by first | exact fa | exact faE)) (h := ?_)
          refine WL.y (hy := (by first | exact ld | exact ldE)) (h := ?_)
          refine WL.y (hy := addI (hb := by omega)) (h := ?_)
          refine WL.y (hy := minI) (h := ?_)
          refine WL.y (hy := bd) (h := ?_)
          refine WL.y (hy := ix (A := q.1) (m := n) (hb := by omega)) (h := ?_)
          refine WL.y (hy := (by first | exact fa | exact faE)) (h := ?_)
          refine stEJ (A := q.1) (k := k) (j := 2) (hk := hxe) (h := ?_)
          refine nl (h := ?_)
          refine q_blk_norm (h := ?_)
          first
            | exact ctn (cf, xs.set k ⟨x.kind, -1, x.pair⟩) (lsr_side hx hk1) (by repeat (first | exact trivial | refine ⟨rfl, ?_⟩)) (by rw [← encN_set]; exact (by repeat (first | exact SubL.nil | (apply SubL.cons; (repeat (first | exact At.here | apply At.there))) | exact SubL.refl _ | apply SubL.skip)))
            | exact ctn (cf, xs.set k ⟨x.kind, x.side, (max 0 (x.pair.1 - by_.1), min 30 (x.pair.2 + by_.2))⟩) (lsr_pair hx hk2 (by show max 0 (x.pair.1 - by_.1) ≤ _; omega) (by show _ ≤ min 30 (x.pair.2 + by_.2); omega)) (by repeat (first | exact trivial | refine ⟨rfl, ?_⟩)) (by rw [← encN_set]; exact (by repeat (first | exact SubL.nil | (apply SubL.cons; (repeat (first | exact At.here | apply At.there))) | exact SubL.refl _ | apply SubL.skip)))
            | exact ctn (-1, xs) (lsr_first f cf xs) (by repeat (first | exact trivial | refine ⟨rfl, ?_⟩)) (by repeat (first | exact SubL.nil | (apply SubL.cons; (repeat (first | exact At.here | apply At.there))) | exact SubL.refl _ | apply SubL.skip))
        · skip
          refine rg (h := ?_)
          refine WL.y (hy := (by first | exact fa | exact faE)) (h := ?_)
          first | refine st (h := ?_) | refine stE (h := ?_)
          refine nl (h := ?_)
          refine q_blk_norm (h := ?_)
          first
            | exact ctn (cf, xs.set k ⟨x.kind, -1, x.pair⟩) (lsr_side hx hk1) (by repeat (first | exact trivial | refine ⟨rfl, ?_⟩)) (by rw [← encN_set]; exact (by repeat (first | exact SubL.nil | (apply SubL.cons; (repeat (first | exact At.here | apply At.there))) | exact SubL.refl _ | apply SubL.skip)))
            | exact ctn (cf, xs.set k ⟨x.kind, x.side, (max 0 (x.pair.1 - by_.1), min 30 (x.pair.2 + by_.2))⟩) (lsr_pair hx hk2 (by show max 0 (x.pair.1 - by_.1) ≤ _; omega) (by show _ ≤ min 30 (x.pair.2 + by_.2); omega)) (by repeat (first | exact trivial | refine ⟨rfl, ?_⟩)) (by rw [← encN_set]; exact (by repeat (first | exact SubL.nil | (apply SubL.cons; (repeat (first | exact At.here | apply At.there))) | exact SubL.refl _ | apply SubL.skip)))
            | exact ctn (-1, xs) (lsr_first f cf xs) (by repeat (first | exact trivial | refine ⟨rfl, ?_⟩)) (by repeat (first | exact SubL.nil | (apply SubL.cons; (repeat (first | exact At.here | apply At.there))) | exact SubL.refl _ | apply SubL.skip))
    rintro ⟨cf', xs'⟩ hL
    refine sq (h := ?_)
    refine sq (h := ?_)
    refine rg (h := ?_)
    refine WL.y (hy := (by first | exact ldA | exact ldEA)) (h := ?_)
    refine cl0 (hc := fun w hS => C_law3_ready f cf' xs' q.1 n q.2 w (hS.get (by repeat (first | exact Rds.ro | exact Rds.own | apply Rds.there))) hn) (h := ?_)
    refine WL.y (hy := notB) (h := ?_)
    refine nl (h := ?_)
    refine q_seq (h := ?_)
    refine cd (by exact rfl) (fun h9 => ?_) (fun h9 => ?_)
    · skip
      refine sq (h := ?_)
      refine rg (h := ?_)
      refine cl0 (hc := fun w hS => C_law3_works w) (h := ?_)
      refine WL.y (hy := asg) (h := ?_)
      refine nl (h := ?_)
      refine q_seq (h := ?_)
      refine rtn (h := ?_)
      refine q_then_ret (h := ?_)
      refine q_ret (hR := ?_)
      first
        | exact fun w hS => ⟨rfl, hS.sub (by repeat (first | exact SubL.nil | (apply SubL.cons; (repeat (first | exact At.here | apply At.there))) | exact SubL.refl _ | apply SubL.skip))⟩
        | (refine fun w hS => ⟨?_, hS.sub (by repeat (first | exact SubL.nil | (apply SubL.cons; (repeat (first | exact At.here | apply At.there))) | exact SubL.refl _ | apply SubL.skip))⟩
           clear hS
           rw [hR'.pos]
           by_cases e : badC f cf' xs' = -1
           · rw [if_pos e]; rfl
           · rw [if_neg e]; rfl)
    · skip
      have hR' := rdy_facts (show rdyC f cf' xs' = true by simpa using h9)
      refine skp (h := ?_)
      refine q_seq (h := ?_)
      refine sq (h := ?_)
      refine rg (h := ?_)
      refine WL.y (hy := (by first | exact ldA | exact ldEA)) (h := ?_)
      refine cl (hfresh := fun o => by cases o <;> rfl) (hc := fun w hS => C_card_Boards f cf xs A n c w (hS.get (by repeat (first | exact Rds.ro | exact Rds.own | apply Rds.there))) hn (fun _ => by have := hR.m; omega) hR.b) (h := fun oa hoa => ?_)
      refine WL.subL (sub_swap _ _) ?_
      refine WL.y (hy := mv) (h := ?_)
      refine WL.y (hy := ex) (h := ?_)
      refine WL.y (hy := ex) (h := ?_)
      refine WL.y (hy := asg) (h := ?_)
      refine WL.y (hy := asg) (h := ?_)
      refine nl (h := ?_)
      refine q_seq (h := ?_)
      refine sq (h := ?_)
      refine rg (h := ?_)
      refine WL.y (hy := (by first | exact ldA | exact ldEA)) (h := ?_)
      refine cl (hfresh := fun o => by cases o <;> rfl) (hc := fun w hS => C_card_Boards f cf' xs' q.1 n q.2 w (hS.get (by repeat (first | exact Rds.ro | exact Rds.own | apply Rds.there))) (by omega) (fun _ => by have := hR'.m; omega) hR'.b) (h := fun ob hob => ?_)
      refine WL.y (hy := mv) (h := ?_)
      refine WL.y (hy := ex) (h := ?_)
      refine WL.y (hy := ex) (h := ?_)
      refine WL.y (hy := asg) (h := ?_)
      refine WL.y (hy := asg) (h := ?_)
      refine nl (h := ?_)
      refine q_seq (h := ?_)
      refine sq (h := ?_)
      refine sq (h := ?_)
      refine rg (h := ?_)
      refine WL.y (hy := mv) (h := ?_)
      refine WL.y (hy := eql) (h := ?_)
      refine nl (h := ?_)
      refine q_seq (h := ?_)
      refine cd (by exact rfl) (fun h10 => ?_) (fun h10 => ?_)
      · skip
        refine sq (h := ?_)
        refine rg (h := ?_)
        refine WL.y (hy := mv) (h := ?_)
        refine WL.y (hy := eql) (h := ?_)
        refine WL.y (hy := mv) (h := ?_)
        apply brOr 3 111 114 (by exact rfl)
        · intro hb11
          refine un (h := ?_)
          refine WL.y (hy := mv) (h := ?_)
          refine un (h := ?_)
          refine WL.y (hy := eql) (h := ?_)
          refine WL.y (hy := (by first | exact pkT | exact pkF)) (h := ?_)
          exact mg (by repeat (first | exact trivial | refine ⟨rfl, ?_⟩ | refine ⟨by rw [hb11]; rfl, ?_⟩)) (by repeat (first | exact SubL.nil | (apply SubL.cons; (repeat (first | exact At.here | apply At.there))) | exact SubL.refl _ | apply SubL.skip))
        · intro hb11
          repeat (first | refine un (h := ?_) | refine sk (h := ?_) | refine WL.y (hy := pkF) (h := ?_) | refine WL.y (hy := pkT) (h := ?_))
          exact mg (by repeat (first | exact trivial | refine ⟨rfl, ?_⟩ | refine ⟨by rw [hb11]; rfl, ?_⟩)) (by repeat (first | exact SubL.nil | (apply SubL.cons; (repeat (first | exact At.here | apply At.there))) | exact SubL.refl _ | apply SubL.skip))
        refine WL.y (hy := mv) (h := ?_)
        apply brAnd 2 115 117 (by exact rfl)
        · intro hb12
          refine un (h := ?_)
          refine cl0 (hc := fun w hS => C_law3_works w) (h := ?_)
          refine WL.y (hy := (by first | exact pkT | exact pkF)) (h := ?_)
          exact mg (by repeat (first | exact trivial | refine ⟨rfl, ?_⟩ | refine ⟨by rw [hb12]; rfl, ?_⟩)) (by repeat (first | exact SubL.nil | (apply SubL.cons; (repeat (first | exact At.here | apply At.there))) | exact SubL.refl _ | apply SubL.skip))
        · intro hb12
          repeat (first | refine un (h := ?_) | refine sk (h := ?_) | refine WL.y (hy := pkF) (h := ?_) | refine WL.y (hy := pkT) (h := ?_))
          exact mg (by repeat (first | exact trivial | refine ⟨rfl, ?_⟩ | refine ⟨by rw [hb12]; rfl, ?_⟩)) (by repeat (first | exact SubL.nil | (apply SubL.cons; (repeat (first | exact At.here | apply At.there))) | exact SubL.refl _ | apply SubL.skip))
        refine WL.y (hy := asg) (h := ?_)
        refine nl (h := ?_)
        refine q_seq (h := ?_)
        refine rtn (h := ?_)
        refine q_then_ret (h := ?_)
        refine q_ret (hR := ?_)
        first
          | exact fun w hS => ⟨rfl, hS.sub (by repeat (first | exact SubL.nil | (apply SubL.cons; (repeat (first | exact At.here | apply At.there))) | exact SubL.refl _ | apply SubL.skip))⟩
          | (refine fun w hS => ⟨?_, hS.sub (by repeat (first | exact SubL.nil | (apply SubL.cons; (repeat (first | exact At.here | apply At.there))) | exact SubL.refl _ | apply SubL.skip))⟩
             clear hS
             rw [hR'.pos]
             by_cases e : badC f cf' xs' = -1
             · rw [if_pos e]; rfl
             · rw [if_neg e]; rfl)
      · skip
        have hp0 : posE f cf xs = 0 := by
          have h9 := of_decide_eq_false h10
          rw [hR.pos] at h9 ⊢
          by_cases e : badC f cf xs = -1
          · rw [if_pos e]
          · rw [if_neg e] at h9; exact absurd rfl h9
        have hp1 := hL.pos hR hR' hp0
        obtain ⟨qa, rfl⟩ := hoa.some_ hp0
        obtain ⟨qb, rfl⟩ := hob.some_ hp1
        have hqal := hoa.2.2.2
        have hqbl := hob.2.2.2
        rw [hp0, hp1]
        refine skp (h := ?_)
        refine q_seq (h := ?_)
        refine sq (h := ?_)
        refine sq (h := ?_)
        refine rg (h := ?_)
        refine WL.y (hy := mv) (h := ?_)
        refine WL.y (hy := neq) (h := ?_)
        refine WL.y (hy := mv) (h := ?_)
        apply brOr 3 120 123 (by exact rfl)
        · intro hb13
          refine un (h := ?_)
          refine WL.y (hy := mv) (h := ?_)
          refine un (h := ?_)
          refine WL.y (hy := neq) (h := ?_)
          refine WL.y (hy := (by first | exact pkT | exact pkF)) (h := ?_)
          exact mg (by repeat (first | exact trivial | refine ⟨rfl, ?_⟩ | refine ⟨by rw [hb13]; rfl, ?_⟩)) (by repeat (first | exact SubL.nil | (apply SubL.cons; (repeat (first | exact At.here | apply At.there))) | exact SubL.refl _ | apply SubL.skip))
        · intro hb13
          repeat (first | refine un (h := ?_) | refine sk (h := ?_) | refine WL.y (hy := pkF) (h := ?_) | refine WL.y (hy := pkT) (h := ?_))
          exact mg (by repeat (first | exact trivial | refine ⟨rfl, ?_⟩ | refine ⟨by rw [hb13]; rfl, ?_⟩)) (by repeat (first | exact SubL.nil | (apply SubL.cons; (repeat (first | exact At.here | apply At.there))) | exact SubL.refl _ | apply SubL.skip))
        refine nl (h := ?_)
        refine q_seq (h := ?_)
        refine cd (by exact rfl) (fun h14 => ?_) (fun h14 => ?_)
        · skip
          have h9 := h14
          cases h9
        · skip
          refine skp (h := ?_)
          refine q_seq (h := ?_)
          refine sq (h := ?_)
          refine sq (h := ?_)
          refine rg (h := ?_)
          refine WL.y (hy := asg) (h := ?_)
          refine nl (h := ?_)
          refine q_seq (h := ?_)
          refine bk (h := ?_)
          refine lp (X := Nat) (I := fun i => i ≤ qa.zs.length) (le := fun i => [(9, .slice qa.A qa.zs.length qa.c), (11, .slice qb.A qb.zs.length qb.c), (13, .int .i64 i)]) (Le := fun _ => [.own qa.A qa.c 44 5 qa.zs.length (encX qa.zs), manyE true (qa.zs.map rowX), .own qb.A qb.c 44 5 qb.zs.length (encX qb.zs), manyE true (qb.zs.map rowX)]) (μ := fun i => qa.zs.length - i) 0 (Nat.zero_le _) (by repeat (first | exact trivial | refine ⟨rfl, ?_⟩)) (by repeat (first | exact SubL.nil | (apply SubL.cons; (repeat (first | exact At.here | apply At.there))) | exact SubL.refl _ | apply SubL.skip)) (fun i hi => ?_)
          refine sq (h := ?_)
          refine sq (h := ?_)
          refine rg (h := ?_)
          refine WL.y (hy := mv) (h := ?_)
          refine WL.y (hy := mv) (h := ?_)
          refine WL.y (hy := lenS) (h := ?_)
          refine WL.y (hy := lss) (h := ?_)
          refine nl (h := ?_)
          refine q_seq (h := ?_)
          refine cd (by exact rfl) (fun h15 => ?_) (fun h15 => ?_)
          · skip
            have hin : i < qa.zs.length := by have := of_decide_eq_true h15; omega
            obtain ⟨x1, hx1⟩ : ∃ x, qa.zs[i]? = some x := ⟨_, List.getElem?_eq_getElem hin⟩
            refine skp (h := ?_)
            refine q_seq (h := ?_)
            refine sq (h := ?_)
            refine bk (h := ?_)
            refine sq (h := ?_)
            refine rg (h := ?_)
            refine WL.y (hy := asg) (h := ?_)
            refine WL.cut (by repeat (first | exact Cut.nil | apply Cut.hit | apply Cut.miss (by exact rfl))) ?_
            refine nl (h := ?_)
            refine q_seq (h := ?_)
            refine sq (h := ?_)
            refine sq (h := ?_)
            refine rg (h := ?_)
            refine WL.y (hy := asg) (h := ?_)
            refine nl (h := ?_)
            refine q_seq (h := ?_)
            refine bk (h := ?_)
            refine lp (X := Nat) (I := fun j => j ≤ qb.zs.length) (le := fun j => [(9, .slice qa.A qa.zs.length qa.c), (11, .slice qb.A qb.zs.length qb.c), (13, .int .i64 i), (14, .bool (fndX qb.zs x1.b j)), (15, .int .i64 j)]) (Le := fun _ => [.own qa.A qa.c 44 5 qa.zs.length (encX qa.zs), manyE true (qa.zs.map rowX), .own qb.A qb.c 44 5 qb.zs.length (encX qb.zs), manyE true (qb.zs.map rowX)]) (μ := fun j => qb.zs.length - j) 0 (Nat.zero_le _) (by repeat (first | exact trivial | refine ⟨rfl, ?_⟩)) (by repeat (first | exact SubL.nil | (apply SubL.cons; (repeat (first | exact At.here | apply At.there))) | exact SubL.refl _ | apply SubL.skip)) (fun j hj => ?_)
            refine sq (h := ?_)
            refine sq (h := ?_)
            refine rg (h := ?_)
            refine WL.y (hy := mv) (h := ?_)
            refine WL.y (hy := mv) (h := ?_)
            refine WL.y (hy := lenS) (h := ?_)
            refine WL.y (hy := lss) (h := ?_)
            refine nl (h := ?_)
            refine q_seq (h := ?_)
            refine cd (by exact rfl) (fun h16 => ?_) (fun h16 => ?_)
            · skip
              have hjn : j < qb.zs.length := by have := of_decide_eq_true h16; omega
              obtain ⟨y1, hy1⟩ : ∃ x, qb.zs[j]? = some x := ⟨_, List.getElem?_eq_getElem hjn⟩
              have hfs := fnd_succ (b := x1.b) hy1
              refine skp (h := ?_)
              refine q_seq (h := ?_)
              refine sq (h := ?_)
              refine bk (h := ?_)
              refine rgD0 (by kernel_rfl) (h := ?_)
              refine tk 0 (hy := mv) (h := ?_)
              refine tk 1 (hy := mv) (h := ?_)
              refine brH (g := 137) (by exact rfl) (fun hb17 => ?_) (fun hb17 => ?_)
              · skip
                rw [hb17, Bool.true_or] at hfs
                refine tkS 2 (h := ?_)
                refine tkS 3 (h := ?_)
                refine tkS 4 (h := ?_)
                refine tkS 5 (h := ?_)
                refine tkS 6 (h := ?_)
                refine tkS 7 (h := ?_)
                refine tkS 8 (h := ?_)
                refine tkS 9 (h := ?_)
                refine tkS 10 (h := ?_)
                refine tk 11 (hy := (by first | exact pkT | exact pkF)) (h := ?_)
                refine tk 12 (hy := asg) (h := ?_)
                refine dn (h := ?_)
                refine q_blk_norm (h := ?_)
                refine q_seq (h := ?_)
                refine rg (h := ?_)
                refine WL.y (hy := mv) (h := ?_)
                refine WL.y (hy := addI) (h := ?_)
                refine WL.y (hy := asg) (h := ?_)
                refine nl (h := ?_)
                refine rn (x := j) (j + 1) hjn (by omega) (by rw [hfs]; repeat (first | exact trivial | refine ⟨rfl, ?_⟩)) (by repeat (first | exact SubL.nil | (apply SubL.cons; (repeat (first | exact At.here | apply At.there))) | exact SubL.refl _ | apply SubL.skip))
              · skip
                rw [hb17, Bool.false_or] at hfs
                refine tk 2 (hy := mv) (h := ?_)
                refine tk 3 (hy := mv) (h := ?_)
                refine tk 4 (hy := ix (A := qa.A) (m := qa.zs.length)) (h := ?_)
                refine tk 5 (hy := ldEW (A := qa.A) (k := i) (cs := x1.cells) (hk := encX_at hx1)) (h := ?_)
                refine tk 6 (hy := mv) (h := ?_)
                refine tk 7 (hy := mv) (h := ?_)
                refine tk 8 (hy := ix (A := qb.A) (m := qb.zs.length)) (h := ?_)
                refine tk 9 (hy := ldEW (A := qb.A) (k := j) (cs := y1.cells) (hk := encX_at hy1)) (h := ?_)
                refine one 10 (h := ?_)
                refine un (h := ?_)
                refine cl0 (hc := fun w hS => C_ref3_SameBoard x1.b y1.b x1.A y1.A x1.b.st.length x1.c y1.b.st.length y1.c w (many_ok (List.mem_of_getElem? hx1) w (hS.ok _ (by repeat (first | exact List.mem_cons_self | apply List.mem_cons_of_mem)))) (many_ok (List.mem_of_getElem? hy1) w (hS.ok _ (by repeat (first | exact List.mem_cons_self | apply List.mem_cons_of_mem)))) (by have := (hoa.2.2.1 x1 (List.mem_of_getElem? hx1)).n; omega) (by have := (hob.2.2.1 y1 (List.mem_of_getElem? hy1)).n; omega)) (h := ?_)
                refine nx (h := ?_)
                refine tk 11 (hy := (by first | exact pkT | exact pkF)) (h := ?_)
                refine tk 12 (hy := asg) (h := ?_)
                refine dn (h := ?_)
                refine q_blk_norm (h := ?_)
                refine q_seq (h := ?_)
                refine rg (h := ?_)
                refine WL.y (hy := mv) (h := ?_)
                refine WL.y (hy := addI) (h := ?_)
                refine WL.y (hy := asg) (h := ?_)
                refine nl (h := ?_)
                refine rn (x := j) (j + 1) hjn (by omega) (by rw [hfs]; repeat (first | exact trivial | refine ⟨rfl, ?_⟩)) (by repeat (first | exact SubL.nil | (apply SubL.cons; (repeat (first | exact At.here | apply At.there))) | exact SubL.refl _ | apply SubL.skip))
            · skip
              have hjn : j = qb.zs.length := by have := of_decide_eq_false h16; omega
              subst hjn
              refine et (h := ?_)
              refine q_then_exit (h := ?_)
              refine q_then_exit (h := ?_)
              refine q_blk_hit (h := ?_)
              refine q_seq (h := ?_)
              refine sq (h := ?_)
              refine rg (h := ?_)
              refine WL.y (hy := mv) (h := ?_)
              refine WL.y (hy := notB) (h := ?_)
              refine nl (h := ?_)
              refine q_seq (h := ?_)
              refine cd (by exact rfl) (fun h18 => ?_) (fun h18 => ?_)
              · skip
                have h9 : (!fndX qb.zs x1.b qb.zs.length) = true := h18
                obtain ⟨s, hs, hsb⟩ := (hoa.mem x1.b).1 (List.mem_map.2 ⟨x1, List.mem_of_getElem? hx1, rfl⟩)
                rw [fnd_mem ((hob.mem x1.b).2 ⟨s, hL.sub s hs, hsb⟩)] at h9
                cases h9
              · skip
                refine skp (h := ?_)
                refine q_blk_norm (h := ?_)
                refine q_seq (h := ?_)
                refine rg (h := ?_)
                refine WL.y (hy := mv) (h := ?_)
                refine WL.y (hy := addI) (h := ?_)
                refine WL.y (hy := asg) (h := ?_)
                refine nl (h := ?_)
                refine rn (x := i) (i + 1) hin (by omega) (by repeat (first | exact trivial | refine ⟨rfl, ?_⟩)) (by repeat (first | exact SubL.nil | (apply SubL.cons; (repeat (first | exact At.here | apply At.there))) | exact SubL.refl _ | apply SubL.skip))
          · skip
            refine et (h := ?_)
            refine q_then_exit (h := ?_)
            refine q_then_exit (h := ?_)
            refine q_blk_hit (h := ?_)
            refine q_seq (h := ?_)
            refine sq (h := ?_)
            refine rg (h := ?_)
            refine cl0 (hc := fun w hS => C_law3_works w) (h := ?_)
            refine WL.y (hy := asg) (h := ?_)
            refine nl (h := ?_)
            refine q_seq (h := ?_)
            refine rtn (h := ?_)
            refine q_ret (hR := ?_)
            first
              | exact fun w hS => ⟨rfl, hS.sub (by repeat (first | exact SubL.nil | (apply SubL.cons; (repeat (first | exact At.here | apply At.there))) | exact SubL.refl _ | apply SubL.skip))⟩
              | (refine fun w hS => ⟨?_, hS.sub (by repeat (first | exact SubL.nil | (apply SubL.cons; (repeat (first | exact At.here | apply At.there))) | exact SubL.refl _ | apply SubL.skip))⟩
                 clear hS
                 rw [hR'.pos]
                 by_cases e : badC f cf' xs' = -1
                 · rw [if_pos e]; rfl
                 · rw [if_neg e]; rfl)
end Go.Proofs.Ytncoimjgjpcipaa
