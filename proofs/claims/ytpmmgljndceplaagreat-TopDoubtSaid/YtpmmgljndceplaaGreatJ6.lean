/- The texts of the walk, part 6. -/
import Derived.Test.YtpmmgljndceplaaGreatJ5
namespace Go.Proofs.YtpmmgljndceplaaGreat
open Go Go.RowKit

theorem C_ref3_within (n lo hi : Int) (w : World) : C0 Tryz.prog 32 [.int .i64 n, .int .i64 lo, .int .i64 hi] w (.bool (wi n lo hi)) := by
  refine ⟨en Tryz.func32 Tryz.ntmps32 (St.init w) (h := fun F => ?_)⟩
  refine sq (h := ?_)
  refine rg (h := ?_)
  refine wy asg ?_
  refine nl (h := ?_)
  refine q_seq (h := ?_)
  refine sq (h := ?_)
  refine rg (h := ?_)
  refine wy mv ?_
  refine wy mv ?_
  refine wy geq ?_
  refine wy mv ?_
  apply brAnd 4 10 14 (by exact rfl)
  · intro hb0
    refine un (h := ?_)
    refine wy mv ?_
    refine un (h := ?_)
    refine wy mv ?_
    refine un (h := ?_)
    refine wy leq ?_
    refine wy (by first | exact pkT | exact pkF) ?_
    exact mg (by repeat (first | exact trivial | refine ⟨rfl, ?_⟩ | refine ⟨by rw [hb0]; rfl, ?_⟩)) slz_
  · intro hb0
    repeat (first | refine un (h := ?_) | refine sk (h := ?_) | refine WL.y (hy := pkF) (h := ?_) | refine WL.y (hy := pkT) (h := ?_))
    exact mg (by repeat (first | exact trivial | refine ⟨rfl, ?_⟩ | refine ⟨by rw [hb0]; rfl, ?_⟩)) slz_
  refine wy asg ?_
  refine nl (h := ?_)
  refine q_seq (h := ?_)
  refine rtn (h := ?_)
  refine q_ret (hR := ?_)
  exact fun w hS => ⟨rfl, hS.sub slz_⟩
theorem mk_two {x : Nt} (h : x.kind = 2) : mkV x = (decide (x.side = 0) && wi x.pair.2 0 30 && wi x.pair.1 0 x.pair.2) := by
  rw [mkV, decide_eq_false (show ¬ x.kind = 1 by omega), decide_eq_true h, cond_false, cond_true, prV]
  rw [Bool.eq_iff_iff]
  simp only [Bool.and_eq_true, wi_iff, decide_eq_true_eq]
  omega
set_option maxRecDepth 100000 in
theorem C_ref3_IsMark (x : Nt) (w : World) : C0 Tryz.prog 33 [x.val] w (.bool (mkV x)) := by
  have zP : decide ([x.pair.1, x.pair.2] = [(0 : Int), 0]) = decide (x.pair = (0, 0)) := by rw [pair_eq2]; exact dec_pr x.pair (0, 0)
  refine ⟨en Tryz.func33 Tryz.ntmps33 (St.init w) (h := fun F => ?_)⟩
  refine sq (h := ?_)
  refine rg (h := ?_)
  refine bxA (h := fun b0 => ?_)
  refine wy asg ?_
  refine nl (h := ?_)
  refine q_seq (h := ?_)
  refine sq (h := ?_)
  refine rg (h := ?_)
  refine wy (by first | exact fa | exact faE) ?_
  refine wy (by first | exact fa | exact faE) ?_
  refine wy (by first | exact ld | exact ldE) ?_
  refine cl0 (hc := fun w hS => C_ref3_within ..) (h := ?_)
  refine wy mv ?_
  apply brAnd 5 9 14 (by exact rfl)
  · intro hb0
    refine un (h := ?_)
    refine wy (by first | exact fa | exact faE) ?_
    refine un (h := ?_)
    refine wy (by first | exact fa | exact faE) ?_
    refine un (h := ?_)
    refine wy (by first | exact ld | exact ldE) ?_
    refine un (h := ?_)
    refine cl0 (hc := fun w hS => C_ref3_within ..) (h := ?_)
    refine wy (by first | exact pkT | exact pkF) ?_
    exact mg (by repeat (first | exact trivial | refine ⟨rfl, ?_⟩ | refine ⟨by rw [hb0]; rfl, ?_⟩)) slz_
  · intro hb0
    repeat (first | refine un (h := ?_) | refine sk (h := ?_) | refine WL.y (hy := pkF) (h := ?_) | refine WL.y (hy := pkT) (h := ?_))
    exact mg (by repeat (first | exact trivial | refine ⟨rfl, ?_⟩ | refine ⟨by rw [hb0]; rfl, ?_⟩)) slz_
  refine wy asg ?_
  refine nl (h := ?_)
  refine q_seq (h := ?_)
  refine sq (h := ?_)
  refine rg (h := ?_)
  refine wy (by first | exact fa | exact faE) ?_
  refine wy (by first | exact ldA | exact ldEA) ?_
  refine wy bd ?_
  refine wy eqlT ?_
  rw [zP]
  refine wy asg ?_
  refine nl (h := ?_)
  refine q_seq (h := ?_)
  refine sq (h := ?_)
  refine sq (h := ?_)
  refine rg (h := ?_)
  refine wy (by first | exact fa | exact faE) ?_
  refine wy (by first | exact ld | exact ldE) ?_
  refine nl (h := ?_)
  refine q_seq (h := ?_)
  refine bk (h := ?_)
  refine sq (h := ?_)
  refine rg (h := ?_)
  refine wy eql ?_
  refine wy asg ?_
  refine nl (h := ?_)
  refine q_seq (h := ?_)
  refine cd (by exact rfl) (fun h1 => ?_) (fun h1 => ?_)
  · skip
    refine sq (h := ?_)
    refine rg (h := ?_)
    refine wy mv ?_
    refine wy mv ?_
    apply brAnd 4 24 28 (by exact rfl)
    · intro hb2
      refine un (h := ?_)
      refine wy (by first | exact fa | exact faE) ?_
      refine un (h := ?_)
      refine wy (by first | exact ld | exact ldE) ?_
      refine un (h := ?_)
      refine cl0 (hc := fun w hS => C_ref3_within ..) (h := ?_)
      refine wy (by first | exact pkT | exact pkF) ?_
      exact mg (by repeat (first | exact trivial | refine ⟨rfl, ?_⟩ | refine ⟨by rw [hb2]; rfl, ?_⟩)) slz_
    · intro hb2
      repeat (first | refine un (h := ?_) | refine sk (h := ?_) | refine WL.y (hy := pkF) (h := ?_) | refine WL.y (hy := pkT) (h := ?_))
      exact mg (by repeat (first | exact trivial | refine ⟨rfl, ?_⟩ | refine ⟨by rw [hb2]; rfl, ?_⟩)) slz_
    refine wy asg ?_
    refine nl (h := ?_)
    refine q_seq (h := ?_)
    refine rtn (h := ?_)
    refine q_blk_ret (h := ?_)
    refine q_then_ret (h := ?_)
    refine q_ret (hR := ?_)
    refine fun w hS => ⟨?_, hS.sub slz_⟩
    clear hS
    first
      | (rw [hm]; rfl)
      | (simp_all [mkV, sdV, prV, resV, Bool.and_assoc, Bool.and_comm])
  · skip
    refine sq (h := ?_)
    refine rg (h := ?_)
    refine wy eql ?_
    refine wy asg ?_
    refine nl (h := ?_)
    refine q_seq (h := ?_)
    refine cd (by exact rfl) (fun h3 => ?_) (fun h3 => ?_)
    · skip
      have hm := mk_two (of_decide_eq_true h3)
      refine sq (h := ?_)
      refine rg (h := ?_)
      refine wy (by first | exact fa | exact faE) ?_
      refine wy (by first | exact ld | exact ldE) ?_
      refine wy eql ?_
      refine wy mv ?_
      apply brAnd 5 34 39 (by exact rfl)
      · intro hb4
        refine un (h := ?_)
        refine wy (by first | exact fa | exact faE) ?_
        refine un (h := ?_)
        refine wy (by first | exact fa | exact faE) ?_
        refine un (h := ?_)
        refine wy (by first | exact ld | exact ldE) ?_
        refine un (h := ?_)
        refine cl0 (hc := fun w hS => C_ref3_within ..) (h := ?_)
        refine wy (by first | exact pkT | exact pkF) ?_
        exact mg (by repeat (first | exact trivial | refine ⟨rfl, ?_⟩ | refine ⟨by rw [hb4]; rfl, ?_⟩)) slz_
      · intro hb4
        repeat (first | refine un (h := ?_) | refine sk (h := ?_) | refine WL.y (hy := pkF) (h := ?_) | refine WL.y (hy := pkT) (h := ?_))
        exact mg (by repeat (first | exact trivial | refine ⟨rfl, ?_⟩ | refine ⟨by rw [hb4]; rfl, ?_⟩)) slz_
      refine wy mv ?_
      apply brAnd 8 40 48 (by exact rfl)
      · intro hb5
        refine un (h := ?_)
        refine wy (by first | exact fa | exact faE) ?_
        refine un (h := ?_)
        refine wy (by first | exact fa | exact faE) ?_
        refine un (h := ?_)
        refine wy (by first | exact ld | exact ldE) ?_
        refine un (h := ?_)
        refine wy (by first | exact fa | exact faE) ?_
        refine un (h := ?_)
        refine wy (by first | exact fa | exact faE) ?_
        refine un (h := ?_)
        refine wy (by first | exact ld | exact ldE) ?_
        refine un (h := ?_)
        refine cl0 (hc := fun w hS => C_ref3_within ..) (h := ?_)
        refine wy (by first | exact pkT | exact pkF) ?_
        exact mg (by repeat (first | exact trivial | refine ⟨rfl, ?_⟩ | refine ⟨by rw [hb5]; rfl, ?_⟩)) slz_
      · intro hb5
        repeat (first | refine un (h := ?_) | refine sk (h := ?_) | refine WL.y (hy := pkF) (h := ?_) | refine WL.y (hy := pkT) (h := ?_))
        exact mg (by repeat (first | exact trivial | refine ⟨rfl, ?_⟩ | refine ⟨by rw [hb5]; rfl, ?_⟩)) slz_
      refine wy asg ?_
      refine nl (h := ?_)
      refine q_seq (h := ?_)
      refine rtn (h := ?_)
      refine q_blk_ret (h := ?_)
      refine q_then_ret (h := ?_)
      refine q_ret (hR := ?_)
      refine fun w hS => ⟨?_, hS.sub slz_⟩
      clear hS
      first
        | (rw [hm]; rfl)
        | (simp_all [mkV, sdV, prV, resV, Bool.and_assoc, Bool.and_comm])
    · skip
      refine sq (h := ?_)
      refine sq (h := ?_)
      refine rg (h := ?_)
      refine wy eql ?_
      refine wy asg ?_
      refine WL.cut (by repeat (first | exact Cut.nil | apply Cut.hit | apply Cut.miss (by exact rfl))) ?_
      refine nl (h := ?_)
      refine q_seq (h := ?_)
      refine cd (by exact rfl) (fun h6 => ?_) (fun h6 => ?_)
      · skip
        refine skp (h := ?_)
        refine q_seq (h := ?_)
        refine cd (by exact rfl) (fun h7 => ?_) (fun h7 => ?_)
        · skip
          refine sq (h := ?_)
          refine rg (h := ?_)
          refine wy (by first | exact fa | exact faE) ?_
          refine wy (by first | exact ld | exact ldE) ?_
          refine wy eql ?_
          refine wy mv ?_
          apply brAnd 2 56 58 (by exact rfl)
          · intro hb8
            refine un (h := ?_)
            refine wy mv ?_
            refine wy (by first | exact pkT | exact pkF) ?_
            exact mg (by repeat (first | exact trivial | refine ⟨rfl, ?_⟩ | refine ⟨by rw [hb8]; rfl, ?_⟩)) slz_
          · intro hb8
            repeat (first | refine un (h := ?_) | refine sk (h := ?_) | refine WL.y (hy := pkF) (h := ?_) | refine WL.y (hy := pkT) (h := ?_))
            exact mg (by repeat (first | exact trivial | refine ⟨rfl, ?_⟩ | refine ⟨by rw [hb8]; rfl, ?_⟩)) slz_
          refine wy asg ?_
          refine nl (h := ?_)
          refine q_seq (h := ?_)
          refine rtn (h := ?_)
          refine q_blk_ret (h := ?_)
          refine q_then_ret (h := ?_)
          refine q_ret (hR := ?_)
          refine fun w hS => ⟨?_, hS.sub slz_⟩
          clear hS
          first
            | (rw [hm]; rfl)
            | (simp_all [mkV, sdV, prV, resV, Bool.and_assoc, Bool.and_comm])
        · skip
          refine sq (h := ?_)
          refine sq (h := ?_)
          refine rg (h := ?_)
          refine wy eql ?_
          refine wy asg ?_
          refine WL.cut (by repeat (first | exact Cut.nil | apply Cut.hit | apply Cut.miss (by exact rfl))) ?_
          refine nl (h := ?_)
          refine q_seq (h := ?_)
          refine cd (by exact rfl) (fun h9 => ?_) (fun h9 => ?_)
          · skip
            refine skp (h := ?_)
            refine q_seq (h := ?_)
            refine cd (by exact rfl) (fun h10 => ?_) (fun h10 => ?_)
            · skip
              refine sq (h := ?_)
              refine rg (h := ?_)
              refine wy mv ?_
              refine wy mv ?_
              apply brAnd 4 63 67 (by exact rfl)
              · intro hb11
                refine un (h := ?_)
                refine wy (by first | exact fa | exact faE) ?_
                refine un (h := ?_)
                refine wy (by first | exact ld | exact ldE) ?_
                refine un (h := ?_)
                refine cl0 (hc := fun w hS => C_ref3_within ..) (h := ?_)
                refine wy (by first | exact pkT | exact pkF) ?_
                exact mg (by repeat (first | exact trivial | refine ⟨rfl, ?_⟩ | refine ⟨by rw [hb11]; rfl, ?_⟩)) slz_
              · intro hb11
                repeat (first | refine un (h := ?_) | refine sk (h := ?_) | refine WL.y (hy := pkF) (h := ?_) | refine WL.y (hy := pkT) (h := ?_))
                exact mg (by repeat (first | exact trivial | refine ⟨rfl, ?_⟩ | refine ⟨by rw [hb11]; rfl, ?_⟩)) slz_
              refine wy asg ?_
              refine nl (h := ?_)
              refine q_seq (h := ?_)
              refine rtn (h := ?_)
              refine q_blk_ret (h := ?_)
              refine q_then_ret (h := ?_)
              refine q_ret (hR := ?_)
              refine fun w hS => ⟨?_, hS.sub slz_⟩
              clear hS
              first
                | (rw [hm]; rfl)
                | (simp_all [mkV, sdV, prV, resV, Bool.and_assoc, Bool.and_comm])
            · skip
              refine skp (h := ?_)
              refine q_blk_norm (h := ?_)
              refine q_seq (h := ?_)
              refine sq (h := ?_)
              refine rg (h := ?_)
              refine wy asg ?_
              refine nl (h := ?_)
              refine q_seq (h := ?_)
              refine rtn (h := ?_)
              refine q_ret (hR := ?_)
              refine fun w hS => ⟨?_, hS.sub slz_⟩
              clear hS
              first
                | (rw [hm]; rfl)
                | (simp_all [mkV, sdV, prV, resV, Bool.and_assoc, Bool.and_comm])
          · skip
            refine rg (h := ?_)
            refine wy eql ?_
            refine wy asg ?_
            refine WL.cut (by repeat (first | exact Cut.nil | apply Cut.hit | apply Cut.miss (by exact rfl))) ?_
            refine nl (h := ?_)
            refine q_seq (h := ?_)
            refine cd (by exact rfl) (fun h12 => ?_) (fun h12 => ?_)
            · skip
              refine sq (h := ?_)
              refine rg (h := ?_)
              refine wy mv ?_
              refine wy mv ?_
              apply brAnd 4 63 67 (by exact rfl)
              · intro hb13
                refine un (h := ?_)
                refine wy (by first | exact fa | exact faE) ?_
                refine un (h := ?_)
                refine wy (by first | exact ld | exact ldE) ?_
                refine un (h := ?_)
                refine cl0 (hc := fun w hS => C_ref3_within ..) (h := ?_)
                refine wy (by first | exact pkT | exact pkF) ?_
                exact mg (by repeat (first | exact trivial | refine ⟨rfl, ?_⟩ | refine ⟨by rw [hb13]; rfl, ?_⟩)) slz_
              · intro hb13
                repeat (first | refine un (h := ?_) | refine sk (h := ?_) | refine WL.y (hy := pkF) (h := ?_) | refine WL.y (hy := pkT) (h := ?_))
                exact mg (by repeat (first | exact trivial | refine ⟨rfl, ?_⟩ | refine ⟨by rw [hb13]; rfl, ?_⟩)) slz_
              refine wy asg ?_
              refine nl (h := ?_)
              refine q_seq (h := ?_)
              refine rtn (h := ?_)
              refine q_blk_ret (h := ?_)
              refine q_then_ret (h := ?_)
              refine q_ret (hR := ?_)
              refine fun w hS => ⟨?_, hS.sub slz_⟩
              clear hS
              first
                | (rw [hm]; rfl)
                | (simp_all [mkV, sdV, prV, resV, Bool.and_assoc, Bool.and_comm])
            · skip
              refine skp (h := ?_)
              refine q_blk_norm (h := ?_)
              refine q_seq (h := ?_)
              refine sq (h := ?_)
              refine rg (h := ?_)
              refine wy asg ?_
              refine nl (h := ?_)
              refine q_seq (h := ?_)
              refine rtn (h := ?_)
              refine q_ret (hR := ?_)
              refine fun w hS => ⟨?_, hS.sub slz_⟩
              clear hS
              first
                | (rw [hm]; rfl)
                | (simp_all [mkV, sdV, prV, resV, Bool.and_assoc, Bool.and_comm])
      · skip
        refine sq (h := ?_)
        refine rg (h := ?_)
        refine wy eql ?_
        refine wy asg ?_
        refine WL.cut (by repeat (first | exact Cut.nil | apply Cut.hit | apply Cut.miss (by exact rfl))) ?_
        refine nl (h := ?_)
        refine q_seq (h := ?_)
        refine cd (by exact rfl) (fun h14 => ?_) (fun h14 => ?_)
        · skip
          refine skp (h := ?_)
          refine q_seq (h := ?_)
          refine cd (by exact rfl) (fun h15 => ?_) (fun h15 => ?_)
          · skip
            refine sq (h := ?_)
            refine rg (h := ?_)
            refine wy (by first | exact fa | exact faE) ?_
            refine wy (by first | exact ld | exact ldE) ?_
            refine wy eql ?_
            refine wy mv ?_
            apply brAnd 2 56 58 (by exact rfl)
            · intro hb16
              refine un (h := ?_)
              refine wy mv ?_
              refine wy (by first | exact pkT | exact pkF) ?_
              exact mg (by repeat (first | exact trivial | refine ⟨rfl, ?_⟩ | refine ⟨by rw [hb16]; rfl, ?_⟩)) slz_
            · intro hb16
              repeat (first | refine un (h := ?_) | refine sk (h := ?_) | refine WL.y (hy := pkF) (h := ?_) | refine WL.y (hy := pkT) (h := ?_))
              exact mg (by repeat (first | exact trivial | refine ⟨rfl, ?_⟩ | refine ⟨by rw [hb16]; rfl, ?_⟩)) slz_
            refine wy asg ?_
            refine nl (h := ?_)
            refine q_seq (h := ?_)
            refine rtn (h := ?_)
            refine q_blk_ret (h := ?_)
            refine q_then_ret (h := ?_)
            refine q_ret (hR := ?_)
            refine fun w hS => ⟨?_, hS.sub slz_⟩
            clear hS
            first
              | (rw [hm]; rfl)
              | (simp_all [mkV, sdV, prV, resV, Bool.and_assoc, Bool.and_comm])
          · skip
            refine sq (h := ?_)
            refine sq (h := ?_)
            refine rg (h := ?_)
            refine wy eql ?_
            refine wy asg ?_
            refine WL.cut (by repeat (first | exact Cut.nil | apply Cut.hit | apply Cut.miss (by exact rfl))) ?_
            refine nl (h := ?_)
            refine q_seq (h := ?_)
            refine cd (by exact rfl) (fun h17 => ?_) (fun h17 => ?_)
            · skip
              refine skp (h := ?_)
              refine q_seq (h := ?_)
              refine cd (by exact rfl) (fun h18 => ?_) (fun h18 => ?_)
              · skip
                refine sq (h := ?_)
                refine rg (h := ?_)
                refine wy mv ?_
                refine wy mv ?_
                apply brAnd 4 63 67 (by exact rfl)
                · intro hb19
                  refine un (h := ?_)
                  refine wy (by first | exact fa | exact faE) ?_
                  refine un (h := ?_)
                  refine wy (by first | exact ld | exact ldE) ?_
                  refine un (h := ?_)
                  refine cl0 (hc := fun w hS => C_ref3_within ..) (h := ?_)
                  refine wy (by first | exact pkT | exact pkF) ?_
                  exact mg (by repeat (first | exact trivial | refine ⟨rfl, ?_⟩ | refine ⟨by rw [hb19]; rfl, ?_⟩)) slz_
                · intro hb19
                  repeat (first | refine un (h := ?_) | refine sk (h := ?_) | refine WL.y (hy := pkF) (h := ?_) | refine WL.y (hy := pkT) (h := ?_))
                  exact mg (by repeat (first | exact trivial | refine ⟨rfl, ?_⟩ | refine ⟨by rw [hb19]; rfl, ?_⟩)) slz_
                refine wy asg ?_
                refine nl (h := ?_)
                refine q_seq (h := ?_)
                refine rtn (h := ?_)
                refine q_blk_ret (h := ?_)
                refine q_then_ret (h := ?_)
                refine q_ret (hR := ?_)
                refine fun w hS => ⟨?_, hS.sub slz_⟩
                clear hS
                first
                  | (rw [hm]; rfl)
                  | (simp_all [mkV, sdV, prV, resV, Bool.and_assoc, Bool.and_comm])
              · skip
                refine skp (h := ?_)
                refine q_blk_norm (h := ?_)
                refine q_seq (h := ?_)
                refine sq (h := ?_)
                refine rg (h := ?_)
                refine wy asg ?_
                refine nl (h := ?_)
                refine q_seq (h := ?_)
                refine rtn (h := ?_)
                refine q_ret (hR := ?_)
                refine fun w hS => ⟨?_, hS.sub slz_⟩
                clear hS
                first
                  | (rw [hm]; rfl)
                  | (simp_all [mkV, sdV, prV, resV, Bool.and_assoc, Bool.and_comm])
            · skip
              refine rg (h := ?_)
              refine wy eql ?_
              refine wy asg ?_
              refine WL.cut (by repeat (first | exact Cut.nil | apply Cut.hit | apply Cut.miss (by exact rfl))) ?_
              refine nl (h := ?_)
              refine q_seq (h := ?_)
              refine cd (by exact rfl) (fun h20 => ?_) (fun h20 => ?_)
              · skip
                refine sq (h := ?_)
                refine rg (h := ?_)
                refine wy mv ?_
                refine wy mv ?_
                apply brAnd 4 63 67 (by exact rfl)
                · intro hb21
                  refine un (h := ?_)
                  refine wy (by first | exact fa | exact faE) ?_
                  refine un (h := ?_)
                  refine wy (by first | exact ld | exact ldE) ?_
                  refine un (h := ?_)
                  refine cl0 (hc := fun w hS => C_ref3_within ..) (h := ?_)
                  refine wy (by first | exact pkT | exact pkF) ?_
                  exact mg (by repeat (first | exact trivial | refine ⟨rfl, ?_⟩ | refine ⟨by rw [hb21]; rfl, ?_⟩)) slz_
                · intro hb21
                  repeat (first | refine un (h := ?_) | refine sk (h := ?_) | refine WL.y (hy := pkF) (h := ?_) | refine WL.y (hy := pkT) (h := ?_))
                  exact mg (by repeat (first | exact trivial | refine ⟨rfl, ?_⟩ | refine ⟨by rw [hb21]; rfl, ?_⟩)) slz_
                refine wy asg ?_
                refine nl (h := ?_)
                refine q_seq (h := ?_)
                refine rtn (h := ?_)
                refine q_blk_ret (h := ?_)
                refine q_then_ret (h := ?_)
                refine q_ret (hR := ?_)
                refine fun w hS => ⟨?_, hS.sub slz_⟩
                clear hS
                first
                  | (rw [hm]; rfl)
                  | (simp_all [mkV, sdV, prV, resV, Bool.and_assoc, Bool.and_comm])
              · skip
                refine skp (h := ?_)
                refine q_blk_norm (h := ?_)
                refine q_seq (h := ?_)
                refine sq (h := ?_)
                refine rg (h := ?_)
                refine wy asg ?_
                refine nl (h := ?_)
                refine q_seq (h := ?_)
                refine rtn (h := ?_)
                refine q_ret (hR := ?_)
                refine fun w hS => ⟨?_, hS.sub slz_⟩
                clear hS
                first
                  | (rw [hm]; rfl)
                  | (simp_all [mkV, sdV, prV, resV, Bool.and_assoc, Bool.and_comm])
        · skip
          refine rg (h := ?_)
          refine wy eql ?_
          refine wy asg ?_
          refine WL.cut (by repeat (first | exact Cut.nil | apply Cut.hit | apply Cut.miss (by exact rfl))) ?_
          refine nl (h := ?_)
          refine q_seq (h := ?_)
          refine cd (by exact rfl) (fun h22 => ?_) (fun h22 => ?_)
          · skip
            refine sq (h := ?_)
            refine rg (h := ?_)
            refine wy (by first | exact fa | exact faE) ?_
            refine wy (by first | exact ld | exact ldE) ?_
            refine wy eql ?_
            refine wy mv ?_
            apply brAnd 2 56 58 (by exact rfl)
            · intro hb23
              refine un (h := ?_)
              refine wy mv ?_
              refine wy (by first | exact pkT | exact pkF) ?_
              exact mg (by repeat (first | exact trivial | refine ⟨rfl, ?_⟩ | refine ⟨by rw [hb23]; rfl, ?_⟩)) slz_
            · intro hb23
              repeat (first | refine un (h := ?_) | refine sk (h := ?_) | refine WL.y (hy := pkF) (h := ?_) | refine WL.y (hy := pkT) (h := ?_))
              exact mg (by repeat (first | exact trivial | refine ⟨rfl, ?_⟩ | refine ⟨by rw [hb23]; rfl, ?_⟩)) slz_
            refine wy asg ?_
            refine nl (h := ?_)
            refine q_seq (h := ?_)
            refine rtn (h := ?_)
            refine q_blk_ret (h := ?_)
            refine q_then_ret (h := ?_)
            refine q_ret (hR := ?_)
            refine fun w hS => ⟨?_, hS.sub slz_⟩
            clear hS
            first
              | (rw [hm]; rfl)
              | (simp_all [mkV, sdV, prV, resV, Bool.and_assoc, Bool.and_comm])
          · skip
            refine sq (h := ?_)
            refine sq (h := ?_)
            refine rg (h := ?_)
            refine wy eql ?_
            refine wy asg ?_
            refine WL.cut (by repeat (first | exact Cut.nil | apply Cut.hit | apply Cut.miss (by exact rfl))) ?_
            refine nl (h := ?_)
            refine q_seq (h := ?_)
            refine cd (by exact rfl) (fun h24 => ?_) (fun h24 => ?_)
            · skip
              refine skp (h := ?_)
              refine q_seq (h := ?_)
              refine cd (by exact rfl) (fun h25 => ?_) (fun h25 => ?_)
              · skip
                refine sq (h := ?_)
                refine rg (h := ?_)
                refine wy mv ?_
                refine wy mv ?_
                apply brAnd 4 63 67 (by exact rfl)
                · intro hb26
                  refine un (h := ?_)
                  refine wy (by first | exact fa | exact faE) ?_
                  refine un (h := ?_)
                  refine wy (by first | exact ld | exact ldE) ?_
                  refine un (h := ?_)
                  refine cl0 (hc := fun w hS => C_ref3_within ..) (h := ?_)
                  refine wy (by first | exact pkT | exact pkF) ?_
                  exact mg (by repeat (first | exact trivial | refine ⟨rfl, ?_⟩ | refine ⟨by rw [hb26]; rfl, ?_⟩)) slz_
                · intro hb26
                  repeat (first | refine un (h := ?_) | refine sk (h := ?_) | refine WL.y (hy := pkF) (h := ?_) | refine WL.y (hy := pkT) (h := ?_))
                  exact mg (by repeat (first | exact trivial | refine ⟨rfl, ?_⟩ | refine ⟨by rw [hb26]; rfl, ?_⟩)) slz_
                refine wy asg ?_
                refine nl (h := ?_)
                refine q_seq (h := ?_)
                refine rtn (h := ?_)
                refine q_blk_ret (h := ?_)
                refine q_then_ret (h := ?_)
                refine q_ret (hR := ?_)
                refine fun w hS => ⟨?_, hS.sub slz_⟩
                clear hS
                first
                  | (rw [hm]; rfl)
                  | (simp_all [mkV, sdV, prV, resV, Bool.and_assoc, Bool.and_comm])
              · skip
                refine skp (h := ?_)
                refine q_blk_norm (h := ?_)
                refine q_seq (h := ?_)
                refine sq (h := ?_)
                refine rg (h := ?_)
                refine wy asg ?_
                refine nl (h := ?_)
                refine q_seq (h := ?_)
                refine rtn (h := ?_)
                refine q_ret (hR := ?_)
                refine fun w hS => ⟨?_, hS.sub slz_⟩
                clear hS
                first
                  | (rw [hm]; rfl)
                  | (simp_all [mkV, sdV, prV, resV, Bool.and_assoc, Bool.and_comm])
            · skip
              refine rg (h := ?_)
              refine wy eql ?_
              refine wy asg ?_
              refine WL.cut (by repeat (first | exact Cut.nil | apply Cut.hit | apply Cut.miss (by exact rfl))) ?_
              refine nl (h := ?_)
              refine q_seq (h := ?_)
              refine cd (by exact rfl) (fun h27 => ?_) (fun h27 => ?_)
              · skip
                refine sq (h := ?_)
                refine rg (h := ?_)
                refine wy mv ?_
                refine wy mv ?_
                apply brAnd 4 63 67 (by exact rfl)
                · intro hb28
                  refine un (h := ?_)
                  refine wy (by first | exact fa | exact faE) ?_
                  refine un (h := ?_)
                  refine wy (by first | exact ld | exact ldE) ?_
                  refine un (h := ?_)
                  refine cl0 (hc := fun w hS => C_ref3_within ..) (h := ?_)
                  refine wy (by first | exact pkT | exact pkF) ?_
                  exact mg (by repeat (first | exact trivial | refine ⟨rfl, ?_⟩ | refine ⟨by rw [hb28]; rfl, ?_⟩)) slz_
                · intro hb28
                  repeat (first | refine un (h := ?_) | refine sk (h := ?_) | refine WL.y (hy := pkF) (h := ?_) | refine WL.y (hy := pkT) (h := ?_))
                  exact mg (by repeat (first | exact trivial | refine ⟨rfl, ?_⟩ | refine ⟨by rw [hb28]; rfl, ?_⟩)) slz_
                refine wy asg ?_
                refine nl (h := ?_)
                refine q_seq (h := ?_)
                refine rtn (h := ?_)
                refine q_blk_ret (h := ?_)
                refine q_then_ret (h := ?_)
                refine q_ret (hR := ?_)
                refine fun w hS => ⟨?_, hS.sub slz_⟩
                clear hS
                first
                  | (rw [hm]; rfl)
                  | (simp_all [mkV, sdV, prV, resV, Bool.and_assoc, Bool.and_comm])
              · skip
                refine skp (h := ?_)
                refine q_blk_norm (h := ?_)
                refine q_seq (h := ?_)
                refine sq (h := ?_)
                refine rg (h := ?_)
                refine wy asg ?_
                refine nl (h := ?_)
                refine q_seq (h := ?_)
                refine rtn (h := ?_)
                refine q_ret (hR := ?_)
                refine fun w hS => ⟨?_, hS.sub slz_⟩
                clear hS
                first
                  | (rw [hm]; rfl)
                  | (simp_all [mkV, sdV, prV, resV, Bool.and_assoc, Bool.and_comm])
theorem C_ref3_Most (x : Nt) (w : World) : C0 Tryz.prog 34 [x.val] w (.int .i64 (mostN x)) := by
  refine ⟨en Tryz.func34 Tryz.ntmps34 (St.init w) (h := fun F => ?_)⟩
  refine sq (h := ?_)
  refine rg (h := ?_)
  refine bxA (h := fun b0 => ?_)
  refine wy asg ?_
  refine nl (h := ?_)
  refine q_seq (h := ?_)
  refine sq (h := ?_)
  refine sq (h := ?_)
  refine rg (h := ?_)
  refine wy (by first | exact fa | exact faE) ?_
  refine wy (by first | exact ld | exact ldE) ?_
  refine nl (h := ?_)
  refine q_seq (h := ?_)
  refine bk (h := ?_)
  refine sq (h := ?_)
  refine rg (h := ?_)
  refine wy eql ?_
  refine wy asg ?_
  refine nl (h := ?_)
  refine q_seq (h := ?_)
  refine cd (by exact rfl) (fun h0 => ?_) (fun h0 => ?_)
  · skip
    have hm : mostN x = 1 := by unfold mostN; rw [if_pos (of_decide_eq_true h0)]
    refine sq (h := ?_)
    refine rg (h := ?_)
    refine wy asg ?_
    refine nl (h := ?_)
    refine q_seq (h := ?_)
    refine rtn (h := ?_)
    refine q_blk_ret (h := ?_)
    refine q_then_ret (h := ?_)
    refine q_ret (hR := ?_)
    rw [hm]
    exact fun w hS => ⟨rfl, hS.sub slz_⟩
  · skip
    have n1 := of_decide_eq_false h0
    refine sq (h := ?_)
    refine rg (h := ?_)
    refine wy eql ?_
    refine wy asg ?_
    refine nl (h := ?_)
    refine q_seq (h := ?_)
    refine cd (by exact rfl) (fun h1 => ?_) (fun h1 => ?_)
    · skip
      have hm : mostN x = x.pair.2 := by unfold mostN; rw [if_neg n1, if_pos (of_decide_eq_true h1)]
      refine sq (h := ?_)
      refine rg (h := ?_)
      refine wy (by first | exact fa | exact faE) ?_
      refine wy (by first | exact fa | exact faE) ?_
      refine wy (by first | exact ld | exact ldE) ?_
      refine wy asg ?_
      refine nl (h := ?_)
      refine q_seq (h := ?_)
      refine rtn (h := ?_)
      refine q_blk_ret (h := ?_)
      refine q_then_ret (h := ?_)
      refine q_ret (hR := ?_)
      rw [hm]
      exact fun w hS => ⟨rfl, hS.sub slz_⟩
    · skip
      have hm : mostN x = 0 := by unfold mostN; rw [if_neg n1, if_neg (of_decide_eq_false h1)]
      refine skp (h := ?_)
      refine q_blk_norm (h := ?_)
      refine q_seq (h := ?_)
      refine sq (h := ?_)
      refine rg (h := ?_)
      refine wy asg ?_
      refine nl (h := ?_)
      refine q_seq (h := ?_)
      refine rtn (h := ?_)
      refine q_ret (hR := ?_)
      rw [hm]
      exact fun w hS => ⟨rfl, hS.sub slz_⟩
theorem C_ref3_Check (f : Fmt) (first : Int) (xs : List Nt) (A : Option Addr) (n c : Nat) (w : World) (h : Rd w A 4 n (encN xs)) (hn : n ≤ 9223372036854775807) : C0 Tryz.prog 14 [.agg (cardC f first A n c).toArray] w (.int .i64 (chkC f first xs)) := by
  have hlen : xs.length = n := by have := h.len; rwa [encN_len] at this
  refine ⟨en Tryz.func14 Tryz.ntmps14 ((St.init w).share (e := .ro A 4 n (encN xs)) h rfl rfl rfl) (h := fun F => ?_)⟩
  refine sq (h := ?_)
  refine rg (h := ?_)
  refine bxA (h := fun b0 => ?_)
  refine wy asg ?_
  refine nl (h := ?_)
  refine q_seq (h := ?_)
  refine sq (h := ?_)
  refine sq (h := ?_)
  refine rg (h := ?_)
  refine wy (by first | exact fa | exact faE) ?_
  refine wy (by first | exact ldA | exact ldEA) ?_
  refine cl0 (hc := fun w hS => C_ref1_Check f w) (h := ?_)
  refine wy neq ?_
  refine wy mv ?_
  apply brOr 5 9 14 (by exact rfl)
  · intro hb0
    refine un (h := ?_)
    refine wy (by first | exact fa | exact faE) ?_
    refine un (h := ?_)
    refine wy (by first | exact ld | exact ldE) ?_
    refine un (h := ?_)
    refine cl0 (hc := fun w hS => C_ref3_within ..) (h := ?_)
    refine un (h := ?_)
    refine wy notB ?_
    refine wy (by first | exact pkT | exact pkF) ?_
    exact mg (by repeat (first | exact trivial | refine ⟨rfl, ?_⟩ | refine ⟨by rw [hb0]; rfl, ?_⟩)) slz_
  · intro hb0
    repeat (first | refine un (h := ?_) | refine sk (h := ?_) | refine WL.y (hy := pkF) (h := ?_) | refine WL.y (hy := pkT) (h := ?_))
    exact mg (by repeat (first | exact trivial | refine ⟨rfl, ?_⟩ | refine ⟨by rw [hb0]; rfl, ?_⟩)) slz_
  refine wy mv ?_
  apply brOr 5 15 20 (by exact rfl)
  · intro hb1
    refine un (h := ?_)
    refine wy (by first | exact fa | exact faE) ?_
    refine un (h := ?_)
    refine wy (by first | exact ld | exact ldE) ?_
    refine un (h := ?_)
    refine wy lenS ?_
    refine un (h := ?_)
    refine wy gtr ?_
    refine wy (by first | exact pkT | exact pkF) ?_
    exact mg (by repeat (first | exact trivial | refine ⟨rfl, ?_⟩ | refine ⟨by rw [hb1]; rfl, ?_⟩)) slz_
  · intro hb1
    repeat (first | refine un (h := ?_) | refine sk (h := ?_) | refine WL.y (hy := pkF) (h := ?_) | refine WL.y (hy := pkT) (h := ?_))
    exact mg (by repeat (first | exact trivial | refine ⟨rfl, ?_⟩ | refine ⟨by rw [hb1]; rfl, ?_⟩)) slz_
  refine nl (h := ?_)
  refine q_seq (h := ?_)
  refine cd (by exact rfl) (fun h2 => ?_) (fun h2 => ?_)
  · skip
    have hE : chkC f first xs = 30 := by
      have h' : headB f first xs.length = true := by rw [hlen]; exact h2
      rw [chkC, h']; rfl
    refine sq (h := ?_)
    refine rg (h := ?_)
    refine wy asg ?_
    refine nl (h := ?_)
    refine q_seq (h := ?_)
    refine rtn (h := ?_)
    refine q_then_ret (h := ?_)
    refine q_ret (hR := ?_)
    rw [hE]
    exact fun w hS => ⟨rfl, hS.sub slz_⟩
  · skip
    have hH : headB f first xs.length = false := by rw [hlen]; exact h2
    have hn30 : n ≤ 30 := by
      have h' := hH
      unfold headB at h'
      simp only [Bool.or_eq_false_iff, decide_eq_false_iff_not] at h'
      omega
    refine skp (h := ?_)
    refine q_seq (h := ?_)
    refine sq (h := ?_)
    refine rg (h := ?_)
    refine wy asg ?_
    refine WL.cut (by repeat (first | exact Cut.nil | apply Cut.hit | apply Cut.miss (by exact rfl))) ?_
    refine nl (h := ?_)
    refine q_seq (h := ?_)
    refine sq (h := ?_)
    refine sq (h := ?_)
    refine rg (h := ?_)
    refine wy asg ?_
    refine WL.cut (by repeat (first | exact Cut.nil | apply Cut.hit | apply Cut.miss (by exact rfl))) ?_
    refine nl (h := ?_)
    refine q_seq (h := ?_)
    refine bk (h := ?_)
    refine lp (X := CKZ) (I := fun z => z.k ≤ n ∧ (xs.take z.k).all mkV = true ∧ 0 ≤ mostS (xs.take z.k) ∧ mostS (xs.take z.k) ≤ 30 * (z.k : Int)) (le := fun z => [(1, .pointer (some ⟨b0, 0, none⟩)), (3, .int .i64 (mostS (xs.take z.k))), (4, .int .i64 z.k)]) (Le := fun z => [.blk b0 64 (cardC f first A n c), .ro A 4 n (encN xs)]) (μ := fun z => n - z.k) ⟨0⟩ ⟨Nat.zero_le _, rfl, by exact Int.le_refl _, by exact Int.le_refl _⟩ sbz_ slz_ (fun z hz => ?_)
    obtain ⟨hzk, hza, hz0, hzm⟩ := hz
    refine sq (h := ?_)
    refine sq (h := ?_)
    refine rg (h := ?_)
    refine wy mv ?_
    refine wy (by first | exact fa | exact faE) ?_
    refine wy (by first | exact ld | exact ldE) ?_
    refine wy lenS ?_
    refine wy lss ?_
    refine nl (h := ?_)
    refine q_seq (h := ?_)
    refine cd (by exact rfl) (fun h3 => ?_) (fun h3 => ?_)
    · skip
      have hkn : z.k < n := by simp only [decide_eq_true_eq] at h3; omega
      obtain ⟨x, hx⟩ : ∃ x, xs[z.k]? = some x := ⟨_, List.getElem?_eq_getElem (by omega)⟩
      have hxe := encN_at hx
      have hms := mostS_succ hx
      have hal := all_take hx
      refine skp (h := ?_)
      refine q_seq (h := ?_)
      refine sq (h := ?_)
      refine bk (h := ?_)
      refine sq (h := ?_)
      refine sq (h := ?_)
      refine rg (h := ?_)
      refine wy (by first | exact fa | exact faE) ?_
      refine wy (by first | exact ld | exact ldE) ?_
      refine wy mv ?_
      refine wy (ix (hb := by omega)) ?_
      refine wy (ldEA (hk := hxe)) ?_
      refine cl0 (hc := fun w hS => C_ref3_IsMark _ w) (h := ?_)
      refine wy notB ?_
      refine nl (h := ?_)
      refine q_seq (h := ?_)
      refine cd (by exact rfl) (fun h4 => ?_) (fun h4 => ?_)
      · skip
        have hE : chkC f first xs = 30 := by
          have h1 : (!mkV x) = true := h4
          have h2 : xs.all mkV = false := all_bad (k := z.k + 1) (by rw [hal, show mkV x = false by simpa using h1, Bool.and_false])
          rw [chkC, hH, h2]; rfl
        refine sq (h := ?_)
        refine rg (h := ?_)
        refine wy asg ?_
        refine nl (h := ?_)
        refine q_seq (h := ?_)
        refine rtn (h := ?_)
        refine q_then_ret (h := ?_)
        refine q_blk_ret (h := ?_)
        refine q_then_ret (h := ?_)
        refine q_then_ret (h := ?_)
        refine q_blk_ret (h := ?_)
        refine q_then_ret (h := ?_)
        refine q_ret (hR := ?_)
        rw [hE]
        exact fun w hS => ⟨rfl, hS.sub slz_⟩
      · skip
        have hmk : mkV x = true := by simpa using h4
        have hmb := most_bd hmk
        have hal2 : (xs.take (z.k + 1)).all mkV = true := by rw [hal, hza, hmk]; rfl
        refine skp (h := ?_)
        refine q_seq (h := ?_)
        refine rg (h := ?_)
        refine wy mv ?_
        refine wy (by first | exact fa | exact faE) ?_
        refine wy (by first | exact ld | exact ldE) ?_
        refine wy mv ?_
        refine wy (ix (hb := by omega)) ?_
        refine wy (ldEA (hk := hxe)) ?_
        refine cl0 (hc := fun w hS => C_ref3_Most _ w) (h := ?_)
        refine wy (addI (hb := by omega)) ?_
        refine wy asg ?_
        refine WL.cut (by repeat (first | exact Cut.nil | apply Cut.hit | apply Cut.miss (by exact rfl))) ?_
        refine nl (h := ?_)
        refine q_blk_norm (h := ?_)
        refine q_seq (h := ?_)
        refine rg (h := ?_)
        refine wy mv ?_
        refine wy addI ?_
        refine wy asg ?_
        refine WL.cut (by repeat (first | exact Cut.nil | apply Cut.hit | apply Cut.miss (by exact rfl))) ?_
        refine nl (h := ?_)
        refine rn (x := z) ⟨z.k + 1⟩ ⟨by dsimp only; omega, hal2, by dsimp only; omega, by dsimp only; omega⟩ (by dsimp only; omega) (by dsimp only; rw [hms]; repeat (first | exact trivial | refine ⟨rfl, ?_⟩)) slz_
    · skip
      have hkn : z.k = n := by simp only [decide_eq_false_iff_not] at h3; omega
      have htk : xs.take z.k = xs := by rw [hkn, ← hlen, List.take_length]
      rw [htk] at hza hzm
      refine et (h := ?_)
      refine q_then_exit (h := ?_)
      refine q_then_exit (h := ?_)
      refine q_blk_hit (h := ?_)
      refine q_seq (h := ?_)
      refine sq (h := ?_)
      refine sq (h := ?_)
      refine rg (h := ?_)
      refine wy mv ?_
      refine wy gtr ?_
      refine nl (h := ?_)
      refine q_seq (h := ?_)
      refine cd (by exact rfl) (fun h5 => ?_) (fun h5 => ?_)
      · skip
        have h8 := h5
        rw [htk] at h8
        have hE : chkC f first xs = 30 := by rw [chkC, hH, hza, show decide (600 < mostS xs) = true from h8]; rfl
        refine sq (h := ?_)
        refine rg (h := ?_)
        refine wy asg ?_
        refine nl (h := ?_)
        refine q_seq (h := ?_)
        refine rtn (h := ?_)
        refine q_then_ret (h := ?_)
        refine q_ret (hR := ?_)
        rw [hE]
        exact fun w hS => ⟨rfl, hS.sub slz_⟩
      · skip
        have h8 := h5
        rw [htk] at h8
        have hE : chkC f first xs = 0 := by rw [chkC, hH, hza, show decide (600 < mostS xs) = false from h8]; rfl
        refine skp (h := ?_)
        refine q_seq (h := ?_)
        refine sq (h := ?_)
        refine rg (h := ?_)
        refine wy asg ?_
        refine nl (h := ?_)
        refine q_seq (h := ?_)
        refine rtn (h := ?_)
        refine q_ret (hR := ?_)
        rw [hE]
        exact fun w hS => ⟨rfl, hS.sub slz_⟩
end Go.Proofs.YtpmmgljndceplaaGreat

namespace Go.Proofs.YtpmmgljndceplaaGreat
open Go Go.RowKit

def misN (x : Nt) : Int := bif decide (x.kind = 2) then x.pair.2 else 0
def misS (xs : List Nt) : Int := (xs.map misN).sum
theorem put_len (l : List En) (e : En) : (putC l e).length ≤ l.length + 1 := by
  induction l with
  | nil => exact Nat.le_refl _
  | cons x l ih =>
    rw [putC]
    by_cases h : x.1 = e.1
    · rw [if_pos h]; simp
    · rw [if_neg h]; simp only [List.length_cons]; omega
theorem norm_len (l : List En) : (normC l).length ≤ l.length := by
  have : ∀ (l acc : List En), (l.foldl putC acc).length ≤ acc.length + l.length := fun l => by
    induction l with
    | nil => intro acc; exact Nat.le_refl _
    | cons e l ih =>
      intro acc
      have h1 := ih (putC acc e)
      have h2 := put_len acc e
      rw [List.foldl_cons, List.length_cons]; omega
  have := this l []
  rw [normC]; simpa using this
theorem go_len (f : Fmt) (side : Int) (e : En) (p : Int) : (goE f side e p).length ≤ 1 := by
  unfold goE
  by_cases h : side = -1 ∨ side = p
  · rw [if_pos h]; cases nxtS f e.1 p <;> simp
  · rw [if_neg h]; simp
theorem step_len (f : Fmt) (l : List En) (side : Int) : (stepC f l side).length ≤ 2 * l.length := by
  refine Nat.le_trans (norm_len _) ?_
  unfold stepI
  induction l with
  | nil => simp
  | cons e l ih =>
    have h0 := go_len f side e 0
    have h1 := go_len f side e 1
    rw [List.flatMap_cons, List.length_append, List.length_append, List.length_cons]; omega
theorem iter_len (f : Fmt) (l : List En) : ∀ k, (iterC f l k).length ≤ 2 ^ k * l.length
  | 0 => by simp [iterC]
  | k + 1 => by
    have h1 := step_len f (iterC f l k) (-1)
    have h2 := iter_len f l k
    show (stepC f (iterC f l k) (-1)).length ≤ _
    rw [Nat.pow_succ, Nat.mul_comm (2 ^ k) 2, Nat.mul_assoc]
    omega
theorem missI_len (f : Fmt) (l : List En) (a : Int) : ∀ k, (missI f l a k).length + l.length ≤ 2 ^ k * l.length
  | 0 => by simp [missI]
  | k + 1 => by
    have h1 := missI_len f l a k
    have h2 := iter_len f l k
    have h3 : (if a ≤ (k : Int) then iterC f l k else []).length ≤ (iterC f l k).length := by
      by_cases h : a ≤ (k : Int)
      · rw [if_pos h]; exact Nat.le_refl _
      · rw [if_neg h]; exact Nat.zero_le _
    rw [missI, List.length_append, Nat.pow_succ, Nat.mul_comm (2 ^ k) 2, Nat.mul_assoc]
    omega
def expN (x : Nt) : Nat := 1 + (misN x).toNat
theorem after_len (f : Fmt) (l : List En) (x : Nt) : (afterC f l x).length ≤ 2 ^ expN x * l.length := by
  unfold afterC
  by_cases h1 : x.kind = 1
  · rw [if_pos h1]
    have := step_len f l x.side
    have e : expN x = 1 := by unfold expN misN; rw [decide_eq_false (by omega)]; rfl
    rw [e]; omega
  · rw [if_neg h1]
    by_cases h2 : x.kind = 2
    · rw [if_pos h2]
      have e : expN x = x.pair.2.toNat + 1 := by unfold expN misN; rw [decide_eq_true h2]; show 1 + x.pair.2.toNat = _; omega
      have h3 := missI_len f l x.pair.1 (x.pair.2.toNat + 1)
      have h4 := norm_len (missI f l x.pair.1 (x.pair.2.toNat + 1))
      rw [e]
      show (normC _).length ≤ _
      omega
    · rw [if_neg h2]
      have h3 : (testC f x l).length ≤ l.length := List.length_filter_le ..
      have h4 : 1 ≤ 2 ^ expN x := Nat.one_le_two_pow
      exact Nat.le_trans h3 (Nat.le_mul_of_pos_left _ h4)
def expS (xs : List Nt) : Nat := (xs.map expN).sum
theorem crowd_len (f : Fmt) (cf : Int) (xs : List Nt) : (crowdC f cf xs).length ≤ 2 ^ expS xs * 2 := by
  have key : ∀ (xs : List Nt) (l : List En), (xs.foldl (afterC f) l).length ≤ 2 ^ expS xs * l.length := fun xs => by
    induction xs with
    | nil => intro l; simp [expS]
    | cons x xs ih =>
      intro l
      rw [List.foldl_cons]
      refine Nat.le_trans (ih _) ?_
      have h1 := after_len f l x
      have : expS (x :: xs) = expN x + expS xs := by unfold expS; rw [List.map_cons, List.sum_cons]
      rw [this, Nat.pow_add, Nat.mul_comm (2 ^ expN x), Nat.mul_assoc]
      exact Nat.mul_le_mul_left _ h1
  refine Nat.le_trans (key xs (begC cf)) (Nat.mul_le_mul_left _ ?_)
  unfold begC
  rw [List.length_append]
  have : ∀ (p : Prop) [Decidable p] (e : En), (if p then [e] else []).length ≤ 1 := fun p _ e => by
    by_cases h : p
    · rw [if_pos h]; exact Nat.le_refl _
    · rw [if_neg h]; exact Nat.zero_le _
  have h1 := this (cf = -1 ∨ cf = 0) (⟨0, [], (0, 0), (0, 0)⟩, (0, 0, 0))
  have h2 := this (cf = -1 ∨ cf = 1) (⟨1, [], (0, 0), (0, 0)⟩, (0, 0, 0))
  omega
theorem exp_mis {xs : List Nt} (h : ∀ x ∈ xs, mkV x = true) : (expS xs : Int) = xs.length + misS xs ∧ mostS xs ≤ xs.length + misS xs ∧ 0 ≤ misS xs := by
  induction xs with
  | nil => exact ⟨rfl, Int.le_refl _, Int.le_refl _⟩
  | cons x xs ih =>
    obtain ⟨h1, h2, h3⟩ := ih fun y hy => h y (by simp [hy])
    have hk := mk_kind (h x (by simp))
    have h4 : 0 ≤ misN x ∧ mostN x ≤ 1 + misN x := by
      unfold misN mostN
      by_cases e1 : x.kind = 1
      · rw [decide_eq_false (by omega), if_pos e1]; exact ⟨Int.le_refl _, by show (1 : Int) ≤ 1 + 0; omega⟩
      · rw [if_neg e1]
        by_cases e2 : x.kind = 2
        · have := hk.2.2.1 e2
          rw [decide_eq_true e2, if_pos e2]
          show 0 ≤ x.pair.2 ∧ x.pair.2 ≤ 1 + x.pair.2
          omega
        · rw [decide_eq_false e2, if_neg e2]; exact ⟨Int.le_refl _, by show (0 : Int) ≤ 1 + 0; omega⟩
    have e1 : expS (x :: xs) = expN x + expS xs := by unfold expS; rw [List.map_cons, List.sum_cons]
    have e2 : misS (x :: xs) = misN x + misS xs := by unfold misS; rw [List.map_cons, List.sum_cons]
    have e3 : mostS (x :: xs) = mostN x + mostS xs := by unfold mostS; rw [List.map_cons, List.sum_cons]
    rw [e1, e2, e3, List.length_cons]
    unfold expN
    omega
def farC (f : Fmt) (cf : Int) (xs : List Nt) : Bool := decide ((60 : Int) < xs.length) || (decide (chkC f cf xs = 0) && (decide (8 < misS xs) || decide ((12 : Int) < xs.length)))
def rdyC (f : Fmt) (cf : Int) (xs : List Nt) : Bool := !farC f cf xs && decide (chkC f cf xs = 0)
structure Rdy (f : Fmt) (cf : Int) (xs : List Nt) : Prop where
  c : chkC f cf xs = 0
  n : xs.length ≤ 12
  m : mostS xs ≤ 20
  b : (crowdC f cf xs).length ≤ 4194304
  mks : ∀ x ∈ xs, mkV x = true
  ok : f.Ok
  cf : -1 ≤ cf ∧ cf ≤ 1
  mis : misS xs ≤ 8
theorem rdy_of {f : Fmt} {cf : Int} {xs : List Nt} (h1 : chkC f cf xs = 0) (hn : xs.length ≤ 12) (hm : misS xs ≤ 8) : Rdy f cf xs := by
  obtain ⟨h2, h3, h4, h5, h6, h7⟩ := chk_facts h1
  obtain ⟨e1, e2, e3⟩ := exp_mis h6
  have hl := crowd_len f cf xs
  have he : expS xs ≤ 20 := by omega
  have hp : 2 ^ expS xs ≤ 2 ^ 20 := Nat.pow_le_pow_right (by omega) he
  exact ⟨h1, hn, by omega, by omega, h6, h3, h4, hm⟩
theorem rdy_facts {f : Fmt} {cf : Int} {xs : List Nt} (h : rdyC f cf xs = true) : Rdy f cf xs := by
  unfold rdyC farC at h
  rw [Bool.and_eq_true, Bool.not_eq_true', Bool.or_eq_false_iff, decide_eq_true_eq] at h
  obtain ⟨⟨_, h2⟩, h1⟩ := h
  rw [decide_eq_true h1, Bool.true_and, Bool.or_eq_false_iff, decide_eq_false_iff_not, decide_eq_false_iff_not] at h2
  exact rdy_of h1 (by omega) (by omega)
theorem misS_succ {xs : List Nt} {k : Nat} {x : Nt} (h : xs[k]? = some x) : misS (xs.take (k + 1)) = misS (xs.take k) + misN x := by
  unfold misS
  rw [List.take_add_one, h, List.map_append, List.sum_append]
  show _ + (misN x + 0) = _
  omega
theorem C_law3_Far (f : Fmt) (first : Int) (xs : List Nt) (A : Option Addr) (n c : Nat) (w : World) (h : Rd w A 4 n (encN xs)) (hn : n ≤ 9223372036854775807) : C0 Tryz.prog 13 [.agg (cardC f first A n c).toArray] w (.bool (farC f first xs)) := by
  have hlen : xs.length = n := by have := h.len; rwa [encN_len] at this
  refine ⟨en Tryz.func13 Tryz.ntmps13 ((St.init w).share (e := .ro A 4 n (encN xs)) h rfl rfl rfl) (h := fun F => ?_)⟩
  refine sq (h := ?_)
  refine rg (h := ?_)
  refine bxA (h := fun b0 => ?_)
  refine wy asg ?_
  refine nl (h := ?_)
  refine q_seq (h := ?_)
  refine sq (h := ?_)
  refine sq (h := ?_)
  refine rg (h := ?_)
  refine wy (by first | exact fa | exact faE) ?_
  refine wy (by first | exact ld | exact ldE) ?_
  refine wy lenS ?_
  refine wy gtr ?_
  refine nl (h := ?_)
  refine q_seq (h := ?_)
  refine cd (by exact rfl) (fun h0 => ?_) (fun h0 => ?_)
  · skip
    have hE : farC f first xs = true := by rw [farC, hlen, show decide ((60 : Int) < n) = true from h0]; rfl
    refine sq (h := ?_)
    refine rg (h := ?_)
    refine wy asg ?_
    refine nl (h := ?_)
    refine q_seq (h := ?_)
    refine rtn (h := ?_)
    refine q_then_ret (h := ?_)
    refine q_ret (hR := ?_)
    rw [hE]
    exact fun w hS => ⟨rfl, hS.sub slz_⟩
  · skip
    have h60 : decide ((60 : Int) < n) = false := h0
    refine skp (h := ?_)
    refine q_seq (h := ?_)
    refine sq (h := ?_)
    refine sq (h := ?_)
    refine rg (h := ?_)
    refine wy (by first | exact ldA | exact ldEA) ?_
    refine cl0 (hc := fun w hS => C_ref3_Check f first xs A n c w (hS.get rdz_) hn) (h := ?_)
    refine wy neq ?_
    refine nl (h := ?_)
    refine q_seq (h := ?_)
    refine cd (by exact rfl) (fun h1 => ?_) (fun h1 => ?_)
    · skip
      have hcn : chkC f first xs ≠ 0 := by simpa using h1
      have hE : farC f first xs = false := by rw [farC, hlen, h60, decide_eq_false hcn]; rfl
      refine sq (h := ?_)
      refine rg (h := ?_)
      refine wy asg ?_
      refine nl (h := ?_)
      refine q_seq (h := ?_)
      refine rtn (h := ?_)
      refine q_then_ret (h := ?_)
      refine q_ret (hR := ?_)
      rw [hE]
      exact fun w hS => ⟨rfl, hS.sub slz_⟩
    · skip
      have hcn : chkC f first xs = 0 := by simpa using h1
      obtain ⟨_, _, _, hl30, hmk, _⟩ := chk_facts hcn
      refine skp (h := ?_)
      refine q_seq (h := ?_)
      refine sq (h := ?_)
      refine rg (h := ?_)
      refine wy asg ?_
      refine WL.cut (by repeat (first | exact Cut.nil | apply Cut.hit | apply Cut.miss (by exact rfl))) ?_
      refine nl (h := ?_)
      refine q_seq (h := ?_)
      refine sq (h := ?_)
      refine sq (h := ?_)
      refine rg (h := ?_)
      refine wy asg ?_
      refine WL.cut (by repeat (first | exact Cut.nil | apply Cut.hit | apply Cut.miss (by exact rfl))) ?_
      refine nl (h := ?_)
      refine q_seq (h := ?_)
      refine bk (h := ?_)
      refine lp (X := CKZ) (I := fun z => z.k ≤ n ∧ 0 ≤ misS (xs.take z.k) ∧ misS (xs.take z.k) ≤ 30 * (z.k : Int)) (le := fun z => [(1, .pointer (some ⟨b0, 0, none⟩)), (3, .int .i64 (misS (xs.take z.k))), (4, .int .i64 z.k)]) (Le := fun z => [.blk b0 64 (cardC f first A n c), .ro A 4 n (encN xs)]) (μ := fun z => n - z.k) ⟨0⟩ ⟨Nat.zero_le _, by exact Int.le_refl _, by exact Int.le_refl _⟩ sbz_ slz_ (fun z hz => ?_)
      obtain ⟨hzk, hz0, hzm⟩ := hz
      refine sq (h := ?_)
      refine sq (h := ?_)
      refine rg (h := ?_)
      refine wy mv ?_
      refine wy (by first | exact fa | exact faE) ?_
      refine wy (by first | exact ld | exact ldE) ?_
      refine wy lenS ?_
      refine wy lss ?_
      refine nl (h := ?_)
      refine q_seq (h := ?_)
      refine cd (by exact rfl) (fun h2 => ?_) (fun h2 => ?_)
      · skip
        have hkn : z.k < n := by simp only [decide_eq_true_eq] at h2; omega
        obtain ⟨x, hx⟩ : ∃ x, xs[z.k]? = some x := ⟨_, List.getElem?_eq_getElem (by omega)⟩
        have hxe := encN_at hx
        have hms := misS_succ hx
        have hxm := mk_kind (hmk x (List.mem_of_getElem? hx))
        refine skp (h := ?_)
        refine q_seq (h := ?_)
        refine sq (h := ?_)
        refine bk (h := ?_)
        refine sq (h := ?_)
        refine rg (h := ?_)
        refine wy (by first | exact fa | exact faE) ?_
        refine wy (by first | exact ld | exact ldE) ?_
        refine wy mv ?_
        refine wy (ix (hb := by omega)) ?_
        refine wy (by first | exact fa | exact faE) ?_
        refine wy (ldE (hk := hxe)) ?_
        refine wy eql ?_
        refine nl (h := ?_)
        refine q_seq (h := ?_)
        refine cd (by exact rfl) (fun h3 => ?_) (fun h3 => ?_)
        · skip
          have hk2 : x.kind = 2 := of_decide_eq_true h3
          have hmi : misN x = x.pair.2 := by unfold misN; rw [decide_eq_true hk2]; rfl
          have hpb := hxm.2.2.1 hk2
          refine rg (h := ?_)
          refine wy mv ?_
          refine wy (by first | exact fa | exact faE) ?_
          refine wy (by first | exact ld | exact ldE) ?_
          refine wy mv ?_
          refine wy (ix (hb := by omega)) ?_
          refine wy (by first | exact fa | exact faE) ?_
          refine wy faE ?_
          refine wy (ldE (hk := hxe)) ?_
          refine wy (addI (hb := by omega)) ?_
          refine wy asg ?_
          refine WL.cut (by repeat (first | exact Cut.nil | apply Cut.hit | apply Cut.miss (by exact rfl))) ?_
          refine nl (h := ?_)
          refine q_blk_norm (h := ?_)
          refine q_seq (h := ?_)
          refine rg (h := ?_)
          refine wy mv ?_
          refine wy addI ?_
          refine wy asg ?_
          refine WL.cut (by repeat (first | exact Cut.nil | apply Cut.hit | apply Cut.miss (by exact rfl))) ?_
          refine nl (h := ?_)
          refine rn (x := z) ⟨z.k + 1⟩ ⟨by dsimp only; omega, by dsimp only; omega, by dsimp only; omega⟩ (by dsimp only; omega) (by dsimp only; rw [hms, hmi]; (try rw [Int.add_zero]); repeat (first | exact trivial | refine ⟨rfl, ?_⟩)) slz_
        · skip
          have hmi : misN x = 0 := by unfold misN; rw [h3]; rfl
          refine skp (h := ?_)
          refine q_blk_norm (h := ?_)
          refine q_seq (h := ?_)
          refine rg (h := ?_)
          refine wy mv ?_
          refine wy addI ?_
          refine wy asg ?_
          refine WL.cut (by repeat (first | exact Cut.nil | apply Cut.hit | apply Cut.miss (by exact rfl))) ?_
          refine nl (h := ?_)
          refine rn (x := z) ⟨z.k + 1⟩ ⟨by dsimp only; omega, by dsimp only; omega, by dsimp only; omega⟩ (by dsimp only; omega) (by dsimp only; rw [hms, hmi]; (try rw [Int.add_zero]); repeat (first | exact trivial | refine ⟨rfl, ?_⟩)) slz_
      · skip
        have hkn : z.k = n := by simp only [decide_eq_false_iff_not] at h2; omega
        have htk : xs.take z.k = xs := by rw [hkn, ← hlen, List.take_length]
        have hE : farC f first xs = (decide (8 < misS (xs.take z.k)) || decide ((12 : Int) < n)) := by rw [farC, hlen, h60, decide_eq_true hcn, htk]; rfl
        refine et (h := ?_)
        refine q_then_exit (h := ?_)
        refine q_then_exit (h := ?_)
        refine q_blk_hit (h := ?_)
        refine q_seq (h := ?_)
        refine sq (h := ?_)
        refine rg (h := ?_)
        refine wy mv ?_
        refine wy gtr ?_
        refine wy mv ?_
        apply brOr 5 37 42 (by exact rfl)
        · intro hb4
          refine un (h := ?_)
          refine wy (by first | exact fa | exact faE) ?_
          refine un (h := ?_)
          refine wy (by first | exact ld | exact ldE) ?_
          refine un (h := ?_)
          refine wy lenS ?_
          refine un (h := ?_)
          refine wy gtr ?_
          refine wy (by first | exact pkT | exact pkF) ?_
          exact mg (by repeat (first | exact trivial | refine ⟨rfl, ?_⟩ | refine ⟨by rw [hb4]; rfl, ?_⟩)) slz_
        · intro hb4
          repeat (first | refine un (h := ?_) | refine sk (h := ?_) | refine WL.y (hy := pkF) (h := ?_) | refine WL.y (hy := pkT) (h := ?_))
          exact mg (by repeat (first | exact trivial | refine ⟨rfl, ?_⟩ | refine ⟨by rw [hb4]; rfl, ?_⟩)) slz_
        refine wy asg ?_
        refine nl (h := ?_)
        refine q_seq (h := ?_)
        refine rtn (h := ?_)
        refine q_ret (hR := ?_)
        rw [hE]
        exact fun w hS => ⟨rfl, hS.sub slz_⟩
end Go.Proofs.YtpmmgljndceplaaGreat

namespace Go.Proofs.YtpmmgljndceplaaGreat
open Go Go.RowKit

def exX : List Nt := [⟨1, 0, (0, 0)⟩, ⟨2, 0, (2, 4)⟩, ⟨3, 0, (3, 1)⟩, ⟨2, 0, (1, 1)⟩, ⟨4, 0, (1, 0)⟩]
theorem C_law3_Example (w : World) : CR Tryz.prog 23 [] w (fun _ : Nat => True) (fun b => .agg (cardC exF 0 (some ⟨b, 0, none⟩) 5 5).toArray) (fun b => [.own (some ⟨b, 0, none⟩) 5 101 4 5 (encN exX)]) := by
  refine ⟨en Tryz.func23 Tryz.ntmps23 (St.init w) (h := fun F => ?_)⟩
  refine sq (h := ?_)
  refine rg (h := ?_)
  refine al (h := fun b0 => ?_)
  refine nl (h := ?_)
  refine q_seq (h := ?_)
  refine sq (h := ?_)
  refine rg (h := ?_)
  refine cl (hc := fun w hS => C_law1_Example w) (h := fun x0 _ => ?_)
  refine wy mv ?_
  refine wy ex ?_
  refine wy ex ?_
  refine al (h := fun b1 => ?_)
  first | refine stA (h := ?_) | refine stEA (h := ?_)
  refine wy asg ?_
  refine nl (h := ?_)
  refine q_seq (h := ?_)
  refine sq (h := ?_)
  refine rg (h := ?_)
  refine wy (by first | exact ldA | exact ldEA) ?_
  refine wy bd ?_
  refine wy bd ?_
  refine wy bd ?_
  refine wy bd ?_
  refine wy bd ?_
  refine wy bd ?_
  refine wy bd ?_
  refine wy bd ?_
  refine wy bd ?_
  refine bs (h := fun b2 => ?_)
  refine wy bd ?_
  first | refine stA (h := ?_) | refine stEA (h := ?_)
  refine nl (h := ?_)
  refine q_seq (h := ?_)
  refine rtn (h := ?_)
  refine q_ret (hR := ?_)
  exact fun w hS => ⟨_, trivial, rfl, hS.sub slz_⟩
theorem ex_chk : chkC exF 0 exX = 0 := by kernel_rfl
theorem ex_bad : badC exF 0 exX = -1 := by kernel_rfl
theorem ex_most : mostS exX = 6 := by kernel_rfl
theorem ex_boards : boardsC (keyC (crowdC exF 0 exX)) = [⟨[], (1, 0), (0, 0)⟩] := by kernel_rfl
theorem ex_len : (crowdC exF 0 exX).length = 1 := by kernel_rfl
end Go.Proofs.YtpmmgljndceplaaGreat

namespace Go.Proofs.YtpmmgljndceplaaGreat
open Go Go.RowKit

theorem ex_pos : posE exF 0 exX = 0 := by rw [posE, ex_chk, ex_bad]; rfl
end Go.Proofs.YtpmmgljndceplaaGreat

namespace Go.Proofs.YtpmmgljndceplaaGreat
open Go Go.RowKit

theorem chk_of {f : Fmt} {cf : Int} {xs : List Nt} (h1 : chkF f = 0) (h2 : -1 ≤ cf ∧ cf ≤ 1) (h3 : xs.length ≤ 30) (h4 : ∀ x ∈ xs, mkV x = true) (h5 : mostS xs ≤ 600) : chkC f cf xs = 0 := by
  have e1 : headB f cf xs.length = false := by
    unfold headB
    rw [decide_eq_true h1, show wi cf (-1) 1 = true from wi_iff.2 h2, decide_eq_false (by omega)]; rfl
  rw [chkC, e1, List.all_eq_true.2 h4, decide_eq_false (by omega)]; rfl
theorem misN_nn {x : Nt} (h : mkV x = true) : 0 ≤ misN x ∧ 0 ≤ mostN x := by
  have h1 := (exp_mis (xs := [x]) (by simpa using h)).2.2
  have h2 := most_bd h
  exact ⟨by simpa [misS] using h1, by omega⟩
theorem sub_sums {ys xs : List Nt} (hs : ys.Sublist xs) (h : ∀ x ∈ xs, mkV x = true) : misS ys ≤ misS xs ∧ mostS ys ≤ mostS xs := by
  induction hs with
  | slnil => exact ⟨Int.le_refl _, Int.le_refl _⟩
  | @cons l1 l2 a hs ih =>
    obtain ⟨h1, h2⟩ := ih fun x hx => h x (by simp [hx])
    obtain ⟨h3, h4⟩ := misN_nn (h a (by simp))
    have e2 : misS (a :: l2) = misN a + misS l2 := by unfold misS; rw [List.map_cons, List.sum_cons]
    have e3 : mostS (a :: l2) = mostN a + mostS l2 := by unfold mostS; rw [List.map_cons, List.sum_cons]
    omega
  | @cons_cons l1 l2 a hs ih =>
    obtain ⟨h1, h2⟩ := ih fun x hx => h x (by simp [hx])
    have e : ∀ l : List Nt, misS (a :: l) = misN a + misS l ∧ mostS (a :: l) = mostN a + mostS l := fun l => by unfold misS mostS; rw [List.map_cons, List.sum_cons, List.map_cons, List.sum_cons]; exact ⟨rfl, rfl⟩
    have e1 := e l1
    have e2 := e l2
    omega
theorem Rdy.sub {f : Fmt} {cf : Int} {ys xs : List Nt} (h : Rdy f cf xs) (hs : ys.Sublist xs) : Rdy f cf ys := by
  obtain ⟨h1, h2⟩ := sub_sums hs h.mks
  obtain ⟨c1, c2, c3, c4, c5, c6⟩ := chk_facts h.c
  have hn := h.n
  have hm := h.m
  have hi := h.mis
  have hl := hs.length_le
  exact rdy_of (chk_of c1 c3 (by omega) (fun x hx => c5 x (hs.subset hx)) (by omega)) (by omega) (by omega)
theorem Rdy.take {f : Fmt} {cf : Int} {xs : List Nt} (h : Rdy f cf xs) (k : Nat) : Rdy f cf (xs.take k) := h.sub (List.take_sublist _ _)
theorem bad_rng (f : Fmt) (cf : Int) (xs : List Nt) : -1 ≤ badC f cf xs ∧ badC f cf xs < xs.length := by
  unfold badC
  rcases fstC_spec (fun i => (crowdC f cf (xs.take (i + 1))).isEmpty) xs.length with ⟨h1, _⟩ | ⟨k, hk, h1, _⟩ <;> rw [h1] <;> omega
theorem Rdy.pos {f : Fmt} {cf : Int} {xs : List Nt} (h : Rdy f cf xs) : posE f cf xs = if badC f cf xs = -1 then 0 else 3 := by
  have hb := bad_rng f cf xs
  rw [posE, decide_eq_true h.c, cond_true]
  by_cases e : badC f cf xs = -1
  · rw [if_pos e, e]; rfl
  · rw [if_neg e, decide_eq_true (show 0 ≤ badC f cf xs by omega)]; rfl
theorem Rdy.all {f : Fmt} {cf : Int} {xs : List Nt} (h : Rdy f cf xs) : allB f cf xs = badC f cf xs := by rw [allB, decide_eq_true h.c]; rfl

section rules
variable {F : Fence} {P : Program} {ops : Array Oper} {Q : Exit → Act → World → Prop} {rest : List Oper} {n : Nat} {D : List Deferred} {l : Env} {w0 : World} {L M : List Ent}
variable {d : Nat} {ty : TypeId} {pos : String} {aft : Array Edge}
end rules
structure Lsr (f : Fmt) (cf : Int) (xs : List Nt) (cf' : Int) (xs' : List Nt) : Prop where
  len : xs'.length = xs.length
  sub : ∀ s, s ∈ keyC (crowdC f cf xs) → s ∈ keyC (crowdC f cf' xs')
theorem Rdy.bad_key {f : Fmt} {cf : Int} {xs : List Nt} (h : Rdy f cf xs) : badC f cf xs = -1 ↔ ∃ s, s ∈ keyC (crowdC f cf xs) := by
  rw [bad_none h.cf]
  cases hc : crowdC f cf xs with
  | nil => exact ⟨fun e => absurd rfl e, fun ⟨s, hs⟩ => by cases hs⟩
  | cons e l => exact ⟨fun _ => ⟨e.1, by simp [keyC]⟩, fun _ => by simp⟩
theorem Lsr.pos {f : Fmt} {cf cf' : Int} {xs xs' : List Nt} (h : Lsr f cf xs cf' xs') (hR : Rdy f cf xs) (hR' : Rdy f cf' xs') (h0 : posE f cf xs = 0) : posE f cf' xs' = 0 := by
  rw [hR.pos] at h0
  by_cases e : badC f cf xs = -1
  · obtain ⟨s, hs⟩ := hR.bad_key.1 e
    rw [hR'.pos, if_pos (hR'.bad_key.2 ⟨s, h.sub s hs⟩)]
  · rw [if_neg e] at h0; cases h0
theorem BdOk.some_ {f : Fmt} {cf : Int} {xs : List Nt} {o : Option BDR} (h : BdOk f cf xs o) (h0 : posE f cf xs = 0) : ∃ q, o = some q := by
  cases o with
  | none => exact absurd h0 h
  | some q => exact ⟨q, rfl⟩
theorem BdOk.mem {f : Fmt} {cf : Int} {xs : List Nt} {q : BDR} (h : BdOk f cf xs (some q)) (b : Brd) : b ∈ q.zs.map (·.b) ↔ ∃ s ∈ keyC (crowdC f cf xs), brdOf s = b := by
  rw [h.2.1]; exact (boards_facts _).2 b
end Go.Proofs.YtpmmgljndceplaaGreat

namespace Go.Proofs.YtpmmgljndceplaaGreat
open Go Go.RowKit

structure CW where
  (b : Nat) (ns : List Nd) (es : Array MapEntry) (c : Nat)
section
variable {w0 w : World} {M : List Ent}
end
section rules
variable {F : Fence} {P : Program} {Q : Exit → Act → World → Prop} {n : Nat} {D : List Deferred} {l : Env} {w0 : World} {L M : List Ent}
end rules
section rules2
variable {F : Fence} {P : Program} {ops : Array Oper} {Q : Exit → Act → World → Prop} {rest : List Oper} {n : Nat} {D : List Deferred} {l : Env} {w0 : World} {L M : List Ent}
end rules2
abbrev CW.v (q : CW) : List Value := [.map (some q.b)]
end Go.Proofs.YtpmmgljndceplaaGreat

namespace Go.Proofs.YtpmmgljndceplaaGreat
open Go Go.RowKit

theorem putNs_key {ns : List Nd} {x : Nd} {s : Spot} : s ∈ spotKs (putNs ns x) ↔ s ∈ spotKs ns ∨ s = x.s := by
  unfold putNs
  cases hg : getN ns x.s with
  | some o =>
    obtain ⟨h1, h2⟩ := getN_some hg
    refine ⟨.inl, fun h => h.elim id fun e => ?_⟩
    subst e
    exact List.mem_map.2 ⟨o, h1, h2⟩
  | none =>
    unfold spotKs
    rw [List.map_append, List.mem_append]
    simp
structure FwI (f : Fmt) (cf : Int) (xs : List Nt) (j : Nat) (N : List Nd) (mn : Nat → Pr) (ms : List CW) : Prop where
  len : ms.length = j + 1
  ok : PoolOk f N mn (15 * (mostS (xs.take j) + (j : Int)))
  cr : ∀ k q, ms[k]? = some q → CrIs N q.ns q.es q.c ∧ ∀ s, s ∈ spotKs q.ns ↔ Lft f cf xs j k s
theorem FwI.start {f : Fmt} {cf : Int} {xs : List Nt} {q : PR} (h : BgI f cf 2 q.N q.mn q.ns q.es q.c) : FwI f cf xs 0 q.N q.mn [⟨q.b, q.ns, q.es, q.c⟩] := by
  refine ⟨rfl, h.ok.up (by exact Int.le_refl _), fun k p hk => ?_⟩
  cases k with
  | succ k => simp at hk
  | zero =>
    obtain rfl : (⟨q.b, q.ns, q.es, q.c⟩ : CW) = p := by simpa using hk
    refine ⟨h.cr, fun s => ?_⟩
    have e := h.eqC
    rw [begTo_two] at e
    rw [← toC_keys q.mn q.ns, e]
    exact ⟨fun hs => ⟨rfl, hs⟩, fun hs => hs.2⟩
structure FnI (f : Fmt) (cf : Int) (xs : List Nt) (j : Nat) (m : Int) (N0 : List Nd) (k : Nat) (N : List Nd) (mn : Nat → Pr) (nx : List CW) : Prop where
  len : nx.length = k
  ok : PoolOk f N mn (15 * (mostS (xs.take j) + (j : Int)) + (k : Int) * m)
  sub : ∀ y ∈ N0, y ∈ N
  cr : ∀ i q, nx[i]? = some q → CrIs N q.ns q.es q.c ∧ ∀ s, s ∈ spotKs q.ns ↔ Lft f cf xs (j + 1) i s
theorem FwI.first {f : Fmt} {cf : Int} {xs : List Nt} {j : Nat} {N : List Nd} {mn : Nat → Pr} {ms : List CW} (h : FwI f cf xs j N mn ms) (m : Int) : FnI f cf xs j m N 0 N mn [] :=
  ⟨rfl, h.ok.up (by rw [show ((0 : Nat) : Int) * m = 0 from Int.zero_mul m]; omega), fun _ h => h, fun i q hq => by simp at hq⟩
structure FmI (f : Fmt) (cf : Int) (xs : List Nt) (j : Nat) (x : Nt) (m : Int) (N0 : List Nd) (k : Nat) (nx : List CW) (N : List Nd) (mn : Nat → Pr) (q : CW) : Prop where
  ok : PoolOk f N mn (15 * (mostS (xs.take j) + (j : Int)) + ((k + 1 : Nat) : Int) * m)
  sub : ∀ y ∈ N0, y ∈ N
  old : ∀ i p, nx[i]? = some p → CrIs N p.ns p.es p.c ∧ ∀ s, s ∈ spotKs p.ns ↔ Lft f cf xs (j + 1) i s
  cr : CrIs N q.ns q.es q.c
  keys : ∀ s, s ∈ spotKs q.ns ↔ ∃ t, Lft f cf xs j k t ∧ Rel f x t s
theorem FnI.read {f : Fmt} {cf : Int} {xs : List Nt} {j : Nat} {x : Nt} {m : Int} {N0 : List Nd} {k : Nat} {N : List Nd} {mn : Nat → Pr} {nx ms : List CW} {p : CW} {mn0 : Nat → Pr} (h : FnI f cf xs j m N0 k N mn nx) (hm : m = mostN x + 1) (h0 : FwI f cf xs j N0 mn0 ms) (hp : ms[k]? = some p) {q : PR} (hr : RdOk f N mn p.ns x (15 * (mostS (xs.take j) + (j : Int)) + (k : Int) * m) q) : FmI f cf xs j x m N0 k nx q.N q.mn ⟨q.b, q.ns, q.es, q.c⟩ := by
  refine ⟨hr.ok.up ?_, fun y hy => hr.sub y (h.sub y hy), fun i p hp => ⟨(h.cr i p hp).1.up hr.sub, (h.cr i p hp).2⟩, hr.cr, fun s => ?_⟩
  · rw [show ((k + 1 : Nat) : Int) * m = (k : Int) * m + m by rw [Int.natCast_succ, Int.add_mul, Int.one_mul]]; omega
  · have h1 : s ∈ spotKs q.ns ↔ s ∈ keyC (afterC f (toC mn p.ns) x) := by
      rw [← toC_keys q.mn q.ns]; exact (hr.eqC.map _).mem_iff
    rw [h1, after_mem]
    refine ⟨fun ⟨t, ht, hx⟩ => ⟨t, ?_, hx⟩, fun ⟨t, ht, hx⟩ => ⟨t, ?_, hx⟩⟩
    · rw [toC_keys] at ht; exact ((h0.cr k p hp).2 t).1 ht
    · rw [toC_keys]; exact ((h0.cr k p hp).2 t).2 ht
theorem FnI.none {f : Fmt} {cf : Int} {xs : List Nt} {j : Nat} {x : Nt} {m : Int} {N0 : List Nd} {k : Nat} {N : List Nd} {mn : Nat → Pr} {nx : List CW} (h : FnI f cf xs j m N0 k N mn nx) (hm : 0 ≤ m) (hk : j < k) (b : Nat) : FmI f cf xs j x m N0 k nx N mn ⟨b, [], #[], 0⟩ := by
  refine ⟨h.ok.up ?_, h.sub, h.cr, CrIs.nil N, fun s => ⟨fun hs => (by cases hs), fun ⟨t, ht, _⟩ => ?_⟩⟩
  · rw [show ((k + 1 : Nat) : Int) * m = (k : Int) * m + m by rw [Int.natCast_succ, Int.add_mul, Int.one_mul]]; omega
  · have := lft_le ht; omega
structure FpI (f : Fmt) (K : Int) (N1 : List Nd) (q : CW) (N : List Nd) (mn : Nat → Pr) (ns : List Nd) (es : Array MapEntry) (c : Nat) (dn : List Nd) : Prop where
  ok : PoolOk f N mn K
  sub : ∀ y ∈ N1, y ∈ N
  cr : CrIs N ns es c
  keys : ∀ s, s ∈ spotKs ns ↔ s ∈ spotKs q.ns ∨ s ∈ spotKs dn
theorem FpI.put {f : Fmt} {K : Int} {N1 : List Nd} {q : CW} {N : List Nd} {mn : Nat → Pr} {ns : List Nd} {es : Array MapEntry} {c : Nat} {dn : List Nd} (h : FpI f K N1 q N mn ns es c dn) {x : Nd} {b : Nat} (hcp : PoolOk f (⟨b, x.s, x.bf, x.sd⟩ :: N) (upN mn b (mn x.b)) K) {es2 : Array MapEntry} {c2 : Nat} (hm : MapIs es2 (crE (putNs ns ⟨b, x.s, x.bf, x.sd⟩)) ∧ Stm es2 c2) : FpI f K N1 q (⟨b, x.s, x.bf, x.sd⟩ :: N) (putM ns (upN mn b (mn x.b)) ⟨b, x.s, x.bf, x.sd⟩) (putNs ns ⟨b, x.s, x.bf, x.sd⟩) es2 c2 (dn ++ [x]) := by
  have hup : CrIs (⟨b, x.s, x.bf, x.sd⟩ :: N) ns es c := h.cr.up fun y hy => List.mem_cons_of_mem _ hy
  refine ⟨putM_ok hcp hup.sub List.mem_cons_self, fun y hy => List.mem_cons_of_mem _ (h.sub y hy), hup.put List.mem_cons_self hm, fun s => ?_⟩
  rw [putNs_key, h.keys s]
  unfold spotKs
  rw [List.map_append, List.mem_append]
  simp only [List.map_cons, List.map_nil, List.mem_singleton, or_assoc]
theorem FnI.next {f : Fmt} {cf : Int} {xs : List Nt} {j : Nat} {x : Nt} {m : Int} {N0 : List Nd} {k : Nat} {nx : List CW} {N N1 : List Nd} {mn mn1 : Nat → Pr} {q q' : CW} (hl : nx.length = k) (hx : xs[j]? = some x) (h : FmI f cf xs j x m N0 k nx N1 mn1 q) (ok : PoolOk f N mn (15 * (mostS (xs.take j) + (j : Int)) + ((k + 1 : Nat) : Int) * m)) (sub : ∀ y ∈ N1, y ∈ N) (cr : CrIs N q'.ns q'.es q'.c) (keys : ∀ s, s ∈ spotKs q'.ns ↔ s ∈ spotKs q.ns ∨ ∃ k', k = k' + 1 ∧ Lft f cf xs j k' s) : FnI f cf xs j m N0 (k + 1) N mn (nx ++ [q']) := by
  refine ⟨by rw [List.length_append, hl]; rfl, ok, fun y hy => sub y (h.sub y hy), fun i p hp => ?_⟩
  by_cases e : i < k
  · rw [List.getElem?_append_left (by omega)] at hp
    exact ⟨(h.old i p hp).1.up sub, (h.old i p hp).2⟩
  · rw [List.getElem?_append_right (by omega)] at hp
    obtain ⟨rfl, hk⟩ : q' = p ∧ i = k := by
      cases hd : i - nx.length with
      | zero => rw [hd] at hp; exact ⟨by simpa using hp, by omega⟩
      | succ d => rw [hd] at hp; simp at hp
    subst hk
    refine ⟨cr, fun s => ?_⟩
    rw [keys s, h.keys s]
    constructor
    · rintro (⟨t, ht, hr⟩ | ⟨k', e, hs⟩)
      · exact .inl ⟨x, t, hx, ht, hr⟩
      · exact .inr ⟨k', e, hs⟩
    · rintro (⟨y, t, hy, ht, hr⟩ | ⟨k', e, hs⟩)
      · rw [hx] at hy; cases hy
        exact .inl ⟨t, ht, hr⟩
      · exact .inr ⟨k', e, hs⟩
theorem FnI.done {f : Fmt} {cf : Int} {xs : List Nt} {j : Nat} {x : Nt} {m : Int} {N0 N : List Nd} {mn : Nat → Pr} {nx : List CW} {k : Nat} (h : FnI f cf xs j m N0 k N mn nx) (hk : k = j + 2) (hx : xs[j]? = some x) (hm : m = mostN x + 1) (hm0 : 0 ≤ m) (hj : j ≤ 12) : FwI f cf xs (j + 1) N mn nx := by
  subst hk
  refine ⟨h.len, h.ok.up ?_, h.cr⟩
  rw [mostS_succ hx]
  have : ((j + 2 : Nat) : Int) * m ≤ 15 * m := Int.mul_le_mul_of_nonneg_right (by omega) hm0
  have e : 15 * (mostS (xs.take j) + mostN x + ((j + 1 : Nat) : Int)) = 15 * (mostS (xs.take j) + (j : Int)) + 15 * m := by rw [hm]; omega
  omega
end Go.Proofs.YtpmmgljndceplaaGreat

namespace Go.Proofs.YtpmmgljndceplaaGreat
open Go Go.RowKit

theorem Rdy.sm {f : Fmt} {cf : Int} {xs : List Nt} (h : Rdy f cf xs) : chkC f cf xs = 0 → xs.length ≤ 12 ∧ mostS xs ≤ 20 := fun _ => ⟨h.n, h.m⟩
section rules
variable {F : Fence} {P : Program} {n : Nat} {D : List Deferred} {l : Env} {w0 : World} {L : List Ent}
end rules
end Go.Proofs.YtpmmgljndceplaaGreat

namespace Go.Proofs.YtpmmgljndceplaaGreat
open Go Go.RowKit

theorem mkV_iff (x : Nt) : mkV x = true ↔ (x.kind = 1 ∧ (-1 ≤ x.side ∧ x.side ≤ 1) ∧ x.pair = (0, 0)) ∨ (x.kind = 2 ∧ (x.side = 0 ∧ (0 ≤ x.pair.1 ∧ x.pair.1 ≤ 30) ∧ 0 ≤ x.pair.2 ∧ x.pair.2 ≤ 30) ∧ x.pair.1 ≤ x.pair.2) ∨
    ((x.kind = 3 ∨ x.kind = 4 ∨ x.kind = 5) ∧ x.side = 0 ∧ (0 ≤ x.pair.1 ∧ x.pair.1 ≤ 40) ∧ 0 ≤ x.pair.2 ∧ x.pair.2 ≤ 40) ∨ ((x.kind = 6 ∨ x.kind = 7) ∧ (0 ≤ x.side ∧ x.side ≤ 1) ∧ x.pair = (0, 0)) := by
  unfold mkV sdV prV
  by_cases h1 : x.kind = 1
  · rw [decide_eq_true h1, cond_true, Bool.and_eq_true, wi_iff, decide_eq_true_eq]
    refine ⟨fun h => .inl ⟨h1, h⟩, ?_⟩
    rintro (⟨_, h⟩ | ⟨h, _⟩ | ⟨h, _⟩ | ⟨h, _⟩)
    · exact h
    all_goals omega
  · rw [decide_eq_false h1, cond_false]
    by_cases h2 : x.kind = 2
    · rw [decide_eq_true h2, cond_true]
      simp only [Bool.and_eq_true, wi_iff, decide_eq_true_eq]
      refine ⟨fun ⟨⟨⟨h, h'⟩, h3⟩, h4⟩ => .inr (.inl ⟨h2, ⟨h, h', h3⟩, h4⟩), ?_⟩
      rintro (⟨h, _⟩ | ⟨_, ⟨h, h', h3⟩, h4⟩ | ⟨h, _⟩ | ⟨h, _⟩)
      · omega
      · exact ⟨⟨⟨h, h'⟩, h3⟩, h4⟩
      all_goals omega
    · rw [decide_eq_false h2, cond_false]
      by_cases h3 : x.kind = 3 ∨ x.kind = 4 ∨ x.kind = 5
      · rw [show (decide (x.kind = 3) || (decide (x.kind = 4) || decide (x.kind = 5))) = true by simpa using h3, cond_true]
        simp only [Bool.and_eq_true, wi_iff, decide_eq_true_eq]
        refine ⟨fun ⟨⟨h, h'⟩, h4⟩ => .inr (.inr (.inl ⟨h3, h, h', h4⟩)), ?_⟩
        rintro (⟨h, _⟩ | ⟨h, _⟩ | ⟨_, h, h', h4⟩ | ⟨h, _⟩)
        · omega
        · omega
        · exact ⟨⟨h, h'⟩, h4⟩
        · omega
      · rw [show (decide (x.kind = 3) || (decide (x.kind = 4) || decide (x.kind = 5))) = false by simpa using h3, cond_false]
        by_cases h6 : x.kind = 6 ∨ x.kind = 7
        · rw [show (decide (x.kind = 6) || decide (x.kind = 7)) = true by simpa using h6, cond_true, Bool.and_eq_true, wi_iff, decide_eq_true_eq]
          refine ⟨fun h => .inr (.inr (.inr ⟨h6, h⟩)), ?_⟩
          rintro (⟨h, _⟩ | ⟨h, _⟩ | ⟨h, _⟩ | ⟨_, h⟩)
          · omega
          · omega
          · omega
          · exact h
        · rw [show (decide (x.kind = 6) || decide (x.kind = 7)) = false by simpa using h6, cond_false]
          refine ⟨fun h => (by cases h), ?_⟩
          rintro (⟨h, _⟩ | ⟨h, _⟩ | ⟨h, _⟩ | ⟨h, _⟩) <;> omega
section
variable {f : Fmt} {cf : Int} {xs : List Nt}
end
end Go.Proofs.YtpmmgljndceplaaGreat

namespace Go.Proofs.YtpmmgljndceplaaGreat
open Go Go.RowKit

structure BtOk (f : Fmt) (cf : Int) (xs : List Nt) (q : BDR) : Prop where
  no : posE f cf xs ≠ 0 → q.zs = []
  yes : posE f cf xs = 0 → q.zs.map (·.b) = boardsC (keyC (crowdC f cf xs))
  sm : ∀ x ∈ q.zs, BrdSm x.b
  len : q.zs.length ≤ 4194304
theorem St.nilOwn {w0 w : World} {L : List Ent} (h : St w0 w L) (T : TypeId) (size : Nat) : St w0 w (.own none 0 T size 0 [] :: L) := by
  refine St.add (M := [_]) h (Blw.refl _ _) (fun e he => ?_) (fun e he b hb' => ?_) (List.pairwise_singleton _ _)
  · simp only [List.mem_singleton] at he; subst he; exact ⟨World.ownsRow_nil w 0 T size, Rd.nil w none size⟩
  · simp only [List.mem_singleton] at he; subst he; obtain ⟨ad, had, _⟩ := hb'; cases had
theorem C_card_BoardsT (f : Fmt) (cf : Int) (xs : List Nt) (A : Option Addr) (n c : Nat) (w : World) (h : Rd w A 4 n (encN xs)) (hn : n ≤ 9223372036854775807) (hsm : chkC f cf xs = 0 → mostS xs ≤ 400) (hbig : (crowdC f cf xs).length ≤ 4194304) :
    CR Tryz.prog 16 [.agg (cardC f cf A n c).toArray] w (BtOk f cf xs) (fun q => .tuple #[.slice q.A q.zs.length q.c, .int .i64 (posE f cf xs)]) (fun q => [.own q.A q.c 40 5 q.zs.length (encX q.zs), manyE true (q.zs.map rowX)]) := by
  refine ⟨Calls.mono (C_card_Boards f cf xs A n c w h hn hsm hbig).out fun e w' ⟨o, ho, he, hs⟩ => ?_⟩
  cases o with
  | none => exact ⟨⟨[], none, 0⟩, ⟨fun _ => rfl, fun h0 => absurd h0 ho, fun x hx => (by cases hx), Nat.zero_le _⟩, he, (St.many0 hs).nilOwn _ _⟩
  | some q => exact ⟨q, ⟨fun h0 => absurd ho.1 h0, fun _ => ho.2.1, ho.2.2.1, ho.2.2.2⟩, he, hs⟩
end Go.Proofs.YtpmmgljndceplaaGreat

namespace Go.Proofs.YtpmmgljndceplaaGreat
open Go Go.RowKit

def shortV (f : Fmt) : Int := bif decide ((ruleV f (decide (f.sets = 1))).1 = 0) then 1 else max 2 f.games
def fewBd (f : Fmt) : Int := bif decide ((ruleV f (decide (f.sets = 1))).1 = 0) then max (ruleV f (decide (f.sets = 1))).2 2 else 4 * max 2 f.games
def highV (f : Fmt) : Int := bif decide (0 ≤ f.ltie) && (decide (f.sets = 1) || decide (0 ≤ f.tie)) then (2 * f.sets - 2) * (2 * f.tie + 1) + 2 * f.ltie + 1 else -1
theorem ext_form {f : Fmt} {s : Pr} (ht : TieOk f s) : extV f s = ⟨bif decide (s.1 = 0) then 1 else max f.games 2, bif decide (0 ≤ s.1) then 2 * s.1 + 1 else -1, bif decide (s.1 = 0) then max s.2 2 else 4 * max f.games 2⟩ := by
  unfold extV
  unfold TieOk at ht
  by_cases h0 : s.1 = 0
  · rw [decide_eq_true h0, h0]; rfl
  · rw [decide_eq_false h0]
    by_cases h1 : s.1 = -1
    · rw [decide_eq_true h1, decide_eq_false (show ¬ 0 ≤ s.1 by omega)]; rfl
    · rw [decide_eq_false h1, decide_eq_true (show 0 ≤ s.1 by omega)]; rfl
theorem range_ref {f : Fmt} (hf : f.Ok) : rangeE f = ⟨f.sets * shortV f, highV f, f.sets * fewBd f⟩ := by
  have ht : TieOk f (f.tie, f.to) := ⟨hf.g0, hf.t⟩
  have hl : TieOk f (f.ltie, f.lto) := ⟨hf.g0, hf.lt⟩
  unfold rangeE
  by_cases h1 : f.sets = 1
  · rw [decide_eq_true h1, cond_true, lastE, ext_form hl, shortV, fewBd, highV, decide_eq_true h1, h1]
    simp only [ruleV, cond_true, Bool.true_or, Bool.and_true, Int.one_mul]
    rw [Int.max_comm f.games 2, show (2 * 1 - 2 : Int) = 0 by rfl, Int.zero_mul, Int.zero_add]
    rfl
  · rw [decide_eq_false h1, cond_false, lastE, eachE, ext_form hl, ext_form ht, shortV, fewBd, highV, decide_eq_false h1]
    simp only [ruleV, cond_false, Bool.false_or]
    rw [Int.max_comm f.games 2]
    by_cases a : 0 ≤ f.ltie
    · by_cases b : 0 ≤ f.tie
      · simp only [decide_eq_true a, decide_eq_true b, cond_true, Bool.true_and]
        rw [decide_eq_true (show (0 : Int) ≤ 2 * f.ltie + 1 by omega), decide_eq_true (show (0 : Int) ≤ 2 * f.tie + 1 by omega)]
        simp only [Bool.and_self, cond_true, Int.add_assoc]
        rfl
      · simp only [decide_eq_true a, decide_eq_false b, cond_true, cond_false, Bool.and_false]
        rw [show decide ((0 : Int) ≤ -1) = false from rfl, Bool.and_false]
        rfl
    · simp only [decide_eq_false a, cond_false, Bool.false_and]
      rfl
theorem bdd_high {f : Fmt} (hf : f.Ok) (h : ¬ (rangeE f).high < 0) : Bdd f ∧ (rangeE f).high = (2 * f.sets - 2) * (2 * f.tie + 1) + 2 * f.ltie + 1 := by
  rw [range_ref hf] at h ⊢
  dsimp only at h ⊢
  unfold highV at *
  cases hc : decide (0 ≤ f.ltie) && (decide (f.sets = 1) || decide (0 ≤ f.tie))
  · rw [hc] at h; exact absurd (show (-1 : Int) < 0 by decide) h
  · rw [Bool.and_eq_true, Bool.or_eq_true, decide_eq_true_eq, decide_eq_true_eq, decide_eq_true_eq] at hc
    exact ⟨hc, rfl⟩
def checkE (f : Fmt) (b : Brd) : Int := bif !decide (chkF f = 0) then chkF f else bif !brdOk b then 12 else bif !(arisesV f b).2 then 12 else bif decide ((rangeE f).high < 0) then 3 else 0
theorem check_form (f : Fmt) (b : Brd) : ∃ (is : Bool) (e : Int), arisesR f b = [.bool is, .int .i64 e] ∧ checkE f b = (bif !decide (e = 0) then e else bif !is then 12 else bif decide ((rangeE f).high < 0) then 3 else 0) ∧ (e = 0 → (!decide (chkF f = 0)) = false ∧ brdOk b = true ∧ (arisesV f b).2 = is) := by
  unfold arisesR checkE
  cases hc : !decide (chkF f = 0)
  · cases hb : brdOk b
    · exact ⟨false, 12, rfl, rfl, fun e => by cases e⟩
    · exact ⟨_, 0, rfl, rfl, fun _ => ⟨rfl, rfl, rfl⟩⟩
  · have h10 := chk_bad hc
    refine ⟨false, chkF f, rfl, by rw [h10]; rfl, fun e => by rw [h10] at e; cases e⟩
theorem check_ok {f : Fmt} {b : Brd} (h : checkE f b = 0) : f.Ok ∧ brdOk b = true ∧ (arisesV f b).2 = true ∧ ¬ (rangeE f).high < 0 := by
  obtain ⟨is, e, -, h1, h2⟩ := check_form f b
  rw [h1] at h
  cases he : !decide (e = 0)
  · obtain ⟨a1, a2, a3⟩ := h2 (by simpa using he)
    rw [he, cond_false] at h
    cases his : is
    · rw [his] at h; cases h
    · rw [his] at h a3
      cases hh : decide ((rangeE f).high < 0)
      · exact ⟨chkF_ok a1, a2, a3, of_decide_eq_false hh⟩
      · rw [hh] at h; cases h
  · rw [he, cond_true] at h
    rw [h] at he; cases he
theorem rangeR_ok {f : Fmt} (h : (!decide (chkF f = 0)) = false) : rangeR f = [.agg #[.int .i64 (rangeE f).low, .int .i64 (rangeE f).high], .int .i64 (rangeE f).pts, .int .i64 0] := by
  have hc : decide (chkF f = 0) = true := by simpa using h
  rw [rangeR, hc]; rfl
theorem C_balls_check (f : Fmt) (b : Brd) (A : Option Addr) (n c : Nat) (w : World) (h : Rd w A 2 n (encP b.st)) (hn : n ≤ 9223372036854775807) : C0 Tryz.prog 46 [f.val, b.val A n c] w (.int .i64 (checkE f b)) := by
  obtain ⟨is, e, hA, hL, hfa⟩ := check_form f b
  refine ⟨en Tryz.func46 Tryz.ntmps46 ((St.init w).share (e := .ro A 2 n (encP b.st)) h rfl rfl rfl) (h := fun F => ?_)⟩
  refine sq (h := ?_)
  refine rg (h := ?_)
  refine bxA (h := fun b0 => ?_)
  refine bxA (h := fun b1 => ?_)
  refine wy asg ?_
  refine nl (h := ?_)
  refine q_seq (h := ?_)
  refine sq (h := ?_)
  refine rg (h := ?_)
  refine wy (by first | exact ldA | exact ldEA) ?_
  refine wy (by first | exact ldA | exact ldEA) ?_
  refine cl0 (hc := fun w hS => C_score_Arises f b A n c w (hS.get rdz_) hn) (h := ?_)
  rw [hA]
  refine wy mv ?_
  refine wy ex ?_
  refine wy ex ?_
  refine wy asg ?_
  refine wy asg ?_
  refine nl (h := ?_)
  refine q_seq (h := ?_)
  refine sq (h := ?_)
  refine sq (h := ?_)
  refine rg (h := ?_)
  refine wy mv ?_
  refine wy neq ?_
  refine nl (h := ?_)
  refine q_seq (h := ?_)
  refine cd (by exact rfl) (fun h0 => ?_) (fun h0 => ?_)
  · skip
    have hE : checkE f b = e := by rw [hL, h0]; rfl
    refine sq (h := ?_)
    refine rg (h := ?_)
    refine wy mv ?_
    refine wy asg ?_
    refine nl (h := ?_)
    refine q_seq (h := ?_)
    refine rtn (h := ?_)
    refine q_then_ret (h := ?_)
    refine q_ret (hR := ?_)
    rw [hE]
    exact fun w hS => ⟨rfl, hS.sub slz_⟩
  · skip
    have he0 : e = 0 := by simpa using h0
    obtain ⟨hck, hbo, hari⟩ := hfa he0
    rw [h0, cond_false] at hL
    refine skp (h := ?_)
    refine q_seq (h := ?_)
    refine sq (h := ?_)
    refine sq (h := ?_)
    refine rg (h := ?_)
    refine wy mv ?_
    refine wy notB ?_
    refine nl (h := ?_)
    refine q_seq (h := ?_)
    refine cd (by exact rfl) (fun h1 => ?_) (fun h1 => ?_)
    · skip
      have hE : checkE f b = 12 := by rw [hL, h1]; rfl
      refine sq (h := ?_)
      refine rg (h := ?_)
      refine wy asg ?_
      refine nl (h := ?_)
      refine q_seq (h := ?_)
      refine rtn (h := ?_)
      refine q_then_ret (h := ?_)
      refine q_ret (hR := ?_)
      rw [hE]
      exact fun w hS => ⟨rfl, hS.sub slz_⟩
    · skip
      rw [h1, cond_false] at hL
      refine skp (h := ?_)
      refine q_seq (h := ?_)
      refine sq (h := ?_)
      refine sq (h := ?_)
      refine rg (h := ?_)
      refine wy (by first | exact ldA | exact ldEA) ?_
      refine cl0 (hc := fun w hS => C_score_Range f w) (h := ?_)
      rw [rangeR_ok hck]
      refine wy mv ?_
      refine wy ex ?_
      refine wy ex ?_
      refine wy ex ?_
      refine al (h := fun b2 => ?_)
      first | refine stA (h := ?_) | refine stEA (h := ?_)
      refine wy asg ?_
      refine wy asg ?_
      refine nl (h := ?_)
      refine q_seq (h := ?_)
      refine sq (h := ?_)
      refine rg (h := ?_)
      refine wy (by first | exact fa | exact faE) ?_
      refine wy (by first | exact ld | exact ldE) ?_
      refine wy lss ?_
      refine nl (h := ?_)
      refine q_seq (h := ?_)
      refine cd (by exact rfl) (fun h2 => ?_) (fun h2 => ?_)
      · skip
        have hE : checkE f b = 3 := by rw [hL, h2]; rfl
        refine sq (h := ?_)
        refine rg (h := ?_)
        refine wy asg ?_
        refine nl (h := ?_)
        refine q_seq (h := ?_)
        refine rtn (h := ?_)
        refine q_then_ret (h := ?_)
        refine q_ret (hR := ?_)
        rw [hE]
        exact fun w hS => ⟨rfl, hS.sub slz_⟩
      · skip
        have hE : checkE f b = 0 := by rw [hL, h2]; rfl
        refine skp (h := ?_)
        refine q_seq (h := ?_)
        refine sq (h := ?_)
        refine rg (h := ?_)
        refine wy asg ?_
        refine nl (h := ?_)
        refine q_seq (h := ?_)
        refine rtn (h := ?_)
        refine q_ret (hR := ?_)
        rw [hE]
        exact fun w hS => ⟨rfl, hS.sub slz_⟩
def restR (f : Fmt) (b : Brd) : List Value := bif !decide (checkE f b = 0) then [pv (0, 0), pv (0, 0), .int .i64 (checkE f b)] else [pv (restC f b).1, pv (restC f b).2, .int .i64 0]
theorem C_balls_Rest (f : Fmt) (b : Brd) (A : Option Addr) (n c : Nat) (w : World) (h : Rd w A 2 n (encP b.st)) (hn : n ≤ 9223372036854775807) : C0 Tryz.prog 17 [f.val, b.val A n c] w (.tuple (restR f b).toArray) := by
  refine ⟨en Tryz.func17 Tryz.ntmps17 ((St.init w).share (e := .ro A 2 n (encP b.st)) h rfl rfl rfl) (h := fun F => ?_)⟩
  refine sq (h := ?_)
  refine rg (h := ?_)
  refine bxA (h := fun b0 => ?_)
  refine bxA (h := fun b1 => ?_)
  refine al (h := fun b2 => ?_)
  refine al (h := fun b3 => ?_)
  refine wy asg ?_
  refine nl (h := ?_)
  refine q_seq (h := ?_)
  refine sq (h := ?_)
  refine sq (h := ?_)
  refine rg (h := ?_)
  refine wy (by first | exact ldA | exact ldEA) ?_
  refine wy (by first | exact ldA | exact ldEA) ?_
  refine cl0 (hc := fun w hS => C_balls_check _ _ _ _ _ w (hS.get rdz_) (by omega)) (h := ?_)
  refine wy asg ?_
  refine nl (h := ?_)
  refine q_seq (h := ?_)
  refine sq (h := ?_)
  refine rg (h := ?_)
  refine wy mv ?_
  refine wy neq ?_
  refine nl (h := ?_)
  refine q_seq (h := ?_)
  refine cd (by exact rfl) (fun h0 => ?_) (fun h0 => ?_)
  · skip
    have hE : restR f b = [pv (0, 0), pv (0, 0), .int .i64 (checkE f b)] := by rw [restR, h0]; rfl
    refine sq (h := ?_)
    refine rg (h := ?_)
    refine wy bd ?_
    refine wy bd ?_
    refine wy mv ?_
    first | refine stA (h := ?_) | refine stEA (h := ?_)
    first | refine stA (h := ?_) | refine stEA (h := ?_)
    refine wy asg ?_
    refine nl (h := ?_)
    refine q_seq (h := ?_)
    refine rtn (h := ?_)
    refine q_then_ret (h := ?_)
    refine q_ret (hR := ?_)
    rw [hE]
    exact fun w hS => ⟨rfl, hS.sub slz_⟩
  · skip
    have hE : restR f b = [pv (restC f b).1, pv (restC f b).2, .int .i64 0] := by rw [restR, h0]; rfl
    obtain ⟨hf, hbo, hari, hhi⟩ := check_ok (by simpa using h0)
    refine skp (h := ?_)
    refine q_seq (h := ?_)
    refine sq (h := ?_)
    refine rg (h := ?_)
    refine wy (by first | exact ldA | exact ldEA) ?_
    refine wy (by first | exact ldA | exact ldEA) ?_
    refine cl0 (hc := fun w hS => C_balls_open f b hf (bdd_high hf hhi).1 hbo hari A n c w (hS.get rdz_)) (h := ?_)
    refine wy mv ?_
    refine wy ex ?_
    refine wy ex ?_
    refine al (h := fun b4 => ?_)
    first | refine stA (h := ?_) | refine stEA (h := ?_)
    refine wy asg ?_
    refine nl (h := ?_)
    refine q_seq (h := ?_)
    refine sq (h := ?_)
    refine rgD (by kernel_rfl) [(1000000, .blk b4 125 (ccs (restC f b))), (4, .blk b2 56 [.int .i64 0, .int .i64 0]), (5, .blk b3 56 [.int .i64 0, .int .i64 0])] (by repeat (first | exact HS.nil | (apply HS.keep; (repeat (first | exact At.here | apply At.there))) | (apply HS.ro; (repeat (first | exact Rds.ro | exact Rds.own | apply Rds.there))))) (h := ?_)
    refine tk 0 (hy := (by first | exact fa | exact faE)) (h := ?_)
    refine tk 1 (hy := (by first | exact ldA | exact ldEA)) (h := ?_)
    refine tk 2 (hy := (by first | exact fa | exact faE)) (h := ?_)
    refine tk 3 (hy := (by first | exact ldA | exact ldEA)) (h := ?_)
    refine one 4 (h := ?_)
    first | refine stA (h := ?_) | refine stEA (h := ?_)
    refine nx (h := ?_)
    refine one 5 (h := ?_)
    first | refine stA (h := ?_) | refine stEA (h := ?_)
    refine nx (h := ?_)
    refine tk 6 (hy := asg) (h := ?_)
    refine dn (h := ?_)
    refine q_seq (h := ?_)
    refine rtn (h := ?_)
    refine q_ret (hR := ?_)
    rw [hE]
    exact fun w hS => ⟨rfl, hS.sub slz_⟩
end Go.Proofs.YtpmmgljndceplaaGreat

namespace Go.Proofs.YtpmmgljndceplaaGreat
open Go Go.RowKit

end Go.Proofs.YtpmmgljndceplaaGreat

namespace Go.Proofs.YtpmmgljndceplaaGreat
open Go Go.RowKit

section
variable {f : Fmt} {B : Int} {j u v x S G : Nat}
end
end Go.Proofs.YtpmmgljndceplaaGreat

namespace Go.Proofs.YtpmmgljndceplaaGreat
open Go Go.RowKit

section
variable {f : Fmt} {b : Brd}
end
end Go.Proofs.YtpmmgljndceplaaGreat

namespace Go.Proofs.YtpmmgljndceplaaGreat
open Go Go.RowKit

structure Fx where
  (day : Int) (f : Fmt) (b : Brd) (A : Option Addr) (c : Nat)
abbrev Fx.enc (x : Fx) : List Value := [.int .i64 x.day, .int .i64 x.f.sets, .int .i64 x.f.games, .bool x.f.noAd, .int .i64 x.f.tie, .int .i64 x.f.to, .int .i64 x.f.ltie, .int .i64 x.f.lto, .int .i64 x.f.first, .int .i64 x.f.thn, .bool x.f.dbl, .slice x.A x.b.st.length x.c, .int .i64 x.b.g.1, .int .i64 x.b.g.2, .int .i64 x.b.p.1, .int .i64 x.b.p.2]
abbrev Fx.val (x : Fx) : Value := .agg #[.int .i64 x.day, .int .i64 x.f.sets, .int .i64 x.f.games, .bool x.f.noAd, .int .i64 x.f.tie, .int .i64 x.f.to, .int .i64 x.f.ltie, .int .i64 x.f.lto, .int .i64 x.f.first, .int .i64 x.f.thn, .bool x.f.dbl, .slice x.A x.b.st.length x.c, .int .i64 x.b.g.1, .int .i64 x.b.g.2, .int .i64 x.b.p.1, .int .i64 x.b.p.2]
structure Fx.ok (x : Fx) (w : World) : Prop where
  r : Rd w x.A 2 x.b.st.length (encP x.b.st)
  n : x.b.st.length ≤ x.c
  c : x.c ≤ 9223372036854775807
structure Cx where
  (day item count : Int)
abbrev Cx.enc (x : Cx) : List Value := [.int .i64 x.day, .int .i64 x.item, .int .i64 x.count]
structure Dp where
  (each tow fra : Int) (st : List Int) (fx : List Fx) (cr : List Cx)
structure DA where
  (sA fA cA : Option Addr) (sc fc cc : Nat)
abbrev Dp.cells (d : Dp) (a : DA) : List Value := [.int .i64 d.each, .int .i64 d.tow, .int .i64 d.fra, .slice a.sA d.st.length a.sc, .slice a.fA d.fx.length a.fc, .slice a.cA d.cr.length a.cc]
abbrev Dp.val (d : Dp) (a : DA) : Value := .agg #[.int .i64 d.each, .int .i64 d.tow, .int .i64 d.fra, .slice a.sA d.st.length a.sc, .slice a.fA d.fx.length a.fc, .slice a.cA d.cr.length a.cc]
structure DpR (w : World) (d : Dp) (a : DA) : Prop where
  s : Rd w a.sA 1 d.st.length (encI d.st)
  f : Rd w a.fA 16 d.fx.length (d.fx.map Fx.enc)
  c : Rd w a.cA 3 d.cr.length (d.cr.map Cx.enc)
  x : ∀ y ∈ d.fx, y.ok w
  sc : d.st.length ≤ 9223372036854775807
  fc : d.fx.length ≤ 9223372036854775807
  cc : d.cr.length ≤ 9223372036854775807
def kitB (d : Dp) : Bool := wi d.each 0 20 && wi d.tow 0 20 && wi d.fra 0 20
def lenB (d : Dp) : Bool := !(!decide ((d.st.length : Int) = 3) || decide (30 < (d.fx.length : Int)) || decide (30 < (d.cr.length : Int)))
def stB (d : Dp) : Bool := d.st.all fun n => wi n 0 99999
def fxOk (x : Fx) : Bool := !(!wi x.day 0 60 || !decide (checkE x.f x.b = 0))
def fxB (d : Dp) : Bool := d.fx.all fxOk
def crOk (c : Cx) : Bool := !(!wi c.day 0 60 || !wi c.item 0 2 || !wi c.count 0 99999)
def crB (d : Dp) : Bool := d.cr.all crOk
def depOk (d : Dp) : Bool := kitB d && lenB d && stB d && fxB d && crB d
def depE (d : Dp) : Int := bif depOk d then 0 else 90
section
variable {d : Dp}
theorem dep_kit (h : kitB d = false) : depE d = 90 := by rw [depE, depOk, h]; rfl
theorem dep_len (h : lenB d = false) : depE d = 90 := by rw [depE, depOk, h, Bool.and_false]; rfl
theorem dep_st (h : stB d = false) : depE d = 90 := by rw [depE, depOk, h, Bool.and_false]; rfl
theorem dep_fx (h : fxB d = false) : depE d = 90 := by rw [depE, depOk, h, Bool.and_false]; rfl
theorem dep_cr (h : crB d = false) : depE d = 90 := by rw [depE, depOk, h, Bool.and_false]; rfl
theorem dep_yes (h1 : kitB d = true) (h2 : lenB d = true) (h3 : stB d = true) (h4 : fxB d = true) (h5 : crB d = true) : depE d = 0 := by rw [depE, depOk, h1, h2, h3, h4, h5]; rfl
theorem dep_ok (h : depE d = 0) : depOk d = true := by
  unfold depE at h
  cases e : depOk d
  · rw [e] at h; cases h
  · rfl
end
theorem all_to {α : Type} {l : List α} {p : α → Bool} (h : ∀ i x, i < l.length → l[i]? = some x → p x = true) : l.all p = true :=
  List.all_eq_true.2 fun x hx => by
    obtain ⟨i, hi, e⟩ := List.getElem_of_mem hx
    exact h i x hi (by rw [List.getElem?_eq_getElem hi, e])
theorem all_no {α : Type} {l : List α} {p : α → Bool} {i : Nat} {x : α} (hx : l[i]? = some x) (h : p x = false) : l.all p = false := by
  cases e : l.all p
  · rfl
  · have := List.all_eq_true.1 e x (List.mem_of_getElem? hx)
    rw [h] at this; cases this
theorem map_at {α β : Type} {f : α → β} {l : List α} {k : Nat} {x : α} (h : l[k]? = some x) : (l.map f)[k]? = some (f x) := by rw [List.getElem?_map, h]; rfl
def Upto {α : Type} (l : List α) (p : α → Bool) (k : Nat) : Prop := ∀ i x, i < k → l[i]? = some x → p x = true
theorem upto_zero {α : Type} {l : List α} {p : α → Bool} : Upto l p 0 := fun i x hi => by omega
theorem upto_succ {α : Type} {l : List α} {p : α → Bool} {k : Nat} {x : α} (h : Upto l p k) (hx : l[k]? = some x) (hp : p x = true) : Upto l p (k + 1) := fun i y hi hy => by
  by_cases e : i = k
  · subst e
    rw [hx] at hy
    rw [← Option.some.inj hy]; exact hp
  · exact h i y (by omega) hy
theorem C_balls_within (n lo hi : Int) (w : World) : C0 Tryz.prog 63 [.int .i64 n, .int .i64 lo, .int .i64 hi] w (.bool (wi n lo hi)) := by
  refine ⟨en Tryz.func63 Tryz.ntmps63 (St.init w) (h := fun F => ?_)⟩
  refine sq (h := ?_)
  refine rg (h := ?_)
  refine wy asg ?_
  refine nl (h := ?_)
  refine q_seq (h := ?_)
  refine sq (h := ?_)
  refine rg (h := ?_)
  refine wy mv ?_
  refine wy mv ?_
  refine wy leq ?_
  refine wy mv ?_
  apply brAnd 4 10 14 (by exact rfl)
  · intro hb0
    refine un (h := ?_)
    refine wy mv ?_
    refine un (h := ?_)
    refine wy mv ?_
    refine un (h := ?_)
    refine wy leq ?_
    refine wy (by first | exact pkT | exact pkF) ?_
    exact mg (by repeat (first | exact trivial | refine ⟨rfl, ?_⟩ | refine ⟨by rw [hb0]; rfl, ?_⟩)) slz_
  · intro hb0
    repeat (first | refine un (h := ?_) | refine sk (h := ?_) | refine WL.y (hy := pkF) (h := ?_) | refine WL.y (hy := pkT) (h := ?_))
    exact mg (by repeat (first | exact trivial | refine ⟨rfl, ?_⟩ | refine ⟨by rw [hb0]; rfl, ?_⟩)) slz_
  refine wy asg ?_
  refine nl (h := ?_)
  refine q_seq (h := ?_)
  refine rtn (h := ?_)
  refine q_ret (hR := ?_)
  exact fun w hS => ⟨rfl, hS.sub slz_⟩
theorem C_Check1 (n : Int) (w : World) : C0 Tryz.prog 97 [.int .i64 n] w (.bool (wi n 0 99999)) := by
  refine ⟨en Tryz.func97 Tryz.ntmps97 (St.init w) (h := fun F => ?_)⟩
  refine sq (h := ?_)
  refine rg (h := ?_)
  refine wy asg ?_
  refine nl (h := ?_)
  refine q_seq (h := ?_)
  refine sq (h := ?_)
  refine rg (h := ?_)
  refine wy mv ?_
  refine cl0 (hc := fun w hS => C_balls_within _ _ _ w) (h := ?_)
  refine wy asg ?_
  refine nl (h := ?_)
  refine q_seq (h := ?_)
  refine rtn (h := ?_)
  refine q_ret (hR := ?_)
  exact fun w hS => ⟨rfl, hS.sub slz_⟩
theorem T_Check2 (n : Int) (a0 : Nat) : Tr Tryz.prog 99 [.int .i64 n, .pointer (some ⟨a0, 0, none⟩)] [.blk a0 144 [.func (.func 97) #[] #[]]] (fun _ : Unit => True) (fun _ => .bool (!wi n 0 99999)) (fun _ => [.blk a0 144 [.func (.func 97) #[] #[]]]) := by
  refine ⟨fun w0 w R hst => ?_⟩
  refine en Tryz.func99 Tryz.ntmps99 hst (h := fun F => ?_)
  refine sq (h := ?_)
  refine rg (h := ?_)
  refine wy asg ?_
  refine nl (h := ?_)
  refine q_seq (h := ?_)
  refine sq (h := ?_)
  refine rg (h := ?_)
  refine wy (by first | exact ld | exact ldE) ?_
  refine wy mv ?_
  refine clfT inferInstance (fi := []) (cap := []) (by exact rfl) (by repeat (first | exact Evs.nil | (apply Evs.cons; exact rfl))) (C0.tr [] (C_Check1 n)) rfl Spl.nil (h := fun _ _ => ?_)
  refine wy notB ?_
  refine wy asg ?_
  refine nl (h := ?_)
  refine q_seq (h := ?_)
  refine rtn (h := ?_)
  refine q_ret (hR := ?_)
  exact fun w hS => ⟨(), trivial, rfl, hS.sub slz_⟩
theorem T_IndexIntB {E : Ent} {A : Option Addr} {n c : Nat} {ws : List Int} (hE : ∀ w, E.ok w → Rd w A 1 n (encI ws)) {g : FuncId} (hg : FnOk Tryz.prog g) (fi cap : List Value) (Lp : List Ent) (p : Int → Bool) (hn : n ≤ 9223372036854775807) (hlen : ws.length = n)
    (hp : ∀ x ∈ ws, Tr Tryz.prog g (fi ++ [.int .i64 x] ++ cap) Lp (fun _ : Unit => True) (fun _ => .bool (p x)) (fun _ => Lp)) :
    Tr Tryz.prog 121 [.slice A n c, .func (.func g) fi.toArray cap.toArray] (E :: Lp) (Fst (pAt ws p) n) (fun j => .int .i64 j) (fun _ => E :: Lp) := by
  refine ⟨fun w0 w R hst => ?_⟩
  refine en Tryz.func121 Tryz.ntmps121 hst (h := fun F => ?_)
  refine sq (h := ?_)
  refine rg (h := ?_)
  refine wy asg ?_
  refine nl (h := ?_)
  refine q_seq (h := ?_)
  refine sq (h := ?_)
  refine sq (h := ?_)
  refine rg (h := ?_)
  refine wy mv ?_
  refine wy lenS ?_
  refine wy mv ?_
  refine nl (h := ?_)
  refine q_seq (h := ?_)
  refine bk (h := ?_)
  refine lp (X := Nat) (I := fun k => k ≤ n ∧ ∀ i, i < k → pAt ws p i = false) (le := fun k => [(0, .slice A n c), (1, .func (.func g) fi.toArray cap.toArray), (7, .int .i64 n), (8, .int .i64 k)]) (Le := fun _ => E :: (Lp ++ R)) (μ := fun k => n - k) 0 ⟨by omega, fun i hi => by omega⟩ sbz_ (SubL.refl _) (fun k hk => ?_)
  obtain ⟨hk, hall⟩ := hk
  refine sq (h := ?_)
  refine rg (h := ?_)
  refine wy lss ?_
  refine nl (h := ?_)
  refine q_seq (h := ?_)
  refine sq (h := ?_)
  refine cd (by exact rfl) (fun h0 => ?_) (fun h0 => ?_)
  · skip
    have hkn : k < n := by simp only [decide_eq_true_eq] at h0; omega
    obtain ⟨x, hx⟩ : ∃ x, ws[k]? = some x := ⟨_, List.getElem?_eq_getElem (by omega)⟩
    have hxe := encI_at hx
    refine skp (h := ?_)
    refine q_seq (h := ?_)
    refine sq (h := ?_)
    refine bk (h := ?_)
    refine sq (h := ?_)
    refine rg (h := ?_)
    refine wy mv ?_
    refine wy asg ?_
    refine nl (h := ?_)
    refine q_seq (h := ?_)
    refine sq (h := ?_)
    refine rg (h := ?_)
    refine wy mv ?_
    refine wy mv ?_
    refine wy mv ?_
    refine wy (ix (A := A) (m := n) (hr := Rds.any hE)) ?_
    refine wy (ldE (A := A) (hr := Rds.any hE) (hk := hxe)) ?_
    refine clfT hg (fi := fi) (cap := cap) (by exact rfl) (by repeat (first | exact Evs.nil | (apply Evs.cons; exact rfl))) (hp x (List.mem_of_getElem? hx)) rfl (Spl.thr (Spl.app _ _)) (h := fun _ _ => ?_)
    refine WL.subL (SubL.cons (At.app _ _) (SubL.refl _)) ?_
    refine nl (h := ?_)
    refine q_seq (h := ?_)
    refine cd (by exact rfl) (fun h1 => ?_) (fun h1 => ?_)
    · skip
      refine sq (h := ?_)
      refine rg (h := ?_)
      refine wy mv ?_
      refine wy asg ?_
      refine nl (h := ?_)
      refine q_seq (h := ?_)
      refine rtn (h := ?_)
      refine q_blk_ret (h := ?_)
      refine q_then_ret (h := ?_)
      refine q_then_ret (h := ?_)
      refine q_blk_ret (h := ?_)
      refine q_then_ret (h := ?_)
      refine q_ret (hR := ?_)
      exact fun w hS => ⟨_, .inl ⟨k, hkn, rfl, by rw [pAt_eq hx]; assumption, hall⟩, rfl, hS⟩
    · skip
      refine skp (h := ?_)
      refine q_blk_norm (h := ?_)
      refine q_seq (h := ?_)
      refine rg (h := ?_)
      refine wy addI ?_
      refine wy mv ?_
      refine nl (h := ?_)
      refine rn (k + 1) ⟨by omega, fun i hi => ?_⟩ (by omega) sbz_ (SubL.refl _)
      rcases Nat.lt_succ_iff_lt_or_eq.1 hi with h | rfl
      · exact hall i h
      · rw [pAt_eq hx]; assumption
  · skip
    have hkn : k = n := by simp only [decide_eq_false_iff_not] at h0; omega
    refine et (h := ?_)
    refine q_then_exit (h := ?_)
    refine q_then_exit (h := ?_)
    refine q_blk_hit (h := ?_)
    refine q_seq (h := ?_)
    refine sq (h := ?_)
    refine rg (h := ?_)
    refine wy asg ?_
    refine nl (h := ?_)
    refine q_seq (h := ?_)
    refine rtn (h := ?_)
    refine q_ret (hR := ?_)
    exact fun w hS => ⟨_, .inr ⟨rfl, by subst hkn; exact hall⟩, rfl, hS⟩
theorem T_ContainsIntB {E : Ent} {A : Option Addr} {n c : Nat} {ws : List Int} (hE : ∀ w, E.ok w → Rd w A 1 n (encI ws)) {g : FuncId} (hg : FnOk Tryz.prog g) (fi cap : List Value) (Lp : List Ent) (p : Int → Bool) (hn : n ≤ 9223372036854775807) (hlen : ws.length = n)
    (hp : ∀ x ∈ ws, Tr Tryz.prog g (fi ++ [.int .i64 x] ++ cap) Lp (fun _ : Unit => True) (fun _ => .bool (p x)) (fun _ => Lp)) :
    Tr Tryz.prog 98 [.slice A n c, .func (.func g) fi.toArray cap.toArray] (E :: Lp) (fun _ : Unit => True) (fun _ => .bool (ws.any p)) (fun _ => E :: Lp) := by
  refine ⟨fun w0 w R hst => ?_⟩
  refine en Tryz.func98 Tryz.ntmps98 hst (h := fun F => ?_)
  refine sq (h := ?_)
  refine rg (h := ?_)
  refine wy asg ?_
  refine nl (h := ?_)
  refine q_seq (h := ?_)
  refine sq (h := ?_)
  refine rg (h := ?_)
  refine wy mv ?_
  refine wy mv ?_
  refine clT (hc := T_IndexIntB (c := c) hE hg fi cap Lp p hn hlen hp) (hs := Spl.cons .here (Spl.app _ _)) (h := fun x0 hx0 => ?_)
  refine wy geq ?_
  refine wy asg ?_
  refine nl (h := ?_)
  refine q_seq (h := ?_)
  refine rtn (h := ?_)
  refine q_ret (hR := ?_)
  exact fun w hS => ⟨(), trivial, by simp only [resV, hx0.any]; rw [← hlen, pAt_any], hS⟩
set_option maxRecDepth 100000 in
set_option maxHeartbeats 2000000 in
theorem C_balls_Check (d : Dp) (a : DA) (w : World) (h : DpR w d a) : C0 Tryz.prog 62 [d.val a] w (.int .i64 (depE d)) := by
  have hsc := h.sc
  have hfc := h.fc
  have hcc := h.cc
  refine ⟨en Tryz.func62 Tryz.ntmps62 ((((St.init w).share (e := .ro a.sA 1 d.st.length (encI d.st)) h.s rfl rfl rfl).share (e := .ro a.fA 16 d.fx.length (d.fx.map Fx.enc)) h.f rfl rfl rfl).share (e := .ro a.cA 3 d.cr.length (d.cr.map Cx.enc)) h.c rfl rfl rfl) (h := fun F => ?_)⟩
  refine sq (h := ?_)
  refine rg (h := ?_)
  refine bxA (h := fun b0 => ?_)
  refine wy asg ?_
  refine nl (h := ?_)
  refine q_seq (h := ?_)
  refine sq (h := ?_)
  refine rg (h := ?_)
  refine al (h := fun bf => ?_)
  first | refine st (h := ?_) | refine stE (h := ?_)
  refine nl (h := ?_)
  refine q_seq (h := ?_)
  refine sq (h := ?_)
  refine sq (h := ?_)
  refine rg (h := ?_)
  refine wy (by first | exact fa | exact faE) ?_
  refine wy (by first | exact fa | exact faE) ?_
  refine wy (by first | exact ld | exact ldE) ?_
  refine wy (by first | exact fa | exact faE) ?_
  refine wy (by first | exact fa | exact faE) ?_
  refine wy (by first | exact ld | exact ldE) ?_
  refine wy (by first | exact fa | exact faE) ?_
  refine wy (by first | exact fa | exact faE) ?_
  refine wy (by first | exact ld | exact ldE) ?_
  refine bs (h := fun b2 => ?_)
  refine wy lenS ?_
  refine wy mv ?_
  refine nl (h := ?_)
  refine q_seq (h := ?_)
  refine bk (h := ?_)
  refine lp (X := Nat) (I := fun k => k ≤ 3 ∧ Upto [d.each, d.tow, d.fra] (fun n => wi n 0 20) k) (le := fun k => [(1, .pointer (some ⟨b0, 0, none⟩)), (3, .pointer (some ⟨bf, 0, none⟩)), (19, .slice (some ⟨b2, 0, none⟩) 3 3), (20, .int .i64 3), (21, .int .i64 k)]) (Le := fun _ => [.own (some ⟨b2, 0, none⟩) 3 3 1 3 (encI [d.each, d.tow, d.fra]), .blk bf 144 [.func (.func 97) #[] #[]], .blk b0 28 (d.cells a), .ro a.sA 1 d.st.length (encI d.st), .ro a.fA 16 d.fx.length (d.fx.map Fx.enc), .ro a.cA 3 d.cr.length (d.cr.map Cx.enc)]) (μ := fun k => 3 - k) 0 ⟨Nat.zero_le _, upto_zero⟩ sbz_ slz_ (fun k hk => ?_)
  obtain ⟨hk0, hku⟩ := hk
  refine sq (h := ?_)
  refine rg (h := ?_)
  refine wy lss ?_
  refine nl (h := ?_)
  refine q_seq (h := ?_)
  refine sq (h := ?_)
  refine cd (by exact rfl) (fun h0 => ?_) (fun h0 => ?_)
  · skip
    have hk3 : k < 3 := by have := of_decide_eq_true h0; omega
    obtain ⟨m, hm⟩ : ∃ m, [d.each, d.tow, d.fra][k]? = some m := ⟨_, List.getElem?_eq_getElem (by simpa using hk3)⟩
    have hne := encI_at hm
    refine skp (h := ?_)
    refine q_seq (h := ?_)
    refine sq (h := ?_)
    refine bk (h := ?_)
    refine sq (h := ?_)
    refine rg (h := ?_)
    refine wy (ix (A := some ⟨b2, 0, none⟩) (m := 3)) ?_
    refine wy (ldE (A := some ⟨b2, 0, none⟩) (hk := hne)) ?_
    refine wy asg ?_
    refine nl (h := ?_)
    refine q_seq (h := ?_)
    refine sq (h := ?_)
    refine rg (h := ?_)
    refine wy mv ?_
    refine cl0 (hc := fun w hS => C_balls_within _ _ _ w) (h := ?_)
    refine wy notB ?_
    refine nl (h := ?_)
    refine q_seq (h := ?_)
    refine cd (by exact rfl) (fun h1 => ?_) (fun h1 => ?_)
    · skip
      have hE : depE d = 90 := dep_kit (by
        have hm' : wi m 0 20 = false := by simpa using h1
        have hall : ([d.each, d.tow, d.fra].all fun n => wi n 0 20) = false := all_no hm hm'
        rw [kitB, ← hall]
        simp only [List.all_cons, List.all_nil, Bool.and_true, Bool.and_assoc])
      refine sq (h := ?_)
      refine rg (h := ?_)
      refine wy asg ?_
      refine nl (h := ?_)
      refine q_seq (h := ?_)
      refine rtn (h := ?_)
      refine q_blk_ret (h := ?_)
      refine q_then_ret (h := ?_)
      refine q_then_ret (h := ?_)
      refine q_blk_ret (h := ?_)
      refine q_then_ret (h := ?_)
      refine q_ret (hR := ?_)
      rw [hE]
      exact fun w hS => ⟨rfl, hS.sub slz_⟩
    · skip
      have hmk : wi m 0 20 = true := by simpa using h1
      have hkn := upto_succ hku hm hmk
      refine skp (h := ?_)
      refine q_blk_norm (h := ?_)
      refine q_seq (h := ?_)
      refine rg (h := ?_)
      refine wy addI ?_
      refine wy mv ?_
      refine nl (h := ?_)
      refine rn (x := k) (k + 1) ⟨by omega, hkn⟩ (by omega) sbz_ slz_
  · skip
    have hk3 : k = 3 := by have := of_decide_eq_false h0; omega
    have hkit : kitB d = true := by
      rw [hk3] at hku
      have k0 : wi d.each 0 20 = true := hku 0 d.each (by omega) rfl
      have k1 : wi d.tow 0 20 = true := hku 1 d.tow (by omega) rfl
      have k2 : wi d.fra 0 20 = true := hku 2 d.fra (by omega) rfl
      rw [kitB, k0, k1, k2]; rfl
    refine et (h := ?_)
    refine q_then_exit (h := ?_)
    refine q_then_exit (h := ?_)
    refine q_blk_hit (h := ?_)
    refine q_seq (h := ?_)
    refine sq (h := ?_)
    refine sq (h := ?_)
    refine rg (h := ?_)
    refine wy (by first | exact fa | exact faE) ?_
    refine wy (by first | exact ld | exact ldE) ?_
    refine wy lenS ?_
    refine wy neq ?_
    refine wy mv ?_
    apply brOr 5 33 38 (by exact rfl)
    · intro hb2
      refine un (h := ?_)
      refine wy (by first | exact fa | exact faE) ?_
      refine un (h := ?_)
      refine wy (by first | exact ld | exact ldE) ?_
      refine un (h := ?_)
      refine wy lenS ?_
      refine un (h := ?_)
      refine wy gtr ?_
      refine wy (by first | exact pkT | exact pkF) ?_
      exact mg (by repeat (first | exact trivial | refine ⟨rfl, ?_⟩ | refine ⟨by rw [hb2]; rfl, ?_⟩)) slz_
    · intro hb2
      repeat (first | refine un (h := ?_) | refine sk (h := ?_) | refine WL.y (hy := pkF) (h := ?_) | refine WL.y (hy := pkT) (h := ?_))
      exact mg (by repeat (first | exact trivial | refine ⟨rfl, ?_⟩ | refine ⟨by rw [hb2]; rfl, ?_⟩)) slz_
    refine wy mv ?_
    apply brOr 5 39 44 (by exact rfl)
    · intro hb3
      refine un (h := ?_)
      refine wy (by first | exact fa | exact faE) ?_
      refine un (h := ?_)
      refine wy (by first | exact ld | exact ldE) ?_
      refine un (h := ?_)
      refine wy lenS ?_
      refine un (h := ?_)
      refine wy gtr ?_
      refine wy (by first | exact pkT | exact pkF) ?_
      exact mg (by repeat (first | exact trivial | refine ⟨rfl, ?_⟩ | refine ⟨by rw [hb3]; rfl, ?_⟩)) slz_
    · intro hb3
      repeat (first | refine un (h := ?_) | refine sk (h := ?_) | refine WL.y (hy := pkF) (h := ?_) | refine WL.y (hy := pkT) (h := ?_))
      exact mg (by repeat (first | exact trivial | refine ⟨rfl, ?_⟩ | refine ⟨by rw [hb3]; rfl, ?_⟩)) slz_
    refine nl (h := ?_)
    refine q_seq (h := ?_)
    refine cd (by exact rfl) (fun h4 => ?_) (fun h4 => ?_)
    · skip
      have hE : depE d = 90 := dep_len (by rw [lenB, h4]; rfl)
      refine sq (h := ?_)
      refine rg (h := ?_)
      refine wy asg ?_
      refine nl (h := ?_)
      refine q_seq (h := ?_)
      refine rtn (h := ?_)
      refine q_then_ret (h := ?_)
      refine q_ret (hR := ?_)
      rw [hE]
      exact fun w hS => ⟨rfl, hS.sub slz_⟩
    · skip
      have hln : lenB d = true := by rw [lenB, h4]; rfl
      simp only [Bool.or_eq_false_iff, Bool.not_eq_false', decide_eq_true_eq, decide_eq_false_iff_not] at h4
      refine skp (h := ?_)
      refine q_seq (h := ?_)
      refine sq (h := ?_)
      refine sq (h := ?_)
      refine rg (h := ?_)
      refine wy (by first | exact fa | exact faE) ?_
      refine wy (by first | exact ld | exact ldE) ?_
      refine wy mkf ?_
      refine clT (hc := T_ContainsIntB (E := .ro a.sA 1 d.st.length (encI d.st)) (ws := d.st) (c := a.sc) (fun w hw => hw) inferInstance [] [.pointer (some ⟨bf, 0, none⟩)] [.blk bf 144 [.func (.func 97) #[] #[]]] (fun n => !wi n 0 99999) h.sc rfl (fun x _ => T_Check2 x bf)) (h := fun x48 _ => ?_)
      refine nl (h := ?_)
      refine q_seq (h := ?_)
      refine cd (by exact rfl) (fun h5 => ?_) (fun h5 => ?_)
      · skip
        have hE : depE d = 90 := dep_st (by
          obtain ⟨n, hn, hp⟩ := List.any_eq_true.1 h5
          obtain ⟨i, hi, e⟩ := List.getElem_of_mem hn
          exact all_no (i := i) (x := n) (by rw [List.getElem?_eq_getElem hi, e]) (by simpa using hp))
        refine sq (h := ?_)
        refine rg (h := ?_)
        refine wy asg ?_
        refine nl (h := ?_)
        refine q_seq (h := ?_)
        refine rtn (h := ?_)
        refine q_then_ret (h := ?_)
        refine q_ret (hR := ?_)
        rw [hE]
        exact fun w hS => ⟨rfl, hS.sub slz_⟩
      · skip
        have hst : stB d = true := List.all_eq_true.2 fun n hn => by
          have := List.any_eq_false.1 h5 n hn
          simpa using this
        refine skp (h := ?_)
        refine q_seq (h := ?_)
        refine sq (h := ?_)
        refine sq (h := ?_)
        refine rg (h := ?_)
        refine wy (by first | exact fa | exact faE) ?_
        refine wy (by first | exact ld | exact ldE) ?_
        refine wy lenS ?_
        refine wy mv ?_
        refine nl (h := ?_)
        refine q_seq (h := ?_)
        refine bk (h := ?_)
        refine lp (X := Nat) (I := fun j => j ≤ d.fx.length ∧ Upto d.fx fxOk j) (le := fun j => [(1, .pointer (some ⟨b0, 0, none⟩)), (3, .pointer (some ⟨bf, 0, none⟩)), (50, .slice a.fA d.fx.length a.fc), (51, .int .i64 d.fx.length), (52, .int .i64 j)]) (Le := fun _ => [.blk bf 144 [.func (.func 97) #[] #[]], .blk b0 28 (d.cells a), .ro a.sA 1 d.st.length (encI d.st), .ro a.fA 16 d.fx.length (d.fx.map Fx.enc), .ro a.cA 3 d.cr.length (d.cr.map Cx.enc)]) (μ := fun j => d.fx.length - j) 0 ⟨Nat.zero_le _, upto_zero⟩ sbz_ slz_ (fun j hj => ?_)
        obtain ⟨hj0, hju⟩ := hj
        refine sq (h := ?_)
        refine rg (h := ?_)
        refine wy lss ?_
        refine nl (h := ?_)
        refine q_seq (h := ?_)
        refine sq (h := ?_)
        refine cd (by exact rfl) (fun h6 => ?_) (fun h6 => ?_)
        · skip
          have hkn2 : j < d.fx.length := by have := of_decide_eq_true h6; omega
          obtain ⟨x, hx⟩ : ∃ x, d.fx[j]? = some x := ⟨_, List.getElem?_eq_getElem hkn2⟩
          refine skp (h := ?_)
          refine q_seq (h := ?_)
          refine sq (h := ?_)
          refine bk (h := ?_)
          refine sq (h := ?_)
          refine rg (h := ?_)
          refine wy (ix (A := a.fA) (m := d.fx.length)) ?_
          refine wy (ldEW (A := a.fA) (hk := map_at hx)) ?_
          refine al (h := fun bx => ?_)
          first | refine stA (h := ?_) | refine stEA (h := ?_)
          refine nl (h := ?_)
          refine q_seq (h := ?_)
          refine sq (h := ?_)
          refine rg (h := ?_)
          refine wy (by first | exact fa | exact faE) ?_
          refine wy (by first | exact ld | exact ldE) ?_
          refine cl0 (hc := fun w hS => C_balls_within _ _ _ w) (h := ?_)
          refine wy notB ?_
          refine wy mv ?_
          apply brOr 7 60 67 (by exact rfl)
          · intro hb7
            refine un (h := ?_)
            refine wy (by first | exact fa | exact faE) ?_
            refine un (h := ?_)
            refine wy (by first | exact ldA | exact ldEA) ?_
            refine un (h := ?_)
            refine wy (by first | exact fa | exact faE) ?_
            refine un (h := ?_)
            refine wy (by first | exact ldA | exact ldEA) ?_
            refine un (h := ?_)
            refine cl0 (hc := fun w hS => C_balls_check x.f x.b x.A x.b.st.length x.c w ((hS.old (h.x x (List.mem_of_getElem? hx)).r).get) (by have h1 := (h.x x (List.mem_of_getElem? hx)).n; have h2 := (h.x x (List.mem_of_getElem? hx)).c; omega)) (h := ?_)
            refine un (h := ?_)
            refine wy neq ?_
            refine wy (by first | exact pkT | exact pkF) ?_
            exact mg (by repeat (first | exact trivial | refine ⟨rfl, ?_⟩ | refine ⟨by rw [hb7]; rfl, ?_⟩)) slz_
          · intro hb7
            repeat (first | refine un (h := ?_) | refine sk (h := ?_) | refine WL.y (hy := pkF) (h := ?_) | refine WL.y (hy := pkT) (h := ?_))
            exact mg (by repeat (first | exact trivial | refine ⟨rfl, ?_⟩ | refine ⟨by rw [hb7]; rfl, ?_⟩)) slz_
          refine nl (h := ?_)
          refine q_seq (h := ?_)
          refine cd (by exact rfl) (fun h8 => ?_) (fun h8 => ?_)
          · skip
            have hE : depE d = 90 := dep_fx (all_no hx (by rw [fxOk, h8]; rfl))
            refine sq (h := ?_)
            refine rg (h := ?_)
            refine wy asg ?_
            refine nl (h := ?_)
            refine q_seq (h := ?_)
            refine rtn (h := ?_)
            refine q_blk_ret (h := ?_)
            refine q_then_ret (h := ?_)
            refine q_then_ret (h := ?_)
            refine q_blk_ret (h := ?_)
            refine q_then_ret (h := ?_)
            refine q_ret (hR := ?_)
            rw [hE]
            exact fun w hS => ⟨rfl, hS.sub slz_⟩
          · skip
            have hjn := upto_succ hju hx (by rw [fxOk, h8]; rfl)
            refine skp (h := ?_)
            refine q_blk_norm (h := ?_)
            refine q_seq (h := ?_)
            refine rg (h := ?_)
            refine wy addI ?_
            refine wy mv ?_
            refine nl (h := ?_)
            refine rn (x := j) (j + 1) ⟨hkn2, hjn⟩ (by omega) sbz_ slz_
        · skip
          have hkn2 : j = d.fx.length := by have := of_decide_eq_false h6; omega
          have hfx : fxB d = true := all_to fun i x hi => hju i x (by omega)
          refine et (h := ?_)
          refine q_then_exit (h := ?_)
          refine q_then_exit (h := ?_)
          refine q_blk_hit (h := ?_)
          refine q_seq (h := ?_)
          refine sq (h := ?_)
          refine sq (h := ?_)
          refine rg (h := ?_)
          refine wy (by first | exact fa | exact faE) ?_
          refine wy (by first | exact ld | exact ldE) ?_
          refine wy lenS ?_
          refine wy mv ?_
          refine nl (h := ?_)
          refine q_seq (h := ?_)
          refine bk (h := ?_)
          refine lp (X := Nat) (I := fun i => i ≤ d.cr.length ∧ Upto d.cr crOk i) (le := fun i => [(1, .pointer (some ⟨b0, 0, none⟩)), (3, .pointer (some ⟨bf, 0, none⟩)), (70, .slice a.cA d.cr.length a.cc), (71, .int .i64 d.cr.length), (72, .int .i64 i)]) (Le := fun _ => [.blk bf 144 [.func (.func 97) #[] #[]], .blk b0 28 (d.cells a), .ro a.sA 1 d.st.length (encI d.st), .ro a.fA 16 d.fx.length (d.fx.map Fx.enc), .ro a.cA 3 d.cr.length (d.cr.map Cx.enc)]) (μ := fun i => d.cr.length - i) 0 ⟨Nat.zero_le _, upto_zero⟩ sbz_ slz_ (fun i hi => ?_)
          obtain ⟨hi0, hiu⟩ := hi
          refine sq (h := ?_)
          refine rg (h := ?_)
          refine wy lss ?_
          refine nl (h := ?_)
          refine q_seq (h := ?_)
          refine sq (h := ?_)
          refine cd (by exact rfl) (fun h9 => ?_) (fun h9 => ?_)
          · skip
            have hkn3 : i < d.cr.length := by have := of_decide_eq_true h9; omega
            obtain ⟨y, hc⟩ : ∃ y, d.cr[i]? = some y := ⟨_, List.getElem?_eq_getElem hkn3⟩
            refine skp (h := ?_)
            refine q_seq (h := ?_)
            refine sq (h := ?_)
            refine bk (h := ?_)
            refine sq (h := ?_)
            refine rg (h := ?_)
            refine wy (ix (A := a.cA) (m := d.cr.length)) ?_
            refine wy (ldEW (A := a.cA) (hk := map_at hc)) ?_
            refine al (h := fun bc => ?_)
            first | refine stA (h := ?_) | refine stEA (h := ?_)
            refine nl (h := ?_)
            refine q_seq (h := ?_)
            refine sq (h := ?_)
            refine rg (h := ?_)
            refine wy (by first | exact fa | exact faE) ?_
            refine wy (by first | exact ld | exact ldE) ?_
            refine cl0 (hc := fun w hS => C_balls_within _ _ _ w) (h := ?_)
            refine wy notB ?_
            refine wy mv ?_
            apply brOr 5 80 85 (by exact rfl)
            · intro hb10
              refine un (h := ?_)
              refine wy (by first | exact fa | exact faE) ?_
              refine un (h := ?_)
              refine wy (by first | exact ld | exact ldE) ?_
              refine un (h := ?_)
              refine cl0 (hc := fun w hS => C_balls_within _ _ _ w) (h := ?_)
              refine un (h := ?_)
              refine wy notB ?_
              refine wy (by first | exact pkT | exact pkF) ?_
              exact mg (by repeat (first | exact trivial | refine ⟨rfl, ?_⟩ | refine ⟨by rw [hb10]; rfl, ?_⟩)) slz_
            · intro hb10
              repeat (first | refine un (h := ?_) | refine sk (h := ?_) | refine WL.y (hy := pkF) (h := ?_) | refine WL.y (hy := pkT) (h := ?_))
              exact mg (by repeat (first | exact trivial | refine ⟨rfl, ?_⟩ | refine ⟨by rw [hb10]; rfl, ?_⟩)) slz_
            refine wy mv ?_
            apply brOr 6 86 92 (by exact rfl)
            · intro hb11
              refine un (h := ?_)
              refine wy (by first | exact ld | exact ldE) ?_
              refine un (h := ?_)
              refine wy (by first | exact fa | exact faE) ?_
              refine un (h := ?_)
              refine wy (by first | exact ld | exact ldE) ?_
              refine un (h := ?_)
              refine clf0 (f := 97) (fi := []) (cap := []) (hc := fun w hS => C_Check1 y.count w) (h := ?_)
              refine un (h := ?_)
              refine wy notB ?_
              refine wy (by first | exact pkT | exact pkF) ?_
              exact mg (by repeat (first | exact trivial | refine ⟨rfl, ?_⟩ | refine ⟨by rw [hb11]; rfl, ?_⟩)) slz_
            · intro hb11
              repeat (first | refine un (h := ?_) | refine sk (h := ?_) | refine WL.y (hy := pkF) (h := ?_) | refine WL.y (hy := pkT) (h := ?_))
              exact mg (by repeat (first | exact trivial | refine ⟨rfl, ?_⟩ | refine ⟨by rw [hb11]; rfl, ?_⟩)) slz_
            refine nl (h := ?_)
            refine q_seq (h := ?_)
            refine cd (by exact rfl) (fun h12 => ?_) (fun h12 => ?_)
            · skip
              have hE : depE d = 90 := dep_cr (all_no hc (by rw [crOk, h12]; rfl))
              refine sq (h := ?_)
              refine rg (h := ?_)
              refine wy asg ?_
              refine nl (h := ?_)
              refine q_seq (h := ?_)
              refine rtn (h := ?_)
              refine q_blk_ret (h := ?_)
              refine q_then_ret (h := ?_)
              refine q_then_ret (h := ?_)
              refine q_blk_ret (h := ?_)
              refine q_then_ret (h := ?_)
              refine q_ret (hR := ?_)
              rw [hE]
              exact fun w hS => ⟨rfl, hS.sub slz_⟩
            · skip
              have hin := upto_succ hiu hc (by rw [crOk, h12]; rfl)
              refine skp (h := ?_)
              refine q_blk_norm (h := ?_)
              refine q_seq (h := ?_)
              refine rg (h := ?_)
              refine wy addI ?_
              refine wy mv ?_
              refine nl (h := ?_)
              refine rn (x := i) (i + 1) ⟨hkn3, hin⟩ (by omega) sbz_ slz_
          · skip
            have hkn3 : i = d.cr.length := by have := of_decide_eq_false h9; omega
            have hcr : crB d = true := all_to fun i' x hi' => hiu i' x (by omega)
            have hE := dep_yes hkit hln hst hfx hcr
            refine et (h := ?_)
            refine q_then_exit (h := ?_)
            refine q_then_exit (h := ?_)
            refine q_blk_hit (h := ?_)
            refine q_seq (h := ?_)
            refine sq (h := ?_)
            refine rg (h := ?_)
            refine wy asg ?_
            refine nl (h := ?_)
            refine q_seq (h := ?_)
            refine rtn (h := ?_)
            refine q_ret (hR := ?_)
            rw [hE]
            exact fun w hS => ⟨rfl, hS.sub slz_⟩
theorem DpR.old {w0 w : World} {L : List Ent} {d : Dp} {a : DA} (h : DpR w0 d a) (hS : St w0 w L) : DpR w d a :=
  ⟨(hS.old h.s).get, (hS.old h.f).get, (hS.old h.c).get, fun y hy => ⟨(hS.old (h.x y hy).r).get, (h.x y hy).n, (h.x y hy).c⟩, h.sc, h.fc, h.cc⟩
end Go.Proofs.YtpmmgljndceplaaGreat

namespace Go.Proofs.YtpmmgljndceplaaGreat
open Go Go.RowKit

def playersV (f : Fmt) : Int := bif f.dbl then 4 else 2
def begB (b : Brd) : Bool := decide (0 < (b.st.length : Int)) || !isZ b.g || !isZ b.p
def onceV (b : Brd) : Int := bif begB b then 0 else 1
def timesV (s : Pr) (n : Int) : Pr := (s.1 * n, s.2 * n)
def ndV (each tow fra : Int) (x : Fx) (item : Int) : Pr :=
  bif decide (item = 0) then timesV ((restC x.f x.b).1.1 + onceV x.b, (restC x.f x.b).1.2 + onceV x.b) each
  else bif decide (item = 1) then timesV (restC x.f x.b).2 (tow * playersV x.f) else timesV (onceV x.b, onceV x.b) (fra * playersV x.f)
theorem mul_rng {a b A B : Int} (ha : 0 ≤ a ∧ a ≤ A) (hb : 0 ≤ b ∧ b ≤ B) : 0 ≤ a * b ∧ a * b ≤ A * B :=
  ⟨Int.mul_nonneg ha.1 hb.1, Int.mul_le_mul ha.2 hb.2 hb.1 (Int.le_trans ha.1 ha.2)⟩
theorem once_rng (b : Brd) : 0 ≤ onceV b ∧ onceV b ≤ 1 := by unfold onceV; cases begB b <;> decide
theorem players_rng (f : Fmt) : 2 ≤ playersV f ∧ playersV f ≤ 4 := by unfold playersV; cases f.dbl <;> decide
theorem csb_rest {f : Fmt} {b : Brd} (h : checkE f b = 0) : CsB (restC f b) 86 := by
  obtain ⟨hf, hbo, hari, hhi⟩ := check_ok h
  obtain ⟨-, hwo, hw3⟩ := arises_facts hf hbo hari
  unfold restC
  cases hov : overV f (wonV b.st)
  · rw [cond_false]
    rcases hw3 with h3 | ⟨_, h4, _⟩
    · rw [h3] at hov; cases hov
    · rw [over_won hwo, Bool.or_eq_false_iff, decide_eq_false_iff_not, decide_eq_false_iff_not] at hov
      unfold WonOk at hwo
      exact csb_bump (csb_P hf ⟨by omega, h4⟩) _ _
  · exact csb_zero (by omega)
theorem nd_rng {each tow fra : Int} {x : Fx} {item : Int} (hk : (0 ≤ each ∧ each ≤ 20) ∧ (0 ≤ tow ∧ tow ≤ 20) ∧ 0 ≤ fra ∧ fra ≤ 20) (h : checkE x.f x.b = 0) : 0 ≤ (ndV each tow fra x item).1 ∧ (ndV each tow fra x item).1 ≤ (ndV each tow fra x item).2 ∧ (ndV each tow fra x item).2 ≤ 10000 := by
  have h1 := csb_rest h
  have h2 := once_rng x.b
  have h3 := players_rng x.f
  unfold CsB at h1
  have m1 := mul_rng (a := tow) (b := playersV x.f) (A := 20) (B := 4) (by omega) (by omega)
  have m2 := mul_rng (a := fra) (b := playersV x.f) (A := 20) (B := 4) (by omega) (by omega)
  unfold ndV timesV
  cases decide (item = 0)
  · cases decide (item = 1)
    · have m3 := mul_rng (a := onceV x.b) (b := fra * playersV x.f) (A := 1) (B := 80) h2 m2
      simp only [cond_false]; omega
    · have m3 := mul_rng (a := (restC x.f x.b).2.1) (b := tow * playersV x.f) (A := 86) (B := 80) (by omega) m1
      have m4 := mul_rng (a := (restC x.f x.b).2.2) (b := tow * playersV x.f) (A := 86) (B := 80) (by omega) m1
      have m5 := Int.mul_le_mul_of_nonneg_right h1.2.2.1 m1.1
      simp only [cond_false, cond_true]; omega
  · have m3 := mul_rng (a := (restC x.f x.b).1.1 + onceV x.b) (b := each) (A := 87) (B := 20) (by omega) (by omega)
    have m4 := mul_rng (a := (restC x.f x.b).1.2 + onceV x.b) (b := each) (A := 87) (B := 20) (by omega) (by omega)
    have m5 := Int.mul_le_mul_of_nonneg_right (show (restC x.f x.b).1.1 + onceV x.b ≤ (restC x.f x.b).1.2 + onceV x.b by omega) hk.1.1
    simp only [cond_true]; omega
theorem over_beg {f : Fmt} {b : Brd} (hf : f.Ok) (h : overV f (wonV b.st) = true) : begB b = true := by
  have hs0 := hf.s0
  unfold begB
  cases hl : b.st.length with
  | zero =>
    exfalso
    have hw : wonV b.st = (0, 0) := by unfold wonV; rw [hl]; rfl
    rw [hw] at h
    have h2 : max (0 : Int) 0 = f.sets := by unfold overV at h; exact of_decide_eq_true h
    have h3 : max (0 : Int) 0 = 0 := rfl
    omega
  | succ k => rw [decide_eq_true (by omega)]; rfl
theorem beg_prog (b : Brd) : ((!isZ b.g || !isZ b.p) || decide (0 < (b.st.length : Int))) = begB b := by
  unfold begB
  cases isZ b.g <;> cases isZ b.p <;> cases decide (0 < (b.st.length : Int)) <;> rfl
theorem C_balls_times (s : Pr) (n : Int) (h1 : -1000000000 ≤ s.1 * n ∧ s.1 * n ≤ 1000000000) (h2 : -1000000000 ≤ s.2 * n ∧ s.2 * n ≤ 1000000000) (w : World) : C0 Tryz.prog 122 [pv s, .int .i64 n] w (pv (timesV s n)) := by
  refine ⟨en Tryz.func122 Tryz.ntmps122 (St.init w) (h := fun F => ?_)⟩
  refine sq (h := ?_)
  refine rg (h := ?_)
  refine bxA (h := fun b0 => ?_)
  refine al (h := fun b1 => ?_)
  refine nl (h := ?_)
  refine q_seq (h := ?_)
  refine sq (h := ?_)
  refine rg (h := ?_)
  refine wy (by first | exact fa | exact faE) ?_
  refine wy (by first | exact ld | exact ldE) ?_
  refine wy mv ?_
  refine wy mulI ?_
  refine wy (by first | exact fa | exact faE) ?_
  refine wy (by first | exact ld | exact ldE) ?_
  refine wy mv ?_
  refine wy mulI ?_
  refine wy bd ?_
  first | refine stA (h := ?_) | refine stEA (h := ?_)
  refine nl (h := ?_)
  refine q_seq (h := ?_)
  refine rtn (h := ?_)
  refine q_ret (hR := ?_)
  exact fun w hS => ⟨rfl, hS.sub slz_⟩
abbrev nd6 (each tow fra : Int) (x : Fx) : List Value := [.int .i64 (ndV each tow fra x 0).1, .int .i64 (ndV each tow fra x 0).2, .int .i64 (ndV each tow fra x 1).1, .int .i64 (ndV each tow fra x 1).2, .int .i64 (ndV each tow fra x 2).1, .int .i64 (ndV each tow fra x 2).2]
set_option maxRecDepth 100000 in
theorem C_balls_needs (each tow fra : Int) (x : Fx) (hk : (0 ≤ each ∧ each ≤ 20) ∧ (0 ≤ tow ∧ tow ≤ 20) ∧ 0 ≤ fra ∧ fra ≤ 20) (hc : checkE x.f x.b = 0) (w : World) (h : Rd w x.A 2 x.b.st.length (encP x.b.st)) : C0 Tryz.prog 100 [.agg #[.int .i64 each, .int .i64 tow, .int .i64 fra], x.val] w (.agg (nd6 each tow fra x).toArray) := by
  obtain ⟨hf, hbo, hari, hhi⟩ := check_ok hc
  have h1 := csb_rest hc
  have h2 := once_rng x.b
  have h3 := players_rng x.f
  unfold CsB at h1
  have m1 := mul_rng (a := tow) (b := playersV x.f) (A := 20) (B := 4) (by omega) (by omega)
  have m2 := mul_rng (a := fra) (b := playersV x.f) (A := 20) (B := 4) (by omega) (by omega)
  have m3 := mul_rng (a := onceV x.b) (b := fra * playersV x.f) (A := 1) (B := 80) h2 m2
  have m4 := mul_rng (a := (restC x.f x.b).2.1) (b := tow * playersV x.f) (A := 86) (B := 80) (by omega) m1
  have m5 := mul_rng (a := (restC x.f x.b).2.2) (b := tow * playersV x.f) (A := 86) (B := 80) (by omega) m1
  have m6 := mul_rng (a := (restC x.f x.b).1.1 + onceV x.b) (b := each) (A := 87) (B := 20) (by omega) (by omega)
  have m7 := mul_rng (a := (restC x.f x.b).1.2 + onceV x.b) (b := each) (A := 87) (B := 20) (by omega) (by omega)
  refine ⟨en Tryz.func100 Tryz.ntmps100 ((St.init w).share (e := .ro x.A 2 x.b.st.length (encP x.b.st)) h rfl rfl rfl) (h := fun F => ?_)⟩
  refine sq (h := ?_)
  refine rg (h := ?_)
  refine bxA (h := fun b0 => ?_)
  refine bxA (h := fun b1 => ?_)
  refine al (h := fun b2 => ?_)
  refine nl (h := ?_)
  refine q_seq (h := ?_)
  refine sq (h := ?_)
  refine rg (h := ?_)
  refine wy (by first | exact fa | exact faE) ?_
  refine wy (by first | exact ldA | exact ldEA) ?_
  refine wy (by first | exact fa | exact faE) ?_
  refine wy (by first | exact ldA | exact ldEA) ?_
  refine cl0 (hc := fun w hS => C_balls_open x.f x.b hf (bdd_high hf hhi).1 hbo hari x.A x.b.st.length x.c w (hS.get rdz_)) (h := ?_)
  refine wy mv ?_
  refine wy ex ?_
  refine wy ex ?_
  refine al (h := fun b3 => ?_)
  first | refine stA (h := ?_) | refine stEA (h := ?_)
  refine wy asg ?_
  refine nl (h := ?_)
  refine q_seq (h := ?_)
  refine sq (h := ?_)
  refine sq (h := ?_)
  refine rg (h := ?_)
  refine wy mv ?_
  refine nl (h := ?_)
  refine q_seq (h := ?_)
  refine cd (by exact rfl) (fun h0 => ?_) (fun h0 => ?_)
  · skip
    have hov : overV x.f (wonV x.b.st) = true := h0
    have hz : onceV x.b = 0 := by rw [onceV, over_beg hf hov]; rfl
    have hr : restC x.f x.b = zC := by rw [restC, hov]; rfl
    have hE : nd6 each tow fra x = [.int .i64 0, .int .i64 0, .int .i64 0, .int .i64 0, .int .i64 0, .int .i64 0] := by
      have hn : ∀ i : Int, ndV each tow fra x i = (0, 0) := fun i => by
        unfold ndV timesV
        rw [hz, hr]
        cases decide (i = 0) <;> cases decide (i = 1) <;> simp [zC]
      simp only [nd6, hn]
    refine sq (h := ?_)
    refine rg (h := ?_)
    refine wy (by first | exact ldA | exact ldEA) ?_
    first | refine stA (h := ?_) | refine stEA (h := ?_)
    refine nl (h := ?_)
    refine q_seq (h := ?_)
    refine rtn (h := ?_)
    refine q_then_ret (h := ?_)
    refine q_ret (hR := ?_)
    rw [hE]
    exact fun w hS => ⟨rfl, hS.sub slz_⟩
  · skip
    refine skp (h := ?_)
    refine q_seq (h := ?_)
    refine sq (h := ?_)
    refine rg (h := ?_)
    refine wy asg ?_
    refine nl (h := ?_)
    refine q_seq (h := ?_)
    refine ct (X := Unit) (fun _ => True) (fun _ => [(2, .pointer (some ⟨b0, 0, none⟩)), (3, .pointer (some ⟨b1, 0, none⟩)), (4, .pointer (some ⟨b2, 0, none⟩)), (5, .pointer (some ⟨b3, 0, none⟩)), (7, .int .i64 (playersV x.f))]) (fun _ => [.blk b3 125 (ccs (restC x.f x.b)), .blk b0 23 [.int .i64 each, .int .i64 tow, .int .i64 fra], .blk b1 42 x.enc, .blk b2 182 [.int .i64 0, .int .i64 0, .int .i64 0, .int .i64 0, .int .i64 0, .int .i64 0], .ro x.A 2 x.b.st.length (encP x.b.st)]) (h1 := ?_) (h2 := ?_)
    · skip
      refine sq (h := ?_)
      refine rg (h := ?_)
      refine wy (by first | exact fa | exact faE) ?_
      refine wy (by first | exact fa | exact faE) ?_
      refine wy (by first | exact ld | exact ldE) ?_
      refine nl (h := ?_)
      refine q_seq (h := ?_)
      refine cd (by exact rfl) (fun h1 => ?_) (fun h1 => ?_)
      · skip
        have hp : playersV x.f = 4 := by rw [playersV, h1]; rfl
        refine rg (h := ?_)
        refine wy asg ?_
        refine nl (h := ?_)
        rw [hp]
        exact ctn () trivial sbz_ slz_
      · skip
        have hp : playersV x.f = 2 := by rw [playersV, h1]; rfl
        refine skp (h := ?_)
        rw [hp]
        exact ctn () trivial sbz_ slz_
    rintro ⟨⟩ -
    refine sq (h := ?_)
    refine rg (h := ?_)
    refine wy asg ?_
    refine nl (h := ?_)
    refine q_seq (h := ?_)
    refine ct (X := Unit) (fun _ => True) (fun _ => [(2, .pointer (some ⟨b0, 0, none⟩)), (3, .pointer (some ⟨b1, 0, none⟩)), (4, .pointer (some ⟨b2, 0, none⟩)), (5, .pointer (some ⟨b3, 0, none⟩)), (7, .int .i64 (playersV x.f)), (8, .int .i64 (onceV x.b))]) (fun _ => [.blk b3 125 (ccs (restC x.f x.b)), .blk b0 23 [.int .i64 each, .int .i64 tow, .int .i64 fra], .blk b1 42 x.enc, .blk b2 182 [.int .i64 0, .int .i64 0, .int .i64 0, .int .i64 0, .int .i64 0, .int .i64 0], .ro x.A 2 x.b.st.length (encP x.b.st)]) (h1 := ?_) (h2 := ?_)
    · skip
      refine sq (h := ?_)
      refine rg (h := ?_)
      refine wy (by first | exact fa | exact faE) ?_
      refine wy (by first | exact ldA | exact ldEA) ?_
      refine cl0 (hc := fun w hS => C_balls_begun x.b x.A x.b.st.length x.c w) (h := ?_)
      rw [beg_prog]
      refine wy mv ?_
      refine wy ex ?_
      refine wy ex ?_
      refine wy asg ?_
      refine wy asg ?_
      refine nl (h := ?_)
      refine q_seq (h := ?_)
      refine sq (h := ?_)
      refine rg (h := ?_)
      refine wy mv ?_
      refine nl (h := ?_)
      refine q_seq (h := ?_)
      refine cd (by exact rfl) (fun h2 => ?_) (fun h2 => ?_)
      · skip
        have hz : onceV x.b = 0 := by rw [onceV, h2]; rfl
        refine rg (h := ?_)
        refine wy asg ?_
        refine nl (h := ?_)
        rw [hz]
        exact ctn () trivial sbz_ slz_
      · skip
        have hz : onceV x.b = 1 := by rw [onceV, h2]; rfl
        refine skp (h := ?_)
        rw [hz]
        exact ctn () trivial sbz_ slz_
    rintro ⟨⟩ -
    refine sq (h := ?_)
    refine rg (h := ?_)
    refine wy (by first | exact fa | exact faE) ?_
    refine wy (by first | exact fa | exact faE) ?_
    refine wy (by first | exact ld | exact ldE) ?_
    refine wy mv ?_
    refine wy addI ?_
    refine wy (by first | exact fa | exact faE) ?_
    refine wy (by first | exact fa | exact faE) ?_
    refine wy (by first | exact ld | exact ldE) ?_
    refine wy mv ?_
    refine wy addI ?_
    refine wy bd ?_
    refine wy (by first | exact fa | exact faE) ?_
    refine wy (by first | exact ld | exact ldE) ?_
    refine cl0 (hc := fun w hS => C_balls_times ((restC x.f x.b).1.1 + onceV x.b, (restC x.f x.b).1.2 + onceV x.b) each (by dsimp only; omega) (by dsimp only; omega) w) (h := ?_)
    refine wy ixA ?_
    first | refine stA (h := ?_) | refine stEA (h := ?_)
    refine nl (h := ?_)
    refine q_seq (h := ?_)
    refine sq (h := ?_)
    refine rg (h := ?_)
    refine wy (by first | exact fa | exact faE) ?_
    refine wy (by first | exact ldA | exact ldEA) ?_
    refine wy (by first | exact fa | exact faE) ?_
    refine wy (by first | exact ld | exact ldE) ?_
    refine wy mv ?_
    refine wy mulI ?_
    refine cl0 (hc := fun w hS => C_balls_times (restC x.f x.b).2 (tow * playersV x.f) (by omega) (by omega) w) (h := ?_)
    refine wy ixA ?_
    first | refine stA (h := ?_) | refine stEA (h := ?_)
    refine nl (h := ?_)
    refine q_seq (h := ?_)
    refine sq (h := ?_)
    refine rg (h := ?_)
    refine wy mv ?_
    refine wy mv ?_
    refine wy bd ?_
    refine wy (by first | exact fa | exact faE) ?_
    refine wy (by first | exact ld | exact ldE) ?_
    refine wy mv ?_
    refine wy mulI ?_
    refine cl0 (hc := fun w hS => C_balls_times (onceV x.b, onceV x.b) (fra * playersV x.f) (by dsimp only; omega) (by dsimp only; omega) w) (h := ?_)
    refine wy ixA ?_
    first | refine stA (h := ?_) | refine stEA (h := ?_)
    refine nl (h := ?_)
    refine q_seq (h := ?_)
    refine sq (h := ?_)
    refine rg (h := ?_)
    refine wy (by first | exact ldA | exact ldEA) ?_
    first | refine stA (h := ?_) | refine stEA (h := ?_)
    refine nl (h := ?_)
    refine q_seq (h := ?_)
    refine rtn (h := ?_)
    refine q_ret (hR := ?_)
    exact fun w hS => ⟨rfl, hS.sub slz_⟩
end Go.Proofs.YtpmmgljndceplaaGreat

namespace Go.Proofs.YtpmmgljndceplaaGreat
open Go Go.RowKit

def accN (d : Dp) (item : Int) : Nat → Nat → Pr
  | 0, _ => (0, 0)
  | k + 1, dd => match d.fx[k]? with
    | some x => bif decide (x.day = (dd : Int)) then ((accN d item k dd).1 + (ndV d.each d.tow d.fra x item).1, (accN d item k dd).2 + (ndV d.each d.tow d.fra x item).2) else accN d item k dd
    | none => accN d item k dd
def needD (d : Dp) (item : Int) (dd : Nat) : Pr := accN d item d.fx.length dd
def crT (d : Dp) (item : Int) (dd : Nat) : Nat → Int
  | 0 => 0
  | k + 1 => match d.cr[k]? with
    | some c => bif decide (c.day = (dd : Int)) && decide (c.item = item) then crT d item dd k + c.count else crT d item dd k
    | none => crT d item dd k
def lefD (d : Dp) (item : Int) : Nat → Pr
  | 0 => (d.st.getD item.toNat 0, d.st.getD item.toNat 0)
  | k + 1 => ((lefD d item k).1 + crT d item k d.cr.length - (needD d item k).2, (lefD d item k).2 + crT d item k d.cr.length - (needD d item k).1)
def wkF (N L : Nat → Pr) : Nat → Int := fun i => if i < 122 then (if i % 2 = 0 then (N (i / 2)).1 else (N (i / 2)).2) else (if i % 2 = 0 then (L ((i - 122) / 2)).1 else (L ((i - 122) / 2)).2)
def updF (N : Nat → Pr) (k : Nat) (v : Pr) : Nat → Pr := fun i => if i = k then v else N i
theorem wk_lo (N L : Nat → Pr) {k o : Nat} (hk : k < 61) (ho : o = k * 2) (v : Int) : numE 244 (fun i => if i = o then v else wkF N L i) = numE 244 (wkF (updF N k (v, (N k).2)) L) := numE_congr fun i hi => by
  subst ho
  unfold wkF updF
  by_cases e : i = k * 2
  · rw [if_pos e, if_pos (by omega), if_pos (by omega), if_pos (by omega)]
  · rw [if_neg e]
    by_cases h1 : i < 122
    · rw [if_pos h1, if_pos h1]
      by_cases h2 : i % 2 = 0
      · rw [if_pos h2, if_pos h2, if_neg (by omega)]
      · rw [if_neg h2, if_neg h2]
        by_cases h3 : i / 2 = k
        · rw [if_pos h3, h3]
        · rw [if_neg h3]
    · rw [if_neg h1, if_neg h1]
theorem wk_hi (N L : Nat → Pr) {k o : Nat} (hk : k < 61) (ho : o = k * 2 + 1) (v : Int) : numE 244 (fun i => if i = o then v else wkF N L i) = numE 244 (wkF (updF N k ((N k).1, v)) L) := numE_congr fun i hi => by
  subst ho
  unfold wkF updF
  by_cases e : i = k * 2 + 1
  · rw [if_pos e, if_pos (by omega), if_neg (by omega), if_pos (by omega)]
  · rw [if_neg e]
    by_cases h1 : i < 122
    · rw [if_pos h1, if_pos h1]
      by_cases h2 : i % 2 = 0
      · rw [if_pos h2, if_pos h2]
        by_cases h3 : i / 2 = k
        · rw [if_pos h3, h3]
        · rw [if_neg h3]
      · rw [if_neg h2, if_neg h2, if_neg (by omega)]
    · rw [if_neg h1, if_neg h1]
theorem wk_left (N L : Nat → Pr) {k o : Nat} (hk : k < 61) (ho : o = 122 + k * 2) (v : Pr) : putAll (numE 244 (wkF N L)) o [.int .i64 v.1, .int .i64 v.2] = numE 244 (wkF N (updF L k v)) := by
  show ((numE 244 (wkF N L)).set o _).set (o + 1) _ = _
  rw [numE_set, numE_set]
  refine numE_congr fun i hi => ?_
  subst ho
  unfold wkF updF
  by_cases e1 : i = 122 + k * 2 + 1
  · rw [if_pos e1, if_neg (by omega), if_neg (by omega), if_pos (by omega)]
  · rw [if_neg e1]
    by_cases e2 : i = 122 + k * 2
    · rw [if_pos e2, if_neg (by omega), if_pos (by omega), if_pos (by omega)]
    · rw [if_neg e2]
      by_cases h1 : i < 122
      · rw [if_pos h1, if_pos h1]
      · have hne : ¬ (i - 122) / 2 = k := by omega
        rw [if_neg h1, if_neg h1, if_neg hne]
theorem wk_congr {N L N' L' : Nat → Pr} (h1 : ∀ k, k < 61 → N k = N' k) (h2 : ∀ k, k < 61 → L k = L' k) : numE 244 (wkF N L) = numE 244 (wkF N' L') := numE_congr fun i hi => by
  unfold wkF
  by_cases h : i < 122
  · rw [if_pos h, if_pos h, h1 (i / 2) (by omega)]
  · rw [if_neg h, if_neg h, h2 ((i - 122) / 2) (by omega)]
theorem wk_need1 (N L : Nat → Pr) {k o : Nat} (hk : k < 61) (ho : o = k * 2) : (numE 244 (wkF N L))[o]? = some (.int .i64 (N k).1) := by
  rw [numE_at (by omega)]
  unfold wkF
  rw [if_pos (by omega), if_pos (by omega), show o / 2 = k by omega]
theorem wk_need2 (N L : Nat → Pr) {k o : Nat} (hk : k < 61) (ho : o = k * 2 + 1) : (numE 244 (wkF N L))[o]? = some (.int .i64 (N k).2) := by
  rw [numE_at (by omega)]
  unfold wkF
  rw [if_pos (by omega), if_neg (by omega), show o / 2 = k by omega]
theorem wk_left1 (N L : Nat → Pr) {k o : Nat} (hk : k < 61) (ho : o = 122 + k * 2) : (numE 244 (wkF N L))[o]? = some (.int .i64 (L k).1) := by
  rw [numE_at (by omega)]
  unfold wkF
  rw [if_neg (by omega), if_pos (by omega), show (o - 122) / 2 = k by omega]
theorem wk_left2 (N L : Nat → Pr) {k o : Nat} (hk : k < 61) (ho : o = 122 + k * 2 + 1) : (numE 244 (wkF N L))[o]? = some (.int .i64 (L k).2) := by
  rw [numE_at (by omega)]
  unfold wkF
  rw [if_neg (by omega), if_neg (by omega), show (o - 122) / 2 = k by omega]
theorem wk_zero : numE 244 (fun _ => 0) = numE 244 (wkF (fun _ => (0, 0)) (fun _ => (0, 0))) := numE_congr fun i hi => by unfold wkF; by_cases h : i < 122 <;> by_cases h2 : i % 2 = 0 <;> simp [h, h2]
abbrev wkC (d : Dp) (item : Int) : List Value := numE 244 (wkF (needD d item) (fun j => lefD d item (j + 1)))
structure DepG (d : Dp) : Prop where
  k1 : 0 ≤ d.each ∧ d.each ≤ 20
  k2 : 0 ≤ d.tow ∧ d.tow ≤ 20
  k3 : 0 ≤ d.fra ∧ d.fra ≤ 20
  sl : d.st.length = 3
  fl : d.fx.length ≤ 30
  cl : d.cr.length ≤ 30
  st : ∀ x ∈ d.st, 0 ≤ x ∧ x ≤ 99999
  fx : ∀ x ∈ d.fx, (0 ≤ x.day ∧ x.day ≤ 60) ∧ checkE x.f x.b = 0
  cr : ∀ c ∈ d.cr, (0 ≤ c.day ∧ c.day ≤ 60) ∧ (0 ≤ c.item ∧ c.item ≤ 2) ∧ 0 ≤ c.count ∧ c.count ≤ 99999
theorem dep_good {d : Dp} (h : depOk d = true) : DepG d := by
  unfold depOk at h
  simp only [Bool.and_eq_true] at h
  obtain ⟨⟨⟨⟨h1, h2⟩, h3⟩, h4⟩, h5⟩ := h
  unfold kitB at h1
  simp only [Bool.and_eq_true] at h1
  unfold lenB at h2
  simp only [Bool.not_eq_true', Bool.or_eq_false_iff, Bool.not_eq_false', decide_eq_true_eq, decide_eq_false_iff_not] at h2
  refine ⟨wi_iff.1 h1.1.1, wi_iff.1 h1.1.2, wi_iff.1 h1.2, by omega, by omega, by omega, fun x hx => wi_iff.1 (List.all_eq_true.1 h3 x hx), fun x hx => ?_, fun c hc => ?_⟩
  · have := List.all_eq_true.1 h4 x hx
    unfold fxOk at this
    simp only [Bool.not_eq_true', Bool.or_eq_false_iff, Bool.not_eq_false', decide_eq_true_eq] at this
    exact ⟨wi_iff.1 this.1, this.2⟩
  · have := List.all_eq_true.1 h5 c hc
    unfold crOk at this
    simp only [Bool.not_eq_true', Bool.or_eq_false_iff, Bool.not_eq_false'] at this
    exact ⟨wi_iff.1 this.1.1, wi_iff.1 this.1.2, wi_iff.1 this.2⟩
theorem acc_rng {d : Dp} (h : DepG d) (item : Int) (dd : Nat) : ∀ k : Nat, 0 ≤ (accN d item k dd).1 ∧ (accN d item k dd).1 ≤ (accN d item k dd).2 ∧ (accN d item k dd).2 ≤ 10000 * k
  | 0 => by show 0 ≤ (0 : Int) ∧ (0 : Int) ≤ 0 ∧ (0 : Int) ≤ 10000 * ((0 : Nat) : Int); omega
  | k + 1 => by
    have ih := acc_rng h item dd k
    rw [accN]
    cases hx : d.fx[k]? with
    | none => simp only; omega
    | some x =>
      have hr := nd_rng (item := item) ⟨h.k1, h.k2, h.k3⟩ (h.fx x (List.mem_of_getElem? hx)).2
      simp only
      cases decide (x.day = (dd : Int))
      · simp only [cond_false]; omega
      · simp only [cond_true]; omega
theorem need_rng {d : Dp} (h : DepG d) (item : Int) (dd : Nat) : 0 ≤ (needD d item dd).1 ∧ (needD d item dd).1 ≤ (needD d item dd).2 ∧ (needD d item dd).2 ≤ 300000 := by
  have h1 := acc_rng h item dd d.fx.length
  have h2 := h.fl
  unfold needD; omega
theorem cr_rng {d : Dp} (h : DepG d) (item : Int) (dd : Nat) : ∀ k : Nat, 0 ≤ crT d item dd k ∧ crT d item dd k ≤ 100000 * k
  | 0 => by show 0 ≤ (0 : Int) ∧ (0 : Int) ≤ 100000 * ((0 : Nat) : Int); omega
  | k + 1 => by
    have ih := cr_rng h item dd k
    rw [crT]
    cases hx : d.cr[k]? with
    | none => simp only; omega
    | some c =>
      have hr := (h.cr c (List.mem_of_getElem? hx)).2.2
      simp only
      cases decide (c.day = (dd : Int)) && decide (c.item = item)
      · simp only [cond_false]; omega
      · simp only [cond_true]; omega
theorem st_rng {d : Dp} (h : DepG d) (k : Nat) : 0 ≤ d.st.getD k 0 ∧ d.st.getD k 0 ≤ 99999 := by
  rw [List.getD_eq_getElem?_getD]
  cases hx : d.st[k]? with
  | none => show 0 ≤ (0 : Int) ∧ (0 : Int) ≤ 99999; omega
  | some x => exact h.st x (List.mem_of_getElem? hx)
theorem lef_rng {d : Dp} (h : DepG d) (item : Int) : ∀ k : Nat, -(300000 * (k : Int)) ≤ (lefD d item k).1 ∧ (lefD d item k).1 ≤ (lefD d item k).2 ∧ (lefD d item k).2 ≤ 100000 + 3000000 * k
  | 0 => by
    have h1 := st_rng h item.toNat
    show -(300000 * ((0 : Nat) : Int)) ≤ d.st.getD item.toNat 0 ∧ d.st.getD item.toNat 0 ≤ d.st.getD item.toNat 0 ∧ d.st.getD item.toNat 0 ≤ 100000 + 3000000 * ((0 : Nat) : Int)
    omega
  | k + 1 => by
    have ih := lef_rng h item k
    have h1 := need_rng h item k
    have h2 := cr_rng h item k d.cr.length
    have h3 := h.cl
    rw [lefD]; dsimp only; omega
theorem acc_succ {d : Dp} {item : Int} {k : Nat} {x : Fx} (hx : d.fx[k]? = some x) (hd : 0 ≤ x.day) (dd : Nat) : accN d item (k + 1) dd = updF (accN d item k) x.day.toNat ((accN d item k x.day.toNat).1 + (ndV d.each d.tow d.fra x item).1, (accN d item k x.day.toNat).2 + (ndV d.each d.tow d.fra x item).2) dd := by
  rw [accN, hx]
  unfold updF
  simp only
  by_cases e : dd = x.day.toNat
  · rw [if_pos e, decide_eq_true (by omega), e]; rfl
  · rw [if_neg e, decide_eq_false (by omega)]; rfl
theorem upd_upd (N : Nat → Pr) (k : Nat) (a b : Pr) : updF (updF N k a) k b = updF N k b := by
  funext i; unfold updF; by_cases e : i = k
  · rw [if_pos e, if_pos e]
  · rw [if_neg e, if_neg e, if_neg e]
theorem upd_at (N : Nat → Pr) (k : Nat) (a : Pr) : updF N k a k = a := if_pos rfl
theorem nd_at {each tow fra : Int} {x : Fx} {item : Int} (h : 0 ≤ item ∧ item ≤ 2) : ((nd6 each tow fra x).drop (item.toNat * 2)).take 2 = [.int .i64 (ndV each tow fra x item).1, .int .i64 (ndV each tow fra x item).2] := by
  have h3 : item = 0 ∨ item = 1 ∨ item = 2 := by omega
  rcases h3 with rfl | rfl | rfl <;> rfl
theorem st_at {d : Dp} (h : DepG d) {item : Int} (hi : 0 ≤ item ∧ item ≤ 2) : (encI d.st)[item.toNat]? = some [.int .i64 (d.st.getD item.toNat 0)] := by
  have := h.sl
  rw [encI_at (List.getElem?_eq_getElem (show item.toNat < d.st.length by omega)), List.getD_eq_getElem?_getD, List.getElem?_eq_getElem (show item.toNat < d.st.length by omega)]; rfl
def lefT (d : Dp) (item : Int) (k : Nat) : Nat → Pr := fun j => if j < k then lefD d item (j + 1) else (0, 0)
theorem lefT_succ (d : Dp) (item : Int) (k : Nat) : updF (lefT d item k) k (lefD d item (k + 1)) = lefT d item (k + 1) := by
  funext i; unfold updF lefT
  by_cases e : i = k
  · rw [if_pos e, if_pos (by omega), e]
  · rw [if_neg e]
    by_cases h : i < k
    · rw [if_pos h, if_pos (by omega)]
    · rw [if_neg h, if_neg (by omega)]
theorem crT_succ {d : Dp} {item : Int} {dd k : Nat} {c : Cx} (h : d.cr[k]? = some c) : crT d item dd (k + 1) = bif decide (c.day = (dd : Int)) && decide (c.item = item) then crT d item dd k + c.count else crT d item dd k := by rw [crT, h]
set_option maxRecDepth 100000 in
set_option maxHeartbeats 4000000 in
theorem C_balls_run (d : Dp) (a : DA) (item : Int) (hG : DepG d) (hi : 0 ≤ item ∧ item ≤ 2) (w : World) (h : DpR w d a) : C0 Tryz.prog 64 [d.val a, .int .i64 item] w (.agg (wkC d item).toArray) := by
  have hsc := h.sc
  have hfl := hG.fl
  have hcl := hG.cl
  have hsl := hG.sl
  have hwz : numE 244 (fun _ => 0) = numE 244 (wkF (accN d item 0) (fun _ => (0, 0))) := wk_zero
  refine ⟨en Tryz.func64 Tryz.ntmps64 ((((St.init w).share (e := .ro a.sA 1 d.st.length (encI d.st)) h.s rfl rfl rfl).share (e := .ro a.fA 16 d.fx.length (d.fx.map Fx.enc)) h.f rfl rfl rfl).share (e := .ro a.cA 3 d.cr.length (d.cr.map Cx.enc)) h.c rfl rfl rfl) (h := fun F => ?_)⟩
  refine sq (h := ?_)
  refine rg (h := ?_)
  refine bxA (h := fun b0 => ?_)
  refine al (h := fun b1 => ?_)
  refine WL.blkTo (numE 244 fun _ => 0) .here (by rfl) ?_
  rw [hwz]
  refine nl (h := ?_)
  refine q_seq (h := ?_)
  refine sq (h := ?_)
  refine sq (h := ?_)
  refine rg (h := ?_)
  refine wy (by first | exact fa | exact faE) ?_
  refine wy (by first | exact ld | exact ldE) ?_
  refine wy lenS ?_
  refine wy mv ?_
  refine nl (h := ?_)
  refine q_seq (h := ?_)
  refine bk (h := ?_)
  refine lp (X := Nat) (I := fun k => k ≤ d.fx.length) (le := fun k => [(1, .int .i64 item), (2, .pointer (some ⟨b0, 0, none⟩)), (4, .pointer (some ⟨b1, 0, none⟩)), (13, .slice a.fA d.fx.length a.fc), (14, .int .i64 d.fx.length), (15, .int .i64 k)]) (Le := fun k => [.blk b1 97 (numE 244 (wkF (accN d item k) (fun _ => (0, 0)))), .blk b0 28 (d.cells a), .ro a.sA 1 d.st.length (encI d.st), .ro a.fA 16 d.fx.length (d.fx.map Fx.enc), .ro a.cA 3 d.cr.length (d.cr.map Cx.enc)]) (μ := fun k => d.fx.length - k) 0 (Nat.zero_le _) sbz_ slz_ (fun k hk => ?_)
  refine sq (h := ?_)
  refine rg (h := ?_)
  refine wy lss ?_
  refine nl (h := ?_)
  refine q_seq (h := ?_)
  refine sq (h := ?_)
  refine cd (by exact rfl) (fun h0 => ?_) (fun h0 => ?_)
  · skip
    have hkn : k < d.fx.length := by have := of_decide_eq_true h0; omega
    obtain ⟨x, hx⟩ : ∃ x, d.fx[k]? = some x := ⟨_, List.getElem?_eq_getElem hkn⟩
    have hxg := hG.fx x (List.mem_of_getElem? hx)
    have hdl : x.day.toNat < 61 := by omega
    have hnr := nd_rng (item := item) ⟨hG.k1, hG.k2, hG.k3⟩ hxg.2
    have har := acc_rng hG item x.day.toNat k
    have hacc : updF (accN d item k) x.day.toNat ((accN d item k x.day.toNat).1 + (ndV d.each d.tow d.fra x item).1, (accN d item k x.day.toNat).2 + (ndV d.each d.tow d.fra x item).2) = accN d item (k + 1) := funext fun dd => (acc_succ hx hxg.1.1 dd).symm
    refine skp (h := ?_)
    refine q_seq (h := ?_)
    refine sq (h := ?_)
    refine bk (h := ?_)
    refine sq (h := ?_)
    refine rg (h := ?_)
    refine wy (ix (A := a.fA) (m := d.fx.length)) ?_
    refine wy (ldEW (A := a.fA) (hk := map_at hx)) ?_
    refine al (h := fun bx => ?_)
    first | refine stA (h := ?_) | refine stEA (h := ?_)
    refine nl (h := ?_)
    refine q_seq (h := ?_)
    refine sq (h := ?_)
    refine rg (h := ?_)
    refine wy (by first | exact fa | exact faE) ?_
    refine wy (by first | exact ldA | exact ldEA) ?_
    refine wy (by first | exact ldA | exact ldEA) ?_
    refine cl0 (hc := fun w hS => C_balls_needs d.each d.tow d.fra x ⟨hG.k1, hG.k2, hG.k3⟩ hxg.2 w ((hS.old (h.x x (List.mem_of_getElem? hx)).r).get)) (h := ?_)
    refine wy mv ?_
    refine wy ixv ?_
    rw [nd_at hi]
    refine al (h := fun bn => ?_)
    first | refine stA (h := ?_) | refine stEA (h := ?_)
    refine nl (h := ?_)
    refine q_seq (h := ?_)
    refine sq (h := ?_)
    refine rgD (by kernel_rfl) [(1000000, .blk bx 42 x.enc), (1000000, .blk bn 56 [.int .i64 (ndV d.each d.tow d.fra x item).1, .int .i64 (ndV d.each d.tow d.fra x item).2]), (12, .blk b1 97 (numE 244 (wkF (accN d item k) (fun _ => (0, 0)))))] (by repeat (first | exact HS.nil | (apply HS.keep; (repeat (first | exact At.here | apply At.there))) | (apply HS.ro; (repeat (first | exact Rds.ro | exact Rds.own | apply Rds.there))))) (h := ?_)
    refine tk 0 (hy := (by first | exact fa | exact faE)) (h := ?_)
    refine tk 1 (hy := (by first | exact ld | exact ldE)) (h := ?_)
    refine tk 2 (hy := (by first | exact fa | exact faE)) (h := ?_)
    refine tk 3 (hy := ixA (hb := by omega)) (h := ?_)
    refine tk 4 (hy := (by first | exact fa | exact faE)) (h := ?_)
    refine tk 5 (hy := ld (hc := wk_need1 (accN d item k) (fun _ => (0, 0)) hdl (by omega))) (h := ?_)
    refine tk 6 (hy := (by first | exact fa | exact faE)) (h := ?_)
    refine tk 7 (hy := (by first | exact ld | exact ldE)) (h := ?_)
    refine tk 8 (hy := addI) (h := ?_)
    refine tk 9 (hy := (by first | exact fa | exact faE)) (h := ?_)
    refine tk 10 (hy := ixA (hb := by omega)) (h := ?_)
    refine tk 11 (hy := (by first | exact fa | exact faE)) (h := ?_)
    refine one 12 (h := ?_)
    refine stI (ho := by rw [numE_len]; omega) (h := ?_)
    rw [numE_set, wk_lo (k := x.day.toNat) _ _ hdl (by omega)]
    refine nx (h := ?_)
    refine dn (h := ?_)
    refine q_seq (h := ?_)
    refine rgD (by kernel_rfl) [(1000000, .blk bx 42 x.enc), (1000000, .blk bn 56 [.int .i64 (ndV d.each d.tow d.fra x item).1, .int .i64 (ndV d.each d.tow d.fra x item).2]), (12, .blk b1 97 (numE 244 (wkF (updF (accN d item k) x.day.toNat ((accN d item k x.day.toNat).1 + (ndV d.each d.tow d.fra x item).1, (accN d item k x.day.toNat).2)) (fun _ => (0, 0)))))] (by repeat (first | exact HS.nil | (apply HS.keep; (repeat (first | exact At.here | apply At.there))) | (apply HS.ro; (repeat (first | exact Rds.ro | exact Rds.own | apply Rds.there))))) (h := ?_)
    refine tk 0 (hy := (by first | exact fa | exact faE)) (h := ?_)
    refine tk 1 (hy := (by first | exact ld | exact ldE)) (h := ?_)
    refine tk 2 (hy := (by first | exact fa | exact faE)) (h := ?_)
    refine tk 3 (hy := ixA (hb := by omega)) (h := ?_)
    refine tk 4 (hy := (by first | exact fa | exact faE)) (h := ?_)
    refine tk 5 (hy := ld (v := .int .i64 (accN d item k x.day.toNat).2) (hc := (wk_need2 _ (fun _ => (0, 0)) hdl (by omega)).trans (by rw [upd_at]))) (h := ?_)
    refine tk 6 (hy := (by first | exact fa | exact faE)) (h := ?_)
    refine tk 7 (hy := (by first | exact ld | exact ldE)) (h := ?_)
    refine tk 8 (hy := addI) (h := ?_)
    refine tk 9 (hy := (by first | exact fa | exact faE)) (h := ?_)
    refine tk 10 (hy := ixA (hb := by omega)) (h := ?_)
    refine tk 11 (hy := (by first | exact fa | exact faE)) (h := ?_)
    refine one 12 (h := ?_)
    refine stI (ho := by rw [numE_len]; omega) (h := ?_)
    rw [numE_set, wk_hi (k := x.day.toNat) _ _ hdl (by omega), upd_upd, upd_at, hacc]
    refine nx (h := ?_)
    refine dn (h := ?_)
    refine q_blk_norm (h := ?_)
    refine q_seq (h := ?_)
    refine rg (h := ?_)
    refine wy addI ?_
    refine wy mv ?_
    refine nl (h := ?_)
    refine rn (x := k) (k + 1) hkn (by omega) sbz_ slz_
  · skip
    have hkn : k = d.fx.length := by have := of_decide_eq_false h0; omega
    rw [hkn]
    refine et (h := ?_)
    refine q_then_exit (h := ?_)
    refine q_then_exit (h := ?_)
    refine q_blk_hit (h := ?_)
    refine q_seq (h := ?_)
    refine sq (h := ?_)
    refine rgD0 (by kernel_rfl) (h := ?_)
    refine tk 0 (hy := (by first | exact fa | exact faE)) (h := ?_)
    refine tk 1 (hy := (by first | exact ld | exact ldE)) (h := ?_)
    refine tk 2 (hy := mv) (h := ?_)
    refine tk 3 (hy := ix (A := a.sA) (m := d.st.length)) (h := ?_)
    refine tk 4 (hy := ldE (A := a.sA) (hk := st_at hG hi)) (h := ?_)
    refine tk 5 (hy := (by first | exact fa | exact faE)) (h := ?_)
    refine tk 6 (hy := (by first | exact ld | exact ldE)) (h := ?_)
    refine tk 7 (hy := mv) (h := ?_)
    refine tk 8 (hy := ix (A := a.sA) (m := d.st.length)) (h := ?_)
    refine tk 9 (hy := ldE (A := a.sA) (hk := st_at hG hi)) (h := ?_)
    refine tk 10 (hy := bd) (h := ?_)
    refine one 11 (h := ?_)
    refine al (h := fun bl => ?_)
    refine nx (h := ?_)
    refine one 12 (h := ?_)
    first | refine stA (h := ?_) | refine stEA (h := ?_)
    refine nx (h := ?_)
    refine dn (h := ?_)
    refine q_seq (h := ?_)
    refine sq (h := ?_)
    refine sq (h := ?_)
    refine rg (h := ?_)
    refine wy mv ?_
    refine nl (h := ?_)
    refine q_seq (h := ?_)
    refine bk (h := ?_)
    refine lp (X := Nat) (I := fun z => z ≤ 61) (le := fun z => [(1, .int .i64 item), (2, .pointer (some ⟨b0, 0, none⟩)), (4, .pointer (some ⟨b1, 0, none⟩)), (8, .pointer (some ⟨bl, 0, none⟩)), (61, .int .i64 z)]) (Le := fun z => [.blk bl 56 [.int .i64 (lefD d item z).1, .int .i64 (lefD d item z).2], .blk b1 97 (numE 244 (wkF (needD d item) (lefT d item z))), .blk b0 28 (d.cells a), .ro a.sA 1 d.st.length (encI d.st), .ro a.fA 16 d.fx.length (d.fx.map Fx.enc), .ro a.cA 3 d.cr.length (d.cr.map Cx.enc)]) (μ := fun z => 61 - z) 0 (Nat.zero_le _) sbz_ slz_ (fun z hz => ?_)
    refine sq (h := ?_)
    refine rg (h := ?_)
    refine wy lss ?_
    refine nl (h := ?_)
    refine q_seq (h := ?_)
    refine sq (h := ?_)
    refine cd (by exact rfl) (fun h1 => ?_) (fun h1 => ?_)
    · skip
      have hz61 : z < 61 := by have := of_decide_eq_true h1; omega
      have hlr := lef_rng hG item z
      have hnr := need_rng hG item z
      refine skp (h := ?_)
      refine q_seq (h := ?_)
      refine sq (h := ?_)
      refine bk (h := ?_)
      refine sq (h := ?_)
      refine rg (h := ?_)
      refine wy mv ?_
      refine wy asg ?_
      refine nl (h := ?_)
      refine q_seq (h := ?_)
      refine sq (h := ?_)
      refine sq (h := ?_)
      refine rg (h := ?_)
      refine wy (by first | exact fa | exact faE) ?_
      refine wy (by first | exact ld | exact ldE) ?_
      refine wy lenS ?_
      refine wy mv ?_
      refine nl (h := ?_)
      refine q_seq (h := ?_)
      refine bk (h := ?_)
      refine lp (X := Nat) (I := fun j => j ≤ d.cr.length) (le := fun j => [(1, .int .i64 item), (2, .pointer (some ⟨b0, 0, none⟩)), (4, .pointer (some ⟨b1, 0, none⟩)), (8, .pointer (some ⟨bl, 0, none⟩)), (9, .int .i64 z), (61, .int .i64 z), (65, .slice a.cA d.cr.length a.cc), (66, .int .i64 d.cr.length), (67, .int .i64 j)]) (Le := fun j => [.blk bl 56 [.int .i64 ((lefD d item z).1 + crT d item z j), .int .i64 ((lefD d item z).2 + crT d item z j)], .blk b1 97 (numE 244 (wkF (needD d item) (lefT d item z))), .blk b0 28 (d.cells a), .ro a.sA 1 d.st.length (encI d.st), .ro a.fA 16 d.fx.length (d.fx.map Fx.enc), .ro a.cA 3 d.cr.length (d.cr.map Cx.enc)]) (μ := fun j => d.cr.length - j) 0 (Nat.zero_le _) sbz_ (by rw [show (lefD d item z).1 + crT d item z 0 = (lefD d item z).1 from Int.add_zero _, show (lefD d item z).2 + crT d item z 0 = (lefD d item z).2 from Int.add_zero _]; repeat (first | exact SubL.nil | (apply SubL.cons; (repeat (first | exact At.here | apply At.there))) | exact SubL.refl _ | apply SubL.skip)) (fun j hj => ?_)
      refine sq (h := ?_)
      refine rg (h := ?_)
      refine wy lss ?_
      refine nl (h := ?_)
      refine q_seq (h := ?_)
      refine sq (h := ?_)
      refine cd (by exact rfl) (fun h2 => ?_) (fun h2 => ?_)
      · skip
        have hjn : j < d.cr.length := by have := of_decide_eq_true h2; omega
        obtain ⟨y, hc⟩ : ∃ y, d.cr[j]? = some y := ⟨_, List.getElem?_eq_getElem hjn⟩
        have hyr := (hG.cr y (List.mem_of_getElem? hc)).2.2
        have hcr := cr_rng hG item z j
        have hcs := crT_succ (item := item) (dd := z) hc
        refine skp (h := ?_)
        refine q_seq (h := ?_)
        refine sq (h := ?_)
        refine bk (h := ?_)
        refine sq (h := ?_)
        refine rg (h := ?_)
        refine wy (ix (A := a.cA) (m := d.cr.length)) ?_
        refine wy (ldEW (A := a.cA) (hk := map_at hc)) ?_
        refine al (h := fun bc => ?_)
        first | refine stA (h := ?_) | refine stEA (h := ?_)
        refine nl (h := ?_)
        refine q_seq (h := ?_)
        refine sq (h := ?_)
        refine rg (h := ?_)
        refine wy (by first | exact fa | exact faE) ?_
        refine wy (by first | exact ld | exact ldE) ?_
        refine wy mv ?_
        refine wy eql ?_
        refine wy mv ?_
        apply brAnd 5 75 80 (by exact rfl)
        · intro hb3
          refine un (h := ?_)
          refine wy (by first | exact fa | exact faE) ?_
          refine un (h := ?_)
          refine wy (by first | exact ld | exact ldE) ?_
          refine un (h := ?_)
          refine wy mv ?_
          refine un (h := ?_)
          refine wy eql ?_
          refine wy (by first | exact pkT | exact pkF) ?_
          exact mg (by repeat (first | exact trivial | refine ⟨rfl, ?_⟩ | refine ⟨by rw [hb3]; rfl, ?_⟩)) slz_
        · intro hb3
          repeat (first | refine un (h := ?_) | refine sk (h := ?_) | refine WL.y (hy := pkF) (h := ?_) | refine WL.y (hy := pkT) (h := ?_))
          exact mg (by repeat (first | exact trivial | refine ⟨rfl, ?_⟩ | refine ⟨by rw [hb3]; rfl, ?_⟩)) slz_
        refine nl (h := ?_)
        refine q_seq (h := ?_)
        refine cd (by exact rfl) (fun h4 => ?_) (fun h4 => ?_)
        · skip
          rw [h4, cond_true] at hcs
          have hc1 : (lefD d item z).1 + crT d item z (j + 1) = (lefD d item z).1 + crT d item z j + y.count := by rw [hcs]; omega
          have hc2 : (lefD d item z).2 + crT d item z (j + 1) = (lefD d item z).2 + crT d item z j + y.count := by rw [hcs]; omega
          refine sq (h := ?_)
          refine rg (h := ?_)
          refine wy (by first | exact fa | exact faE) ?_
          refine wy (by first | exact ld | exact ldE) ?_
          refine wy (by first | exact fa | exact faE) ?_
          refine wy (by first | exact ld | exact ldE) ?_
          refine wy addI ?_
          refine wy (by first | exact fa | exact faE) ?_
          first | refine st (h := ?_) | refine stE (h := ?_)
          refine nl (h := ?_)
          refine q_seq (h := ?_)
          refine rg (h := ?_)
          refine wy (by first | exact fa | exact faE) ?_
          refine wy (by first | exact ld | exact ldE) ?_
          refine wy (by first | exact fa | exact faE) ?_
          refine wy (by first | exact ld | exact ldE) ?_
          refine wy addI ?_
          refine wy (by first | exact fa | exact faE) ?_
          first | refine st (h := ?_) | refine stE (h := ?_)
          refine nl (h := ?_)
          refine q_blk_norm (h := ?_)
          refine q_seq (h := ?_)
          refine rg (h := ?_)
          refine wy addI ?_
          refine wy mv ?_
          refine nl (h := ?_)
          refine rn (x := j) (j + 1) hjn (by omega) sbz_ (by rw [hc1, hc2]; repeat (first | exact SubL.nil | (apply SubL.cons; (repeat (first | exact At.here | apply At.there))) | exact SubL.refl _ | apply SubL.skip))
        · skip
          rw [h4, cond_false] at hcs
          have hc1 : (lefD d item z).1 + crT d item z (j + 1) = (lefD d item z).1 + crT d item z j := by rw [hcs]
          have hc2 : (lefD d item z).2 + crT d item z (j + 1) = (lefD d item z).2 + crT d item z j := by rw [hcs]
          refine skp (h := ?_)
          refine q_blk_norm (h := ?_)
          refine q_seq (h := ?_)
          refine rg (h := ?_)
          refine wy addI ?_
          refine wy mv ?_
          refine nl (h := ?_)
          refine rn (x := j) (j + 1) hjn (by omega) sbz_ (by rw [hc1, hc2]; repeat (first | exact SubL.nil | (apply SubL.cons; (repeat (first | exact At.here | apply At.there))) | exact SubL.refl _ | apply SubL.skip))
      · skip
        have hjn : j = d.cr.length := by have := of_decide_eq_false h2; omega
        rw [hjn]
        have hcr := cr_rng hG item z d.cr.length
        refine et (h := ?_)
        refine q_then_exit (h := ?_)
        refine q_then_exit (h := ?_)
        refine q_blk_hit (h := ?_)
        refine q_seq (h := ?_)
        refine sq (h := ?_)
        refine rgD (by kernel_rfl) [(9, .blk bl 56 _), (1000000, .blk b1 97 (numE 244 (wkF (needD d item) (lefT d item z))))] (by repeat (first | exact HS.nil | (apply HS.keep; (repeat (first | exact At.here | apply At.there))) | (apply HS.ro; (repeat (first | exact Rds.ro | exact Rds.own | apply Rds.there))))) (h := ?_)
        refine tk 0 (hy := (by first | exact fa | exact faE)) (h := ?_)
        refine tk 1 (hy := (by first | exact ld | exact ldE)) (h := ?_)
        refine tk 2 (hy := mv) (h := ?_)
        refine tk 3 (hy := (by first | exact fa | exact faE)) (h := ?_)
        refine tk 4 (hy := ixA (hb := by omega)) (h := ?_)
        refine tk 5 (hy := (by first | exact fa | exact faE)) (h := ?_)
        refine tk 6 (hy := ld (hc := wk_need2 (needD d item) (lefT d item z) hz61 (by omega))) (h := ?_)
        refine tk 7 (hy := subI) (h := ?_)
        refine tk 8 (hy := (by first | exact fa | exact faE)) (h := ?_)
        refine one 9 (h := ?_)
        first | refine st (h := ?_) | refine stE (h := ?_)
        refine nx (h := ?_)
        refine dn (h := ?_)
        refine q_seq (h := ?_)
        refine sq (h := ?_)
        refine rgD (by kernel_rfl) [(9, .blk bl 56 _), (1000000, .blk b1 97 (numE 244 (wkF (needD d item) (lefT d item z))))] (by repeat (first | exact HS.nil | (apply HS.keep; (repeat (first | exact At.here | apply At.there))) | (apply HS.ro; (repeat (first | exact Rds.ro | exact Rds.own | apply Rds.there))))) (h := ?_)
        refine tk 0 (hy := (by first | exact fa | exact faE)) (h := ?_)
        refine tk 1 (hy := (by first | exact ld | exact ldE)) (h := ?_)
        refine tk 2 (hy := mv) (h := ?_)
        refine tk 3 (hy := (by first | exact fa | exact faE)) (h := ?_)
        refine tk 4 (hy := ixA (hb := by omega)) (h := ?_)
        refine tk 5 (hy := (by first | exact fa | exact faE)) (h := ?_)
        refine tk 6 (hy := ld (hc := wk_need1 (needD d item) (lefT d item z) hz61 (by omega))) (h := ?_)
        refine tk 7 (hy := subI) (h := ?_)
        refine tk 8 (hy := (by first | exact fa | exact faE)) (h := ?_)
        refine one 9 (h := ?_)
        first | refine st (h := ?_) | refine stE (h := ?_)
        refine nx (h := ?_)
        refine dn (h := ?_)
        refine q_seq (h := ?_)
        refine rg (h := ?_)
        refine wy mv ?_
        refine wy (by first | exact ldA | exact ldEA) ?_
        refine wy (by first | exact fa | exact faE) ?_
        refine wy ixA ?_
        refine stP (vs := [.int .i64 (lefD d item (z + 1)).1, .int .i64 (lefD d item (z + 1)).2]) (h1 := fun v hv => by simp only [List.mem_cons, List.not_mem_nil, or_false] at hv; rcases hv with rfl | rfl <;> rfl) (hsz := rfl) (ho := by rw [numE_len]; simp only [List.length_cons, List.length_nil]; omega) (h := ?_)
        rw [wk_left (k := z) _ _ hz61 (by omega) (lefD d item (z + 1)), lefT_succ]
        refine nl (h := ?_)
        refine q_blk_norm (h := ?_)
        refine q_seq (h := ?_)
        refine rg (h := ?_)
        refine wy addI ?_
        refine wy mv ?_
        refine nl (h := ?_)
        refine rn (x := z) (z + 1) hz61 (by omega) sbz_ slz_
    · skip
      have hz61 : z = 61 := by have := of_decide_eq_false h1; omega
      rw [hz61, wk_congr (N := needD d item) (L := lefT d item 61) (N' := needD d item) (L' := fun j => lefD d item (j + 1)) (fun _ _ => rfl) (fun j hj => if_pos hj)]
      refine et (h := ?_)
      refine q_then_exit (h := ?_)
      refine q_then_exit (h := ?_)
      refine q_blk_hit (h := ?_)
      refine q_seq (h := ?_)
      refine sq (h := ?_)
      refine rg (h := ?_)
      refine wy (ldW (hl := numE_len _ _)) ?_
      refine stW (h1 := numE_one) (hsz := numE_len _ _) (ho := rfl) (h := ?_)
      refine nl (h := ?_)
      refine q_seq (h := ?_)
      refine rtn (h := ?_)
      refine q_ret (h := (Res.cellA inferInstance (by exact rfl) atz_ (tk_num 244 _) Res.nil)) (hR := ?_)
      exact fun w hS => ⟨rfl, hS.sub slz_⟩
end Go.Proofs.YtpmmgljndceplaaGreat

namespace Go.Proofs.YtpmmgljndceplaaGreat
open Go Go.RowKit

def askE (d : Dp) (item day : Int) : Int := bif !decide (depE d = 0) then depE d else bif !wi item 0 2 || !wi day 0 60 then 1 else 0
def askW (d : Dp) (item day : Int) : List Value := bif decide (askE d item day = 0) then wkC d item else numE 244 fun _ => 0
theorem askW_len (d : Dp) (item day : Int) : (askW d item day).length = 244 := by
  unfold askW; cases decide (askE d item day = 0)
  · exact numE_len _ _
  · exact numE_len _ _
theorem askW_one (d : Dp) (item day : Int) : ∀ v ∈ askW d item day, v.oneCell' = true := by
  unfold askW; cases decide (askE d item day = 0)
  · exact numE_one
  · exact numE_one
theorem ask_ok {d : Dp} {item day : Int} (h : askE d item day = 0) : DepG d ∧ (0 ≤ item ∧ item ≤ 2) ∧ 0 ≤ day ∧ day ≤ 60 := by
  unfold askE at h
  cases h1 : !decide (depE d = 0)
  · rw [h1, cond_false] at h
    cases h2 : !wi item 0 2 || !wi day 0 60
    · rw [Bool.or_eq_false_iff, Bool.not_eq_false', Bool.not_eq_false'] at h2
      exact ⟨dep_good (dep_ok (by simpa using h1)), wi_iff.1 h2.1, wi_iff.1 h2.2⟩
    · rw [h2] at h; cases h
  · rw [h1, cond_true] at h
    rw [h] at h1; cases h1
theorem askW_ok {d : Dp} {item day : Int} (h : askE d item day = 0) : askW d item day = wkC d item := by rw [askW, decide_eq_true h]; rfl
set_option maxRecDepth 100000 in
theorem C_balls_ask (d : Dp) (a : DA) (item day : Int) (w : World) (h : DpR w d a) : C0 Tryz.prog 31 [d.val a, .int .i64 item, .int .i64 day] w (.tuple #[.agg (askW d item day).toArray, .int .i64 (askE d item day)]) := by
  refine ⟨en Tryz.func31 Tryz.ntmps31 ((St.init w).share (e := .ro a.sA 1 d.st.length (encI d.st)) h.s rfl rfl rfl) (h := fun F => ?_)⟩
  refine sq (h := ?_)
  refine rg (h := ?_)
  refine bxA (h := fun b0 => ?_)
  refine al (h := fun b1 => ?_)
  refine WL.blkTo (numE 244 fun _ => 0) .here (by rfl) ?_
  refine wy asg ?_
  refine nl (h := ?_)
  refine q_seq (h := ?_)
  refine sq (h := ?_)
  refine sq (h := ?_)
  refine rg (h := ?_)
  refine wy (by first | exact ldA | exact ldEA) ?_
  refine cl0 (hc := fun w hS => C_balls_Check d a w (h.old hS)) (h := ?_)
  refine wy asg ?_
  refine nl (h := ?_)
  refine q_seq (h := ?_)
  refine sq (h := ?_)
  refine rg (h := ?_)
  refine wy mv ?_
  refine wy neq ?_
  refine nl (h := ?_)
  refine q_seq (h := ?_)
  refine cd (by exact rfl) (fun h0 => ?_) (fun h0 => ?_)
  · skip
    have hE : askE d item day = depE d := by rw [askE, h0]; rfl
    have hW : askW d item day = numE 244 fun _ => 0 := by rw [askW, hE, show decide (depE d = 0) = false by simpa using h0]; rfl
    refine sq (h := ?_)
    refine rg (h := ?_)
    refine wy (Yd.to (v' := .agg (numE 244 fun _ => 0).toArray) bd (by rfl)) ?_
    refine wy mv ?_
    refine stW (h1 := numE_one) (hsz := numE_len _ _) (ho := rfl) (h := ?_)
    refine wy asg ?_
    refine nl (h := ?_)
    refine q_seq (h := ?_)
    refine rtn (h := ?_)
    refine q_then_ret (h := ?_)
    refine q_ret (h := (Res.cellA inferInstance (by exact rfl) atz_ (tk_num 244 _) (Res.tmp (by exact rfl) Res.nil))) (hR := ?_)
    rw [hE, hW]
    exact fun w hS => ⟨rfl, hS.sub slz_⟩
  · skip
    have hd := h0
    refine skp (h := ?_)
    refine q_seq (h := ?_)
    refine sq (h := ?_)
    refine sq (h := ?_)
    refine rg (h := ?_)
    refine wy mv ?_
    refine cl0 (hc := fun w hS => C_balls_within _ _ _ w) (h := ?_)
    refine wy notB ?_
    refine wy mv ?_
    apply brOr 4 18 22 (by exact rfl)
    · intro hb1
      refine un (h := ?_)
      refine wy mv ?_
      refine un (h := ?_)
      refine cl0 (hc := fun w hS => C_balls_within _ _ _ w) (h := ?_)
      refine un (h := ?_)
      refine wy notB ?_
      refine wy (by first | exact pkT | exact pkF) ?_
      exact mg (by repeat (first | exact trivial | refine ⟨rfl, ?_⟩ | refine ⟨by rw [hb1]; rfl, ?_⟩)) slz_
    · intro hb1
      repeat (first | refine un (h := ?_) | refine sk (h := ?_) | refine WL.y (hy := pkF) (h := ?_) | refine WL.y (hy := pkT) (h := ?_))
      exact mg (by repeat (first | exact trivial | refine ⟨rfl, ?_⟩ | refine ⟨by rw [hb1]; rfl, ?_⟩)) slz_
    refine nl (h := ?_)
    refine q_seq (h := ?_)
    refine cd (by exact rfl) (fun h2 => ?_) (fun h2 => ?_)
    · skip
      have hE : askE d item day = 1 := by rw [askE, hd, h2]; rfl
      have hW : askW d item day = numE 244 fun _ => 0 := by rw [askW, hE]; rfl
      refine sq (h := ?_)
      refine rg (h := ?_)
      refine wy (Yd.to (v' := .agg (numE 244 fun _ => 0).toArray) bd (by rfl)) ?_
      refine stW (h1 := numE_one) (hsz := numE_len _ _) (ho := rfl) (h := ?_)
      refine wy asg ?_
      refine nl (h := ?_)
      refine q_seq (h := ?_)
      refine rtn (h := ?_)
      refine q_then_ret (h := ?_)
      refine q_ret (h := (Res.cellA inferInstance (by exact rfl) atz_ (tk_num 244 _) (Res.tmp (by exact rfl) Res.nil))) (hR := ?_)
      rw [hE, hW]
      exact fun w hS => ⟨rfl, hS.sub slz_⟩
    · skip
      have hE : askE d item day = 0 := by rw [askE, hd, h2]; rfl
      have hG := ask_ok hE
      have hW := askW_ok hE
      refine skp (h := ?_)
      refine q_seq (h := ?_)
      refine sq (h := ?_)
      refine rg (h := ?_)
      refine wy (by first | exact ldA | exact ldEA) ?_
      refine wy mv ?_
      refine cl0 (hc := fun w hS => C_balls_run d a item hG.1 hG.2.1 w (h.old hS)) (h := ?_)
      refine stW (cs := numE 244 fun _ => 0) (h1 := numE_one) (hsz := numE_len _ _) (ho := by rw [numE_len, numE_len]) (h := ?_)
      refine wy asg ?_
      refine nl (h := ?_)
      refine q_seq (h := ?_)
      refine rtn (h := ?_)
      refine q_ret (h := (Res.cellA inferInstance (by exact rfl) atz_ (tk_num 244 _) (Res.tmp (by exact rfl) Res.nil))) (hR := ?_)
      rw [hE, hW]
      exact fun w hS => ⟨rfl, hS.sub slz_⟩
def leftR (d : Dp) (item day : Int) : List Value := bif decide (askE d item day = 0) then [pv (lefD d item (day.toNat + 1)), .int .i64 0] else [pv (0, 0), .int .i64 (askE d item day)]
set_option maxRecDepth 100000 in
theorem C_balls_Left (d : Dp) (a : DA) (item day : Int) (w : World) (h : DpR w d a) : C0 Tryz.prog 12 [d.val a, .int .i64 item, .int .i64 day] w (.tuple (leftR d item day).toArray) := by
  refine ⟨en Tryz.func12 Tryz.ntmps12 ((St.init w).share (e := .ro a.sA 1 d.st.length (encI d.st)) h.s rfl rfl rfl) (h := fun F => ?_)⟩
  refine sq (h := ?_)
  refine rg (h := ?_)
  refine bxA (h := fun b0 => ?_)
  refine al (h := fun b1 => ?_)
  refine wy asg ?_
  refine nl (h := ?_)
  refine q_seq (h := ?_)
  refine sq (h := ?_)
  refine rg (h := ?_)
  refine wy (by first | exact ldA | exact ldEA) ?_
  refine wy mv ?_
  refine wy mv ?_
  refine cl0 (hc := fun w hS => C_balls_ask d a item day w (h.old hS)) (h := ?_)
  refine wy mv ?_
  refine wy ex ?_
  refine wy ex ?_
  refine al (h := fun b1 => ?_)
  refine WL.blkTo (numE 244 fun _ => 0) .here (by rfl) ?_
  refine stW (h1 := askW_one _ _ _) (hsz := askW_len _ _ _) (ho := by rw [askW_len, numE_len]) (h := ?_)
  refine wy asg ?_
  refine nl (h := ?_)
  refine q_seq (h := ?_)
  refine sq (h := ?_)
  refine sq (h := ?_)
  refine rg (h := ?_)
  refine wy mv ?_
  refine wy neq ?_
  refine nl (h := ?_)
  refine q_seq (h := ?_)
  refine cd (by exact rfl) (fun h0 => ?_) (fun h0 => ?_)
  · skip
    have hE : leftR d item day = [pv (0, 0), .int .i64 (askE d item day)] := by rw [leftR, show decide (askE d item day = 0) = false by simpa using h0]; rfl
    refine sq (h := ?_)
    refine rg (h := ?_)
    refine wy bd ?_
    refine wy mv ?_
    first | refine stA (h := ?_) | refine stEA (h := ?_)
    refine wy asg ?_
    refine nl (h := ?_)
    refine q_seq (h := ?_)
    refine rtn (h := ?_)
    refine q_then_ret (h := ?_)
    refine q_ret (hR := ?_)
    rw [hE]
    exact fun w hS => ⟨rfl, hS.sub slz_⟩
  · skip
    have hE0 : askE d item day = 0 := by simpa using h0
    have hE : leftR d item day = [pv (lefD d item (day.toNat + 1)), .int .i64 0] := by rw [leftR, decide_eq_true hE0]; rfl
    obtain ⟨hG, hi, hd⟩ := ask_ok hE0
    rw [askW_ok hE0]
    refine skp (h := ?_)
    refine q_seq (h := ?_)
    refine sq (h := ?_)
    refine rg (h := ?_)
    refine wy mv ?_
    refine wy (by first | exact fa | exact faE) ?_
    refine wy (ixA (hb := by omega)) ?_
    refine WL.y (hy := ldP (vs := [.int .i64 (lefD d item (day.toNat + 1)).1, .int .i64 (lefD d item (day.toNat + 1)).2]) (hc := fun j v hj => by
      rcases j with _ | _ | j
      · cases hj; exact wk_left1 _ _ (k := day.toNat) (by omega) (by omega)
      · cases hj; exact wk_left2 _ _ (k := day.toNat) (by omega) (by omega)
      · simp at hj)) (h := ?_)
    first | refine stA (h := ?_) | refine stEA (h := ?_)
    refine wy asg ?_
    refine nl (h := ?_)
    refine q_seq (h := ?_)
    refine rtn (h := ?_)
    refine q_ret (hR := ?_)
    rw [hE]
    exact fun w hS => ⟨rfl, hS.sub slz_⟩
end Go.Proofs.YtpmmgljndceplaaGreat

namespace Go.Proofs.YtpmmgljndceplaaGreat
open Go Go.RowKit

theorem accN_succ {d : Dp} {item : Int} {dd k : Nat} {x : Fx} (h : d.fx[k]? = some x) : accN d item (k + 1) dd = bif decide (x.day = (dd : Int)) then ((accN d item k dd).1 + (ndV d.each d.tow d.fra x item).1, (accN d item k dd).2 + (ndV d.each d.tow d.fra x item).2) else accN d item k dd := by rw [accN, h]
end Go.Proofs.YtpmmgljndceplaaGreat

namespace Go.Proofs.YtpmmgljndceplaaGreat
open Go Go.RowKit

structure CE where
  (won g : Pr) (n t : Int) (v : Cs)
def fndC (l : List CE) (won g : Pr) (n t : Int) : Option CE := l.find? fun e => decide (e.won = won) && decide (e.g = g) && decide (e.n = n) && decide (e.t = t)
def lkC2 (l : List CE) : Pr → Pr → Int → Int → Cs := fun won g n t => match fndC l won g n t with
  | some e => e.v
  | none => zC
def sideOk (f : Fmt) (l : List CE) (e : CE) (side : Int) : Bool := overS f e.won e.g side || (fndC l (wonS f e.won e.g side) (gamS f e.won e.g side) (e.n + 1) (tieN f e.won e.g)).isSome
def okC (f : Fmt) (l : List CE) : Bool := l.all fun e => decide (e.v = orV (courV (lkC2 l) f e.won e.g e.n e.t 0) (courV (lkC2 l) f e.won e.g e.n e.t 1)) && sideOk f l e 0 && sideOk f l e 1
theorem fnd_is {l : List CE} {won g : Pr} {n t : Int} {e : CE} (h : fndC l won g n t = some e) : e ∈ l ∧ e.won = won ∧ e.g = g ∧ e.n = n ∧ e.t = t := by
  have h1 := List.mem_of_find?_eq_some h
  have h2 := List.find?_some h
  simp only [Bool.and_eq_true, decide_eq_true_eq] at h2
  exact ⟨h1, h2.1.1.1, h2.1.1.2, h2.1.2, h2.2⟩
theorem cert_ok {f : Fmt} (hf : f.Ok) (hb : Bdd f) {l : List CE} (h : okC f l = true) : ∀ (k : Nat) (won g : Pr) (n t : Int), Vs f won g → remV f won g ≤ k → (fndC l won g n t).isSome = true → fromP f won g n t = lkC2 l won g n t
  | 0, won, g, n, t, hV, hr, _ => by have := rem_pos hf hb hV; omega
  | k + 1, won, g, n, t, hV, hr, hs => by
    obtain ⟨e, he⟩ := Option.isSome_iff_exists.1 hs
    obtain ⟨hm, rfl, rfl, rfl, rfl⟩ := fnd_is he
    have hok := List.all_eq_true.1 h e hm
    simp only [Bool.and_eq_true, decide_eq_true_eq] at hok
    obtain ⟨⟨hv, h0⟩, h1⟩ := hok
    have hl : lkC2 l e.won e.g e.n e.t = e.v := by unfold lkC2; rw [he]
    have hc : ∀ side : Int, side = 0 ∨ side = 1 → sideOk f l e side = true → courV (fromP f) f e.won e.g e.n e.t side = courV (lkC2 l) f e.won e.g e.n e.t side := fun side hsd hso => by
      unfold courV
      cases ho : overS f e.won e.g side
      · obtain ⟨hV', hr'⟩ := step_ok' hf hb hsd hV ho
        rw [sideOk, ho, Bool.false_or] at hso
        rw [cert_ok hf hb h k _ _ _ _ hV' (by omega) hso]
      · rfl
    rw [from_eq hf hb hV, hl, hv, hc 0 (.inl rfl) h0, hc 1 (.inr rfl) h1]
def exC : List CE := [⟨(0, 0), (0, 0), 0, 0, ((1, 3), (1, 2))⟩, ⟨(0, 0), (0, 1), 1, 0, ((1, 3), (1, 2))⟩, ⟨(0, 0), (1, 0), 1, 0, ((1, 3), (1, 2))⟩, ⟨(0, 0), (1, 1), 2, 0, ((1, 2), (1, 2))⟩, ⟨(0, 0), (1, 2), 3, 0, ((1, 2), (1, 2))⟩, ⟨(0, 0), (2, 1), 3, 0, ((1, 2), (1, 2))⟩, ⟨(0, 0), (2, 2), 4, 0, ((1, 2), (1, 2))⟩, ⟨(0, 1), (0, 0), 2, 0, ((0, 1), (0, 1))⟩, ⟨(0, 1), (0, 0), 4, 0, ((0, 1), (0, 1))⟩, ⟨(0, 1), (0, 0), 5, 1, ((1, 2), (0, 1))⟩, ⟨(0, 1), (0, 1), 3, 0, ((0, 1), (0, 1))⟩, ⟨(0, 1), (0, 1), 5, 0, ((0, 1), (0, 1))⟩, ⟨(0, 1), (0, 1), 6, 0, ((0, 1), (0, 1))⟩, ⟨(0, 1), (1, 0), 3, 0, ((0, 1), (0, 1))⟩, ⟨(0, 1), (1, 0), 5, 0, ((0, 1), (0, 1))⟩, ⟨(0, 1), (1, 0), 6, 0, ((0, 1), (0, 1))⟩, ⟨(0, 1), (1, 1), 4, 0, ((0, 0), (0, 1))⟩, ⟨(0, 1), (1, 1), 6, 0, ((0, 0), (0, 1))⟩, ⟨(0, 1), (1, 1), 7, 0, ((1, 1), (0, 1))⟩, ⟨(0, 1), (1, 2), 5, 0, ((0, 0), (0, 1))⟩, ⟨(0, 1), (1, 2), 7, 0, ((0, 0), (0, 1))⟩, ⟨(0, 1), (1, 2), 8, 0, ((0, 0), (0, 1))⟩, ⟨(0, 1), (2, 1), 5, 0, ((0, 0), (0, 1))⟩, ⟨(0, 1), (2, 1), 7, 0, ((0, 0), (0, 1))⟩, ⟨(0, 1), (2, 1), 8, 0, ((0, 0), (0, 1))⟩, ⟨(0, 1), (2, 2), 6, 0, ((0, 0), (0, 1))⟩, ⟨(0, 1), (2, 2), 8, 0, ((0, 0), (0, 1))⟩, ⟨(0, 1), (2, 2), 9, 0, ((0, 0), (0, 1))⟩, ⟨(1, 0), (0, 0), 2, 0, ((0, 1), (0, 1))⟩, ⟨(1, 0), (0, 0), 4, 0, ((0, 1), (0, 1))⟩, ⟨(1, 0), (0, 0), 5, 1, ((1, 2), (0, 1))⟩, ⟨(1, 0), (0, 1), 3, 0, ((0, 1), (0, 1))⟩, ⟨(1, 0), (0, 1), 5, 0, ((0, 1), (0, 1))⟩, ⟨(1, 0), (0, 1), 6, 0, ((0, 1), (0, 1))⟩, ⟨(1, 0), (1, 0), 3, 0, ((0, 1), (0, 1))⟩, ⟨(1, 0), (1, 0), 5, 0, ((0, 1), (0, 1))⟩, ⟨(1, 0), (1, 0), 6, 0, ((0, 1), (0, 1))⟩, ⟨(1, 0), (1, 1), 4, 0, ((0, 0), (0, 1))⟩, ⟨(1, 0), (1, 1), 6, 0, ((0, 0), (0, 1))⟩, ⟨(1, 0), (1, 1), 7, 0, ((1, 1), (0, 1))⟩, ⟨(1, 0), (1, 2), 5, 0, ((0, 0), (0, 1))⟩, ⟨(1, 0), (1, 2), 7, 0, ((0, 0), (0, 1))⟩, ⟨(1, 0), (1, 2), 8, 0, ((0, 0), (0, 1))⟩, ⟨(1, 0), (2, 1), 5, 0, ((0, 0), (0, 1))⟩, ⟨(1, 0), (2, 1), 7, 0, ((0, 0), (0, 1))⟩, ⟨(1, 0), (2, 1), 8, 0, ((0, 0), (0, 1))⟩, ⟨(1, 0), (2, 2), 6, 0, ((0, 0), (0, 1))⟩, ⟨(1, 0), (2, 2), 8, 0, ((0, 0), (0, 1))⟩, ⟨(1, 0), (2, 2), 9, 0, ((0, 0), (0, 1))⟩, ⟨(1, 1), (0, 0), 4, 0, ((0, 0), (0, 0))⟩, ⟨(1, 1), (0, 0), 6, 0, ((0, 0), (0, 0))⟩, ⟨(1, 1), (0, 0), 7, 0, ((0, 0), (0, 0))⟩, ⟨(1, 1), (0, 0), 7, 1, ((0, 0), (0, 0))⟩, ⟨(1, 1), (0, 0), 8, 0, ((0, 0), (0, 0))⟩, ⟨(1, 1), (0, 0), 9, 0, ((0, 0), (0, 0))⟩, ⟨(1, 1), (0, 0), 9, 1, ((0, 0), (0, 0))⟩, ⟨(1, 1), (0, 0), 10, 1, ((0, 0), (0, 0))⟩]
theorem exC_ok : okC exF exC = true := by kernel_rfl
theorem exF_ok : exF.Ok := fmt_ok (by decide)
theorem exF_bdd : Bdd exF := by unfold Bdd exF; decide
theorem ex_rest1 : restC exF ⟨[], (0, 0), (0, 0)⟩ = ((1, 3), (2, 3)) := by
  have hV : Vs exF (0, 0) (0, 0) := ⟨by decide, by decide⟩
  have h1 := cert_ok exF_ok exF_bdd exC_ok 15 (0, 0) (0, 0) 0 0 hV (by decide) (by kernel_rfl)
  have h2 : lkC2 exC (0, 0) (0, 0) 0 0 = ((1, 3), (1, 2)) := by kernel_rfl
  show bumpC (fromP exF (0, 0) (0, 0) 0 0) false true = _
  rw [h1, h2]; rfl
theorem ex_rest2 : restC exF ⟨[(3, 1)], (0, 1), (0, 0)⟩ = ((0, 1), (0, 1)) := by
  have hV : Vs exF (1, 0) (0, 1) := ⟨by decide, by decide⟩
  have h1 := cert_ok exF_ok exF_bdd exC_ok 15 (1, 0) (0, 1) 5 0 hV (by decide) (by kernel_rfl)
  have h2 : lkC2 exC (1, 0) (0, 1) 5 0 = ((0, 1), (0, 1)) := by kernel_rfl
  show bumpC (fromP exF (1, 0) (0, 1) 5 0) false false = _
  rw [h1, h2]; rfl
theorem ex_arises2 : arisesV exF ⟨[(3, 1)], (0, 1), (0, 0)⟩ = ((1, 0), true) := by
  have h0 : setsTo (tableV exF) exF [((3 : Int), (1 : Int))] 0 = ⟨(0, 0), 1, true⟩ := rfl
  have h1 : setsTo (tableV exF) exF [((3 : Int), (1 : Int))] (0 + 1) = setStep (tableV exF) exF (setsTo (tableV exF) exF [((3 : Int), (1 : Int))] 0) (3, 1) := setsTo_succ rfl (by rw [h0])
  have h2 : setV exF (0, 0) = (2, 3) := by decide
  have h3 : setsTo (tableV exF) exF (Brd.mk [(3, 1)] (0, 1) (0, 0)).st (Brd.mk [(3, 1)] (0, 1) (0, 0)).st.length = ⟨(1, 0), 2, true⟩ := by
    show setsTo (tableV exF) exF [((3 : Int), (1 : Int))] (0 + 1) = _
    rw [h1, h0, setStep]
    dsimp only
    rw [h2, ex_table]
    kernel_rfl
  have h4 : setV exF (1, 0) = (2, 3) := by decide
  rw [arisesV, arisesT, h3]
  dsimp only
  rw [h4, ex_table]
  exact (by kernel_rfl : ((bif !true then (((1 : Int), (0 : Int)), false) else bif overV exF (1, 0) then ((1, 0), isZ (0, 1) && isZ (0, 0)) else bif !(tget exT (0, 1)).isSome || (tat exT (0, 1)).2 then ((1, 0), false) else bif isZ (0, 0) then ((1, 0), true) else ((1, 0), (befV exF (2, 3) (brksV (2, 3) (0, 1)) (0 - 1, 0) || befV exF (2, 3) (brksV (2, 3) (0, 1)) (0, 0 - 1)) && befV exF (2, 3) (brksV (2, 3) (0, 1)) (0, 0))) = (((1 : Int), (0 : Int)), true)))
theorem ex_check1 : checkE exF ⟨[], (0, 0), (0, 0)⟩ = 0 := by
  unfold checkE
  rw [ex_arises]
  kernel_rfl
theorem ex_check2 : checkE exF ⟨[(3, 1)], (0, 1), (0, 0)⟩ = 0 := by
  unfold checkE
  rw [ex_arises2]
  kernel_rfl
def exD (A : Option Addr) (c : Nat) : Dp := ⟨2, 3, 1, [10, 30, 9], [⟨1, exF, ⟨[], (0, 0), (0, 0)⟩, none, 0⟩, ⟨1, exF, ⟨[(3, 1)], (0, 1), (0, 0)⟩, A, c⟩, ⟨2, exF, ⟨[], (0, 0), (0, 0)⟩, none, 0⟩], [⟨2, 0, 3⟩]⟩
section
variable {A : Option Addr} {c : Nat}
theorem ex_dep : depE (exD A c) = 0 := by
  have h1 : fxOk ⟨1, exF, ⟨[], (0, 0), (0, 0)⟩, none, 0⟩ = true := by unfold fxOk; dsimp only; rw [ex_check1]; rfl
  have h2 : fxOk ⟨1, exF, ⟨[(3, 1)], (0, 1), (0, 0)⟩, A, c⟩ = true := by unfold fxOk; dsimp only; rw [ex_check2]; rfl
  have h3 : fxOk ⟨2, exF, ⟨[], (0, 0), (0, 0)⟩, none, 0⟩ = true := by unfold fxOk; dsimp only; rw [ex_check1]; rfl
  exact dep_yes (by rfl) (by rfl) (by rfl) (by unfold fxB exD; simp only [List.all_cons, List.all_nil, h1, h2, h3, Bool.and_self]) (by rfl)
theorem ex_nd1 (d : Int) (B : Option Addr) (k : Nat) : ndV 2 3 1 ⟨d, exF, ⟨[], (0, 0), (0, 0)⟩, B, k⟩ 0 = (4, 8) := by
  unfold ndV; dsimp only; rw [ex_rest1]; rfl
theorem ex_nd2 (d : Int) (B : Option Addr) (k : Nat) : ndV 2 3 1 ⟨d, exF, ⟨[(3, 1)], (0, 1), (0, 0)⟩, B, k⟩ 0 = (0, 2) := by
  unfold ndV; dsimp only; rw [ex_rest2]; rfl
theorem ex_need (dd : Nat) : needD (exD A c) 0 dd = if dd = 1 then (4, 10) else if dd = 2 then (4, 8) else (0, 0) := by
  show accN (exD A c) 0 3 dd = _
  rw [accN_succ (k := 2) rfl, accN_succ (k := 1) rfl, accN_succ (k := 0) rfl]
  simp only [exD, ex_nd1, ex_nd2, accN]
  by_cases h1 : dd = 1
  · subst h1; rfl
  · by_cases h2 : dd = 2
    · subst h2; rfl
    · rw [if_neg h1, if_neg h2, decide_eq_false (show ¬ (1 : Int) = (dd : Int) by omega), decide_eq_false (show ¬ (2 : Int) = (dd : Int) by omega)]; rfl
theorem ex_cr (dd : Nat) : crT (exD A c) 0 dd 1 = if dd = 2 then 3 else 0 := by
  rw [crT_succ (k := 0) rfl]
  by_cases h2 : dd = 2
  · subst h2; rfl
  · rw [if_neg h2]
    dsimp only
    rw [decide_eq_false (show ¬ (2 : Int) = (dd : Int) by omega)]; rfl
theorem ex_lef_succ (k : Nat) : lefD (exD A c) 0 (k + 1) = ((lefD (exD A c) 0 k).1 + (if k = 2 then 3 else 0) - (if k = 1 then ((4 : Int), (10 : Int)) else if k = 2 then (4, 8) else (0, 0)).2, (lefD (exD A c) 0 k).2 + (if k = 2 then 3 else 0) - (if k = 1 then ((4 : Int), (10 : Int)) else if k = 2 then (4, 8) else (0, 0)).1) := by
  rw [lefD, ex_need, show (exD A c).cr.length = 1 from rfl, ex_cr]
theorem ex_lef : ∀ k : Nat, lefD (exD A c) 0 (k + 3) = (-5, 5)
  | 0 => by
    rw [ex_lef_succ, ex_lef_succ, ex_lef_succ]; rfl
  | k + 1 => by
    rw [show k + 1 + 3 = (k + 3) + 1 by omega, ex_lef_succ, ex_lef k, if_neg (by omega), if_neg (by omega), if_neg (by omega)]; rfl
theorem ex_askE : askE (exD A c) 0 2 = 0 := by
  unfold askE; rw [ex_dep]; rfl
theorem ex_left : leftR (exD A c) 0 2 = [pv (-5, 5), .int .i64 0] := by
  rw [leftR, decide_eq_true ex_askE, cond_true, show ((2 : Int).toNat + 1) = 0 + 3 from rfl, ex_lef]
end
end Go.Proofs.YtpmmgljndceplaaGreat

namespace Go.Proofs.YtpmmgljndceplaaGreat
open Go Go.RowKit

section
variable {d : Dp}
end
def Fx.row (x : Fx) : Row := ⟨x.A, 2, x.b.st.length, encP x.b.st⟩
end Go.Proofs.YtpmmgljndceplaaGreat

namespace Go.Proofs.YtpmmgljndceplaaGreat
open Go Go.RowKit

def Fx.at_ (x : Fx) (A : Option Addr) (c : Nat) : Fx := { x with A := A, c := c }
def Dp.plus (d : Dp) (item day more : Int) : Dp := { d with cr := d.cr ++ [⟨day, item, more⟩] }
end Go.Proofs.YtpmmgljndceplaaGreat

namespace Go.Proofs.YtpmmgljndceplaaGreat
open Go Go.RowKit

structure EX where
  (a : DA) (A : Option Addr)
set_option maxRecDepth 100000 in
set_option maxHeartbeats 2000000 in
theorem C_law9_Example (w : World) : CR Tryz.prog 22 [] w (fun x : EX => x.a.sc = 3 ∧ x.a.fc = 3 ∧ x.a.cc = 1) (fun x => (exD x.A 1).val x.a)
    (fun x => [.own x.a.sA 3 3 1 3 (encI [10, 30, 9]), .own x.a.fA 3 42 16 3 ((exD x.A 1).fx.map Fx.enc), .own x.a.cA 1 60 3 1 ((exD x.A 1).cr.map Cx.enc), .own x.A 1 38 2 1 (encP [(3, 1)])]) := by
  refine ⟨en Tryz.func22 Tryz.ntmps22 (St.init w) (h := fun F => ?_)⟩
  refine sq (h := ?_)
  refine rg (h := ?_)
  refine al (h := fun b0 => ?_)
  refine nl (h := ?_)
  refine q_seq (h := ?_)
  refine sq (h := ?_)
  refine rg (h := ?_)
  refine cl (hc := fun w hS => C_law1_Example w) (h := fun y hy => ?_)
  refine wy mv ?_
  refine wy ex ?_
  refine wy ex ?_
  refine al (h := fun b1 => ?_)
  first | refine stA (h := ?_) | refine stEA (h := ?_)
  refine wy asg ?_
  refine nl (h := ?_)
  refine q_seq (h := ?_)
  refine sq (h := ?_)
  refine rg (h := ?_)
  refine wy bd ?_
  refine bs (h := fun b2 => ?_)
  refine wy (by first | exact ldA | exact ldEA) ?_
  refine wy bd ?_
  refine wy (by first | exact ldA | exact ldEA) ?_
  refine wy bd ?_
  refine bs (h := fun b3 => ?_)
  refine wy bd ?_
  refine wy bd ?_
  refine wy bd ?_
  refine wy (by first | exact ldA | exact ldEA) ?_
  refine wy bd ?_
  refine bs (h := fun b4 => ?_)
  refine wy bd ?_
  refine bs (h := fun b5 => ?_)
  refine wy bd ?_
  first | refine stA (h := ?_) | refine stEA (h := ?_)
  refine nl (h := ?_)
  refine q_seq (h := ?_)
  refine rtn (h := ?_)
  refine q_ret (hR := ?_)
  exact fun w hS => ⟨⟨⟨_, _, _, 3, 3, 1⟩, _⟩, ⟨rfl, rfl, rfl⟩, rfl, hS.sub slz_⟩
theorem ex_dpr {w0 w : World} {L : List Ent} (hS : St w0 w L) {x : EX} (hx : x.a.sc = 3 ∧ x.a.fc = 3 ∧ x.a.cc = 1) (h1 : Rds L x.a.sA 1 3 (encI [10, 30, 9])) (h2 : Rds L x.a.fA 16 3 ((exD x.A 1).fx.map Fx.enc)) (h3 : Rds L x.a.cA 3 1 ((exD x.A 1).cr.map Cx.enc)) (h4 : Rds L x.A 2 1 (encP [(3, 1)])) : DpR w (exD x.A 1) x.a :=
  ⟨hS.get h1, hS.get h2, hS.get h3, fun y hy => by
    simp only [exD, List.mem_cons, List.not_mem_nil, or_false] at hy
    rcases hy with rfl | rfl | rfl
    · exact ⟨Rd.nil w none 2, Nat.le_refl _, Nat.zero_le _⟩
    · exact ⟨hS.get h4, Nat.le_refl _, by dsimp only; omega⟩
    · exact ⟨Rd.nil w none 2, Nat.le_refl _, Nat.zero_le _⟩, by show 3 ≤ _; omega, by show 3 ≤ _; omega, by show 1 ≤ _; omega⟩
end Go.Proofs.YtpmmgljndceplaaGreat

namespace Go.Proofs.YtpmmgljndceplaaGreat
open Go Go.RowKit

section
variable {F : Fence} {P : Program} {ops : Array Oper} {Q : Exit → Act → World → Prop} {rest : List Oper} {n : Nat} {D : List Deferred} {l : Env} {w0 : World} {L M : List Ent}
theorem St.getRowF {w : World} {fr : Bool} {rs : List Row} {r : Row} (h : St w0 w (manyE fr rs :: M)) (hr : r ∈ rs) : St w0 w (.ro r.A r.size r.n r.es :: manyE fr rs :: M) := by
  have hp := List.pairwise_cons.1 h.sep
  refine ⟨h.below, fun x hx => ?_, fun x hx hf k hk => ?_, List.pairwise_cons.2 ⟨fun x hx ho k hk hk' => ?_, h.sep⟩⟩
  · rcases List.mem_cons.1 hx with rfl | hx
    · exact h.ok (manyE fr rs) (by simp) r hr
    · exact h.ok x hx
  · rcases List.mem_cons.1 hx with rfl | hx
    · cases hf
    · exact h.new x hx hf k hk
  · rcases List.mem_cons.1 hx with rfl | hx
    · rcases ho with h1 | h1 <;> cases h1
    · exact hp.1 x hx (ho.imp (fun h => (by cases h)) id) k ⟨r, hr, hk⟩ hk'
theorem WC.getRowF {c : Code} {fr : Bool} {rs : List Row} {r : Row} (hr : r ∈ rs) (ha : At L (manyE fr rs) M) (h : WC F P c Q n D l w0 (.ro r.A r.size r.n r.es :: manyE fr rs :: M)) : WC F P c Q n D l w0 L := fun hF a w hfr hst => h hF a w hfr ((hst.pull ha).getRowF hr)
theorem WL.getRowF {fr : Bool} {rs : List Row} {r : Row} (hr : r ∈ rs) (ha : At L (manyE fr rs) M) (h : WL F P ops Q rest n D l w0 (.ro r.A r.size r.n r.es :: manyE fr rs :: M)) : WL F P ops Q rest n D l w0 L := fun hF a w hfr hst => h hF a w hfr ((hst.pull ha).getRowF hr)
end
end Go.Proofs.YtpmmgljndceplaaGreat

namespace Go.Proofs.YtpmmgljndceplaaGreat
open Go Go.RowKit

set_option maxRecDepth 100000 in
set_option maxHeartbeats 2000000 in
theorem C_top_stocked (w : World) : C0 Tryz.prog 7 [] w (.bool true) := by
  refine ⟨en Tryz.func7 Tryz.ntmps7 (St.init w) (h := fun F => ?_)⟩
  refine sq (h := ?_)
  refine rg (h := ?_)
  refine wy asg ?_
  refine nl (h := ?_)
  refine q_seq (h := ?_)
  refine sq (h := ?_)
  refine rg (h := ?_)
  refine cl (hc := fun w hS => C_law9_Example w) (h := fun x hx => ?_)
  refine al (h := fun b0 => ?_)
  first | refine stA (h := ?_) | refine stEA (h := ?_)
  refine nl (h := ?_)
  refine q_seq (h := ?_)
  refine sq (h := ?_)
  refine rg (h := ?_)
  refine wy (by first | exact ldA | exact ldEA) ?_
  refine cl0 (hc := fun w hS => C_balls_Left (exD x.A 1) x.a 0 2 w (ex_dpr hS hx (by repeat (first | exact Rds.own | apply Rds.there)) (by repeat (first | exact Rds.own | apply Rds.there)) (by repeat (first | exact Rds.own | apply Rds.there)) (by repeat (first | exact Rds.own | apply Rds.there)))) (h := ?_)
  rw [ex_left]
  refine wy mv ?_
  refine wy ex ?_
  refine wy ex ?_
  refine al (h := fun b1 => ?_)
  first | refine stA (h := ?_) | refine stEA (h := ?_)
  refine wy asg ?_
  refine nl (h := ?_)
  refine q_seq (h := ?_)
  refine sq (h := ?_)
  refine rg (h := ?_)
  refine cl (hc := fun w hS => C_law3_Example w) (h := fun y0 _ => ?_)
  refine cl (hc := fun w hS => C_card_BoardsT exF 0 exX (some ⟨y0, 0, none⟩) 5 5 w (hS.get rdz_) (by omega) (fun _ => by rw [ex_most]; decide) (by rw [ex_len]; decide)) (h := fun qa hqa => ?_)
  rw [ex_pos]
  have hl1 : qa.zs.length = 1 := by
    have h9 := hqa.yes ex_pos
    rw [ex_boards] at h9
    have := congrArg List.length h9
    rwa [List.length_map] at this
  rw [hl1]
  refine wy mv ?_
  refine wy ex ?_
  refine wy ex ?_
  refine wy asg ?_
  refine wy asg ?_
  refine nl (h := ?_)
  refine q_seq (h := ?_)
  refine sq (h := ?_)
  refine rg (h := ?_)
  refine cl (hc := fun w hS => C_law1_Example w) (h := fun x0 _ => ?_)
  refine wy mv ?_
  refine wy ex ?_
  refine wy ex ?_
  refine al (h := fun b2 => ?_)
  first | refine stA (h := ?_) | refine stEA (h := ?_)
  refine wy asg ?_
  refine nl (h := ?_)
  refine q_seq (h := ?_)
  refine sq (h := ?_)
  refine rg (h := ?_)
  refine wy (by first | exact ldA | exact ldEA) ?_
  refine wy mv ?_
  refine cl (hc := fun w hS => C_score_Play exF 0 exP x0.1 20 x0.2 w (hS.get rdz_) (by omega)) (h := fun x1 _ => ?_)
  rw [ex_play, ex_playE]
  dsimp only [Sc.val]
  refine wy mv ?_
  refine wy ex ?_
  refine wy ex ?_
  refine al (h := fun b3 => ?_)
  first | refine stA (h := ?_) | refine stEA (h := ?_)
  refine wy asg ?_
  refine nl (h := ?_)
  refine q_seq (h := ?_)
  refine sq (h := ?_)
  refine rg (h := ?_)
  refine wy mv ?_
  refine wy eql ?_
  refine wy mv ?_
  apply brAnd 3 33 36 (by exact rfl)
  · intro hb0
    refine un (h := ?_)
    refine wy mv ?_
    refine un (h := ?_)
    refine wy eql ?_
    refine wy (by first | exact pkT | exact pkF) ?_
    exact mg (by repeat (first | exact trivial | refine ⟨rfl, ?_⟩ | refine ⟨by rw [hb0]; rfl, ?_⟩)) slz_
  · intro hb0
    repeat (first | refine un (h := ?_) | refine sk (h := ?_) | refine WL.y (hy := pkF) (h := ?_) | refine WL.y (hy := pkT) (h := ?_))
    exact mg (by repeat (first | exact trivial | refine ⟨rfl, ?_⟩ | refine ⟨by rw [hb0]; rfl, ?_⟩)) slz_
  refine wy mv ?_
  apply brAnd 3 37 40 (by exact rfl)
  · intro hb1
    refine un (h := ?_)
    refine wy mv ?_
    refine un (h := ?_)
    refine wy eql ?_
    refine wy (by first | exact pkT | exact pkF) ?_
    exact mg (by repeat (first | exact trivial | refine ⟨rfl, ?_⟩ | refine ⟨by rw [hb1]; rfl, ?_⟩)) slz_
  · intro hb1
    repeat (first | refine un (h := ?_) | refine sk (h := ?_) | refine WL.y (hy := pkF) (h := ?_) | refine WL.y (hy := pkT) (h := ?_))
    exact mg (by repeat (first | exact trivial | refine ⟨rfl, ?_⟩ | refine ⟨by rw [hb1]; rfl, ?_⟩)) slz_
  refine wy mv ?_
  apply brAnd 4 41 45 (by exact rfl)
  · intro hb2
    refine un (h := ?_)
    refine wy (by first | exact ldA | exact ldEA) ?_
    refine un (h := ?_)
    refine wy bd ?_
    refine un (h := ?_)
    refine wy eqlT ?_
    refine wy (by first | exact pkT | exact pkF) ?_
    exact mg (by repeat (first | exact trivial | refine ⟨rfl, ?_⟩ | refine ⟨by rw [hb2]; rfl, ?_⟩)) slz_
  · intro hb2
    repeat (first | refine un (h := ?_) | refine sk (h := ?_) | refine WL.y (hy := pkF) (h := ?_) | refine WL.y (hy := pkT) (h := ?_))
    exact mg (by repeat (first | exact trivial | refine ⟨rfl, ?_⟩ | refine ⟨by rw [hb2]; rfl, ?_⟩)) slz_
  refine wy mv ?_
  apply brAnd 4 46 50 (by exact rfl)
  · intro hb3
    refine un (h := ?_)
    refine wy mv ?_
    refine un (h := ?_)
    refine wy lenS ?_
    refine un (h := ?_)
    refine wy eql ?_
    refine wy (by first | exact pkT | exact pkF) ?_
    exact mg (by repeat (first | exact trivial | refine ⟨rfl, ?_⟩ | refine ⟨by rw [hb3]; rfl, ?_⟩)) slz_
  · intro hb3
    repeat (first | refine un (h := ?_) | refine sk (h := ?_) | refine WL.y (hy := pkF) (h := ?_) | refine WL.y (hy := pkT) (h := ?_))
    exact mg (by repeat (first | exact trivial | refine ⟨rfl, ?_⟩ | refine ⟨by rw [hb3]; rfl, ?_⟩)) slz_
  refine wy mv ?_
  apply brAnd 4 51 55 (by exact rfl)
  · intro hb4
    refine un (h := ?_)
    refine wy (by first | exact fa | exact faE) ?_
    refine un (h := ?_)
    refine wy (by first | exact ld | exact ldE) ?_
    refine un (h := ?_)
    refine wy eql ?_
    refine wy (by first | exact pkT | exact pkF) ?_
    exact mg (by repeat (first | exact trivial | refine ⟨rfl, ?_⟩ | refine ⟨by rw [hb4]; rfl, ?_⟩)) slz_
  · intro hb4
    repeat (first | refine un (h := ?_) | refine sk (h := ?_) | refine WL.y (hy := pkF) (h := ?_) | refine WL.y (hy := pkT) (h := ?_))
    exact mg (by repeat (first | exact trivial | refine ⟨rfl, ?_⟩ | refine ⟨by rw [hb4]; rfl, ?_⟩)) slz_
  refine wy asg ?_
  refine nl (h := ?_)
  refine q_seq (h := ?_)
  refine rtn (h := ?_)
  refine q_ret (hR := ?_)
  exact fun w hS => ⟨rfl, hS.sub slz_⟩
end Go.Proofs.YtpmmgljndceplaaGreat

namespace Go.Proofs.YtpmmgljndceplaaGreat
open Go Go.RowKit

theorem chk_ofB {f : Fmt} {b : Brd} (hc : chkF f = 0) (h1 : brdOk b = true) (h2 : (arisesV f b).2 = true) : checkE f b = bif decide ((rangeE f).high < 0) then 3 else 0 := by
  unfold checkE
  rw [hc, h1, h2]; rfl
theorem none_arises {f : Fmt} (hf : f.Ok) : brdOk noBrd = true ∧ (arisesV f noBrd).2 = true := by
  have h := arises_pts (b := noBrd) (tbOk_table f) hf (by decide) (by decide) rfl rfl (decide_eq_false (show ¬ (0 : Int) = f.sets by have := hf.s0; omega))
  refine ⟨rfl, ?_⟩
  unfold arisesV
  rw [h]
  have ho := (exp_open (tie_ok hf (0, 0)) 0 0).2 (open0 (tie_ok hf _))
  show (decide (expT f (setV f (0, 0)) 0 0 = some false) && arePts f _ _ (0, 0)) = true
  rw [decide_eq_true ho, Bool.true_and]
  unfold arePts
  cases (!tiedV f [] (0, 0) && f.noAd) <;> simp
theorem doubt_brd {f : Fmt} {cf : Int} {xs : List Nt} {qa : BDR} (hR : Rdy f cf xs) (hhi : ¬ (rangeE f).high < 0) (hq : BtOk f cf xs qa) (h0 : posE f cf xs = 0) {x : BA} (hx : x ∈ qa.zs) : arisesR f x.b = [.bool true, .int .i64 0] ∧ restR f x.b = [pv (restC f x.b).1, pv (restC f x.b).2, .int .i64 0] ∧ restR f noBrd = [pv (restC f noBrd).1, pv (restC f noBrd).2, .int .i64 0] ∧ numV x.b ≤ (rangeE f).high ∧ (restC f x.b).1.2 ≤ (restC f noBrd).1.2 ∧ (restC f x.b).2.2 ≤ (restC f noBrd).2.2 ∧ brdOk x.b = true := by
  obtain ⟨hbd, hh⟩ := bdd_high hR.ok hhi
  have hm : x.b ∈ boardsC (keyC (crowdC f cf xs)) := by rw [← hq.yes h0]; exact List.mem_map.2 ⟨x, hx, rfl⟩
  have hmk : ∀ y ∈ xs, y.kind = 2 → 0 ≤ y.pair.2 := fun y hy h2 => by
    have := (mkV_iff y).1 (hR.mks y hy)
    omega
  have hms := hR.m
  obtain ⟨⟨h1, h2⟩, h3, h4, h5⟩ := crowd_doubt hR.ok hbd hmk (by omega) hm
  have hck : chkF f = 0 := (chk_facts hR.c).1
  have hz := none_arises hR.ok
  have e1 := chk_ofB hck h1 h2
  have e2 := chk_ofB hck hz.1 hz.2
  rw [decide_eq_false hhi, cond_false] at e1 e2
  refine ⟨?_, ?_, ?_, ?_, h4, h5, h1⟩
  · unfold arisesR; rw [hck, h1, h2]; rfl
  · unfold restR; rw [e1]; rfl
  · unfold restR; rw [e2]; rfl
  · rw [hh]
    have e3 : remV f (0, 0) (0, 0) = (2 * f.sets - 2) * (2 * f.tie + 1) + 2 * f.ltie + 1 := by
      unfold remV; dsimp only; simp
    omega
theorem rest_none_form {f : Fmt} (hf : f.Ok) (hc : chkF f = 0) : ∃ (r1 r2 : Pr) (e : Int), restR f noBrd = [pv r1, pv r2, .int .i64 e] ∧ ((rangeE f).high < 0 → e = 3) ∧ (¬ (rangeE f).high < 0 → e = 0 ∧ r1 = (restC f noBrd).1 ∧ r2 = (restC f noBrd).2) := by
  have hz := none_arises hf
  have e1 := chk_ofB hc hz.1 hz.2
  by_cases h : (rangeE f).high < 0
  · rw [decide_eq_true h, cond_true] at e1
    exact ⟨(0, 0), (0, 0), 3, by unfold restR; rw [e1]; rfl, fun _ => rfl, fun h' => absurd h h'⟩
  · rw [decide_eq_false h, cond_false] at e1
    exact ⟨_, _, 0, by unfold restR; rw [e1]; rfl, fun h' => absurd h' h, fun _ => ⟨rfl, rfl, rfl⟩⟩
set_option maxRecDepth 100000 in
theorem K_TopDoubt (f : Fmt) (cf : Int) (xs : List Nt) (A : Option Addr) (n c : Nat) (w : World) (h : Rd w A 4 n (encN xs)) (hn : n ≤ 9223372036854775807) : C0 Tryz.prog 4 [.agg (cardC f cf A n c).toArray] w (.bool true) := by
  have hlen : xs.length = n := by have := h.len; rwa [encN_len] at this
  refine ⟨en Tryz.func4 Tryz.ntmps4 ((St.init w).share (e := .ro A 4 n (encN xs)) h rfl rfl rfl) (h := fun F => ?_)⟩
  refine sq (h := ?_)
  refine rg (h := ?_)
  refine bxA (h := fun b0 => ?_)
  refine wy asg ?_
  refine nl (h := ?_)
  refine q_seq (h := ?_)
  refine sq (h := ?_)
  refine sq (h := ?_)
  refine rg (h := ?_)
  refine wy (by first | exact ldA | exact ldEA) ?_
  refine cl0 (hc := fun w hS => C_law3_Far f cf xs A n c w (hS.get rdz_) hn) (h := ?_)
  refine wy mv ?_
  apply brOr 4 21 25 (by exact rfl)
  · intro hb0
    refine un (h := ?_)
    refine wy (by first | exact ldA | exact ldEA) ?_
    refine un (h := ?_)
    refine cl0 (hc := fun w hS => C_ref3_Check f cf xs A n c w (hS.get rdz_) hn) (h := ?_)
    refine un (h := ?_)
    refine wy neq ?_
    refine wy (by first | exact pkT | exact pkF) ?_
    exact mg (by repeat (first | exact trivial | refine ⟨rfl, ?_⟩ | refine ⟨by rw [hb0]; rfl, ?_⟩)) slz_
  · intro hb0
    repeat (first | refine un (h := ?_) | refine sk (h := ?_) | refine WL.y (hy := pkF) (h := ?_) | refine WL.y (hy := pkT) (h := ?_))
    exact mg (by repeat (first | exact trivial | refine ⟨rfl, ?_⟩ | refine ⟨by rw [hb0]; rfl, ?_⟩)) slz_
  refine wy mv ?_
  apply brOr 5 26 31 (by exact rfl)
  · intro hb1
    refine un (h := ?_)
    refine wy (by first | exact fa | exact faE) ?_
    refine un (h := ?_)
    refine wy (by first | exact fa | exact faE) ?_
    refine un (h := ?_)
    refine wy (by first | exact ld | exact ldE) ?_
    refine un (h := ?_)
    refine wy gtr ?_
    refine wy (by first | exact pkT | exact pkF) ?_
    exact mg (by repeat (first | exact trivial | refine ⟨rfl, ?_⟩ | refine ⟨by rw [hb1]; rfl, ?_⟩)) slz_
  · intro hb1
    repeat (first | refine un (h := ?_) | refine sk (h := ?_) | refine WL.y (hy := pkF) (h := ?_) | refine WL.y (hy := pkT) (h := ?_))
    exact mg (by repeat (first | exact trivial | refine ⟨rfl, ?_⟩ | refine ⟨by rw [hb1]; rfl, ?_⟩)) slz_
  refine nl (h := ?_)
  refine q_seq (h := ?_)
  refine cd (by exact rfl) (fun h2 => ?_) (fun h2 => ?_)
  · skip
    refine sq (h := ?_)
    refine rg (h := ?_)
    refine cl0 (hc := fun w hS => C_top_stocked w) (h := ?_)
    refine wy asg ?_
    refine nl (h := ?_)
    refine q_seq (h := ?_)
    refine rtn (h := ?_)
    refine q_then_ret (h := ?_)
    refine q_ret (hR := ?_)
    exact fun w hS => ⟨rfl, hS.sub slz_⟩
  · skip
    have h0 := h2
    simp only [Bool.or_eq_false_iff] at h0
    have hR := rdy_facts (show rdyC f cf xs = true by unfold rdyC; rw [h0.1.1]; simpa using h0.1.2)
    have hn12 := hR.n
    have hcf := (chk_facts hR.c).1
    have hck : (!decide (chkF f = 0)) = false := by rw [hcf]; rfl
    have hrb := range_bd hR.ok
    have hpp : posE f cf xs = 0 ∨ posE f cf xs = 3 := by
      rw [hR.pos]
      by_cases e : badC f cf xs = -1
      · rw [if_pos e]; exact .inl rfl
      · rw [if_neg e]; exact .inr rfl
    refine skp (h := ?_)
    refine q_seq (h := ?_)
    refine sq (h := ?_)
    refine rg (h := ?_)
    refine wy (by first | exact fa | exact faE) ?_
    refine wy (by first | exact ldA | exact ldEA) ?_
    refine cl0 (hc := fun w hS => C_score_Range f w) (h := ?_)
    rw [rangeR_ok hck]
    refine wy mv ?_
    refine wy ex ?_
    refine wy ex ?_
    refine wy ex ?_
    refine al (h := fun b1 => ?_)
    first | refine stA (h := ?_) | refine stEA (h := ?_)
    refine wy asg ?_
    refine wy asg ?_
    refine nl (h := ?_)
    refine q_seq (h := ?_)
    refine sq (h := ?_)
    refine sq (h := ?_)
    refine rg (h := ?_)
    refine wy mv ?_
    refine wy ((Yd.fl (neq) (by rfl))) ?_
    refine nl (h := ?_)
    refine q_seq (h := ?_)
    refine cdF (h := ?_)
    refine skp (h := ?_)
    refine q_seq (h := ?_)
    refine sq (h := ?_)
    refine rg (h := ?_)
    refine wy (by first | exact ldA | exact ldEA) ?_
    refine cl (hc := fun w hS => C_card_BoardsT f cf xs A n c w (hS.get rdz_) hn (fun _ => by have := hR.m; omega) hR.b) (h := fun qa hqa => ?_)
    have hqal := hqa.len
    refine wy mv ?_
    refine wy ex ?_
    refine wy ex ?_
    refine wy asg ?_
    refine wy asg ?_
    refine nl (h := ?_)
    refine q_seq (h := ?_)
    refine sq (h := ?_)
    refine sq (h := ?_)
    refine rg (h := ?_)
    refine wy mv ?_
    refine wy neq ?_
    refine nl (h := ?_)
    refine q_seq (h := ?_)
    refine cd (by exact rfl) (fun h4 => ?_) (fun h4 => ?_)
    · skip
      have hp3 : posE f cf xs = 3 := by
        rcases hpp with e | e
        · have h0 := h4
          rw [e] at h0; cases h0
        · exact e
      refine sq (h := ?_)
      refine rg (h := ?_)
      refine wy mv ?_
      refine wy ((Yd.tr (eql) (by exact decide_eq_true hp3))) ?_
      refine wy mv ?_
      refine un (h := ?_)
      refine cl0 (hc := fun w hS => C_top_stocked w) (h := ?_)
      refine wy (by first | exact pkT | exact pkF) ?_
      refine wy asg ?_
      refine nl (h := ?_)
      refine q_seq (h := ?_)
      refine rtn (h := ?_)
      refine q_then_ret (h := ?_)
      refine q_ret (hR := ?_)
      exact fun w hS => ⟨rfl, hS.sub slz_⟩
    · skip
      have hp0 : posE f cf xs = 0 := by simpa using h4
      refine skp (h := ?_)
      refine q_seq (h := ?_)
      refine sq (h := ?_)
      refine rg (h := ?_)
      refine wy (by first | exact fa | exact faE) ?_
      refine wy (by first | exact ldA | exact ldEA) ?_
      refine wy bd ?_
      refine cl0 (hc := fun w hS => C_balls_Rest f noBrd none 0 0 w (Rd.nil w none 2) (by omega)) (h := ?_)
      obtain ⟨r1, r2, e0, hres, he3, he0⟩ := rest_none_form hR.ok hcf
      rw [hres]
      refine wy mv ?_
      refine wy ex ?_
      refine wy ex ?_
      refine wy ex ?_
      refine al (h := fun b2 => ?_)
      refine al (h := fun b3 => ?_)
      first | refine stA (h := ?_) | refine stEA (h := ?_)
      first | refine stA (h := ?_) | refine stEA (h := ?_)
      refine wy asg ?_
      refine nl (h := ?_)
      refine q_seq (h := ?_)
      refine sq (h := ?_)
      refine sq (h := ?_)
      refine rg (h := ?_)
      refine wy (by first | exact fa | exact faE) ?_
      refine wy (by first | exact ld | exact ldE) ?_
      refine wy lss ?_
      refine nl (h := ?_)
      refine q_seq (h := ?_)
      refine cd (by exact rfl) (fun h5 => ?_) (fun h5 => ?_)
      · skip
        have he3' := he3 (of_decide_eq_true h5)
        refine sq (h := ?_)
        refine rg (h := ?_)
        refine wy mv ?_
        refine wy ((Yd.tr (eql) (by exact decide_eq_true he3'))) ?_
        refine wy mv ?_
        refine un (h := ?_)
        refine cl0 (hc := fun w hS => C_top_stocked w) (h := ?_)
        refine wy (by first | exact pkT | exact pkF) ?_
        refine wy asg ?_
        refine nl (h := ?_)
        refine q_seq (h := ?_)
        refine rtn (h := ?_)
        refine q_then_ret (h := ?_)
        refine q_ret (hR := ?_)
        exact fun w hS => ⟨rfl, hS.sub slz_⟩
      · skip
        have hhi : ¬ (rangeE f).high < 0 := of_decide_eq_false h5
        have he0' := he0 hhi
        refine skp (h := ?_)
        refine q_seq (h := ?_)
        refine sq (h := ?_)
        refine sq (h := ?_)
        refine rg (h := ?_)
        refine wy mv ?_
        refine wy ((Yd.fl (neq) (by rw [he0'.1]; rfl))) ?_
        refine nl (h := ?_)
        refine q_seq (h := ?_)
        refine cdF (h := ?_)
        refine skp (h := ?_)
        refine q_seq (h := ?_)
        refine sq (h := ?_)
        refine sq (h := ?_)
        refine rg (h := ?_)
        refine wy asg ?_
        refine nl (h := ?_)
        refine q_seq (h := ?_)
        refine bk (h := ?_)
        refine lp (X := Nat) (I := fun i => i ≤ qa.zs.length) (le := fun i => [(1, .pointer (some ⟨b0, 0, none⟩)), (3, .pointer (some ⟨b1, 0, none⟩)), (6, .slice qa.A qa.zs.length qa.c), (8, .pointer (some ⟨b2, 0, none⟩)), (9, .pointer (some ⟨b3, 0, none⟩)), (11, .int .i64 i)]) (Le := fun _ => [.blk b1 56 [.int .i64 (rangeE f).low, .int .i64 (rangeE f).high], .blk b2 56 [.int .i64 r1.1, .int .i64 r1.2], .blk b3 56 [.int .i64 r2.1, .int .i64 r2.2], .own qa.A qa.c 40 5 qa.zs.length (encX qa.zs), manyE true (qa.zs.map rowX), .blk b0 64 (cardC f cf A n c), .ro A 4 n (encN xs)]) (μ := fun i => qa.zs.length - i) 0 (Nat.zero_le _) sbz_ slz_ (fun i hi => ?_)
        refine sq (h := ?_)
        refine sq (h := ?_)
        refine rg (h := ?_)
        refine wy mv ?_
        refine wy mv ?_
        refine wy lenS ?_
        refine wy lss ?_
        refine nl (h := ?_)
        refine q_seq (h := ?_)
        refine cd (by exact rfl) (fun h7 => ?_) (fun h7 => ?_)
        · skip
          have hin : i < qa.zs.length := by have := of_decide_eq_true h7; omega
          obtain ⟨x1, hx1⟩ : ∃ x, qa.zs[i]? = some x := ⟨_, List.getElem?_eq_getElem hin⟩
          obtain ⟨hA, hRs, -, hnu, hc1, hc2, hbo⟩ := doubt_brd hR hhi hqa hp0 (List.mem_of_getElem? hx1)
          have hbl := brd_len hbo
          have hbg := brd_fit hbo x1.b.g (by simp [Brd.all])
          have hnn := numTo_bd hbo
          refine skp (h := ?_)
          refine q_seq (h := ?_)
          refine sq (h := ?_)
          refine bk (h := ?_)
          refine sq (h := ?_)
          refine WC.getRowF (r := ⟨x1.A, 2, x1.b.st.length, encP x1.b.st⟩) (List.mem_map.2 ⟨x1, List.mem_of_getElem? hx1, rfl⟩) atz_ ?_
          refine rgD0 (by kernel_rfl) (h := ?_)
          refine tk 0 (hy := (by first | exact fa | exact faE)) (h := ?_)
          refine tk 1 (hy := (by first | exact ldA | exact ldEA)) (h := ?_)
          refine tk 2 (hy := mv) (h := ?_)
          refine tk 3 (hy := mv) (h := ?_)
          refine tk 4 (hy := ix (A := qa.A) (m := qa.zs.length)) (h := ?_)
          refine tk 5 (hy := ldEW (A := qa.A) (k := i) (cs := x1.cells) (hk := encX_at hx1)) (h := ?_)
          refine one 6 (h := ?_)
          refine cl0 (hc := fun w hS => C_score_Arises f x1.b x1.A x1.b.st.length x1.c w (hS.get rdz_) (by omega)) (h := ?_)
          rw [hA]
          refine nx (h := ?_)
          refine tk 7 (hy := mv) (h := ?_)
          refine tk 8 (hy := ex) (h := ?_)
          refine tk 9 (hy := ex) (h := ?_)
          refine tk 10 (hy := asg) (h := ?_)
          refine tk 11 (hy := asg) (h := ?_)
          refine dn (h := ?_)
          refine q_seq (h := ?_)
          refine ct (X := Nat × Nat) (fun _ => True) (fun z => [(1, .pointer (some ⟨b0, 0, none⟩)), (3, .pointer (some ⟨b1, 0, none⟩)), (6, .slice qa.A qa.zs.length qa.c), (8, .pointer (some ⟨b2, 0, none⟩)), (9, .pointer (some ⟨b3, 0, none⟩)), (11, .int .i64 i), (14, .pointer (some ⟨z.1, 0, none⟩)), (15, .pointer (some ⟨z.2, 0, none⟩)), (12, .bool true), (13, .int .i64 0), (16, .int .i64 0)]) (fun z => [.blk z.1 56 [.int .i64 (restC f x1.b).1.1, .int .i64 (restC f x1.b).1.2], .blk z.2 56 [.int .i64 (restC f x1.b).2.1, .int .i64 (restC f x1.b).2.2], .ro x1.A 2 x1.b.st.length (encP x1.b.st), .blk b1 56 [.int .i64 (rangeE f).low, .int .i64 (rangeE f).high], .blk b2 56 [.int .i64 r1.1, .int .i64 r1.2], .blk b3 56 [.int .i64 r2.1, .int .i64 r2.2], .own qa.A qa.c 40 5 qa.zs.length (encX qa.zs), manyE true (qa.zs.map rowX), .blk b0 64 (cardC f cf A n c), .ro A 4 n (encN xs)]) (h1 := ?_) (h2 := ?_)
          · skip
            refine rgD0 (by kernel_rfl) (h := ?_)
            refine tk 0 (hy := (by first | exact fa | exact faE)) (h := ?_)
            refine tk 1 (hy := (by first | exact ldA | exact ldEA)) (h := ?_)
            refine tk 2 (hy := mv) (h := ?_)
            refine tk 3 (hy := mv) (h := ?_)
            refine tk 4 (hy := ix (A := qa.A) (m := qa.zs.length)) (h := ?_)
            refine tk 5 (hy := ldEW (A := qa.A) (k := i) (cs := x1.cells) (hk := encX_at hx1)) (h := ?_)
            refine fan [6, 11, 12] (h := ⟨⟨_, by exact rfl, ?_⟩, ⟨_, by exact rfl, ?_⟩, ⟨_, by exact rfl, ?_⟩, trivial⟩)
            · skip
              refine cl0 (hc := fun w hS => C_balls_Rest f x1.b x1.A x1.b.st.length x1.c w (hS.get rdz_) (by omega)) (h := ?_)
              rw [hRs]
              refine nx (h := ?_)
              refine tk 7 (hy := mv) (h := ?_)
              refine tk 8 (hy := ex) (h := ?_)
              refine tk 9 (hy := ex) (h := ?_)
              refine tk 10 (hy := ex) (h := ?_)
              refine two 11 12 (h1 := ?_) (h2 := ?_)
              · skip
                refine al (h := fun bP => ?_)
                refine nx (h := ?_)
                refine one 12 (h := ?_)
                refine al (h := fun bQ => ?_)
                refine nx (h := ?_)
                refine one 13 (h := ?_)
                first | refine stA (h := ?_) | refine stEA (h := ?_)
                refine nx (h := ?_)
                refine one 14 (h := ?_)
                first | refine stA (h := ?_) | refine stEA (h := ?_)
                refine nx (h := ?_)
                refine tk 15 (hy := asg) (h := ?_)
                refine dn (h := ?_)
                exact ctn (bP, bQ) trivial sbz_ slz_
              · skip
                refine al (h := fun bQ => ?_)
                refine nx (h := ?_)
                refine one 11 (h := ?_)
                refine al (h := fun bP => ?_)
                refine nx (h := ?_)
                refine one 13 (h := ?_)
                first | refine stA (h := ?_) | refine stEA (h := ?_)
                refine nx (h := ?_)
                refine one 14 (h := ?_)
                first | refine stA (h := ?_) | refine stEA (h := ?_)
                refine nx (h := ?_)
                refine tk 15 (hy := asg) (h := ?_)
                refine dn (h := ?_)
                exact ctn (bP, bQ) trivial sbz_ slz_
            · skip
              refine al (h := fun bP => ?_)
              refine nx (h := ?_)
              refine two 6 12 (h1 := ?_) (h2 := ?_)
              · skip
                refine cl0 (hc := fun w hS => C_balls_Rest f x1.b x1.A x1.b.st.length x1.c w (hS.get rdz_) (by omega)) (h := ?_)
                rw [hRs]
                refine nx (h := ?_)
                refine tk 7 (hy := mv) (h := ?_)
                refine tk 8 (hy := ex) (h := ?_)
                refine tk 9 (hy := ex) (h := ?_)
                refine tk 10 (hy := ex) (h := ?_)
                refine one 12 (h := ?_)
                refine al (h := fun bQ => ?_)
                refine nx (h := ?_)
                refine one 13 (h := ?_)
                first | refine stA (h := ?_) | refine stEA (h := ?_)
                refine nx (h := ?_)
                refine one 14 (h := ?_)
                first | refine stA (h := ?_) | refine stEA (h := ?_)
                refine nx (h := ?_)
                refine tk 15 (hy := asg) (h := ?_)
                refine dn (h := ?_)
                exact ctn (bP, bQ) trivial sbz_ slz_
              · skip
                refine al (h := fun bQ => ?_)
                refine nx (h := ?_)
                refine one 6 (h := ?_)
                refine cl0 (hc := fun w hS => C_balls_Rest f x1.b x1.A x1.b.st.length x1.c w (hS.get rdz_) (by omega)) (h := ?_)
                rw [hRs]
                refine nx (h := ?_)
                refine tk 7 (hy := mv) (h := ?_)
                refine tk 8 (hy := ex) (h := ?_)
                refine tk 9 (hy := ex) (h := ?_)
                refine tk 10 (hy := ex) (h := ?_)
                refine one 13 (h := ?_)
                first | refine stA (h := ?_) | refine stEA (h := ?_)
                refine nx (h := ?_)
                refine one 14 (h := ?_)
                first | refine stA (h := ?_) | refine stEA (h := ?_)
                refine nx (h := ?_)
                refine tk 15 (hy := asg) (h := ?_)
                refine dn (h := ?_)
                exact ctn (bP, bQ) trivial sbz_ slz_
            · skip
              refine al (h := fun bQ => ?_)
              refine nx (h := ?_)
              refine two 6 11 (h1 := ?_) (h2 := ?_)
              · skip
                refine cl0 (hc := fun w hS => C_balls_Rest f x1.b x1.A x1.b.st.length x1.c w (hS.get rdz_) (by omega)) (h := ?_)
                rw [hRs]
                refine nx (h := ?_)
                refine tk 7 (hy := mv) (h := ?_)
                refine tk 8 (hy := ex) (h := ?_)
                refine tk 9 (hy := ex) (h := ?_)
                refine tk 10 (hy := ex) (h := ?_)
                refine one 11 (h := ?_)
                refine al (h := fun bP => ?_)
                refine nx (h := ?_)
                refine one 13 (h := ?_)
                first | refine stA (h := ?_) | refine stEA (h := ?_)
                refine nx (h := ?_)
                refine one 14 (h := ?_)
                first | refine stA (h := ?_) | refine stEA (h := ?_)
                refine nx (h := ?_)
                refine tk 15 (hy := asg) (h := ?_)
                refine dn (h := ?_)
                exact ctn (bP, bQ) trivial sbz_ slz_
              · skip
                refine al (h := fun bP => ?_)
                refine nx (h := ?_)
                refine one 6 (h := ?_)
                refine cl0 (hc := fun w hS => C_balls_Rest f x1.b x1.A x1.b.st.length x1.c w (hS.get rdz_) (by omega)) (h := ?_)
                rw [hRs]
                refine nx (h := ?_)
                refine tk 7 (hy := mv) (h := ?_)
                refine tk 8 (hy := ex) (h := ?_)
                refine tk 9 (hy := ex) (h := ?_)
                refine tk 10 (hy := ex) (h := ?_)
                refine one 13 (h := ?_)
                first | refine stA (h := ?_) | refine stEA (h := ?_)
                refine nx (h := ?_)
                refine one 14 (h := ?_)
                first | refine stA (h := ?_) | refine stEA (h := ?_)
                refine nx (h := ?_)
                refine tk 15 (hy := asg) (h := ?_)
                refine dn (h := ?_)
                exact ctn (bP, bQ) trivial sbz_ slz_
          rintro ⟨bP, bQ⟩ -
          refine sq (h := ?_)
          refine rgD0 (by kernel_rfl) (h := ?_)
          refine tk 0 (hy := mv) (h := ?_)
          refine tk 1 (hy := mv) (h := ?_)
          refine tk 2 (hy := ix (A := qa.A) (m := qa.zs.length)) (h := ?_)
          refine tk 3 (hy := faE (A := qa.A)) (h := ?_)
          refine tk 4 (hy := faE (A := qa.A)) (h := ?_)
          refine tk 5 (hy := ldE (A := qa.A) (hk := encX_at hx1)) (h := ?_)
          refine tk 6 (hy := mv) (h := ?_)
          refine tk 7 (hy := mv) (h := ?_)
          refine tk 8 (hy := ix (A := qa.A) (m := qa.zs.length)) (h := ?_)
          refine tk 9 (hy := faE (A := qa.A)) (h := ?_)
          refine tk 10 (hy := faE (A := qa.A)) (h := ?_)
          refine tk 11 (hy := ldE (A := qa.A) (hk := encX_at hx1)) (h := ?_)
          refine tk 12 (hy := addI) (h := ?_)
          refine tk 13 (hy := asg) (h := ?_)
          refine dn (h := ?_)
          refine q_seq (h := ?_)
          refine sq (h := ?_)
          refine sq (h := ?_)
          refine rg (h := ?_)
          refine wy asg ?_
          refine nl (h := ?_)
          refine q_seq (h := ?_)
          refine bk (h := ?_)
          refine lp (X := Nat) (I := fun j => j ≤ x1.b.st.length) (le := fun j => [(1, .pointer (some ⟨b0, 0, none⟩)), (3, .pointer (some ⟨b1, 0, none⟩)), (6, .slice qa.A qa.zs.length qa.c), (8, .pointer (some ⟨b2, 0, none⟩)), (9, .pointer (some ⟨b3, 0, none⟩)), (11, .int .i64 i), (14, .pointer (some ⟨bP, 0, none⟩)), (15, .pointer (some ⟨bQ, 0, none⟩)), (12, .bool true), (13, .int .i64 0), (16, .int .i64 0), (17, .int .i64 (x1.b.g.1 + x1.b.g.2 + (numTo x1.b.st j : Int))), (18, .int .i64 j)]) (Le := fun _ => [.blk bP 56 [.int .i64 (restC f x1.b).1.1, .int .i64 (restC f x1.b).1.2], .blk bQ 56 [.int .i64 (restC f x1.b).2.1, .int .i64 (restC f x1.b).2.2], .ro x1.A 2 x1.b.st.length (encP x1.b.st), .blk b1 56 [.int .i64 (rangeE f).low, .int .i64 (rangeE f).high], .blk b2 56 [.int .i64 r1.1, .int .i64 r1.2], .blk b3 56 [.int .i64 r2.1, .int .i64 r2.2], .own qa.A qa.c 40 5 qa.zs.length (encX qa.zs), manyE true (qa.zs.map rowX), .blk b0 64 (cardC f cf A n c), .ro A 4 n (encN xs)]) (μ := fun j => x1.b.st.length - j) 0 (Nat.zero_le _) (by rw [show x1.b.g.1 + x1.b.g.2 + ((numTo x1.b.st 0 : Nat) : Int) = x1.b.g.1 + x1.b.g.2 from Int.add_zero _]; repeat (first | exact trivial | refine ⟨rfl, ?_⟩)) slz_ (fun j hj => ?_)
          refine sq (h := ?_)
          refine sq (h := ?_)
          refine rg (h := ?_)
          refine wy mv ?_
          refine wy mv ?_
          refine wy mv ?_
          refine wy (ix (A := qa.A) (m := qa.zs.length) (hb := by omega)) ?_
          refine wy (faE (A := qa.A)) ?_
          refine wy (ldE (A := qa.A) (hk := encX_at hx1)) ?_
          refine wy lenS ?_
          refine wy lss ?_
          refine nl (h := ?_)
          refine q_seq (h := ?_)
          refine cd (by exact rfl) (fun h8 => ?_) (fun h8 => ?_)
          · skip
            have hjn : j < x1.b.st.length := by have := of_decide_eq_true h8; omega
            obtain ⟨p, hp⟩ : ∃ p, x1.b.st[j]? = some p := ⟨_, List.getElem?_eq_getElem hjn⟩
            have hpe := encP_at hp
            have hpf := brd_fit hbo p (by simp only [Brd.all]; exact List.mem_append_left _ (List.mem_of_getElem? hp))
            have hnj := hnn j (by omega)
            have hnx : x1.b.g.1 + x1.b.g.2 + ((numTo x1.b.st (j + 1) : Nat) : Int) = x1.b.g.1 + x1.b.g.2 + (numTo x1.b.st j : Int) + (p.1 + p.2) := by rw [numTo_succ hp]; omega
            refine skp (h := ?_)
            refine q_seq (h := ?_)
            refine sq (h := ?_)
            refine bk (h := ?_)
            refine rgD0 (by kernel_rfl) (h := ?_)
            refine tk 0 (hy := mv) (h := ?_)
            refine tk 1 (hy := mv) (h := ?_)
            refine tk 2 (hy := mv) (h := ?_)
            refine tk 3 (hy := ix (A := qa.A) (m := qa.zs.length)) (h := ?_)
            refine tk 4 (hy := faE (A := qa.A)) (h := ?_)
            refine tk 5 (hy := ldE (A := qa.A) (hk := encX_at hx1)) (h := ?_)
            refine tk 6 (hy := mv) (h := ?_)
            refine tk 7 (hy := ix (A := x1.A) (m := x1.b.st.length)) (h := ?_)
            refine tk 8 (hy := faE (A := x1.A)) (h := ?_)
            refine tk 9 (hy := ldE (A := x1.A) (hk := hpe)) (h := ?_)
            refine tk 10 (hy := mv) (h := ?_)
            refine tk 11 (hy := mv) (h := ?_)
            refine tk 12 (hy := ix (A := qa.A) (m := qa.zs.length)) (h := ?_)
            refine tk 13 (hy := faE (A := qa.A)) (h := ?_)
            refine tk 14 (hy := ldE (A := qa.A) (hk := encX_at hx1)) (h := ?_)
            refine tk 15 (hy := mv) (h := ?_)
            refine tk 16 (hy := ix (A := x1.A) (m := x1.b.st.length)) (h := ?_)
            refine tk 17 (hy := faE (A := x1.A)) (h := ?_)
            refine tk 18 (hy := ldE (A := x1.A) (hk := hpe)) (h := ?_)
            refine tk 19 (hy := addI) (h := ?_)
            refine tk 20 (hy := addI) (h := ?_)
            refine tk 21 (hy := asg) (h := ?_)
            refine dn (h := ?_)
            refine q_blk_norm (h := ?_)
            refine q_seq (h := ?_)
            refine rg (h := ?_)
            refine wy mv ?_
            refine wy addI ?_
            refine wy asg ?_
            refine nl (h := ?_)
            refine rn (x := j) (j + 1) hjn (by omega) (by rw [hnx]; repeat (first | exact trivial | refine ⟨rfl, ?_⟩)) slz_
          · skip
            have hjn : j = x1.b.st.length := by have := of_decide_eq_false h8; omega
            have hnv : x1.b.g.1 + x1.b.g.2 + (numTo x1.b.st j : Int) = numV x1.b := by rw [hjn, numV]; omega
            refine et (h := ?_)
            refine q_then_exit (h := ?_)
            refine q_then_exit (h := ?_)
            refine q_blk_hit (h := ?_)
            refine q_seq (h := ?_)
            refine sq (h := ?_)
            refine rg (h := ?_)
            refine wy mv ?_
            refine wy ((Yd.fl (neq) (by rfl))) ?_
            refine wy mv ?_
            refine un (h := ?_)
            refine wy mv ?_
            refine un (h := ?_)
            refine wy ((Yd.fl (notB) (by rfl))) ?_
            refine wy (by first | exact pkT | exact pkF) ?_
            refine wy mv ?_
            refine un (h := ?_)
            refine wy mv ?_
            refine un (h := ?_)
            refine wy ((Yd.fl (neq) (by rfl))) ?_
            refine wy (by first | exact pkT | exact pkF) ?_
            refine wy mv ?_
            refine un (h := ?_)
            refine wy mv ?_
            refine un (h := ?_)
            refine wy (by first | exact fa | exact faE) ?_
            refine un (h := ?_)
            refine wy (by first | exact ld | exact ldE) ?_
            refine un (h := ?_)
            refine wy ((Yd.fl (gtr) (by refine decide_eq_false ?_; omega))) ?_
            refine wy (by first | exact pkT | exact pkF) ?_
            refine wy mv ?_
            refine un (h := ?_)
            refine wy (by first | exact fa | exact faE) ?_
            refine un (h := ?_)
            refine wy (by first | exact ld | exact ldE) ?_
            refine un (h := ?_)
            refine wy (by first | exact fa | exact faE) ?_
            refine un (h := ?_)
            refine wy (by first | exact ld | exact ldE) ?_
            refine un (h := ?_)
            refine wy ((Yd.fl (gtr) (by refine decide_eq_false ?_; rw [he0'.2.1]; omega))) ?_
            refine wy (by first | exact pkT | exact pkF) ?_
            refine wy mv ?_
            refine un (h := ?_)
            refine wy (by first | exact fa | exact faE) ?_
            refine un (h := ?_)
            refine wy (by first | exact ld | exact ldE) ?_
            refine un (h := ?_)
            refine wy (by first | exact fa | exact faE) ?_
            refine un (h := ?_)
            refine wy (by first | exact ld | exact ldE) ?_
            refine un (h := ?_)
            refine wy ((Yd.fl (gtr) (by refine decide_eq_false ?_; rw [he0'.2.2]; omega))) ?_
            refine wy (by first | exact pkT | exact pkF) ?_
            refine nl (h := ?_)
            refine q_seq (h := ?_)
            refine cdF (h := ?_)
            refine skp (h := ?_)
            refine q_blk_norm (h := ?_)
            refine q_seq (h := ?_)
            refine rg (h := ?_)
            refine wy mv ?_
            refine wy addI ?_
            refine wy asg ?_
            refine nl (h := ?_)
            refine rn (x := i) (i + 1) hin (by omega) sbz_ slz_
        · skip
          have hin : i = qa.zs.length := by have := of_decide_eq_false h7; omega
          refine et (h := ?_)
          refine q_then_exit (h := ?_)
          refine q_then_exit (h := ?_)
          refine q_blk_hit (h := ?_)
          refine q_seq (h := ?_)
          refine sq (h := ?_)
          refine rg (h := ?_)
          refine cl0 (hc := fun w hS => C_top_stocked w) (h := ?_)
          refine wy asg ?_
          refine nl (h := ?_)
          refine q_seq (h := ?_)
          refine rtn (h := ?_)
          refine q_ret (hR := ?_)
          exact fun w hS => ⟨rfl, hS.sub slz_⟩
end Go.Proofs.YtpmmgljndceplaaGreat
