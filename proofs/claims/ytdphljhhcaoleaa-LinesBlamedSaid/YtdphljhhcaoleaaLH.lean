/- Walk of the closure of Blame. -/
import Derived.Test.YtdphljhhcaoleaaLG
namespace Go.Proofs.Ytdphljhhcaoleaa
open Go Go.RowKit

theorem T_lines_Blame1 (ys : List Int) (a0 m c2 : Nat) (A2 : Option Addr) (hm : m ≤ 9223372036854775807) (x : Int) :
    Tr Try.prog 71 [.int .i64 x, .pointer (some ⟨a0, 0, none⟩)] [.blk a0 55 [.slice A2 m c2], .own A2 c2 3 1 m (encI ys)] (fun _ : Unit => True) (fun _ => .bool (!ys.any fun y => decide (x = y))) (fun _ => [.blk a0 55 [.slice A2 m c2], .own A2 c2 3 1 m (encI ys)]) := by
  refine ⟨fun w0 w R hst => ?_⟩
  refine en Try.func71 Try.ntmps71 hst (h := fun F => ?_)
  refine sq (h := ?_)
  refine rg (h := ?_)
  refine WL.y (hy := asg) (h := ?_)
  refine nl (h := ?_)
  refine q_seq (h := ?_)
  refine sq (h := ?_)
  refine rg (h := ?_)
  refine WL.y (hy := (by first | exact ld | exact ldE)) (h := ?_)
  refine WL.y (hy := mv) (h := ?_)
  refine cl0 (hc := fun w hS => C_slices_Contains _ _ _ _ _ w (hS.get (by repeat (first | exact Rds.ro | exact Rds.own | apply Rds.there))) (by omega)) (h := ?_)
  refine WL.y (hy := notB) (h := ?_)
  refine WL.y (hy := asg) (h := ?_)
  refine nl (h := ?_)
  refine q_seq (h := ?_)
  refine rtn (h := ?_)
  refine q_ret (hR := ?_)
  exact fun w hS => ⟨(), trivial, rfl, hS⟩
end Go.Proofs.Ytdphljhhcaoleaa
