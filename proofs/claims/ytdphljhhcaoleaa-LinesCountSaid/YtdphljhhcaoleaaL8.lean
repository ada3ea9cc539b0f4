/- Walk of lines.Show. -/
import Derived.Test.YtdphljhhcaoleaaL7
namespace Go.Proofs.Ytdphljhhcaoleaa
open Go Go.RowKit

def mark0 : Mark := ⟨0, 0, 0, 0⟩
/-- What Show answers. -/
def ShowR (v : View) (b : Box) (which : Int) (m : Mark) (e : Int) : Prop :=
  (¬ chkVB v b = 0 ∧ m = mark0 ∧ e = chkVB v b) ∨ (chkVB v b = 0 ∧ isC which = true ∧ m = mark0 ∧ e = 22) ∨
  (chkVB v b = 0 ∧ isC which = false ∧ e = 0 ∧ ∃ p ∈ trus v, (which = 1 ∧ m = largeM v p ∧ tch m b = true) ∨ (which = 2 ∧ m = smallM v p ∧ tch m b = false)) ∨
  (chkVB v b = 0 ∧ isC which = false ∧ e = 3 ∧ m = mark0 ∧ ∀ p ∈ trus v, (decide (which = 1) && tch (largeM v p) b) = false ∧ (decide (which = 2) && !tch (smallM v p) b) = false)

theorem take_next' {α : Type} {ss : List α} {q : α → Prop} {k : Nat} {s : α} (h : ∀ t ∈ ss.take k, q t) (hs : ss[k]? = some s) (hq : q s) : ∀ t ∈ ss.take (k + 1), q t := by
  rw [List.take_add_one, hs]
  intro t ht
  rcases List.mem_append.1 ht with ht | ht
  · exact h t ht
  · have : t = s := by simpa using ht
    rw [this]; exact hq

theorem C_lines_Show (v : View) (b : Box) (which : Int) (A : Option Addr) (n c : Nat) (w : World) (h : Rd w A 4 n v.enc) (hn : n ≤ 9223372036854775807) :
    CR Try.prog 23 [v.val A n c, b.val, .int .i64 which] w (fun x : Mark × Int => ShowR v b which x.1 x.2) (fun x => .tuple #[x.1.val, .int .i64 x.2]) (fun _ => []) := by
  refine ⟨en Try.func23 Try.ntmps23 ((St.init w).share (e := .ro A 4 n v.enc) h rfl rfl rfl) (h := fun F => ?_)⟩
  refine sq (h := ?_)
  refine rg (h := ?_)
  refine bxA (h := fun b0 => ?_)
  refine bxA (h := fun b1 => ?_)
  refine al (h := fun b2 => ?_)
  refine WL.y (hy := asg) (h := ?_)
  refine nl (h := ?_)
  refine q_seq (h := ?_)
  refine sq (h := ?_)
  refine sq (h := ?_)
  refine rg (h := ?_)
  refine WL.y (hy := (by first | exact ldA | exact ldEA)) (h := ?_)
  refine WL.y (hy := (by first | exact ldA | exact ldEA)) (h := ?_)
  refine cl0 (hc := fun w hS => C_lines_check _ _ _ _ _ w (hS.get (by repeat (first | exact Rds.ro | exact Rds.own | apply Rds.there))) (by omega)) (h := ?_)
  refine WL.y (hy := asg) (h := ?_)
  refine nl (h := ?_)
  refine q_seq (h := ?_)
  refine sq (h := ?_)
  refine rg (h := ?_)
  refine WL.y (hy := mv) (h := ?_)
  refine WL.y (hy := neq) (h := ?_)
  refine nl (h := ?_)
  refine q_seq (h := ?_)
  refine cd (by exact rfl) (fun h0 => ?_) (fun h0 => ?_)
  · skip
    have hc0 : ¬ chkVB v b = 0 := by simpa using h0
    refine sq (h := ?_)
    refine rg (h := ?_)
    refine WL.y (hy := bd) (h := ?_)
    refine WL.y (hy := mv) (h := ?_)
    first | refine stA (h := ?_) | refine stEA (h := ?_)
    refine WL.y (hy := asg) (h := ?_)
    refine nl (h := ?_)
    refine q_seq (h := ?_)
    refine rtn (h := ?_)
    refine q_then_ret (h := ?_)
    refine q_ret (hR := ?_)
    exact fun w hS => ⟨(mark0, chkVB v b), .inl ⟨hc0, rfl, rfl⟩, rfl, hS.sub (by repeat (first | exact SubL.nil | (apply SubL.cons; (repeat (first | exact At.here | apply At.there)))))⟩
  · skip
    have hc0 : chkVB v b = 0 := by simpa using h0
    obtain ⟨hvb, hbb⟩ := chkVB_ok h0
    have hvn := vbad_near hvb
    have hbok := bbad_ok hbb
    have hmm := mm_le hvn
    have htl : (trus v).length ≤ v.m * v.m := truTo_len ..
    refine skp (h := ?_)
    refine q_seq (h := ?_)
    refine sq (h := ?_)
    refine sq (h := ?_)
    refine rg (h := ?_)
    refine WL.y (hy := mv) (h := ?_)
    refine WL.y (hy := neq) (h := ?_)
    refine WL.y (hy := mv) (h := ?_)
    apply brAnd 3 22 25 (by exact rfl)
    · intro hb1
      refine un (h := ?_)
      refine WL.y (hy := mv) (h := ?_)
      refine un (h := ?_)
      refine WL.y (hy := neq) (h := ?_)
      refine WL.y (hy := (by first | exact pkT | exact pkF)) (h := ?_)
      exact mg (by repeat (first | exact trivial | refine ⟨rfl, ?_⟩ | refine ⟨by rw [hb1]; rfl, ?_⟩)) (by repeat (first | exact SubL.nil | (apply SubL.cons; (repeat (first | exact At.here | apply At.there)))))
    · intro hb1
      repeat (first | refine un (h := ?_) | refine sk (h := ?_) | refine WL.y (hy := pkF) (h := ?_) | refine WL.y (hy := pkT) (h := ?_))
      exact mg (by repeat (first | exact trivial | refine ⟨rfl, ?_⟩ | refine ⟨by rw [hb1]; rfl, ?_⟩)) (by repeat (first | exact SubL.nil | (apply SubL.cons; (repeat (first | exact At.here | apply At.there)))))
    refine nl (h := ?_)
    refine q_seq (h := ?_)
    refine cd (by exact rfl) (fun h2 => ?_) (fun h2 => ?_)
    · skip
      have hisc : isC which = true := h2
      refine sq (h := ?_)
      refine rg (h := ?_)
      refine WL.y (hy := bd) (h := ?_)
      first | refine stA (h := ?_) | refine stEA (h := ?_)
      refine WL.y (hy := asg) (h := ?_)
      refine nl (h := ?_)
      refine q_seq (h := ?_)
      refine rtn (h := ?_)
      refine q_then_ret (h := ?_)
      refine q_ret (hR := ?_)
      exact fun w hS => ⟨(mark0, 22), .inr (.inl ⟨hc0, hisc, rfl, rfl⟩), rfl, hS.sub (by repeat (first | exact SubL.nil | (apply SubL.cons; (repeat (first | exact At.here | apply At.there)))))⟩
    · skip
      have hisc : isC which = false := h2
      refine skp (h := ?_)
      refine q_seq (h := ?_)
      refine sq (h := ?_)
      refine sq (h := ?_)
      refine rg (h := ?_)
      refine WL.y (hy := (by first | exact ldA | exact ldEA)) (h := ?_)
      refine cl (hc := fun w hS => C_lines_truths _ _ _ _ w (hS.get (by repeat (first | exact Rds.ro | exact Rds.own | apply Rds.there))) ‹_›) (h := fun x1 _ => ?_)
      refine WL.y (hy := lenS) (h := ?_)
      refine WL.y (hy := mv) (h := ?_)
      refine nl (h := ?_)
      refine q_seq (h := ?_)
      refine bk (h := ?_)
      refine lp (X := Nat) (I := fun k => k ≤ (trus v).length ∧ ∀ p ∈ (trus v).take k, (decide (which = 1) && tch (largeM v p) b) = false ∧ (decide (which = 2) && !tch (smallM v p) b) = false) (le := fun k => [(2, .int .i64 which), (3, .pointer (some ⟨b0, 0, none⟩)), (4, .pointer (some ⟨b1, 0, none⟩)), (6, .pointer (some ⟨b2, 0, none⟩)), (28, .slice x1.1 (trus v).length x1.2), (29, .int .i64 (trus v).length), (30, .int .i64 k)]) (Le := fun _ => [.blk b2 45 [.int .i64 0, .int .i64 0, .int .i64 0, .int .i64 0], .blk b1 28 [.int .i64 b.l, .int .i64 b.r, .int .i64 b.b, .int .i64 b.t], .blk b0 26 (v.cells A n c), .own x1.1 x1.2 85 2 (trus v).length (encP (trus v)), .ro A 4 n v.enc]) (μ := fun k => (trus v).length - k) 0 ⟨by omega, by simp⟩ (by repeat (first | exact trivial | refine ⟨rfl, ?_⟩)) (by repeat (first | exact SubL.nil | (apply SubL.cons; (repeat (first | exact At.here | apply At.there))))) (fun k hk => ?_)
      obtain ⟨hk, hall⟩ := hk
      refine sq (h := ?_)
      refine rg (h := ?_)
      refine WL.y (hy := lss) (h := ?_)
      refine nl (h := ?_)
      refine q_seq (h := ?_)
      refine sq (h := ?_)
      refine cd (by exact rfl) (fun h3 => ?_) (fun h3 => ?_)
      · skip
        have hlt : k < (trus v).length := by simp only [decide_eq_true_eq] at h3; omega
        obtain ⟨p, hp⟩ : ∃ p, (trus v)[k]? = some p := ⟨_, List.getElem?_eq_getElem hlt⟩
        have hpe : (encP (trus v))[k]? = some [.int .i64 p.1, .int .i64 p.2] := by simp [encP, hp]
        have hpm := List.mem_of_getElem? hp
        have hmkL := large_ok hvn hpm
        have hmkS := small_ok hvn hpm
        refine skp (h := ?_)
        refine q_seq (h := ?_)
        refine sq (h := ?_)
        refine bk (h := ?_)
        refine sq (h := ?_)
        refine rg (h := ?_)
        refine WL.y (hy := ix (hb := by omega)) (h := ?_)
        refine WL.y (hy := ldEW (k := k) (hk := hpe)) (h := ?_)
        refine al (h := fun b3 => ?_)
        first | refine stA (h := ?_) | refine stEA (h := ?_)
        refine nl (h := ?_)
        refine q_seq (h := ?_)
        refine sq (h := ?_)
        refine sq (h := ?_)
        refine rg (h := ?_)
        refine WL.y (hy := (by first | exact ldA | exact ldEA)) (h := ?_)
        refine WL.y (hy := (by first | exact ldA | exact ldEA)) (h := ?_)
        refine cl0 (hc := fun w hS => C_lines_large ..) (h := ?_)
        refine al (h := fun b4 => ?_)
        first | refine stA (h := ?_) | refine stEA (h := ?_)
        refine nl (h := ?_)
        refine q_seq (h := ?_)
        refine sq (h := ?_)
        refine rg (h := ?_)
        refine WL.y (hy := mv) (h := ?_)
        refine WL.y (hy := eql) (h := ?_)
        refine WL.y (hy := mv) (h := ?_)
        apply brAnd 4 39 43 (by exact rfl)
        · intro hb4
          refine un (h := ?_)
          refine WL.y (hy := (by first | exact ldA | exact ldEA)) (h := ?_)
          refine un (h := ?_)
          refine WL.y (hy := (by first | exact ldA | exact ldEA)) (h := ?_)
          refine un (h := ?_)
          refine cl0 (hc := fun w hS => C_lines_touches (largeM v p) b hmkL hbok w) (h := ?_)
          refine WL.y (hy := (by first | exact pkT | exact pkF)) (h := ?_)
          exact mg (by repeat (first | exact trivial | refine ⟨rfl, ?_⟩ | refine ⟨by rw [hb4]; rfl, ?_⟩)) (by repeat (first | exact SubL.nil | (apply SubL.cons; (repeat (first | exact At.here | apply At.there)))))
        · intro hb4
          repeat (first | refine un (h := ?_) | refine sk (h := ?_) | refine WL.y (hy := pkF) (h := ?_) | refine WL.y (hy := pkT) (h := ?_))
          exact mg (by repeat (first | exact trivial | refine ⟨rfl, ?_⟩ | refine ⟨by rw [hb4]; rfl, ?_⟩)) (by repeat (first | exact SubL.nil | (apply SubL.cons; (repeat (first | exact At.here | apply At.there)))))
        refine nl (h := ?_)
        refine q_seq (h := ?_)
        refine cd (by exact rfl) (fun h5 => ?_) (fun h5 => ?_)
        · skip
          have hq1 : (decide (which = 1) && tch (largeM v p) b) = true := h5
          refine sq (h := ?_)
          refine rg (h := ?_)
          refine WL.y (hy := (by first | exact ldA | exact ldEA)) (h := ?_)
          first | refine stA (h := ?_) | refine stEA (h := ?_)
          refine WL.y (hy := asg) (h := ?_)
          refine nl (h := ?_)
          refine q_seq (h := ?_)
          refine rtn (h := ?_)
          refine q_then_ret (h := ?_)
          refine q_blk_ret (h := ?_)
          refine q_then_ret (h := ?_)
          refine q_then_ret (h := ?_)
          refine q_blk_ret (h := ?_)
          refine q_then_ret (h := ?_)
          refine q_ret (hR := ?_)
          simp only [Bool.and_eq_true, decide_eq_true_eq] at hq1
          exact fun w hS => ⟨(largeM v p, 0), .inr (.inr (.inl ⟨hc0, hisc, rfl, p, hpm, .inl ⟨hq1.1, rfl, hq1.2⟩⟩)), rfl, hS.sub (by repeat (first | exact SubL.nil | (apply SubL.cons; (repeat (first | exact At.here | apply At.there)))))⟩
        · skip
          have hq1 : (decide (which = 1) && tch (largeM v p) b) = false := h5
          refine skp (h := ?_)
          refine q_seq (h := ?_)
          refine sq (h := ?_)
          refine rg (h := ?_)
          refine WL.y (hy := (by first | exact ldA | exact ldEA)) (h := ?_)
          refine WL.y (hy := (by first | exact ldA | exact ldEA)) (h := ?_)
          refine cl0 (hc := fun w hS => C_lines_small ..) (h := ?_)
          refine al (h := fun b5 => ?_)
          first | refine stA (h := ?_) | refine stEA (h := ?_)
          refine nl (h := ?_)
          refine q_seq (h := ?_)
          refine sq (h := ?_)
          refine rg (h := ?_)
          refine WL.y (hy := mv) (h := ?_)
          refine WL.y (hy := eql) (h := ?_)
          refine WL.y (hy := mv) (h := ?_)
          apply brAnd 5 50 55 (by exact rfl)
          · intro hb6
            refine un (h := ?_)
            refine WL.y (hy := (by first | exact ldA | exact ldEA)) (h := ?_)
            refine un (h := ?_)
            refine WL.y (hy := (by first | exact ldA | exact ldEA)) (h := ?_)
            refine un (h := ?_)
            refine cl0 (hc := fun w hS => C_lines_touches (smallM v p) b hmkS hbok w) (h := ?_)
            refine un (h := ?_)
            refine WL.y (hy := notB) (h := ?_)
            refine WL.y (hy := (by first | exact pkT | exact pkF)) (h := ?_)
            exact mg (by repeat (first | exact trivial | refine ⟨rfl, ?_⟩ | refine ⟨by rw [hb6]; rfl, ?_⟩)) (by repeat (first | exact SubL.nil | (apply SubL.cons; (repeat (first | exact At.here | apply At.there)))))
          · intro hb6
            repeat (first | refine un (h := ?_) | refine sk (h := ?_) | refine WL.y (hy := pkF) (h := ?_) | refine WL.y (hy := pkT) (h := ?_))
            exact mg (by repeat (first | exact trivial | refine ⟨rfl, ?_⟩ | refine ⟨by rw [hb6]; rfl, ?_⟩)) (by repeat (first | exact SubL.nil | (apply SubL.cons; (repeat (first | exact At.here | apply At.there)))))
          refine nl (h := ?_)
          refine q_seq (h := ?_)
          refine cd (by exact rfl) (fun h7 => ?_) (fun h7 => ?_)
          · skip
            have hq2 : (decide (which = 2) && !tch (smallM v p) b) = true := h7
            refine sq (h := ?_)
            refine rg (h := ?_)
            refine WL.y (hy := (by first | exact ldA | exact ldEA)) (h := ?_)
            first | refine stA (h := ?_) | refine stEA (h := ?_)
            refine WL.y (hy := asg) (h := ?_)
            refine nl (h := ?_)
            refine q_seq (h := ?_)
            refine rtn (h := ?_)
            refine q_blk_ret (h := ?_)
            refine q_then_ret (h := ?_)
            refine q_then_ret (h := ?_)
            refine q_blk_ret (h := ?_)
            refine q_then_ret (h := ?_)
            refine q_ret (hR := ?_)
            simp only [Bool.and_eq_true, decide_eq_true_eq, Bool.not_eq_true'] at hq2
            exact fun w hS => ⟨(smallM v p, 0), .inr (.inr (.inl ⟨hc0, hisc, rfl, p, hpm, .inr ⟨hq2.1, rfl, hq2.2⟩⟩)), rfl, hS.sub (by repeat (first | exact SubL.nil | (apply SubL.cons; (repeat (first | exact At.here | apply At.there)))))⟩
          · skip
            have hq2 : (decide (which = 2) && !tch (smallM v p) b) = false := h7
            refine skp (h := ?_)
            refine q_blk_norm (h := ?_)
            refine q_seq (h := ?_)
            refine rg (h := ?_)
            refine WL.y (hy := addI) (h := ?_)
            refine WL.y (hy := mv) (h := ?_)
            refine nl (h := ?_)
            refine rn (k + 1) ⟨by omega, take_next' hall hp ⟨hq1, hq2⟩⟩ (by omega) (by repeat (first | exact trivial | refine ⟨rfl, ?_⟩)) (by repeat (first | exact SubL.nil | (apply SubL.cons; (repeat (first | exact At.here | apply At.there)))))
      · skip
        have hke : k = (trus v).length := by simp only [decide_eq_false_iff_not] at h3; omega
        refine et (h := ?_)
        refine q_then_exit (h := ?_)
        refine q_then_exit (h := ?_)
        refine q_blk_hit (h := ?_)
        refine q_seq (h := ?_)
        refine sq (h := ?_)
        refine rg (h := ?_)
        refine WL.y (hy := bd) (h := ?_)
        first | refine stA (h := ?_) | refine stEA (h := ?_)
        refine WL.y (hy := asg) (h := ?_)
        refine nl (h := ?_)
        refine q_seq (h := ?_)
        refine rtn (h := ?_)
        refine q_ret (hR := ?_)
        exact fun w hS => ⟨(mark0, 3), .inr (.inr (.inr ⟨hc0, hisc, rfl, rfl, by rw [hke, List.take_length] at hall; exact hall⟩)), rfl, hS.sub (by repeat (first | exact SubL.nil | (apply SubL.cons; (repeat (first | exact At.here | apply At.there)))))⟩
end Go.Proofs.Ytdphljhhcaoleaa
