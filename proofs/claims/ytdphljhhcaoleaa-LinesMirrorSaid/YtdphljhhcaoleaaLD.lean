/- Walk of the reference Slack. -/
import Derived.Test.YtdphljhhcaoleaaLC
namespace Go.Proofs.Ytdphljhhcaoleaa
open Go Go.RowKit

theorem callE_of {v : View} {b : Box} (h0 : chkVB v b = 0) : callE v b = (bif decide (callV v b = 0) then 3 else 0) ∧ callN v b = callV v b := by
  obtain ⟨h1, h2⟩ := chkVB_ok (v := v) (b := b) (by simp [h0])
  exact callE_ok h1 h2
theorem callE_bad {v : View} {b : Box} (h0 : ¬ chkVB v b = 0) : callE v b = chkVB v b := by simp [callE, h0]
theorem slack_one {v : View} {b : Box} {s e s' e' : Int} (h : SlackR v b s e) (h' : SlackR v b s' e') : s = s' ∧ e = e' := by
  rcases h with ⟨h1, rfl, rfl⟩ | ⟨h1, h2, rfl, rfl⟩ | ⟨h1, h2, rfl, k, rfl, hk, hall, hend⟩
  · rcases h' with ⟨_, rfl, rfl⟩ | ⟨g1, _⟩ | ⟨g1, _⟩
    · exact ⟨rfl, rfl⟩
    · exact absurd g1 h1
    · exact absurd g1 h1
  · rcases h' with ⟨g1, _⟩ | ⟨_, _, rfl, rfl⟩ | ⟨_, g2, _⟩
    · exact absurd h1 g1
    · exact ⟨rfl, rfl⟩
    · exact absurd h2 g2
  · rcases h' with ⟨g1, _⟩ | ⟨_, g2, _⟩ | ⟨_, _, rfl, j, rfl, gj, gall, gend⟩
    · exact absurd h1 g1
    · exact absurd g2 h2
    · refine ⟨?_, rfl⟩
      rcases Nat.lt_trichotomy k j with hlt | rfl | hlt
      · rcases hend with e | e
        · omega
        · exact absurd (gall k hlt) e
      · rfl
      · rcases gend with e | e
        · omega
        · exact absurd (hall j hlt) e

theorem C_ref_Slack (v : View) (b : Box) (A : Option Addr) (n c : Nat) (w : World) (h : Rd w A 4 n v.enc) (hn : n ≤ 9223372036854775807) :
    CR Try.prog 39 [v.val A n c, b.val] w (fun x : Int × Int => SlackR v b x.1 x.2) (fun x => .tuple #[.int .i64 x.1, .int .i64 x.2]) (fun _ => []) := by
  have hlen : v.strips.length = n := by have := h.len; simpa using this
  refine ⟨en Try.func39 Try.ntmps39 ((St.init w).share (e := .ro A 4 n v.enc) h rfl rfl rfl) (h := fun F => ?_)⟩
  refine sq (h := ?_)
  refine rg (h := ?_)
  refine bxA (h := fun b0 => ?_)
  refine bxA (h := fun b1 => ?_)
  refine WL.y (hy := asg) (h := ?_)
  refine WL.y (hy := asg) (h := ?_)
  refine nl (h := ?_)
  refine q_seq (h := ?_)
  refine sq (h := ?_)
  refine sq (h := ?_)
  refine rg (h := ?_)
  refine WL.y (hy := (by first | exact ldA | exact ldEA)) (h := ?_)
  refine WL.y (hy := (by first | exact ldA | exact ldEA)) (h := ?_)
  refine cl0 (hc := fun w hS => C_ref_checkBox _ _ _ _ _ w (hS.get (by repeat (first | exact Rds.ro | exact Rds.own | apply Rds.there))) (by omega)) (h := ?_)
  refine WL.y (hy := asg) (h := ?_)
  refine nl (h := ?_)
  refine q_seq (h := ?_)
  refine sq (h := ?_)
  refine rg (h := ?_)
  refine WL.y (hy := mv) (h := ?_)
  refine WL.y (hy := neq) (h := ?_)
  refine nl (h := ?_)
  refine q_seq (h := ?_)
  refine cd (by exact rfl) (fun h0 => ?_) (fun h0 => ?_)
  · skip
    have hc0 : ¬ chkVB v b = 0 := by simpa using h0
    have hce := callE_bad hc0
    refine sq (h := ?_)
    refine rg (h := ?_)
    refine WL.y (hy := mv) (h := ?_)
    refine WL.y (hy := asg) (h := ?_)
    refine WL.y (hy := asg) (h := ?_)
    refine nl (h := ?_)
    refine q_seq (h := ?_)
    refine rtn (h := ?_)
    refine q_then_ret (h := ?_)
    refine q_ret (hR := ?_)
    exact fun w hS => ⟨(0, chkVB v b), .inl ⟨by rw [hce]; exact hc0, rfl, hce.symm⟩, rfl, hS.sub (by repeat (first | exact SubL.nil | (apply SubL.cons; (repeat (first | exact At.here | apply At.there)))))⟩
  · skip
    have hc0 : chkVB v b = 0 := by simpa using h0
    obtain ⟨hvb, hbb⟩ := chkVB_ok h0
    obtain ⟨hce, hcn⟩ := callE_of hc0
    have hvn := vbad_near hvb
    have hbok := bbad_ok hbb
    have hn8 := hvn.len
    have hrg : Rng v 1000 := fun s hs => by have := vbad_rng hvb s hs; omega
    refine skp (h := ?_)
    refine q_seq (h := ?_)
    refine sq (h := ?_)
    refine rg (h := ?_)
    refine WL.y (hy := (by first | exact ldA | exact ldEA)) (h := ?_)
    refine WL.y (hy := (by first | exact ldA | exact ldEA)) (h := ?_)
    refine cl0 (hc := fun w hS => C_ref_call _ _ _ _ _ w (hS.get (by repeat (first | exact Rds.ro | exact Rds.own | apply Rds.there))) (vbad_near (chkVB_ok ‹_›).1) (bbad_ok (chkVB_ok ‹_›).2)) (h := ?_)
    refine WL.y (hy := asg) (h := ?_)
    refine nl (h := ?_)
    refine q_seq (h := ?_)
    refine sq (h := ?_)
    refine sq (h := ?_)
    refine rg (h := ?_)
    refine WL.y (hy := mv) (h := ?_)
    refine WL.y (hy := eql) (h := ?_)
    refine nl (h := ?_)
    refine q_seq (h := ?_)
    refine cd (by exact rfl) (fun h1 => ?_) (fun h1 => ?_)
    · skip
      have hv0 : callV v b = 0 := by simpa using h1
      have he3 : callE v b = 3 := by rw [hce, hv0]; rfl
      refine sq (h := ?_)
      refine rg (h := ?_)
      refine WL.y (hy := asg) (h := ?_)
      refine WL.y (hy := asg) (h := ?_)
      refine nl (h := ?_)
      refine q_seq (h := ?_)
      refine rtn (h := ?_)
      refine q_then_ret (h := ?_)
      refine q_ret (hR := ?_)
      exact fun w hS => ⟨(0, 3), .inl ⟨by rw [he3]; decide, rfl, he3.symm⟩, rfl, hS.sub (by repeat (first | exact SubL.nil | (apply SubL.cons; (repeat (first | exact At.here | apply At.there)))))⟩
    · skip
      have hv0 : ¬ callV v b = 0 := by simpa using h1
      have he0 : callE v b = 0 := by rw [hce, decide_eq_false hv0]; rfl
      refine skp (h := ?_)
      refine q_seq (h := ?_)
      refine sq (h := ?_)
      refine sq (h := ?_)
      refine rg (h := ?_)
      refine WL.y (hy := mv) (h := ?_)
      refine WL.y (hy := eql) (h := ?_)
      refine nl (h := ?_)
      refine q_seq (h := ?_)
      refine cd (by exact rfl) (fun h2 => ?_) (fun h2 => ?_)
      · skip
        have hc3 : callN v b = 3 := by rw [hcn]; simpa using h2
        refine sq (h := ?_)
        refine rg (h := ?_)
        refine WL.y (hy := asg) (h := ?_)
        refine WL.y (hy := asg) (h := ?_)
        refine nl (h := ?_)
        refine q_seq (h := ?_)
        refine rtn (h := ?_)
        refine q_then_ret (h := ?_)
        refine q_ret (hR := ?_)
        exact fun w hS => ⟨(-1, 0), .inr (.inl ⟨he0, hc3, rfl, rfl⟩), rfl, hS.sub (by repeat (first | exact SubL.nil | (apply SubL.cons; (repeat (first | exact At.here | apply At.there)))))⟩
      · skip
        have hc3 : ¬ callN v b = 3 := by rw [hcn]; simpa using h2
        refine skp (h := ?_)
        refine q_seq (h := ?_)
        refine sq (h := ?_)
        refine rg (h := ?_)
        refine WL.y (hy := asg) (h := ?_)
        refine nl (h := ?_)
        refine q_seq (h := ?_)
        refine sq (h := ?_)
        refine bk (h := ?_)
        refine lp (X := Nat) (I := fun k => k ≤ 20 ∧ ∀ j : Nat, j < k → callV (wid v (j + 1)) b = callV v b) (le := fun k => [(2, .pointer (some ⟨b0, 0, none⟩)), (3, .pointer (some ⟨b1, 0, none⟩)), (7, .int .i64 (callV v b)), (8, .int .i64 k)]) (Le := fun _ => [.blk b0 26 (v.cells A n c), .blk b1 28 [.int .i64 b.l, .int .i64 b.r, .int .i64 b.b, .int .i64 b.t], .ro A 4 n v.enc]) (μ := fun k => 20 - k) 0 ⟨by omega, fun j hj => by omega⟩ (by repeat (first | exact trivial | refine ⟨rfl, ?_⟩)) (by repeat (first | exact SubL.nil | (apply SubL.cons; (repeat (first | exact At.here | apply At.there))))) (fun k hk => ?_)
        obtain ⟨hk, hall⟩ := hk
        refine sq (h := ?_)
        refine sq (h := ?_)
        refine rgD0 (by kernel_rfl) (h := ?_)
        refine tk 0 (hy := mv) (h := ?_)
        refine tk 1 (hy := lss) (h := ?_)
        refine tk 2 (hy := mv) (h := ?_)
        refine brH (g := 24) (by exact rfl) (fun hb3 => ?_) (fun hb3 => ?_)
        · skip
          have hk20 : k < 20 := by simp only [decide_eq_true_eq] at hb3; omega
          refine tk 3 (hy := (by first | exact ldA | exact ldEA)) (h := ?_)
          refine tk 4 (hy := mv) (h := ?_)
          refine tk 5 (hy := addI) (h := ?_)
          refine tk 7 (hy := (by first | exact ldA | exact ldEA)) (h := ?_)
          refine tk 9 (hy := mv) (h := ?_)
          refine one 6 (h := ?_)
          refine un (h := ?_)
          refine cl (hc := fun w hS => C_ref_Wider _ _ _ _ _ w (hS.get (by repeat (first | exact Rds.ro | exact Rds.own | apply Rds.there))) (by omega) ‹_› (by omega)) (h := fun x2 _ => ?_)
          refine nx (h := ?_)
          refine one 8 (h := ?_)
          refine un (h := ?_)
          refine cl0 (hc := fun w hS => C_ref_call (wid v (k + 1)) b _ _ _ w (hS.get (by repeat (first | exact Rds.ro | exact Rds.own | apply Rds.there))) (wid_near hvn) hbok) (h := ?_)
          refine nx (h := ?_)
          refine tk 10 (hy := eql) (h := ?_)
          refine tk 11 (hy := (by first | exact pkT | exact pkF)) (h := ?_)
          refine dn (h := ?_)
          refine q_seq (h := ?_)
          refine cd (by exact rfl) (fun h4 => ?_) (fun h4 => ?_)
          · skip
            have hst : k < 20 ∧ callV (wid v (k + 1)) b = callV v b := by
              first
                | exact ⟨hk20, by simpa using h4⟩
                | cases h4
            refine skp (h := ?_)
            refine q_seq (h := ?_)
            refine bk (h := ?_)
            refine rg (h := ?_)
            refine WL.y (hy := mv) (h := ?_)
            refine WL.y (hy := addI) (h := ?_)
            refine WL.y (hy := asg) (h := ?_)
            refine nl (h := ?_)
            refine q_blk_norm (h := ?_)
            refine rn (k + 1) ⟨by omega, fun j hj => ?_⟩ (by omega) (by repeat (first | exact trivial | refine ⟨rfl, ?_⟩)) (by repeat (first | exact SubL.nil | (apply SubL.cons; (repeat (first | exact At.here | apply At.there)))))
            rcases Nat.lt_succ_iff_lt_or_eq.1 hj with h | rfl
            · exact hall j h
            · exact hst.2
          · skip
            have hend : k = 20 ∨ ¬ callV (wid v (k + 1)) b = callN v b := by
              rw [hcn]
              first
                | exact .inl (by simp only [decide_eq_false_iff_not] at hb3; omega)
                | exact .inr (by simpa using h4)
            refine et (h := ?_)
            refine q_then_exit (h := ?_)
            refine q_then_exit (h := ?_)
            refine q_blk_hit (h := ?_)
            refine q_seq (h := ?_)
            refine sq (h := ?_)
            refine rg (h := ?_)
            refine WL.y (hy := mv) (h := ?_)
            refine WL.y (hy := asg) (h := ?_)
            refine WL.y (hy := asg) (h := ?_)
            refine nl (h := ?_)
            refine q_seq (h := ?_)
            refine rtn (h := ?_)
            refine q_ret (hR := ?_)
            exact fun w hS => ⟨((k : Int), 0), .inr (.inr ⟨he0, hc3, rfl, k, rfl, hk, by rw [hcn]; exact hall, hend⟩), rfl, hS.sub (by repeat (first | exact SubL.nil | (apply SubL.cons; (repeat (first | exact At.here | apply At.there)))))⟩
        · skip
          refine tkS 3 (h := ?_)
          refine tkS 4 (h := ?_)
          refine tkS 5 (h := ?_)
          refine tkS 7 (h := ?_)
          refine tkS 9 (h := ?_)
          refine tkS 6 (h := ?_)
          refine tkS 8 (h := ?_)
          refine tkS 10 (h := ?_)
          refine tk 11 (hy := (by first | exact pkT | exact pkF)) (h := ?_)
          refine dn (h := ?_)
          refine q_seq (h := ?_)
          refine cd (by exact rfl) (fun h5 => ?_) (fun h5 => ?_)
          · skip
            have hst : k < 20 ∧ callV (wid v (k + 1)) b = callV v b := by
              first
                | exact ⟨hk20, by simpa using h5⟩
                | cases h5
            refine skp (h := ?_)
            refine q_seq (h := ?_)
            refine bk (h := ?_)
            refine rg (h := ?_)
            refine WL.y (hy := mv) (h := ?_)
            refine WL.y (hy := addI) (h := ?_)
            refine WL.y (hy := asg) (h := ?_)
            refine nl (h := ?_)
            refine q_blk_norm (h := ?_)
            refine rn (k + 1) ⟨by omega, fun j hj => ?_⟩ (by omega) (by repeat (first | exact trivial | refine ⟨rfl, ?_⟩)) (by repeat (first | exact SubL.nil | (apply SubL.cons; (repeat (first | exact At.here | apply At.there)))))
            rcases Nat.lt_succ_iff_lt_or_eq.1 hj with h | rfl
            · exact hall j h
            · exact hst.2
          · skip
            have hend : k = 20 ∨ ¬ callV (wid v (k + 1)) b = callN v b := by
              rw [hcn]
              first
                | exact .inl (by simp only [decide_eq_false_iff_not] at hb3; omega)
                | exact .inr (by simpa using h5)
            refine et (h := ?_)
            refine q_then_exit (h := ?_)
            refine q_then_exit (h := ?_)
            refine q_blk_hit (h := ?_)
            refine q_seq (h := ?_)
            refine sq (h := ?_)
            refine rg (h := ?_)
            refine WL.y (hy := mv) (h := ?_)
            refine WL.y (hy := asg) (h := ?_)
            refine WL.y (hy := asg) (h := ?_)
            refine nl (h := ?_)
            refine q_seq (h := ?_)
            refine rtn (h := ?_)
            refine q_ret (hR := ?_)
            exact fun w hS => ⟨((k : Int), 0), .inr (.inr ⟨he0, hc3, rfl, k, rfl, hk, by rw [hcn]; exact hall, hend⟩), rfl, hS.sub (by repeat (first | exact SubL.nil | (apply SubL.cons; (repeat (first | exact At.here | apply At.there)))))⟩
end Go.Proofs.Ytdphljhhcaoleaa
