/- The law LinesSlack, walked. -/
import Derived.Test.YtdphljhhcaoleaaLA
namespace Go.Proofs.Ytdphljhhcaoleaa
open Go Go.RowKit

theorem vbad_ord {v : View} (h : vbad v = false) : ∀ s ∈ v.strips, s.lo ≤ s.hi := by
  simp only [vbad, Bool.or_eq_false_iff, List.any_eq_false] at h
  intro s hs
  have := h.1.1.1.1.1 s hs
  simp only [iStrip, Bool.not_eq_true, Bool.not_eq_false', Bool.and_eq_true, isp_iff] at this
  omega
theorem slack_err {v : View} {b : Box} {s e : Int} (h : SlackR v b s e) : callE v b = e := by
  rcases h with ⟨_, _, rfl⟩ | ⟨h, _, _, rfl⟩ | ⟨h, _, rfl, _⟩
  · rfl
  · exact h
  · exact h
theorem slack_open {v : View} {b : Box} {s e : Int} (h : SlackR v b s e) (he : callE v b = 0) (hc : callN v b = 3) : s = -1 := by
  rcases h with ⟨h, _⟩ | ⟨_, _, rfl, _⟩ | ⟨_, h, _⟩
  · exact absurd he h
  · rfl
  · exact absurd hc h
theorem slack_fin {g h m k own s : Int} (h1 : g = 0) (h2 : h = 0) (h3 : m = own) (h4 : s = 20 ∨ ¬ k = own) : ((((decide (g = 0) && decide (h = 0)) && decide (m = own)) && (decide (s = 20) || !decide (k = own))) && true) = true := by
  simp [h1, h2, h3, h4]

set_option maxHeartbeats 1000000 in
theorem K_LinesSlack (v : View) (b : Box) (A : Option Addr) (n c : Nat) (w : World) (h : Rd w A 4 n v.enc) (hn : n ≤ 9223372036854775807) : C0 Try.prog 11 [v.val A n c, b.val] w (.bool true) := by
  have hlen : v.strips.length = n := by have := h.len; simpa using this
  refine ⟨en Try.func11 Try.ntmps11 ((St.init w).share (e := .ro A 4 n v.enc) h rfl rfl rfl) (h := fun F => ?_)⟩
  refine sq (h := ?_)
  refine rg (h := ?_)
  refine bxA (h := fun b0 => ?_)
  refine bxA (h := fun b1 => ?_)
  refine WL.y (hy := asg) (h := ?_)
  refine nl (h := ?_)
  refine q_seq (h := ?_)
  refine sq (h := ?_)
  refine sq (h := ?_)
  refine rg (h := ?_)
  refine WL.y (hy := (by first | exact ldA | exact ldEA)) (h := ?_)
  refine WL.y (hy := (by first | exact ldA | exact ldEA)) (h := ?_)
  refine cl0 (hc := fun w hS => C_deucelaw02_valid _ _ _ _ _ w (hS.get (by repeat (first | exact Rds.ro | exact Rds.own | apply Rds.there))) (by omega)) (h := ?_)
  refine WL.y (hy := notB) (h := ?_)
  refine nl (h := ?_)
  refine q_seq (h := ?_)
  refine cd (by exact rfl) (fun h0 => ?_) (fun h0 => ?_)
  · skip
    refine sq (h := ?_)
    refine rg (h := ?_)
    refine cl0 (hc := fun w hS => C_deucelaw02_works w) (h := ?_)
    refine WL.y (hy := asg) (h := ?_)
    refine nl (h := ?_)
    refine q_seq (h := ?_)
    refine rtn (h := ?_)
    refine q_then_ret (h := ?_)
    refine q_ret (hR := ?_)
    exact fun w hS => ⟨rfl, hS.sub (by repeat (first | exact SubL.nil | (apply SubL.cons; (repeat (first | exact At.here | apply At.there)))))⟩
  · skip
    obtain ⟨hn40, hvb, hbb, _, _, _⟩ := valid_of h0
    have hrg : Rng v 1000 := fun s hs => by have := vbad_rng hvb s hs; omega
    refine skp (h := ?_)
    refine q_seq (h := ?_)
    refine sq (h := ?_)
    refine sq (h := ?_)
    refine rg (h := ?_)
    refine WL.y (hy := asg) (h := ?_)
    refine nl (h := ?_)
    refine q_seq (h := ?_)
    refine bk (h := ?_)
    refine lp (X := Nat) (I := fun k => k ≤ n ∧ ∀ s ∈ v.strips.take k, -400 ≤ s.lo ∧ s.hi ≤ 400) (le := fun k => [(2, .pointer (some ⟨b0, 0, none⟩)), (3, .pointer (some ⟨b1, 0, none⟩)), (5, .int .i64 k)]) (Le := fun _ => [.blk b0 26 (v.cells A n c), .blk b1 28 [.int .i64 b.l, .int .i64 b.r, .int .i64 b.b, .int .i64 b.t], .ro A 4 n v.enc]) (μ := fun k => n - k) 0 ⟨by omega, by simp⟩ (by repeat (first | exact trivial | refine ⟨rfl, ?_⟩)) (by repeat (first | exact SubL.nil | (apply SubL.cons; (repeat (first | exact At.here | apply At.there))))) (fun k hk => ?_)
    obtain ⟨hk, hall⟩ := hk
    refine sq (h := ?_)
    refine sq (h := ?_)
    refine rg (h := ?_)
    refine WL.y (hy := mv) (h := ?_)
    refine WL.y (hy := (by first | exact fa | exact faE)) (h := ?_)
    refine WL.y (hy := (by first | exact ld | exact ldE)) (h := ?_)
    refine WL.y (hy := lenS) (h := ?_)
    refine WL.y (hy := lss) (h := ?_)
    refine nl (h := ?_)
    refine q_seq (h := ?_)
    refine cd (by exact rfl) (fun h1 => ?_) (fun h1 => ?_)
    · skip
      have hkn : k < n := by simp only [decide_eq_true_eq] at h1; omega
      obtain ⟨s, hs⟩ : ∃ s, v.strips[k]? = some s := ⟨_, List.getElem?_eq_getElem (by omega)⟩
      have hse := enc_get hs
      refine skp (h := ?_)
      refine q_seq (h := ?_)
      refine sq (h := ?_)
      refine bk (h := ?_)
      refine sq (h := ?_)
      refine rg (h := ?_)
      refine WL.y (hy := (by first | exact fa | exact faE)) (h := ?_)
      refine WL.y (hy := (by first | exact ld | exact ldE)) (h := ?_)
      refine WL.y (hy := mv) (h := ?_)
      refine WL.y (hy := ix (A := A) (m := n) (hb := by omega)) (h := ?_)
      refine WL.y (hy := (by first | exact fa | exact faE)) (h := ?_)
      refine WL.y (hy := ldE (A := A) (hk := hse)) (h := ?_)
      refine WL.y (hy := lss) (h := ?_)
      refine WL.y (hy := mv) (h := ?_)
      apply brOr 8 33 41 (by exact rfl)
      · intro hb2
        refine un (h := ?_)
        refine WL.y (hy := (by first | exact fa | exact faE)) (h := ?_)
        refine un (h := ?_)
        refine WL.y (hy := (by first | exact ld | exact ldE)) (h := ?_)
        refine un (h := ?_)
        refine WL.y (hy := mv) (h := ?_)
        refine un (h := ?_)
        refine WL.y (hy := ix (A := A) (m := n) (hb := by omega)) (h := ?_)
        refine un (h := ?_)
        refine WL.y (hy := (by first | exact fa | exact faE)) (h := ?_)
        refine un (h := ?_)
        refine WL.y (hy := ldE (A := A) (hk := hse)) (h := ?_)
        refine un (h := ?_)
        refine WL.y (hy := gtr) (h := ?_)
        refine WL.y (hy := (by first | exact pkT | exact pkF)) (h := ?_)
        exact mg (by repeat (first | exact trivial | refine ⟨rfl, ?_⟩ | refine ⟨by rw [hb2]; rfl, ?_⟩)) (by repeat (first | exact SubL.nil | (apply SubL.cons; (repeat (first | exact At.here | apply At.there)))))
      · intro hb2
        repeat (first | refine un (h := ?_) | refine sk (h := ?_) | refine WL.y (hy := pkF) (h := ?_) | refine WL.y (hy := pkT) (h := ?_))
        exact mg (by repeat (first | exact trivial | refine ⟨rfl, ?_⟩ | refine ⟨by rw [hb2]; rfl, ?_⟩)) (by repeat (first | exact SubL.nil | (apply SubL.cons; (repeat (first | exact At.here | apply At.there)))))
      refine nl (h := ?_)
      refine q_seq (h := ?_)
      refine cd (by exact rfl) (fun h3 => ?_) (fun h3 => ?_)
      · skip
        refine sq (h := ?_)
        refine rg (h := ?_)
        refine cl0 (hc := fun w hS => C_deucelaw02_works w) (h := ?_)
        refine WL.y (hy := asg) (h := ?_)
        refine nl (h := ?_)
        refine q_seq (h := ?_)
        refine rtn (h := ?_)
        refine q_blk_ret (h := ?_)
        refine q_then_ret (h := ?_)
        refine q_then_ret (h := ?_)
        refine q_blk_ret (h := ?_)
        refine q_then_ret (h := ?_)
        refine q_ret (hR := ?_)
        exact fun w hS => ⟨rfl, hS.sub (by repeat (first | exact SubL.nil | (apply SubL.cons; (repeat (first | exact At.here | apply At.there)))))⟩
      · skip
        have hq : -400 ≤ s.lo ∧ s.hi ≤ 400 := by simp only [Bool.or_eq_false_iff, decide_eq_false_iff_not] at h3; omega
        refine skp (h := ?_)
        refine q_blk_norm (h := ?_)
        refine q_seq (h := ?_)
        refine rg (h := ?_)
        refine WL.y (hy := mv) (h := ?_)
        refine WL.y (hy := addI) (h := ?_)
        refine WL.y (hy := asg) (h := ?_)
        refine nl (h := ?_)
        refine rn (k + 1) ⟨by omega, take_next' hall hs hq⟩ (by omega) (by repeat (first | exact trivial | refine ⟨rfl, ?_⟩)) (by repeat (first | exact SubL.nil | (apply SubL.cons; (repeat (first | exact At.here | apply At.there)))))
    · skip
      have hkn : k = n := by simp only [decide_eq_false_iff_not] at h1; omega
      have hr4 : Rng v 400 := fun s hs => by
        have h1 := hall s (by rw [hkn, ← hlen, List.take_length]; exact hs)
        have h2 := vbad_ord hvb s hs
        omega
      refine et (h := ?_)
      refine q_then_exit (h := ?_)
      refine q_then_exit (h := ?_)
      refine q_blk_hit (h := ?_)
      refine q_seq (h := ?_)
      refine sq (h := ?_)
      refine rg (h := ?_)
      refine WL.y (hy := (by first | exact ldA | exact ldEA)) (h := ?_)
      refine WL.y (hy := (by first | exact ldA | exact ldEA)) (h := ?_)
      refine cl0 (hc := fun w hS => C_lines_Call _ _ _ _ _ w (hS.get (by repeat (first | exact Rds.ro | exact Rds.own | apply Rds.there))) (by omega)) (h := ?_); rw [callR_eq]
      refine WL.y (hy := mv) (h := ?_)
      refine WL.y (hy := ex) (h := ?_)
      refine WL.y (hy := ex) (h := ?_)
      refine WL.y (hy := asg) (h := ?_)
      refine WL.y (hy := asg) (h := ?_)
      refine nl (h := ?_)
      refine q_seq (h := ?_)
      refine sq (h := ?_)
      refine rg (h := ?_)
      refine WL.y (hy := (by first | exact ldA | exact ldEA)) (h := ?_)
      refine WL.y (hy := (by first | exact ldA | exact ldEA)) (h := ?_)
      refine cl (hc := fun w hS => C_lines_Slack _ _ _ _ _ w (hS.get (by repeat (first | exact Rds.ro | exact Rds.own | apply Rds.there))) (by omega)) (h := fun x4 hx4 => ?_)
      refine WL.y (hy := mv) (h := ?_)
      refine WL.y (hy := ex) (h := ?_)
      refine WL.y (hy := ex) (h := ?_)
      refine WL.y (hy := asg) (h := ?_)
      refine WL.y (hy := asg) (h := ?_)
      refine nl (h := ?_)
      refine q_seq (h := ?_)
      refine sq (h := ?_)
      refine sq (h := ?_)
      refine rg (h := ?_)
      refine WL.y (hy := mv) (h := ?_)
      refine WL.y (hy := mv) (h := ?_)
      refine WL.y (hy := neq) (h := ?_)
      refine nl (h := ?_)
      refine q_seq (h := ?_)
      refine cd (by exact rfl) (fun h4 => ?_) (fun h4 => ?_)
      · skip
        exact absurd (slack_err hx4) (by simpa using h4)
      · skip
        refine skp (h := ?_)
        refine q_seq (h := ?_)
        refine sq (h := ?_)
        refine sq (h := ?_)
        refine rg (h := ?_)
        refine WL.y (hy := mv) (h := ?_)
        refine WL.y (hy := neq) (h := ?_)
        refine nl (h := ?_)
        refine q_seq (h := ?_)
        refine cd (by exact rfl) (fun h5 => ?_) (fun h5 => ?_)
        · skip
          refine sq (h := ?_)
          refine rg (h := ?_)
          refine cl0 (hc := fun w hS => C_deucelaw02_works w) (h := ?_)
          refine WL.y (hy := asg) (h := ?_)
          refine nl (h := ?_)
          refine q_seq (h := ?_)
          refine rtn (h := ?_)
          refine q_then_ret (h := ?_)
          refine q_ret (hR := ?_)
          exact fun w hS => ⟨rfl, hS.sub (by repeat (first | exact SubL.nil | (apply SubL.cons; (repeat (first | exact At.here | apply At.there)))))⟩
        · skip
          have he0 : callE v b = 0 := by simpa using h5
          refine skp (h := ?_)
          refine q_seq (h := ?_)
          refine sq (h := ?_)
          refine sq (h := ?_)
          refine rg (h := ?_)
          refine WL.y (hy := mv) (h := ?_)
          refine WL.y (hy := eql) (h := ?_)
          refine nl (h := ?_)
          refine q_seq (h := ?_)
          refine cd (by exact rfl) (fun h6 => ?_) (fun h6 => ?_)
          · skip
            have hs1 := slack_open hx4 he0 (by simpa using h6)
            refine sq (h := ?_)
            refine rg (h := ?_)
            refine WL.y (hy := mv) (h := ?_)
            refine WL.y (hy := eql) (h := ?_)
            refine WL.y (hy := mv) (h := ?_)
            apply brAnd 2 65 67 (by exact rfl)
            · intro hb7
              refine un (h := ?_)
              refine cl0 (hc := fun w hS => C_deucelaw02_works w) (h := ?_)
              refine WL.y (hy := (by first | exact pkT | exact pkF)) (h := ?_)
              exact mg (by repeat (first | exact trivial | refine ⟨rfl, ?_⟩ | refine ⟨by rw [hb7]; rfl, ?_⟩)) (by repeat (first | exact SubL.nil | (apply SubL.cons; (repeat (first | exact At.here | apply At.there)))))
            · intro hb7
              repeat (first | refine un (h := ?_) | refine sk (h := ?_) | refine WL.y (hy := pkF) (h := ?_) | refine WL.y (hy := pkT) (h := ?_))
              exact mg (by repeat (first | exact trivial | refine ⟨rfl, ?_⟩ | refine ⟨by rw [hb7]; rfl, ?_⟩)) (by repeat (first | exact SubL.nil | (apply SubL.cons; (repeat (first | exact At.here | apply At.there)))))
            refine WL.y (hy := asg) (h := ?_)
            refine nl (h := ?_)
            refine q_seq (h := ?_)
            refine rtn (h := ?_)
            refine q_then_ret (h := ?_)
            refine q_ret (hR := ?_)
            exact fun w hS => ⟨congrArg (fun x => Ending.returned (Value.bool x)) (by rw [hs1]; rfl), hS.sub (by repeat (first | exact SubL.nil | (apply SubL.cons; (repeat (first | exact At.here | apply At.there)))))⟩
          · skip
            obtain ⟨hl1, hl2, hl3, hl4, hl5, hl6⟩ := slack_law hx4 he0 (by simpa using h6) hr4
            refine skp (h := ?_)
            refine q_seq (h := ?_)
            refine sq (h := ?_)
            refine sq (h := ?_)
            refine rg (h := ?_)
            refine WL.y (hy := mv) (h := ?_)
            refine WL.y (hy := lss) (h := ?_)
            refine WL.y (hy := mv) (h := ?_)
            apply brOr 3 70 73 (by exact rfl)
            · intro hb8
              refine un (h := ?_)
              refine WL.y (hy := mv) (h := ?_)
              refine un (h := ?_)
              refine WL.y (hy := gtr) (h := ?_)
              refine WL.y (hy := (by first | exact pkT | exact pkF)) (h := ?_)
              exact mg (by repeat (first | exact trivial | refine ⟨rfl, ?_⟩ | refine ⟨by rw [hb8]; rfl, ?_⟩)) (by repeat (first | exact SubL.nil | (apply SubL.cons; (repeat (first | exact At.here | apply At.there)))))
            · intro hb8
              repeat (first | refine un (h := ?_) | refine sk (h := ?_) | refine WL.y (hy := pkF) (h := ?_) | refine WL.y (hy := pkT) (h := ?_))
              exact mg (by repeat (first | exact trivial | refine ⟨rfl, ?_⟩ | refine ⟨by rw [hb8]; rfl, ?_⟩)) (by repeat (first | exact SubL.nil | (apply SubL.cons; (repeat (first | exact At.here | apply At.there)))))
            refine nl (h := ?_)
            refine q_seq (h := ?_)
            refine cd (by exact rfl) (fun h9 => ?_) (fun h9 => ?_)
            · skip
              exact absurd h9 (by simp only [Bool.or_eq_true, decide_eq_true_eq]; omega)
            · skip
              refine skp (h := ?_)
              refine q_seq (h := ?_)
              refine sq (h := ?_)
              refine rgD0 (by kernel_rfl) (h := ?_)
              refine tk 0 (hy := (by first | exact ldA | exact ldEA)) (h := ?_)
              refine tk 1 (hy := mv) (h := ?_)
              refine tk 3 (hy := (by first | exact ldA | exact ldEA)) (h := ?_)
              refine one 2 (h := ?_)
              refine cl (hc := fun w hS => C_ref_Wider _ _ _ _ _ w (hS.get (by repeat (first | exact Rds.ro | exact Rds.own | apply Rds.there))) (by omega) ‹_› (by omega)) (h := fun x7 _ => ?_)
              refine nx (h := ?_)
              refine one 4 (h := ?_)
              refine cl0 (hc := fun w hS => C_lines_Call (wid v x4.1) b _ _ _ w (hS.get (by repeat (first | exact Rds.ro | exact Rds.own | apply Rds.there))) (by omega)) (h := ?_)
              rw [callR_eq]
              refine nx (h := ?_)
              refine tk 5 (hy := mv) (h := ?_)
              refine tk 6 (hy := ex) (h := ?_)
              refine tk 7 (hy := ex) (h := ?_)
              refine tk 8 (hy := asg) (h := ?_)
              refine tk 9 (hy := asg) (h := ?_)
              refine dn (h := ?_)
              refine q_seq (h := ?_)
              refine sq (h := ?_)
              refine rgD0 (by kernel_rfl) (h := ?_)
              refine tk 0 (hy := (by first | exact ldA | exact ldEA)) (h := ?_)
              refine tk 1 (hy := mv) (h := ?_)
              refine tk 2 (hy := addI) (h := ?_)
              refine tk 4 (hy := (by first | exact ldA | exact ldEA)) (h := ?_)
              refine one 3 (h := ?_)
              refine cl (hc := fun w hS => C_ref_Wider _ _ _ _ _ w (hS.get (by repeat (first | exact Rds.ro | exact Rds.own | apply Rds.there))) (by omega) ‹_› (by omega)) (h := fun x8 _ => ?_)
              refine nx (h := ?_)
              refine one 5 (h := ?_)
              refine cl0 (hc := fun w hS => C_lines_Call (wid v (x4.1 + 1)) b _ _ _ w (hS.get (by repeat (first | exact Rds.ro | exact Rds.own | apply Rds.there))) (by omega)) (h := ?_)
              rw [callR_eq]
              refine nx (h := ?_)
              refine tk 6 (hy := mv) (h := ?_)
              refine tk 7 (hy := ex) (h := ?_)
              refine tk 8 (hy := ex) (h := ?_)
              refine tk 9 (hy := asg) (h := ?_)
              refine tk 10 (hy := asg) (h := ?_)
              refine dn (h := ?_)
              refine q_seq (h := ?_)
              refine sq (h := ?_)
              refine rg (h := ?_)
              refine WL.y (hy := mv) (h := ?_)
              refine WL.y (hy := eql) (h := ?_)
              refine WL.y (hy := mv) (h := ?_)
              apply brAnd 3 93 96 (by exact rfl)
              · intro hb10
                refine un (h := ?_)
                refine WL.y (hy := mv) (h := ?_)
                refine un (h := ?_)
                refine WL.y (hy := eql) (h := ?_)
                refine WL.y (hy := (by first | exact pkT | exact pkF)) (h := ?_)
                exact mg (by repeat (first | exact trivial | refine ⟨rfl, ?_⟩ | refine ⟨by rw [hb10]; rfl, ?_⟩)) (by repeat (first | exact SubL.nil | (apply SubL.cons; (repeat (first | exact At.here | apply At.there)))))
              · intro hb10
                repeat (first | refine un (h := ?_) | refine sk (h := ?_) | refine WL.y (hy := pkF) (h := ?_) | refine WL.y (hy := pkT) (h := ?_))
                exact mg (by repeat (first | exact trivial | refine ⟨rfl, ?_⟩ | refine ⟨by rw [hb10]; rfl, ?_⟩)) (by repeat (first | exact SubL.nil | (apply SubL.cons; (repeat (first | exact At.here | apply At.there)))))
              refine WL.y (hy := mv) (h := ?_)
              apply brAnd 4 97 101 (by exact rfl)
              · intro hb11
                refine un (h := ?_)
                refine WL.y (hy := mv) (h := ?_)
                refine un (h := ?_)
                refine WL.y (hy := mv) (h := ?_)
                refine un (h := ?_)
                refine WL.y (hy := eql) (h := ?_)
                refine WL.y (hy := (by first | exact pkT | exact pkF)) (h := ?_)
                exact mg (by repeat (first | exact trivial | refine ⟨rfl, ?_⟩ | refine ⟨by rw [hb11]; rfl, ?_⟩)) (by repeat (first | exact SubL.nil | (apply SubL.cons; (repeat (first | exact At.here | apply At.there)))))
              · intro hb11
                repeat (first | refine un (h := ?_) | refine sk (h := ?_) | refine WL.y (hy := pkF) (h := ?_) | refine WL.y (hy := pkT) (h := ?_))
                exact mg (by repeat (first | exact trivial | refine ⟨rfl, ?_⟩ | refine ⟨by rw [hb11]; rfl, ?_⟩)) (by repeat (first | exact SubL.nil | (apply SubL.cons; (repeat (first | exact At.here | apply At.there)))))
              refine WL.y (hy := mv) (h := ?_)
              apply brAnd 8 102 110 (by exact rfl)
              · intro hb12
                refine un (h := ?_)
                refine WL.y (hy := mv) (h := ?_)
                refine un (h := ?_)
                refine WL.y (hy := eql) (h := ?_)
                refine un (h := ?_)
                refine WL.y (hy := mv) (h := ?_)
                apply brOr 4 105 109 (by exact rfl)
                · intro hb13
                  refine un (h := ?_)
                  refine WL.y (hy := mv) (h := ?_)
                  refine un (h := ?_)
                  refine WL.y (hy := mv) (h := ?_)
                  refine un (h := ?_)
                  refine WL.y (hy := neq) (h := ?_)
                  refine un (h := ?_)
                  refine WL.y (hy := (by first | exact pkT | exact pkF)) (h := ?_)
                  exact mg (by repeat (first | exact trivial | refine ⟨rfl, ?_⟩ | refine ⟨by rw [hb13]; rfl, ?_⟩ | refine ⟨by rw [hb12]; rfl, ?_⟩)) (by repeat (first | exact SubL.nil | (apply SubL.cons; (repeat (first | exact At.here | apply At.there)))))
                · intro hb13
                  repeat (first | refine un (h := ?_) | refine sk (h := ?_) | refine WL.y (hy := pkF) (h := ?_) | refine WL.y (hy := pkT) (h := ?_))
                  exact mg (by repeat (first | exact trivial | refine ⟨rfl, ?_⟩ | refine ⟨by rw [hb13]; rfl, ?_⟩ | refine ⟨by rw [hb12]; rfl, ?_⟩)) (by repeat (first | exact SubL.nil | (apply SubL.cons; (repeat (first | exact At.here | apply At.there)))))
                refine WL.y (hy := (by first | exact pkT | exact pkF)) (h := ?_)
                exact mg (by repeat (first | exact trivial | refine ⟨rfl, ?_⟩ | refine ⟨by rw [hb12]; rfl, ?_⟩)) (by repeat (first | exact SubL.nil | (apply SubL.cons; (repeat (first | exact At.here | apply At.there)))))
              · intro hb12
                repeat (first | refine un (h := ?_) | refine sk (h := ?_) | refine WL.y (hy := pkF) (h := ?_) | refine WL.y (hy := pkT) (h := ?_))
                exact mg (by repeat (first | exact trivial | refine ⟨rfl, ?_⟩ | refine ⟨by rw [hb12]; rfl, ?_⟩)) (by repeat (first | exact SubL.nil | (apply SubL.cons; (repeat (first | exact At.here | apply At.there)))))
              refine WL.y (hy := mv) (h := ?_)
              apply brAnd 2 111 113 (by exact rfl)
              · intro hb14
                refine un (h := ?_)
                refine cl0 (hc := fun w hS => C_deucelaw02_works w) (h := ?_)
                refine WL.y (hy := (by first | exact pkT | exact pkF)) (h := ?_)
                exact mg (by repeat (first | exact trivial | refine ⟨rfl, ?_⟩ | refine ⟨by rw [hb14]; rfl, ?_⟩)) (by repeat (first | exact SubL.nil | (apply SubL.cons; (repeat (first | exact At.here | apply At.there)))))
              · intro hb14
                repeat (first | refine un (h := ?_) | refine sk (h := ?_) | refine WL.y (hy := pkF) (h := ?_) | refine WL.y (hy := pkT) (h := ?_))
                exact mg (by repeat (first | exact trivial | refine ⟨rfl, ?_⟩ | refine ⟨by rw [hb14]; rfl, ?_⟩)) (by repeat (first | exact SubL.nil | (apply SubL.cons; (repeat (first | exact At.here | apply At.there)))))
              refine WL.y (hy := asg) (h := ?_)
              refine nl (h := ?_)
              refine q_seq (h := ?_)
              refine rtn (h := ?_)
              refine q_ret (hR := ?_)
              exact fun w hS => ⟨congrArg (fun x => Ending.returned (Value.bool x)) (slack_fin hl3 hl4 hl5 hl6), hS.sub (by repeat (first | exact SubL.nil | (apply SubL.cons; (repeat (first | exact At.here | apply At.there)))))⟩
end Go.Proofs.Ytdphljhhcaoleaa
