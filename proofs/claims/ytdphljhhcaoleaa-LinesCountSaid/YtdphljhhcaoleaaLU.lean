/- Walk of the reference's Run. -/
import Derived.Test.YtdphljhhcaoleaaLT
namespace Go.Proofs.Ytdphljhhcaoleaa
open Go Go.RowKit

def refBad (a : Appeal) : Bool := !wi a.kind 1 3 || (!decide (a.side = 0) && !decide (a.side = 1)) && decide (a.kind = 3)
theorem wi_side {a : Int} : wi a 0 1 = true ↔ a = 0 ∨ a = 1 := by rw [wi_iff]; omega
theorem refBad_none {each more : Int} {a : Appeal} {s : RS} (h : refBad a = true) : stepA each more a s = none := by
  have h' : ¬ (1 ≤ a.kind ∧ a.kind ≤ 3) ∨ ((¬ a.side = 0 ∧ ¬ a.side = 1) ∧ a.kind = 3) := by
    simp only [refBad, Bool.or_eq_true, Bool.and_eq_true, Bool.not_eq_true', decide_eq_false_iff_not, decide_eq_true_eq] at h
    rcases h with h | h
    · left; intro hk; rw [wi_iff.2 hk] at h; cases h
    · exact .inr h
  unfold stepA
  by_cases h1 : a.kind = 1
  · omega
  · by_cases h2 : a.kind = 2
    · omega
    · by_cases h3 : a.kind = 3
      · have hb : askBad a s = true := by
          have hw : wi a.side 0 1 = false := by
            cases hq : wi a.side 0 1
            · rfl
            · rw [wi_side] at hq; omega
          simp [askBad, hw]
        rw [decide_eq_false h1, decide_eq_false h2, decide_eq_true h3, hb]; rfl
      · rw [decide_eq_false h1, decide_eq_false h2, decide_eq_false h3]; rfl
theorem refBad_ok {a : Appeal} (h : refBad a = false) : (1 ≤ a.kind ∧ a.kind ≤ 3) ∧ (a.kind = 3 → 0 ≤ a.side ∧ a.side ≤ 1) := by
  simp only [refBad, Bool.or_eq_false_iff, wi_iff, Bool.and_eq_false_iff, Bool.not_eq_false', decide_eq_false_iff_not, decide_eq_true_eq] at h
  omega
theorem askBad_ref {a : Appeal} {s : RS} (h : 0 ≤ a.side ∧ a.side ≤ 1) : askBad a s = (!decide (decE a.said a.v a.b = 0) || decide (s.lft a.side = 0)) := by
  rw [askBad, wi_iff.2 h]; simp

theorem C_ref_Run (each more : Int) (aps : List Appeal) (A : Option Addr) (n c : Nat) (w : World) (h : Rd w A 14 n (aps.map Appeal.enc)) (hs : ∀ a ∈ aps, a.ok w) (hn : n ≤ 9223372036854775807) :
    CR Try.prog 36 [.agg #[.int .i64 each, .int .i64 more], .slice A n c] w (fun _ : Option Addr × Nat => True) (fun p => .tuple #[.slice p.1 (runD (runV each more aps)).length p.2, .agg #[.int .i64 (runX (runV each more aps)), .int .i64 (runY (runV each more aps))], .int .i64 (runE (runV each more aps))]) (fun p => [.own p.1 p.2 3 1 (runD (runV each more aps)).length (encI (runD (runV each more aps)))]) := by
  have hlen : aps.length = n := by have := h.len; simpa using this
  refine ⟨en Try.func36 Try.ntmps36 ((St.init w).share (e := .ro A 14 n (aps.map Appeal.enc)) h rfl rfl rfl) (h := fun F => ?_)⟩
  refine sq (h := ?_)
  refine rg (h := ?_)
  refine bxA (h := fun b0 => ?_)
  refine WL.y (hy := asg) (h := ?_)
  refine al (h := fun b1 => ?_)
  refine WL.y (hy := asg) (h := ?_)
  refine nl (h := ?_)
  refine q_seq (h := ?_)
  refine sq (h := ?_)
  refine sq (h := ?_)
  refine rg (h := ?_)
  refine WL.y (hy := (by first | exact fa | exact faE)) (h := ?_)
  refine WL.y (hy := (by first | exact ld | exact ldE)) (h := ?_)
  refine cl0 (hc := fun w hS => C_ref_within ..) (h := ?_)
  refine WL.y (hy := notB) (h := ?_)
  refine WL.y (hy := mv) (h := ?_)
  apply brOr 5 16 21 (by exact rfl)
  · intro hb0
    refine un (h := ?_)
    refine WL.y (hy := (by first | exact fa | exact faE)) (h := ?_)
    refine un (h := ?_)
    refine WL.y (hy := (by first | exact ld | exact ldE)) (h := ?_)
    refine un (h := ?_)
    refine cl0 (hc := fun w hS => C_ref_within ..) (h := ?_)
    refine un (h := ?_)
    refine WL.y (hy := notB) (h := ?_)
    refine WL.y (hy := (by first | exact pkT | exact pkF)) (h := ?_)
    exact mg (by repeat (first | exact trivial | refine ⟨rfl, ?_⟩ | refine ⟨by rw [hb0]; rfl, ?_⟩)) (by repeat (first | exact SubL.nil | (apply SubL.cons; (repeat (first | exact At.here | apply At.there)))))
  · intro hb0
    repeat (first | refine un (h := ?_) | refine sk (h := ?_) | refine WL.y (hy := pkF) (h := ?_) | refine WL.y (hy := pkT) (h := ?_))
    exact mg (by repeat (first | exact trivial | refine ⟨rfl, ?_⟩ | refine ⟨by rw [hb0]; rfl, ?_⟩)) (by repeat (first | exact SubL.nil | (apply SubL.cons; (repeat (first | exact At.here | apply At.there)))))
  refine WL.y (hy := mv) (h := ?_)
  apply brOr 4 22 26 (by exact rfl)
  · intro hb1
    refine un (h := ?_)
    refine WL.y (hy := mv) (h := ?_)
    refine un (h := ?_)
    refine WL.y (hy := lenS) (h := ?_)
    refine un (h := ?_)
    refine WL.y (hy := gtr) (h := ?_)
    refine WL.y (hy := (by first | exact pkT | exact pkF)) (h := ?_)
    exact mg (by repeat (first | exact trivial | refine ⟨rfl, ?_⟩ | refine ⟨by rw [hb1]; rfl, ?_⟩)) (by repeat (first | exact SubL.nil | (apply SubL.cons; (repeat (first | exact At.here | apply At.there)))))
  · intro hb1
    repeat (first | refine un (h := ?_) | refine sk (h := ?_) | refine WL.y (hy := pkF) (h := ?_) | refine WL.y (hy := pkT) (h := ?_))
    exact mg (by repeat (first | exact trivial | refine ⟨rfl, ?_⟩ | refine ⟨by rw [hb1]; rfl, ?_⟩)) (by repeat (first | exact SubL.nil | (apply SubL.cons; (repeat (first | exact At.here | apply At.there)))))
  refine nl (h := ?_)
  refine q_seq (h := ?_)
  refine cd (by exact rfl) (fun h2 => ?_) (fun h2 => ?_)
  · skip
    have hrun : runV each more aps = none := runV_bad (by rw [hlen]; exact h2)
    refine sq (h := ?_)
    refine rg (h := ?_)
    refine WL.y (hy := bdA) (h := ?_)
    refine WL.y (hy := asg) (h := ?_)
    first | refine stA (h := ?_) | refine stEA (h := ?_)
    refine WL.y (hy := asg) (h := ?_)
    refine WL.nilOwn 3 1 (h := ?_)
    refine nl (h := ?_)
    refine q_seq (h := ?_)
    refine rtn (h := ?_)
    refine q_then_ret (h := ?_)
    refine q_ret (hR := ?_)
    rw [hrun]
    first
      | exact fun w hS => ⟨(none, 0), trivial, rfl, hS.sub (by repeat (first | exact SubL.nil | (apply SubL.cons; (repeat (first | exact At.here | apply At.there)))))⟩
      | exact fun w hS => ⟨(z.A, z.c), trivial, rfl, hS.sub (by repeat (first | exact SubL.nil | (apply SubL.cons; (repeat (first | exact At.here | apply At.there)))))⟩
  · skip
    have hrb : ruleBad each more aps.length = false := by rw [hlen]; exact h2
    have hrv := runV_run hrb
    obtain ⟨he9, hm9, hn30⟩ := ruleBad_out hrb
    refine skp (h := ?_)
    refine q_seq (h := ?_)
    refine sq (h := ?_)
    refine sq (h := ?_)
    refine WC.nilOwn 3 1 (h := ?_)
    refine rg (h := ?_)
    refine WL.y (hy := asg) (h := ?_)
    refine nl (h := ?_)
    refine q_seq (h := ?_)
    refine bk (h := ?_)
    refine lp (X := RZ) (I := fun z => z.k ≤ n ∧ runTo each more aps z.k = some z.s) (le := fun z => [(1, .slice A n c), (2, .pointer (some ⟨b0, 0, none⟩)), (4, .slice z.A z.s.ds.length z.c), (5, .pointer (some ⟨b1, 0, none⟩)), (7, .int .i64 z.k)]) (Le := fun z => [.own z.A z.c 3 1 z.s.ds.length (encI z.s.ds), .blk b0 64 [.int .i64 each, .int .i64 more], .blk b1 66 [.int .i64 z.s.x, .int .i64 z.s.y], .ro A 14 n (aps.map Appeal.enc)]) (μ := fun z => n - z.k) ⟨0, ⟨[], 0, 0⟩, none, 0⟩ ⟨Nat.zero_le _, rfl⟩ (by repeat (first | exact trivial | refine ⟨rfl, ?_⟩)) (by repeat (first | exact SubL.nil | (apply SubL.cons; (repeat (first | exact At.here | apply At.there))))) (fun z hz => ?_)
    obtain ⟨hzk, hzr⟩ := hz
    obtain ⟨hz1, hz2, hzl⟩ := runTo_bnd he9 hm9 hzr
    refine sq (h := ?_)
    refine sq (h := ?_)
    refine rg (h := ?_)
    refine WL.y (hy := mv) (h := ?_)
    refine WL.y (hy := mv) (h := ?_)
    refine WL.y (hy := lenS) (h := ?_)
    refine WL.y (hy := lss) (h := ?_)
    refine nl (h := ?_)
    refine q_seq (h := ?_)
    refine cd (by exact rfl) (fun h3 => ?_) (fun h3 => ?_)
    · skip
      have hkn : z.k < n := by simp only [decide_eq_true_eq] at h3; omega
      obtain ⟨a, ha⟩ : ∃ a, aps[z.k]? = some a := ⟨_, List.getElem?_eq_getElem (by omega)⟩
      have hae : (aps.map Appeal.enc)[z.k]? = some a.enc := by rw [List.getElem?_map, ha]; rfl
      have hstep := runTo_succ hzr ha
      refine skp (h := ?_)
      refine q_seq (h := ?_)
      refine sq (h := ?_)
      refine bk (h := ?_)
      refine sq (h := ?_)
      refine rg (h := ?_)
      refine WL.y (hy := mv) (h := ?_)
      refine WL.y (hy := mv) (h := ?_)
      refine WL.y (hy := ix (hb := by omega)) (h := ?_)
      refine WL.y (hy := ldEW (k := z.k) (cs := a.enc) (hk := hae)) (h := ?_)
      refine al (h := fun b2 => ?_)
      first | refine stA (h := ?_) | refine stEA (h := ?_)
      refine nl (h := ?_)
      refine q_seq (h := ?_)
      refine sq (h := ?_)
      refine sq (h := ?_)
      refine rg (h := ?_)
      refine WL.y (hy := (by first | exact fa | exact faE)) (h := ?_)
      refine WL.y (hy := (by first | exact ld | exact ldE)) (h := ?_)
      refine cl0 (hc := fun w hS => C_ref_within ..) (h := ?_)
      refine WL.y (hy := notB) (h := ?_)
      refine WL.y (hy := mv) (h := ?_)
      apply brOr 14 42 56 (by exact rfl)
      · intro hb4
        refine un (h := ?_)
        refine WL.y (hy := (by first | exact fa | exact faE)) (h := ?_)
        refine un (h := ?_)
        refine WL.y (hy := (by first | exact ld | exact ldE)) (h := ?_)
        refine un (h := ?_)
        refine WL.y (hy := neq) (h := ?_)
        refine un (h := ?_)
        refine WL.y (hy := mv) (h := ?_)
        apply brAnd 4 46 50 (by exact rfl)
        · intro hb5
          refine un (h := ?_)
          refine WL.y (hy := (by first | exact fa | exact faE)) (h := ?_)
          refine un (h := ?_)
          refine WL.y (hy := (by first | exact ld | exact ldE)) (h := ?_)
          refine un (h := ?_)
          refine WL.y (hy := neq) (h := ?_)
          refine un (h := ?_)
          refine WL.y (hy := (by first | exact pkT | exact pkF)) (h := ?_)
          exact mg (by repeat (first | exact trivial | refine ⟨rfl, ?_⟩ | refine ⟨by rw [hb5]; rfl, ?_⟩ | refine ⟨by rw [hb4]; rfl, ?_⟩)) (by repeat (first | exact SubL.nil | (apply SubL.cons; (repeat (first | exact At.here | apply At.there)))))
        · intro hb5
          repeat (first | refine un (h := ?_) | refine sk (h := ?_) | refine WL.y (hy := pkF) (h := ?_) | refine WL.y (hy := pkT) (h := ?_))
          exact mg (by repeat (first | exact trivial | refine ⟨rfl, ?_⟩ | refine ⟨by rw [hb5]; rfl, ?_⟩ | refine ⟨by rw [hb4]; rfl, ?_⟩)) (by repeat (first | exact SubL.nil | (apply SubL.cons; (repeat (first | exact At.here | apply At.there)))))
        refine un (h := ?_)
        refine WL.y (hy := mv) (h := ?_)
        apply brAnd 4 51 55 (by exact rfl)
        · intro hb6
          refine un (h := ?_)
          refine WL.y (hy := (by first | exact fa | exact faE)) (h := ?_)
          refine un (h := ?_)
          refine WL.y (hy := (by first | exact ld | exact ldE)) (h := ?_)
          refine un (h := ?_)
          refine WL.y (hy := eql) (h := ?_)
          refine un (h := ?_)
          refine WL.y (hy := (by first | exact pkT | exact pkF)) (h := ?_)
          exact mg (by repeat (first | exact trivial | refine ⟨rfl, ?_⟩ | refine ⟨by rw [hb6]; rfl, ?_⟩ | refine ⟨by rw [hb4]; rfl, ?_⟩)) (by repeat (first | exact SubL.nil | (apply SubL.cons; (repeat (first | exact At.here | apply At.there)))))
        · intro hb6
          repeat (first | refine un (h := ?_) | refine sk (h := ?_) | refine WL.y (hy := pkF) (h := ?_) | refine WL.y (hy := pkT) (h := ?_))
          exact mg (by repeat (first | exact trivial | refine ⟨rfl, ?_⟩ | refine ⟨by rw [hb6]; rfl, ?_⟩ | refine ⟨by rw [hb4]; rfl, ?_⟩)) (by repeat (first | exact SubL.nil | (apply SubL.cons; (repeat (first | exact At.here | apply At.there)))))
        refine WL.y (hy := (by first | exact pkT | exact pkF)) (h := ?_)
        exact mg (by repeat (first | exact trivial | refine ⟨rfl, ?_⟩ | refine ⟨by rw [hb4]; rfl, ?_⟩)) (by repeat (first | exact SubL.nil | (apply SubL.cons; (repeat (first | exact At.here | apply At.there)))))
      · intro hb4
        repeat (first | refine un (h := ?_) | refine sk (h := ?_) | refine WL.y (hy := pkF) (h := ?_) | refine WL.y (hy := pkT) (h := ?_))
        exact mg (by repeat (first | exact trivial | refine ⟨rfl, ?_⟩ | refine ⟨by rw [hb4]; rfl, ?_⟩)) (by repeat (first | exact SubL.nil | (apply SubL.cons; (repeat (first | exact At.here | apply At.there)))))
      refine nl (h := ?_)
      refine q_seq (h := ?_)
      refine cd (by exact rfl) (fun h7 => ?_) (fun h7 => ?_)
      · skip
        have hrun : runV each more aps = none := by rw [hrv]; exact runTo_none (j := z.k + 1) (by rw [hstep]; exact refBad_none h7) (by omega)
        refine sq (h := ?_)
        refine rg (h := ?_)
        refine WL.y (hy := bdA) (h := ?_)
        refine WL.y (hy := asg) (h := ?_)
        first | refine stA (h := ?_) | refine stEA (h := ?_)
        refine WL.y (hy := asg) (h := ?_)
        refine WL.nilOwn 3 1 (h := ?_)
        refine nl (h := ?_)
        refine q_seq (h := ?_)
        refine rtn (h := ?_)
        refine q_then_ret (h := ?_)
        refine q_blk_ret (h := ?_)
        refine q_then_ret (h := ?_)
        refine q_then_ret (h := ?_)
        refine q_blk_ret (h := ?_)
        refine q_then_ret (h := ?_)
        refine q_ret (hR := ?_)
        rw [hrun]
        first
          | exact fun w hS => ⟨(none, 0), trivial, rfl, hS.sub (by repeat (first | exact SubL.nil | (apply SubL.cons; (repeat (first | exact At.here | apply At.there)))))⟩
          | exact fun w hS => ⟨(z.A, z.c), trivial, rfl, hS.sub (by repeat (first | exact SubL.nil | (apply SubL.cons; (repeat (first | exact At.here | apply At.there)))))⟩
      · skip
        obtain ⟨hkr, hksd⟩ := refBad_ok h7
        refine skp (h := ?_)
        refine q_seq (h := ?_)
        refine sq (h := ?_)
        refine rg (h := ?_)
        refine WL.y (hy := (by first | exact fa | exact faE)) (h := ?_)
        refine WL.y (hy := (by first | exact ld | exact ldE)) (h := ?_)
        refine nl (h := ?_)
        refine q_seq (h := ?_)
        refine bk (h := ?_)
        refine sq (h := ?_)
        refine rg (h := ?_)
        refine WL.y (hy := eql) (h := ?_)
        refine WL.y (hy := asg) (h := ?_)
        refine nl (h := ?_)
        refine q_seq (h := ?_)
        refine cd (by exact rfl) (fun h8 => ?_) (fun h8 => ?_)
        · skip
          have hnx : runTo each more aps (z.k + 1) = some ⟨z.s.ds, each, each⟩ := by rw [hstep, stepA, h8]; rfl
          refine rg (h := ?_)
          refine WL.y (hy := (by first | exact fa | exact faE)) (h := ?_)
          refine WL.y (hy := (by first | exact ld | exact ldE)) (h := ?_)
          refine WL.y (hy := (by first | exact fa | exact faE)) (h := ?_)
          refine WL.y (hy := (by first | exact ld | exact ldE)) (h := ?_)
          refine WL.y (hy := bdA) (h := ?_)
          first | refine stA (h := ?_) | refine stEA (h := ?_)
          refine nl (h := ?_)
          refine q_blk_norm (h := ?_)
          refine q_blk_norm (h := ?_)
          refine q_seq (h := ?_)
          refine rg (h := ?_)
          refine WL.y (hy := mv) (h := ?_)
          refine WL.y (hy := addI) (h := ?_)
          refine WL.y (hy := asg) (h := ?_)
          refine nl (h := ?_)
          refine rn (x := z) ⟨z.k + 1, _, _, _⟩ ⟨by dsimp only; omega, hnx⟩ (by dsimp only; omega) (by (try dsimp only [RS.dec]); (try rw [List.length_append]); repeat (first | exact trivial | refine ⟨rfl, ?_⟩)) (by (try dsimp only [RS.dec]); (try rw [List.length_append, ← encI_app]); repeat (first | exact SubL.nil | (apply SubL.cons; (repeat (first | exact At.here | apply At.there)))))
        · skip
          have hk1 : decide (a.kind = 1) = false := h8
          refine sq (h := ?_)
          refine rg (h := ?_)
          refine WL.y (hy := eql) (h := ?_)
          refine WL.y (hy := asg) (h := ?_)
          refine nl (h := ?_)
          refine q_seq (h := ?_)
          refine cd (by exact rfl) (fun h9 => ?_) (fun h9 => ?_)
          · skip
            have hnx : runTo each more aps (z.k + 1) = some ⟨z.s.ds, z.s.x + more, z.s.y + more⟩ := by rw [hstep, stepA, hk1, h9]; rfl
            refine rg (h := ?_)
            refine WL.y (hy := ixA) (h := ?_)
            refine WL.y (hy := (by first | exact ld | exact ldE)) (h := ?_)
            refine WL.y (hy := (by first | exact fa | exact faE)) (h := ?_)
            refine WL.y (hy := (by first | exact ld | exact ldE)) (h := ?_)
            refine WL.y (hy := addI) (h := ?_)
            refine WL.y (hy := ixA) (h := ?_)
            refine WL.y (hy := (by first | exact ld | exact ldE)) (h := ?_)
            refine WL.y (hy := (by first | exact fa | exact faE)) (h := ?_)
            refine WL.y (hy := (by first | exact ld | exact ldE)) (h := ?_)
            refine WL.y (hy := addI) (h := ?_)
            refine WL.y (hy := bdA) (h := ?_)
            first | refine stA (h := ?_) | refine stEA (h := ?_)
            refine nl (h := ?_)
            refine q_blk_norm (h := ?_)
            refine q_blk_norm (h := ?_)
            refine q_seq (h := ?_)
            refine rg (h := ?_)
            refine WL.y (hy := mv) (h := ?_)
            refine WL.y (hy := addI) (h := ?_)
            refine WL.y (hy := asg) (h := ?_)
            refine nl (h := ?_)
            refine rn (x := z) ⟨z.k + 1, _, _, _⟩ ⟨by dsimp only; omega, hnx⟩ (by dsimp only; omega) (by (try dsimp only [RS.dec]); (try rw [List.length_append]); repeat (first | exact trivial | refine ⟨rfl, ?_⟩)) (by (try dsimp only [RS.dec]); (try rw [List.length_append, ← encI_app]); repeat (first | exact SubL.nil | (apply SubL.cons; (repeat (first | exact At.here | apply At.there)))))
          · skip
            have hk2 : decide (a.kind = 2) = false := h9
            refine sq (h := ?_)
            refine rg (h := ?_)
            refine WL.y (hy := eql) (h := ?_)
            refine WL.y (hy := asg) (h := ?_)
            refine nl (h := ?_)
            refine q_seq (h := ?_)
            refine cd (by exact rfl) (fun h10 => ?_) (fun h10 => ?_)
            · skip
              have hk3 : decide (a.kind = 3) = true := h10
              have hsd := hksd (by simpa using hk3)
              have hlv := lft_at z.s hsd
              have har := askBad_ref (s := z.s) hsd
              refine sq (h := ?_)
              refine WC.old (hs a (List.mem_of_getElem? ha)).1 ?_
              have han := (hs a (List.mem_of_getElem? ha)).2
              refine rg (h := ?_)
              refine WL.y (hy := (by first | exact fa | exact faE)) (h := ?_)
              refine WL.y (hy := (by first | exact ld | exact ldE)) (h := ?_)
              refine WL.y (hy := (by first | exact fa | exact faE)) (h := ?_)
              refine WL.y (hy := (by first | exact ldA | exact ldEA)) (h := ?_)
              refine WL.y (hy := (by first | exact fa | exact faE)) (h := ?_)
              refine WL.y (hy := (by first | exact ldA | exact ldEA)) (h := ?_)
              refine cl0 (hc := fun w hS => C_ref_Decide a.said a.v a.b a.A a.n a.c w (hS.get (by repeat (first | exact Rds.ro | exact Rds.own | apply Rds.there))) han) (h := ?_); rw [decR_eq]
              refine WL.y (hy := mv) (h := ?_)
              refine WL.y (hy := ex) (h := ?_)
              refine WL.y (hy := ex) (h := ?_)
              refine WL.y (hy := ex) (h := ?_)
              refine WL.y (hy := asg) (h := ?_)
              refine WL.y (hy := asg) (h := ?_)
              refine WL.y (hy := asg) (h := ?_)
              refine nl (h := ?_)
              refine q_seq (h := ?_)
              refine sq (h := ?_)
              refine sq (h := ?_)
              refine rg (h := ?_)
              refine WL.y (hy := mv) (h := ?_)
              refine WL.y (hy := neq) (h := ?_)
              refine WL.y (hy := mv) (h := ?_)
              apply brOr 6 95 101 (by exact rfl)
              · intro hb11
                refine un (h := ?_)
                refine WL.y (hy := (by first | exact fa | exact faE)) (h := ?_)
                refine un (h := ?_)
                refine WL.y (hy := (by first | exact ld | exact ldE)) (h := ?_)
                refine un (h := ?_)
                refine WL.y (hy := ixA) (h := ?_)
                refine un (h := ?_)
                refine WL.y (hy := ld (hc := hlv)) (h := ?_)
                refine un (h := ?_)
                refine WL.y (hy := eql) (h := ?_)
                refine WL.y (hy := (by first | exact pkT | exact pkF)) (h := ?_)
                exact mg (by repeat (first | exact trivial | refine ⟨rfl, ?_⟩ | refine ⟨by rw [hb11]; rfl, ?_⟩)) (by repeat (first | exact SubL.nil | (apply SubL.cons; (repeat (first | exact At.here | apply At.there)))))
              · intro hb11
                repeat (first | refine un (h := ?_) | refine sk (h := ?_) | refine WL.y (hy := pkF) (h := ?_) | refine WL.y (hy := pkT) (h := ?_))
                exact mg (by repeat (first | exact trivial | refine ⟨rfl, ?_⟩ | refine ⟨by rw [hb11]; rfl, ?_⟩)) (by repeat (first | exact SubL.nil | (apply SubL.cons; (repeat (first | exact At.here | apply At.there)))))
              refine nl (h := ?_)
              refine q_seq (h := ?_)
              refine cd (by exact rfl) (fun h12 => ?_) (fun h12 => ?_)
              · skip
                have hab : askBad a z.s = true := by rw [har]; exact h12
                have hrun : runV each more aps = none := by rw [hrv]; exact runTo_none (j := z.k + 1) (by rw [hstep, stepA, hk1, hk2, hk3, hab]; rfl) (by omega)
                refine sq (h := ?_)
                refine rg (h := ?_)
                refine WL.y (hy := bdA) (h := ?_)
                refine WL.y (hy := asg) (h := ?_)
                first | refine stA (h := ?_) | refine stEA (h := ?_)
                refine WL.y (hy := asg) (h := ?_)
                refine WL.nilOwn 3 1 (h := ?_)
                refine nl (h := ?_)
                refine q_seq (h := ?_)
                refine rtn (h := ?_)
                refine q_then_ret (h := ?_)
                refine q_blk_ret (h := ?_)
                refine q_blk_ret (h := ?_)
                refine q_then_ret (h := ?_)
                refine q_then_ret (h := ?_)
                refine q_blk_ret (h := ?_)
                refine q_then_ret (h := ?_)
                refine q_ret (hR := ?_)
                rw [hrun]
                first
                  | exact fun w hS => ⟨(none, 0), trivial, rfl, hS.sub (by repeat (first | exact SubL.nil | (apply SubL.cons; (repeat (first | exact At.here | apply At.there)))))⟩
                  | exact fun w hS => ⟨(z.A, z.c), trivial, rfl, hS.sub (by repeat (first | exact SubL.nil | (apply SubL.cons; (repeat (first | exact At.here | apply At.there)))))⟩
              · skip
                have hab : askBad a z.s = false := by rw [har]; exact h12
                refine skp (h := ?_)
                refine q_seq (h := ?_)
                refine sq (h := ?_)
                refine rg (h := ?_)
                refine WL.y (hy := mv) (h := ?_)
                refine WL.y (hy := mv) (h := ?_)
                refine bs (h := fun b3 => ?_)
                first | refine ap (h := fun A1 c1 => ?_) | refine ap0 (h := fun A1 c1 => ?_)
                refine WL.y (hy := asg) (h := ?_)
                refine nl (h := ?_)
                refine q_seq (h := ?_)
                refine sq (h := ?_)
                refine rg (h := ?_)
                refine WL.y (hy := mv) (h := ?_)
                refine WL.y (hy := notB) (h := ?_)
                refine nl (h := ?_)
                refine q_seq (h := ?_)
                refine cd (by exact rfl) (fun h13 => ?_) (fun h13 => ?_)
                · skip
                  have hB : decB a.said a.v a.b = false := by simpa using h13
                  have hnx : runTo each more aps (z.k + 1) = some (z.s.dec a.side (decN a.said a.v a.b)) := by rw [hstep, stepA, hk1, hk2, hk3, hab, hB]; rfl
                  have hlb := lft_bnd (side := a.side) hz1 hz2
                  have hset := dec_at z.s (decN a.said a.v a.b) hsd
                  refine rg (h := ?_)
                  refine WL.y (hy := (by first | exact fa | exact faE)) (h := ?_)
                  refine WL.y (hy := (by first | exact ld | exact ldE)) (h := ?_)
                  refine WL.y (hy := ixA) (h := ?_)
                  refine WL.y (hy := ld (hc := hlv)) (h := ?_)
                  refine WL.y (hy := subI) (h := ?_)
                  refine WL.y (hy := ixA) (h := ?_)
                  refine stI (ho := by simp; omega) (h := ?_)
                  rw [hset]
                  refine nl (h := ?_)
                  refine q_blk_norm (h := ?_)
                  refine q_blk_norm (h := ?_)
                  refine q_seq (h := ?_)
                  refine rg (h := ?_)
                  refine WL.y (hy := mv) (h := ?_)
                  refine WL.y (hy := addI) (h := ?_)
                  refine WL.y (hy := asg) (h := ?_)
                  refine nl (h := ?_)
                  refine rn (x := z) ⟨z.k + 1, _, _, _⟩ ⟨by dsimp only; omega, hnx⟩ (by dsimp only; omega) (by (try dsimp only [RS.dec]); (try rw [List.length_append]); repeat (first | exact trivial | refine ⟨rfl, ?_⟩)) (by (try dsimp only [RS.dec]); (try rw [List.length_append, ← encI_app]); repeat (first | exact SubL.nil | (apply SubL.cons; (repeat (first | exact At.here | apply At.there)))))
                · skip
                  have hB : decB a.said a.v a.b = true := by simpa using h13
                  have hnx : runTo each more aps (z.k + 1) = some ⟨z.s.ds ++ [decN a.said a.v a.b], z.s.x, z.s.y⟩ := by rw [hstep, stepA, hk1, hk2, hk3, hab, hB]; rfl
                  refine skp (h := ?_)
                  refine q_blk_norm (h := ?_)
                  refine q_blk_norm (h := ?_)
                  refine q_seq (h := ?_)
                  refine rg (h := ?_)
                  refine WL.y (hy := mv) (h := ?_)
                  refine WL.y (hy := addI) (h := ?_)
                  refine WL.y (hy := asg) (h := ?_)
                  refine nl (h := ?_)
                  refine rn (x := z) ⟨z.k + 1, _, _, _⟩ ⟨by dsimp only; omega, hnx⟩ (by dsimp only; omega) (by (try dsimp only [RS.dec]); (try rw [List.length_append]); repeat (first | exact trivial | refine ⟨rfl, ?_⟩)) (by (try dsimp only [RS.dec]); (try rw [List.length_append, ← encI_app]); repeat (first | exact SubL.nil | (apply SubL.cons; (repeat (first | exact At.here | apply At.there)))))
            · skip
              exfalso
              simp only [decide_eq_false_iff_not] at hk1 hk2 h10
              omega
    · skip
      have hkn : z.k = n := by simp only [decide_eq_false_iff_not] at h3; omega
      have hrun : runV each more aps = some z.s := by rw [hrv, hlen, ← hkn]; exact hzr
      refine et (h := ?_)
      refine q_then_exit (h := ?_)
      refine q_then_exit (h := ?_)
      refine q_blk_hit (h := ?_)
      refine q_seq (h := ?_)
      refine sq (h := ?_)
      refine rgD (by kernel_rfl) [(3, .blk b1 66 [.int .i64 z.s.x, .int .i64 z.s.y])] (by repeat (first | exact HS.nil | (apply HS.keep; (repeat (first | exact At.here | apply At.there))) | (apply HS.ro; (repeat (first | exact Rds.ro | exact Rds.own | apply Rds.there))))) (h := ?_)
      refine tk 0 (hy := mv) (h := ?_)
      refine tk 1 (hy := (by first | exact ldA | exact ldEA)) (h := ?_)
      refine tk 2 (hy := asg) (h := ?_)
      refine one 3 (h := ?_)
      first | refine stA (h := ?_) | refine stEA (h := ?_)
      refine nx (h := ?_)
      refine tk 4 (hy := asg) (h := ?_)
      refine dn (h := ?_)
      refine q_seq (h := ?_)
      refine rtn (h := ?_)
      refine q_ret (hR := ?_)
      rw [hrun]
      first
        | exact fun w hS => ⟨(none, 0), trivial, rfl, hS.sub (by repeat (first | exact SubL.nil | (apply SubL.cons; (repeat (first | exact At.here | apply At.there)))))⟩
        | exact fun w hS => ⟨(z.A, z.c), trivial, rfl, hS.sub (by repeat (first | exact SubL.nil | (apply SubL.cons; (repeat (first | exact At.here | apply At.there)))))⟩
end Go.Proofs.Ytdphljhhcaoleaa
