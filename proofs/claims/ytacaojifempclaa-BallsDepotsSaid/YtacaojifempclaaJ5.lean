/- The texts of the walk, part 5. -/
import Derived.Test.YtacaojifempclaaJ4
namespace Go.Proofs.Ytacaojifempclaa
open Go Go.RowKit

section
variable {f : Fmt} {b : Brd}
theorem tl_is {s p : Pr} (ht : TieOk f s) (h : expT f s p.1 p.2 = some true) : (decide (0 ≤ s.1) && decide (min p.1 p.2 = s.1) && decide (max p.1 p.2 = s.1 + 1)) = tlB p := by
  unfold tlB
  rw [Bool.eq_iff_iff]
  simp only [Bool.and_eq_true, Bool.or_eq_true, decide_eq_true_eq]
  unfold TieOk at ht
  unfold expT at h
  by_cases h0 : p.1 = 0 ∧ p.2 = 0
  · rw [if_pos h0] at h; cases h
  · rw [if_neg h0] at h
    by_cases h1 : OpenP f s (p.1 - 1) p.2
    · rw [if_pos h1] at h
      have := (end0 f s (p.1 - 1) p.2).1 (Option.some.inj h)
      unfold OpenP at h1; omega
    · rw [if_neg h1] at h
      by_cases h2 : OpenP f s p.1 (p.2 - 1)
      · rw [if_pos h2] at h
        have := (end1 f s p.1 (p.2 - 1)).1 (Option.some.inj h)
        unfold OpenP at h2; omega
      · rw [if_neg h2] at h; cases h
theorem over_le {s : Pr} (ht : TieOk f s) (h0 : 0 ≤ s.1) {a b : Int} (h : expT f s a b = some true) : a + b ≤ 2 * s.1 + 1 := by
  unfold expT at h
  by_cases hz : a = 0 ∧ b = 0
  · omega
  · rw [if_neg hz] at h
    by_cases h1 : OpenP f s (a - 1) b
    · have := open_sum ht h0 h1; omega
    · rw [if_neg h1] at h
      by_cases h2 : OpenP f s a (b - 1)
      · have := open_sum ht h0 h2; omega
      · rw [if_neg h2] at h; cases h
theorem won_mono (hf : f.Ok) (hb : brdOk b = true) (hari : (arisesV f b).2 = true) (hov : overV f (wonV b.st) = false) : ∀ k, k ≤ b.st.length → (wonTo b.st k).1 < f.sets ∧ (wonTo b.st k).2 < f.sets := fun k hk => by
  have hok := arises_ok (tb := tableV f) hari
  have hw := sets_won (tbOk_table f) hf hb hok k hk
  have hs0 := hf.s0
  have hwo : WonOk f (wonTo b.st k) := by rw [← hw]; exact setsTo_won (by omega) _
  have hn : overV f (wonTo b.st k) = false := by
    rcases Nat.lt_or_ge k b.st.length with h | h
    · exact (sets_over hf hb hari (List.getElem?_eq_getElem h)).2
    · obtain rfl : k = b.st.length := by omega
      exact hov
  rw [over_won hwo, Bool.or_eq_false_iff, decide_eq_false_iff_not, decide_eq_false_iff_not] at hn
  unfold WonOk at hwo
  omega
theorem num_to (hf : f.Ok) (hbd : Bdd f) (hb : brdOk b = true) (hari : (arisesV f b).2 = true) (hov : overV f (wonV b.st) = false) : ∀ k, k ≤ b.st.length → (numTo b.st k : Int) + (2 * f.sets - 2 - (wonTo b.st k).1 - (wonTo b.st k).2) * (2 * f.tie + 1) ≤ (2 * f.sets - 2) * (2 * f.tie + 1)
  | 0, _ => by
    show ((0 : Nat) : Int) + (2 * f.sets - 2 - 0 - 0) * (2 * f.tie + 1) ≤ _
    rw [Int.sub_zero, Int.sub_zero]; omega
  | k + 1, hk => by
    have ih := num_to hf hbd hb hari hov k (by omega)
    have hp : b.st[k]? = some b.st[k] := List.getElem?_eq_getElem (by omega)
    obtain ⟨ho, -⟩ := sets_over hf hb hari hp
    have h1 := won_mono hf hb hari hov k (by omega)
    have h2 := won_mono hf hb hari hov (k + 1) hk
    have hbd0 := wonTo_bd b.st k
    have hsum := addB_sum (wonTo b.st k) (wside b.st[k])
    have hcomp : (wonTo b.st k).1 ≤ (addV (wonTo b.st k) (wside b.st[k])).1 ∧ (wonTo b.st k).2 ≤ (addV (wonTo b.st k) (wside b.st[k])).2 := by
      unfold addV; cases decide (wside b.st[k] = 0) <;> simp only [cond_true, cond_false] <;> omega
    rw [numTo_succ hp, wonTo_succ hp]
    rw [wonTo_succ hp] at h2
    have hnl : ¬ ((wonTo b.st k).1 = f.sets - 1 ∧ (wonTo b.st k).2 = f.sets - 1) := by omega
    have h3 := bdd_set hbd (won := wonTo b.st k) (by omega)
    have h4 := over_le (tie_ok hf _) h3 ho
    have h5 := over_sum ho
    rw [set_each hnl] at h4
    dsimp only at h4
    rw [show 2 * f.sets - 2 - (addV (wonTo b.st k) (wside b.st[k])).1 - (addV (wonTo b.st k) (wside b.st[k])).2 = (2 * f.sets - 2 - (wonTo b.st k).1 - (wonTo b.st k).2) - 1 by omega, Int.sub_mul, Int.one_mul]
    omega
theorem num_rem (hf : f.Ok) (hhi : ¬ (rangeE f).high < 0) (hb : brdOk b = true) (hari : (arisesV f b).2 = true) (hov : overV f (wonV b.st) = false) : numV b + remV f (wonV b.st) b.g ≤ (rangeE f).high := by
  obtain ⟨hbd, hh⟩ := bdd_high hf hhi
  have h1 := num_to hf hbd hb hari hov b.st.length (Nat.le_refl _)
  rw [hh]
  unfold numV remV wonV
  omega
theorem tab_P (hf : f.Ok) (hhi : ¬ (rangeE f).high < 0) (hb : brdOk b = true) (hari : (arisesV f b).2 = true) (hov : overV f (wonV b.st) = false) (hV : Vs f (wonV b.st) b.g) (t : Int) : Tn f (rangeE f).high ((rangeE f).high - numV b).toNat (wonV b.st) b.g t = fromP f (wonV b.st) b.g (numV b) t := by
  obtain ⟨hbd, -⟩ := bdd_high hf hhi
  have h1 := num_rem hf hhi hb hari hov
  have h2 := rem_pos hf hbd hV
  show tabF _ _ _ _ _ _ = _
  rw [tab_from hf hbd _ _ _ _ _ hV (by omega), show (rangeE f).high - (((rangeE f).high - numV b).toNat : Int) = numV b by omega]
  exact from_more hf hbd _ _ _ _ _ _ hV (by omega) (by omega)
theorem t1_rng (b : Brd) : 0 ≤ t1V b ∧ t1V b ≤ 1 := by
  unfold t1V
  cases decide (0 < b.g.1 + b.g.2)
  · rw [cond_false]
    cases hl : b.st.length with
    | zero => show (0 : Int) ≤ 0 ∧ (0 : Int) ≤ 1; decide
    | succ k =>
      have hp : b.st[k]? = some (b.st[k]'(by omega)) := List.getElem?_eq_getElem (by omega)
      rw [tailE_succ hp]
      show 0 ≤ tlV _ ∧ tlV _ ≤ 1
      unfold tlV; cases tlB (b.st[k]'(by omega)) <;> decide
  · show (0 : Int) ≤ 0 ∧ (0 : Int) ≤ 1; decide
end
set_option maxRecDepth 100000 in
set_option maxHeartbeats 4000000 in
theorem C_ref9_rest (f : Fmt) (b : Brd) (hck : (!decide (chkF f = 0)) = false) (hbo : brdOk b = true) (hari : (arisesV f b).2 = true) (hhi : ¬ (rangeE f).high < 0) (A : Option Addr) (n c : Nat) (hc : n ≤ c) (w : World) (h : Rd w A 2 n (encP b.st)) : C0 Try.prog 61 [f.val, b.val A n c] w (cv (restC f b)) := by
  have hlen : b.st.length = n := by have := h.len; simpa [encP] using this
  have hf := chkF_ok hck
  have hbl := brd_len hbo
  have hbp := brd_fit hbo b.p (by simp [Brd.all])
  have hbg := brd_fit hbo b.g (by simp [Brd.all])
  have hs1 := hf.s1
  have hg1 := hf.g1
  have hrb := range_bd hf
  obtain ⟨-, hwo, hw3⟩ := arises_facts hf hbo hari
  obtain ⟨hbd, -⟩ := bdd_high hf hhi
  have hnn := numTo_bd hbo n (by omega)
  refine ⟨en Try.func61 Try.ntmps61 ((St.init w).share (e := .ro A 2 n (encP b.st)) h rfl rfl rfl) (h := fun F => ?_)⟩
  refine sq (h := ?_)
  refine rg (h := ?_)
  refine bxA (h := fun b0 => ?_)
  refine bxA (h := fun b1 => ?_)
  refine al (h := fun b2 => ?_)
  refine nl (h := ?_)
  refine q_seq (h := ?_)
  refine sq (h := ?_)
  refine rg (h := ?_)
  refine WL.y (hy := (by first | exact fa | exact faE)) (h := ?_)
  refine WL.y (hy := (by first | exact ld | exact ldE)) (h := ?_)
  refine cl0 (hc := fun w hS => C_ref1_Won b.st A n c w (hS.get (by repeat (first | exact Rds.ro | exact Rds.own | apply Rds.there))) (by omega)) (h := ?_)
  refine al (h := fun b3 => ?_)
  first | refine stA (h := ?_) | refine stEA (h := ?_)
  refine nl (h := ?_)
  refine q_seq (h := ?_)
  refine sq (h := ?_)
  refine sq (h := ?_)
  refine rg (h := ?_)
  refine WL.y (hy := (by first | exact fa | exact faE)) (h := ?_)
  refine WL.y (hy := (by first | exact ld | exact ldE)) (h := ?_)
  refine WL.y (hy := (by first | exact fa | exact faE)) (h := ?_)
  refine WL.y (hy := (by first | exact ld | exact ldE)) (h := ?_)
  refine WL.y (hy := eql) (h := ?_)
  refine WL.y (hy := mv) (h := ?_)
  apply brOr 6 24 30 (by exact rfl)
  · intro hb0
    refine un (h := ?_)
    refine WL.y (hy := (by first | exact fa | exact faE)) (h := ?_)
    refine un (h := ?_)
    refine WL.y (hy := (by first | exact ld | exact ldE)) (h := ?_)
    refine un (h := ?_)
    refine WL.y (hy := (by first | exact fa | exact faE)) (h := ?_)
    refine un (h := ?_)
    refine WL.y (hy := (by first | exact ld | exact ldE)) (h := ?_)
    refine un (h := ?_)
    refine WL.y (hy := eql) (h := ?_)
    refine WL.y (hy := (by first | exact pkT | exact pkF)) (h := ?_)
    exact mg (by repeat (first | exact trivial | refine ⟨rfl, ?_⟩ | refine ⟨by rw [hb0]; rfl, ?_⟩)) (by repeat (first | exact SubL.nil | (apply SubL.cons; (repeat (first | exact At.here | apply At.there))) | exact SubL.refl _ | apply SubL.skip))
  · intro hb0
    repeat (first | refine un (h := ?_) | refine sk (h := ?_) | refine WL.y (hy := pkF) (h := ?_) | refine WL.y (hy := pkT) (h := ?_))
    exact mg (by repeat (first | exact trivial | refine ⟨rfl, ?_⟩ | refine ⟨by rw [hb0]; rfl, ?_⟩)) (by repeat (first | exact SubL.nil | (apply SubL.cons; (repeat (first | exact At.here | apply At.there))) | exact SubL.refl _ | apply SubL.skip))
  refine nl (h := ?_)
  refine q_seq (h := ?_)
  refine cd (by exact rfl) (fun h1 => ?_) (fun h1 => ?_)
  · skip
    have hov : overV f (wonV b.st) = true := (over_won hwo).trans h1
    have hE : restC f b = zC := by rw [restC, hov]; rfl
    refine sq (h := ?_)
    refine rg (h := ?_)
    refine WL.y (hy := bd) (h := ?_)
    first | refine stA (h := ?_) | refine stEA (h := ?_)
    refine nl (h := ?_)
    refine q_seq (h := ?_)
    refine rtn (h := ?_)
    refine q_then_ret (h := ?_)
    refine q_ret (hR := ?_)
    rw [hE]
    exact fun w hS => ⟨rfl, hS.sub (by repeat (first | exact SubL.nil | (apply SubL.cons; (repeat (first | exact At.here | apply At.there))) | exact SubL.refl _ | apply SubL.skip))⟩
  · skip
    have hov : overV f (wonV b.st) = false := (over_won hwo).trans h1
    obtain ⟨hop, hpt⟩ : OpenP f (setV f (wonV b.st)) b.g.1 b.g.2 ∧ arePts f (tiedV f b.st b.g) (setV f (wonV b.st)).2 b.p = true := by
      rcases hw3 with h3 | ⟨_, h4, h5⟩
      · rw [h3] at hov; cases hov
      · exact ⟨h4, h5⟩
    have hov2 := hov
    rw [over_won hwo, Bool.or_eq_false_iff, decide_eq_false_iff_not, decide_eq_false_iff_not] at hov2
    unfold WonOk at hwo
    have hV : Vs f (wonV b.st) b.g := ⟨by omega, hop⟩
    have hogs := open_sum (tie_ok hf _) (bdd_set hbd hV.1) hop
    refine skp (h := ?_)
    refine q_seq (h := ?_)
    refine sq (h := ?_)
    refine rg (h := ?_)
    refine WL.y (hy := (by first | exact fa | exact faE)) (h := ?_)
    refine WL.y (hy := (by first | exact fa | exact faE)) (h := ?_)
    refine WL.y (hy := (by first | exact ld | exact ldE)) (h := ?_)
    refine WL.y (hy := (by first | exact fa | exact faE)) (h := ?_)
    refine WL.y (hy := (by first | exact fa | exact faE)) (h := ?_)
    refine WL.y (hy := (by first | exact ld | exact ldE)) (h := ?_)
    refine WL.y (hy := addI) (h := ?_)
    refine WL.y (hy := asg) (h := ?_)
    refine nl (h := ?_)
    refine q_seq (h := ?_)
    refine sq (h := ?_)
    refine sq (h := ?_)
    refine rg (h := ?_)
    refine WL.y (hy := asg) (h := ?_)
    refine nl (h := ?_)
    refine q_seq (h := ?_)
    refine bk (h := ?_)
    refine lp (X := Nat) (I := fun k => k ≤ n) (le := fun k => [(2, .pointer (some ⟨b0, 0, none⟩)), (3, .pointer (some ⟨b1, 0, none⟩)), (4, .pointer (some ⟨b2, 0, none⟩)), (5, .pointer (some ⟨b3, 0, none⟩)), (6, .int .i64 (b.g.1 + b.g.2 + (numTo b.st k : Int))), (7, .int .i64 k)]) (Le := fun _ => [.blk b3 26 [.int .i64 (wonV b.st).1, .int .i64 (wonV b.st).2], .blk b0 23 f.cells, .blk b1 28 (b.cells A n c), .blk b2 109 [.int .i64 0, .int .i64 0, .int .i64 0, .int .i64 0], .ro A 2 n (encP b.st)]) (μ := fun k => n - k) 0 (Nat.zero_le _) (by rw [show b.g.1 + b.g.2 + ((numTo b.st 0 : Nat) : Int) = b.g.1 + b.g.2 from Int.add_zero _]; repeat (first | exact trivial | refine ⟨rfl, ?_⟩)) (by repeat (first | exact SubL.nil | (apply SubL.cons; (repeat (first | exact At.here | apply At.there))) | exact SubL.refl _ | apply SubL.skip)) (fun k hk => ?_)
    refine sq (h := ?_)
    refine sq (h := ?_)
    refine rg (h := ?_)
    refine WL.y (hy := mv) (h := ?_)
    refine WL.y (hy := (by first | exact fa | exact faE)) (h := ?_)
    refine WL.y (hy := (by first | exact ld | exact ldE)) (h := ?_)
    refine WL.y (hy := lenS) (h := ?_)
    refine WL.y (hy := lss) (h := ?_)
    refine nl (h := ?_)
    refine q_seq (h := ?_)
    refine cd (by exact rfl) (fun h2 => ?_) (fun h2 => ?_)
    · skip
      have hkn : k < n := by have := of_decide_eq_true h2; omega
      obtain ⟨p, hp⟩ : ∃ p, b.st[k]? = some p := ⟨_, List.getElem?_eq_getElem (by omega)⟩
      have hpe := encP_at hp
      have hpf := brd_fit hbo p (by simp only [Brd.all]; exact List.mem_append_left _ (List.mem_of_getElem? hp))
      have hnb := numTo_bd hbo k (by omega)
      have hnx : b.g.1 + b.g.2 + ((numTo b.st (k + 1) : Nat) : Int) = b.g.1 + b.g.2 + (numTo b.st k : Int) + (p.1 + p.2) := by rw [numTo_succ hp]; omega
      refine skp (h := ?_)
      refine q_seq (h := ?_)
      refine sq (h := ?_)
      refine bk (h := ?_)
      refine rgD (by kernel_rfl) [(1000000, .blk b1 28 (b.cells A n c)), (1000000, .ro A 2 n (encP b.st))] (by repeat (first | exact HS.nil | (apply HS.keep; (repeat (first | exact At.here | apply At.there))) | (apply HS.ro; (repeat (first | exact Rds.ro | exact Rds.own | apply Rds.there))))) (h := ?_)
      refine tk 0 (hy := mv) (h := ?_)
      refine tk 1 (hy := (by first | exact fa | exact faE)) (h := ?_)
      refine tk 2 (hy := (by first | exact ld | exact ldE)) (h := ?_)
      refine tk 3 (hy := mv) (h := ?_)
      refine tk 4 (hy := ix (A := A) (m := n)) (h := ?_)
      refine tk 5 (hy := (by first | exact fa | exact faE)) (h := ?_)
      refine tk 6 (hy := ldE (A := A) (hk := hpe)) (h := ?_)
      refine tk 7 (hy := (by first | exact fa | exact faE)) (h := ?_)
      refine tk 8 (hy := (by first | exact ld | exact ldE)) (h := ?_)
      refine tk 9 (hy := mv) (h := ?_)
      refine tk 10 (hy := ix (A := A) (m := n)) (h := ?_)
      refine tk 11 (hy := (by first | exact fa | exact faE)) (h := ?_)
      refine tk 12 (hy := ldE (A := A) (hk := hpe)) (h := ?_)
      refine tk 13 (hy := addI) (h := ?_)
      refine tk 14 (hy := addI) (h := ?_)
      refine tk 15 (hy := asg) (h := ?_)
      refine dn (h := ?_)
      refine q_blk_norm (h := ?_)
      refine q_seq (h := ?_)
      refine rg (h := ?_)
      refine WL.y (hy := mv) (h := ?_)
      refine WL.y (hy := addI) (h := ?_)
      refine WL.y (hy := asg) (h := ?_)
      refine nl (h := ?_)
      refine rn (x := k) (k + 1) hkn (by omega) (by rw [hnx]; repeat (first | exact trivial | refine ⟨rfl, ?_⟩)) (by repeat (first | exact SubL.nil | (apply SubL.cons; (repeat (first | exact At.here | apply At.there))) | exact SubL.refl _ | apply SubL.skip))
    · skip
      have hkn : k = n := by have := of_decide_eq_false h2; omega
      rw [hkn, show b.g.1 + b.g.2 + (numTo b.st n : Int) = numV b by rw [numV, hlen]; omega]
      refine et (h := ?_)
      refine q_then_exit (h := ?_)
      refine q_then_exit (h := ?_)
      refine q_blk_hit (h := ?_)
      refine q_seq (h := ?_)
      refine sq (h := ?_)
      refine rg (h := ?_)
      refine WL.y (hy := asg) (h := ?_)
      refine nl (h := ?_)
      refine q_seq (h := ?_)
      refine ct (X := Unit) (fun _ => True) (fun _ => [(2, .pointer (some ⟨b0, 0, none⟩)), (3, .pointer (some ⟨b1, 0, none⟩)), (4, .pointer (some ⟨b2, 0, none⟩)), (5, .pointer (some ⟨b3, 0, none⟩)), (6, .int .i64 (numV b)), (8, .int .i64 (t1V b))]) (fun _ => [.blk b3 26 [.int .i64 (wonV b.st).1, .int .i64 (wonV b.st).2], .blk b0 23 f.cells, .blk b1 28 (b.cells A n c), .blk b2 109 [.int .i64 0, .int .i64 0, .int .i64 0, .int .i64 0], .ro A 2 n (encP b.st)]) (h1 := ?_) (h2 := ?_)
      · skip
        refine sq (h := ?_)
        refine rg (h := ?_)
        refine WL.y (hy := (by first | exact fa | exact faE)) (h := ?_)
        refine WL.y (hy := (by first | exact ld | exact ldE)) (h := ?_)
        refine WL.y (hy := lenS) (h := ?_)
        refine WL.y (hy := subI) (h := ?_)
        refine WL.y (hy := asg) (h := ?_)
        refine nl (h := ?_)
        refine q_seq (h := ?_)
        refine sq (h := ?_)
        refine rg (h := ?_)
        refine WL.y (hy := (by first | exact fa | exact faE)) (h := ?_)
        refine WL.y (hy := (by first | exact ldA | exact ldEA)) (h := ?_)
        refine WL.y (hy := bd) (h := ?_)
        refine WL.y (hy := eqlT) (h := ?_)
        refine WL.y (hy := mv) (h := ?_)
        apply brAnd 3 69 72 (by exact rfl)
        · intro hb3
          refine un (h := ?_)
          refine WL.y (hy := mv) (h := ?_)
          refine un (h := ?_)
          refine WL.y (hy := geq) (h := ?_)
          refine WL.y (hy := (by first | exact pkT | exact pkF)) (h := ?_)
          exact mg (by repeat (first | exact trivial | refine ⟨rfl, ?_⟩ | refine ⟨by rw [hb3]; rfl, ?_⟩)) (by repeat (first | exact SubL.nil | (apply SubL.cons; (repeat (first | exact At.here | apply At.there))) | exact SubL.refl _ | apply SubL.skip))
        · intro hb3
          repeat (first | refine un (h := ?_) | refine sk (h := ?_) | refine WL.y (hy := pkF) (h := ?_) | refine WL.y (hy := pkT) (h := ?_))
          exact mg (by repeat (first | exact trivial | refine ⟨rfl, ?_⟩ | refine ⟨by rw [hb3]; rfl, ?_⟩)) (by repeat (first | exact SubL.nil | (apply SubL.cons; (repeat (first | exact At.here | apply At.there))) | exact SubL.refl _ | apply SubL.skip))
        refine nl (h := ?_)
        refine q_seq (h := ?_)
        refine cd (by exact rfl) (fun h4 => ?_) (fun h4 => ?_)
        · skip
          have hzk : isZ b.g = true ∧ (0 : Int) ≤ (n : Int) - 1 := by
            have h' : (isZ b.g && decide ((0 : Int) ≤ (n : Int) - 1)) = true := h4
            rwa [Bool.and_eq_true, decide_eq_true_eq] at h'
          obtain ⟨K, hK⟩ : ∃ K, n = K + 1 := ⟨n - 1, by omega⟩
          obtain ⟨p, hp⟩ : ∃ p, b.st[K]? = some p := ⟨_, List.getElem?_eq_getElem (by omega)⟩
          have hpe := encP_at hp
          have hpf := brd_fit hbo p (by simp only [Brd.all]; exact List.mem_append_left _ (List.mem_of_getElem? hp))
          have htl := tl_is (tie_ok hf (wonTo b.st K)) (sets_over hf hbo hari hp).1
          have hg0 := (isZ_iff b.g).1 hzk.1
          have ht1' : t1V b = tlV p := by rw [t1V, hg0, hlen, hK, tailE_succ hp]; rfl
          rw [show (n : Int) - 1 = (K : Int) by omega]
          refine sq (h := ?_)
          refine rgD0 (by kernel_rfl) (h := ?_)
          refine tk 0 (hy := (by first | exact ldA | exact ldEA)) (h := ?_)
          refine tk 1 (hy := (by first | exact ldA | exact ldEA)) (h := ?_)
          refine tk 2 (hy := (by first | exact fa | exact faE)) (h := ?_)
          refine tk 3 (hy := (by first | exact ld | exact ldE)) (h := ?_)
          refine tk 4 (hy := mv) (h := ?_)
          refine tk 5 (hy := slP (A := A) (m := n) (cap := c) (hi' := K) (hc := by omega)) (h := ?_)
          refine one 6 (h := ?_)
          refine cl0 (hc := fun w hS => C_ref1_Won (b.st.take K) A K c w (by rw [← encPU_take]; exact Rd.pre (hS.get (by repeat (first | exact Rds.ro | exact Rds.own | apply Rds.there))) K (by omega)) (by omega)) (h := ?_)
          rw [wonV_take (by omega)]
          refine nx (h := ?_)
          refine one 7 (h := ?_)
          refine cl0 (hc := fun w hS => C_ref1_IsLast f (wonTo b.st K) hf w) (h := ?_)
          refine nx (h := ?_)
          refine one 8 (h := ?_)
          refine cl0 (hc := fun w hS => C_ref1_Rule f _ w) (h := ?_)
          rw [rule_set]
          refine nx (h := ?_)
          refine tk 9 (hy := mv) (h := ?_)
          refine tk 10 (hy := ex) (h := ?_)
          refine tk 11 (hy := ex) (h := ?_)
          refine tk 12 (hy := asg) (h := ?_)
          refine tk 13 (hy := asg) (h := ?_)
          refine dn (h := ?_)
          refine q_seq (h := ?_)
          refine ct (X := Unit) (fun _ => True) (fun _ => [(2, .pointer (some ⟨b0, 0, none⟩)), (3, .pointer (some ⟨b1, 0, none⟩)), (4, .pointer (some ⟨b2, 0, none⟩)), (5, .pointer (some ⟨b3, 0, none⟩)), (6, .int .i64 (numV b)), (8, .int .i64 0), (121, .bool (tlB p))]) (fun _ => [.blk b3 26 [.int .i64 (wonV b.st).1, .int .i64 (wonV b.st).2], .blk b0 23 f.cells, .blk b1 28 (b.cells A n c), .blk b2 109 [.int .i64 0, .int .i64 0, .int .i64 0, .int .i64 0], .ro A 2 n (encP b.st)]) (h1 := ?_) (h2 := ?_)
          · skip
            refine rgD0 (by kernel_rfl) (h := ?_)
            refine tk 0 (hy := mv) (h := ?_)
            refine tk 1 (hy := geq) (h := ?_)
            refine tk 2 (hy := mv) (h := ?_)
            refine brH (g := 87) (by exact rfl) (fun hb5 => ?_) (fun hb5 => ?_)
            · skip
              have kA : decide (0 ≤ (setV f (wonTo b.st K)).1) = true := hb5
              refine tk 3 (hy := (by first | exact fa | exact faE)) (h := ?_)
              refine tk 4 (hy := (by first | exact ld | exact ldE)) (h := ?_)
              refine tk 5 (hy := mv) (h := ?_)
              refine tk 6 (hy := ix (A := A) (m := n)) (h := ?_)
              refine tk 7 (hy := (by first | exact fa | exact faE)) (h := ?_)
              refine tk 8 (hy := ldE (A := A) (hk := hpe)) (h := ?_)
              refine tk 9 (hy := (by first | exact fa | exact faE)) (h := ?_)
              refine tk 10 (hy := (by first | exact ld | exact ldE)) (h := ?_)
              refine tk 11 (hy := mv) (h := ?_)
              refine tk 12 (hy := ix (A := A) (m := n)) (h := ?_)
              refine tk 13 (hy := (by first | exact fa | exact faE)) (h := ?_)
              refine tk 14 (hy := ldE (A := A) (hk := hpe)) (h := ?_)
              refine tk 15 (hy := minI) (h := ?_)
              refine tk 16 (hy := mv) (h := ?_)
              refine tk 17 (hy := eql) (h := ?_)
              refine tk 18 (hy := (by first | exact pkT | exact pkF)) (h := ?_)
              refine tk 19 (hy := mv) (h := ?_)
              refine brH (g := 104) (by exact rfl) (fun hb6 => ?_) (fun hb6 => ?_)
              · skip
                have kB : decide (min p.1 p.2 = (setV f (wonTo b.st K)).1) = true := hb6
                have hsr := tie_ok hf (wonTo b.st K)
                unfold TieOk at hsr
                refine tk 20 (hy := (by first | exact fa | exact faE)) (h := ?_)
                refine tk 21 (hy := (by first | exact ld | exact ldE)) (h := ?_)
                refine tk 22 (hy := mv) (h := ?_)
                refine tk 23 (hy := ix (A := A) (m := n)) (h := ?_)
                refine tk 24 (hy := (by first | exact fa | exact faE)) (h := ?_)
                refine tk 25 (hy := ldE (A := A) (hk := hpe)) (h := ?_)
                refine tk 26 (hy := (by first | exact fa | exact faE)) (h := ?_)
                refine tk 27 (hy := (by first | exact ld | exact ldE)) (h := ?_)
                refine tk 28 (hy := mv) (h := ?_)
                refine tk 29 (hy := ix (A := A) (m := n)) (h := ?_)
                refine tk 30 (hy := (by first | exact fa | exact faE)) (h := ?_)
                refine tk 31 (hy := ldE (A := A) (hk := hpe)) (h := ?_)
                refine tk 32 (hy := maxI) (h := ?_)
                refine tk 33 (hy := mv) (h := ?_)
                refine tk 34 (hy := addI) (h := ?_)
                refine tk 35 (hy := eql) (h := ?_)
                refine tk 36 (hy := (by first | exact pkT | exact pkF)) (h := ?_)
                refine dn (h := ?_)
                exact ctn () trivial (by repeat (first | exact trivial | refine ⟨rfl, ?_⟩ | refine ⟨by first | (rw [← htl, kA, kB]; rfl) | (rw [← htl, kA]; rfl), ?_⟩)) (by repeat (first | exact SubL.nil | (apply SubL.cons; (repeat (first | exact At.here | apply At.there))) | exact SubL.refl _ | apply SubL.skip))
              · skip
                have kB : decide (min p.1 p.2 = (setV f (wonTo b.st K)).1) = false := hb6
                refine tkS 20 (h := ?_)
                refine tkS 21 (h := ?_)
                refine tkS 22 (h := ?_)
                refine tkS 23 (h := ?_)
                refine tkS 24 (h := ?_)
                refine tkS 25 (h := ?_)
                refine tkS 26 (h := ?_)
                refine tkS 27 (h := ?_)
                refine tkS 28 (h := ?_)
                refine tkS 29 (h := ?_)
                refine tkS 30 (h := ?_)
                refine tkS 31 (h := ?_)
                refine tkS 32 (h := ?_)
                refine tkS 33 (h := ?_)
                refine tkS 34 (h := ?_)
                refine tkS 35 (h := ?_)
                refine tk 36 (hy := (by first | exact pkT | exact pkF)) (h := ?_)
                refine dn (h := ?_)
                exact ctn () trivial (by repeat (first | exact trivial | refine ⟨rfl, ?_⟩ | refine ⟨by first | (rw [← htl, kA, kB]; rfl) | (rw [← htl, kA]; rfl), ?_⟩)) (by repeat (first | exact SubL.nil | (apply SubL.cons; (repeat (first | exact At.here | apply At.there))) | exact SubL.refl _ | apply SubL.skip))
            · skip
              have kA : decide (0 ≤ (setV f (wonTo b.st K)).1) = false := hb5
              refine tkS 3 (h := ?_)
              refine tkS 4 (h := ?_)
              refine tkS 5 (h := ?_)
              refine tkS 6 (h := ?_)
              refine tkS 7 (h := ?_)
              refine tkS 8 (h := ?_)
              refine tkS 9 (h := ?_)
              refine tkS 10 (h := ?_)
              refine tkS 11 (h := ?_)
              refine tkS 12 (h := ?_)
              refine tkS 13 (h := ?_)
              refine tkS 14 (h := ?_)
              refine tkS 15 (h := ?_)
              refine tkS 16 (h := ?_)
              refine tkS 17 (h := ?_)
              refine tk 18 (hy := (by first | exact pkT | exact pkF)) (h := ?_)
              refine tk 19 (hy := mv) (h := ?_)
              refine tkS 20 (h := ?_)
              refine tkS 21 (h := ?_)
              refine tkS 22 (h := ?_)
              refine tkS 23 (h := ?_)
              refine tkS 24 (h := ?_)
              refine tkS 25 (h := ?_)
              refine tkS 26 (h := ?_)
              refine tkS 27 (h := ?_)
              refine tkS 28 (h := ?_)
              refine tkS 29 (h := ?_)
              refine tkS 30 (h := ?_)
              refine tkS 31 (h := ?_)
              refine tkS 32 (h := ?_)
              refine tkS 33 (h := ?_)
              refine tkS 34 (h := ?_)
              refine tkS 35 (h := ?_)
              refine tk 36 (hy := (by first | exact pkT | exact pkF)) (h := ?_)
              refine dn (h := ?_)
              exact ctn () trivial (by repeat (first | exact trivial | refine ⟨rfl, ?_⟩ | refine ⟨by first | (rw [← htl, kA, kB]; rfl) | (rw [← htl, kA]; rfl), ?_⟩)) (by repeat (first | exact SubL.nil | (apply SubL.cons; (repeat (first | exact At.here | apply At.there))) | exact SubL.refl _ | apply SubL.skip))
          rintro ⟨⟩ -
          refine cd (by exact rfl) (fun h7 => ?_) (fun h7 => ?_)
          · skip
            have ht1 : t1V b = 1 := by rw [ht1', tlV, h7]; rfl
            refine rg (h := ?_)
            refine WL.y (hy := asg) (h := ?_)
            refine nl (h := ?_)
            rw [ht1]
            exact ctn () trivial (by repeat (first | exact trivial | refine ⟨rfl, ?_⟩)) (by repeat (first | exact SubL.nil | (apply SubL.cons; (repeat (first | exact At.here | apply At.there))) | exact SubL.refl _ | apply SubL.skip))
          · skip
            have ht1 : t1V b = 0 := by rw [ht1', tlV, h7]; rfl
            refine skp (h := ?_)
            rw [ht1]
            exact ctn () trivial (by repeat (first | exact trivial | refine ⟨rfl, ?_⟩)) (by repeat (first | exact SubL.nil | (apply SubL.cons; (repeat (first | exact At.here | apply At.there))) | exact SubL.refl _ | apply SubL.skip))
        · skip
          have ht1 : t1V b = 0 := by
            have h' : (isZ b.g && decide ((0 : Int) ≤ (n : Int) - 1)) = false := h4
            rw [t1V]
            cases hz : isZ b.g
            · have hne : ¬ b.g = (0, 0) := fun e => by rw [(isZ_iff b.g).2 e] at hz; cases hz
              have hpos : 0 < b.g.1 + b.g.2 := by
                refine Int.not_le.1 fun hle => hne (Prod.ext ?_ ?_) <;> dsimp only <;> omega
              rw [decide_eq_true hpos]; rfl
            · rw [hz, Bool.true_and, decide_eq_false_iff_not] at h'
              rw [hlen, show n = 0 by omega]
              cases decide (0 < b.g.1 + b.g.2) <;> rfl
          refine skp (h := ?_)
          rw [ht1]
          exact ctn () trivial (by repeat (first | exact trivial | refine ⟨rfl, ?_⟩)) (by repeat (first | exact SubL.nil | (apply SubL.cons; (repeat (first | exact At.here | apply At.there))) | exact SubL.refl _ | apply SubL.skip))
      rintro ⟨⟩ -
      have ht1r := t1_rng b
      have hnr := num_rem hf hhi hbo hari hov
      have hrp := rem_pos hf hbd hV
      have hnp : 0 ≤ numV b := by unfold numV; omega
      obtain ⟨hpl, hta⟩ := tabE_at (T := Tn f (rangeE f).high ((rangeE f).high - numV b).toNat) (won := wonV b.st) (g := b.g) (t := t1V b) (by omega) (by omega) ht1r
      rw [tab_P hf hhi hbo hari hov hV] at hta
      have hrr := csb_P (n := numV b) (t1 := t1V b) hf hV
      obtain ⟨r, hr⟩ : ∃ r, r = fromP f (wonV b.st) b.g (numV b) (t1V b) := ⟨_, rfl⟩
      rw [← hr] at hta hrr
      unfold CsB at hrr
      refine sq (h := ?_)
      refine rg (h := ?_)
      refine WL.y (hy := (by first | exact ldA | exact ldEA)) (h := ?_)
      refine cl0 (hc := fun w hS => C_ref1_Range f w) (h := ?_)
      rw [rangeR_ok hck]
      refine WL.y (hy := mv) (h := ?_)
      refine WL.y (hy := ex) (h := ?_)
      refine WL.y (hy := ex) (h := ?_)
      refine WL.y (hy := ex) (h := ?_)
      refine al (h := fun bs => ?_)
      first | refine stA (h := ?_) | refine stEA (h := ?_)
      refine WL.y (hy := asg) (h := ?_)
      refine WL.y (hy := asg) (h := ?_)
      refine nl (h := ?_)
      refine q_seq (h := ?_)
      refine ct (X := Nat) (fun _ => True) (fun x => [(2, .pointer (some ⟨b0, 0, none⟩)), (3, .pointer (some ⟨b1, 0, none⟩)), (4, .pointer (some ⟨b2, 0, none⟩)), (15, .pointer (some ⟨x, 0, none⟩))]) (fun x => .blk x 109 (ccs r) :: [.blk b3 26 [.int .i64 (wonV b.st).1, .int .i64 (wonV b.st).2], .blk b0 23 f.cells, .blk b1 28 (b.cells A n c), .blk b2 109 [.int .i64 0, .int .i64 0, .int .i64 0, .int .i64 0], .ro A 2 n (encP b.st)]) (h1 := ?_) (h2 := ?_)
      · skip
        refine rgD0 (by kernel_rfl) (h := ?_)
        refine tk 0 (hy := (by first | exact ldA | exact ldEA)) (h := ?_)
        refine tk 1 (hy := mv) (h := ?_)
        refine tk 2 (hy := (by first | exact fa | exact faE)) (h := ?_)
        refine tk 3 (hy := (by first | exact ld | exact ldE)) (h := ?_)
        refine tk 5 (hy := (by first | exact ldA | exact ldEA)) (h := ?_)
        refine tk 6 (hy := (by first | exact fa | exact faE)) (h := ?_)
        refine tk 7 (hy := (by first | exact ldA | exact ldEA)) (h := ?_)
        refine tk 8 (hy := mv) (h := ?_)
        refine two 4 12 (h1 := ?_) (h2 := ?_)
        · skip
          refine cl (hc := fun w hS => C_ref9_courses f (numV b) (rangeE f).high hf (by omega) (by omega) w) (h := fun xb _ => ?_)
          refine nx (h := ?_)
          refine two 9 12 (h1 := ?_) (h2 := ?_)
          · skip
            refine cl0 (hc := fun w hS => C_ref9_place (wonV b.st) b.g (t1V b) (by omega) (by omega) ht1r w) (h := ?_)
            refine nx (h := ?_)
            refine two 10 12 (h1 := ?_) (h2 := ?_)
            · skip
              refine WL.y (hy := ix (A := some ⟨xb, 0, none⟩) (m := 1800) (hb := hpl)) (h := ?_)
              refine nx (h := ?_)
              refine two 11 12 (h1 := ?_) (h2 := ?_)
              · skip
                refine WL.y (hy := ldEW (A := some ⟨xb, 0, none⟩) (hk := hta)) (h := ?_)
                refine nx (h := ?_)
                refine one 12 (h := ?_)
                refine al (h := fun bx => ?_)
                refine nx (h := ?_)
                refine one 13 (h := ?_)
                first | refine stA (h := ?_) | refine stEA (h := ?_)
                refine nx (h := ?_)
                refine dn (h := ?_)
                exact ctn bx trivial (by repeat (first | exact trivial | refine ⟨rfl, ?_⟩)) (by repeat (first | exact SubL.nil | (apply SubL.cons; (repeat (first | exact At.here | apply At.there))) | exact SubL.refl _ | apply SubL.skip))
              · skip
                refine al (h := fun bx => ?_)
                refine nx (h := ?_)
                refine one 11 (h := ?_)
                refine WL.y (hy := ldEW (A := some ⟨xb, 0, none⟩) (hk := hta)) (h := ?_)
                refine nx (h := ?_)
                refine one 13 (h := ?_)
                first | refine stA (h := ?_) | refine stEA (h := ?_)
                refine nx (h := ?_)
                refine dn (h := ?_)
                exact ctn bx trivial (by repeat (first | exact trivial | refine ⟨rfl, ?_⟩)) (by repeat (first | exact SubL.nil | (apply SubL.cons; (repeat (first | exact At.here | apply At.there))) | exact SubL.refl _ | apply SubL.skip))
            · skip
              refine al (h := fun bx => ?_)
              refine nx (h := ?_)
              refine one 10 (h := ?_)
              refine WL.y (hy := ix (A := some ⟨xb, 0, none⟩) (m := 1800) (hb := hpl)) (h := ?_)
              refine nx (h := ?_)
              refine one 11 (h := ?_)
              refine WL.y (hy := ldEW (A := some ⟨xb, 0, none⟩) (hk := hta)) (h := ?_)
              refine nx (h := ?_)
              refine one 13 (h := ?_)
              first | refine stA (h := ?_) | refine stEA (h := ?_)
              refine nx (h := ?_)
              refine dn (h := ?_)
              exact ctn bx trivial (by repeat (first | exact trivial | refine ⟨rfl, ?_⟩)) (by repeat (first | exact SubL.nil | (apply SubL.cons; (repeat (first | exact At.here | apply At.there))) | exact SubL.refl _ | apply SubL.skip))
          · skip
            refine al (h := fun bx => ?_)
            refine nx (h := ?_)
            refine one 9 (h := ?_)
            refine cl0 (hc := fun w hS => C_ref9_place (wonV b.st) b.g (t1V b) (by omega) (by omega) ht1r w) (h := ?_)
            refine nx (h := ?_)
            refine one 10 (h := ?_)
            refine WL.y (hy := ix (A := some ⟨xb, 0, none⟩) (m := 1800) (hb := hpl)) (h := ?_)
            refine nx (h := ?_)
            refine one 11 (h := ?_)
            refine WL.y (hy := ldEW (A := some ⟨xb, 0, none⟩) (hk := hta)) (h := ?_)
            refine nx (h := ?_)
            refine one 13 (h := ?_)
            first | refine stA (h := ?_) | refine stEA (h := ?_)
            refine nx (h := ?_)
            refine dn (h := ?_)
            exact ctn bx trivial (by repeat (first | exact trivial | refine ⟨rfl, ?_⟩)) (by repeat (first | exact SubL.nil | (apply SubL.cons; (repeat (first | exact At.here | apply At.there))) | exact SubL.refl _ | apply SubL.skip))
        · skip
          refine al (h := fun bx => ?_)
          refine nx (h := ?_)
          refine one 4 (h := ?_)
          refine cl (hc := fun w hS => C_ref9_courses f (numV b) (rangeE f).high hf (by omega) (by omega) w) (h := fun xb _ => ?_)
          refine nx (h := ?_)
          refine one 9 (h := ?_)
          refine cl0 (hc := fun w hS => C_ref9_place (wonV b.st) b.g (t1V b) (by omega) (by omega) ht1r w) (h := ?_)
          refine nx (h := ?_)
          refine one 10 (h := ?_)
          refine WL.y (hy := ix (A := some ⟨xb, 0, none⟩) (m := 1800) (hb := hpl)) (h := ?_)
          refine nx (h := ?_)
          refine one 11 (h := ?_)
          refine WL.y (hy := ldEW (A := some ⟨xb, 0, none⟩) (hk := hta)) (h := ?_)
          refine nx (h := ?_)
          refine one 13 (h := ?_)
          first | refine stA (h := ?_) | refine stEA (h := ?_)
          refine nx (h := ?_)
          refine dn (h := ?_)
          exact ctn bx trivial (by repeat (first | exact trivial | refine ⟨rfl, ?_⟩)) (by repeat (first | exact SubL.nil | (apply SubL.cons; (repeat (first | exact At.here | apply At.there))) | exact SubL.refl _ | apply SubL.skip))
      rintro bx -
      refine sq (h := ?_)
      refine sq (h := ?_)
      refine rg (h := ?_)
      refine WL.y (hy := (by first | exact fa | exact faE)) (h := ?_)
      refine WL.y (hy := (by first | exact ldA | exact ldEA)) (h := ?_)
      refine WL.y (hy := bd) (h := ?_)
      refine WL.y (hy := eqlT) (h := ?_)
      refine WL.y (hy := mv) (h := ?_)
      apply brAnd 5 144 149 (by exact rfl)
      · intro hb8
        refine un (h := ?_)
        refine WL.y (hy := (by first | exact fa | exact faE)) (h := ?_)
        refine un (h := ?_)
        refine WL.y (hy := (by first | exact ldA | exact ldEA)) (h := ?_)
        refine un (h := ?_)
        refine WL.y (hy := bd) (h := ?_)
        refine un (h := ?_)
        refine WL.y (hy := eqlT) (h := ?_)
        refine WL.y (hy := (by first | exact pkT | exact pkF)) (h := ?_)
        exact mg (by repeat (first | exact trivial | refine ⟨rfl, ?_⟩ | refine ⟨by rw [hb8]; rfl, ?_⟩)) (by repeat (first | exact SubL.nil | (apply SubL.cons; (repeat (first | exact At.here | apply At.there))) | exact SubL.refl _ | apply SubL.skip))
      · intro hb8
        repeat (first | refine un (h := ?_) | refine sk (h := ?_) | refine WL.y (hy := pkF) (h := ?_) | refine WL.y (hy := pkT) (h := ?_))
        exact mg (by repeat (first | exact trivial | refine ⟨rfl, ?_⟩ | refine ⟨by rw [hb8]; rfl, ?_⟩)) (by repeat (first | exact SubL.nil | (apply SubL.cons; (repeat (first | exact At.here | apply At.there))) | exact SubL.refl _ | apply SubL.skip))
      refine nl (h := ?_)
      refine q_seq (h := ?_)
      refine cd (by exact rfl) (fun h9 => ?_) (fun h9 => ?_)
      · skip
        have hz : (isZ b.g && isZ b.p) = true := h9
        have hE : restC f b = bumpC r false true := by rw [restC, hov, cond_false, hz, ← hr]
        refine sq (h := ?_)
        refine rg (h := ?_)
        refine WL.y (hy := (by first | exact fa | exact faE)) (h := ?_)
        refine WL.y (hy := (by first | exact fa | exact faE)) (h := ?_)
        refine WL.y (hy := (by first | exact ld | exact ldE)) (h := ?_)
        refine WL.y (hy := addI) (h := ?_)
        refine WL.y (hy := (by first | exact fa | exact faE)) (h := ?_)
        refine WL.y (hy := (by first | exact fa | exact faE)) (h := ?_)
        first | refine st (h := ?_) | refine stE (h := ?_)
        refine nl (h := ?_)
        refine q_seq (h := ?_)
        refine rg (h := ?_)
        refine WL.y (hy := (by first | exact fa | exact faE)) (h := ?_)
        refine WL.y (hy := (by first | exact fa | exact faE)) (h := ?_)
        refine WL.y (hy := (by first | exact ld | exact ldE)) (h := ?_)
        refine WL.y (hy := addI) (h := ?_)
        refine WL.y (hy := (by first | exact fa | exact faE)) (h := ?_)
        refine WL.y (hy := (by first | exact fa | exact faE)) (h := ?_)
        first | refine st (h := ?_) | refine stE (h := ?_)
        refine nl (h := ?_)
        refine q_seq (h := ?_)
        refine sq (h := ?_)
        refine rg (h := ?_)
        refine WL.y (hy := (by first | exact ldA | exact ldEA)) (h := ?_)
        first | refine stA (h := ?_) | refine stEA (h := ?_)
        refine nl (h := ?_)
        refine q_seq (h := ?_)
        refine rtn (h := ?_)
        refine q_ret (hR := ?_)
        rw [hE, bumpC, show bz false = 0 from rfl, show bz true = 1 from rfl, Int.add_zero, Int.add_zero]
        exact fun w hS => ⟨rfl, hS.sub (by repeat (first | exact SubL.nil | (apply SubL.cons; (repeat (first | exact At.here | apply At.there))) | exact SubL.refl _ | apply SubL.skip))⟩
      · skip
        have hz : (isZ b.g && isZ b.p) = false := h9
        have hE : restC f b = bumpC r false false := by rw [restC, hov, cond_false, hz, ← hr]
        refine skp (h := ?_)
        refine q_seq (h := ?_)
        refine sq (h := ?_)
        refine rg (h := ?_)
        refine WL.y (hy := (by first | exact ldA | exact ldEA)) (h := ?_)
        first | refine stA (h := ?_) | refine stEA (h := ?_)
        refine nl (h := ?_)
        refine q_seq (h := ?_)
        refine rtn (h := ?_)
        refine q_ret (hR := ?_)
        rw [hE, bumpC, show bz false = 0 from rfl, Int.add_zero, Int.add_zero, Int.add_zero, Int.add_zero]
        exact fun w hS => ⟨rfl, hS.sub (by repeat (first | exact SubL.nil | (apply SubL.cons; (repeat (first | exact At.here | apply At.there))) | exact SubL.refl _ | apply SubL.skip))⟩
end Go.Proofs.Ytacaojifempclaa

namespace Go.Proofs.Ytacaojifempclaa
open Go Go.RowKit

section
variable {F : Fence} {P : Program} {ops : Array Oper} {Q : Exit → Act → World → Prop} {rest : List Oper} {n : Nat} {D : List Deferred} {l : Env} {w0 : World} {L M : List Ent}
variable {d : Nat} {ty : TypeId} {pos : String} {aft : Array Edge}

theorem Spl.thr {L Lp R : List Ent} {e : Ent} (h : Spl L Lp R) : Spl (e :: L) Lp (e :: R) := by
  induction h with
  | nil => exact .nil
  | cons h _ ih => exact .cons (.there h) ih
theorem ldP {x : Operand} {t : TypeId} {size bytes : Nat} {z : Value} {zl : List Value} (hT : Ty P t true size bytes z zl := by infer_instance) {b o : Nat} {T : TypeId} {cs vs : List Value}
    (hx : ev l x = some (.pointer (some ⟨b, o, none⟩)) := by exact rfl) (ha : At L (.blk b T cs) M := by repeat (first | exact At.here | apply At.there))
    (hl : vs.length = size := by rfl) (hc : ∀ j v, vs[j]? = some v → cs[o + j]? = some v) : Yd P n D l w0 L (.load t x) (.agg vs.toArray) :=
  ⟨by simp, by simp, fun oo ho ac w hfr hst => by
    have hcell : ∀ j v, vs[j]? = some v → w.cell? ((⟨b, o, none⟩ : Addr).add j) = some v := fun j v hj => by
      rw [add_lit, hst.cell ha]; exact hc j v hj
    simp [execOp, ho, hfr.eval hx, Instr.loadAt, Instr.sureAddr, run_loadVarA hT hl hcell]⟩
theorem ldW {x : Operand} {t : TypeId} {size bytes : Nat} {z : Value} {zl : List Value} (hT : Ty P t true size bytes z zl := by infer_instance) {b : Nat} {T : TypeId} {cs : List Value}
    (hx : ev l x = some (.pointer (some ⟨b, 0, none⟩)) := by exact rfl) (ha : At L (.blk b T cs) M := by repeat (first | exact At.here | apply At.there))
    (hl : cs.length = size := by rfl) : Yd P n D l w0 L (.load t x) (.agg cs.toArray) :=
  ldP hT hx ha hl fun j v hj => by rw [Nat.zero_add]; exact hj
theorem stP {x y : Operand} {t : TypeId} {size bytes : Nat} {z : Value} {zl : List Value} (hT : Ty P t true size bytes z zl := by infer_instance) {b o : Nat} {T : TypeId} {cs vs : List Value}
    (hx : ev l x = some (.pointer (some ⟨b, o, none⟩)) := by exact rfl) (hy : ev l y = some (.agg vs.toArray) := by exact rfl) (h1 : ∀ v ∈ vs, v.oneCell' = true) (hsz : vs.length = size)
    (ha : At L (.blk b T cs) M := by repeat (first | exact At.here | apply At.there)) (ho : o + vs.length ≤ cs.length)
    (h : WL F P ops Q rest n D l w0 (.blk b T (putAll cs o vs) :: M)) : WL F P ops Q (⟨none, .store t x y, ty, pos, aft, none⟩ :: rest) n D l w0 L :=
  WL.skipop (by simp) (fun ac w hfr hst => by
    obtain ⟨w', hr, hs⟩ := run_storeCells (P := P) vs cs o 0 w (hst.pull ha) (fun _ => by omega) h1
    rw [Nat.add_zero] at hs
    refine ⟨w', ?_, hs⟩
    simp [execOp, hfr.eval hx, hfr.eval hy, Instr.storeAt, Instr.sureAddr, storeVar, run_sizeOf hT, Value.cells, hsz, hr]) h
theorem stW {x y : Operand} {t : TypeId} {size bytes : Nat} {z : Value} {zl : List Value} (hT : Ty P t true size bytes z zl := by infer_instance) {b : Nat} {T : TypeId} {cs vs : List Value}
    (hx : ev l x = some (.pointer (some ⟨b, 0, none⟩)) := by exact rfl) (hy : ev l y = some (.agg vs.toArray) := by exact rfl) (h1 : ∀ v ∈ vs, v.oneCell' = true) (hsz : vs.length = size)
    (ha : At L (.blk b T cs) M := by repeat (first | exact At.here | apply At.there)) (ho : cs.length = vs.length)
    (h : WL F P ops Q rest n D l w0 (.blk b T vs :: M)) : WL F P ops Q (⟨none, .store t x y, ty, pos, aft, none⟩ :: rest) n D l w0 L :=
  stP hT hx hy h1 hsz ha (by omega) (by rw [putAll_whole vs cs ho]; exact h)
def numE (N : Nat) (F : Nat → Int) : List Value := (List.range N).map fun i => .int .i64 (F i)
theorem numE_len (N : Nat) (F : Nat → Int) : (numE N F).length = N := by simp [numE]
theorem numE_at {N : Nat} {F : Nat → Int} {o : Nat} (h : o < N) : (numE N F)[o]? = some (.int .i64 (F o)) := by
  rw [numE, List.getElem?_map, List.getElem?_range h]; rfl
theorem numE_one {N : Nat} {F : Nat → Int} : ∀ v ∈ numE N F, v.oneCell' = true := fun v hv => by
  obtain ⟨i, _, rfl⟩ := List.mem_map.1 hv
  rfl
theorem numE_set {N : Nat} (F : Nat → Int) (o : Nat) (v : Int) : (numE N F).set o (.int .i64 v) = numE N (fun i => if i = o then v else F i) := by
  refine List.ext_getElem (by simp [numE_len]) fun k h1 h2 => ?_
  rw [List.getElem_set]
  simp only [numE, List.getElem_map, List.getElem_range]
  by_cases e : o = k
  · rw [if_pos e, if_pos e.symm]
  · rw [if_neg e, if_neg (fun x => e x.symm)]
theorem numE_congr {N : Nat} {F G : Nat → Int} (h : ∀ i, i < N → F i = G i) : numE N F = numE N G := by
  unfold numE
  exact List.map_congr_left fun i hi => by rw [h i (List.mem_range.1 hi)]
theorem WL.blkTo {b : Nat} {T : TypeId} {cs : List Value} (cs' : List Value) (ha : At L (.blk b T cs) M) (he : cs = cs') (h : WL F P ops Q rest n D l w0 (.blk b T cs' :: M)) : WL F P ops Q rest n D l w0 L := fun hF a w hfr hst => h hF a w hfr (by
  subst he
  exact hst.sub (.cons ha (SubL.refl _)))
theorem Tk.all {α : Type} : ∀ cs : List α, Tk cs 0 cs.length cs
  | [] => .nil
  | _ :: cs => .cons (Tk.all cs)
theorem tk_num (N : Nat) (F : Nat → Int) : Tk (numE N F) 0 N (numE N F) := by
  have := Tk.all (numE N F)
  rwa [numE_len] at this
theorem ixv {x i : Operand} {t e : TypeId} {len size bytes : Nat} {z : Value} {zl : List Value} {k : IntKind} {j : Int} {cs : List Value} (hT : ArrayTy P t len e := by infer_instance) (hE : Ty P e true size bytes z zl := by infer_instance)
    (hx : ev l x = some (.agg cs.toArray) := by exact rfl) (hi : ev l i = some (.int k j) := by exact rfl) (hb : 0 ≤ j ∧ j < len := by omega) : Yd P n D l w0 L (.index t x i) (.agg ((cs.drop (j.toNat * size)).take size).toArray) :=
  ⟨by simp, by simp, fun oo ho ac w hfr hst => by
    simp [execOp, ho, hfr.eval hx, hfr.eval hi, Instr.index, asIntOf, run_underlying hT.und, hb, run_sizeOf hE, part, run_isAgg hE, List.extract_toArray]⟩
theorem slA {x : Operand} {t e : TypeId} {len size bytes b o : Nat} {agg : Bool} {z : Value} {zl : List Value} (hT : ArrayTy P t len e := by infer_instance) (hE : Ty P e agg size bytes z zl := by infer_instance) {lo : Option Operand} (lo' : Nat)
    (hx : ev l x = some (.pointer (some ⟨b, o, none⟩)) := by exact rfl) (hl : lo = none ∧ lo' = 0 ∨ ∃ y k i, lo = some y ∧ ev l y = some (.int k i) ∧ 0 ≤ i ∧ i ≤ len ∧ lo' = i.toNat) (hne : lo' ≠ len) : Yd P n D l w0 L (.slice t x lo none none) (.slice (some ⟨b, o + lo' * size, none⟩) (len - lo') (len - lo')) :=
  ⟨by simp, by simp, fun oo ho ac w hfr hst => by
    rcases hl with ⟨rfl, rfl⟩ | ⟨y, k, i, rfl, h1, h2, h3, rfl⟩
    · simp [execOp, ho, hfr.eval hx, Instr.sliceAt, Instr.sureAddr, run_underlying hT.und, Instr.sliceBounds, run_sizeOf hE, Addr.add]
    · simp [execOp, ho, hfr.eval hx, hfr.eval h1, Instr.sliceAt, Instr.sureAddr, run_underlying hT.und, Instr.sliceBounds, run_sizeOf hE, sliceBound_ok (P := P) ⟨h2, h3⟩]
      rw [if_neg (fun h => hne h.symm), add_lit]⟩
theorem rd_blkA {w : World} {b o : Nat} {T : TypeId} {cs : List Value} (h : (Ent.blk b T cs).ok w) {size m : Nat} {es : List (List Value)} (hl : es.length = m) (he : ∀ c ∈ es, c.length = size) (ho : ∀ c ∈ es, ∀ v ∈ c, v.oneCell' = true)
    (hc : ∀ k c, es[k]? = some c → ∀ j v, c[j]? = some v → cs[o + (k * size + j)]? = some v) : Rd w (some ⟨b, o, none⟩) size m es := by
  refine ⟨hl, he, fun _ => ⟨_, rfl⟩, fun ad ha k c hk j v hj => ?_, ho⟩
  cases ha
  rw [add_lit, cell_of_row w b _ _ T (0, 0) h]
  simpa using hc k c hk j v hj
end
end Go.Proofs.Ytacaojifempclaa

namespace Go.Proofs.Ytacaojifempclaa
open Go Go.RowKit

structure Fx where
  (day : Int) (f : Fmt) (b : Brd) (A : Option Addr) (c : Nat)
abbrev Fx.enc (x : Fx) : List Value := [.int .i64 x.day, .int .i64 x.f.sets, .int .i64 x.f.games, .bool x.f.noAd, .int .i64 x.f.tie, .int .i64 x.f.to, .int .i64 x.f.ltie, .int .i64 x.f.lto, .int .i64 x.f.first, .int .i64 x.f.thn, .bool x.f.dbl, .slice x.A x.b.st.length x.c, .int .i64 x.b.g.1, .int .i64 x.b.g.2, .int .i64 x.b.p.1, .int .i64 x.b.p.2]
abbrev Fx.val (x : Fx) : Value := .agg #[.int .i64 x.day, .int .i64 x.f.sets, .int .i64 x.f.games, .bool x.f.noAd, .int .i64 x.f.tie, .int .i64 x.f.to, .int .i64 x.f.ltie, .int .i64 x.f.lto, .int .i64 x.f.first, .int .i64 x.f.thn, .bool x.f.dbl, .slice x.A x.b.st.length x.c, .int .i64 x.b.g.1, .int .i64 x.b.g.2, .int .i64 x.b.p.1, .int .i64 x.b.p.2]
structure Fx.ok (x : Fx) (w : World) : Prop where
  r : Rd w x.A 2 x.b.st.length (encP x.b.st)
  n : x.b.st.length ≤ x.c
  c : x.c ≤ 9223372036854775807
structure Cx where
  (day item count : Int)
abbrev Cx.enc (x : Cx) : List Value := [.int .i64 x.day, .int .i64 x.item, .int .i64 x.count]
structure Dp where
  (each tow fra : Int) (st : List Int) (fx : List Fx) (cr : List Cx)
structure DA where
  (sA fA cA : Option Addr) (sc fc cc : Nat)
abbrev Dp.cells (d : Dp) (a : DA) : List Value := [.int .i64 d.each, .int .i64 d.tow, .int .i64 d.fra, .slice a.sA d.st.length a.sc, .slice a.fA d.fx.length a.fc, .slice a.cA d.cr.length a.cc]
abbrev Dp.val (d : Dp) (a : DA) : Value := .agg #[.int .i64 d.each, .int .i64 d.tow, .int .i64 d.fra, .slice a.sA d.st.length a.sc, .slice a.fA d.fx.length a.fc, .slice a.cA d.cr.length a.cc]
structure DpR (w : World) (d : Dp) (a : DA) : Prop where
  s : Rd w a.sA 1 d.st.length (encI d.st)
  f : Rd w a.fA 16 d.fx.length (d.fx.map Fx.enc)
  c : Rd w a.cA 3 d.cr.length (d.cr.map Cx.enc)
  x : ∀ y ∈ d.fx, y.ok w
  sc : d.st.length ≤ 9223372036854775807
  fc : d.fx.length ≤ 9223372036854775807
  cc : d.cr.length ≤ 9223372036854775807
def kitB (d : Dp) : Bool := wi d.each 0 20 && wi d.tow 0 20 && wi d.fra 0 20
def lenB (d : Dp) : Bool := !(!decide ((d.st.length : Int) = 3) || decide (30 < (d.fx.length : Int)) || decide (30 < (d.cr.length : Int)))
def stB (d : Dp) : Bool := d.st.all fun n => wi n 0 99999
def fxOk (x : Fx) : Bool := !(!wi x.day 0 60 || !decide (checkE x.f x.b = 0))
def fxB (d : Dp) : Bool := d.fx.all fxOk
def crOk (c : Cx) : Bool := !(!wi c.day 0 60 || !wi c.item 0 2 || !wi c.count 0 99999)
def crB (d : Dp) : Bool := d.cr.all crOk
def depOk (d : Dp) : Bool := kitB d && lenB d && stB d && fxB d && crB d
def depE (d : Dp) : Int := bif depOk d then 0 else 90
section
variable {d : Dp}
theorem dep_kit (h : kitB d = false) : depE d = 90 := by rw [depE, depOk, h]; rfl
theorem dep_len (h : lenB d = false) : depE d = 90 := by rw [depE, depOk, h, Bool.and_false]; rfl
theorem dep_st (h : stB d = false) : depE d = 90 := by rw [depE, depOk, h, Bool.and_false]; rfl
theorem dep_fx (h : fxB d = false) : depE d = 90 := by rw [depE, depOk, h, Bool.and_false]; rfl
theorem dep_cr (h : crB d = false) : depE d = 90 := by rw [depE, depOk, h, Bool.and_false]; rfl
theorem dep_yes (h1 : kitB d = true) (h2 : lenB d = true) (h3 : stB d = true) (h4 : fxB d = true) (h5 : crB d = true) : depE d = 0 := by rw [depE, depOk, h1, h2, h3, h4, h5]; rfl
theorem dep_val (d : Dp) : depE d = 0 ∨ depE d = 90 := by
  unfold depE
  cases depOk d
  · exact .inr rfl
  · exact .inl rfl
theorem dep_ok (h : depE d = 0) : depOk d = true := by
  unfold depE at h
  cases e : depOk d
  · rw [e] at h; cases h
  · rfl
end
theorem all_to {α : Type} {l : List α} {p : α → Bool} (h : ∀ i x, i < l.length → l[i]? = some x → p x = true) : l.all p = true :=
  List.all_eq_true.2 fun x hx => by
    obtain ⟨i, hi, e⟩ := List.getElem_of_mem hx
    exact h i x hi (by rw [List.getElem?_eq_getElem hi, e])
theorem all_no {α : Type} {l : List α} {p : α → Bool} {i : Nat} {x : α} (hx : l[i]? = some x) (h : p x = false) : l.all p = false := by
  cases e : l.all p
  · rfl
  · have := List.all_eq_true.1 e x (List.mem_of_getElem? hx)
    rw [h] at this; cases this
theorem map_at {α β : Type} {f : α → β} {l : List α} {k : Nat} {x : α} (h : l[k]? = some x) : (l.map f)[k]? = some (f x) := by rw [List.getElem?_map, h]; rfl
def Upto {α : Type} (l : List α) (p : α → Bool) (k : Nat) : Prop := ∀ i x, i < k → l[i]? = some x → p x = true
theorem upto_zero {α : Type} {l : List α} {p : α → Bool} : Upto l p 0 := fun i x hi => by omega
theorem upto_succ {α : Type} {l : List α} {p : α → Bool} {k : Nat} {x : α} (h : Upto l p k) (hx : l[k]? = some x) (hp : p x = true) : Upto l p (k + 1) := fun i y hi hy => by
  by_cases e : i = k
  · subst e
    rw [hx] at hy
    rw [← Option.some.inj hy]; exact hp
  · exact h i y (by omega) hy
theorem C_balls_within (n lo hi : Int) (w : World) : C0 Try.prog 67 [.int .i64 n, .int .i64 lo, .int .i64 hi] w (.bool (wi n lo hi)) := by
  refine ⟨en Try.func67 Try.ntmps67 (St.init w) (h := fun F => ?_)⟩
  refine sq (h := ?_)
  refine rg (h := ?_)
  refine WL.y (hy := asg) (h := ?_)
  refine nl (h := ?_)
  refine q_seq (h := ?_)
  refine sq (h := ?_)
  refine rg (h := ?_)
  refine WL.y (hy := mv) (h := ?_)
  refine WL.y (hy := mv) (h := ?_)
  refine WL.y (hy := leq) (h := ?_)
  refine WL.y (hy := mv) (h := ?_)
  apply brAnd 4 10 14 (by exact rfl)
  · intro hb0
    refine un (h := ?_)
    refine WL.y (hy := mv) (h := ?_)
    refine un (h := ?_)
    refine WL.y (hy := mv) (h := ?_)
    refine un (h := ?_)
    refine WL.y (hy := leq) (h := ?_)
    refine WL.y (hy := (by first | exact pkT | exact pkF)) (h := ?_)
    exact mg (by repeat (first | exact trivial | refine ⟨rfl, ?_⟩ | refine ⟨by rw [hb0]; rfl, ?_⟩)) (by repeat (first | exact SubL.nil | (apply SubL.cons; (repeat (first | exact At.here | apply At.there))) | exact SubL.refl _ | apply SubL.skip))
  · intro hb0
    repeat (first | refine un (h := ?_) | refine sk (h := ?_) | refine WL.y (hy := pkF) (h := ?_) | refine WL.y (hy := pkT) (h := ?_))
    exact mg (by repeat (first | exact trivial | refine ⟨rfl, ?_⟩ | refine ⟨by rw [hb0]; rfl, ?_⟩)) (by repeat (first | exact SubL.nil | (apply SubL.cons; (repeat (first | exact At.here | apply At.there))) | exact SubL.refl _ | apply SubL.skip))
  refine WL.y (hy := asg) (h := ?_)
  refine nl (h := ?_)
  refine q_seq (h := ?_)
  refine rtn (h := ?_)
  refine q_ret (hR := ?_)
  exact fun w hS => ⟨rfl, hS.sub (by repeat (first | exact SubL.nil | (apply SubL.cons; (repeat (first | exact At.here | apply At.there))) | exact SubL.refl _ | apply SubL.skip))⟩
theorem C_ref9_within (n lo hi : Int) (w : World) : C0 Try.prog 70 [.int .i64 n, .int .i64 lo, .int .i64 hi] w (.bool (wi n lo hi)) := by
  refine ⟨en Try.func70 Try.ntmps70 (St.init w) (h := fun F => ?_)⟩
  refine sq (h := ?_)
  refine rg (h := ?_)
  refine WL.y (hy := asg) (h := ?_)
  refine nl (h := ?_)
  refine q_seq (h := ?_)
  refine sq (h := ?_)
  refine rg (h := ?_)
  refine WL.y (hy := mv) (h := ?_)
  refine WL.y (hy := mv) (h := ?_)
  refine WL.y (hy := geq) (h := ?_)
  refine WL.y (hy := mv) (h := ?_)
  apply brAnd 4 10 14 (by exact rfl)
  · intro hb0
    refine un (h := ?_)
    refine WL.y (hy := mv) (h := ?_)
    refine un (h := ?_)
    refine WL.y (hy := mv) (h := ?_)
    refine un (h := ?_)
    refine WL.y (hy := leq) (h := ?_)
    refine WL.y (hy := (by first | exact pkT | exact pkF)) (h := ?_)
    exact mg (by repeat (first | exact trivial | refine ⟨rfl, ?_⟩ | refine ⟨by rw [hb0]; rfl, ?_⟩)) (by repeat (first | exact SubL.nil | (apply SubL.cons; (repeat (first | exact At.here | apply At.there))) | exact SubL.refl _ | apply SubL.skip))
  · intro hb0
    repeat (first | refine un (h := ?_) | refine sk (h := ?_) | refine WL.y (hy := pkF) (h := ?_) | refine WL.y (hy := pkT) (h := ?_))
    exact mg (by repeat (first | exact trivial | refine ⟨rfl, ?_⟩ | refine ⟨by rw [hb0]; rfl, ?_⟩)) (by repeat (first | exact SubL.nil | (apply SubL.cons; (repeat (first | exact At.here | apply At.there))) | exact SubL.refl _ | apply SubL.skip))
  refine WL.y (hy := asg) (h := ?_)
  refine nl (h := ?_)
  refine q_seq (h := ?_)
  refine rtn (h := ?_)
  refine q_ret (hR := ?_)
  exact fun w hS => ⟨by first | rfl | (rw [Bool.and_comm]; rfl), hS.sub (by repeat (first | exact SubL.nil | (apply SubL.cons; (repeat (first | exact At.here | apply At.there))) | exact SubL.refl _ | apply SubL.skip))⟩
theorem C_Check1 (n : Int) (w : World) : C0 Try.prog 66 [.int .i64 n] w (.bool (wi n 0 99999)) := by
  refine ⟨en Try.func66 Try.ntmps66 (St.init w) (h := fun F => ?_)⟩
  refine sq (h := ?_)
  refine rg (h := ?_)
  refine WL.y (hy := asg) (h := ?_)
  refine nl (h := ?_)
  refine q_seq (h := ?_)
  refine sq (h := ?_)
  refine rg (h := ?_)
  refine WL.y (hy := mv) (h := ?_)
  refine cl0 (hc := fun w hS => C_balls_within _ _ _ w) (h := ?_)
  refine WL.y (hy := asg) (h := ?_)
  refine nl (h := ?_)
  refine q_seq (h := ?_)
  refine rtn (h := ?_)
  refine q_ret (hR := ?_)
  exact fun w hS => ⟨rfl, hS.sub (by repeat (first | exact SubL.nil | (apply SubL.cons; (repeat (first | exact At.here | apply At.there))) | exact SubL.refl _ | apply SubL.skip))⟩
theorem T_Check2 (n : Int) (a0 : Nat) : Tr Try.prog 69 [.int .i64 n, .pointer (some ⟨a0, 0, none⟩)] [.blk a0 119 [.func (.func 66) #[] #[]]] (fun _ : Unit => True) (fun _ => .bool (!wi n 0 99999)) (fun _ => [.blk a0 119 [.func (.func 66) #[] #[]]]) := by
  refine ⟨fun w0 w R hst => ?_⟩
  refine en Try.func69 Try.ntmps69 hst (h := fun F => ?_)
  refine sq (h := ?_)
  refine rg (h := ?_)
  refine WL.y (hy := asg) (h := ?_)
  refine nl (h := ?_)
  refine q_seq (h := ?_)
  refine sq (h := ?_)
  refine rg (h := ?_)
  refine WL.y (hy := (by first | exact ld | exact ldE)) (h := ?_)
  refine WL.y (hy := mv) (h := ?_)
  refine clfT inferInstance (fi := []) (cap := []) (by exact rfl) (by repeat (first | exact Evs.nil | (apply Evs.cons; exact rfl))) (C0.tr [] (C_Check1 n)) rfl Spl.nil (h := fun _ _ => ?_)
  refine WL.y (hy := notB) (h := ?_)
  refine WL.y (hy := asg) (h := ?_)
  refine nl (h := ?_)
  refine q_seq (h := ?_)
  refine rtn (h := ?_)
  refine q_ret (hR := ?_)
  exact fun w hS => ⟨(), trivial, rfl, hS.sub (by repeat (first | exact SubL.nil | (apply SubL.cons; (repeat (first | exact At.here | apply At.there))) | exact SubL.refl _ | apply SubL.skip))⟩
theorem T_IndexIntB {E : Ent} {A : Option Addr} {n c : Nat} {ws : List Int} (hE : ∀ w, E.ok w → Rd w A 1 n (encI ws)) {g : FuncId} (hg : FnOk Try.prog g) (fi cap : List Value) (Lp : List Ent) (p : Int → Bool) (hn : n ≤ 9223372036854775807) (hlen : ws.length = n)
    (hp : ∀ x ∈ ws, Tr Try.prog g (fi ++ [.int .i64 x] ++ cap) Lp (fun _ : Unit => True) (fun _ => .bool (p x)) (fun _ => Lp)) :
    Tr Try.prog 102 [.slice A n c, .func (.func g) fi.toArray cap.toArray] (E :: Lp) (Fst (pAt ws p) n) (fun j => .int .i64 j) (fun _ => E :: Lp) := by
  refine ⟨fun w0 w R hst => ?_⟩
  refine en Try.func102 Try.ntmps102 hst (h := fun F => ?_)
  refine sq (h := ?_)
  refine rg (h := ?_)
  refine WL.y (hy := asg) (h := ?_)
  refine nl (h := ?_)
  refine q_seq (h := ?_)
  refine sq (h := ?_)
  refine sq (h := ?_)
  refine rg (h := ?_)
  refine WL.y (hy := mv) (h := ?_)
  refine WL.y (hy := lenS) (h := ?_)
  refine WL.y (hy := mv) (h := ?_)
  refine nl (h := ?_)
  refine q_seq (h := ?_)
  refine bk (h := ?_)
  refine lp (X := Nat) (I := fun k => k ≤ n ∧ ∀ i, i < k → pAt ws p i = false) (le := fun k => [(0, .slice A n c), (1, .func (.func g) fi.toArray cap.toArray), (7, .int .i64 n), (8, .int .i64 k)]) (Le := fun _ => E :: (Lp ++ R)) (μ := fun k => n - k) 0 ⟨by omega, fun i hi => by omega⟩ (by repeat (first | exact trivial | refine ⟨rfl, ?_⟩)) (SubL.refl _) (fun k hk => ?_)
  obtain ⟨hk, hall⟩ := hk
  refine sq (h := ?_)
  refine rg (h := ?_)
  refine WL.y (hy := lss) (h := ?_)
  refine nl (h := ?_)
  refine q_seq (h := ?_)
  refine sq (h := ?_)
  refine cd (by exact rfl) (fun h0 => ?_) (fun h0 => ?_)
  · skip
    have hkn : k < n := by simp only [decide_eq_true_eq] at h0; omega
    obtain ⟨x, hx⟩ : ∃ x, ws[k]? = some x := ⟨_, List.getElem?_eq_getElem (by omega)⟩
    have hxe := encI_at hx
    refine skp (h := ?_)
    refine q_seq (h := ?_)
    refine sq (h := ?_)
    refine bk (h := ?_)
    refine sq (h := ?_)
    refine rg (h := ?_)
    refine WL.y (hy := mv) (h := ?_)
    refine WL.y (hy := asg) (h := ?_)
    refine nl (h := ?_)
    refine q_seq (h := ?_)
    refine sq (h := ?_)
    refine rg (h := ?_)
    refine WL.y (hy := mv) (h := ?_)
    refine WL.y (hy := mv) (h := ?_)
    refine WL.y (hy := mv) (h := ?_)
    refine WL.y (hy := ix (A := A) (m := n) (hr := Rds.any hE)) (h := ?_)
    refine WL.y (hy := ldE (A := A) (hr := Rds.any hE) (hk := hxe)) (h := ?_)
    refine clfT hg (fi := fi) (cap := cap) (by exact rfl) (by repeat (first | exact Evs.nil | (apply Evs.cons; exact rfl))) (hp x (List.mem_of_getElem? hx)) rfl (Spl.thr (Spl.app _ _)) (h := fun _ _ => ?_)
    refine WL.subL (SubL.cons (At.app _ _) (SubL.refl _)) ?_
    refine nl (h := ?_)
    refine q_seq (h := ?_)
    refine cd (by exact rfl) (fun h1 => ?_) (fun h1 => ?_)
    · skip
      refine sq (h := ?_)
      refine rg (h := ?_)
      refine WL.y (hy := mv) (h := ?_)
      refine WL.y (hy := asg) (h := ?_)
      refine nl (h := ?_)
      refine q_seq (h := ?_)
      refine rtn (h := ?_)
      refine q_blk_ret (h := ?_)
      refine q_then_ret (h := ?_)
      refine q_then_ret (h := ?_)
      refine q_blk_ret (h := ?_)
      refine q_then_ret (h := ?_)
      refine q_ret (hR := ?_)
      exact fun w hS => ⟨_, .inl ⟨k, hkn, rfl, by rw [pAt_eq hx]; assumption, hall⟩, rfl, hS⟩
    · skip
      refine skp (h := ?_)
      refine q_blk_norm (h := ?_)
      refine q_seq (h := ?_)
      refine rg (h := ?_)
      refine WL.y (hy := addI) (h := ?_)
      refine WL.y (hy := mv) (h := ?_)
      refine nl (h := ?_)
      refine rn (k + 1) ⟨by omega, fun i hi => ?_⟩ (by omega) (by repeat (first | exact trivial | refine ⟨rfl, ?_⟩)) (SubL.refl _)
      rcases Nat.lt_succ_iff_lt_or_eq.1 hi with h | rfl
      · exact hall i h
      · rw [pAt_eq hx]; assumption
  · skip
    have hkn : k = n := by simp only [decide_eq_false_iff_not] at h0; omega
    refine et (h := ?_)
    refine q_then_exit (h := ?_)
    refine q_then_exit (h := ?_)
    refine q_blk_hit (h := ?_)
    refine q_seq (h := ?_)
    refine sq (h := ?_)
    refine rg (h := ?_)
    refine WL.y (hy := asg) (h := ?_)
    refine nl (h := ?_)
    refine q_seq (h := ?_)
    refine rtn (h := ?_)
    refine q_ret (hR := ?_)
    exact fun w hS => ⟨_, .inr ⟨rfl, by subst hkn; exact hall⟩, rfl, hS⟩
theorem T_ContainsIntB {E : Ent} {A : Option Addr} {n c : Nat} {ws : List Int} (hE : ∀ w, E.ok w → Rd w A 1 n (encI ws)) {g : FuncId} (hg : FnOk Try.prog g) (fi cap : List Value) (Lp : List Ent) (p : Int → Bool) (hn : n ≤ 9223372036854775807) (hlen : ws.length = n)
    (hp : ∀ x ∈ ws, Tr Try.prog g (fi ++ [.int .i64 x] ++ cap) Lp (fun _ : Unit => True) (fun _ => .bool (p x)) (fun _ => Lp)) :
    Tr Try.prog 68 [.slice A n c, .func (.func g) fi.toArray cap.toArray] (E :: Lp) (fun _ : Unit => True) (fun _ => .bool (ws.any p)) (fun _ => E :: Lp) := by
  refine ⟨fun w0 w R hst => ?_⟩
  refine en Try.func68 Try.ntmps68 hst (h := fun F => ?_)
  refine sq (h := ?_)
  refine rg (h := ?_)
  refine WL.y (hy := asg) (h := ?_)
  refine nl (h := ?_)
  refine q_seq (h := ?_)
  refine sq (h := ?_)
  refine rg (h := ?_)
  refine WL.y (hy := mv) (h := ?_)
  refine WL.y (hy := mv) (h := ?_)
  refine clT (hc := T_IndexIntB (c := c) hE hg fi cap Lp p hn hlen hp) (hs := Spl.cons .here (Spl.app _ _)) (h := fun x0 hx0 => ?_)
  refine WL.y (hy := geq) (h := ?_)
  refine WL.y (hy := asg) (h := ?_)
  refine nl (h := ?_)
  refine q_seq (h := ?_)
  refine rtn (h := ?_)
  refine q_ret (hR := ?_)
  exact fun w hS => ⟨(), trivial, by simp only [resV, hx0.any]; rw [← hlen, pAt_any], hS⟩
set_option maxRecDepth 100000 in
set_option maxHeartbeats 2000000 in
theorem C_balls_Check (d : Dp) (a : DA) (w : World) (h : DpR w d a) : C0 Try.prog 29 [d.val a] w (.int .i64 (depE d)) := by
  have hsc := h.sc
  have hfc := h.fc
  have hcc := h.cc
  refine ⟨en Try.func29 Try.ntmps29 ((((St.init w).share (e := .ro a.sA 1 d.st.length (encI d.st)) h.s rfl rfl rfl).share (e := .ro a.fA 16 d.fx.length (d.fx.map Fx.enc)) h.f rfl rfl rfl).share (e := .ro a.cA 3 d.cr.length (d.cr.map Cx.enc)) h.c rfl rfl rfl) (h := fun F => ?_)⟩
  refine sq (h := ?_)
  refine rg (h := ?_)
  refine bxA (h := fun b0 => ?_)
  refine WL.y (hy := asg) (h := ?_)
  refine nl (h := ?_)
  refine q_seq (h := ?_)
  refine sq (h := ?_)
  refine rg (h := ?_)
  refine al (h := fun bf => ?_)
  first | refine st (h := ?_) | refine stE (h := ?_)
  refine nl (h := ?_)
  refine q_seq (h := ?_)
  refine sq (h := ?_)
  refine sq (h := ?_)
  refine rg (h := ?_)
  refine WL.y (hy := (by first | exact fa | exact faE)) (h := ?_)
  refine WL.y (hy := (by first | exact fa | exact faE)) (h := ?_)
  refine WL.y (hy := (by first | exact ld | exact ldE)) (h := ?_)
  refine WL.y (hy := (by first | exact fa | exact faE)) (h := ?_)
  refine WL.y (hy := (by first | exact fa | exact faE)) (h := ?_)
  refine WL.y (hy := (by first | exact ld | exact ldE)) (h := ?_)
  refine WL.y (hy := (by first | exact fa | exact faE)) (h := ?_)
  refine WL.y (hy := (by first | exact fa | exact faE)) (h := ?_)
  refine WL.y (hy := (by first | exact ld | exact ldE)) (h := ?_)
  refine bs (h := fun b2 => ?_)
  refine WL.y (hy := lenS) (h := ?_)
  refine WL.y (hy := mv) (h := ?_)
  refine nl (h := ?_)
  refine q_seq (h := ?_)
  refine bk (h := ?_)
  refine lp (X := Nat) (I := fun k => k ≤ 3 ∧ Upto [d.each, d.tow, d.fra] (fun n => wi n 0 20) k) (le := fun k => [(1, .pointer (some ⟨b0, 0, none⟩)), (3, .pointer (some ⟨bf, 0, none⟩)), (19, .slice (some ⟨b2, 0, none⟩) 3 3), (20, .int .i64 3), (21, .int .i64 k)]) (Le := fun _ => [.own (some ⟨b2, 0, none⟩) 3 3 1 3 (encI [d.each, d.tow, d.fra]), .blk bf 119 [.func (.func 66) #[] #[]], .blk b0 49 (d.cells a), .ro a.sA 1 d.st.length (encI d.st), .ro a.fA 16 d.fx.length (d.fx.map Fx.enc), .ro a.cA 3 d.cr.length (d.cr.map Cx.enc)]) (μ := fun k => 3 - k) 0 ⟨Nat.zero_le _, upto_zero⟩ (by repeat (first | exact trivial | refine ⟨rfl, ?_⟩)) (by repeat (first | exact SubL.nil | (apply SubL.cons; (repeat (first | exact At.here | apply At.there))) | exact SubL.refl _ | apply SubL.skip)) (fun k hk => ?_)
  obtain ⟨hk0, hku⟩ := hk
  refine sq (h := ?_)
  refine rg (h := ?_)
  refine WL.y (hy := lss) (h := ?_)
  refine nl (h := ?_)
  refine q_seq (h := ?_)
  refine sq (h := ?_)
  refine cd (by exact rfl) (fun h0 => ?_) (fun h0 => ?_)
  · skip
    have hk3 : k < 3 := by have := of_decide_eq_true h0; omega
    obtain ⟨m, hm⟩ : ∃ m, [d.each, d.tow, d.fra][k]? = some m := ⟨_, List.getElem?_eq_getElem (by simpa using hk3)⟩
    have hne := encI_at hm
    refine skp (h := ?_)
    refine q_seq (h := ?_)
    refine sq (h := ?_)
    refine bk (h := ?_)
    refine sq (h := ?_)
    refine rg (h := ?_)
    refine WL.y (hy := ix (A := some ⟨b2, 0, none⟩) (m := 3)) (h := ?_)
    refine WL.y (hy := ldE (A := some ⟨b2, 0, none⟩) (hk := hne)) (h := ?_)
    refine WL.y (hy := asg) (h := ?_)
    refine nl (h := ?_)
    refine q_seq (h := ?_)
    refine sq (h := ?_)
    refine rg (h := ?_)
    refine WL.y (hy := mv) (h := ?_)
    refine cl0 (hc := fun w hS => C_balls_within _ _ _ w) (h := ?_)
    refine WL.y (hy := notB) (h := ?_)
    refine nl (h := ?_)
    refine q_seq (h := ?_)
    refine cd (by exact rfl) (fun h1 => ?_) (fun h1 => ?_)
    · skip
      have hE : depE d = 90 := dep_kit (by
        have hm' : wi m 0 20 = false := by simpa using h1
        have hall : ([d.each, d.tow, d.fra].all fun n => wi n 0 20) = false := all_no hm hm'
        rw [kitB, ← hall]
        simp only [List.all_cons, List.all_nil, Bool.and_true, Bool.and_assoc])
      refine sq (h := ?_)
      refine rg (h := ?_)
      refine WL.y (hy := asg) (h := ?_)
      refine nl (h := ?_)
      refine q_seq (h := ?_)
      refine rtn (h := ?_)
      refine q_blk_ret (h := ?_)
      refine q_then_ret (h := ?_)
      refine q_then_ret (h := ?_)
      refine q_blk_ret (h := ?_)
      refine q_then_ret (h := ?_)
      refine q_ret (hR := ?_)
      rw [hE]
      exact fun w hS => ⟨rfl, hS.sub (by repeat (first | exact SubL.nil | (apply SubL.cons; (repeat (first | exact At.here | apply At.there))) | exact SubL.refl _ | apply SubL.skip))⟩
    · skip
      have hmk : wi m 0 20 = true := by simpa using h1
      have hkn := upto_succ hku hm hmk
      refine skp (h := ?_)
      refine q_blk_norm (h := ?_)
      refine q_seq (h := ?_)
      refine rg (h := ?_)
      refine WL.y (hy := addI) (h := ?_)
      refine WL.y (hy := mv) (h := ?_)
      refine nl (h := ?_)
      refine rn (x := k) (k + 1) ⟨by omega, hkn⟩ (by omega) (by repeat (first | exact trivial | refine ⟨rfl, ?_⟩)) (by repeat (first | exact SubL.nil | (apply SubL.cons; (repeat (first | exact At.here | apply At.there))) | exact SubL.refl _ | apply SubL.skip))
  · skip
    have hk3 : k = 3 := by have := of_decide_eq_false h0; omega
    have hkit : kitB d = true := by
      rw [hk3] at hku
      have k0 : wi d.each 0 20 = true := hku 0 d.each (by omega) rfl
      have k1 : wi d.tow 0 20 = true := hku 1 d.tow (by omega) rfl
      have k2 : wi d.fra 0 20 = true := hku 2 d.fra (by omega) rfl
      rw [kitB, k0, k1, k2]; rfl
    refine et (h := ?_)
    refine q_then_exit (h := ?_)
    refine q_then_exit (h := ?_)
    refine q_blk_hit (h := ?_)
    refine q_seq (h := ?_)
    refine sq (h := ?_)
    refine sq (h := ?_)
    refine rg (h := ?_)
    refine WL.y (hy := (by first | exact fa | exact faE)) (h := ?_)
    refine WL.y (hy := (by first | exact ld | exact ldE)) (h := ?_)
    refine WL.y (hy := lenS) (h := ?_)
    refine WL.y (hy := neq) (h := ?_)
    refine WL.y (hy := mv) (h := ?_)
    apply brOr 5 33 38 (by exact rfl)
    · intro hb2
      refine un (h := ?_)
      refine WL.y (hy := (by first | exact fa | exact faE)) (h := ?_)
      refine un (h := ?_)
      refine WL.y (hy := (by first | exact ld | exact ldE)) (h := ?_)
      refine un (h := ?_)
      refine WL.y (hy := lenS) (h := ?_)
      refine un (h := ?_)
      refine WL.y (hy := gtr) (h := ?_)
      refine WL.y (hy := (by first | exact pkT | exact pkF)) (h := ?_)
      exact mg (by repeat (first | exact trivial | refine ⟨rfl, ?_⟩ | refine ⟨by rw [hb2]; rfl, ?_⟩)) (by repeat (first | exact SubL.nil | (apply SubL.cons; (repeat (first | exact At.here | apply At.there))) | exact SubL.refl _ | apply SubL.skip))
    · intro hb2
      repeat (first | refine un (h := ?_) | refine sk (h := ?_) | refine WL.y (hy := pkF) (h := ?_) | refine WL.y (hy := pkT) (h := ?_))
      exact mg (by repeat (first | exact trivial | refine ⟨rfl, ?_⟩ | refine ⟨by rw [hb2]; rfl, ?_⟩)) (by repeat (first | exact SubL.nil | (apply SubL.cons; (repeat (first | exact At.here | apply At.there))) | exact SubL.refl _ | apply SubL.skip))
    refine WL.y (hy := mv) (h := ?_)
    apply brOr 5 39 44 (by exact rfl)
    · intro hb3
      refine un (h := ?_)
      refine WL.y (hy := (by first | exact fa | exact faE)) (h := ?_)
      refine un (h := ?_)
      refine WL.y (hy := (by first | exact ld | exact ldE)) (h := ?_)
      refine un (h := ?_)
      refine WL.y (hy := lenS) (h := ?_)
      refine un (h := ?_)
      refine WL.y (hy := gtr) (h := ?_)
      refine WL.y (hy := (by first | exact pkT | exact pkF)) (h := ?_)
      exact mg (by repeat (first | exact trivial | refine ⟨rfl, ?_⟩ | refine ⟨by rw [hb3]; rfl, ?_⟩)) (by repeat (first | exact SubL.nil | (apply SubL.cons; (repeat (first | exact At.here | apply At.there))) | exact SubL.refl _ | apply SubL.skip))
    · intro hb3
      repeat (first | refine un (h := ?_) | refine sk (h := ?_) | refine WL.y (hy := pkF) (h := ?_) | refine WL.y (hy := pkT) (h := ?_))
      exact mg (by repeat (first | exact trivial | refine ⟨rfl, ?_⟩ | refine ⟨by rw [hb3]; rfl, ?_⟩)) (by repeat (first | exact SubL.nil | (apply SubL.cons; (repeat (first | exact At.here | apply At.there))) | exact SubL.refl _ | apply SubL.skip))
    refine nl (h := ?_)
    refine q_seq (h := ?_)
    refine cd (by exact rfl) (fun h4 => ?_) (fun h4 => ?_)
    · skip
      have hE : depE d = 90 := dep_len (by rw [lenB, h4]; rfl)
      refine sq (h := ?_)
      refine rg (h := ?_)
      refine WL.y (hy := asg) (h := ?_)
      refine nl (h := ?_)
      refine q_seq (h := ?_)
      refine rtn (h := ?_)
      refine q_then_ret (h := ?_)
      refine q_ret (hR := ?_)
      rw [hE]
      exact fun w hS => ⟨rfl, hS.sub (by repeat (first | exact SubL.nil | (apply SubL.cons; (repeat (first | exact At.here | apply At.there))) | exact SubL.refl _ | apply SubL.skip))⟩
    · skip
      have hln : lenB d = true := by rw [lenB, h4]; rfl
      simp only [Bool.or_eq_false_iff, Bool.not_eq_false', decide_eq_true_eq, decide_eq_false_iff_not] at h4
      refine skp (h := ?_)
      refine q_seq (h := ?_)
      refine sq (h := ?_)
      refine sq (h := ?_)
      refine rg (h := ?_)
      refine WL.y (hy := (by first | exact fa | exact faE)) (h := ?_)
      refine WL.y (hy := (by first | exact ld | exact ldE)) (h := ?_)
      refine WL.y (hy := mkf) (h := ?_)
      refine clT (hc := T_ContainsIntB (E := .ro a.sA 1 d.st.length (encI d.st)) (ws := d.st) (c := a.sc) (fun w hw => hw) inferInstance [] [.pointer (some ⟨bf, 0, none⟩)] [.blk bf 119 [.func (.func 66) #[] #[]]] (fun n => !wi n 0 99999) h.sc rfl (fun x _ => T_Check2 x bf)) (h := fun x48 _ => ?_)
      refine nl (h := ?_)
      refine q_seq (h := ?_)
      refine cd (by exact rfl) (fun h5 => ?_) (fun h5 => ?_)
      · skip
        have hE : depE d = 90 := dep_st (by
          obtain ⟨n, hn, hp⟩ := List.any_eq_true.1 h5
          obtain ⟨i, hi, e⟩ := List.getElem_of_mem hn
          exact all_no (i := i) (x := n) (by rw [List.getElem?_eq_getElem hi, e]) (by simpa using hp))
        refine sq (h := ?_)
        refine rg (h := ?_)
        refine WL.y (hy := asg) (h := ?_)
        refine nl (h := ?_)
        refine q_seq (h := ?_)
        refine rtn (h := ?_)
        refine q_then_ret (h := ?_)
        refine q_ret (hR := ?_)
        rw [hE]
        exact fun w hS => ⟨rfl, hS.sub (by repeat (first | exact SubL.nil | (apply SubL.cons; (repeat (first | exact At.here | apply At.there))) | exact SubL.refl _ | apply SubL.skip))⟩
      · skip
        have hst : stB d = true := List.all_eq_true.2 fun n hn => by
          have := List.any_eq_false.1 h5 n hn
          simpa using this
        refine skp (h := ?_)
        refine q_seq (h := ?_)
        refine sq (h := ?_)
        refine sq (h := ?_)
        refine rg (h := ?_)
        refine WL.y (hy := (by first | exact fa | exact faE)) (h := ?_)
        refine WL.y (hy := (by first | exact ld | exact ldE)) (h := ?_)
        refine WL.y (hy := lenS) (h := ?_)
        refine WL.y (hy := mv) (h := ?_)
        refine nl (h := ?_)
        refine q_seq (h := ?_)
        refine bk (h := ?_)
        refine lp (X := Nat) (I := fun j => j ≤ d.fx.length ∧ Upto d.fx fxOk j) (le := fun j => [(1, .pointer (some ⟨b0, 0, none⟩)), (3, .pointer (some ⟨bf, 0, none⟩)), (50, .slice a.fA d.fx.length a.fc), (51, .int .i64 d.fx.length), (52, .int .i64 j)]) (Le := fun _ => [.blk bf 119 [.func (.func 66) #[] #[]], .blk b0 49 (d.cells a), .ro a.sA 1 d.st.length (encI d.st), .ro a.fA 16 d.fx.length (d.fx.map Fx.enc), .ro a.cA 3 d.cr.length (d.cr.map Cx.enc)]) (μ := fun j => d.fx.length - j) 0 ⟨Nat.zero_le _, upto_zero⟩ (by repeat (first | exact trivial | refine ⟨rfl, ?_⟩)) (by repeat (first | exact SubL.nil | (apply SubL.cons; (repeat (first | exact At.here | apply At.there))) | exact SubL.refl _ | apply SubL.skip)) (fun j hj => ?_)
        obtain ⟨hj0, hju⟩ := hj
        refine sq (h := ?_)
        refine rg (h := ?_)
        refine WL.y (hy := lss) (h := ?_)
        refine nl (h := ?_)
        refine q_seq (h := ?_)
        refine sq (h := ?_)
        refine cd (by exact rfl) (fun h6 => ?_) (fun h6 => ?_)
        · skip
          have hkn2 : j < d.fx.length := by have := of_decide_eq_true h6; omega
          obtain ⟨x, hx⟩ : ∃ x, d.fx[j]? = some x := ⟨_, List.getElem?_eq_getElem hkn2⟩
          refine skp (h := ?_)
          refine q_seq (h := ?_)
          refine sq (h := ?_)
          refine bk (h := ?_)
          refine sq (h := ?_)
          refine rg (h := ?_)
          refine WL.y (hy := ix (A := a.fA) (m := d.fx.length)) (h := ?_)
          refine WL.y (hy := ldEW (A := a.fA) (hk := map_at hx)) (h := ?_)
          refine al (h := fun bx => ?_)
          first | refine stA (h := ?_) | refine stEA (h := ?_)
          refine nl (h := ?_)
          refine q_seq (h := ?_)
          refine sq (h := ?_)
          refine rg (h := ?_)
          refine WL.y (hy := (by first | exact fa | exact faE)) (h := ?_)
          refine WL.y (hy := (by first | exact ld | exact ldE)) (h := ?_)
          refine cl0 (hc := fun w hS => C_balls_within _ _ _ w) (h := ?_)
          refine WL.y (hy := notB) (h := ?_)
          refine WL.y (hy := mv) (h := ?_)
          apply brOr 7 60 67 (by exact rfl)
          · intro hb7
            refine un (h := ?_)
            refine WL.y (hy := (by first | exact fa | exact faE)) (h := ?_)
            refine un (h := ?_)
            refine WL.y (hy := (by first | exact ldA | exact ldEA)) (h := ?_)
            refine un (h := ?_)
            refine WL.y (hy := (by first | exact fa | exact faE)) (h := ?_)
            refine un (h := ?_)
            refine WL.y (hy := (by first | exact ldA | exact ldEA)) (h := ?_)
            refine un (h := ?_)
            refine cl0 (hc := fun w hS => C_balls_check x.f x.b x.A x.b.st.length x.c w ((hS.old (h.x x (List.mem_of_getElem? hx)).r).get) (by have h1 := (h.x x (List.mem_of_getElem? hx)).n; have h2 := (h.x x (List.mem_of_getElem? hx)).c; omega)) (h := ?_)
            refine un (h := ?_)
            refine WL.y (hy := neq) (h := ?_)
            refine WL.y (hy := (by first | exact pkT | exact pkF)) (h := ?_)
            exact mg (by repeat (first | exact trivial | refine ⟨rfl, ?_⟩ | refine ⟨by rw [hb7]; rfl, ?_⟩)) (by repeat (first | exact SubL.nil | (apply SubL.cons; (repeat (first | exact At.here | apply At.there))) | exact SubL.refl _ | apply SubL.skip))
          · intro hb7
            repeat (first | refine un (h := ?_) | refine sk (h := ?_) | refine WL.y (hy := pkF) (h := ?_) | refine WL.y (hy := pkT) (h := ?_))
            exact mg (by repeat (first | exact trivial | refine ⟨rfl, ?_⟩ | refine ⟨by rw [hb7]; rfl, ?_⟩)) (by repeat (first | exact SubL.nil | (apply SubL.cons; (repeat (first | exact At.here | apply At.there))) | exact SubL.refl _ | apply SubL.skip))
          refine nl (h := ?_)
          refine q_seq (h := ?_)
          refine cd (by exact rfl) (fun h8 => ?_) (fun h8 => ?_)
          · skip
            have hE : depE d = 90 := dep_fx (all_no hx (by rw [fxOk, h8]; rfl))
            refine sq (h := ?_)
            refine rg (h := ?_)
            refine WL.y (hy := asg) (h := ?_)
            refine nl (h := ?_)
            refine q_seq (h := ?_)
            refine rtn (h := ?_)
            refine q_blk_ret (h := ?_)
            refine q_then_ret (h := ?_)
            refine q_then_ret (h := ?_)
            refine q_blk_ret (h := ?_)
            refine q_then_ret (h := ?_)
            refine q_ret (hR := ?_)
            rw [hE]
            exact fun w hS => ⟨rfl, hS.sub (by repeat (first | exact SubL.nil | (apply SubL.cons; (repeat (first | exact At.here | apply At.there))) | exact SubL.refl _ | apply SubL.skip))⟩
          · skip
            have hjn := upto_succ hju hx (by rw [fxOk, h8]; rfl)
            refine skp (h := ?_)
            refine q_blk_norm (h := ?_)
            refine q_seq (h := ?_)
            refine rg (h := ?_)
            refine WL.y (hy := addI) (h := ?_)
            refine WL.y (hy := mv) (h := ?_)
            refine nl (h := ?_)
            refine rn (x := j) (j + 1) ⟨hkn2, hjn⟩ (by omega) (by repeat (first | exact trivial | refine ⟨rfl, ?_⟩)) (by repeat (first | exact SubL.nil | (apply SubL.cons; (repeat (first | exact At.here | apply At.there))) | exact SubL.refl _ | apply SubL.skip))
        · skip
          have hkn2 : j = d.fx.length := by have := of_decide_eq_false h6; omega
          have hfx : fxB d = true := all_to fun i x hi => hju i x (by omega)
          refine et (h := ?_)
          refine q_then_exit (h := ?_)
          refine q_then_exit (h := ?_)
          refine q_blk_hit (h := ?_)
          refine q_seq (h := ?_)
          refine sq (h := ?_)
          refine sq (h := ?_)
          refine rg (h := ?_)
          refine WL.y (hy := (by first | exact fa | exact faE)) (h := ?_)
          refine WL.y (hy := (by first | exact ld | exact ldE)) (h := ?_)
          refine WL.y (hy := lenS) (h := ?_)
          refine WL.y (hy := mv) (h := ?_)
          refine nl (h := ?_)
          refine q_seq (h := ?_)
          refine bk (h := ?_)
          refine lp (X := Nat) (I := fun i => i ≤ d.cr.length ∧ Upto d.cr crOk i) (le := fun i => [(1, .pointer (some ⟨b0, 0, none⟩)), (3, .pointer (some ⟨bf, 0, none⟩)), (70, .slice a.cA d.cr.length a.cc), (71, .int .i64 d.cr.length), (72, .int .i64 i)]) (Le := fun _ => [.blk bf 119 [.func (.func 66) #[] #[]], .blk b0 49 (d.cells a), .ro a.sA 1 d.st.length (encI d.st), .ro a.fA 16 d.fx.length (d.fx.map Fx.enc), .ro a.cA 3 d.cr.length (d.cr.map Cx.enc)]) (μ := fun i => d.cr.length - i) 0 ⟨Nat.zero_le _, upto_zero⟩ (by repeat (first | exact trivial | refine ⟨rfl, ?_⟩)) (by repeat (first | exact SubL.nil | (apply SubL.cons; (repeat (first | exact At.here | apply At.there))) | exact SubL.refl _ | apply SubL.skip)) (fun i hi => ?_)
          obtain ⟨hi0, hiu⟩ := hi
          refine sq (h := ?_)
          refine rg (h := ?_)
          refine WL.y (hy := lss) (h := ?_)
          refine nl (h := ?_)
          refine q_seq (h := ?_)
          refine sq (h := ?_)
          refine cd (by exact rfl) (fun h9 => ?_) (fun h9 => ?_)
          · skip
            have hkn3 : i < d.cr.length := by have := of_decide_eq_true h9; omega
            obtain ⟨y, hc⟩ : ∃ y, d.cr[i]? = some y := ⟨_, List.getElem?_eq_getElem hkn3⟩
            refine skp (h := ?_)
            refine q_seq (h := ?_)
            refine sq (h := ?_)
            refine bk (h := ?_)
            refine sq (h := ?_)
            refine rg (h := ?_)
            refine WL.y (hy := ix (A := a.cA) (m := d.cr.length)) (h := ?_)
            refine WL.y (hy := ldEW (A := a.cA) (hk := map_at hc)) (h := ?_)
            refine al (h := fun bc => ?_)
            first | refine stA (h := ?_) | refine stEA (h := ?_)
            refine nl (h := ?_)
            refine q_seq (h := ?_)
            refine sq (h := ?_)
            refine rg (h := ?_)
            refine WL.y (hy := (by first | exact fa | exact faE)) (h := ?_)
            refine WL.y (hy := (by first | exact ld | exact ldE)) (h := ?_)
            refine cl0 (hc := fun w hS => C_balls_within _ _ _ w) (h := ?_)
            refine WL.y (hy := notB) (h := ?_)
            refine WL.y (hy := mv) (h := ?_)
            apply brOr 5 80 85 (by exact rfl)
            · intro hb10
              refine un (h := ?_)
              refine WL.y (hy := (by first | exact fa | exact faE)) (h := ?_)
              refine un (h := ?_)
              refine WL.y (hy := (by first | exact ld | exact ldE)) (h := ?_)
              refine un (h := ?_)
              refine cl0 (hc := fun w hS => C_balls_within _ _ _ w) (h := ?_)
              refine un (h := ?_)
              refine WL.y (hy := notB) (h := ?_)
              refine WL.y (hy := (by first | exact pkT | exact pkF)) (h := ?_)
              exact mg (by repeat (first | exact trivial | refine ⟨rfl, ?_⟩ | refine ⟨by rw [hb10]; rfl, ?_⟩)) (by repeat (first | exact SubL.nil | (apply SubL.cons; (repeat (first | exact At.here | apply At.there))) | exact SubL.refl _ | apply SubL.skip))
            · intro hb10
              repeat (first | refine un (h := ?_) | refine sk (h := ?_) | refine WL.y (hy := pkF) (h := ?_) | refine WL.y (hy := pkT) (h := ?_))
              exact mg (by repeat (first | exact trivial | refine ⟨rfl, ?_⟩ | refine ⟨by rw [hb10]; rfl, ?_⟩)) (by repeat (first | exact SubL.nil | (apply SubL.cons; (repeat (first | exact At.here | apply At.there))) | exact SubL.refl _ | apply SubL.skip))
            refine WL.y (hy := mv) (h := ?_)
            apply brOr 6 86 92 (by exact rfl)
            · intro hb11
              refine un (h := ?_)
              refine WL.y (hy := (by first | exact ld | exact ldE)) (h := ?_)
              refine un (h := ?_)
              refine WL.y (hy := (by first | exact fa | exact faE)) (h := ?_)
              refine un (h := ?_)
              refine WL.y (hy := (by first | exact ld | exact ldE)) (h := ?_)
              refine un (h := ?_)
              refine clf0 (f := 66) (fi := []) (cap := []) (hc := fun w hS => C_Check1 y.count w) (h := ?_)
              refine un (h := ?_)
              refine WL.y (hy := notB) (h := ?_)
              refine WL.y (hy := (by first | exact pkT | exact pkF)) (h := ?_)
              exact mg (by repeat (first | exact trivial | refine ⟨rfl, ?_⟩ | refine ⟨by rw [hb11]; rfl, ?_⟩)) (by repeat (first | exact SubL.nil | (apply SubL.cons; (repeat (first | exact At.here | apply At.there))) | exact SubL.refl _ | apply SubL.skip))
            · intro hb11
              repeat (first | refine un (h := ?_) | refine sk (h := ?_) | refine WL.y (hy := pkF) (h := ?_) | refine WL.y (hy := pkT) (h := ?_))
              exact mg (by repeat (first | exact trivial | refine ⟨rfl, ?_⟩ | refine ⟨by rw [hb11]; rfl, ?_⟩)) (by repeat (first | exact SubL.nil | (apply SubL.cons; (repeat (first | exact At.here | apply At.there))) | exact SubL.refl _ | apply SubL.skip))
            refine nl (h := ?_)
            refine q_seq (h := ?_)
            refine cd (by exact rfl) (fun h12 => ?_) (fun h12 => ?_)
            · skip
              have hE : depE d = 90 := dep_cr (all_no hc (by rw [crOk, h12]; rfl))
              refine sq (h := ?_)
              refine rg (h := ?_)
              refine WL.y (hy := asg) (h := ?_)
              refine nl (h := ?_)
              refine q_seq (h := ?_)
              refine rtn (h := ?_)
              refine q_blk_ret (h := ?_)
              refine q_then_ret (h := ?_)
              refine q_then_ret (h := ?_)
              refine q_blk_ret (h := ?_)
              refine q_then_ret (h := ?_)
              refine q_ret (hR := ?_)
              rw [hE]
              exact fun w hS => ⟨rfl, hS.sub (by repeat (first | exact SubL.nil | (apply SubL.cons; (repeat (first | exact At.here | apply At.there))) | exact SubL.refl _ | apply SubL.skip))⟩
            · skip
              have hin := upto_succ hiu hc (by rw [crOk, h12]; rfl)
              refine skp (h := ?_)
              refine q_blk_norm (h := ?_)
              refine q_seq (h := ?_)
              refine rg (h := ?_)
              refine WL.y (hy := addI) (h := ?_)
              refine WL.y (hy := mv) (h := ?_)
              refine nl (h := ?_)
              refine rn (x := i) (i + 1) ⟨hkn3, hin⟩ (by omega) (by repeat (first | exact trivial | refine ⟨rfl, ?_⟩)) (by repeat (first | exact SubL.nil | (apply SubL.cons; (repeat (first | exact At.here | apply At.there))) | exact SubL.refl _ | apply SubL.skip))
          · skip
            have hkn3 : i = d.cr.length := by have := of_decide_eq_false h9; omega
            have hcr : crB d = true := all_to fun i' x hi' => hiu i' x (by omega)
            have hE := dep_yes hkit hln hst hfx hcr
            refine et (h := ?_)
            refine q_then_exit (h := ?_)
            refine q_then_exit (h := ?_)
            refine q_blk_hit (h := ?_)
            refine q_seq (h := ?_)
            refine sq (h := ?_)
            refine rg (h := ?_)
            refine WL.y (hy := asg) (h := ?_)
            refine nl (h := ?_)
            refine q_seq (h := ?_)
            refine rtn (h := ?_)
            refine q_ret (hR := ?_)
            rw [hE]
            exact fun w hS => ⟨rfl, hS.sub (by repeat (first | exact SubL.nil | (apply SubL.cons; (repeat (first | exact At.here | apply At.there))) | exact SubL.refl _ | apply SubL.skip))⟩
theorem DpR.old {w0 w : World} {L : List Ent} {d : Dp} {a : DA} (h : DpR w0 d a) (hS : St w0 w L) : DpR w d a :=
  ⟨(hS.old h.s).get, (hS.old h.f).get, (hS.old h.c).get, fun y hy => ⟨(hS.old (h.x y hy).r).get, (h.x y hy).n, (h.x y hy).c⟩, h.sc, h.fc, h.cc⟩
end Go.Proofs.Ytacaojifempclaa

namespace Go.Proofs.Ytacaojifempclaa
open Go Go.RowKit

abbrev fixtureSp : List Sp := [.int .i64, .int .i64, .int .i64, .bool, .int .i64, .int .i64, .int .i64, .int .i64, .int .i64, .int .i64, .bool, .sl i2, .int .i64, .int .i64, .int .i64, .int .i64]
abbrev crateSp : List Sp := [.int .i64, .int .i64, .int .i64]
abbrev depotSp : List Sp := [.int .i64, .int .i64, .int .i64, .sl [.int .i64], .sl fixtureSp, .sl crateSp]
theorem day_open {w : World} {cs : List Value} (h : Mts w i2 cs) : ∃ p : Int × Int, Value.agg cs.toArray = .agg #[.int .i64 p.1, .int .i64 p.2] := by
  obtain ⟨p, rfl⟩ := i2_open h
  exact ⟨p, rfl⟩
theorem crate_cells {w : World} {cs : List Value} (h : Mts w crateSp cs) : ∃ c : Cx, cs = c.enc := by
  obtain ⟨a1, cs, rfl, _, h⟩ := Mts.int_inv h
  obtain ⟨a2, cs, rfl, _, h⟩ := h.int_inv
  obtain ⟨a3, cs, rfl, _, h⟩ := h.int_inv
  rw [h.nil_inv]
  exact ⟨⟨a1, a2, a3⟩, rfl⟩
theorem fixture_cells {w : World} {cs : List Value} (h : Mts w fixtureSp cs) : ∃ x : Fx, cs = x.enc ∧ x.ok w := by
  obtain ⟨a0, cs, rfl, _, h⟩ := Mts.int_inv h
  obtain ⟨a1, cs, rfl, _, h⟩ := h.int_inv
  obtain ⟨a2, cs, rfl, _, h⟩ := h.int_inv
  obtain ⟨a3, cs, rfl, h3⟩ := h.bool_inv
  obtain ⟨a4, cs, rfl, _, h⟩ := h3.int_inv
  obtain ⟨a5, cs, rfl, _, h⟩ := h.int_inv
  obtain ⟨a6, cs, rfl, _, h⟩ := h.int_inv
  obtain ⟨a7, cs, rfl, _, h⟩ := h.int_inv
  obtain ⟨a8, cs, rfl, _, h⟩ := h.int_inv
  obtain ⟨a9, cs, rfl, _, h⟩ := h.int_inv
  obtain ⟨a10, cs, rfl, h10⟩ := h.bool_inv
  obtain ⟨A, n, c, xs, cs, rfl, hr, hn, hx, h⟩ := h10.sl_invc
  obtain ⟨b1, cs, rfl, _, h⟩ := h.int_inv
  obtain ⟨b2, cs, rfl, _, h⟩ := h.int_inv
  obtain ⟨b3, cs, rfl, _, h⟩ := h.int_inv
  obtain ⟨b4, cs, rfl, _, h⟩ := h.int_inv
  rw [h.nil_inv]
  obtain ⟨ys, rfl⟩ := map_of (f := fun p : Pr => [.int .i64 p.1, .int .i64 p.2]) (xs := xs) fun x hxm => i2_open (hx x hxm)
  have hl : ys.length = n := by have := hr.len; simpa using this
  subst hl
  exact ⟨⟨a0, ⟨a1, a2, a3, a4, a5, a6, a7, a8, a9, a10⟩, ⟨ys, (b1, b2), (b3, b4)⟩, A, c⟩, rfl, hr, hn.1, hn.2⟩
theorem map_ofP {α : Type} {f : α → List Value} {p : α → Prop} : ∀ {xs : List (List Value)}, (∀ x ∈ xs, ∃ a, x = f a ∧ p a) → ∃ ys : List α, xs = ys.map f ∧ ∀ y ∈ ys, p y
  | [], _ => ⟨[], rfl, fun y hy => by cases hy⟩
  | x :: xs, h => by
    obtain ⟨a, rfl, ha⟩ := h x (by simp)
    obtain ⟨ys, rfl, hy⟩ := map_ofP (xs := xs) fun y hy => h y (by simp [hy])
    exact ⟨a :: ys, rfl, fun y hm => by
      rcases List.mem_cons.1 hm with rfl | hm
      · exact ha
      · exact hy y hm⟩
theorem depot_open {w : World} {cs : List Value} (h : Mts w depotSp cs) : ∃ (d : Dp) (a : DA), Value.agg cs.toArray = d.val a ∧ DpR w d a := by
  obtain ⟨k1, cs, rfl, _, h⟩ := Mts.int_inv h
  obtain ⟨k2, cs, rfl, _, h⟩ := h.int_inv
  obtain ⟨k3, cs, rfl, _, h⟩ := h.int_inv
  obtain ⟨A, n, c, xs, cs, rfl, hr, hn, hx, h⟩ := h.sl_invc
  obtain ⟨B, m, d, ys, cs, rfl, hr2, hm, hy, h⟩ := h.sl_invc
  obtain ⟨C, k, e, zs, cs, rfl, hr3, hk, hz, h⟩ := h.sl_invc
  rw [h.nil_inv]
  obtain ⟨xs, rfl⟩ := map_of (f := fun x : Int => [.int .i64 x]) (xs := xs) fun x hxm => by
    obtain ⟨a, cs, rfl, _, h⟩ := (hx x hxm).int_inv
    rw [h.nil_inv]
    exact ⟨a, rfl⟩
  obtain ⟨ys, rfl, hys⟩ := map_ofP (f := Fx.enc) (p := fun x => x.ok w) (xs := ys) fun x hxm => fixture_cells (hy x hxm)
  obtain ⟨zs, rfl⟩ := map_of (f := Cx.enc) (xs := zs) fun x hxm => crate_cells (hz x hxm)
  have hl : xs.length = n := by have := hr.len; simpa using this
  have hl2 : ys.length = m := by have := hr2.len; simpa using this
  have hl3 : zs.length = k := by have := hr3.len; simpa using this
  subst hl hl2 hl3
  exact ⟨⟨k1, k2, k3, xs, ys, zs⟩, ⟨A, B, C, c, d, e⟩, rfl, hr, hr2, hr3, hys, by show xs.length ≤ _; omega, by show ys.length ≤ _; omega, by show zs.length ≤ _; omega⟩
end Go.Proofs.Ytacaojifempclaa

namespace Go.Proofs.Ytacaojifempclaa
open Go Go.RowKit

def playersV (f : Fmt) : Int := bif f.dbl then 4 else 2
def begB (b : Brd) : Bool := decide (0 < (b.st.length : Int)) || !isZ b.g || !isZ b.p
def onceV (b : Brd) : Int := bif begB b then 0 else 1
def timesV (s : Pr) (n : Int) : Pr := (s.1 * n, s.2 * n)
def ndV (each tow fra : Int) (x : Fx) (item : Int) : Pr :=
  bif decide (item = 0) then timesV ((restC x.f x.b).1.1 + onceV x.b, (restC x.f x.b).1.2 + onceV x.b) each
  else bif decide (item = 1) then timesV (restC x.f x.b).2 (tow * playersV x.f) else timesV (onceV x.b, onceV x.b) (fra * playersV x.f)
theorem mul_rng {a b A B : Int} (ha : 0 ≤ a ∧ a ≤ A) (hb : 0 ≤ b ∧ b ≤ B) : 0 ≤ a * b ∧ a * b ≤ A * B :=
  ⟨Int.mul_nonneg ha.1 hb.1, Int.mul_le_mul ha.2 hb.2 hb.1 (Int.le_trans ha.1 ha.2)⟩
theorem once_rng (b : Brd) : 0 ≤ onceV b ∧ onceV b ≤ 1 := by unfold onceV; cases begB b <;> decide
theorem players_rng (f : Fmt) : 2 ≤ playersV f ∧ playersV f ≤ 4 := by unfold playersV; cases f.dbl <;> decide
theorem csb_rest {f : Fmt} {b : Brd} (h : checkE f b = 0) : CsB (restC f b) 86 := by
  obtain ⟨hf, hbo, hari, hhi⟩ := check_ok h
  obtain ⟨-, hwo, hw3⟩ := arises_facts hf hbo hari
  unfold restC
  cases hov : overV f (wonV b.st)
  · rw [cond_false]
    rcases hw3 with h3 | ⟨_, h4, _⟩
    · rw [h3] at hov; cases hov
    · rw [over_won hwo, Bool.or_eq_false_iff, decide_eq_false_iff_not, decide_eq_false_iff_not] at hov
      unfold WonOk at hwo
      exact csb_bump (csb_P hf ⟨by omega, h4⟩) _ _
  · exact csb_zero (by omega)
theorem nd_rng {each tow fra : Int} {x : Fx} {item : Int} (hk : (0 ≤ each ∧ each ≤ 20) ∧ (0 ≤ tow ∧ tow ≤ 20) ∧ 0 ≤ fra ∧ fra ≤ 20) (h : checkE x.f x.b = 0) : 0 ≤ (ndV each tow fra x item).1 ∧ (ndV each tow fra x item).1 ≤ (ndV each tow fra x item).2 ∧ (ndV each tow fra x item).2 ≤ 10000 := by
  have h1 := csb_rest h
  have h2 := once_rng x.b
  have h3 := players_rng x.f
  unfold CsB at h1
  have m1 := mul_rng (a := tow) (b := playersV x.f) (A := 20) (B := 4) (by omega) (by omega)
  have m2 := mul_rng (a := fra) (b := playersV x.f) (A := 20) (B := 4) (by omega) (by omega)
  unfold ndV timesV
  cases decide (item = 0)
  · cases decide (item = 1)
    · have m3 := mul_rng (a := onceV x.b) (b := fra * playersV x.f) (A := 1) (B := 80) h2 m2
      simp only [cond_false]; omega
    · have m3 := mul_rng (a := (restC x.f x.b).2.1) (b := tow * playersV x.f) (A := 86) (B := 80) (by omega) m1
      have m4 := mul_rng (a := (restC x.f x.b).2.2) (b := tow * playersV x.f) (A := 86) (B := 80) (by omega) m1
      have m5 := Int.mul_le_mul_of_nonneg_right h1.2.2.1 m1.1
      simp only [cond_false, cond_true]; omega
  · have m3 := mul_rng (a := (restC x.f x.b).1.1 + onceV x.b) (b := each) (A := 87) (B := 20) (by omega) (by omega)
    have m4 := mul_rng (a := (restC x.f x.b).1.2 + onceV x.b) (b := each) (A := 87) (B := 20) (by omega) (by omega)
    have m5 := Int.mul_le_mul_of_nonneg_right (show (restC x.f x.b).1.1 + onceV x.b ≤ (restC x.f x.b).1.2 + onceV x.b by omega) hk.1.1
    simp only [cond_true]; omega
theorem over_beg {f : Fmt} {b : Brd} (hf : f.Ok) (h : overV f (wonV b.st) = true) : begB b = true := by
  have hs0 := hf.s0
  unfold begB
  cases hl : b.st.length with
  | zero =>
    exfalso
    have hw : wonV b.st = (0, 0) := by unfold wonV; rw [hl]; rfl
    rw [hw] at h
    have h2 : max (0 : Int) 0 = f.sets := by unfold overV at h; exact of_decide_eq_true h
    have h3 : max (0 : Int) 0 = 0 := rfl
    omega
  | succ k => rw [decide_eq_true (by omega)]; rfl
theorem beg_prog (b : Brd) : ((!isZ b.g || !isZ b.p) || decide (0 < (b.st.length : Int))) = begB b := by
  unfold begB
  cases isZ b.g <;> cases isZ b.p <;> cases decide (0 < (b.st.length : Int)) <;> rfl
theorem C_balls_times (s : Pr) (n : Int) (h1 : -1000000000 ≤ s.1 * n ∧ s.1 * n ≤ 1000000000) (h2 : -1000000000 ≤ s.2 * n ∧ s.2 * n ≤ 1000000000) (w : World) : C0 Try.prog 126 [pv s, .int .i64 n] w (pv (timesV s n)) := by
  refine ⟨en Try.func126 Try.ntmps126 (St.init w) (h := fun F => ?_)⟩
  refine sq (h := ?_)
  refine rg (h := ?_)
  refine bxA (h := fun b0 => ?_)
  refine al (h := fun b1 => ?_)
  refine nl (h := ?_)
  refine q_seq (h := ?_)
  refine sq (h := ?_)
  refine rg (h := ?_)
  refine WL.y (hy := (by first | exact fa | exact faE)) (h := ?_)
  refine WL.y (hy := (by first | exact ld | exact ldE)) (h := ?_)
  refine WL.y (hy := mv) (h := ?_)
  refine WL.y (hy := mulI) (h := ?_)
  refine WL.y (hy := (by first | exact fa | exact faE)) (h := ?_)
  refine WL.y (hy := (by first | exact ld | exact ldE)) (h := ?_)
  refine WL.y (hy := mv) (h := ?_)
  refine WL.y (hy := mulI) (h := ?_)
  refine WL.y (hy := bd) (h := ?_)
  first | refine stA (h := ?_) | refine stEA (h := ?_)
  refine nl (h := ?_)
  refine q_seq (h := ?_)
  refine rtn (h := ?_)
  refine q_ret (hR := ?_)
  exact fun w hS => ⟨rfl, hS.sub (by repeat (first | exact SubL.nil | (apply SubL.cons; (repeat (first | exact At.here | apply At.there))) | exact SubL.refl _ | apply SubL.skip))⟩
theorem C_ref9_times (s : Pr) (n : Int) (h1 : -1000000000 ≤ s.1 * n ∧ s.1 * n ≤ 1000000000) (h2 : -1000000000 ≤ s.2 * n ∧ s.2 * n ≤ 1000000000) (w : World) : C0 Try.prog 116 [pv s, .int .i64 n] w (pv (timesV s n)) := by
  refine ⟨en Try.func116 Try.ntmps116 (St.init w) (h := fun F => ?_)⟩
  refine sq (h := ?_)
  refine rg (h := ?_)
  refine bxA (h := fun b0 => ?_)
  refine al (h := fun b1 => ?_)
  refine nl (h := ?_)
  refine q_seq (h := ?_)
  refine sq (h := ?_)
  refine rg (h := ?_)
  refine WL.y (hy := (by first | exact fa | exact faE)) (h := ?_)
  refine WL.y (hy := (by first | exact ld | exact ldE)) (h := ?_)
  refine WL.y (hy := mv) (h := ?_)
  refine WL.y (hy := mulI) (h := ?_)
  refine WL.y (hy := (by first | exact fa | exact faE)) (h := ?_)
  refine WL.y (hy := (by first | exact ld | exact ldE)) (h := ?_)
  refine WL.y (hy := mv) (h := ?_)
  refine WL.y (hy := mulI) (h := ?_)
  refine WL.y (hy := bd) (h := ?_)
  first | refine stA (h := ?_) | refine stEA (h := ?_)
  refine nl (h := ?_)
  refine q_seq (h := ?_)
  refine rtn (h := ?_)
  refine q_ret (hR := ?_)
  exact fun w hS => ⟨rfl, hS.sub (by repeat (first | exact SubL.nil | (apply SubL.cons; (repeat (first | exact At.here | apply At.there))) | exact SubL.refl _ | apply SubL.skip))⟩
abbrev nd6 (each tow fra : Int) (x : Fx) : List Value := [.int .i64 (ndV each tow fra x 0).1, .int .i64 (ndV each tow fra x 0).2, .int .i64 (ndV each tow fra x 1).1, .int .i64 (ndV each tow fra x 1).2, .int .i64 (ndV each tow fra x 2).1, .int .i64 (ndV each tow fra x 2).2]
set_option maxRecDepth 100000 in
theorem C_balls_needs (each tow fra : Int) (x : Fx) (hk : (0 ≤ each ∧ each ≤ 20) ∧ (0 ≤ tow ∧ tow ≤ 20) ∧ 0 ≤ fra ∧ fra ≤ 20) (hc : checkE x.f x.b = 0) (w : World) (h : Rd w x.A 2 x.b.st.length (encP x.b.st)) : C0 Try.prog 114 [.agg #[.int .i64 each, .int .i64 tow, .int .i64 fra], x.val] w (.agg (nd6 each tow fra x).toArray) := by
  obtain ⟨hf, hbo, hari, hhi⟩ := check_ok hc
  have h1 := csb_rest hc
  have h2 := once_rng x.b
  have h3 := players_rng x.f
  unfold CsB at h1
  have m1 := mul_rng (a := tow) (b := playersV x.f) (A := 20) (B := 4) (by omega) (by omega)
  have m2 := mul_rng (a := fra) (b := playersV x.f) (A := 20) (B := 4) (by omega) (by omega)
  have m3 := mul_rng (a := onceV x.b) (b := fra * playersV x.f) (A := 1) (B := 80) h2 m2
  have m4 := mul_rng (a := (restC x.f x.b).2.1) (b := tow * playersV x.f) (A := 86) (B := 80) (by omega) m1
  have m5 := mul_rng (a := (restC x.f x.b).2.2) (b := tow * playersV x.f) (A := 86) (B := 80) (by omega) m1
  have m6 := mul_rng (a := (restC x.f x.b).1.1 + onceV x.b) (b := each) (A := 87) (B := 20) (by omega) (by omega)
  have m7 := mul_rng (a := (restC x.f x.b).1.2 + onceV x.b) (b := each) (A := 87) (B := 20) (by omega) (by omega)
  refine ⟨en Try.func114 Try.ntmps114 ((St.init w).share (e := .ro x.A 2 x.b.st.length (encP x.b.st)) h rfl rfl rfl) (h := fun F => ?_)⟩
  refine sq (h := ?_)
  refine rg (h := ?_)
  refine bxA (h := fun b0 => ?_)
  refine bxA (h := fun b1 => ?_)
  refine al (h := fun b2 => ?_)
  refine nl (h := ?_)
  refine q_seq (h := ?_)
  refine sq (h := ?_)
  refine rg (h := ?_)
  refine WL.y (hy := (by first | exact fa | exact faE)) (h := ?_)
  refine WL.y (hy := (by first | exact ldA | exact ldEA)) (h := ?_)
  refine WL.y (hy := (by first | exact fa | exact faE)) (h := ?_)
  refine WL.y (hy := (by first | exact ldA | exact ldEA)) (h := ?_)
  refine cl0 (hc := fun w hS => C_balls_open x.f x.b hf (bdd_high hf hhi).1 hbo hari x.A x.b.st.length x.c w (hS.get (by repeat (first | exact Rds.ro | exact Rds.own | apply Rds.there)))) (h := ?_)
  refine WL.y (hy := mv) (h := ?_)
  refine WL.y (hy := ex) (h := ?_)
  refine WL.y (hy := ex) (h := ?_)
  refine al (h := fun b3 => ?_)
  first | refine stA (h := ?_) | refine stEA (h := ?_)
  refine WL.y (hy := asg) (h := ?_)
  refine nl (h := ?_)
  refine q_seq (h := ?_)
  refine sq (h := ?_)
  refine sq (h := ?_)
  refine rg (h := ?_)
  refine WL.y (hy := mv) (h := ?_)
  refine nl (h := ?_)
  refine q_seq (h := ?_)
  refine cd (by exact rfl) (fun h0 => ?_) (fun h0 => ?_)
  · skip
    have hov : overV x.f (wonV x.b.st) = true := h0
    have hz : onceV x.b = 0 := by rw [onceV, over_beg hf hov]; rfl
    have hr : restC x.f x.b = zC := by rw [restC, hov]; rfl
    have hE : nd6 each tow fra x = [.int .i64 0, .int .i64 0, .int .i64 0, .int .i64 0, .int .i64 0, .int .i64 0] := by
      have hn : ∀ i : Int, ndV each tow fra x i = (0, 0) := fun i => by
        unfold ndV timesV
        rw [hz, hr]
        cases decide (i = 0) <;> cases decide (i = 1) <;> simp [zC]
      simp only [nd6, hn]
    refine sq (h := ?_)
    refine rg (h := ?_)
    refine WL.y (hy := (by first | exact ldA | exact ldEA)) (h := ?_)
    first | refine stA (h := ?_) | refine stEA (h := ?_)
    refine nl (h := ?_)
    refine q_seq (h := ?_)
    refine rtn (h := ?_)
    refine q_then_ret (h := ?_)
    refine q_ret (hR := ?_)
    rw [hE]
    exact fun w hS => ⟨rfl, hS.sub (by repeat (first | exact SubL.nil | (apply SubL.cons; (repeat (first | exact At.here | apply At.there))) | exact SubL.refl _ | apply SubL.skip))⟩
  · skip
    refine skp (h := ?_)
    refine q_seq (h := ?_)
    refine sq (h := ?_)
    refine rg (h := ?_)
    refine WL.y (hy := asg) (h := ?_)
    refine nl (h := ?_)
    refine q_seq (h := ?_)
    refine ct (X := Unit) (fun _ => True) (fun _ => [(2, .pointer (some ⟨b0, 0, none⟩)), (3, .pointer (some ⟨b1, 0, none⟩)), (4, .pointer (some ⟨b2, 0, none⟩)), (5, .pointer (some ⟨b3, 0, none⟩)), (7, .int .i64 (playersV x.f))]) (fun _ => [.blk b3 103 (ccs (restC x.f x.b)), .blk b0 44 [.int .i64 each, .int .i64 tow, .int .i64 fra], .blk b1 60 x.enc, .blk b2 182 [.int .i64 0, .int .i64 0, .int .i64 0, .int .i64 0, .int .i64 0, .int .i64 0], .ro x.A 2 x.b.st.length (encP x.b.st)]) (h1 := ?_) (h2 := ?_)
    · skip
      refine sq (h := ?_)
      refine rg (h := ?_)
      refine WL.y (hy := (by first | exact fa | exact faE)) (h := ?_)
      refine WL.y (hy := (by first | exact fa | exact faE)) (h := ?_)
      refine WL.y (hy := (by first | exact ld | exact ldE)) (h := ?_)
      refine nl (h := ?_)
      refine q_seq (h := ?_)
      refine cd (by exact rfl) (fun h1 => ?_) (fun h1 => ?_)
      · skip
        have hp : playersV x.f = 4 := by rw [playersV, h1]; rfl
        refine rg (h := ?_)
        refine WL.y (hy := asg) (h := ?_)
        refine nl (h := ?_)
        rw [hp]
        exact ctn () trivial (by repeat (first | exact trivial | refine ⟨rfl, ?_⟩)) (by repeat (first | exact SubL.nil | (apply SubL.cons; (repeat (first | exact At.here | apply At.there))) | exact SubL.refl _ | apply SubL.skip))
      · skip
        have hp : playersV x.f = 2 := by rw [playersV, h1]; rfl
        refine skp (h := ?_)
        rw [hp]
        exact ctn () trivial (by repeat (first | exact trivial | refine ⟨rfl, ?_⟩)) (by repeat (first | exact SubL.nil | (apply SubL.cons; (repeat (first | exact At.here | apply At.there))) | exact SubL.refl _ | apply SubL.skip))
    rintro ⟨⟩ -
    refine sq (h := ?_)
    refine rg (h := ?_)
    refine WL.y (hy := asg) (h := ?_)
    refine nl (h := ?_)
    refine q_seq (h := ?_)
    refine ct (X := Unit) (fun _ => True) (fun _ => [(2, .pointer (some ⟨b0, 0, none⟩)), (3, .pointer (some ⟨b1, 0, none⟩)), (4, .pointer (some ⟨b2, 0, none⟩)), (5, .pointer (some ⟨b3, 0, none⟩)), (7, .int .i64 (playersV x.f)), (8, .int .i64 (onceV x.b))]) (fun _ => [.blk b3 103 (ccs (restC x.f x.b)), .blk b0 44 [.int .i64 each, .int .i64 tow, .int .i64 fra], .blk b1 60 x.enc, .blk b2 182 [.int .i64 0, .int .i64 0, .int .i64 0, .int .i64 0, .int .i64 0, .int .i64 0], .ro x.A 2 x.b.st.length (encP x.b.st)]) (h1 := ?_) (h2 := ?_)
    · skip
      refine sq (h := ?_)
      refine rg (h := ?_)
      refine WL.y (hy := (by first | exact fa | exact faE)) (h := ?_)
      refine WL.y (hy := (by first | exact ldA | exact ldEA)) (h := ?_)
      refine cl0 (hc := fun w hS => C_balls_begun x.b x.A x.b.st.length x.c w) (h := ?_)
      rw [beg_prog]
      refine WL.y (hy := mv) (h := ?_)
      refine WL.y (hy := ex) (h := ?_)
      refine WL.y (hy := ex) (h := ?_)
      refine WL.y (hy := asg) (h := ?_)
      refine WL.y (hy := asg) (h := ?_)
      refine nl (h := ?_)
      refine q_seq (h := ?_)
      refine sq (h := ?_)
      refine rg (h := ?_)
      refine WL.y (hy := mv) (h := ?_)
      refine nl (h := ?_)
      refine q_seq (h := ?_)
      refine cd (by exact rfl) (fun h2 => ?_) (fun h2 => ?_)
      · skip
        have hz : onceV x.b = 0 := by rw [onceV, h2]; rfl
        refine rg (h := ?_)
        refine WL.y (hy := asg) (h := ?_)
        refine nl (h := ?_)
        rw [hz]
        exact ctn () trivial (by repeat (first | exact trivial | refine ⟨rfl, ?_⟩)) (by repeat (first | exact SubL.nil | (apply SubL.cons; (repeat (first | exact At.here | apply At.there))) | exact SubL.refl _ | apply SubL.skip))
      · skip
        have hz : onceV x.b = 1 := by rw [onceV, h2]; rfl
        refine skp (h := ?_)
        rw [hz]
        exact ctn () trivial (by repeat (first | exact trivial | refine ⟨rfl, ?_⟩)) (by repeat (first | exact SubL.nil | (apply SubL.cons; (repeat (first | exact At.here | apply At.there))) | exact SubL.refl _ | apply SubL.skip))
    rintro ⟨⟩ -
    refine sq (h := ?_)
    refine rg (h := ?_)
    refine WL.y (hy := (by first | exact fa | exact faE)) (h := ?_)
    refine WL.y (hy := (by first | exact fa | exact faE)) (h := ?_)
    refine WL.y (hy := (by first | exact ld | exact ldE)) (h := ?_)
    refine WL.y (hy := mv) (h := ?_)
    refine WL.y (hy := addI) (h := ?_)
    refine WL.y (hy := (by first | exact fa | exact faE)) (h := ?_)
    refine WL.y (hy := (by first | exact fa | exact faE)) (h := ?_)
    refine WL.y (hy := (by first | exact ld | exact ldE)) (h := ?_)
    refine WL.y (hy := mv) (h := ?_)
    refine WL.y (hy := addI) (h := ?_)
    refine WL.y (hy := bd) (h := ?_)
    refine WL.y (hy := (by first | exact fa | exact faE)) (h := ?_)
    refine WL.y (hy := (by first | exact ld | exact ldE)) (h := ?_)
    refine cl0 (hc := fun w hS => C_balls_times ((restC x.f x.b).1.1 + onceV x.b, (restC x.f x.b).1.2 + onceV x.b) each (by dsimp only; omega) (by dsimp only; omega) w) (h := ?_)
    refine WL.y (hy := ixA) (h := ?_)
    first | refine stA (h := ?_) | refine stEA (h := ?_)
    refine nl (h := ?_)
    refine q_seq (h := ?_)
    refine sq (h := ?_)
    refine rg (h := ?_)
    refine WL.y (hy := (by first | exact fa | exact faE)) (h := ?_)
    refine WL.y (hy := (by first | exact ldA | exact ldEA)) (h := ?_)
    refine WL.y (hy := (by first | exact fa | exact faE)) (h := ?_)
    refine WL.y (hy := (by first | exact ld | exact ldE)) (h := ?_)
    refine WL.y (hy := mv) (h := ?_)
    refine WL.y (hy := mulI) (h := ?_)
    refine cl0 (hc := fun w hS => C_balls_times (restC x.f x.b).2 (tow * playersV x.f) (by omega) (by omega) w) (h := ?_)
    refine WL.y (hy := ixA) (h := ?_)
    first | refine stA (h := ?_) | refine stEA (h := ?_)
    refine nl (h := ?_)
    refine q_seq (h := ?_)
    refine sq (h := ?_)
    refine rg (h := ?_)
    refine WL.y (hy := mv) (h := ?_)
    refine WL.y (hy := mv) (h := ?_)
    refine WL.y (hy := bd) (h := ?_)
    refine WL.y (hy := (by first | exact fa | exact faE)) (h := ?_)
    refine WL.y (hy := (by first | exact ld | exact ldE)) (h := ?_)
    refine WL.y (hy := mv) (h := ?_)
    refine WL.y (hy := mulI) (h := ?_)
    refine cl0 (hc := fun w hS => C_balls_times (onceV x.b, onceV x.b) (fra * playersV x.f) (by dsimp only; omega) (by dsimp only; omega) w) (h := ?_)
    refine WL.y (hy := ixA) (h := ?_)
    first | refine stA (h := ?_) | refine stEA (h := ?_)
    refine nl (h := ?_)
    refine q_seq (h := ?_)
    refine sq (h := ?_)
    refine rg (h := ?_)
    refine WL.y (hy := (by first | exact ldA | exact ldEA)) (h := ?_)
    first | refine stA (h := ?_) | refine stEA (h := ?_)
    refine nl (h := ?_)
    refine q_seq (h := ?_)
    refine rtn (h := ?_)
    refine q_ret (hR := ?_)
    exact fun w hS => ⟨rfl, hS.sub (by repeat (first | exact SubL.nil | (apply SubL.cons; (repeat (first | exact At.here | apply At.there))) | exact SubL.refl _ | apply SubL.skip))⟩
theorem C_ref9_Needs (d : Dp) (a : DA) (x : Fx) (item : Int) (hk : (0 ≤ d.each ∧ d.each ≤ 20) ∧ (0 ≤ d.tow ∧ d.tow ≤ 20) ∧ 0 ≤ d.fra ∧ d.fra ≤ 20) (hc : checkE x.f x.b = 0) (hck : (!decide (chkF x.f = 0)) = false) (hnc : x.b.st.length ≤ x.c) (w : World) (h : Rd w x.A 2 x.b.st.length (encP x.b.st)) : C0 Try.prog 103 [d.val a, x.val, .int .i64 item] w (pv (ndV d.each d.tow d.fra x item)) := by
  obtain ⟨hf, hbo, hari, hhi⟩ := check_ok hc
  have h1 := csb_rest hc
  have h2 := once_rng x.b
  have h3 := players_rng x.f
  unfold CsB at h1
  have m1 := mul_rng (a := d.tow) (b := playersV x.f) (A := 20) (B := 4) (by omega) (by omega)
  have m2 := mul_rng (a := d.fra) (b := playersV x.f) (A := 20) (B := 4) (by omega) (by omega)
  have m3 := mul_rng (a := onceV x.b) (b := d.fra * playersV x.f) (A := 1) (B := 80) h2 m2
  have m4 := mul_rng (a := (restC x.f x.b).2.1) (b := d.tow * playersV x.f) (A := 86) (B := 80) (by omega) m1
  have m5 := mul_rng (a := (restC x.f x.b).2.2) (b := d.tow * playersV x.f) (A := 86) (B := 80) (by omega) m1
  have m6 := mul_rng (a := (restC x.f x.b).1.1 + onceV x.b) (b := d.each) (A := 87) (B := 20) (by omega) (by omega)
  have m7 := mul_rng (a := (restC x.f x.b).1.2 + onceV x.b) (b := d.each) (A := 87) (B := 20) (by omega) (by omega)
  refine ⟨en Try.func103 Try.ntmps103 ((St.init w).share (e := .ro x.A 2 x.b.st.length (encP x.b.st)) h rfl rfl rfl) (h := fun F => ?_)⟩
  refine sq (h := ?_)
  refine rg (h := ?_)
  refine bxA (h := fun b0 => ?_)
  refine bxA (h := fun b1 => ?_)
  refine al (h := fun b2 => ?_)
  refine nl (h := ?_)
  refine q_seq (h := ?_)
  refine sq (h := ?_)
  refine rg (h := ?_)
  refine WL.y (hy := (by first | exact fa | exact faE)) (h := ?_)
  refine WL.y (hy := (by first | exact ldA | exact ldEA)) (h := ?_)
  refine WL.y (hy := (by first | exact fa | exact faE)) (h := ?_)
  refine WL.y (hy := (by first | exact ldA | exact ldEA)) (h := ?_)
  refine cl0 (hc := fun w hS => C_ref9_rest x.f x.b hck hbo hari hhi x.A x.b.st.length x.c hnc w (hS.get (by repeat (first | exact Rds.ro | exact Rds.own | apply Rds.there)))) (h := ?_)
  refine al (h := fun b3 => ?_)
  first | refine stA (h := ?_) | refine stEA (h := ?_)
  refine nl (h := ?_)
  refine q_seq (h := ?_)
  refine sq (h := ?_)
  refine rg (h := ?_)
  refine WL.y (hy := asg) (h := ?_)
  refine nl (h := ?_)
  refine q_seq (h := ?_)
  refine ct (X := Unit) (fun _ => True) (fun _ => [(2, .int .i64 item), (3, .pointer (some ⟨b0, 0, none⟩)), (4, .pointer (some ⟨b1, 0, none⟩)), (6, .pointer (some ⟨b2, 0, none⟩)), (7, .pointer (some ⟨b3, 0, none⟩)), (8, .int .i64 (playersV x.f))]) (fun _ => [.blk b3 109 (ccs (restC x.f x.b)), .blk b0 49 (d.cells a), .blk b1 60 x.enc, .blk b2 39 [.int .i64 0, .int .i64 0], .ro x.A 2 x.b.st.length (encP x.b.st)]) (h1 := ?_) (h2 := ?_)
  · skip
    refine sq (h := ?_)
    refine rg (h := ?_)
    refine WL.y (hy := (by first | exact fa | exact faE)) (h := ?_)
    refine WL.y (hy := (by first | exact fa | exact faE)) (h := ?_)
    refine WL.y (hy := (by first | exact ld | exact ldE)) (h := ?_)
    refine nl (h := ?_)
    refine q_seq (h := ?_)
    refine cd (by exact rfl) (fun h0 => ?_) (fun h0 => ?_)
    · skip
      have hp : playersV x.f = 4 := by rw [playersV, h0]; rfl
      refine rg (h := ?_)
      refine WL.y (hy := asg) (h := ?_)
      refine nl (h := ?_)
      rw [hp]
      exact ctn () trivial (by repeat (first | exact trivial | refine ⟨rfl, ?_⟩)) (by repeat (first | exact SubL.nil | (apply SubL.cons; (repeat (first | exact At.here | apply At.there))) | exact SubL.refl _ | apply SubL.skip))
    · skip
      have hp : playersV x.f = 2 := by rw [playersV, h0]; rfl
      refine skp (h := ?_)
      rw [hp]
      exact ctn () trivial (by repeat (first | exact trivial | refine ⟨rfl, ?_⟩)) (by repeat (first | exact SubL.nil | (apply SubL.cons; (repeat (first | exact At.here | apply At.there))) | exact SubL.refl _ | apply SubL.skip))
  rintro ⟨⟩ -
  refine sq (h := ?_)
  refine rg (h := ?_)
  refine WL.y (hy := asg) (h := ?_)
  refine nl (h := ?_)
  refine q_seq (h := ?_)
  refine ct (X := Unit) (fun _ => True) (fun _ => [(2, .int .i64 item), (3, .pointer (some ⟨b0, 0, none⟩)), (4, .pointer (some ⟨b1, 0, none⟩)), (6, .pointer (some ⟨b2, 0, none⟩)), (7, .pointer (some ⟨b3, 0, none⟩)), (8, .int .i64 (playersV x.f)), (9, .int .i64 (onceV x.b))]) (fun _ => [.blk b3 109 (ccs (restC x.f x.b)), .blk b0 49 (d.cells a), .blk b1 60 x.enc, .blk b2 39 [.int .i64 0, .int .i64 0], .ro x.A 2 x.b.st.length (encP x.b.st)]) (h1 := ?_) (h2 := ?_)
  · skip
    refine sq (h := ?_)
    refine rg (h := ?_)
    refine WL.y (hy := (by first | exact fa | exact faE)) (h := ?_)
    refine WL.y (hy := (by first | exact ldA | exact ldEA)) (h := ?_)
    refine cl0 (hc := fun w hS => C_ref9_Begun _ _ _ _ w) (h := ?_)
    refine WL.y (hy := notB) (h := ?_)
    refine nl (h := ?_)
    refine q_seq (h := ?_)
    refine cd (by exact rfl) (fun h1 => ?_) (fun h1 => ?_)
    · skip
      have hbb : (!begB x.b) = true := h1
      rw [Bool.not_eq_true'] at hbb
      have hz : onceV x.b = 1 := by rw [onceV, hbb]; rfl
      refine rg (h := ?_)
      refine WL.y (hy := asg) (h := ?_)
      refine nl (h := ?_)
      rw [hz]
      exact ctn () trivial (by repeat (first | exact trivial | refine ⟨rfl, ?_⟩)) (by repeat (first | exact SubL.nil | (apply SubL.cons; (repeat (first | exact At.here | apply At.there))) | exact SubL.refl _ | apply SubL.skip))
    · skip
      have hbb : (!begB x.b) = false := h1
      rw [Bool.not_eq_false'] at hbb
      have hz : onceV x.b = 0 := by rw [onceV, hbb]; rfl
      refine skp (h := ?_)
      rw [hz]
      exact ctn () trivial (by repeat (first | exact trivial | refine ⟨rfl, ?_⟩)) (by repeat (first | exact SubL.nil | (apply SubL.cons; (repeat (first | exact At.here | apply At.there))) | exact SubL.refl _ | apply SubL.skip))
  rintro ⟨⟩ -
  refine sq (h := ?_)
  refine sq (h := ?_)
  refine rg (h := ?_)
  refine WL.y (hy := mv) (h := ?_)
  refine nl (h := ?_)
  refine q_seq (h := ?_)
  refine bk (h := ?_)
  refine sq (h := ?_)
  refine rg (h := ?_)
  refine WL.y (hy := eql) (h := ?_)
  refine WL.y (hy := asg) (h := ?_)
  refine nl (h := ?_)
  refine q_seq (h := ?_)
  refine cd (by exact rfl) (fun h2 => ?_) (fun h2 => ?_)
  · skip
    have hE : ndV d.each d.tow d.fra x item = timesV ((restC x.f x.b).1.1 + onceV x.b, (restC x.f x.b).1.2 + onceV x.b) d.each := by rw [ndV, h2]; rfl
    refine sq (h := ?_)
    refine rg (h := ?_)
    refine WL.y (hy := (by first | exact fa | exact faE)) (h := ?_)
    refine WL.y (hy := (by first | exact fa | exact faE)) (h := ?_)
    refine WL.y (hy := (by first | exact ld | exact ldE)) (h := ?_)
    refine WL.y (hy := mv) (h := ?_)
    refine WL.y (hy := addI) (h := ?_)
    refine WL.y (hy := (by first | exact fa | exact faE)) (h := ?_)
    refine WL.y (hy := (by first | exact fa | exact faE)) (h := ?_)
    refine WL.y (hy := (by first | exact ld | exact ldE)) (h := ?_)
    refine WL.y (hy := mv) (h := ?_)
    refine WL.y (hy := addI) (h := ?_)
    refine WL.y (hy := bd) (h := ?_)
    refine WL.y (hy := (by first | exact fa | exact faE)) (h := ?_)
    refine WL.y (hy := (by first | exact fa | exact faE)) (h := ?_)
    refine WL.y (hy := (by first | exact ld | exact ldE)) (h := ?_)
    refine cl0 (hc := fun w hS => C_ref9_times ((restC x.f x.b).1.1 + onceV x.b, (restC x.f x.b).1.2 + onceV x.b) d.each (by dsimp only; omega) (by dsimp only; omega) w) (h := ?_)
    first | refine stA (h := ?_) | refine stEA (h := ?_)
    refine nl (h := ?_)
    refine q_seq (h := ?_)
    refine rtn (h := ?_)
    refine q_blk_ret (h := ?_)
    refine q_then_ret (h := ?_)
    refine q_ret (hR := ?_)
    rw [hE]
    exact fun w hS => ⟨rfl, hS.sub (by repeat (first | exact SubL.nil | (apply SubL.cons; (repeat (first | exact At.here | apply At.there))) | exact SubL.refl _ | apply SubL.skip))⟩
  · skip
    have hn0 := h2
    refine sq (h := ?_)
    refine rg (h := ?_)
    refine WL.y (hy := eql) (h := ?_)
    refine WL.y (hy := asg) (h := ?_)
    refine nl (h := ?_)
    refine q_seq (h := ?_)
    refine cd (by exact rfl) (fun h3 => ?_) (fun h3 => ?_)
    · skip
      have hE : ndV d.each d.tow d.fra x item = timesV (restC x.f x.b).2 (d.tow * playersV x.f) := by rw [ndV, hn0, h3]; rfl
      refine sq (h := ?_)
      refine rg (h := ?_)
      refine WL.y (hy := (by first | exact fa | exact faE)) (h := ?_)
      refine WL.y (hy := (by first | exact ldA | exact ldEA)) (h := ?_)
      refine WL.y (hy := (by first | exact fa | exact faE)) (h := ?_)
      refine WL.y (hy := (by first | exact fa | exact faE)) (h := ?_)
      refine WL.y (hy := (by first | exact ld | exact ldE)) (h := ?_)
      refine WL.y (hy := mv) (h := ?_)
      refine WL.y (hy := mulI) (h := ?_)
      refine cl0 (hc := fun w hS => C_ref9_times (restC x.f x.b).2 (d.tow * playersV x.f) (by omega) (by omega) w) (h := ?_)
      first | refine stA (h := ?_) | refine stEA (h := ?_)
      refine nl (h := ?_)
      refine q_seq (h := ?_)
      refine rtn (h := ?_)
      refine q_blk_ret (h := ?_)
      refine q_then_ret (h := ?_)
      refine q_ret (hR := ?_)
      rw [hE]
      exact fun w hS => ⟨rfl, hS.sub (by repeat (first | exact SubL.nil | (apply SubL.cons; (repeat (first | exact At.here | apply At.there))) | exact SubL.refl _ | apply SubL.skip))⟩
    · skip
      have hE : ndV d.each d.tow d.fra x item = timesV (onceV x.b, onceV x.b) (d.fra * playersV x.f) := by rw [ndV, hn0, h3]; rfl
      refine skp (h := ?_)
      refine q_blk_norm (h := ?_)
      refine q_seq (h := ?_)
      refine sq (h := ?_)
      refine rg (h := ?_)
      refine WL.y (hy := mv) (h := ?_)
      refine WL.y (hy := mv) (h := ?_)
      refine WL.y (hy := bd) (h := ?_)
      refine WL.y (hy := (by first | exact fa | exact faE)) (h := ?_)
      refine WL.y (hy := (by first | exact fa | exact faE)) (h := ?_)
      refine WL.y (hy := (by first | exact ld | exact ldE)) (h := ?_)
      refine WL.y (hy := mv) (h := ?_)
      refine WL.y (hy := mulI) (h := ?_)
      refine cl0 (hc := fun w hS => C_ref9_times (onceV x.b, onceV x.b) (d.fra * playersV x.f) (by dsimp only; omega) (by dsimp only; omega) w) (h := ?_)
      first | refine stA (h := ?_) | refine stEA (h := ?_)
      refine nl (h := ?_)
      refine q_seq (h := ?_)
      refine rtn (h := ?_)
      refine q_ret (hR := ?_)
      rw [hE]
      exact fun w hS => ⟨rfl, hS.sub (by repeat (first | exact SubL.nil | (apply SubL.cons; (repeat (first | exact At.here | apply At.there))) | exact SubL.refl _ | apply SubL.skip))⟩
theorem range_form (f : Fmt) : ∃ lo hi pts : Int, rangeR f = [.agg #[.int .i64 lo, .int .i64 hi], .int .i64 pts, .int .i64 (chkF f)] ∧ (chkF f = 0 → hi = (rangeE f).high ∧ lo = (rangeE f).low ∧ pts = (rangeE f).pts) := by
  cases hc : !decide (chkF f = 0)
  · have h0 : chkF f = 0 := by simpa using hc
    exact ⟨_, _, _, by rw [rangeR_ok hc, h0], fun _ => ⟨rfl, rfl, rfl⟩⟩
  · have h1 : decide (chkF f = 0) = false := by simpa using hc
    exact ⟨0, 0, 0, by rw [rangeR, h1]; rfl, fun h => by rw [h] at h1; cases h1⟩
theorem check_chk {f : Fmt} {b : Brd} (h : checkE f b = 0) : (!decide (chkF f = 0)) = false := by
  unfold checkE at h
  cases hc : !decide (chkF f = 0)
  · rfl
  · rw [hc, cond_true] at h
    rw [h] at hc; cases hc
theorem C_ref9_isFixture (x : Fx) (w : World) (h : Rd w x.A 2 x.b.st.length (encP x.b.st)) (hnc : x.b.st.length ≤ x.c) (hn : x.b.st.length ≤ 1000) : C0 Try.prog 71 [x.val] w (.bool (fxOk x)) := by
  obtain ⟨lo, hi, pts, hR, hRf⟩ := range_form x.f
  obtain ⟨is, e, hA, hL, hfa⟩ := check_form x.f x.b
  refine ⟨en Try.func71 Try.ntmps71 ((St.init w).share (e := .ro x.A 2 x.b.st.length (encP x.b.st)) h rfl rfl rfl) (h := fun F => ?_)⟩
  refine sq (h := ?_)
  refine rg (h := ?_)
  refine bxA (h := fun b0 => ?_)
  refine WL.y (hy := asg) (h := ?_)
  refine nl (h := ?_)
  refine q_seq (h := ?_)
  refine sq (h := ?_)
  refine sq (h := ?_)
  refine rg (h := ?_)
  refine WL.y (hy := (by first | exact fa | exact faE)) (h := ?_)
  refine WL.y (hy := (by first | exact ld | exact ldE)) (h := ?_)
  refine cl0 (hc := fun w hS => C_ref9_within _ _ _ w) (h := ?_)
  refine WL.y (hy := notB) (h := ?_)
  refine nl (h := ?_)
  refine q_seq (h := ?_)
  refine cd (by exact rfl) (fun h0 => ?_) (fun h0 => ?_)
  · skip
    have hE : fxOk x = false := by rw [fxOk, h0]; rfl
    refine sq (h := ?_)
    refine rg (h := ?_)
    refine WL.y (hy := asg) (h := ?_)
    refine nl (h := ?_)
    refine q_seq (h := ?_)
    refine rtn (h := ?_)
    refine q_then_ret (h := ?_)
    refine q_ret (hR := ?_)
    rw [hE]
    exact fun w hS => ⟨rfl, hS.sub (by repeat (first | exact SubL.nil | (apply SubL.cons; (repeat (first | exact At.here | apply At.there))) | exact SubL.refl _ | apply SubL.skip))⟩
  · skip
    have hd := h0
    refine skp (h := ?_)
    refine q_seq (h := ?_)
    refine sq (h := ?_)
    refine rg (h := ?_)
    refine WL.y (hy := (by first | exact fa | exact faE)) (h := ?_)
    refine WL.y (hy := (by first | exact ldA | exact ldEA)) (h := ?_)
    refine cl0 (hc := fun w hS => C_ref1_Range x.f w) (h := ?_)
    rw [hR]
    refine WL.y (hy := mv) (h := ?_)
    refine WL.y (hy := ex) (h := ?_)
    refine WL.y (hy := ex) (h := ?_)
    refine WL.y (hy := ex) (h := ?_)
    refine al (h := fun b1 => ?_)
    first | refine stA (h := ?_) | refine stEA (h := ?_)
    refine WL.y (hy := asg) (h := ?_)
    refine WL.y (hy := asg) (h := ?_)
    refine nl (h := ?_)
    refine q_seq (h := ?_)
    refine sq (h := ?_)
    refine sq (h := ?_)
    refine rg (h := ?_)
    refine WL.y (hy := mv) (h := ?_)
    refine WL.y (hy := neq) (h := ?_)
    refine WL.y (hy := mv) (h := ?_)
    apply brOr 4 21 25 (by exact rfl)
    · intro hb1
      refine un (h := ?_)
      refine WL.y (hy := (by first | exact fa | exact faE)) (h := ?_)
      refine un (h := ?_)
      refine WL.y (hy := (by first | exact ld | exact ldE)) (h := ?_)
      refine un (h := ?_)
      refine WL.y (hy := lss) (h := ?_)
      refine WL.y (hy := (by first | exact pkT | exact pkF)) (h := ?_)
      exact mg (by repeat (first | exact trivial | refine ⟨rfl, ?_⟩ | refine ⟨by rw [hb1]; rfl, ?_⟩)) (by repeat (first | exact SubL.nil | (apply SubL.cons; (repeat (first | exact At.here | apply At.there))) | exact SubL.refl _ | apply SubL.skip))
    · intro hb1
      repeat (first | refine un (h := ?_) | refine sk (h := ?_) | refine WL.y (hy := pkF) (h := ?_) | refine WL.y (hy := pkT) (h := ?_))
      exact mg (by repeat (first | exact trivial | refine ⟨rfl, ?_⟩ | refine ⟨by rw [hb1]; rfl, ?_⟩)) (by repeat (first | exact SubL.nil | (apply SubL.cons; (repeat (first | exact At.here | apply At.there))) | exact SubL.refl _ | apply SubL.skip))
    refine nl (h := ?_)
    refine q_seq (h := ?_)
    refine cd (by exact rfl) (fun h2 => ?_) (fun h2 => ?_)
    · skip
      have hne : ¬ checkE x.f x.b = 0 := fun h0 => by
        have hq1 := check_chk h0
        obtain ⟨-, -, -, hq⟩ := check_ok h0
        have h3 := (hRf (by simpa using hq1)).1
        have h' : (!decide (chkF x.f = 0) || decide (hi < 0)) = true := h2
        rw [hq1, Bool.false_or, decide_eq_true_eq, h3] at h'
        exact hq h'
      have hE : fxOk x = false := by rw [fxOk, hd, decide_eq_false hne]; rfl
      refine sq (h := ?_)
      refine rg (h := ?_)
      refine WL.y (hy := asg) (h := ?_)
      refine nl (h := ?_)
      refine q_seq (h := ?_)
      refine rtn (h := ?_)
      refine q_then_ret (h := ?_)
      refine q_ret (hR := ?_)
      rw [hE]
      exact fun w hS => ⟨rfl, hS.sub (by repeat (first | exact SubL.nil | (apply SubL.cons; (repeat (first | exact At.here | apply At.there))) | exact SubL.refl _ | apply SubL.skip))⟩
    · skip
      have h' : (!decide (chkF x.f = 0) || decide (hi < 0)) = false := h2
      rw [Bool.or_eq_false_iff] at h'
      have h3 := (hRf (by simpa using h'.1)).1
      rw [h3] at h'
      rw [h'.2, cond_false] at hL
      have hE : fxOk x = (is && decide (e = 0)) := by
        rw [fxOk, hd, hL, Bool.false_or, Bool.not_not]
        cases he : decide (e = 0)
        · rw [show decide ((bif !false then e else bif !is then (12 : Int) else 0) = 0) = decide (e = 0) from rfl, he, Bool.and_false]
        · cases is <;> rfl
      refine skp (h := ?_)
      refine q_seq (h := ?_)
      refine sq (h := ?_)
      refine rg (h := ?_)
      refine WL.y (hy := (by first | exact fa | exact faE)) (h := ?_)
      refine WL.y (hy := (by first | exact ldA | exact ldEA)) (h := ?_)
      refine WL.y (hy := (by first | exact fa | exact faE)) (h := ?_)
      refine WL.y (hy := (by first | exact ldA | exact ldEA)) (h := ?_)
      refine cl0 (hc := fun w hS => C_ref1_Arises x.f x.b x.A x.b.st.length x.c hnc w (hS.get (by repeat (first | exact Rds.ro | exact Rds.own | apply Rds.there))) hn) (h := ?_)
      rw [hA]
      refine WL.y (hy := mv) (h := ?_)
      refine WL.y (hy := ex) (h := ?_)
      refine WL.y (hy := ex) (h := ?_)
      refine WL.y (hy := asg) (h := ?_)
      refine WL.y (hy := asg) (h := ?_)
      refine nl (h := ?_)
      refine q_seq (h := ?_)
      refine sq (h := ?_)
      refine rg (h := ?_)
      refine WL.y (hy := mv) (h := ?_)
      refine WL.y (hy := mv) (h := ?_)
      apply brAnd 3 35 38 (by exact rfl)
      · intro hb3
        refine un (h := ?_)
        refine WL.y (hy := mv) (h := ?_)
        refine un (h := ?_)
        refine WL.y (hy := eql) (h := ?_)
        refine WL.y (hy := (by first | exact pkT | exact pkF)) (h := ?_)
        exact mg (by repeat (first | exact trivial | refine ⟨rfl, ?_⟩ | refine ⟨by rw [hb3]; rfl, ?_⟩)) (by repeat (first | exact SubL.nil | (apply SubL.cons; (repeat (first | exact At.here | apply At.there))) | exact SubL.refl _ | apply SubL.skip))
      · intro hb3
        repeat (first | refine un (h := ?_) | refine sk (h := ?_) | refine WL.y (hy := pkF) (h := ?_) | refine WL.y (hy := pkT) (h := ?_))
        exact mg (by repeat (first | exact trivial | refine ⟨rfl, ?_⟩ | refine ⟨by rw [hb3]; rfl, ?_⟩)) (by repeat (first | exact SubL.nil | (apply SubL.cons; (repeat (first | exact At.here | apply At.there))) | exact SubL.refl _ | apply SubL.skip))
      refine WL.y (hy := asg) (h := ?_)
      refine nl (h := ?_)
      refine q_seq (h := ?_)
      refine rtn (h := ?_)
      refine q_ret (hR := ?_)
      rw [hE]
      exact fun w hS => ⟨rfl, hS.sub (by repeat (first | exact SubL.nil | (apply SubL.cons; (repeat (first | exact At.here | apply At.there))) | exact SubL.refl _ | apply SubL.skip))⟩
set_option maxRecDepth 100000 in
set_option maxHeartbeats 2000000 in
theorem C_ref9_Check (d : Dp) (a : DA) (w : World) (h : DpR w d a) (hsm : ∀ x ∈ d.fx, x.b.st.length ≤ 1000) : C0 Try.prog 30 [d.val a] w (.int .i64 (depE d)) := by
  have hsc := h.sc
  have hfc := h.fc
  have hcc := h.cc
  refine ⟨en Try.func30 Try.ntmps30 ((((St.init w).share (e := .ro a.sA 1 d.st.length (encI d.st)) h.s rfl rfl rfl).share (e := .ro a.fA 16 d.fx.length (d.fx.map Fx.enc)) h.f rfl rfl rfl).share (e := .ro a.cA 3 d.cr.length (d.cr.map Cx.enc)) h.c rfl rfl rfl) (h := fun F => ?_)⟩
  refine sq (h := ?_)
  refine rg (h := ?_)
  refine bxA (h := fun b0 => ?_)
  refine WL.y (hy := asg) (h := ?_)
  refine nl (h := ?_)
  refine q_seq (h := ?_)
  refine sq (h := ?_)
  refine sq (h := ?_)
  refine rg (h := ?_)
  refine WL.y (hy := (by first | exact fa | exact faE)) (h := ?_)
  refine WL.y (hy := (by first | exact fa | exact faE)) (h := ?_)
  refine WL.y (hy := (by first | exact ld | exact ldE)) (h := ?_)
  refine cl0 (hc := fun w hS => C_ref9_within _ _ _ w) (h := ?_)
  refine WL.y (hy := notB) (h := ?_)
  refine WL.y (hy := mv) (h := ?_)
  apply brOr 6 12 18 (by exact rfl)
  · intro hb0
    refine un (h := ?_)
    refine WL.y (hy := (by first | exact fa | exact faE)) (h := ?_)
    refine un (h := ?_)
    refine WL.y (hy := (by first | exact fa | exact faE)) (h := ?_)
    refine un (h := ?_)
    refine WL.y (hy := (by first | exact ld | exact ldE)) (h := ?_)
    refine un (h := ?_)
    refine cl0 (hc := fun w hS => C_ref9_within _ _ _ w) (h := ?_)
    refine un (h := ?_)
    refine WL.y (hy := notB) (h := ?_)
    refine WL.y (hy := (by first | exact pkT | exact pkF)) (h := ?_)
    exact mg (by repeat (first | exact trivial | refine ⟨rfl, ?_⟩ | refine ⟨by rw [hb0]; rfl, ?_⟩)) (by repeat (first | exact SubL.nil | (apply SubL.cons; (repeat (first | exact At.here | apply At.there))) | exact SubL.refl _ | apply SubL.skip))
  · intro hb0
    repeat (first | refine un (h := ?_) | refine sk (h := ?_) | refine WL.y (hy := pkF) (h := ?_) | refine WL.y (hy := pkT) (h := ?_))
    exact mg (by repeat (first | exact trivial | refine ⟨rfl, ?_⟩ | refine ⟨by rw [hb0]; rfl, ?_⟩)) (by repeat (first | exact SubL.nil | (apply SubL.cons; (repeat (first | exact At.here | apply At.there))) | exact SubL.refl _ | apply SubL.skip))
  refine WL.y (hy := mv) (h := ?_)
  apply brOr 6 19 25 (by exact rfl)
  · intro hb1
    refine un (h := ?_)
    refine WL.y (hy := (by first | exact fa | exact faE)) (h := ?_)
    refine un (h := ?_)
    refine WL.y (hy := (by first | exact fa | exact faE)) (h := ?_)
    refine un (h := ?_)
    refine WL.y (hy := (by first | exact ld | exact ldE)) (h := ?_)
    refine un (h := ?_)
    refine cl0 (hc := fun w hS => C_ref9_within _ _ _ w) (h := ?_)
    refine un (h := ?_)
    refine WL.y (hy := notB) (h := ?_)
    refine WL.y (hy := (by first | exact pkT | exact pkF)) (h := ?_)
    exact mg (by repeat (first | exact trivial | refine ⟨rfl, ?_⟩ | refine ⟨by rw [hb1]; rfl, ?_⟩)) (by repeat (first | exact SubL.nil | (apply SubL.cons; (repeat (first | exact At.here | apply At.there))) | exact SubL.refl _ | apply SubL.skip))
  · intro hb1
    repeat (first | refine un (h := ?_) | refine sk (h := ?_) | refine WL.y (hy := pkF) (h := ?_) | refine WL.y (hy := pkT) (h := ?_))
    exact mg (by repeat (first | exact trivial | refine ⟨rfl, ?_⟩ | refine ⟨by rw [hb1]; rfl, ?_⟩)) (by repeat (first | exact SubL.nil | (apply SubL.cons; (repeat (first | exact At.here | apply At.there))) | exact SubL.refl _ | apply SubL.skip))
  refine WL.y (hy := mv) (h := ?_)
  apply brOr 5 26 31 (by exact rfl)
  · intro hb2
    refine un (h := ?_)
    refine WL.y (hy := (by first | exact fa | exact faE)) (h := ?_)
    refine un (h := ?_)
    refine WL.y (hy := (by first | exact ld | exact ldE)) (h := ?_)
    refine un (h := ?_)
    refine WL.y (hy := lenS) (h := ?_)
    refine un (h := ?_)
    refine WL.y (hy := neq) (h := ?_)
    refine WL.y (hy := (by first | exact pkT | exact pkF)) (h := ?_)
    exact mg (by repeat (first | exact trivial | refine ⟨rfl, ?_⟩ | refine ⟨by rw [hb2]; rfl, ?_⟩)) (by repeat (first | exact SubL.nil | (apply SubL.cons; (repeat (first | exact At.here | apply At.there))) | exact SubL.refl _ | apply SubL.skip))
  · intro hb2
    repeat (first | refine un (h := ?_) | refine sk (h := ?_) | refine WL.y (hy := pkF) (h := ?_) | refine WL.y (hy := pkT) (h := ?_))
    exact mg (by repeat (first | exact trivial | refine ⟨rfl, ?_⟩ | refine ⟨by rw [hb2]; rfl, ?_⟩)) (by repeat (first | exact SubL.nil | (apply SubL.cons; (repeat (first | exact At.here | apply At.there))) | exact SubL.refl _ | apply SubL.skip))
  refine WL.y (hy := mv) (h := ?_)
  apply brOr 5 32 37 (by exact rfl)
  · intro hb3
    refine un (h := ?_)
    refine WL.y (hy := (by first | exact fa | exact faE)) (h := ?_)
    refine un (h := ?_)
    refine WL.y (hy := (by first | exact ld | exact ldE)) (h := ?_)
    refine un (h := ?_)
    refine WL.y (hy := lenS) (h := ?_)
    refine un (h := ?_)
    refine WL.y (hy := gtr) (h := ?_)
    refine WL.y (hy := (by first | exact pkT | exact pkF)) (h := ?_)
    exact mg (by repeat (first | exact trivial | refine ⟨rfl, ?_⟩ | refine ⟨by rw [hb3]; rfl, ?_⟩)) (by repeat (first | exact SubL.nil | (apply SubL.cons; (repeat (first | exact At.here | apply At.there))) | exact SubL.refl _ | apply SubL.skip))
  · intro hb3
    repeat (first | refine un (h := ?_) | refine sk (h := ?_) | refine WL.y (hy := pkF) (h := ?_) | refine WL.y (hy := pkT) (h := ?_))
    exact mg (by repeat (first | exact trivial | refine ⟨rfl, ?_⟩ | refine ⟨by rw [hb3]; rfl, ?_⟩)) (by repeat (first | exact SubL.nil | (apply SubL.cons; (repeat (first | exact At.here | apply At.there))) | exact SubL.refl _ | apply SubL.skip))
  refine WL.y (hy := mv) (h := ?_)
  apply brOr 5 38 43 (by exact rfl)
  · intro hb4
    refine un (h := ?_)
    refine WL.y (hy := (by first | exact fa | exact faE)) (h := ?_)
    refine un (h := ?_)
    refine WL.y (hy := (by first | exact ld | exact ldE)) (h := ?_)
    refine un (h := ?_)
    refine WL.y (hy := lenS) (h := ?_)
    refine un (h := ?_)
    refine WL.y (hy := gtr) (h := ?_)
    refine WL.y (hy := (by first | exact pkT | exact pkF)) (h := ?_)
    exact mg (by repeat (first | exact trivial | refine ⟨rfl, ?_⟩ | refine ⟨by rw [hb4]; rfl, ?_⟩)) (by repeat (first | exact SubL.nil | (apply SubL.cons; (repeat (first | exact At.here | apply At.there))) | exact SubL.refl _ | apply SubL.skip))
  · intro hb4
    repeat (first | refine un (h := ?_) | refine sk (h := ?_) | refine WL.y (hy := pkF) (h := ?_) | refine WL.y (hy := pkT) (h := ?_))
    exact mg (by repeat (first | exact trivial | refine ⟨rfl, ?_⟩ | refine ⟨by rw [hb4]; rfl, ?_⟩)) (by repeat (first | exact SubL.nil | (apply SubL.cons; (repeat (first | exact At.here | apply At.there))) | exact SubL.refl _ | apply SubL.skip))
  refine nl (h := ?_)
  refine q_seq (h := ?_)
  refine cd (by exact rfl) (fun h5 => ?_) (fun h5 => ?_)
  · skip
    have hE : depE d = 90 := by
      cases hk : kitB d
      · exact dep_kit hk
      · refine dep_len ?_
        rw [lenB]
        rw [kitB, Bool.and_eq_true, Bool.and_eq_true] at hk
        rw [hk.1.1, hk.1.2, hk.2] at h5
        rw [show (!decide ((d.st.length : Int) = 3) || decide (30 < (d.fx.length : Int)) || decide (30 < (d.cr.length : Int))) = true from h5]; rfl
    refine sq (h := ?_)
    refine rg (h := ?_)
    refine WL.y (hy := asg) (h := ?_)
    refine nl (h := ?_)
    refine q_seq (h := ?_)
    refine rtn (h := ?_)
    refine q_then_ret (h := ?_)
    refine q_ret (hR := ?_)
    rw [hE]
    exact fun w hS => ⟨rfl, hS.sub (by repeat (first | exact SubL.nil | (apply SubL.cons; (repeat (first | exact At.here | apply At.there))) | exact SubL.refl _ | apply SubL.skip))⟩
  · skip
    simp only [Bool.or_eq_false_iff, Bool.not_eq_false', decide_eq_true_eq, decide_eq_false_iff_not] at h5
    have hkit : kitB d = true := by rw [kitB, h5.1.1.1.1.1, h5.1.1.1.1.2, h5.1.1.1.2]; rfl
    have hln : lenB d = true := by rw [lenB, decide_eq_true h5.1.1.2, decide_eq_false h5.1.2, decide_eq_false h5.2]; rfl
    have hl3 : d.st.length = 3 := by have := h5.1.1.2; omega
    refine skp (h := ?_)
    refine q_seq (h := ?_)
    refine sq (h := ?_)
    refine sq (h := ?_)
    refine rg (h := ?_)
    refine WL.y (hy := asg) (h := ?_)
    refine nl (h := ?_)
    refine q_seq (h := ?_)
    refine bk (h := ?_)
    refine lp (X := Nat) (I := fun k => k ≤ 3 ∧ Upto d.st (fun n => wi n 0 99999) k) (le := fun k => [(1, .pointer (some ⟨b0, 0, none⟩)), (3, .int .i64 k)]) (Le := fun _ => [.blk b0 49 (d.cells a), .ro a.sA 1 d.st.length (encI d.st), .ro a.fA 16 d.fx.length (d.fx.map Fx.enc), .ro a.cA 3 d.cr.length (d.cr.map Cx.enc)]) (μ := fun k => 3 - k) 0 ⟨Nat.zero_le _, upto_zero⟩ (by repeat (first | exact trivial | refine ⟨rfl, ?_⟩)) (by repeat (first | exact SubL.nil | (apply SubL.cons; (repeat (first | exact At.here | apply At.there))) | exact SubL.refl _ | apply SubL.skip)) (fun k hk => ?_)
    obtain ⟨hk0, hku⟩ := hk
    refine sq (h := ?_)
    refine sq (h := ?_)
    refine rg (h := ?_)
    refine WL.y (hy := mv) (h := ?_)
    refine WL.y (hy := lss) (h := ?_)
    refine nl (h := ?_)
    refine q_seq (h := ?_)
    refine cd (by exact rfl) (fun h6 => ?_) (fun h6 => ?_)
    · skip
      have hk3 : k < 3 := by have := of_decide_eq_true h6; omega
      obtain ⟨m, hm⟩ : ∃ m, d.st[k]? = some m := ⟨_, List.getElem?_eq_getElem (by omega)⟩
      refine skp (h := ?_)
      refine q_seq (h := ?_)
      refine sq (h := ?_)
      refine bk (h := ?_)
      refine sq (h := ?_)
      refine rg (h := ?_)
      refine WL.y (hy := (by first | exact fa | exact faE)) (h := ?_)
      refine WL.y (hy := (by first | exact ld | exact ldE)) (h := ?_)
      refine WL.y (hy := mv) (h := ?_)
      refine WL.y (hy := ix (A := a.sA) (m := d.st.length)) (h := ?_)
      refine WL.y (hy := ldE (A := a.sA) (hk := encI_at hm)) (h := ?_)
      refine cl0 (hc := fun w hS => C_ref9_within _ _ _ w) (h := ?_)
      refine WL.y (hy := notB) (h := ?_)
      refine nl (h := ?_)
      refine q_seq (h := ?_)
      refine cd (by exact rfl) (fun h7 => ?_) (fun h7 => ?_)
      · skip
        have hE : depE d = 90 := dep_st (all_no hm (by simpa using h7))
        refine sq (h := ?_)
        refine rg (h := ?_)
        refine WL.y (hy := asg) (h := ?_)
        refine nl (h := ?_)
        refine q_seq (h := ?_)
        refine rtn (h := ?_)
        refine q_blk_ret (h := ?_)
        refine q_then_ret (h := ?_)
        refine q_then_ret (h := ?_)
        refine q_blk_ret (h := ?_)
        refine q_then_ret (h := ?_)
        refine q_ret (hR := ?_)
        rw [hE]
        exact fun w hS => ⟨rfl, hS.sub (by repeat (first | exact SubL.nil | (apply SubL.cons; (repeat (first | exact At.here | apply At.there))) | exact SubL.refl _ | apply SubL.skip))⟩
      · skip
        have hkn := upto_succ hku hm (by simpa using h7)
        refine skp (h := ?_)
        refine q_blk_norm (h := ?_)
        refine q_seq (h := ?_)
        refine rg (h := ?_)
        refine WL.y (hy := mv) (h := ?_)
        refine WL.y (hy := addI) (h := ?_)
        refine WL.y (hy := asg) (h := ?_)
        refine nl (h := ?_)
        refine rn (x := k) (k + 1) ⟨by omega, hkn⟩ (by omega) (by repeat (first | exact trivial | refine ⟨rfl, ?_⟩)) (by repeat (first | exact SubL.nil | (apply SubL.cons; (repeat (first | exact At.here | apply At.there))) | exact SubL.refl _ | apply SubL.skip))
    · skip
      have hk3 : k = 3 := by have := of_decide_eq_false h6; omega
      have hst : stB d = true := all_to fun i x hi => hku i x (by omega)
      refine et (h := ?_)
      refine q_then_exit (h := ?_)
      refine q_then_exit (h := ?_)
      refine q_blk_hit (h := ?_)
      refine q_seq (h := ?_)
      refine sq (h := ?_)
      refine sq (h := ?_)
      refine rg (h := ?_)
      refine WL.y (hy := asg) (h := ?_)
      refine nl (h := ?_)
      refine q_seq (h := ?_)
      refine bk (h := ?_)
      refine lp (X := Nat) (I := fun j => j ≤ d.fx.length ∧ Upto d.fx fxOk j) (le := fun j => [(1, .pointer (some ⟨b0, 0, none⟩)), (4, .int .i64 j)]) (Le := fun _ => [.blk b0 49 (d.cells a), .ro a.sA 1 d.st.length (encI d.st), .ro a.fA 16 d.fx.length (d.fx.map Fx.enc), .ro a.cA 3 d.cr.length (d.cr.map Cx.enc)]) (μ := fun j => d.fx.length - j) 0 ⟨Nat.zero_le _, upto_zero⟩ (by repeat (first | exact trivial | refine ⟨rfl, ?_⟩)) (by repeat (first | exact SubL.nil | (apply SubL.cons; (repeat (first | exact At.here | apply At.there))) | exact SubL.refl _ | apply SubL.skip)) (fun j hj => ?_)
      obtain ⟨hj0, hju⟩ := hj
      refine sq (h := ?_)
      refine sq (h := ?_)
      refine rg (h := ?_)
      refine WL.y (hy := mv) (h := ?_)
      refine WL.y (hy := (by first | exact fa | exact faE)) (h := ?_)
      refine WL.y (hy := (by first | exact ld | exact ldE)) (h := ?_)
      refine WL.y (hy := lenS) (h := ?_)
      refine WL.y (hy := lss) (h := ?_)
      refine nl (h := ?_)
      refine q_seq (h := ?_)
      refine cd (by exact rfl) (fun h8 => ?_) (fun h8 => ?_)
      · skip
        have hkn2 : j < d.fx.length := by have := of_decide_eq_true h8; omega
        obtain ⟨x, hx⟩ : ∃ x, d.fx[j]? = some x := ⟨_, List.getElem?_eq_getElem hkn2⟩
        refine skp (h := ?_)
        refine q_seq (h := ?_)
        refine sq (h := ?_)
        refine bk (h := ?_)
        refine sq (h := ?_)
        refine rg (h := ?_)
        refine WL.y (hy := (by first | exact fa | exact faE)) (h := ?_)
        refine WL.y (hy := (by first | exact ld | exact ldE)) (h := ?_)
        refine WL.y (hy := mv) (h := ?_)
        refine WL.y (hy := ix (A := a.fA) (m := d.fx.length)) (h := ?_)
        refine WL.y (hy := ldEW (A := a.fA) (hk := map_at hx)) (h := ?_)
        refine cl0 (hc := fun w hS => C_ref9_isFixture x w ((hS.old (h.x x (List.mem_of_getElem? hx)).r).get) (h.x x (List.mem_of_getElem? hx)).n (hsm x (List.mem_of_getElem? hx))) (h := ?_)
        refine WL.y (hy := notB) (h := ?_)
        refine nl (h := ?_)
        refine q_seq (h := ?_)
        refine cd (by exact rfl) (fun h9 => ?_) (fun h9 => ?_)
        · skip
          have hE : depE d = 90 := dep_fx (all_no hx (by simpa using h9))
          refine sq (h := ?_)
          refine rg (h := ?_)
          refine WL.y (hy := asg) (h := ?_)
          refine nl (h := ?_)
          refine q_seq (h := ?_)
          refine rtn (h := ?_)
          refine q_blk_ret (h := ?_)
          refine q_then_ret (h := ?_)
          refine q_then_ret (h := ?_)
          refine q_blk_ret (h := ?_)
          refine q_then_ret (h := ?_)
          refine q_ret (hR := ?_)
          rw [hE]
          exact fun w hS => ⟨rfl, hS.sub (by repeat (first | exact SubL.nil | (apply SubL.cons; (repeat (first | exact At.here | apply At.there))) | exact SubL.refl _ | apply SubL.skip))⟩
        · skip
          have hjn := upto_succ hju hx (by simpa using h9)
          refine skp (h := ?_)
          refine q_blk_norm (h := ?_)
          refine q_seq (h := ?_)
          refine rg (h := ?_)
          refine WL.y (hy := mv) (h := ?_)
          refine WL.y (hy := addI) (h := ?_)
          refine WL.y (hy := asg) (h := ?_)
          refine nl (h := ?_)
          refine rn (x := j) (j + 1) ⟨hkn2, hjn⟩ (by omega) (by repeat (first | exact trivial | refine ⟨rfl, ?_⟩)) (by repeat (first | exact SubL.nil | (apply SubL.cons; (repeat (first | exact At.here | apply At.there))) | exact SubL.refl _ | apply SubL.skip))
      · skip
        have hkn2 : j = d.fx.length := by have := of_decide_eq_false h8; omega
        have hfx : fxB d = true := all_to fun i x hi => hju i x (by omega)
        refine et (h := ?_)
        refine q_then_exit (h := ?_)
        refine q_then_exit (h := ?_)
        refine q_blk_hit (h := ?_)
        refine q_seq (h := ?_)
        refine sq (h := ?_)
        refine sq (h := ?_)
        refine rg (h := ?_)
        refine WL.y (hy := asg) (h := ?_)
        refine nl (h := ?_)
        refine q_seq (h := ?_)
        refine bk (h := ?_)
        refine lp (X := Nat) (I := fun i => i ≤ d.cr.length ∧ Upto d.cr crOk i) (le := fun i => [(1, .pointer (some ⟨b0, 0, none⟩)), (5, .int .i64 i)]) (Le := fun _ => [.blk b0 49 (d.cells a), .ro a.sA 1 d.st.length (encI d.st), .ro a.fA 16 d.fx.length (d.fx.map Fx.enc), .ro a.cA 3 d.cr.length (d.cr.map Cx.enc)]) (μ := fun i => d.cr.length - i) 0 ⟨Nat.zero_le _, upto_zero⟩ (by repeat (first | exact trivial | refine ⟨rfl, ?_⟩)) (by repeat (first | exact SubL.nil | (apply SubL.cons; (repeat (first | exact At.here | apply At.there))) | exact SubL.refl _ | apply SubL.skip)) (fun i hi => ?_)
        obtain ⟨hi0, hiu⟩ := hi
        refine sq (h := ?_)
        refine sq (h := ?_)
        refine rg (h := ?_)
        refine WL.y (hy := mv) (h := ?_)
        refine WL.y (hy := (by first | exact fa | exact faE)) (h := ?_)
        refine WL.y (hy := (by first | exact ld | exact ldE)) (h := ?_)
        refine WL.y (hy := lenS) (h := ?_)
        refine WL.y (hy := lss) (h := ?_)
        refine nl (h := ?_)
        refine q_seq (h := ?_)
        refine cd (by exact rfl) (fun h10 => ?_) (fun h10 => ?_)
        · skip
          have hkn3 : i < d.cr.length := by have := of_decide_eq_true h10; omega
          obtain ⟨y, hc⟩ : ∃ y, d.cr[i]? = some y := ⟨_, List.getElem?_eq_getElem hkn3⟩
          refine skp (h := ?_)
          refine q_seq (h := ?_)
          refine sq (h := ?_)
          refine bk (h := ?_)
          refine sq (h := ?_)
          refine rg (h := ?_)
          refine WL.y (hy := (by first | exact fa | exact faE)) (h := ?_)
          refine WL.y (hy := (by first | exact ld | exact ldE)) (h := ?_)
          refine WL.y (hy := mv) (h := ?_)
          refine WL.y (hy := ix (A := a.cA) (m := d.cr.length)) (h := ?_)
          refine WL.y (hy := ldEW (A := a.cA) (hk := map_at hc)) (h := ?_)
          refine al (h := fun b1 => ?_)
          first | refine stA (h := ?_) | refine stEA (h := ?_)
          refine nl (h := ?_)
          refine q_seq (h := ?_)
          refine sq (h := ?_)
          refine rg (h := ?_)
          refine WL.y (hy := (by first | exact fa | exact faE)) (h := ?_)
          refine WL.y (hy := (by first | exact ld | exact ldE)) (h := ?_)
          refine cl0 (hc := fun w hS => C_ref9_within _ _ _ w) (h := ?_)
          refine WL.y (hy := notB) (h := ?_)
          refine WL.y (hy := mv) (h := ?_)
          apply brOr 5 85 90 (by exact rfl)
          · intro hb11
            refine un (h := ?_)
            refine WL.y (hy := (by first | exact fa | exact faE)) (h := ?_)
            refine un (h := ?_)
            refine WL.y (hy := (by first | exact ld | exact ldE)) (h := ?_)
            refine un (h := ?_)
            refine cl0 (hc := fun w hS => C_ref9_within _ _ _ w) (h := ?_)
            refine un (h := ?_)
            refine WL.y (hy := notB) (h := ?_)
            refine WL.y (hy := (by first | exact pkT | exact pkF)) (h := ?_)
            exact mg (by repeat (first | exact trivial | refine ⟨rfl, ?_⟩ | refine ⟨by rw [hb11]; rfl, ?_⟩)) (by repeat (first | exact SubL.nil | (apply SubL.cons; (repeat (first | exact At.here | apply At.there))) | exact SubL.refl _ | apply SubL.skip))
          · intro hb11
            repeat (first | refine un (h := ?_) | refine sk (h := ?_) | refine WL.y (hy := pkF) (h := ?_) | refine WL.y (hy := pkT) (h := ?_))
            exact mg (by repeat (first | exact trivial | refine ⟨rfl, ?_⟩ | refine ⟨by rw [hb11]; rfl, ?_⟩)) (by repeat (first | exact SubL.nil | (apply SubL.cons; (repeat (first | exact At.here | apply At.there))) | exact SubL.refl _ | apply SubL.skip))
          refine WL.y (hy := mv) (h := ?_)
          apply brOr 5 91 96 (by exact rfl)
          · intro hb12
            refine un (h := ?_)
            refine WL.y (hy := (by first | exact fa | exact faE)) (h := ?_)
            refine un (h := ?_)
            refine WL.y (hy := (by first | exact ld | exact ldE)) (h := ?_)
            refine un (h := ?_)
            refine cl0 (hc := fun w hS => C_ref9_within _ _ _ w) (h := ?_)
            refine un (h := ?_)
            refine WL.y (hy := notB) (h := ?_)
            refine WL.y (hy := (by first | exact pkT | exact pkF)) (h := ?_)
            exact mg (by repeat (first | exact trivial | refine ⟨rfl, ?_⟩ | refine ⟨by rw [hb12]; rfl, ?_⟩)) (by repeat (first | exact SubL.nil | (apply SubL.cons; (repeat (first | exact At.here | apply At.there))) | exact SubL.refl _ | apply SubL.skip))
          · intro hb12
            repeat (first | refine un (h := ?_) | refine sk (h := ?_) | refine WL.y (hy := pkF) (h := ?_) | refine WL.y (hy := pkT) (h := ?_))
            exact mg (by repeat (first | exact trivial | refine ⟨rfl, ?_⟩ | refine ⟨by rw [hb12]; rfl, ?_⟩)) (by repeat (first | exact SubL.nil | (apply SubL.cons; (repeat (first | exact At.here | apply At.there))) | exact SubL.refl _ | apply SubL.skip))
          refine nl (h := ?_)
          refine q_seq (h := ?_)
          refine cd (by exact rfl) (fun h13 => ?_) (fun h13 => ?_)
          · skip
            have hE : depE d = 90 := dep_cr (all_no hc (by rw [crOk, h13]; rfl))
            refine sq (h := ?_)
            refine rg (h := ?_)
            refine WL.y (hy := asg) (h := ?_)
            refine nl (h := ?_)
            refine q_seq (h := ?_)
            refine rtn (h := ?_)
            refine q_blk_ret (h := ?_)
            refine q_then_ret (h := ?_)
            refine q_then_ret (h := ?_)
            refine q_blk_ret (h := ?_)
            refine q_then_ret (h := ?_)
            refine q_ret (hR := ?_)
            rw [hE]
            exact fun w hS => ⟨rfl, hS.sub (by repeat (first | exact SubL.nil | (apply SubL.cons; (repeat (first | exact At.here | apply At.there))) | exact SubL.refl _ | apply SubL.skip))⟩
          · skip
            have hin := upto_succ hiu hc (by rw [crOk, h13]; rfl)
            refine skp (h := ?_)
            refine q_blk_norm (h := ?_)
            refine q_seq (h := ?_)
            refine rg (h := ?_)
            refine WL.y (hy := mv) (h := ?_)
            refine WL.y (hy := addI) (h := ?_)
            refine WL.y (hy := asg) (h := ?_)
            refine nl (h := ?_)
            refine rn (x := i) (i + 1) ⟨hkn3, hin⟩ (by omega) (by repeat (first | exact trivial | refine ⟨rfl, ?_⟩)) (by repeat (first | exact SubL.nil | (apply SubL.cons; (repeat (first | exact At.here | apply At.there))) | exact SubL.refl _ | apply SubL.skip))
        · skip
          have hkn3 : i = d.cr.length := by have := of_decide_eq_false h10; omega
          have hcr : crB d = true := all_to fun i' x hi' => hiu i' x (by omega)
          have hE := dep_yes hkit hln hst hfx hcr
          refine et (h := ?_)
          refine q_then_exit (h := ?_)
          refine q_then_exit (h := ?_)
          refine q_blk_hit (h := ?_)
          refine q_seq (h := ?_)
          refine sq (h := ?_)
          refine rg (h := ?_)
          refine WL.y (hy := asg) (h := ?_)
          refine nl (h := ?_)
          refine q_seq (h := ?_)
          refine rtn (h := ?_)
          refine q_ret (hR := ?_)
          rw [hE]
          exact fun w hS => ⟨rfl, hS.sub (by repeat (first | exact SubL.nil | (apply SubL.cons; (repeat (first | exact At.here | apply At.there))) | exact SubL.refl _ | apply SubL.skip))⟩
end Go.Proofs.Ytacaojifempclaa

namespace Go.Proofs.Ytacaojifempclaa
open Go Go.RowKit

def accN (d : Dp) (item : Int) : Nat → Nat → Pr
  | 0, _ => (0, 0)
  | k + 1, dd => match d.fx[k]? with
    | some x => bif decide (x.day = (dd : Int)) then ((accN d item k dd).1 + (ndV d.each d.tow d.fra x item).1, (accN d item k dd).2 + (ndV d.each d.tow d.fra x item).2) else accN d item k dd
    | none => accN d item k dd
def needD (d : Dp) (item : Int) (dd : Nat) : Pr := accN d item d.fx.length dd
def crT (d : Dp) (item : Int) (dd : Nat) : Nat → Int
  | 0 => 0
  | k + 1 => match d.cr[k]? with
    | some c => bif decide (c.day = (dd : Int)) && decide (c.item = item) then crT d item dd k + c.count else crT d item dd k
    | none => crT d item dd k
def lefD (d : Dp) (item : Int) : Nat → Pr
  | 0 => (d.st.getD item.toNat 0, d.st.getD item.toNat 0)
  | k + 1 => ((lefD d item k).1 + crT d item k d.cr.length - (needD d item k).2, (lefD d item k).2 + crT d item k d.cr.length - (needD d item k).1)
def wkF (N L : Nat → Pr) : Nat → Int := fun i => if i < 122 then (if i % 2 = 0 then (N (i / 2)).1 else (N (i / 2)).2) else (if i % 2 = 0 then (L ((i - 122) / 2)).1 else (L ((i - 122) / 2)).2)
def updF (N : Nat → Pr) (k : Nat) (v : Pr) : Nat → Pr := fun i => if i = k then v else N i
theorem wk_lo (N L : Nat → Pr) {k o : Nat} (hk : k < 61) (ho : o = k * 2) (v : Int) : numE 244 (fun i => if i = o then v else wkF N L i) = numE 244 (wkF (updF N k (v, (N k).2)) L) := numE_congr fun i hi => by
  subst ho
  unfold wkF updF
  by_cases e : i = k * 2
  · rw [if_pos e, if_pos (by omega), if_pos (by omega), if_pos (by omega)]
  · rw [if_neg e]
    by_cases h1 : i < 122
    · rw [if_pos h1, if_pos h1]
      by_cases h2 : i % 2 = 0
      · rw [if_pos h2, if_pos h2, if_neg (by omega)]
      · rw [if_neg h2, if_neg h2]
        by_cases h3 : i / 2 = k
        · rw [if_pos h3, h3]
        · rw [if_neg h3]
    · rw [if_neg h1, if_neg h1]
theorem wk_hi (N L : Nat → Pr) {k o : Nat} (hk : k < 61) (ho : o = k * 2 + 1) (v : Int) : numE 244 (fun i => if i = o then v else wkF N L i) = numE 244 (wkF (updF N k ((N k).1, v)) L) := numE_congr fun i hi => by
  subst ho
  unfold wkF updF
  by_cases e : i = k * 2 + 1
  · rw [if_pos e, if_pos (by omega), if_neg (by omega), if_pos (by omega)]
  · rw [if_neg e]
    by_cases h1 : i < 122
    · rw [if_pos h1, if_pos h1]
      by_cases h2 : i % 2 = 0
      · rw [if_pos h2, if_pos h2]
        by_cases h3 : i / 2 = k
        · rw [if_pos h3, h3]
        · rw [if_neg h3]
      · rw [if_neg h2, if_neg h2, if_neg (by omega)]
    · rw [if_neg h1, if_neg h1]
theorem wk_left (N L : Nat → Pr) {k o : Nat} (hk : k < 61) (ho : o = 122 + k * 2) (v : Pr) : putAll (numE 244 (wkF N L)) o [.int .i64 v.1, .int .i64 v.2] = numE 244 (wkF N (updF L k v)) := by
  show ((numE 244 (wkF N L)).set o _).set (o + 1) _ = _
  rw [numE_set, numE_set]
  refine numE_congr fun i hi => ?_
  subst ho
  unfold wkF updF
  by_cases e1 : i = 122 + k * 2 + 1
  · rw [if_pos e1, if_neg (by omega), if_neg (by omega), if_pos (by omega)]
  · rw [if_neg e1]
    by_cases e2 : i = 122 + k * 2
    · rw [if_pos e2, if_neg (by omega), if_pos (by omega), if_pos (by omega)]
    · rw [if_neg e2]
      by_cases h1 : i < 122
      · rw [if_pos h1, if_pos h1]
      · have hne : ¬ (i - 122) / 2 = k := by omega
        rw [if_neg h1, if_neg h1, if_neg hne]
theorem wk_congr {N L N' L' : Nat → Pr} (h1 : ∀ k, k < 61 → N k = N' k) (h2 : ∀ k, k < 61 → L k = L' k) : numE 244 (wkF N L) = numE 244 (wkF N' L') := numE_congr fun i hi => by
  unfold wkF
  by_cases h : i < 122
  · rw [if_pos h, if_pos h, h1 (i / 2) (by omega)]
  · rw [if_neg h, if_neg h, h2 ((i - 122) / 2) (by omega)]
theorem wk_need1 (N L : Nat → Pr) {k o : Nat} (hk : k < 61) (ho : o = k * 2) : (numE 244 (wkF N L))[o]? = some (.int .i64 (N k).1) := by
  rw [numE_at (by omega)]
  unfold wkF
  rw [if_pos (by omega), if_pos (by omega), show o / 2 = k by omega]
theorem wk_need2 (N L : Nat → Pr) {k o : Nat} (hk : k < 61) (ho : o = k * 2 + 1) : (numE 244 (wkF N L))[o]? = some (.int .i64 (N k).2) := by
  rw [numE_at (by omega)]
  unfold wkF
  rw [if_pos (by omega), if_neg (by omega), show o / 2 = k by omega]
theorem wk_left1 (N L : Nat → Pr) {k o : Nat} (hk : k < 61) (ho : o = 122 + k * 2) : (numE 244 (wkF N L))[o]? = some (.int .i64 (L k).1) := by
  rw [numE_at (by omega)]
  unfold wkF
  rw [if_neg (by omega), if_pos (by omega), show (o - 122) / 2 = k by omega]
theorem wk_left2 (N L : Nat → Pr) {k o : Nat} (hk : k < 61) (ho : o = 122 + k * 2 + 1) : (numE 244 (wkF N L))[o]? = some (.int .i64 (L k).2) := by
  rw [numE_at (by omega)]
  unfold wkF
  rw [if_neg (by omega), if_neg (by omega), show (o - 122) / 2 = k by omega]
theorem wk_zero : numE 244 (fun _ => 0) = numE 244 (wkF (fun _ => (0, 0)) (fun _ => (0, 0))) := numE_congr fun i hi => by unfold wkF; by_cases h : i < 122 <;> by_cases h2 : i % 2 = 0 <;> simp [h, h2]
abbrev wkC (d : Dp) (item : Int) : List Value := numE 244 (wkF (needD d item) (fun j => lefD d item (j + 1)))
structure DepG (d : Dp) : Prop where
  k1 : 0 ≤ d.each ∧ d.each ≤ 20
  k2 : 0 ≤ d.tow ∧ d.tow ≤ 20
  k3 : 0 ≤ d.fra ∧ d.fra ≤ 20
  sl : d.st.length = 3
  fl : d.fx.length ≤ 30
  cl : d.cr.length ≤ 30
  st : ∀ x ∈ d.st, 0 ≤ x ∧ x ≤ 99999
  fx : ∀ x ∈ d.fx, (0 ≤ x.day ∧ x.day ≤ 60) ∧ checkE x.f x.b = 0
  cr : ∀ c ∈ d.cr, (0 ≤ c.day ∧ c.day ≤ 60) ∧ (0 ≤ c.item ∧ c.item ≤ 2) ∧ 0 ≤ c.count ∧ c.count ≤ 99999
theorem dep_good {d : Dp} (h : depOk d = true) : DepG d := by
  unfold depOk at h
  simp only [Bool.and_eq_true] at h
  obtain ⟨⟨⟨⟨h1, h2⟩, h3⟩, h4⟩, h5⟩ := h
  unfold kitB at h1
  simp only [Bool.and_eq_true] at h1
  unfold lenB at h2
  simp only [Bool.not_eq_true', Bool.or_eq_false_iff, Bool.not_eq_false', decide_eq_true_eq, decide_eq_false_iff_not] at h2
  refine ⟨wi_iff.1 h1.1.1, wi_iff.1 h1.1.2, wi_iff.1 h1.2, by omega, by omega, by omega, fun x hx => wi_iff.1 (List.all_eq_true.1 h3 x hx), fun x hx => ?_, fun c hc => ?_⟩
  · have := List.all_eq_true.1 h4 x hx
    unfold fxOk at this
    simp only [Bool.not_eq_true', Bool.or_eq_false_iff, Bool.not_eq_false', decide_eq_true_eq] at this
    exact ⟨wi_iff.1 this.1, this.2⟩
  · have := List.all_eq_true.1 h5 c hc
    unfold crOk at this
    simp only [Bool.not_eq_true', Bool.or_eq_false_iff, Bool.not_eq_false'] at this
    exact ⟨wi_iff.1 this.1.1, wi_iff.1 this.1.2, wi_iff.1 this.2⟩
theorem acc_rng {d : Dp} (h : DepG d) (item : Int) (dd : Nat) : ∀ k : Nat, 0 ≤ (accN d item k dd).1 ∧ (accN d item k dd).1 ≤ (accN d item k dd).2 ∧ (accN d item k dd).2 ≤ 10000 * k
  | 0 => by show 0 ≤ (0 : Int) ∧ (0 : Int) ≤ 0 ∧ (0 : Int) ≤ 10000 * ((0 : Nat) : Int); omega
  | k + 1 => by
    have ih := acc_rng h item dd k
    rw [accN]
    cases hx : d.fx[k]? with
    | none => simp only; omega
    | some x =>
      have hr := nd_rng (item := item) ⟨h.k1, h.k2, h.k3⟩ (h.fx x (List.mem_of_getElem? hx)).2
      simp only
      cases decide (x.day = (dd : Int))
      · simp only [cond_false]; omega
      · simp only [cond_true]; omega
theorem need_rng {d : Dp} (h : DepG d) (item : Int) (dd : Nat) : 0 ≤ (needD d item dd).1 ∧ (needD d item dd).1 ≤ (needD d item dd).2 ∧ (needD d item dd).2 ≤ 300000 := by
  have h1 := acc_rng h item dd d.fx.length
  have h2 := h.fl
  unfold needD; omega
theorem cr_rng {d : Dp} (h : DepG d) (item : Int) (dd : Nat) : ∀ k : Nat, 0 ≤ crT d item dd k ∧ crT d item dd k ≤ 100000 * k
  | 0 => by show 0 ≤ (0 : Int) ∧ (0 : Int) ≤ 100000 * ((0 : Nat) : Int); omega
  | k + 1 => by
    have ih := cr_rng h item dd k
    rw [crT]
    cases hx : d.cr[k]? with
    | none => simp only; omega
    | some c =>
      have hr := (h.cr c (List.mem_of_getElem? hx)).2.2
      simp only
      cases decide (c.day = (dd : Int)) && decide (c.item = item)
      · simp only [cond_false]; omega
      · simp only [cond_true]; omega
theorem st_rng {d : Dp} (h : DepG d) (k : Nat) : 0 ≤ d.st.getD k 0 ∧ d.st.getD k 0 ≤ 99999 := by
  rw [List.getD_eq_getElem?_getD]
  cases hx : d.st[k]? with
  | none => show 0 ≤ (0 : Int) ∧ (0 : Int) ≤ 99999; omega
  | some x => exact h.st x (List.mem_of_getElem? hx)
theorem lef_rng {d : Dp} (h : DepG d) (item : Int) : ∀ k : Nat, -(300000 * (k : Int)) ≤ (lefD d item k).1 ∧ (lefD d item k).1 ≤ (lefD d item k).2 ∧ (lefD d item k).2 ≤ 100000 + 3000000 * k
  | 0 => by
    have h1 := st_rng h item.toNat
    show -(300000 * ((0 : Nat) : Int)) ≤ d.st.getD item.toNat 0 ∧ d.st.getD item.toNat 0 ≤ d.st.getD item.toNat 0 ∧ d.st.getD item.toNat 0 ≤ 100000 + 3000000 * ((0 : Nat) : Int)
    omega
  | k + 1 => by
    have ih := lef_rng h item k
    have h1 := need_rng h item k
    have h2 := cr_rng h item k d.cr.length
    have h3 := h.cl
    rw [lefD]; dsimp only; omega
theorem acc_succ {d : Dp} {item : Int} {k : Nat} {x : Fx} (hx : d.fx[k]? = some x) (hd : 0 ≤ x.day) (dd : Nat) : accN d item (k + 1) dd = updF (accN d item k) x.day.toNat ((accN d item k x.day.toNat).1 + (ndV d.each d.tow d.fra x item).1, (accN d item k x.day.toNat).2 + (ndV d.each d.tow d.fra x item).2) dd := by
  rw [accN, hx]
  unfold updF
  simp only
  by_cases e : dd = x.day.toNat
  · rw [if_pos e, decide_eq_true (by omega), e]; rfl
  · rw [if_neg e, decide_eq_false (by omega)]; rfl
theorem upd_upd (N : Nat → Pr) (k : Nat) (a b : Pr) : updF (updF N k a) k b = updF N k b := by
  funext i; unfold updF; by_cases e : i = k
  · rw [if_pos e, if_pos e]
  · rw [if_neg e, if_neg e, if_neg e]
theorem upd_at (N : Nat → Pr) (k : Nat) (a : Pr) : updF N k a k = a := if_pos rfl
theorem nd_at {each tow fra : Int} {x : Fx} {item : Int} (h : 0 ≤ item ∧ item ≤ 2) : ((nd6 each tow fra x).drop (item.toNat * 2)).take 2 = [.int .i64 (ndV each tow fra x item).1, .int .i64 (ndV each tow fra x item).2] := by
  have h3 : item = 0 ∨ item = 1 ∨ item = 2 := by omega
  rcases h3 with rfl | rfl | rfl <;> rfl
theorem st_at {d : Dp} (h : DepG d) {item : Int} (hi : 0 ≤ item ∧ item ≤ 2) : (encI d.st)[item.toNat]? = some [.int .i64 (d.st.getD item.toNat 0)] := by
  have := h.sl
  rw [encI_at (List.getElem?_eq_getElem (show item.toNat < d.st.length by omega)), List.getD_eq_getElem?_getD, List.getElem?_eq_getElem (show item.toNat < d.st.length by omega)]; rfl
def lefT (d : Dp) (item : Int) (k : Nat) : Nat → Pr := fun j => if j < k then lefD d item (j + 1) else (0, 0)
theorem lefT_succ (d : Dp) (item : Int) (k : Nat) : updF (lefT d item k) k (lefD d item (k + 1)) = lefT d item (k + 1) := by
  funext i; unfold updF lefT
  by_cases e : i = k
  · rw [if_pos e, if_pos (by omega), e]
  · rw [if_neg e]
    by_cases h : i < k
    · rw [if_pos h, if_pos (by omega)]
    · rw [if_neg h, if_neg (by omega)]
theorem crT_succ {d : Dp} {item : Int} {dd k : Nat} {c : Cx} (h : d.cr[k]? = some c) : crT d item dd (k + 1) = bif decide (c.day = (dd : Int)) && decide (c.item = item) then crT d item dd k + c.count else crT d item dd k := by rw [crT, h]
set_option maxRecDepth 100000 in
set_option maxHeartbeats 4000000 in
theorem C_balls_run (d : Dp) (a : DA) (item : Int) (hG : DepG d) (hi : 0 ≤ item ∧ item ≤ 2) (w : World) (h : DpR w d a) : C0 Try.prog 101 [d.val a, .int .i64 item] w (.agg (wkC d item).toArray) := by
  have hsc := h.sc
  have hfl := hG.fl
  have hcl := hG.cl
  have hsl := hG.sl
  have hwz : numE 244 (fun _ => 0) = numE 244 (wkF (accN d item 0) (fun _ => (0, 0))) := wk_zero
  refine ⟨en Try.func101 Try.ntmps101 ((((St.init w).share (e := .ro a.sA 1 d.st.length (encI d.st)) h.s rfl rfl rfl).share (e := .ro a.fA 16 d.fx.length (d.fx.map Fx.enc)) h.f rfl rfl rfl).share (e := .ro a.cA 3 d.cr.length (d.cr.map Cx.enc)) h.c rfl rfl rfl) (h := fun F => ?_)⟩
  refine sq (h := ?_)
  refine rg (h := ?_)
  refine bxA (h := fun b0 => ?_)
  refine al (h := fun b1 => ?_)
  refine WL.blkTo (numE 244 fun _ => 0) .here (by rfl) ?_
  rw [hwz]
  refine nl (h := ?_)
  refine q_seq (h := ?_)
  refine sq (h := ?_)
  refine sq (h := ?_)
  refine rg (h := ?_)
  refine WL.y (hy := (by first | exact fa | exact faE)) (h := ?_)
  refine WL.y (hy := (by first | exact ld | exact ldE)) (h := ?_)
  refine WL.y (hy := lenS) (h := ?_)
  refine WL.y (hy := mv) (h := ?_)
  refine nl (h := ?_)
  refine q_seq (h := ?_)
  refine bk (h := ?_)
  refine lp (X := Nat) (I := fun k => k ≤ d.fx.length) (le := fun k => [(1, .int .i64 item), (2, .pointer (some ⟨b0, 0, none⟩)), (4, .pointer (some ⟨b1, 0, none⟩)), (13, .slice a.fA d.fx.length a.fc), (14, .int .i64 d.fx.length), (15, .int .i64 k)]) (Le := fun k => [.blk b1 113 (numE 244 (wkF (accN d item k) (fun _ => (0, 0)))), .blk b0 49 (d.cells a), .ro a.sA 1 d.st.length (encI d.st), .ro a.fA 16 d.fx.length (d.fx.map Fx.enc), .ro a.cA 3 d.cr.length (d.cr.map Cx.enc)]) (μ := fun k => d.fx.length - k) 0 (Nat.zero_le _) (by repeat (first | exact trivial | refine ⟨rfl, ?_⟩)) (by repeat (first | exact SubL.nil | (apply SubL.cons; (repeat (first | exact At.here | apply At.there))) | exact SubL.refl _ | apply SubL.skip)) (fun k hk => ?_)
  refine sq (h := ?_)
  refine rg (h := ?_)
  refine WL.y (hy := lss) (h := ?_)
  refine nl (h := ?_)
  refine q_seq (h := ?_)
  refine sq (h := ?_)
  refine cd (by exact rfl) (fun h0 => ?_) (fun h0 => ?_)
  · skip
    have hkn : k < d.fx.length := by have := of_decide_eq_true h0; omega
    obtain ⟨x, hx⟩ : ∃ x, d.fx[k]? = some x := ⟨_, List.getElem?_eq_getElem hkn⟩
    have hxg := hG.fx x (List.mem_of_getElem? hx)
    have hdl : x.day.toNat < 61 := by omega
    have hnr := nd_rng (item := item) ⟨hG.k1, hG.k2, hG.k3⟩ hxg.2
    have har := acc_rng hG item x.day.toNat k
    have hacc : updF (accN d item k) x.day.toNat ((accN d item k x.day.toNat).1 + (ndV d.each d.tow d.fra x item).1, (accN d item k x.day.toNat).2 + (ndV d.each d.tow d.fra x item).2) = accN d item (k + 1) := funext fun dd => (acc_succ hx hxg.1.1 dd).symm
    refine skp (h := ?_)
    refine q_seq (h := ?_)
    refine sq (h := ?_)
    refine bk (h := ?_)
    refine sq (h := ?_)
    refine rg (h := ?_)
    refine WL.y (hy := ix (A := a.fA) (m := d.fx.length)) (h := ?_)
    refine WL.y (hy := ldEW (A := a.fA) (hk := map_at hx)) (h := ?_)
    refine al (h := fun bx => ?_)
    first | refine stA (h := ?_) | refine stEA (h := ?_)
    refine nl (h := ?_)
    refine q_seq (h := ?_)
    refine sq (h := ?_)
    refine rg (h := ?_)
    refine WL.y (hy := (by first | exact fa | exact faE)) (h := ?_)
    refine WL.y (hy := (by first | exact ldA | exact ldEA)) (h := ?_)
    refine WL.y (hy := (by first | exact ldA | exact ldEA)) (h := ?_)
    refine cl0 (hc := fun w hS => C_balls_needs d.each d.tow d.fra x ⟨hG.k1, hG.k2, hG.k3⟩ hxg.2 w ((hS.old (h.x x (List.mem_of_getElem? hx)).r).get)) (h := ?_)
    refine WL.y (hy := mv) (h := ?_)
    refine WL.y (hy := ixv) (h := ?_)
    rw [nd_at hi]
    refine al (h := fun bn => ?_)
    first | refine stA (h := ?_) | refine stEA (h := ?_)
    refine nl (h := ?_)
    refine q_seq (h := ?_)
    refine sq (h := ?_)
    refine rgD (by kernel_rfl) [(1000000, .blk bx 60 x.enc), (1000000, .blk bn 39 [.int .i64 (ndV d.each d.tow d.fra x item).1, .int .i64 (ndV d.each d.tow d.fra x item).2]), (12, .blk b1 113 (numE 244 (wkF (accN d item k) (fun _ => (0, 0)))))] (by repeat (first | exact HS.nil | (apply HS.keep; (repeat (first | exact At.here | apply At.there))) | (apply HS.ro; (repeat (first | exact Rds.ro | exact Rds.own | apply Rds.there))))) (h := ?_)
    refine tk 0 (hy := (by first | exact fa | exact faE)) (h := ?_)
    refine tk 1 (hy := (by first | exact ld | exact ldE)) (h := ?_)
    refine tk 2 (hy := (by first | exact fa | exact faE)) (h := ?_)
    refine tk 3 (hy := ixA (hb := by omega)) (h := ?_)
    refine tk 4 (hy := (by first | exact fa | exact faE)) (h := ?_)
    refine tk 5 (hy := ld (hc := wk_need1 (accN d item k) (fun _ => (0, 0)) hdl (by omega))) (h := ?_)
    refine tk 6 (hy := (by first | exact fa | exact faE)) (h := ?_)
    refine tk 7 (hy := (by first | exact ld | exact ldE)) (h := ?_)
    refine tk 8 (hy := addI) (h := ?_)
    refine tk 9 (hy := (by first | exact fa | exact faE)) (h := ?_)
    refine tk 10 (hy := ixA (hb := by omega)) (h := ?_)
    refine tk 11 (hy := (by first | exact fa | exact faE)) (h := ?_)
    refine one 12 (h := ?_)
    refine stI (ho := by rw [numE_len]; omega) (h := ?_)
    rw [numE_set, wk_lo (k := x.day.toNat) _ _ hdl (by omega)]
    refine nx (h := ?_)
    refine dn (h := ?_)
    refine q_seq (h := ?_)
    refine rgD (by kernel_rfl) [(1000000, .blk bx 60 x.enc), (1000000, .blk bn 39 [.int .i64 (ndV d.each d.tow d.fra x item).1, .int .i64 (ndV d.each d.tow d.fra x item).2]), (12, .blk b1 113 (numE 244 (wkF (updF (accN d item k) x.day.toNat ((accN d item k x.day.toNat).1 + (ndV d.each d.tow d.fra x item).1, (accN d item k x.day.toNat).2)) (fun _ => (0, 0)))))] (by repeat (first | exact HS.nil | (apply HS.keep; (repeat (first | exact At.here | apply At.there))) | (apply HS.ro; (repeat (first | exact Rds.ro | exact Rds.own | apply Rds.there))))) (h := ?_)
    refine tk 0 (hy := (by first | exact fa | exact faE)) (h := ?_)
    refine tk 1 (hy := (by first | exact ld | exact ldE)) (h := ?_)
    refine tk 2 (hy := (by first | exact fa | exact faE)) (h := ?_)
    refine tk 3 (hy := ixA (hb := by omega)) (h := ?_)
    refine tk 4 (hy := (by first | exact fa | exact faE)) (h := ?_)
    refine tk 5 (hy := ld (v := .int .i64 (accN d item k x.day.toNat).2) (hc := (wk_need2 _ (fun _ => (0, 0)) hdl (by omega)).trans (by rw [upd_at]))) (h := ?_)
    refine tk 6 (hy := (by first | exact fa | exact faE)) (h := ?_)
    refine tk 7 (hy := (by first | exact ld | exact ldE)) (h := ?_)
    refine tk 8 (hy := addI) (h := ?_)
    refine tk 9 (hy := (by first | exact fa | exact faE)) (h := ?_)
    refine tk 10 (hy := ixA (hb := by omega)) (h := ?_)
    refine tk 11 (hy := (by first | exact fa | exact faE)) (h := ?_)
    refine one 12 (h := ?_)
    refine stI (ho := by rw [numE_len]; omega) (h := ?_)
    rw [numE_set, wk_hi (k := x.day.toNat) _ _ hdl (by omega), upd_upd, upd_at, hacc]
    refine nx (h := ?_)
    refine dn (h := ?_)
    refine q_blk_norm (h := ?_)
    refine q_seq (h := ?_)
    refine rg (h := ?_)
    refine WL.y (hy := addI) (h := ?_)
    refine WL.y (hy := mv) (h := ?_)
    refine nl (h := ?_)
    refine rn (x := k) (k + 1) hkn (by omega) (by repeat (first | exact trivial | refine ⟨rfl, ?_⟩)) (by repeat (first | exact SubL.nil | (apply SubL.cons; (repeat (first | exact At.here | apply At.there))) | exact SubL.refl _ | apply SubL.skip))
  · skip
    have hkn : k = d.fx.length := by have := of_decide_eq_false h0; omega
    rw [hkn]
    refine et (h := ?_)
    refine q_then_exit (h := ?_)
    refine q_then_exit (h := ?_)
    refine q_blk_hit (h := ?_)
    refine q_seq (h := ?_)
    refine sq (h := ?_)
    refine rgD0 (by kernel_rfl) (h := ?_)
    refine tk 0 (hy := (by first | exact fa | exact faE)) (h := ?_)
    refine tk 1 (hy := (by first | exact ld | exact ldE)) (h := ?_)
    refine tk 2 (hy := mv) (h := ?_)
    refine tk 3 (hy := ix (A := a.sA) (m := d.st.length)) (h := ?_)
    refine tk 4 (hy := ldE (A := a.sA) (hk := st_at hG hi)) (h := ?_)
    refine tk 5 (hy := (by first | exact fa | exact faE)) (h := ?_)
    refine tk 6 (hy := (by first | exact ld | exact ldE)) (h := ?_)
    refine tk 7 (hy := mv) (h := ?_)
    refine tk 8 (hy := ix (A := a.sA) (m := d.st.length)) (h := ?_)
    refine tk 9 (hy := ldE (A := a.sA) (hk := st_at hG hi)) (h := ?_)
    refine tk 10 (hy := bd) (h := ?_)
    refine one 11 (h := ?_)
    refine al (h := fun bl => ?_)
    refine nx (h := ?_)
    refine one 12 (h := ?_)
    first | refine stA (h := ?_) | refine stEA (h := ?_)
    refine nx (h := ?_)
    refine dn (h := ?_)
    refine q_seq (h := ?_)
    refine sq (h := ?_)
    refine sq (h := ?_)
    refine rg (h := ?_)
    refine WL.y (hy := mv) (h := ?_)
    refine nl (h := ?_)
    refine q_seq (h := ?_)
    refine bk (h := ?_)
    refine lp (X := Nat) (I := fun z => z ≤ 61) (le := fun z => [(1, .int .i64 item), (2, .pointer (some ⟨b0, 0, none⟩)), (4, .pointer (some ⟨b1, 0, none⟩)), (8, .pointer (some ⟨bl, 0, none⟩)), (61, .int .i64 z)]) (Le := fun z => [.blk bl 39 [.int .i64 (lefD d item z).1, .int .i64 (lefD d item z).2], .blk b1 113 (numE 244 (wkF (needD d item) (lefT d item z))), .blk b0 49 (d.cells a), .ro a.sA 1 d.st.length (encI d.st), .ro a.fA 16 d.fx.length (d.fx.map Fx.enc), .ro a.cA 3 d.cr.length (d.cr.map Cx.enc)]) (μ := fun z => 61 - z) 0 (Nat.zero_le _) (by repeat (first | exact trivial | refine ⟨rfl, ?_⟩)) (by repeat (first | exact SubL.nil | (apply SubL.cons; (repeat (first | exact At.here | apply At.there))) | exact SubL.refl _ | apply SubL.skip)) (fun z hz => ?_)
    refine sq (h := ?_)
    refine rg (h := ?_)
    refine WL.y (hy := lss) (h := ?_)
    refine nl (h := ?_)
    refine q_seq (h := ?_)
    refine sq (h := ?_)
    refine cd (by exact rfl) (fun h1 => ?_) (fun h1 => ?_)
    · skip
      have hz61 : z < 61 := by have := of_decide_eq_true h1; omega
      have hlr := lef_rng hG item z
      have hnr := need_rng hG item z
      refine skp (h := ?_)
      refine q_seq (h := ?_)
      refine sq (h := ?_)
      refine bk (h := ?_)
      refine sq (h := ?_)
      refine rg (h := ?_)
      refine WL.y (hy := mv) (h := ?_)
      refine WL.y (hy := asg) (h := ?_)
      refine nl (h := ?_)
      refine q_seq (h := ?_)
      refine sq (h := ?_)
      refine sq (h := ?_)
      refine rg (h := ?_)
      refine WL.y (hy := (by first | exact fa | exact faE)) (h := ?_)
      refine WL.y (hy := (by first | exact ld | exact ldE)) (h := ?_)
      refine WL.y (hy := lenS) (h := ?_)
      refine WL.y (hy := mv) (h := ?_)
      refine nl (h := ?_)
      refine q_seq (h := ?_)
      refine bk (h := ?_)
      refine lp (X := Nat) (I := fun j => j ≤ d.cr.length) (le := fun j => [(1, .int .i64 item), (2, .pointer (some ⟨b0, 0, none⟩)), (4, .pointer (some ⟨b1, 0, none⟩)), (8, .pointer (some ⟨bl, 0, none⟩)), (9, .int .i64 z), (61, .int .i64 z), (65, .slice a.cA d.cr.length a.cc), (66, .int .i64 d.cr.length), (67, .int .i64 j)]) (Le := fun j => [.blk bl 39 [.int .i64 ((lefD d item z).1 + crT d item z j), .int .i64 ((lefD d item z).2 + crT d item z j)], .blk b1 113 (numE 244 (wkF (needD d item) (lefT d item z))), .blk b0 49 (d.cells a), .ro a.sA 1 d.st.length (encI d.st), .ro a.fA 16 d.fx.length (d.fx.map Fx.enc), .ro a.cA 3 d.cr.length (d.cr.map Cx.enc)]) (μ := fun j => d.cr.length - j) 0 (Nat.zero_le _) (by repeat (first | exact trivial | refine ⟨rfl, ?_⟩)) (by rw [show (lefD d item z).1 + crT d item z 0 = (lefD d item z).1 from Int.add_zero _, show (lefD d item z).2 + crT d item z 0 = (lefD d item z).2 from Int.add_zero _]; repeat (first | exact SubL.nil | (apply SubL.cons; (repeat (first | exact At.here | apply At.there))) | exact SubL.refl _ | apply SubL.skip)) (fun j hj => ?_)
      refine sq (h := ?_)
      refine rg (h := ?_)
      refine WL.y (hy := lss) (h := ?_)
      refine nl (h := ?_)
      refine q_seq (h := ?_)
      refine sq (h := ?_)
      refine cd (by exact rfl) (fun h2 => ?_) (fun h2 => ?_)
      · skip
        have hjn : j < d.cr.length := by have := of_decide_eq_true h2; omega
        obtain ⟨y, hc⟩ : ∃ y, d.cr[j]? = some y := ⟨_, List.getElem?_eq_getElem hjn⟩
        have hyr := (hG.cr y (List.mem_of_getElem? hc)).2.2
        have hcr := cr_rng hG item z j
        have hcs := crT_succ (item := item) (dd := z) hc
        refine skp (h := ?_)
        refine q_seq (h := ?_)
        refine sq (h := ?_)
        refine bk (h := ?_)
        refine sq (h := ?_)
        refine rg (h := ?_)
        refine WL.y (hy := ix (A := a.cA) (m := d.cr.length)) (h := ?_)
        refine WL.y (hy := ldEW (A := a.cA) (hk := map_at hc)) (h := ?_)
        refine al (h := fun bc => ?_)
        first | refine stA (h := ?_) | refine stEA (h := ?_)
        refine nl (h := ?_)
        refine q_seq (h := ?_)
        refine sq (h := ?_)
        refine rg (h := ?_)
        refine WL.y (hy := (by first | exact fa | exact faE)) (h := ?_)
        refine WL.y (hy := (by first | exact ld | exact ldE)) (h := ?_)
        refine WL.y (hy := mv) (h := ?_)
        refine WL.y (hy := eql) (h := ?_)
        refine WL.y (hy := mv) (h := ?_)
        apply brAnd 5 75 80 (by exact rfl)
        · intro hb3
          refine un (h := ?_)
          refine WL.y (hy := (by first | exact fa | exact faE)) (h := ?_)
          refine un (h := ?_)
          refine WL.y (hy := (by first | exact ld | exact ldE)) (h := ?_)
          refine un (h := ?_)
          refine WL.y (hy := mv) (h := ?_)
          refine un (h := ?_)
          refine WL.y (hy := eql) (h := ?_)
          refine WL.y (hy := (by first | exact pkT | exact pkF)) (h := ?_)
          exact mg (by repeat (first | exact trivial | refine ⟨rfl, ?_⟩ | refine ⟨by rw [hb3]; rfl, ?_⟩)) (by repeat (first | exact SubL.nil | (apply SubL.cons; (repeat (first | exact At.here | apply At.there))) | exact SubL.refl _ | apply SubL.skip))
        · intro hb3
          repeat (first | refine un (h := ?_) | refine sk (h := ?_) | refine WL.y (hy := pkF) (h := ?_) | refine WL.y (hy := pkT) (h := ?_))
          exact mg (by repeat (first | exact trivial | refine ⟨rfl, ?_⟩ | refine ⟨by rw [hb3]; rfl, ?_⟩)) (by repeat (first | exact SubL.nil | (apply SubL.cons; (repeat (first | exact At.here | apply At.there))) | exact SubL.refl _ | apply SubL.skip))
        refine nl (h := ?_)
        refine q_seq (h := ?_)
        refine cd (by exact rfl) (fun h4 => ?_) (fun h4 => ?_)
        · skip
          rw [h4, cond_true] at hcs
          have hc1 : (lefD d item z).1 + crT d item z (j + 1) = (lefD d item z).1 + crT d item z j + y.count := by rw [hcs]; omega
          have hc2 : (lefD d item z).2 + crT d item z (j + 1) = (lefD d item z).2 + crT d item z j + y.count := by rw [hcs]; omega
          refine sq (h := ?_)
          refine rg (h := ?_)
          refine WL.y (hy := (by first | exact fa | exact faE)) (h := ?_)
          refine WL.y (hy := (by first | exact ld | exact ldE)) (h := ?_)
          refine WL.y (hy := (by first | exact fa | exact faE)) (h := ?_)
          refine WL.y (hy := (by first | exact ld | exact ldE)) (h := ?_)
          refine WL.y (hy := addI) (h := ?_)
          refine WL.y (hy := (by first | exact fa | exact faE)) (h := ?_)
          first | refine st (h := ?_) | refine stE (h := ?_)
          refine nl (h := ?_)
          refine q_seq (h := ?_)
          refine rg (h := ?_)
          refine WL.y (hy := (by first | exact fa | exact faE)) (h := ?_)
          refine WL.y (hy := (by first | exact ld | exact ldE)) (h := ?_)
          refine WL.y (hy := (by first | exact fa | exact faE)) (h := ?_)
          refine WL.y (hy := (by first | exact ld | exact ldE)) (h := ?_)
          refine WL.y (hy := addI) (h := ?_)
          refine WL.y (hy := (by first | exact fa | exact faE)) (h := ?_)
          first | refine st (h := ?_) | refine stE (h := ?_)
          refine nl (h := ?_)
          refine q_blk_norm (h := ?_)
          refine q_seq (h := ?_)
          refine rg (h := ?_)
          refine WL.y (hy := addI) (h := ?_)
          refine WL.y (hy := mv) (h := ?_)
          refine nl (h := ?_)
          refine rn (x := j) (j + 1) hjn (by omega) (by repeat (first | exact trivial | refine ⟨rfl, ?_⟩)) (by rw [hc1, hc2]; repeat (first | exact SubL.nil | (apply SubL.cons; (repeat (first | exact At.here | apply At.there))) | exact SubL.refl _ | apply SubL.skip))
        · skip
          rw [h4, cond_false] at hcs
          have hc1 : (lefD d item z).1 + crT d item z (j + 1) = (lefD d item z).1 + crT d item z j := by rw [hcs]
          have hc2 : (lefD d item z).2 + crT d item z (j + 1) = (lefD d item z).2 + crT d item z j := by rw [hcs]
          refine skp (h := ?_)
          refine q_blk_norm (h := ?_)
          refine q_seq (h := ?_)
          refine rg (h := ?_)
          refine WL.y (hy := addI) (h := ?_)
          refine WL.y (hy := mv) (h := ?_)
          refine nl (h := ?_)
          refine rn (x := j) (j + 1) hjn (by omega) (by repeat (first | exact trivial | refine ⟨rfl, ?_⟩)) (by rw [hc1, hc2]; repeat (first | exact SubL.nil | (apply SubL.cons; (repeat (first | exact At.here | apply At.there))) | exact SubL.refl _ | apply SubL.skip))
      · skip
        have hjn : j = d.cr.length := by have := of_decide_eq_false h2; omega
        rw [hjn]
        have hcr := cr_rng hG item z d.cr.length
        refine et (h := ?_)
        refine q_then_exit (h := ?_)
        refine q_then_exit (h := ?_)
        refine q_blk_hit (h := ?_)
        refine q_seq (h := ?_)
        refine sq (h := ?_)
        refine rgD (by kernel_rfl) [(9, .blk bl 39 _), (1000000, .blk b1 113 (numE 244 (wkF (needD d item) (lefT d item z))))] (by repeat (first | exact HS.nil | (apply HS.keep; (repeat (first | exact At.here | apply At.there))) | (apply HS.ro; (repeat (first | exact Rds.ro | exact Rds.own | apply Rds.there))))) (h := ?_)
        refine tk 0 (hy := (by first | exact fa | exact faE)) (h := ?_)
        refine tk 1 (hy := (by first | exact ld | exact ldE)) (h := ?_)
        refine tk 2 (hy := mv) (h := ?_)
        refine tk 3 (hy := (by first | exact fa | exact faE)) (h := ?_)
        refine tk 4 (hy := ixA (hb := by omega)) (h := ?_)
        refine tk 5 (hy := (by first | exact fa | exact faE)) (h := ?_)
        refine tk 6 (hy := ld (hc := wk_need2 (needD d item) (lefT d item z) hz61 (by omega))) (h := ?_)
        refine tk 7 (hy := subI) (h := ?_)
        refine tk 8 (hy := (by first | exact fa | exact faE)) (h := ?_)
        refine one 9 (h := ?_)
        first | refine st (h := ?_) | refine stE (h := ?_)
        refine nx (h := ?_)
        refine dn (h := ?_)
        refine q_seq (h := ?_)
        refine sq (h := ?_)
        refine rgD (by kernel_rfl) [(9, .blk bl 39 _), (1000000, .blk b1 113 (numE 244 (wkF (needD d item) (lefT d item z))))] (by repeat (first | exact HS.nil | (apply HS.keep; (repeat (first | exact At.here | apply At.there))) | (apply HS.ro; (repeat (first | exact Rds.ro | exact Rds.own | apply Rds.there))))) (h := ?_)
        refine tk 0 (hy := (by first | exact fa | exact faE)) (h := ?_)
        refine tk 1 (hy := (by first | exact ld | exact ldE)) (h := ?_)
        refine tk 2 (hy := mv) (h := ?_)
        refine tk 3 (hy := (by first | exact fa | exact faE)) (h := ?_)
        refine tk 4 (hy := ixA (hb := by omega)) (h := ?_)
        refine tk 5 (hy := (by first | exact fa | exact faE)) (h := ?_)
        refine tk 6 (hy := ld (hc := wk_need1 (needD d item) (lefT d item z) hz61 (by omega))) (h := ?_)
        refine tk 7 (hy := subI) (h := ?_)
        refine tk 8 (hy := (by first | exact fa | exact faE)) (h := ?_)
        refine one 9 (h := ?_)
        first | refine st (h := ?_) | refine stE (h := ?_)
        refine nx (h := ?_)
        refine dn (h := ?_)
        refine q_seq (h := ?_)
        refine rg (h := ?_)
        refine WL.y (hy := mv) (h := ?_)
        refine WL.y (hy := (by first | exact ldA | exact ldEA)) (h := ?_)
        refine WL.y (hy := (by first | exact fa | exact faE)) (h := ?_)
        refine WL.y (hy := ixA) (h := ?_)
        refine stP (vs := [.int .i64 (lefD d item (z + 1)).1, .int .i64 (lefD d item (z + 1)).2]) (h1 := fun v hv => by simp only [List.mem_cons, List.not_mem_nil, or_false] at hv; rcases hv with rfl | rfl <;> rfl) (hsz := rfl) (ho := by rw [numE_len]; simp only [List.length_cons, List.length_nil]; omega) (h := ?_)
        rw [wk_left (k := z) _ _ hz61 (by omega) (lefD d item (z + 1)), lefT_succ]
        refine nl (h := ?_)
        refine q_blk_norm (h := ?_)
        refine q_seq (h := ?_)
        refine rg (h := ?_)
        refine WL.y (hy := addI) (h := ?_)
        refine WL.y (hy := mv) (h := ?_)
        refine nl (h := ?_)
        refine rn (x := z) (z + 1) hz61 (by omega) (by repeat (first | exact trivial | refine ⟨rfl, ?_⟩)) (by repeat (first | exact SubL.nil | (apply SubL.cons; (repeat (first | exact At.here | apply At.there))) | exact SubL.refl _ | apply SubL.skip))
    · skip
      have hz61 : z = 61 := by have := of_decide_eq_false h1; omega
      rw [hz61, wk_congr (N := needD d item) (L := lefT d item 61) (N' := needD d item) (L' := fun j => lefD d item (j + 1)) (fun _ _ => rfl) (fun j hj => if_pos hj)]
      refine et (h := ?_)
      refine q_then_exit (h := ?_)
      refine q_then_exit (h := ?_)
      refine q_blk_hit (h := ?_)
      refine q_seq (h := ?_)
      refine sq (h := ?_)
      refine rg (h := ?_)
      refine WL.y (hy := ldW (hl := numE_len _ _)) (h := ?_)
      refine stW (h1 := numE_one) (hsz := numE_len _ _) (ho := rfl) (h := ?_)
      refine nl (h := ?_)
      refine q_seq (h := ?_)
      refine rtn (h := ?_)
      refine q_ret (h := (Res.cellA inferInstance (by exact rfl) (by repeat (first | exact At.here | apply At.there)) (tk_num 244 _) Res.nil)) (hR := ?_)
      exact fun w hS => ⟨rfl, hS.sub (by repeat (first | exact SubL.nil | (apply SubL.cons; (repeat (first | exact At.here | apply At.there))) | exact SubL.refl _ | apply SubL.skip))⟩
end Go.Proofs.Ytacaojifempclaa

namespace Go.Proofs.Ytacaojifempclaa
open Go Go.RowKit

def askE (d : Dp) (item day : Int) : Int := bif !decide (depE d = 0) then depE d else bif !wi item 0 2 || !wi day 0 60 then 1 else 0
def askW (d : Dp) (item day : Int) : List Value := bif decide (askE d item day = 0) then wkC d item else numE 244 fun _ => 0
theorem askW_len (d : Dp) (item day : Int) : (askW d item day).length = 244 := by
  unfold askW; cases decide (askE d item day = 0)
  · exact numE_len _ _
  · exact numE_len _ _
theorem askW_one (d : Dp) (item day : Int) : ∀ v ∈ askW d item day, v.oneCell' = true := by
  unfold askW; cases decide (askE d item day = 0)
  · exact numE_one
  · exact numE_one
theorem ask_ok {d : Dp} {item day : Int} (h : askE d item day = 0) : DepG d ∧ (0 ≤ item ∧ item ≤ 2) ∧ 0 ≤ day ∧ day ≤ 60 := by
  unfold askE at h
  cases h1 : !decide (depE d = 0)
  · rw [h1, cond_false] at h
    cases h2 : !wi item 0 2 || !wi day 0 60
    · rw [Bool.or_eq_false_iff, Bool.not_eq_false', Bool.not_eq_false'] at h2
      exact ⟨dep_good (dep_ok (by simpa using h1)), wi_iff.1 h2.1, wi_iff.1 h2.2⟩
    · rw [h2] at h; cases h
  · rw [h1, cond_true] at h
    rw [h] at h1; cases h1
theorem askW_ok {d : Dp} {item day : Int} (h : askE d item day = 0) : askW d item day = wkC d item := by rw [askW, decide_eq_true h]; rfl
set_option maxRecDepth 100000 in
theorem C_balls_ask (d : Dp) (a : DA) (item day : Int) (w : World) (h : DpR w d a) : C0 Try.prog 62 [d.val a, .int .i64 item, .int .i64 day] w (.tuple #[.agg (askW d item day).toArray, .int .i64 (askE d item day)]) := by
  refine ⟨en Try.func62 Try.ntmps62 ((St.init w).share (e := .ro a.sA 1 d.st.length (encI d.st)) h.s rfl rfl rfl) (h := fun F => ?_)⟩
  refine sq (h := ?_)
  refine rg (h := ?_)
  refine bxA (h := fun b0 => ?_)
  refine al (h := fun b1 => ?_)
  refine WL.blkTo (numE 244 fun _ => 0) .here (by rfl) ?_
  refine WL.y (hy := asg) (h := ?_)
  refine nl (h := ?_)
  refine q_seq (h := ?_)
  refine sq (h := ?_)
  refine sq (h := ?_)
  refine rg (h := ?_)
  refine WL.y (hy := (by first | exact ldA | exact ldEA)) (h := ?_)
  refine cl0 (hc := fun w hS => C_balls_Check d a w (h.old hS)) (h := ?_)
  refine WL.y (hy := asg) (h := ?_)
  refine nl (h := ?_)
  refine q_seq (h := ?_)
  refine sq (h := ?_)
  refine rg (h := ?_)
  refine WL.y (hy := mv) (h := ?_)
  refine WL.y (hy := neq) (h := ?_)
  refine nl (h := ?_)
  refine q_seq (h := ?_)
  refine cd (by exact rfl) (fun h0 => ?_) (fun h0 => ?_)
  · skip
    have hE : askE d item day = depE d := by rw [askE, h0]; rfl
    have hW : askW d item day = numE 244 fun _ => 0 := by rw [askW, hE, show decide (depE d = 0) = false by simpa using h0]; rfl
    refine sq (h := ?_)
    refine rg (h := ?_)
    refine WL.y (hy := Yd.to (v' := .agg (numE 244 fun _ => 0).toArray) bd (by rfl)) (h := ?_)
    refine WL.y (hy := mv) (h := ?_)
    refine stW (h1 := numE_one) (hsz := numE_len _ _) (ho := rfl) (h := ?_)
    refine WL.y (hy := asg) (h := ?_)
    refine nl (h := ?_)
    refine q_seq (h := ?_)
    refine rtn (h := ?_)
    refine q_then_ret (h := ?_)
    refine q_ret (h := (Res.cellA inferInstance (by exact rfl) (by repeat (first | exact At.here | apply At.there)) (tk_num 244 _) (Res.tmp (by exact rfl) Res.nil))) (hR := ?_)
    rw [hE, hW]
    exact fun w hS => ⟨rfl, hS.sub (by repeat (first | exact SubL.nil | (apply SubL.cons; (repeat (first | exact At.here | apply At.there))) | exact SubL.refl _ | apply SubL.skip))⟩
  · skip
    have hd := h0
    refine skp (h := ?_)
    refine q_seq (h := ?_)
    refine sq (h := ?_)
    refine sq (h := ?_)
    refine rg (h := ?_)
    refine WL.y (hy := mv) (h := ?_)
    refine cl0 (hc := fun w hS => C_balls_within _ _ _ w) (h := ?_)
    refine WL.y (hy := notB) (h := ?_)
    refine WL.y (hy := mv) (h := ?_)
    apply brOr 4 18 22 (by exact rfl)
    · intro hb1
      refine un (h := ?_)
      refine WL.y (hy := mv) (h := ?_)
      refine un (h := ?_)
      refine cl0 (hc := fun w hS => C_balls_within _ _ _ w) (h := ?_)
      refine un (h := ?_)
      refine WL.y (hy := notB) (h := ?_)
      refine WL.y (hy := (by first | exact pkT | exact pkF)) (h := ?_)
      exact mg (by repeat (first | exact trivial | refine ⟨rfl, ?_⟩ | refine ⟨by rw [hb1]; rfl, ?_⟩)) (by repeat (first | exact SubL.nil | (apply SubL.cons; (repeat (first | exact At.here | apply At.there))) | exact SubL.refl _ | apply SubL.skip))
    · intro hb1
      repeat (first | refine un (h := ?_) | refine sk (h := ?_) | refine WL.y (hy := pkF) (h := ?_) | refine WL.y (hy := pkT) (h := ?_))
      exact mg (by repeat (first | exact trivial | refine ⟨rfl, ?_⟩ | refine ⟨by rw [hb1]; rfl, ?_⟩)) (by repeat (first | exact SubL.nil | (apply SubL.cons; (repeat (first | exact At.here | apply At.there))) | exact SubL.refl _ | apply SubL.skip))
    refine nl (h := ?_)
    refine q_seq (h := ?_)
    refine cd (by exact rfl) (fun h2 => ?_) (fun h2 => ?_)
    · skip
      have hE : askE d item day = 1 := by rw [askE, hd, h2]; rfl
      have hW : askW d item day = numE 244 fun _ => 0 := by rw [askW, hE]; rfl
      refine sq (h := ?_)
      refine rg (h := ?_)
      refine WL.y (hy := Yd.to (v' := .agg (numE 244 fun _ => 0).toArray) bd (by rfl)) (h := ?_)
      refine stW (h1 := numE_one) (hsz := numE_len _ _) (ho := rfl) (h := ?_)
      refine WL.y (hy := asg) (h := ?_)
      refine nl (h := ?_)
      refine q_seq (h := ?_)
      refine rtn (h := ?_)
      refine q_then_ret (h := ?_)
      refine q_ret (h := (Res.cellA inferInstance (by exact rfl) (by repeat (first | exact At.here | apply At.there)) (tk_num 244 _) (Res.tmp (by exact rfl) Res.nil))) (hR := ?_)
      rw [hE, hW]
      exact fun w hS => ⟨rfl, hS.sub (by repeat (first | exact SubL.nil | (apply SubL.cons; (repeat (first | exact At.here | apply At.there))) | exact SubL.refl _ | apply SubL.skip))⟩
    · skip
      have hE : askE d item day = 0 := by rw [askE, hd, h2]; rfl
      have hG := ask_ok hE
      have hW := askW_ok hE
      refine skp (h := ?_)
      refine q_seq (h := ?_)
      refine sq (h := ?_)
      refine rg (h := ?_)
      refine WL.y (hy := (by first | exact ldA | exact ldEA)) (h := ?_)
      refine WL.y (hy := mv) (h := ?_)
      refine cl0 (hc := fun w hS => C_balls_run d a item hG.1 hG.2.1 w (h.old hS)) (h := ?_)
      refine stW (cs := numE 244 fun _ => 0) (h1 := numE_one) (hsz := numE_len _ _) (ho := by rw [numE_len, numE_len]) (h := ?_)
      refine WL.y (hy := asg) (h := ?_)
      refine nl (h := ?_)
      refine q_seq (h := ?_)
      refine rtn (h := ?_)
      refine q_ret (h := (Res.cellA inferInstance (by exact rfl) (by repeat (first | exact At.here | apply At.there)) (tk_num 244 _) (Res.tmp (by exact rfl) Res.nil))) (hR := ?_)
      rw [hE, hW]
      exact fun w hS => ⟨rfl, hS.sub (by repeat (first | exact SubL.nil | (apply SubL.cons; (repeat (first | exact At.here | apply At.there))) | exact SubL.refl _ | apply SubL.skip))⟩
def spanE (L : Nat → Pr) (n : Nat) : List (List Value) := (List.range n).map fun k => [.int .i64 (L k).1, .int .i64 (L k).2]
theorem spanE_at (L : Nat → Pr) {n k : Nat} (h : k < n) : (spanE L n)[k]? = some [.int .i64 (L k).1, .int .i64 (L k).2] := by rw [spanE, List.getElem?_map, List.getElem?_range h]; rfl
theorem spanE_len (L : Nat → Pr) (n : Nat) : (spanE L n).length = n := by rw [spanE, List.length_map, List.length_range]
theorem rd_week {b T : Nat} {N L : Nat → Pr} {k n o : Nat} (hn : k + n = 61) (ho : o = 122 + k * 2) (w : World) (h : (Ent.blk b T (numE 244 (wkF N L))).ok w) : Rd w (some ⟨b, o, none⟩) 2 n (spanE (fun j => L (k + j)) n) := by
  have hmem : ∀ c ∈ spanE (fun j => L (k + j)) n, ∃ j, c = [.int .i64 (L (k + j)).1, .int .i64 (L (k + j)).2] := fun c hc => by
    obtain ⟨j, _, rfl⟩ := List.mem_map.1 hc
    exact ⟨j, rfl⟩
  refine rd_blkA h (spanE_len _ _) (fun c hc => by obtain ⟨j, rfl⟩ := hmem c hc; rfl) (fun c hc v hv => by
    obtain ⟨j, rfl⟩ := hmem c hc
    simp only [List.mem_cons, List.not_mem_nil, or_false] at hv
    rcases hv with rfl | rfl <;> rfl) fun j c hj i v hv => ?_
  have hjn : j < n := by
    have := (List.getElem?_eq_some_iff.1 hj).1
    rwa [spanE_len] at this
  rw [spanE_at _ hjn] at hj
  cases hj
  rcases i with _ | _ | i
  · cases hv
    exact wk_left1 N L (k := k + j) (by omega) (by omega)
  · cases hv
    exact wk_left2 N L (k := k + j) (by omega) (by omega)
  · simp at hv
theorem T_IndexSpan {E : Ent} {A : Option Addr} {n c : Nat} {es : List (List Value)} (hE : ∀ w, E.ok w → Rd w A 2 n es) {g : FuncId} (hg : FnOk Try.prog g) (fi cap : List Value) (Lp : List Ent) (p : Nat → Bool) (hn : n ≤ 9223372036854775807) (hlen : es.length = n)
    (hp : ∀ k cs, es[k]? = some cs → Tr Try.prog g (fi ++ [.agg cs.toArray] ++ cap) Lp (fun _ : Unit => True) (fun _ => .bool (p k)) (fun _ => Lp)) :
    Tr Try.prog 63 [.slice A n c, .func (.func g) fi.toArray cap.toArray] (E :: Lp) (Fst p n) (fun j => .int .i64 j) (fun _ => E :: Lp) := by
  refine ⟨fun w0 w R hst => ?_⟩
  refine en Try.func63 Try.ntmps63 hst (h := fun F => ?_)
  refine sq (h := ?_)
  refine rg (h := ?_)
  refine WL.y (hy := asg) (h := ?_)
  refine nl (h := ?_)
  refine q_seq (h := ?_)
  refine sq (h := ?_)
  refine sq (h := ?_)
  refine rg (h := ?_)
  refine WL.y (hy := mv) (h := ?_)
  refine WL.y (hy := lenS) (h := ?_)
  refine WL.y (hy := mv) (h := ?_)
  refine nl (h := ?_)
  refine q_seq (h := ?_)
  refine bk (h := ?_)
  refine lp (X := Nat) (I := fun k => k ≤ n ∧ ∀ i, i < k → p i = false) (le := fun k => [(0, .slice A n c), (1, .func (.func g) fi.toArray cap.toArray), (7, .int .i64 n), (8, .int .i64 k)]) (Le := fun _ => E :: (Lp ++ R)) (μ := fun k => n - k) 0 ⟨by omega, fun i hi => by omega⟩ (by repeat (first | exact trivial | refine ⟨rfl, ?_⟩)) (SubL.refl _) (fun k hk => ?_)
  obtain ⟨hk, hall⟩ := hk
  refine sq (h := ?_)
  refine rg (h := ?_)
  refine WL.y (hy := lss) (h := ?_)
  refine nl (h := ?_)
  refine q_seq (h := ?_)
  refine sq (h := ?_)
  refine cd (by exact rfl) (fun h0 => ?_) (fun h0 => ?_)
  · skip
    have hkn : k < n := by simp only [decide_eq_true_eq] at h0; omega
    have hes : es[k]? = some es[k] := List.getElem?_eq_getElem (by omega)
    refine skp (h := ?_)
    refine q_seq (h := ?_)
    refine sq (h := ?_)
    refine bk (h := ?_)
    refine sq (h := ?_)
    refine rg (h := ?_)
    refine WL.y (hy := mv) (h := ?_)
    refine WL.y (hy := asg) (h := ?_)
    refine nl (h := ?_)
    refine q_seq (h := ?_)
    refine sq (h := ?_)
    refine rg (h := ?_)
    refine WL.y (hy := mv) (h := ?_)
    refine WL.y (hy := mv) (h := ?_)
    refine WL.y (hy := mv) (h := ?_)
    refine WL.y (hy := ix (A := A) (m := n) (hr := Rds.any hE)) (h := ?_)
    refine WL.y (hy := ldEW (A := A) (k := k) (cs := es[k]) (hr := Rds.any hE) (hk := hes)) (h := ?_)
    refine clfT hg (fi := fi) (cap := cap) (by exact rfl) (by repeat (first | exact Evs.nil | (apply Evs.cons; exact rfl))) (hp k _ hes) rfl (Spl.thr (Spl.app _ _)) (h := fun _ _ => ?_)
    refine WL.subL (SubL.cons (At.app _ _) (SubL.refl _)) ?_
    refine nl (h := ?_)
    refine q_seq (h := ?_)
    refine cd (by exact rfl) (fun h1 => ?_) (fun h1 => ?_)
    · skip
      refine sq (h := ?_)
      refine rg (h := ?_)
      refine WL.y (hy := mv) (h := ?_)
      refine WL.y (hy := asg) (h := ?_)
      refine nl (h := ?_)
      refine q_seq (h := ?_)
      refine rtn (h := ?_)
      refine q_blk_ret (h := ?_)
      refine q_then_ret (h := ?_)
      refine q_then_ret (h := ?_)
      refine q_blk_ret (h := ?_)
      refine q_then_ret (h := ?_)
      refine q_ret (hR := ?_)
      exact fun w hS => ⟨_, .inl ⟨k, hkn, rfl, by assumption, hall⟩, rfl, hS⟩
    · skip
      refine skp (h := ?_)
      refine q_blk_norm (h := ?_)
      refine q_seq (h := ?_)
      refine rg (h := ?_)
      refine WL.y (hy := addI) (h := ?_)
      refine WL.y (hy := mv) (h := ?_)
      refine nl (h := ?_)
      refine rn (k + 1) ⟨by omega, fun i hi => ?_⟩ (by omega) (by repeat (first | exact trivial | refine ⟨rfl, ?_⟩)) (SubL.refl _)
      rcases Nat.lt_succ_iff_lt_or_eq.1 hi with h | rfl
      · exact hall i h
      · assumption
  · skip
    have hkn : k = n := by simp only [decide_eq_false_iff_not] at h0; omega
    refine et (h := ?_)
    refine q_then_exit (h := ?_)
    refine q_then_exit (h := ?_)
    refine q_blk_hit (h := ?_)
    refine q_seq (h := ?_)
    refine sq (h := ?_)
    refine rg (h := ?_)
    refine WL.y (hy := asg) (h := ?_)
    refine nl (h := ?_)
    refine q_seq (h := ?_)
    refine rtn (h := ?_)
    refine q_ret (hR := ?_)
    exact fun w hS => ⟨_, .inr ⟨rfl, by subst hkn; exact hall⟩, rfl, hS⟩
def fstV (p : Nat → Bool) (n : Nat) : Int := match (List.range n).find? p with
  | some k => k
  | none => -1
theorem fst_eq {p : Nat → Bool} {n : Nat} {j : Int} (h : Fst p n j) : j = fstV p n := by
  unfold fstV
  rcases h with ⟨k, hk, rfl, hp, hall⟩ | ⟨rfl, hall⟩
  · have : (List.range n).find? p = some k := List.find?_range_eq_some.2 ⟨hp, List.mem_range.2 hk, fun i hi => by rw [hall i hi]; rfl⟩
    rw [this]
  · have : (List.range n).find? p = none := List.find?_range_eq_none.2 fun i hi => by rw [hall i hi]; rfl
    rw [this]
theorem C_Short1 (s : Pr) (w : World) : C0 Try.prog 64 [pv s] w (.bool (decide (s.1 < 0))) := by
  refine ⟨en Try.func64 Try.ntmps64 (St.init w) (h := fun F => ?_)⟩
  refine sq (h := ?_)
  refine rg (h := ?_)
  refine bxA (h := fun b0 => ?_)
  refine WL.y (hy := asg) (h := ?_)
  refine nl (h := ?_)
  refine q_seq (h := ?_)
  refine sq (h := ?_)
  refine rg (h := ?_)
  refine WL.y (hy := (by first | exact fa | exact faE)) (h := ?_)
  refine WL.y (hy := (by first | exact ld | exact ldE)) (h := ?_)
  refine WL.y (hy := lss) (h := ?_)
  refine WL.y (hy := asg) (h := ?_)
  refine nl (h := ?_)
  refine q_seq (h := ?_)
  refine rtn (h := ?_)
  refine q_ret (hR := ?_)
  exact fun w hS => ⟨rfl, hS.sub (by repeat (first | exact SubL.nil | (apply SubL.cons; (repeat (first | exact At.here | apply At.there))) | exact SubL.refl _ | apply SubL.skip))⟩
theorem C_Short2 (s : Pr) (w : World) : C0 Try.prog 65 [pv s] w (.bool (decide (s.2 < 0))) := by
  refine ⟨en Try.func65 Try.ntmps65 (St.init w) (h := fun F => ?_)⟩
  refine sq (h := ?_)
  refine rg (h := ?_)
  refine bxA (h := fun b0 => ?_)
  refine WL.y (hy := asg) (h := ?_)
  refine nl (h := ?_)
  refine q_seq (h := ?_)
  refine sq (h := ?_)
  refine rg (h := ?_)
  refine WL.y (hy := (by first | exact fa | exact faE)) (h := ?_)
  refine WL.y (hy := (by first | exact ld | exact ldE)) (h := ?_)
  refine WL.y (hy := lss) (h := ?_)
  refine WL.y (hy := asg) (h := ?_)
  refine nl (h := ?_)
  refine q_seq (h := ?_)
  refine rtn (h := ?_)
  refine q_ret (hR := ?_)
  exact fun w hS => ⟨rfl, hS.sub (by repeat (first | exact SubL.nil | (apply SubL.cons; (repeat (first | exact At.here | apply At.there))) | exact SubL.refl _ | apply SubL.skip))⟩
def needR (d : Dp) (item day : Int) : List Value := bif decide (askE d item day = 0) then [pv (needD d item day.toNat), .int .i64 0] else [pv (0, 0), .int .i64 (askE d item day)]
def leftR (d : Dp) (item day : Int) : List Value := bif decide (askE d item day = 0) then [pv (lefD d item (day.toNat + 1)), .int .i64 0] else [pv (0, 0), .int .i64 (askE d item day)]
def mayV (d : Dp) (item : Int) : Int := fstV (fun k => decide ((lefD d item (k + 1)).1 < 0)) 61
def sureV (d : Dp) (item : Int) : Int := fstV (fun k => decide ((lefD d item (k + 1)).2 < 0)) 61
def shortR (d : Dp) (item : Int) : List Value := bif decide (askE d item 0 = 0) then [.int .i64 (mayV d item), .int .i64 (sureV d item), .int .i64 0] else [.int .i64 0, .int .i64 0, .int .i64 (askE d item 0)]
def ordT (d : Dp) (item : Int) (day : Nat) : Nat → Int
  | 0 => 0
  | k + 1 => max (ordT d item day k) (-(lefD d item (day + k + 1)).1)
def ordV (d : Dp) (item : Int) (day : Nat) : Int := ordT d item day (61 - day)
def ordR (d : Dp) (item day : Int) : List Value := bif decide (askE d item day = 0) then [.int .i64 (ordV d item day.toNat), .int .i64 0] else [.int .i64 0, .int .i64 (askE d item day)]
set_option maxRecDepth 100000 in
theorem C_balls_Need (d : Dp) (a : DA) (item day : Int) (w : World) (h : DpR w d a) : C0 Try.prog 24 [d.val a, .int .i64 item, .int .i64 day] w (.tuple (needR d item day).toArray) := by
  refine ⟨en Try.func24 Try.ntmps24 ((St.init w).share (e := .ro a.sA 1 d.st.length (encI d.st)) h.s rfl rfl rfl) (h := fun F => ?_)⟩
  refine sq (h := ?_)
  refine rg (h := ?_)
  refine bxA (h := fun b0 => ?_)
  refine al (h := fun b1 => ?_)
  refine WL.y (hy := asg) (h := ?_)
  refine nl (h := ?_)
  refine q_seq (h := ?_)
  refine sq (h := ?_)
  refine rg (h := ?_)
  refine WL.y (hy := (by first | exact ldA | exact ldEA)) (h := ?_)
  refine WL.y (hy := mv) (h := ?_)
  refine WL.y (hy := mv) (h := ?_)
  refine cl0 (hc := fun w hS => C_balls_ask d a item day w (h.old hS)) (h := ?_)
  refine WL.y (hy := mv) (h := ?_)
  refine WL.y (hy := ex) (h := ?_)
  refine WL.y (hy := ex) (h := ?_)
  refine al (h := fun b1 => ?_)
  refine WL.blkTo (numE 244 fun _ => 0) .here (by rfl) ?_
  refine stW (h1 := askW_one _ _ _) (hsz := askW_len _ _ _) (ho := by rw [askW_len, numE_len]) (h := ?_)
  refine WL.y (hy := asg) (h := ?_)
  refine nl (h := ?_)
  refine q_seq (h := ?_)
  refine sq (h := ?_)
  refine sq (h := ?_)
  refine rg (h := ?_)
  refine WL.y (hy := mv) (h := ?_)
  refine WL.y (hy := neq) (h := ?_)
  refine nl (h := ?_)
  refine q_seq (h := ?_)
  refine cd (by exact rfl) (fun h0 => ?_) (fun h0 => ?_)
  · skip
    have hE : needR d item day = [pv (0, 0), .int .i64 (askE d item day)] := by rw [needR, show decide (askE d item day = 0) = false by simpa using h0]; rfl
    refine sq (h := ?_)
    refine rg (h := ?_)
    refine WL.y (hy := bd) (h := ?_)
    refine WL.y (hy := mv) (h := ?_)
    first | refine stA (h := ?_) | refine stEA (h := ?_)
    refine WL.y (hy := asg) (h := ?_)
    refine nl (h := ?_)
    refine q_seq (h := ?_)
    refine rtn (h := ?_)
    refine q_then_ret (h := ?_)
    refine q_ret (hR := ?_)
    rw [hE]
    exact fun w hS => ⟨rfl, hS.sub (by repeat (first | exact SubL.nil | (apply SubL.cons; (repeat (first | exact At.here | apply At.there))) | exact SubL.refl _ | apply SubL.skip))⟩
  · skip
    have hE0 : askE d item day = 0 := by simpa using h0
    have hE : needR d item day = [pv (needD d item day.toNat), .int .i64 0] := by rw [needR, decide_eq_true hE0]; rfl
    obtain ⟨hG, hi, hd⟩ := ask_ok hE0
    rw [askW_ok hE0]
    refine skp (h := ?_)
    refine q_seq (h := ?_)
    refine sq (h := ?_)
    refine rg (h := ?_)
    refine WL.y (hy := mv) (h := ?_)
    refine WL.y (hy := (by first | exact fa | exact faE)) (h := ?_)
    refine WL.y (hy := ixA (hb := by omega)) (h := ?_)
    refine WL.y (hy := ldP (vs := [.int .i64 (needD d item day.toNat).1, .int .i64 (needD d item day.toNat).2]) (hc := fun j v hj => by
      rcases j with _ | _ | j
      · cases hj; exact wk_need1 _ _ (k := day.toNat) (by omega) (by omega)
      · cases hj; exact wk_need2 _ _ (k := day.toNat) (by omega) (by omega)
      · simp at hj)) (h := ?_)
    first | refine stA (h := ?_) | refine stEA (h := ?_)
    refine WL.y (hy := asg) (h := ?_)
    refine nl (h := ?_)
    refine q_seq (h := ?_)
    refine rtn (h := ?_)
    refine q_ret (hR := ?_)
    rw [hE]
    exact fun w hS => ⟨rfl, hS.sub (by repeat (first | exact SubL.nil | (apply SubL.cons; (repeat (first | exact At.here | apply At.there))) | exact SubL.refl _ | apply SubL.skip))⟩
set_option maxRecDepth 100000 in
theorem C_balls_Left (d : Dp) (a : DA) (item day : Int) (w : World) (h : DpR w d a) : C0 Try.prog 22 [d.val a, .int .i64 item, .int .i64 day] w (.tuple (leftR d item day).toArray) := by
  refine ⟨en Try.func22 Try.ntmps22 ((St.init w).share (e := .ro a.sA 1 d.st.length (encI d.st)) h.s rfl rfl rfl) (h := fun F => ?_)⟩
  refine sq (h := ?_)
  refine rg (h := ?_)
  refine bxA (h := fun b0 => ?_)
  refine al (h := fun b1 => ?_)
  refine WL.y (hy := asg) (h := ?_)
  refine nl (h := ?_)
  refine q_seq (h := ?_)
  refine sq (h := ?_)
  refine rg (h := ?_)
  refine WL.y (hy := (by first | exact ldA | exact ldEA)) (h := ?_)
  refine WL.y (hy := mv) (h := ?_)
  refine WL.y (hy := mv) (h := ?_)
  refine cl0 (hc := fun w hS => C_balls_ask d a item day w (h.old hS)) (h := ?_)
  refine WL.y (hy := mv) (h := ?_)
  refine WL.y (hy := ex) (h := ?_)
  refine WL.y (hy := ex) (h := ?_)
  refine al (h := fun b1 => ?_)
  refine WL.blkTo (numE 244 fun _ => 0) .here (by rfl) ?_
  refine stW (h1 := askW_one _ _ _) (hsz := askW_len _ _ _) (ho := by rw [askW_len, numE_len]) (h := ?_)
  refine WL.y (hy := asg) (h := ?_)
  refine nl (h := ?_)
  refine q_seq (h := ?_)
  refine sq (h := ?_)
  refine sq (h := ?_)
  refine rg (h := ?_)
  refine WL.y (hy := mv) (h := ?_)
  refine WL.y (hy := neq) (h := ?_)
  refine nl (h := ?_)
  refine q_seq (h := ?_)
  refine cd (by exact rfl) (fun h0 => ?_) (fun h0 => ?_)
  · skip
    have hE : leftR d item day = [pv (0, 0), .int .i64 (askE d item day)] := by rw [leftR, show decide (askE d item day = 0) = false by simpa using h0]; rfl
    refine sq (h := ?_)
    refine rg (h := ?_)
    refine WL.y (hy := bd) (h := ?_)
    refine WL.y (hy := mv) (h := ?_)
    first | refine stA (h := ?_) | refine stEA (h := ?_)
    refine WL.y (hy := asg) (h := ?_)
    refine nl (h := ?_)
    refine q_seq (h := ?_)
    refine rtn (h := ?_)
    refine q_then_ret (h := ?_)
    refine q_ret (hR := ?_)
    rw [hE]
    exact fun w hS => ⟨rfl, hS.sub (by repeat (first | exact SubL.nil | (apply SubL.cons; (repeat (first | exact At.here | apply At.there))) | exact SubL.refl _ | apply SubL.skip))⟩
  · skip
    have hE0 : askE d item day = 0 := by simpa using h0
    have hE : leftR d item day = [pv (lefD d item (day.toNat + 1)), .int .i64 0] := by rw [leftR, decide_eq_true hE0]; rfl
    obtain ⟨hG, hi, hd⟩ := ask_ok hE0
    rw [askW_ok hE0]
    refine skp (h := ?_)
    refine q_seq (h := ?_)
    refine sq (h := ?_)
    refine rg (h := ?_)
    refine WL.y (hy := mv) (h := ?_)
    refine WL.y (hy := (by first | exact fa | exact faE)) (h := ?_)
    refine WL.y (hy := ixA (hb := by omega)) (h := ?_)
    refine WL.y (hy := ldP (vs := [.int .i64 (lefD d item (day.toNat + 1)).1, .int .i64 (lefD d item (day.toNat + 1)).2]) (hc := fun j v hj => by
      rcases j with _ | _ | j
      · cases hj; exact wk_left1 _ _ (k := day.toNat) (by omega) (by omega)
      · cases hj; exact wk_left2 _ _ (k := day.toNat) (by omega) (by omega)
      · simp at hj)) (h := ?_)
    first | refine stA (h := ?_) | refine stEA (h := ?_)
    refine WL.y (hy := asg) (h := ?_)
    refine nl (h := ?_)
    refine q_seq (h := ?_)
    refine rtn (h := ?_)
    refine q_ret (hR := ?_)
    rw [hE]
    exact fun w hS => ⟨rfl, hS.sub (by repeat (first | exact SubL.nil | (apply SubL.cons; (repeat (first | exact At.here | apply At.there))) | exact SubL.refl _ | apply SubL.skip))⟩
set_option maxRecDepth 100000 in
theorem C_balls_Short (d : Dp) (a : DA) (item : Int) (w : World) (h : DpR w d a) : C0 Try.prog 26 [d.val a, .int .i64 item] w (.tuple (shortR d item).toArray) := by
  refine ⟨en Try.func26 Try.ntmps26 ((St.init w).share (e := .ro a.sA 1 d.st.length (encI d.st)) h.s rfl rfl rfl) (h := fun F => ?_)⟩
  refine sq (h := ?_)
  refine rg (h := ?_)
  refine bxA (h := fun b0 => ?_)
  refine WL.y (hy := asg) (h := ?_)
  refine WL.y (hy := asg) (h := ?_)
  refine WL.y (hy := asg) (h := ?_)
  refine nl (h := ?_)
  refine q_seq (h := ?_)
  refine sq (h := ?_)
  refine rg (h := ?_)
  refine WL.y (hy := (by first | exact ldA | exact ldEA)) (h := ?_)
  refine WL.y (hy := mv) (h := ?_)
  refine cl0 (hc := fun w hS => C_balls_ask d a item 0 w (h.old hS)) (h := ?_)
  refine WL.y (hy := mv) (h := ?_)
  refine WL.y (hy := ex) (h := ?_)
  refine WL.y (hy := ex) (h := ?_)
  refine al (h := fun b1 => ?_)
  refine WL.blkTo (numE 244 fun _ => 0) .here (by rfl) ?_
  refine stW (h1 := askW_one _ _ _) (hsz := askW_len _ _ _) (ho := by rw [askW_len, numE_len]) (h := ?_)
  refine WL.y (hy := asg) (h := ?_)
  refine nl (h := ?_)
  refine q_seq (h := ?_)
  refine sq (h := ?_)
  refine sq (h := ?_)
  refine rg (h := ?_)
  refine WL.y (hy := mv) (h := ?_)
  refine WL.y (hy := neq) (h := ?_)
  refine nl (h := ?_)
  refine q_seq (h := ?_)
  refine cd (by exact rfl) (fun h0 => ?_) (fun h0 => ?_)
  · skip
    have hE : shortR d item = [.int .i64 0, .int .i64 0, .int .i64 (askE d item 0)] := by rw [shortR, show decide (askE d item 0 = 0) = false by simpa using h0]; rfl
    refine sq (h := ?_)
    refine rg (h := ?_)
    refine WL.y (hy := mv) (h := ?_)
    refine WL.y (hy := asg) (h := ?_)
    refine WL.y (hy := asg) (h := ?_)
    refine WL.y (hy := asg) (h := ?_)
    refine nl (h := ?_)
    refine q_seq (h := ?_)
    refine rtn (h := ?_)
    refine q_then_ret (h := ?_)
    refine q_ret (hR := ?_)
    rw [hE]
    exact fun w hS => ⟨rfl, hS.sub (by repeat (first | exact SubL.nil | (apply SubL.cons; (repeat (first | exact At.here | apply At.there))) | exact SubL.refl _ | apply SubL.skip))⟩
  · skip
    have hE0 : askE d item 0 = 0 := by simpa using h0
    have hE : shortR d item = [.int .i64 (mayV d item), .int .i64 (sureV d item), .int .i64 0] := by rw [shortR, decide_eq_true hE0]; rfl
    rw [askW_ok hE0]
    refine skp (h := ?_)
    refine q_seq (h := ?_)
    refine sq (h := ?_)
    refine rg (h := ?_)
    refine WL.y (hy := (by first | exact fa | exact faE)) (h := ?_)
    refine WL.y (hy := slA (b := b1) (lo' := 0) (hl := .inl ⟨rfl, rfl⟩) (hne := by omega)) (h := ?_)
    refine WL.y (hy := asg) (h := ?_)
    refine nl (h := ?_)
    refine q_seq (h := ?_)
    refine sq (h := ?_)
    refine rg (h := ?_)
    refine WL.y (hy := mv) (h := ?_)
    refine clT (hc := T_IndexSpan (A := some ⟨b1, 122, none⟩) (n := 61) (c := 61) (es := spanE (fun j => lefD d item (0 + j + 1)) 61) (E := .blk b1 113 (wkC d item)) (fun w hw => rd_week (N := needD d item) (L := fun j => lefD d item (j + 1)) (k := 0) (by omega) (by omega) w hw) inferInstance [] [] [] (fun k => decide ((lefD d item (k + 1)).1 < 0)) (by omega) (spanE_len _ _) (fun k cs hk => C0.tr [] fun w => by
      have hkn : k < 61 := by have := (List.getElem?_eq_some_iff.1 hk).1; rwa [spanE_len] at this
      rw [spanE_at _ hkn, Nat.zero_add] at hk
      cases hk
      exact C_Short1 (lefD d item (k + 1)) w)) (h := fun x1 hx1 => ?_)
    rw [show x1 = mayV d item from fst_eq hx1]
    refine WL.y (hy := asg) (h := ?_)
    refine nl (h := ?_)
    refine q_seq (h := ?_)
    refine sq (h := ?_)
    refine rg (h := ?_)
    refine WL.y (hy := mv) (h := ?_)
    refine clT (hc := T_IndexSpan (A := some ⟨b1, 122, none⟩) (n := 61) (c := 61) (es := spanE (fun j => lefD d item (0 + j + 1)) 61) (E := .blk b1 113 (wkC d item)) (fun w hw => rd_week (N := needD d item) (L := fun j => lefD d item (j + 1)) (k := 0) (by omega) (by omega) w hw) inferInstance [] [] [] (fun k => decide ((lefD d item (k + 1)).2 < 0)) (by omega) (spanE_len _ _) (fun k cs hk => C0.tr [] fun w => by
      have hkn : k < 61 := by have := (List.getElem?_eq_some_iff.1 hk).1; rwa [spanE_len] at this
      rw [spanE_at _ hkn, Nat.zero_add] at hk
      cases hk
      exact C_Short2 (lefD d item (k + 1)) w)) (h := fun x2 hx2 => ?_)
    rw [show x2 = sureV d item from fst_eq hx2]
    refine WL.y (hy := asg) (h := ?_)
    refine nl (h := ?_)
    refine q_seq (h := ?_)
    refine sq (h := ?_)
    refine rg (h := ?_)
    refine WL.y (hy := mv) (h := ?_)
    refine WL.y (hy := mv) (h := ?_)
    refine WL.y (hy := asg) (h := ?_)
    refine WL.y (hy := asg) (h := ?_)
    refine WL.y (hy := asg) (h := ?_)
    refine nl (h := ?_)
    refine q_seq (h := ?_)
    refine rtn (h := ?_)
    refine q_ret (hR := ?_)
    rw [hE]
    exact fun w hS => ⟨rfl, hS.sub (by repeat (first | exact SubL.nil | (apply SubL.cons; (repeat (first | exact At.here | apply At.there))) | exact SubL.refl _ | apply SubL.skip))⟩
set_option maxRecDepth 100000 in
theorem C_balls_Order (d : Dp) (a : DA) (item day : Int) (w : World) (h : DpR w d a) : C0 Try.prog 21 [d.val a, .int .i64 item, .int .i64 day] w (.tuple (ordR d item day).toArray) := by
  refine ⟨en Try.func21 Try.ntmps21 ((St.init w).share (e := .ro a.sA 1 d.st.length (encI d.st)) h.s rfl rfl rfl) (h := fun F => ?_)⟩
  refine sq (h := ?_)
  refine rg (h := ?_)
  refine bxA (h := fun b0 => ?_)
  refine WL.y (hy := asg) (h := ?_)
  refine WL.y (hy := asg) (h := ?_)
  refine nl (h := ?_)
  refine q_seq (h := ?_)
  refine sq (h := ?_)
  refine rg (h := ?_)
  refine WL.y (hy := (by first | exact ldA | exact ldEA)) (h := ?_)
  refine WL.y (hy := mv) (h := ?_)
  refine WL.y (hy := mv) (h := ?_)
  refine cl0 (hc := fun w hS => C_balls_ask d a item day w (h.old hS)) (h := ?_)
  refine WL.y (hy := mv) (h := ?_)
  refine WL.y (hy := ex) (h := ?_)
  refine WL.y (hy := ex) (h := ?_)
  refine al (h := fun b1 => ?_)
  refine WL.blkTo (numE 244 fun _ => 0) .here (by rfl) ?_
  refine stW (h1 := askW_one _ _ _) (hsz := askW_len _ _ _) (ho := by rw [askW_len, numE_len]) (h := ?_)
  refine WL.y (hy := asg) (h := ?_)
  refine nl (h := ?_)
  refine q_seq (h := ?_)
  refine sq (h := ?_)
  refine sq (h := ?_)
  refine rg (h := ?_)
  refine WL.y (hy := mv) (h := ?_)
  refine WL.y (hy := neq) (h := ?_)
  refine nl (h := ?_)
  refine q_seq (h := ?_)
  refine cd (by exact rfl) (fun h0 => ?_) (fun h0 => ?_)
  · skip
    have hE : ordR d item day = [.int .i64 0, .int .i64 (askE d item day)] := by rw [ordR, show decide (askE d item day = 0) = false by simpa using h0]; rfl
    refine sq (h := ?_)
    refine rg (h := ?_)
    refine WL.y (hy := mv) (h := ?_)
    refine WL.y (hy := asg) (h := ?_)
    refine WL.y (hy := asg) (h := ?_)
    refine nl (h := ?_)
    refine q_seq (h := ?_)
    refine rtn (h := ?_)
    refine q_then_ret (h := ?_)
    refine q_ret (hR := ?_)
    rw [hE]
    exact fun w hS => ⟨rfl, hS.sub (by repeat (first | exact SubL.nil | (apply SubL.cons; (repeat (first | exact At.here | apply At.there))) | exact SubL.refl _ | apply SubL.skip))⟩
  · skip
    have hE0 : askE d item day = 0 := by simpa using h0
    have hE : ordR d item day = [.int .i64 (ordV d item day.toNat), .int .i64 0] := by rw [ordR, decide_eq_true hE0]; rfl
    obtain ⟨hG, hi, hd⟩ := ask_ok hE0
    rw [askW_ok hE0]
    obtain ⟨n9, hn9⟩ : ∃ n9, n9 = 61 - day.toNat := ⟨_, rfl⟩
    refine skp (h := ?_)
    refine q_seq (h := ?_)
    refine sq (h := ?_)
    refine rg (h := ?_)
    refine WL.y (hy := asg) (h := ?_)
    refine nl (h := ?_)
    refine q_seq (h := ?_)
    refine sq (h := ?_)
    refine sq (h := ?_)
    refine rg (h := ?_)
    refine WL.y (hy := (by first | exact fa | exact faE)) (h := ?_)
    refine WL.y (hy := mv) (h := ?_)
    refine WL.y (hy := slA (b := b1) (lo' := day.toNat) (hl := .inr ⟨_, _, _, rfl, rfl, hd.1, by omega, rfl⟩) (hne := by omega)) (h := ?_)
    rw [show 61 - day.toNat = n9 from hn9.symm]
    refine WL.y (hy := lenS) (h := ?_)
    refine WL.y (hy := mv) (h := ?_)
    refine nl (h := ?_)
    refine q_seq (h := ?_)
    refine bk (h := ?_)
    refine lp (X := Nat) (I := fun k => k ≤ n9) (le := fun k => [(8, .pointer (some ⟨b1, 0, none⟩)), (10, .int .i64 (ordT d item day.toNat k)), (25, .slice (some ⟨b1, 0 + 122 + day.toNat * 2, none⟩) n9 n9), (26, .int .i64 n9), (27, .int .i64 k)]) (Le := fun k => [.blk b1 113 (wkC d item), .ro a.sA 1 d.st.length (encI d.st)]) (μ := fun k => n9 - k) 0 (Nat.zero_le _) (by repeat (first | exact trivial | refine ⟨rfl, ?_⟩)) (by repeat (first | exact SubL.nil | (apply SubL.cons; (repeat (first | exact At.here | apply At.there))) | exact SubL.refl _ | apply SubL.skip)) (fun k hk => ?_)
    refine sq (h := ?_)
    refine rg (h := ?_)
    refine WL.y (hy := lss) (h := ?_)
    refine nl (h := ?_)
    refine q_seq (h := ?_)
    refine sq (h := ?_)
    refine cd (by exact rfl) (fun h1 => ?_) (fun h1 => ?_)
    · skip
      have hkn : k < n9 := by have := of_decide_eq_true h1; omega
      have hlr := lef_rng hG item (day.toNat + k + 1)
      refine skp (h := ?_)
      refine q_seq (h := ?_)
      refine sq (h := ?_)
      refine bk (h := ?_)
      refine sq (h := ?_)
      refine rg (h := ?_)
      refine WL.y (hy := ix (A := some ⟨b1, 0 + 122 + day.toNat * 2, none⟩) (m := n9) (hr := by repeat (first | exact Rds.any (rd_week (k := day.toNat) (by omega) (by omega)) | apply Rds.there))) (h := ?_)
      refine WL.y (hy := ldEW (A := some ⟨b1, 0 + 122 + day.toNat * 2, none⟩) (hr := by repeat (first | exact Rds.any (rd_week (k := day.toNat) (n := n9) (by omega) (by omega)) | apply Rds.there)) (hk := spanE_at _ hkn)) (h := ?_)
      refine al (h := fun bt => ?_)
      first | refine stA (h := ?_) | refine stEA (h := ?_)
      refine nl (h := ?_)
      refine q_seq (h := ?_)
      refine rg (h := ?_)
      refine WL.y (hy := mv) (h := ?_)
      refine WL.y (hy := (by first | exact fa | exact faE)) (h := ?_)
      refine WL.y (hy := (by first | exact ld | exact ldE)) (h := ?_)
      refine WL.y (hy := negI) (h := ?_)
      refine WL.y (hy := maxI) (h := ?_)
      refine WL.y (hy := asg) (h := ?_)
      refine nl (h := ?_)
      refine q_blk_norm (h := ?_)
      refine q_seq (h := ?_)
      refine rg (h := ?_)
      refine WL.y (hy := addI) (h := ?_)
      refine WL.y (hy := mv) (h := ?_)
      refine nl (h := ?_)
      refine rn (x := k) (k + 1) hkn (by omega) (by repeat (first | exact trivial | refine ⟨rfl, ?_⟩)) (by repeat (first | exact SubL.nil | (apply SubL.cons; (repeat (first | exact At.here | apply At.there))) | exact SubL.refl _ | apply SubL.skip))
    · skip
      have hkn : k = n9 := by have := of_decide_eq_false h1; omega
      rw [hkn, show ordT d item day.toNat n9 = ordV d item day.toNat by rw [hn9]; rfl]
      refine et (h := ?_)
      refine q_then_exit (h := ?_)
      refine q_then_exit (h := ?_)
      refine q_blk_hit (h := ?_)
      refine q_seq (h := ?_)
      refine sq (h := ?_)
      refine rg (h := ?_)
      refine WL.y (hy := mv) (h := ?_)
      refine WL.y (hy := asg) (h := ?_)
      refine WL.y (hy := asg) (h := ?_)
      refine nl (h := ?_)
      refine q_seq (h := ?_)
      refine rtn (h := ?_)
      refine q_ret (hR := ?_)
      rw [hE]
      exact fun w hS => ⟨rfl, hS.sub (by repeat (first | exact SubL.nil | (apply SubL.cons; (repeat (first | exact At.here | apply At.there))) | exact SubL.refl _ | apply SubL.skip))⟩
end Go.Proofs.Ytacaojifempclaa
