/- The texts of the walk, part 5. -/
import Derived.Test.YtacaojifempclaaJ4
namespace Go.Proofs.Ytacaojifempclaa
open Go Go.RowKit

section
variable {f : Fmt} {b : Brd}
theorem tl_is {s p : Pr} (ht : TieOk f s) (h : expT f s p.1 p.2 = some true) : (decide (0 ≤ s.1) && decide (min p.1 p.2 = s.1) && decide (max p.1 p.2 = s.1 + 1)) = tlB p := by
  unfold tlB
  rw [Bool.eq_iff_iff]
  simp only [Bool.and_eq_true, Bool.or_eq_true, decide_eq_true_eq]
  unfold TieOk at ht
  unfold expT at h
  by_cases h0 : p.1 = 0 ∧ p.2 = 0
  · rw [if_pos h0] at h; cases h
  · rw [if_neg h0] at h
    by_cases h1 : OpenP f s (p.1 - 1) p.2
    · rw [if_pos h1] at h
      have := (end0 f s (p.1 - 1) p.2).1 (Option.some.inj h)
      unfold OpenP at h1; omega
    · rw [if_neg h1] at h
      by_cases h2 : OpenP f s p.1 (p.2 - 1)
      · rw [if_pos h2] at h
        have := (end1 f s p.1 (p.2 - 1)).1 (Option.some.inj h)
        unfold OpenP at h2; omega
      · rw [if_neg h2] at h; cases h
theorem over_le {s : Pr} (ht : TieOk f s) (h0 : 0 ≤ s.1) {a b : Int} (h : expT f s a b = some true) : a + b ≤ 2 * s.1 + 1 := by
  unfold expT at h
  by_cases hz : a = 0 ∧ b = 0
  · omega
  · rw [if_neg hz] at h
    by_cases h1 : OpenP f s (a - 1) b
    · have := open_sum ht h0 h1; omega
    · rw [if_neg h1] at h
      by_cases h2 : OpenP f s a (b - 1)
      · have := open_sum ht h0 h2; omega
      · rw [if_neg h2] at h; cases h
theorem won_mono (hf : f.Ok) (hb : brdOk b = true) (hari : (arisesV f b).2 = true) (hov : overV f (wonV b.st) = false) : ∀ k, k ≤ b.st.length → (wonTo b.st k).1 < f.sets ∧ (wonTo b.st k).2 < f.sets := fun k hk => by
  have hok := arises_ok (tb := tableV f) hari
  have hw := sets_won (tbOk_table f) hf hb hok k hk
  have hs0 := hf.s0
  have hwo : WonOk f (wonTo b.st k) := by rw [← hw]; exact setsTo_won (by omega) _
  have hn : overV f (wonTo b.st k) = false := by
    rcases Nat.lt_or_ge k b.st.length with h | h
    · exact (sets_over hf hb hari (List.getElem?_eq_getElem h)).2
    · obtain rfl : k = b.st.length := by omega
      exact hov
  rw [over_won hwo, Bool.or_eq_false_iff, decide_eq_false_iff_not, decide_eq_false_iff_not] at hn
  unfold WonOk at hwo
  omega
theorem num_to (hf : f.Ok) (hbd : Bdd f) (hb : brdOk b = true) (hari : (arisesV f b).2 = true) (hov : overV f (wonV b.st) = false) : ∀ k, k ≤ b.st.length → (numTo b.st k : Int) + (2 * f.sets - 2 - (wonTo b.st k).1 - (wonTo b.st k).2) * (2 * f.tie + 1) ≤ (2 * f.sets - 2) * (2 * f.tie + 1)
  | 0, _ => by
    show ((0 : Nat) : Int) + (2 * f.sets - 2 - 0 - 0) * (2 * f.tie + 1) ≤ _
    rw [Int.sub_zero, Int.sub_zero]; omega
  | k + 1, hk => by
    have ih := num_to hf hbd hb hari hov k (by omega)
    have hp : b.st[k]? = some b.st[k] := List.getElem?_eq_getElem (by omega)
    obtain ⟨ho, -⟩ := sets_over hf hb hari hp
    have h1 := won_mono hf hb hari hov k (by omega)
    have h2 := won_mono hf hb hari hov (k + 1) hk
    have hbd0 := wonTo_bd b.st k
    have hsum := addB_sum (wonTo b.st k) (wside b.st[k])
    have hcomp : (wonTo b.st k).1 ≤ (addV (wonTo b.st k) (wside b.st[k])).1 ∧ (wonTo b.st k).2 ≤ (addV (wonTo b.st k) (wside b.st[k])).2 := by
      unfold addV; cases decide (wside b.st[k] = 0) <;> simp only [cond_true, cond_false] <;> omega
    rw [numTo_succ hp, wonTo_succ hp]
    rw [wonTo_succ hp] at h2
    have hnl : ¬ ((wonTo b.st k).1 = f.sets - 1 ∧ (wonTo b.st k).2 = f.sets - 1) := by omega
    have h3 := bdd_set hbd (won := wonTo b.st k) (by omega)
    have h4 := over_le (tie_ok hf _) h3 ho
    have h5 := over_sum ho
    rw [set_each hnl] at h4
    dsimp only at h4
    rw [show 2 * f.sets - 2 - (addV (wonTo b.st k) (wside b.st[k])).1 - (addV (wonTo b.st k) (wside b.st[k])).2 = (2 * f.sets - 2 - (wonTo b.st k).1 - (wonTo b.st k).2) - 1 by omega, Int.sub_mul, Int.one_mul]
    omega
theorem num_rem (hf : f.Ok) (hhi : ¬ (rangeE f).high < 0) (hb : brdOk b = true) (hari : (arisesV f b).2 = true) (hov : overV f (wonV b.st) = false) : numV b + remV f (wonV b.st) b.g ≤ (rangeE f).high := by
  obtain ⟨hbd, hh⟩ := bdd_high hf hhi
  have h1 := num_to hf hbd hb hari hov b.st.length (Nat.le_refl _)
  rw [hh]
  unfold numV remV wonV
  omega
theorem tab_P (hf : f.Ok) (hhi : ¬ (rangeE f).high < 0) (hb : brdOk b = true) (hari : (arisesV f b).2 = true) (hov : overV f (wonV b.st) = false) (hV : Vs f (wonV b.st) b.g) (t : Int) : Tn f (rangeE f).high ((rangeE f).high - numV b).toNat (wonV b.st) b.g t = fromP f (wonV b.st) b.g (numV b) t := by
  obtain ⟨hbd, -⟩ := bdd_high hf hhi
  have h1 := num_rem hf hhi hb hari hov
  have h2 := rem_pos hf hbd hV
  show tabF _ _ _ _ _ _ = _
  rw [tab_from hf hbd _ _ _ _ _ hV (by omega), show (rangeE f).high - (((rangeE f).high - numV b).toNat : Int) = numV b by omega]
  exact from_more hf hbd _ _ _ _ _ _ hV (by omega) (by omega)
theorem t1_rng (b : Brd) : 0 ≤ t1V b ∧ t1V b ≤ 1 := by
  unfold t1V
  cases decide (0 < b.g.1 + b.g.2)
  · rw [cond_false]
    cases hl : b.st.length with
    | zero => show (0 : Int) ≤ 0 ∧ (0 : Int) ≤ 1; decide
    | succ k =>
      have hp : b.st[k]? = some (b.st[k]'(by omega)) := List.getElem?_eq_getElem (by omega)
      rw [tailE_succ hp]
      show 0 ≤ tlV _ ∧ tlV _ ≤ 1
      unfold tlV; cases tlB (b.st[k]'(by omega)) <;> decide
  · show (0 : Int) ≤ 0 ∧ (0 : Int) ≤ 1; decide
end
set_option maxRecDepth 100000 in
set_option maxHeartbeats 4000000 in
theorem C_ref9_rest (f : Fmt) (b : Brd) (hck : (!decide (chkF f = 0)) = false) (hbo : brdOk b = true) (hari : (arisesV f b).2 = true) (hhi : ¬ (rangeE f).high < 0) (A : Option Addr) (n c : Nat) (hc : n ≤ c) (w : World) (h : Rd w A 2 n (encP b.st)) : C0 Try.prog 61 [f.val, b.val A n c] w (cv (restC f b)) := by
  have hlen : b.st.length = n := by have := h.len; simpa [encP] using this
  have hf := chkF_ok hck
  have hbl := brd_len hbo
  have hbp := brd_fit hbo b.p (by simp [Brd.all])
  have hbg := brd_fit hbo b.g (by simp [Brd.all])
  have hs1 := hf.s1
  have hg1 := hf.g1
  have hrb := range_bd hf
  obtain ⟨-, hwo, hw3⟩ := arises_facts hf hbo hari
  obtain ⟨hbd, -⟩ := bdd_high hf hhi
  have hnn := numTo_bd hbo n (by omega)
  refine ⟨en Try.func61 Try.ntmps61 ((St.init w).share (e := .ro A 2 n (encP b.st)) h rfl rfl rfl) (h := fun F => ?_)⟩
  refine sq (h := ?_)
  refine rg (h := ?_)
  refine bxA (h := fun b0 => ?_)
  refine bxA (h := fun b1 => ?_)
  refine al (h := fun b2 => ?_)
  refine nl (h := ?_)
  refine q_seq (h := ?_)
  refine sq (h := ?_)
  refine rg (h := ?_)
  refine WL.y (hy := (by first | exact fa | exact faE)) (h := ?_)
  refine WL.y (hy := (by first | exact ld | exact ldE)) (h := ?_)
  refine cl0 (hc := fun w hS => C_ref1_Won b.st A n c w (hS.get (by repeat (first | exact Rds.ro | exact Rds.own | apply Rds.there))) (by omega)) (h := ?_)
  refine al (h := fun b3 => ?_)
  first | refine stA (h := ?_) | refine stEA (h := ?_)
  refine nl (h := ?_)
  refine q_seq (h := ?_)
  refine sq (h := ?_)
  refine sq (h := ?_)
  refine rg (h := ?_)
  refine WL.y (hy := (by first | exact fa | exact faE)) (h := ?_)
  refine WL.y (hy := (by first | exact ld | exact ldE)) (h := ?_)
  refine WL.y (hy := (by first | exact fa | exact faE)) (h := ?_)
  refine WL.y (hy := (by first | exact ld | exact ldE)) (h := ?_)
  refine WL.y (hy := eql) (h := ?_)
  refine WL.y (hy := mv) (h := ?_)
  apply brOr 6 24 30 (by exact rfl)
  · intro hb0
    refine un (h := ?_)
    refine WL.y (hy := (by first | exact fa | exact faE)) (h := ?_)
    refine un (h := ?_)
    refine WL.y (hy := (by first | exact ld | exact ldE)) (h := ?_)
    refine un (h := ?_)
    refine WL.y (hy := (by first | exact fa | exact faE)) (h := ?_)
    refine un (h := ?_)
    refine WL.y (hy := (by first | exact ld | exact ldE)) (h := ?_)
    refine un (h := ?_)
    refine WL.y (hy := eql) (h := ?_)
    refine WL.y (hy := (by first | exact pkT | exact pkF)) (h := ?_)
    exact mg (by repeat (first | exact trivial | refine ⟨rfl, ?_⟩ | refine ⟨by rw [hb0]; rfl, ?_⟩)) (by repeat (first | exact SubL.nil | (apply SubL.cons; (repeat (first | exact At.here | apply At.there))) | exact SubL.refl _ | apply SubL.skip))
  · intro hb0
    repeat (first | refine un (h := ?_) | refine sk (h := ?_) | refine WL.y (hy := pkF) (h := ?_) | refine WL.y (hy := pkT) (h := ?_))
    exact mg (by repeat (first | exact trivial | refine ⟨rfl, ?_⟩ | refine ⟨by rw [hb0]; rfl, ?_⟩)) (by repeat (first | exact SubL.nil | (apply SubL.cons; (repeat (first | exact At.here | apply At.there))) | exact SubL.refl _ | apply SubL.skip))
  refine nl (h := ?_)
  refine q_seq (h := ?_)
  refine cd (by exact rfl) (fun h1 => ?_) (fun h1 => ?_)
  · skip
    have hov : overV f (wonV b.st) = true := (over_won hwo).trans h1
    have hE : restC f b = zC := by rw [restC, hov]; rfl
    refine sq (h := ?_)
    refine rg (h := ?_)
    refine WL.y (hy := bd) (h := ?_)
    first | refine stA (h := ?_) | refine stEA (h := ?_)
    refine nl (h := ?_)
    refine q_seq (h := ?_)
    refine rtn (h := ?_)
    refine q_then_ret (h := ?_)
    refine q_ret (hR := ?_)
    rw [hE]
    exact fun w hS => ⟨rfl, hS.sub (by repeat (first | exact SubL.nil | (apply SubL.cons; (repeat (first | exact At.here | apply At.there))) | exact SubL.refl _ | apply SubL.skip))⟩
  · skip
    have hov : overV f (wonV b.st) = false := (over_won hwo).trans h1
    obtain ⟨hop, hpt⟩ : OpenP f (setV f (wonV b.st)) b.g.1 b.g.2 ∧ arePts f (tiedV f b.st b.g) (setV f (wonV b.st)).2 b.p = true := by
      rcases hw3 with h3 | ⟨_, h4, h5⟩
      · rw [h3] at hov; cases hov
      · exact ⟨h4, h5⟩
    have hov2 := hov
    rw [over_won hwo, Bool.or_eq_false_iff, decide_eq_false_iff_not, decide_eq_false_iff_not] at hov2
    unfold WonOk at hwo
    have hV : Vs f (wonV b.st) b.g := ⟨by omega, hop⟩
    have hogs := open_sum (tie_ok hf _) (bdd_set hbd hV.1) hop
    refine skp (h := ?_)
    refine q_seq (h := ?_)
    refine sq (h := ?_)
    refine rg (h := ?_)
    refine WL.y (hy := (by first | exact fa | exact faE)) (h := ?_)
    refine WL.y (hy := (by first | exact fa | exact faE)) (h := ?_)
    refine WL.y (hy := (by first | exact ld | exact ldE)) (h := ?_)
    refine WL.y (hy := (by first | exact fa | exact faE)) (h := ?_)
    refine WL.y (hy := (by first | exact fa | exact faE)) (h := ?_)
    refine WL.y (hy := (by first | exact ld | exact ldE)) (h := ?_)
    refine WL.y (hy := addI) (h := ?_)
    refine WL.y (hy := asg) (h := ?_)
    refine nl (h := ?_)
    refine q_seq (h := ?_)
    refine sq (h := ?_)
    refine sq (h := ?_)
    refine rg (h := ?_)
    refine WL.y (hy := asg) (h := ?_)
    refine nl (h := ?_)
    refine q_seq (h := ?_)
    refine bk (h := ?_)
    refine lp (X := Nat) (I := fun k => k ≤ n) (le := fun k => [(2, .pointer (some ⟨b0, 0, none⟩)), (3, .pointer (some ⟨b1, 0, none⟩)), (4, .pointer (some ⟨b2, 0, none⟩)), (5, .pointer (some ⟨b3, 0, none⟩)), (6, .int .i64 (b.g.1 + b.g.2 + (numTo b.st k : Int))), (7, .int .i64 k)]) (Le := fun _ => [.blk b3 26 [.int .i64 (wonV b.st).1, .int .i64 (wonV b.st).2], .blk b0 23 f.cells, .blk b1 28 (b.cells A n c), .blk b2 109 [.int .i64 0, .int .i64 0, .int .i64 0, .int .i64 0], .ro A 2 n (encP b.st)]) (μ := fun k => n - k) 0 (Nat.zero_le _) (by rw [show b.g.1 + b.g.2 + ((numTo b.st 0 : Nat) : Int) = b.g.1 + b.g.2 from Int.add_zero _]; repeat (first | exact trivial | refine ⟨rfl, ?_⟩)) (by repeat (first | exact SubL.nil | (apply SubL.cons; (repeat (first | exact At.here | apply At.there))) | exact SubL.refl _ | apply SubL.skip)) (fun k hk => ?_)
    refine sq (h := ?_)
    refine sq (h := ?_)
    refine rg (h := ?_)
    refine WL.y (hy := mv) (h := ?_)
    refine WL.y (hy := (by first | exact fa | exact faE)) (h := ?_)
    refine WL.y (hy := (by first | exact ld | exact ldE)) (h := ?_)
    refine WL.y (hy := lenS) (h := ?_)
    refine WL.y (hy := lss) (h := ?_)
    refine nl (h := ?_)
    refine q_seq (h := ?_)
    refine cd (by exact rfl) (fun h2 => ?_) (fun h2 => ?_)
    · skip
      have hkn : k < n := by have := of_decide_eq_true h2; omega
      obtain ⟨p, hp⟩ : ∃ p, b.st[k]? = some p := ⟨_, List.getElem?_eq_getElem (by omega)⟩
      have hpe := encP_at hp
      have hpf := brd_fit hbo p (by simp only [Brd.all]; exact List.mem_append_left _ (List.mem_of_getElem? hp))
      have hnb := numTo_bd hbo k (by omega)
      have hnx : b.g.1 + b.g.2 + ((numTo b.st (k + 1) : Nat) : Int) = b.g.1 + b.g.2 + (numTo b.st k : Int) + (p.1 + p.2) := by rw [numTo_succ hp]; omega
      refine skp (h := ?_)
      refine q_seq (h := ?_)
      refine sq (h := ?_)
      refine bk (h := ?_)
      refine rgD (by kernel_rfl) [(1000000, .blk b1 28 (b.cells A n c)), (1000000, .ro A 2 n (encP b.st))] (by repeat (first | exact HS.nil | (apply HS.keep; (repeat (first | exact At.here | apply At.there))) | (apply HS.ro; (repeat (first | exact Rds.ro | exact Rds.own | apply Rds.there))))) (h := ?_)
      refine tk 0 (hy := mv) (h := ?_)
      refine tk 1 (hy := (by first | exact fa | exact faE)) (h := ?_)
      refine tk 2 (hy := (by first | exact ld | exact ldE)) (h := ?_)
      refine tk 3 (hy := mv) (h := ?_)
      refine tk 4 (hy := ix (A := A) (m := n)) (h := ?_)
      refine tk 5 (hy := (by first | exact fa | exact faE)) (h := ?_)
      refine tk 6 (hy := ldE (A := A) (hk := hpe)) (h := ?_)
      refine tk 7 (hy := (by first | exact fa | exact faE)) (h := ?_)
      refine tk 8 (hy := (by first | exact ld | exact ldE)) (h := ?_)
      refine tk 9 (hy := mv) (h := ?_)
      refine tk 10 (hy := ix (A := A) (m := n)) (h := ?_)
      refine tk 11 (hy := (by first | exact fa | exact faE)) (h := ?_)
      refine tk 12 (hy := ldE (A := A) (hk := hpe)) (h := ?_)
      refine tk 13 (hy := addI) (h := ?_)
      refine tk 14 (hy := addI) (h := ?_)
      refine tk 15 (hy := asg) (h := ?_)
      refine dn (h := ?_)
      refine q_blk_norm (h := ?_)
      refine q_seq (h := ?_)
      refine rg (h := ?_)
      refine WL.y (hy := mv) (h := ?_)
      refine WL.y (hy := addI) (h := ?_)
      refine WL.y (hy := asg) (h := ?_)
      refine nl (h := ?_)
      refine rn (x := k) (k + 1) hkn (by omega) (by rw [hnx]; repeat (first | exact trivial | refine ⟨rfl, ?_⟩)) (by repeat (first | exact SubL.nil | (apply SubL.cons; (repeat (first | exact At.here | apply At.there))) | exact SubL.refl _ | apply SubL.skip))
    · skip
      have hkn : k = n := by have := of_decide_eq_false h2; omega
      rw [hkn, show b.g.1 + b.g.2 + (numTo b.st n : Int) = numV b by rw [numV, hlen]; omega]
      refine et (h := ?_)
      refine q_then_exit (h := ?_)
      refine q_then_exit (h := ?_)
      refine q_blk_hit (h := ?_)
      refine q_seq (h := ?_)
      refine sq (h := ?_)
      refine rg (h := ?_)
      refine WL.y (hy := asg) (h := ?_)
      refine nl (h := ?_)
      refine q_seq (h := ?_)
      refine ct (X := Unit) (fun _ => True) (fun _ => [(2, .pointer (some ⟨b0, 0, none⟩)), (3, .pointer (some ⟨b1, 0, none⟩)), (4, .pointer (some ⟨b2, 0, none⟩)), (5, .pointer (some ⟨b3, 0, none⟩)), (6, .int .i64 (numV b)), (8, .int .i64 (t1V b))]) (fun _ => [.blk b3 26 [.int .i64 (wonV b.st).1, .int .i64 (wonV b.st).2], .blk b0 23 f.cells, .blk b1 28 (b.cells A n c), .blk b2 109 [.int .i64 0, .int .i64 0, .int .i64 0, .int .i64 0], .ro A 2 n (encP b.st)]) (h1 := ?_) (h2 := ?_)
      · skip
        refine sq (h := ?_)
        refine rg (h := ?_)
        refine WL.y (hy := (by first | exact fa | exact faE)) (h := ?_)
        refine WL.y (hy := (by first | exact ld | exact ldE)) (h := ?_)
        refine WL.y (hy := lenS) (h := ?_)
        refine WL.y (hy := subI) (h := ?_)
        refine WL.y (hy := asg) (h := ?_)
        refine nl (h := ?_)
        refine q_seq (h := ?_)
        refine sq (h := ?_)
        refine rg (h := ?_)
        refine WL.y (hy := (by first | exact fa | exact faE)) (h := ?_)
        refine WL.y (hy := (by first | exact ldA | exact ldEA)) (h := ?_)
        refine WL.y (hy := bd) (h := ?_)
        refine WL.y (hy := eqlT) (h := ?_)
        refine WL.y (hy := mv) (h := ?_)
        apply brAnd 3 69 72 (by exact rfl)
        · intro hb3
          refine un (h := ?_)
          refine WL.y (hy := mv) (h := ?_)
          refine un (h := ?_)
          refine WL.y (hy := geq) (h := ?_)
          refine WL.y (hy := (by first | exact pkT | exact pkF)) (h := ?_)
          exact mg (by repeat (first | exact trivial | refine ⟨rfl, ?_⟩ | refine ⟨by rw [hb3]; rfl, ?_⟩)) (by repeat (first | exact SubL.nil | (apply SubL.cons; (repeat (first | exact At.here | apply At.there))) | exact SubL.refl _ | apply SubL.skip))
        · intro hb3
          repeat (first | refine un (h := ?_) | refine sk (h := ?_) | refine WL.y (hy := pkF) (h := ?_) | refine WL.y (hy := pkT) (h := ?_))
          exact mg (by repeat (first | exact trivial | refine ⟨rfl, ?_⟩ | refine ⟨by rw [hb3]; rfl, ?_⟩)) (by repeat (first | exact SubL.nil | (apply SubL.cons; (repeat (first | exact At.here | apply At.there))) | exact SubL.refl _ | apply SubL.skip))
        refine nl (h := ?_)
        refine q_seq (h := ?_)
        refine cd (by exact rfl) (fun h4 => ?_) (fun h4 => ?_)
        · skip
          have hzk : isZ b.g = true ∧ (0 : Int) ≤ (n : Int) - 1 := by
            have h' : (isZ b.g && decide ((0 : Int) ≤ (n : Int) - 1)) = true := h4
            rwa [Bool.and_eq_true, decide_eq_true_eq] at h'
          obtain ⟨K, hK⟩ : ∃ K, n = K + 1 := ⟨n - 1, by omega⟩
          obtain ⟨p, hp⟩ : ∃ p, b.st[K]? = some p := ⟨_, List.getElem?_eq_getElem (by omega)⟩
          have hpe := encP_at hp
          have hpf := brd_fit hbo p (by simp only [Brd.all]; exact List.mem_append_left _ (List.mem_of_getElem? hp))
          have htl := tl_is (tie_ok hf (wonTo b.st K)) (sets_over hf hbo hari hp).1
          have hg0 := (isZ_iff b.g).1 hzk.1
          have ht1' : t1V b = tlV p := by rw [t1V, hg0, hlen, hK, tailE_succ hp]; rfl
          rw [show (n : Int) - 1 = (K : Int) by omega]
          refine sq (h := ?_)
          refine rgD0 (by kernel_rfl) (h := ?_)
          refine tk 0 (hy := (by first | exact ldA | exact ldEA)) (h := ?_)
          refine tk 1 (hy := (by first | exact ldA | exact ldEA)) (h := ?_)
          refine tk 2 (hy := (by first | exact fa | exact faE)) (h := ?_)
          refine tk 3 (hy := (by first | exact ld | exact ldE)) (h := ?_)
          refine tk 4 (hy := mv) (h := ?_)
          refine tk 5 (hy := slP (A := A) (m := n) (cap := c) (hi' := K) (hc := by omega)) (h := ?_)
          refine one 6 (h := ?_)
          refine cl0 (hc := fun w hS => C_ref1_Won (b.st.take K) A K c w (by rw [← encPU_take]; exact Rd.pre (hS.get (by repeat (first | exact Rds.ro | exact Rds.own | apply Rds.there))) K (by omega)) (by omega)) (h := ?_)
          rw [wonV_take (by omega)]
          refine nx (h := ?_)
          refine one 7 (h := ?_)
          refine cl0 (hc := fun w hS => C_ref1_IsLast f (wonTo b.st K) hf w) (h := ?_)
          refine nx (h := ?_)
          refine one 8 (h := ?_)
          refine cl0 (hc := fun w hS => C_ref1_Rule f _ w) (h := ?_)
          rw [rule_set]
          refine nx (h := ?_)
          refine tk 9 (hy := mv) (h := ?_)
          refine tk 10 (hy := ex) (h := ?_)
          refine tk 11 (hy := ex) (h := ?_)
          refine tk 12 (hy := asg) (h := ?_)
          refine tk 13 (hy := asg) (h := ?_)
          refine dn (h := ?_)
          refine q_seq (h := ?_)
          refine ct (X := Unit) (fun _ => True) (fun _ => [(2, .pointer (some ⟨b0, 0, none⟩)), (3, .pointer (some ⟨b1, 0, none⟩)), (4, .pointer (some ⟨b2, 0, none⟩)), (5, .pointer (some ⟨b3, 0, none⟩)), (6, .int .i64 (numV b)), (8, .int .i64 0), (121, .bool (tlB p))]) (fun _ => [.blk b3 26 [.int .i64 (wonV b.st).1, .int .i64 (wonV b.st).2], .blk b0 23 f.cells, .blk b1 28 (b.cells A n c), .blk b2 109 [.int .i64 0, .int .i64 0, .int .i64 0, .int .i64 0], .ro A 2 n (encP b.st)]) (h1 := ?_) (h2 := ?_)
          · skip
            refine rgD0 (by kernel_rfl) (h := ?_)
            refine tk 0 (hy := mv) (h := ?_)
            refine tk 1 (hy := geq) (h := ?_)
            refine tk 2 (hy := mv) (h := ?_)
            refine brH (g := 87) (by exact rfl) (fun hb5 => ?_) (fun hb5 => ?_)
            · skip
              have kA : decide (0 ≤ (setV f (wonTo b.st K)).1) = true := hb5
              refine tk 3 (hy := (by first | exact fa | exact faE)) (h := ?_)
              refine tk 4 (hy := (by first | exact ld | exact ldE)) (h := ?_)
              refine tk 5 (hy := mv) (h := ?_)
              refine tk 6 (hy := ix (A := A) (m := n)) (h := ?_)
              refine tk 7 (hy := (by first | exact fa | exact faE)) (h := ?_)
              refine tk 8 (hy := ldE (A := A) (hk := hpe)) (h := ?_)
              refine tk 9 (hy := (by first | exact fa | exact faE)) (h := ?_)
              refine tk 10 (hy := (by first | exact ld | exact ldE)) (h := ?_)
              refine tk 11 (hy := mv) (h := ?_)
              refine tk 12 (hy := ix (A := A) (m := n)) (h := ?_)
              refine tk 13 (hy := (by first | exact fa | exact faE)) (h := ?_)
              refine tk 14 (hy := ldE (A := A) (hk := hpe)) (h := ?_)
              refine tk 15 (hy := minI) (h := ?_)
              refine tk 16 (hy := mv) (h := ?_)
              refine tk 17 (hy := eql) (h := ?_)
              refine tk 18 (hy := (by first | exact pkT | exact pkF)) (h := ?_)
              refine tk 19 (hy := mv) (h := ?_)
              refine brH (g := 104) (by exact rfl) (fun hb6 => ?_) (fun hb6 => ?_)
              · skip
                have kB : decide (min p.1 p.2 = (setV f (wonTo b.st K)).1) = true := hb6
                have hsr := tie_ok hf (wonTo b.st K)
                unfold TieOk at hsr
                refine tk 20 (hy := (by first | exact fa | exact faE)) (h := ?_)
                refine tk 21 (hy := (by first | exact ld | exact ldE)) (h := ?_)
                refine tk 22 (hy := mv) (h := ?_)
                refine tk 23 (hy := ix (A := A) (m := n)) (h := ?_)
                refine tk 24 (hy := (by first | exact fa | exact faE)) (h := ?_)
                refine tk 25 (hy := ldE (A := A) (hk := hpe)) (h := ?_)
                refine tk 26 (hy := (by first | exact fa | exact faE)) (h := ?_)
                refine tk 27 (hy := (by first | exact ld | exact ldE)) (h := ?_)
                refine tk 28 (hy := mv) (h := ?_)
                refine tk 29 (hy := ix (A := A) (m := n)) (h := ?_)
                refine tk 30 (hy := (by first | exact fa | exact faE)) (h := ?_)
                refine tk 31 (hy := ldE (A := A) (hk := hpe)) (h := ?_)
                refine tk 32 (hy := maxI) (h := ?_)
                refine tk 33 (hy := mv) (h := ?_)
                refine tk 34 (hy := addI) (h := ?_)
                refine tk 35 (hy := eql) (h := ?_)
                refine tk 36 (hy := (by first | exact pkT | exact pkF)) (h := ?_)
                refine dn (h := ?_)
                exact ctn () trivial (by repeat (first | exact trivial | refine ⟨rfl, ?_⟩ | refine ⟨by first | (rw [← htl, kA, kB]; rfl) | (rw [← htl, kA]; rfl), ?_⟩)) (by repeat (first | exact SubL.nil | (apply SubL.cons; (repeat (first | exact At.here | apply At.there))) | exact SubL.refl _ | apply SubL.skip))
              · skip
                have kB : decide (min p.1 p.2 = (setV f (wonTo b.st K)).1) = false := hb6
                refine tkS 20 (h := ?_)
                refine tkS 21 (h := ?_)
                refine tkS 22 (h := ?_)
                refine tkS 23 (h := ?_)
                refine tkS 24 (h := ?_)
                refine tkS 25 (h := ?_)
                refine tkS 26 (h := ?_)
                refine tkS 27 (h := ?_)
                refine tkS 28 (h := ?_)
                refine tkS 29 (h := ?_)
                refine tkS 30 (h := ?_)
                refine tkS 31 (h := ?_)
                refine tkS 32 (h := ?_)
                refine tkS 33 (h := ?_)
                refine tkS 34 (h := ?_)
                refine tkS 35 (h := ?_)
                refine tk 36 (hy := (by first | exact pkT | exact pkF)) (h := ?_)
                refine dn (h := ?_)
                exact ctn () trivial (by repeat (first | exact trivial | refine ⟨rfl, ?_⟩ | refine ⟨by first | (rw [← htl, kA, kB]; rfl) | (rw [← htl, kA]; rfl), ?_⟩)) (by repeat (first | exact SubL.nil | (apply SubL.cons; (repeat (first | exact At.here | apply At.there))) | exact SubL.refl _ | apply SubL.skip))
            · skip
              have kA : decide (0 ≤ (setV f (wonTo b.st K)).1) = false := hb5
              refine tkS 3 (h := ?_)
              refine tkS 4 (h := ?_)
              refine tkS 5 (h := ?_)
              refine tkS 6 (h := ?_)
              refine tkS 7 (h := ?_)
              refine tkS 8 (h := ?_)
              refine tkS 9 (h := ?_)
              refine tkS 10 (h := ?_)
              refine tkS 11 (h := ?_)
              refine tkS 12 (h := ?_)
              refine tkS 13 (h := ?_)
              refine tkS 14 (h := ?_)
              refine tkS 15 (h := ?_)
              refine tkS 16 (h := ?_)
              refine tkS 17 (h := ?_)
              refine tk 18 (hy := (by first | exact pkT | exact pkF)) (h := ?_)
              refine tk 19 (hy := mv) (h := ?_)
              refine tkS 20 (h := ?_)
              refine tkS 21 (h := ?_)
              refine tkS 22 (h := ?_)
              refine tkS 23 (h := ?_)
              refine tkS 24 (h := ?_)
              refine tkS 25 (h := ?_)
              refine tkS 26 (h := ?_)
              refine tkS 27 (h := ?_)
              refine tkS 28 (h := ?_)
              refine tkS 29 (h := ?_)
              refine tkS 30 (h := ?_)
              refine tkS 31 (h := ?_)
              refine tkS 32 (h := ?_)
              refine tkS 33 (h := ?_)
              refine tkS 34 (h := ?_)
              refine tkS 35 (h := ?_)
              refine tk 36 (hy := (by first | exact pkT | exact pkF)) (h := ?_)
              refine dn (h := ?_)
              exact ctn () trivial (by repeat (first | exact trivial | refine ⟨rfl, ?_⟩ | refine ⟨by first | (rw [← htl, kA, kB]; rfl) | (rw [← htl, kA]; rfl), ?_⟩)) (by repeat (first | exact SubL.nil | (apply SubL.cons; (repeat (first | exact At.here | apply At.there))) | exact SubL.refl _ | apply SubL.skip))
          rintro ⟨⟩ -
          refine cd (by exact rfl) (fun h7 => ?_) (fun h7 => ?_)
          · skip
            have ht1 : t1V b = 1 := by rw [ht1', tlV, h7]; rfl
            refine rg (h := ?_)
            refine WL.y (hy := asg) (h := ?_)
            refine nl (h := ?_)
            rw [ht1]
            exact ctn () trivial (by repeat (first | exact trivial | refine ⟨rfl, ?_⟩)) (by repeat (first | exact SubL.nil | (apply SubL.cons; (repeat (first | exact At.here | apply At.there))) | exact SubL.refl _ | apply SubL.skip))
          · skip
            have ht1 : t1V b = 0 := by rw [ht1', tlV, h7]; rfl
            refine skp (h := ?_)
            rw [ht1]
            exact ctn () trivial (by repeat (first | exact trivial | refine ⟨rfl, ?_⟩)) (by repeat (first | exact SubL.nil | (apply SubL.cons; (repeat (first | exact At.here | apply At.there))) | exact SubL.refl _ | apply SubL.skip))
        · skip
          have ht1 : t1V b = 0 := by
            have h' : (isZ b.g && decide ((0 : Int) ≤ (n : Int) - 1)) = false := h4
            rw [t1V]
            cases hz : isZ b.g
            · have hne : ¬ b.g = (0, 0) := fun e => by rw [(isZ_iff b.g).2 e] at hz; cases hz
              have hpos : 0 < b.g.1 + b.g.2 := by
                refine Int.not_le.1 fun hle => hne (Prod.ext ?_ ?_) <;> dsimp only <;> omega
              rw [decide_eq_true hpos]; rfl
            · rw [hz, Bool.true_and, decide_eq_false_iff_not] at h'
              rw [hlen, show n = 0 by omega]
              cases decide (0 < b.g.1 + b.g.2) <;> rfl
          refine skp (h := ?_)
          rw [ht1]
          exact ctn () trivial (by repeat (first | exact trivial | refine ⟨rfl, ?_⟩)) (by repeat (first | exact SubL.nil | (apply SubL.cons; (repeat (first | exact At.here | apply At.there))) | exact SubL.refl _ | apply SubL.skip))
      rintro ⟨⟩ -
      have ht1r := t1_rng b
      have hnr := num_rem hf hhi hbo hari hov
      have hrp := rem_pos hf hbd hV
      have hnp : 0 ≤ numV b := by unfold numV; omega
      obtain ⟨hpl, hta⟩ := tabE_at (T := Tn f (rangeE f).high ((rangeE f).high - numV b).toNat) (won := wonV b.st) (g := b.g) (t := t1V b) (by omega) (by omega) ht1r
      rw [tab_P hf hhi hbo hari hov hV] at hta
      have hrr := csb_P (n := numV b) (t1 := t1V b) hf hV
      obtain ⟨r, hr⟩ : ∃ r, r = fromP f (wonV b.st) b.g (numV b) (t1V b) := ⟨_, rfl⟩
      rw [← hr] at hta hrr
      unfold CsB at hrr
      refine sq (h := ?_)
      refine rg (h := ?_)
      refine WL.y (hy := (by first | exact ldA | exact ldEA)) (h := ?_)
      refine cl0 (hc := fun w hS => C_ref1_Range f w) (h := ?_)
      rw [rangeR_ok hck]
      refine WL.y (hy := mv) (h := ?_)
      refine WL.y (hy := ex) (h := ?_)
      refine WL.y (hy := ex) (h := ?_)
      refine WL.y (hy := ex) (h := ?_)
      refine al (h := fun bs => ?_)
      first | refine stA (h := ?_) | refine stEA (h := ?_)
      refine WL.y (hy := asg) (h := ?_)
      refine WL.y (hy := asg) (h := ?_)
      refine nl (h := ?_)
      refine q_seq (h := ?_)
      refine ct (X := Nat) (fun _ => True) (fun x => [(2, .pointer (some ⟨b0, 0, none⟩)), (3, .pointer (some ⟨b1, 0, none⟩)), (4, .pointer (some ⟨b2, 0, none⟩)), (15, .pointer (some ⟨x, 0, none⟩))]) (fun x => .blk x 109 (ccs r) :: [.blk b3 26 [.int .i64 (wonV b.st).1, .int .i64 (wonV b.st).2], .blk b0 23 f.cells, .blk b1 28 (b.cells A n c), .blk b2 109 [.int .i64 0, .int .i64 0, .int .i64 0, .int .i64 0], .ro A 2 n (encP b.st)]) (h1 := ?_) (h2 := ?_)
      · skip
        refine rgD0 (by kernel_rfl) (h := ?_)
        refine tk 0 (hy := (by first | exact ldA | exact ldEA)) (h := ?_)
        refine tk 1 (hy := mv) (h := ?_)
        refine tk 2 (hy := (by first | exact fa | exact faE)) (h := ?_)
        refine tk 3 (hy := (by first | exact ld | exact ldE)) (h := ?_)
        refine tk 5 (hy := (by first | exact ldA | exact ldEA)) (h := ?_)
        refine tk 6 (hy := (by first | exact fa | exact faE)) (h := ?_)
        refine tk 7 (hy := (by first | exact ldA | exact ldEA)) (h := ?_)
        refine tk 8 (hy := mv) (h := ?_)
        refine two 4 12 (h1 := ?_) (h2 := ?_)
        · skip
          refine cl (hc := fun w hS => C_ref9_courses f (numV b) (rangeE f).high hf (by omega) (by omega) w) (h := fun xb _ => ?_)
          refine nx (h := ?_)
          refine two 9 12 (h1 := ?_) (h2 := ?_)
          · skip
            refine cl0 (hc := fun w hS => C_ref9_place (wonV b.st) b.g (t1V b) (by omega) (by omega) ht1r w) (h := ?_)
            refine nx (h := ?_)
            refine two 10 12 (h1 := ?_) (h2 := ?_)
            · skip
              refine WL.y (hy := ix (A := some ⟨xb, 0, none⟩) (m := 1800) (hb := hpl)) (h := ?_)
              refine nx (h := ?_)
              refine two 11 12 (h1 := ?_) (h2 := ?_)
              · skip
                refine WL.y (hy := ldEW (A := some ⟨xb, 0, none⟩) (hk := hta)) (h := ?_)
                refine nx (h := ?_)
                refine one 12 (h := ?_)
                refine al (h := fun bx => ?_)
                refine nx (h := ?_)
                refine one 13 (h := ?_)
                first | refine stA (h := ?_) | refine stEA (h := ?_)
                refine nx (h := ?_)
                refine dn (h := ?_)
                exact ctn bx trivial (by repeat (first | exact trivial | refine ⟨rfl, ?_⟩)) (by repeat (first | exact SubL.nil | (apply SubL.cons; (repeat (first | exact At.here | apply At.there))) | exact SubL.refl _ | apply SubL.skip))
              · skip
                refine al (h := fun bx => ?_)
                refine nx (h := ?_)
                refine one 11 (h := ?_)
                refine WL.y (hy := ldEW (A := some ⟨xb, 0, none⟩) (hk := hta)) (h := ?_)
                refine nx (h := ?_)
                refine one 13 (h := ?_)
                first | refine stA (h := ?_) | refine stEA (h := ?_)
                refine nx (h := ?_)
                refine dn (h := ?_)
                exact ctn bx trivial (by repeat (first | exact trivial | refine ⟨rfl, ?_⟩)) (by repeat (first | exact SubL.nil | (apply SubL.cons; (repeat (first | exact At.here | apply At.there))) | exact SubL.refl _ | apply SubL.skip))
            · skip
              refine al (h := fun bx => ?_)
              refine nx (h := ?_)
              refine one 10 (h := ?_)
              refine WL.y (hy := ix (A := some ⟨xb, 0, none⟩) (m := 1800) (hb := hpl)) (h := ?_)
              refine nx (h := ?_)
              refine one 11 (h := ?_)
              refine WL.y (hy := ldEW (A := some ⟨xb, 0, none⟩) (hk := hta)) (h := ?_)
              refine nx (h := ?_)
              refine one 13 (h := ?_)
              first | refine stA (h := ?_) | refine stEA (h := ?_)
              refine nx (h := ?_)
              refine dn (h := ?_)
              exact ctn bx trivial (by repeat (first | exact trivial | refine ⟨rfl, ?_⟩)) (by repeat (first | exact SubL.nil | (apply SubL.cons; (repeat (first | exact At.here | apply At.there))) | exact SubL.refl _ | apply SubL.skip))
          · skip
            refine al (h := fun bx => ?_)
            refine nx (h := ?_)
            refine one 9 (h := ?_)
            refine cl0 (hc := fun w hS => C_ref9_place (wonV b.st) b.g (t1V b) (by omega) (by omega) ht1r w) (h := ?_)
            refine nx (h := ?_)
            refine one 10 (h := ?_)
            refine WL.y (hy := ix (A := some ⟨xb, 0, none⟩) (m := 1800) (hb := hpl)) (h := ?_)
            refine nx (h := ?_)
            refine one 11 (h := ?_)
            refine WL.y (hy := ldEW (A := some ⟨xb, 0, none⟩) (hk := hta)) (h := ?_)
            refine nx (h := ?_)
            refine one 13 (h := ?_)
            first | refine stA (h := ?_) | refine stEA (h := ?_)
            refine nx (h := ?_)
            refine dn (h := ?_)
            exact ctn bx trivial (by repeat (first | exact trivial | refine ⟨rfl, ?_⟩)) (by repeat (first | exact SubL.nil | (apply SubL.cons; (repeat (first | exact At.here | apply At.there))) | exact SubL.refl _ | apply SubL.skip))
        · skip
          refine al (h := fun bx => ?_)
          refine nx (h := ?_)
          refine one 4 (h := ?_)
          refine cl (hc := fun w hS => C_ref9_courses f (numV b) (rangeE f).high hf (by omega) (by omega) w) (h := fun xb _ => ?_)
          refine nx (h := ?_)
          refine one 9 (h := ?_)
          refine cl0 (hc := fun w hS => C_ref9_place (wonV b.st) b.g (t1V b) (by omega) (by omega) ht1r w) (h := ?_)
          refine nx (h := ?_)
          refine one 10 (h := ?_)
          refine WL.y (hy := ix (A := some ⟨xb, 0, none⟩) (m := 1800) (hb := hpl)) (h := ?_)
          refine nx (h := ?_)
          refine one 11 (h := ?_)
          refine WL.y (hy := ldEW (A := some ⟨xb, 0, none⟩) (hk := hta)) (h := ?_)
          refine nx (h := ?_)
          refine one 13 (h := ?_)
          first | refine stA (h := ?_) | refine stEA (h := ?_)
          refine nx (h := ?_)
          refine dn (h := ?_)
          exact ctn bx trivial (by repeat (first | exact trivial | refine ⟨rfl, ?_⟩)) (by repeat (first | exact SubL.nil | (apply SubL.cons; (repeat (first | exact At.here | apply At.there))) | exact SubL.refl _ | apply SubL.skip))
      rintro bx -
      refine sq (h := ?_)
      refine sq (h := ?_)
      refine rg (h := ?_)
      refine WL.y (hy := (by first | exact fa | exact faE)) (h := ?_)
      refine WL.y (hy := (by first | exact ldA | exact ldEA)) (h := ?_)
      refine WL.y (hy := bd) (h := ?_)
      refine WL.y (hy := eqlT) (h := ?_)
      refine WL.y (hy := mv) (h := ?_)
      apply brAnd 5 144 149 (by exact rfl)
      · intro hb8
        refine un (h := ?_)
        refine WL.y (hy := (by first | exact fa | exact faE)) (h := ?_)
        refine un (h := ?_)
        refine WL.y (hy := (by first | exact ldA | exact ldEA)) (h := ?_)
        refine un (h := ?_)
        refine WL.y (hy := bd) (h := ?_)
        refine un (h := ?_)
        refine WL.y (hy := eqlT) (h := ?_)
        refine WL.y (hy := (by first | exact pkT | exact pkF)) (h := ?_)
        exact mg (by repeat (first | exact trivial | refine ⟨rfl, ?_⟩ | refine ⟨by rw [hb8]; rfl, ?_⟩)) (by repeat (first | exact SubL.nil | (apply SubL.cons; (repeat (first | exact At.here | apply At.there))) | exact SubL.refl _ | apply SubL.skip))
      · intro hb8
        repeat (first | refine un (h := ?_) | refine sk (h := ?_) | refine WL.y (hy := pkF) (h := ?_) | refine WL.y (hy := pkT) (h := ?_))
        exact mg (by repeat (first | exact trivial | refine ⟨rfl, ?_⟩ | refine ⟨by rw [hb8]; rfl, ?_⟩)) (by repeat (first | exact SubL.nil | (apply SubL.cons; (repeat (first | exact At.here | apply At.there))) | exact SubL.refl _ | apply SubL.skip))
      refine nl (h := ?_)
      refine q_seq (h := ?_)
      refine cd (by exact rfl) (fun h9 => ?_) (fun h9 => ?_)
      · skip
        have hz : (isZ b.g && isZ b.p) = true := h9
        have hE : restC f b = bumpC r false true := by rw [restC, hov, cond_false, hz, ← hr]
        refine sq (h := ?_)
        refine rg (h := ?_)
        refine WL.y (hy := (by first | exact fa | exact faE)) (h := ?_)
        refine WL.y (hy := (by first | exact fa | exact faE)) (h := ?_)
        refine WL.y (hy := (by first | exact ld | exact ldE)) (h := ?_)
        refine WL.y (hy := addI) (h := ?_)
        refine WL.y (hy := (by first | exact fa | exact faE)) (h := ?_)
        refine WL.y (hy := (by first | exact fa | exact faE)) (h := ?_)
        first | refine st (h := ?_) | refine stE (h := ?_)
        refine nl (h := ?_)
        refine q_seq (h := ?_)
        refine rg (h := ?_)
        refine WL.y (hy := (by first | exact fa | exact faE)) (h := ?_)
        refine WL.y (hy := (by first | exact fa | exact faE)) (h := ?_)
        refine WL.y (hy := (by first | exact ld | exact ldE)) (h := ?_)
        refine WL.y (hy := addI) (h := ?_)
        refine WL.y (hy := (by first | exact fa | exact faE)) (h := ?_)
        refine WL.y (hy := (by first | exact fa | exact faE)) (h := ?_)
        first | refine st (h := ?_) | refine stE (h := ?_)
        refine nl (h := ?_)
        refine q_seq (h := ?_)
        refine sq (h := ?_)
        refine rg (h := ?_)
        refine WL.y (hy := (by first | exact ldA | exact ldEA)) (h := ?_)
        first | refine stA (h := ?_) | refine stEA (h := ?_)
        refine nl (h := ?_)
        refine q_seq (h := ?_)
        refine rtn (h := ?_)
        refine q_ret (hR := ?_)
        rw [hE, bumpC, show bz false = 0 from rfl, show bz true = 1 from rfl, Int.add_zero, Int.add_zero]
        exact fun w hS => ⟨rfl, hS.sub (by repeat (first | exact SubL.nil | (apply SubL.cons; (repeat (first | exact At.here | apply At.there))) | exact SubL.refl _ | apply SubL.skip))⟩
      · skip
        have hz : (isZ b.g && isZ b.p) = false := h9
        have hE : restC f b = bumpC r false false := by rw [restC, hov, cond_false, hz, ← hr]
        refine skp (h := ?_)
        refine q_seq (h := ?_)
        refine sq (h := ?_)
        refine rg (h := ?_)
        refine WL.y (hy := (by first | exact ldA | exact ldEA)) (h := ?_)
        first | refine stA (h := ?_) | refine stEA (h := ?_)
        refine nl (h := ?_)
        refine q_seq (h := ?_)
        refine rtn (h := ?_)
        refine q_ret (hR := ?_)
        rw [hE, bumpC, show bz false = 0 from rfl, Int.add_zero, Int.add_zero, Int.add_zero, Int.add_zero]
        exact fun w hS => ⟨rfl, hS.sub (by repeat (first | exact SubL.nil | (apply SubL.cons; (repeat (first | exact At.here | apply At.there))) | exact SubL.refl _ | apply SubL.skip))⟩
theorem C_ref9_Rest (f : Fmt) (b : Brd) (A : Option Addr) (n c : Nat) (hcc : n ≤ c) (w : World) (h : Rd w A 2 n (encP b.st)) (hn : n ≤ 1000) : C0 Try.prog 19 [f.val, b.val A n c] w (.tuple (restR f b).toArray) := by
  obtain ⟨is, e, hA, hL, hfa⟩ := check_form f b
  refine ⟨en Try.func19 Try.ntmps19 ((St.init w).share (e := .ro A 2 n (encP b.st)) h rfl rfl rfl) (h := fun F => ?_)⟩
  refine sq (h := ?_)
  refine rg (h := ?_)
  refine bxA (h := fun b0 => ?_)
  refine bxA (h := fun b1 => ?_)
  refine al (h := fun b2 => ?_)
  refine al (h := fun b3 => ?_)
  refine WL.y (hy := asg) (h := ?_)
  refine nl (h := ?_)
  refine q_seq (h := ?_)
  refine sq (h := ?_)
  refine rg (h := ?_)
  refine WL.y (hy := (by first | exact ldA | exact ldEA)) (h := ?_)
  refine WL.y (hy := (by first | exact ldA | exact ldEA)) (h := ?_)
  refine cl0 (hc := fun w hS => C_ref1_Arises f b A n c hcc w (hS.get (by repeat (first | exact Rds.ro | exact Rds.own | apply Rds.there))) hn) (h := ?_)
  rw [hA]
  refine WL.y (hy := mv) (h := ?_)
  refine WL.y (hy := ex) (h := ?_)
  refine WL.y (hy := ex) (h := ?_)
  refine WL.y (hy := asg) (h := ?_)
  refine WL.y (hy := asg) (h := ?_)
  refine nl (h := ?_)
  refine q_seq (h := ?_)
  refine sq (h := ?_)
  refine sq (h := ?_)
  refine rg (h := ?_)
  refine WL.y (hy := mv) (h := ?_)
  refine WL.y (hy := neq) (h := ?_)
  refine nl (h := ?_)
  refine q_seq (h := ?_)
  refine cd (by exact rfl) (fun h0 => ?_) (fun h0 => ?_)
  · skip
    have hne : (!decide (checkE f b = 0)) = true := by rw [hL, h0]; exact h0
    have hE : restR f b = [pv (0, 0), pv (0, 0), .int .i64 e] := by rw [restR, hne, hL, h0]; rfl
    refine sq (h := ?_)
    refine rg (h := ?_)
    refine WL.y (hy := bd) (h := ?_)
    refine WL.y (hy := bd) (h := ?_)
    refine WL.y (hy := mv) (h := ?_)
    first | refine stA (h := ?_) | refine stEA (h := ?_)
    first | refine stA (h := ?_) | refine stEA (h := ?_)
    refine WL.y (hy := asg) (h := ?_)
    refine nl (h := ?_)
    refine q_seq (h := ?_)
    refine rtn (h := ?_)
    refine q_then_ret (h := ?_)
    refine q_ret (hR := ?_)
    rw [hE]
    exact fun w hS => ⟨rfl, hS.sub (by repeat (first | exact SubL.nil | (apply SubL.cons; (repeat (first | exact At.here | apply At.there))) | exact SubL.refl _ | apply SubL.skip))⟩
  · skip
    have he0 : e = 0 := by simpa using h0
    obtain ⟨hck, hbo, hari⟩ := hfa he0
    rw [h0, cond_false] at hL
    refine skp (h := ?_)
    refine q_seq (h := ?_)
    refine sq (h := ?_)
    refine sq (h := ?_)
    refine rg (h := ?_)
    refine WL.y (hy := mv) (h := ?_)
    refine WL.y (hy := notB) (h := ?_)
    refine nl (h := ?_)
    refine q_seq (h := ?_)
    refine cd (by exact rfl) (fun h1 => ?_) (fun h1 => ?_)
    · skip
      have hE : restR f b = [pv (0, 0), pv (0, 0), .int .i64 12] := by rw [restR, hL, h1]; rfl
      refine sq (h := ?_)
      refine rg (h := ?_)
      refine WL.y (hy := bd) (h := ?_)
      refine WL.y (hy := bd) (h := ?_)
      first | refine stA (h := ?_) | refine stEA (h := ?_)
      first | refine stA (h := ?_) | refine stEA (h := ?_)
      refine WL.y (hy := asg) (h := ?_)
      refine nl (h := ?_)
      refine q_seq (h := ?_)
      refine rtn (h := ?_)
      refine q_then_ret (h := ?_)
      refine q_ret (hR := ?_)
      rw [hE]
      exact fun w hS => ⟨rfl, hS.sub (by repeat (first | exact SubL.nil | (apply SubL.cons; (repeat (first | exact At.here | apply At.there))) | exact SubL.refl _ | apply SubL.skip))⟩
    · skip
      have his : is = true := by simpa using h1
      rw [h1, cond_false] at hL
      refine skp (h := ?_)
      refine q_seq (h := ?_)
      refine sq (h := ?_)
      refine sq (h := ?_)
      refine rg (h := ?_)
      refine WL.y (hy := (by first | exact ldA | exact ldEA)) (h := ?_)
      refine cl0 (hc := fun w hS => C_ref1_Range f w) (h := ?_)
      rw [rangeR_ok hck]
      refine WL.y (hy := mv) (h := ?_)
      refine WL.y (hy := ex) (h := ?_)
      refine WL.y (hy := ex) (h := ?_)
      refine WL.y (hy := ex) (h := ?_)
      refine al (h := fun b4 => ?_)
      first | refine stA (h := ?_) | refine stEA (h := ?_)
      refine WL.y (hy := asg) (h := ?_)
      refine WL.y (hy := asg) (h := ?_)
      refine nl (h := ?_)
      refine q_seq (h := ?_)
      refine sq (h := ?_)
      refine rg (h := ?_)
      refine WL.y (hy := (by first | exact fa | exact faE)) (h := ?_)
      refine WL.y (hy := (by first | exact ld | exact ldE)) (h := ?_)
      refine WL.y (hy := lss) (h := ?_)
      refine nl (h := ?_)
      refine q_seq (h := ?_)
      refine cd (by exact rfl) (fun h2 => ?_) (fun h2 => ?_)
      · skip
        have hE : restR f b = [pv (0, 0), pv (0, 0), .int .i64 3] := by rw [restR, hL, h2]; rfl
        refine sq (h := ?_)
        refine rg (h := ?_)
        refine WL.y (hy := bd) (h := ?_)
        refine WL.y (hy := bd) (h := ?_)
        first | refine stA (h := ?_) | refine stEA (h := ?_)
        first | refine stA (h := ?_) | refine stEA (h := ?_)
        refine WL.y (hy := asg) (h := ?_)
        refine nl (h := ?_)
        refine q_seq (h := ?_)
        refine rtn (h := ?_)
        refine q_then_ret (h := ?_)
        refine q_ret (hR := ?_)
        rw [hE]
        exact fun w hS => ⟨rfl, hS.sub (by repeat (first | exact SubL.nil | (apply SubL.cons; (repeat (first | exact At.here | apply At.there))) | exact SubL.refl _ | apply SubL.skip))⟩
      · skip
        have hhi := h2
        have hE : restR f b = [pv (restC f b).1, pv (restC f b).2, .int .i64 0] := by rw [restR, hL, h2]; rfl
        refine skp (h := ?_)
        refine q_seq (h := ?_)
        refine sq (h := ?_)
        refine rg (h := ?_)
        refine WL.y (hy := (by first | exact ldA | exact ldEA)) (h := ?_)
        refine WL.y (hy := (by first | exact ldA | exact ldEA)) (h := ?_)
        refine cl0 (hc := fun w hS => C_ref9_rest f b hck hbo (hari.trans his) (of_decide_eq_false hhi) A n c hcc w (hS.get (by repeat (first | exact Rds.ro | exact Rds.own | apply Rds.there)))) (h := ?_)
        refine al (h := fun bx => ?_)
        first | refine stA (h := ?_) | refine stEA (h := ?_)
        refine nl (h := ?_)
        refine q_seq (h := ?_)
        refine sq (h := ?_)
        refine rgD (by kernel_rfl) [(1000000, .blk bx 109 (ccs (restC f b))), (4, .blk b2 39 [.int .i64 0, .int .i64 0]), (5, .blk b3 39 [.int .i64 0, .int .i64 0])] (by repeat (first | exact HS.nil | (apply HS.keep; (repeat (first | exact At.here | apply At.there))) | (apply HS.ro; (repeat (first | exact Rds.ro | exact Rds.own | apply Rds.there))))) (h := ?_)
        refine tk 0 (hy := (by first | exact fa | exact faE)) (h := ?_)
        refine tk 1 (hy := (by first | exact ldA | exact ldEA)) (h := ?_)
        refine tk 2 (hy := (by first | exact fa | exact faE)) (h := ?_)
        refine tk 3 (hy := (by first | exact ldA | exact ldEA)) (h := ?_)
        refine one 4 (h := ?_)
        first | refine stA (h := ?_) | refine stEA (h := ?_)
        refine nx (h := ?_)
        refine one 5 (h := ?_)
        first | refine stA (h := ?_) | refine stEA (h := ?_)
        refine nx (h := ?_)
        refine tk 6 (hy := asg) (h := ?_)
        refine dn (h := ?_)
        refine q_seq (h := ?_)
        refine rtn (h := ?_)
        refine q_ret (hR := ?_)
        rw [hE]
        exact fun w hS => ⟨rfl, hS.sub (by repeat (first | exact SubL.nil | (apply SubL.cons; (repeat (first | exact At.here | apply At.there))) | exact SubL.refl _ | apply SubL.skip))⟩
end Go.Proofs.Ytacaojifempclaa

namespace Go.Proofs.Ytacaojifempclaa
open Go Go.RowKit

section
variable {F : Fence} {P : Program} {ops : Array Oper} {Q : Exit → Act → World → Prop} {rest : List Oper} {n : Nat} {D : List Deferred} {l : Env} {w0 : World} {L M : List Ent}
variable {d : Nat} {ty : TypeId} {pos : String} {aft : Array Edge}

theorem Spl.thr {L Lp R : List Ent} {e : Ent} (h : Spl L Lp R) : Spl (e :: L) Lp (e :: R) := by
  induction h with
  | nil => exact .nil
  | cons h _ ih => exact .cons (.there h) ih
theorem ldP {x : Operand} {t : TypeId} {size bytes : Nat} {z : Value} {zl : List Value} (hT : Ty P t true size bytes z zl := by infer_instance) {b o : Nat} {T : TypeId} {cs vs : List Value}
    (hx : ev l x = some (.pointer (some ⟨b, o, none⟩)) := by exact rfl) (ha : At L (.blk b T cs) M := by repeat (first | exact At.here | apply At.there))
    (hl : vs.length = size := by rfl) (hc : ∀ j v, vs[j]? = some v → cs[o + j]? = some v) : Yd P n D l w0 L (.load t x) (.agg vs.toArray) :=
  ⟨by simp, by simp, fun oo ho ac w hfr hst => by
    have hcell : ∀ j v, vs[j]? = some v → w.cell? ((⟨b, o, none⟩ : Addr).add j) = some v := fun j v hj => by
      rw [add_lit, hst.cell ha]; exact hc j v hj
    simp [execOp, ho, hfr.eval hx, Instr.loadAt, Instr.sureAddr, run_loadVarA hT hl hcell]⟩
theorem ldW {x : Operand} {t : TypeId} {size bytes : Nat} {z : Value} {zl : List Value} (hT : Ty P t true size bytes z zl := by infer_instance) {b : Nat} {T : TypeId} {cs : List Value}
    (hx : ev l x = some (.pointer (some ⟨b, 0, none⟩)) := by exact rfl) (ha : At L (.blk b T cs) M := by repeat (first | exact At.here | apply At.there))
    (hl : cs.length = size := by rfl) : Yd P n D l w0 L (.load t x) (.agg cs.toArray) :=
  ldP hT hx ha hl fun j v hj => by rw [Nat.zero_add]; exact hj
theorem stP {x y : Operand} {t : TypeId} {size bytes : Nat} {z : Value} {zl : List Value} (hT : Ty P t true size bytes z zl := by infer_instance) {b o : Nat} {T : TypeId} {cs vs : List Value}
    (hx : ev l x = some (.pointer (some ⟨b, o, none⟩)) := by exact rfl) (hy : ev l y = some (.agg vs.toArray) := by exact rfl) (h1 : ∀ v ∈ vs, v.oneCell' = true) (hsz : vs.length = size)
    (ha : At L (.blk b T cs) M := by repeat (first | exact At.here | apply At.there)) (ho : o + vs.length ≤ cs.length)
    (h : WL F P ops Q rest n D l w0 (.blk b T (putAll cs o vs) :: M)) : WL F P ops Q (⟨none, .store t x y, ty, pos, aft, none⟩ :: rest) n D l w0 L :=
  WL.skipop (by simp) (fun ac w hfr hst => by
    obtain ⟨w', hr, hs⟩ := run_storeCells (P := P) vs cs o 0 w (hst.pull ha) (fun _ => by omega) h1
    rw [Nat.add_zero] at hs
    refine ⟨w', ?_, hs⟩
    simp [execOp, hfr.eval hx, hfr.eval hy, Instr.storeAt, Instr.sureAddr, storeVar, run_sizeOf hT, Value.cells, hsz, hr]) h
theorem stW {x y : Operand} {t : TypeId} {size bytes : Nat} {z : Value} {zl : List Value} (hT : Ty P t true size bytes z zl := by infer_instance) {b : Nat} {T : TypeId} {cs vs : List Value}
    (hx : ev l x = some (.pointer (some ⟨b, 0, none⟩)) := by exact rfl) (hy : ev l y = some (.agg vs.toArray) := by exact rfl) (h1 : ∀ v ∈ vs, v.oneCell' = true) (hsz : vs.length = size)
    (ha : At L (.blk b T cs) M := by repeat (first | exact At.here | apply At.there)) (ho : cs.length = vs.length)
    (h : WL F P ops Q rest n D l w0 (.blk b T vs :: M)) : WL F P ops Q (⟨none, .store t x y, ty, pos, aft, none⟩ :: rest) n D l w0 L :=
  stP hT hx hy h1 hsz ha (by omega) (by rw [putAll_whole vs cs ho]; exact h)
def numE (N : Nat) (F : Nat → Int) : List Value := (List.range N).map fun i => .int .i64 (F i)
theorem numE_len (N : Nat) (F : Nat → Int) : (numE N F).length = N := by simp [numE]
theorem numE_at {N : Nat} {F : Nat → Int} {o : Nat} (h : o < N) : (numE N F)[o]? = some (.int .i64 (F o)) := by
  rw [numE, List.getElem?_map, List.getElem?_range h]; rfl
theorem numE_one {N : Nat} {F : Nat → Int} : ∀ v ∈ numE N F, v.oneCell' = true := fun v hv => by
  obtain ⟨i, _, rfl⟩ := List.mem_map.1 hv
  rfl
theorem numE_set {N : Nat} (F : Nat → Int) (o : Nat) (v : Int) : (numE N F).set o (.int .i64 v) = numE N (fun i => if i = o then v else F i) := by
  refine List.ext_getElem (by simp [numE_len]) fun k h1 h2 => ?_
  rw [List.getElem_set]
  simp only [numE, List.getElem_map, List.getElem_range]
  by_cases e : o = k
  · rw [if_pos e, if_pos e.symm]
  · rw [if_neg e, if_neg (fun x => e x.symm)]
theorem numE_congr {N : Nat} {F G : Nat → Int} (h : ∀ i, i < N → F i = G i) : numE N F = numE N G := by
  unfold numE
  exact List.map_congr_left fun i hi => by rw [h i (List.mem_range.1 hi)]
theorem WL.blkTo {b : Nat} {T : TypeId} {cs : List Value} (cs' : List Value) (ha : At L (.blk b T cs) M) (he : cs = cs') (h : WL F P ops Q rest n D l w0 (.blk b T cs' :: M)) : WL F P ops Q rest n D l w0 L := fun hF a w hfr hst => h hF a w hfr (by
  subst he
  exact hst.sub (.cons ha (SubL.refl _)))
theorem Tk.all {α : Type} : ∀ cs : List α, Tk cs 0 cs.length cs
  | [] => .nil
  | _ :: cs => .cons (Tk.all cs)
theorem tk_num (N : Nat) (F : Nat → Int) : Tk (numE N F) 0 N (numE N F) := by
  have := Tk.all (numE N F)
  rwa [numE_len] at this
theorem ixv {x i : Operand} {t e : TypeId} {len size bytes : Nat} {z : Value} {zl : List Value} {k : IntKind} {j : Int} {cs : List Value} (hT : ArrayTy P t len e := by infer_instance) (hE : Ty P e true size bytes z zl := by infer_instance)
    (hx : ev l x = some (.agg cs.toArray) := by exact rfl) (hi : ev l i = some (.int k j) := by exact rfl) (hb : 0 ≤ j ∧ j < len := by omega) : Yd P n D l w0 L (.index t x i) (.agg ((cs.drop (j.toNat * size)).take size).toArray) :=
  ⟨by simp, by simp, fun oo ho ac w hfr hst => by
    simp [execOp, ho, hfr.eval hx, hfr.eval hi, Instr.index, asIntOf, run_underlying hT.und, hb, run_sizeOf hE, part, run_isAgg hE, List.extract_toArray]⟩
theorem slA {x : Operand} {t e : TypeId} {len size bytes b o : Nat} {agg : Bool} {z : Value} {zl : List Value} (hT : ArrayTy P t len e := by infer_instance) (hE : Ty P e agg size bytes z zl := by infer_instance) {lo : Option Operand} (lo' : Nat)
    (hx : ev l x = some (.pointer (some ⟨b, o, none⟩)) := by exact rfl) (hl : lo = none ∧ lo' = 0 ∨ ∃ y k i, lo = some y ∧ ev l y = some (.int k i) ∧ 0 ≤ i ∧ i ≤ len ∧ lo' = i.toNat) (hne : lo' ≠ len) : Yd P n D l w0 L (.slice t x lo none none) (.slice (some ⟨b, o + lo' * size, none⟩) (len - lo') (len - lo')) :=
  ⟨by simp, by simp, fun oo ho ac w hfr hst => by
    rcases hl with ⟨rfl, rfl⟩ | ⟨y, k, i, rfl, h1, h2, h3, rfl⟩
    · simp [execOp, ho, hfr.eval hx, Instr.sliceAt, Instr.sureAddr, run_underlying hT.und, Instr.sliceBounds, run_sizeOf hE, Addr.add]
    · simp [execOp, ho, hfr.eval hx, hfr.eval h1, Instr.sliceAt, Instr.sureAddr, run_underlying hT.und, Instr.sliceBounds, run_sizeOf hE, sliceBound_ok (P := P) ⟨h2, h3⟩]
      rw [if_neg (fun h => hne h.symm), add_lit]⟩
theorem rd_blkA {w : World} {b o : Nat} {T : TypeId} {cs : List Value} (h : (Ent.blk b T cs).ok w) {size m : Nat} {es : List (List Value)} (hl : es.length = m) (he : ∀ c ∈ es, c.length = size) (ho : ∀ c ∈ es, ∀ v ∈ c, v.oneCell' = true)
    (hc : ∀ k c, es[k]? = some c → ∀ j v, c[j]? = some v → cs[o + (k * size + j)]? = some v) : Rd w (some ⟨b, o, none⟩) size m es := by
  refine ⟨hl, he, fun _ => ⟨_, rfl⟩, fun ad ha k c hk j v hj => ?_, ho⟩
  cases ha
  rw [add_lit, cell_of_row w b _ _ T (0, 0) h]
  simpa using hc k c hk j v hj
end
end Go.Proofs.Ytacaojifempclaa

namespace Go.Proofs.Ytacaojifempclaa
open Go Go.RowKit

structure Fx where
  (day : Int) (f : Fmt) (b : Brd) (A : Option Addr) (c : Nat)
abbrev Fx.enc (x : Fx) : List Value := [.int .i64 x.day, .int .i64 x.f.sets, .int .i64 x.f.games, .bool x.f.noAd, .int .i64 x.f.tie, .int .i64 x.f.to, .int .i64 x.f.ltie, .int .i64 x.f.lto, .int .i64 x.f.first, .int .i64 x.f.thn, .bool x.f.dbl, .slice x.A x.b.st.length x.c, .int .i64 x.b.g.1, .int .i64 x.b.g.2, .int .i64 x.b.p.1, .int .i64 x.b.p.2]
abbrev Fx.val (x : Fx) : Value := .agg #[.int .i64 x.day, .int .i64 x.f.sets, .int .i64 x.f.games, .bool x.f.noAd, .int .i64 x.f.tie, .int .i64 x.f.to, .int .i64 x.f.ltie, .int .i64 x.f.lto, .int .i64 x.f.first, .int .i64 x.f.thn, .bool x.f.dbl, .slice x.A x.b.st.length x.c, .int .i64 x.b.g.1, .int .i64 x.b.g.2, .int .i64 x.b.p.1, .int .i64 x.b.p.2]
structure Fx.ok (x : Fx) (w : World) : Prop where
  r : Rd w x.A 2 x.b.st.length (encP x.b.st)
  n : x.b.st.length ≤ x.c
  c : x.c ≤ 9223372036854775807
structure Cx where
  (day item count : Int)
abbrev Cx.enc (x : Cx) : List Value := [.int .i64 x.day, .int .i64 x.item, .int .i64 x.count]
structure Dp where
  (each tow fra : Int) (st : List Int) (fx : List Fx) (cr : List Cx)
structure DA where
  (sA fA cA : Option Addr) (sc fc cc : Nat)
abbrev Dp.cells (d : Dp) (a : DA) : List Value := [.int .i64 d.each, .int .i64 d.tow, .int .i64 d.fra, .slice a.sA d.st.length a.sc, .slice a.fA d.fx.length a.fc, .slice a.cA d.cr.length a.cc]
abbrev Dp.val (d : Dp) (a : DA) : Value := .agg #[.int .i64 d.each, .int .i64 d.tow, .int .i64 d.fra, .slice a.sA d.st.length a.sc, .slice a.fA d.fx.length a.fc, .slice a.cA d.cr.length a.cc]
structure DpR (w : World) (d : Dp) (a : DA) : Prop where
  s : Rd w a.sA 1 d.st.length (encI d.st)
  f : Rd w a.fA 16 d.fx.length (d.fx.map Fx.enc)
  c : Rd w a.cA 3 d.cr.length (d.cr.map Cx.enc)
  x : ∀ y ∈ d.fx, y.ok w
  sc : d.st.length ≤ 9223372036854775807
  fc : d.fx.length ≤ 9223372036854775807
  cc : d.cr.length ≤ 9223372036854775807
def kitB (d : Dp) : Bool := wi d.each 0 20 && wi d.tow 0 20 && wi d.fra 0 20
def lenB (d : Dp) : Bool := !(!decide ((d.st.length : Int) = 3) || decide (30 < (d.fx.length : Int)) || decide (30 < (d.cr.length : Int)))
def stB (d : Dp) : Bool := d.st.all fun n => wi n 0 99999
def fxOk (x : Fx) : Bool := !(!wi x.day 0 60 || !decide (checkE x.f x.b = 0))
def fxB (d : Dp) : Bool := d.fx.all fxOk
def crOk (c : Cx) : Bool := !(!wi c.day 0 60 || !wi c.item 0 2 || !wi c.count 0 99999)
def crB (d : Dp) : Bool := d.cr.all crOk
def depOk (d : Dp) : Bool := kitB d && lenB d && stB d && fxB d && crB d
def depE (d : Dp) : Int := bif depOk d then 0 else 90
section
variable {d : Dp}
theorem dep_kit (h : kitB d = false) : depE d = 90 := by rw [depE, depOk, h]; rfl
theorem dep_len (h : lenB d = false) : depE d = 90 := by rw [depE, depOk, h, Bool.and_false]; rfl
theorem dep_st (h : stB d = false) : depE d = 90 := by rw [depE, depOk, h, Bool.and_false]; rfl
theorem dep_fx (h : fxB d = false) : depE d = 90 := by rw [depE, depOk, h, Bool.and_false]; rfl
theorem dep_cr (h : crB d = false) : depE d = 90 := by rw [depE, depOk, h, Bool.and_false]; rfl
theorem dep_yes (h1 : kitB d = true) (h2 : lenB d = true) (h3 : stB d = true) (h4 : fxB d = true) (h5 : crB d = true) : depE d = 0 := by rw [depE, depOk, h1, h2, h3, h4, h5]; rfl
theorem dep_ok (h : depE d = 0) : depOk d = true := by
  unfold depE at h
  cases e : depOk d
  · rw [e] at h; cases h
  · rfl
end
theorem all_to {α : Type} {l : List α} {p : α → Bool} (h : ∀ i x, i < l.length → l[i]? = some x → p x = true) : l.all p = true :=
  List.all_eq_true.2 fun x hx => by
    obtain ⟨i, hi, e⟩ := List.getElem_of_mem hx
    exact h i x hi (by rw [List.getElem?_eq_getElem hi, e])
theorem all_no {α : Type} {l : List α} {p : α → Bool} {i : Nat} {x : α} (hx : l[i]? = some x) (h : p x = false) : l.all p = false := by
  cases e : l.all p
  · rfl
  · have := List.all_eq_true.1 e x (List.mem_of_getElem? hx)
    rw [h] at this; cases this
theorem map_at {α β : Type} {f : α → β} {l : List α} {k : Nat} {x : α} (h : l[k]? = some x) : (l.map f)[k]? = some (f x) := by rw [List.getElem?_map, h]; rfl
def Upto {α : Type} (l : List α) (p : α → Bool) (k : Nat) : Prop := ∀ i x, i < k → l[i]? = some x → p x = true
theorem upto_zero {α : Type} {l : List α} {p : α → Bool} : Upto l p 0 := fun i x hi => by omega
theorem upto_succ {α : Type} {l : List α} {p : α → Bool} {k : Nat} {x : α} (h : Upto l p k) (hx : l[k]? = some x) (hp : p x = true) : Upto l p (k + 1) := fun i y hi hy => by
  by_cases e : i = k
  · subst e
    rw [hx] at hy
    rw [← Option.some.inj hy]; exact hp
  · exact h i y (by omega) hy
theorem C_balls_within (n lo hi : Int) (w : World) : C0 Try.prog 67 [.int .i64 n, .int .i64 lo, .int .i64 hi] w (.bool (wi n lo hi)) := by
  refine ⟨en Try.func67 Try.ntmps67 (St.init w) (h := fun F => ?_)⟩
  refine sq (h := ?_)
  refine rg (h := ?_)
  refine WL.y (hy := asg) (h := ?_)
  refine nl (h := ?_)
  refine q_seq (h := ?_)
  refine sq (h := ?_)
  refine rg (h := ?_)
  refine WL.y (hy := mv) (h := ?_)
  refine WL.y (hy := mv) (h := ?_)
  refine WL.y (hy := leq) (h := ?_)
  refine WL.y (hy := mv) (h := ?_)
  apply brAnd 4 10 14 (by exact rfl)
  · intro hb0
    refine un (h := ?_)
    refine WL.y (hy := mv) (h := ?_)
    refine un (h := ?_)
    refine WL.y (hy := mv) (h := ?_)
    refine un (h := ?_)
    refine WL.y (hy := leq) (h := ?_)
    refine WL.y (hy := (by first | exact pkT | exact pkF)) (h := ?_)
    exact mg (by repeat (first | exact trivial | refine ⟨rfl, ?_⟩ | refine ⟨by rw [hb0]; rfl, ?_⟩)) (by repeat (first | exact SubL.nil | (apply SubL.cons; (repeat (first | exact At.here | apply At.there))) | exact SubL.refl _ | apply SubL.skip))
  · intro hb0
    repeat (first | refine un (h := ?_) | refine sk (h := ?_) | refine WL.y (hy := pkF) (h := ?_) | refine WL.y (hy := pkT) (h := ?_))
    exact mg (by repeat (first | exact trivial | refine ⟨rfl, ?_⟩ | refine ⟨by rw [hb0]; rfl, ?_⟩)) (by repeat (first | exact SubL.nil | (apply SubL.cons; (repeat (first | exact At.here | apply At.there))) | exact SubL.refl _ | apply SubL.skip))
  refine WL.y (hy := asg) (h := ?_)
  refine nl (h := ?_)
  refine q_seq (h := ?_)
  refine rtn (h := ?_)
  refine q_ret (hR := ?_)
  exact fun w hS => ⟨rfl, hS.sub (by repeat (first | exact SubL.nil | (apply SubL.cons; (repeat (first | exact At.here | apply At.there))) | exact SubL.refl _ | apply SubL.skip))⟩
theorem C_Check1 (n : Int) (w : World) : C0 Try.prog 66 [.int .i64 n] w (.bool (wi n 0 99999)) := by
  refine ⟨en Try.func66 Try.ntmps66 (St.init w) (h := fun F => ?_)⟩
  refine sq (h := ?_)
  refine rg (h := ?_)
  refine WL.y (hy := asg) (h := ?_)
  refine nl (h := ?_)
  refine q_seq (h := ?_)
  refine sq (h := ?_)
  refine rg (h := ?_)
  refine WL.y (hy := mv) (h := ?_)
  refine cl0 (hc := fun w hS => C_balls_within _ _ _ w) (h := ?_)
  refine WL.y (hy := asg) (h := ?_)
  refine nl (h := ?_)
  refine q_seq (h := ?_)
  refine rtn (h := ?_)
  refine q_ret (hR := ?_)
  exact fun w hS => ⟨rfl, hS.sub (by repeat (first | exact SubL.nil | (apply SubL.cons; (repeat (first | exact At.here | apply At.there))) | exact SubL.refl _ | apply SubL.skip))⟩
theorem T_Check2 (n : Int) (a0 : Nat) : Tr Try.prog 69 [.int .i64 n, .pointer (some ⟨a0, 0, none⟩)] [.blk a0 119 [.func (.func 66) #[] #[]]] (fun _ : Unit => True) (fun _ => .bool (!wi n 0 99999)) (fun _ => [.blk a0 119 [.func (.func 66) #[] #[]]]) := by
  refine ⟨fun w0 w R hst => ?_⟩
  refine en Try.func69 Try.ntmps69 hst (h := fun F => ?_)
  refine sq (h := ?_)
  refine rg (h := ?_)
  refine WL.y (hy := asg) (h := ?_)
  refine nl (h := ?_)
  refine q_seq (h := ?_)
  refine sq (h := ?_)
  refine rg (h := ?_)
  refine WL.y (hy := (by first | exact ld | exact ldE)) (h := ?_)
  refine WL.y (hy := mv) (h := ?_)
  refine clfT inferInstance (fi := []) (cap := []) (by exact rfl) (by repeat (first | exact Evs.nil | (apply Evs.cons; exact rfl))) (C0.tr [] (C_Check1 n)) rfl Spl.nil (h := fun _ _ => ?_)
  refine WL.y (hy := notB) (h := ?_)
  refine WL.y (hy := asg) (h := ?_)
  refine nl (h := ?_)
  refine q_seq (h := ?_)
  refine rtn (h := ?_)
  refine q_ret (hR := ?_)
  exact fun w hS => ⟨(), trivial, rfl, hS.sub (by repeat (first | exact SubL.nil | (apply SubL.cons; (repeat (first | exact At.here | apply At.there))) | exact SubL.refl _ | apply SubL.skip))⟩
theorem T_IndexIntB {E : Ent} {A : Option Addr} {n c : Nat} {ws : List Int} (hE : ∀ w, E.ok w → Rd w A 1 n (encI ws)) {g : FuncId} (hg : FnOk Try.prog g) (fi cap : List Value) (Lp : List Ent) (p : Int → Bool) (hn : n ≤ 9223372036854775807) (hlen : ws.length = n)
    (hp : ∀ x ∈ ws, Tr Try.prog g (fi ++ [.int .i64 x] ++ cap) Lp (fun _ : Unit => True) (fun _ => .bool (p x)) (fun _ => Lp)) :
    Tr Try.prog 102 [.slice A n c, .func (.func g) fi.toArray cap.toArray] (E :: Lp) (Fst (pAt ws p) n) (fun j => .int .i64 j) (fun _ => E :: Lp) := by
  refine ⟨fun w0 w R hst => ?_⟩
  refine en Try.func102 Try.ntmps102 hst (h := fun F => ?_)
  refine sq (h := ?_)
  refine rg (h := ?_)
  refine WL.y (hy := asg) (h := ?_)
  refine nl (h := ?_)
  refine q_seq (h := ?_)
  refine sq (h := ?_)
  refine sq (h := ?_)
  refine rg (h := ?_)
  refine WL.y (hy := mv) (h := ?_)
  refine WL.y (hy := lenS) (h := ?_)
  refine WL.y (hy := mv) (h := ?_)
  refine nl (h := ?_)
  refine q_seq (h := ?_)
  refine bk (h := ?_)
  refine lp (X := Nat) (I := fun k => k ≤ n ∧ ∀ i, i < k → pAt ws p i = false) (le := fun k => [(0, .slice A n c), (1, .func (.func g) fi.toArray cap.toArray), (7, .int .i64 n), (8, .int .i64 k)]) (Le := fun _ => E :: (Lp ++ R)) (μ := fun k => n - k) 0 ⟨by omega, fun i hi => by omega⟩ (by repeat (first | exact trivial | refine ⟨rfl, ?_⟩)) (SubL.refl _) (fun k hk => ?_)
  obtain ⟨hk, hall⟩ := hk
  refine sq (h := ?_)
  refine rg (h := ?_)
  refine WL.y (hy := lss) (h := ?_)
  refine nl (h := ?_)
  refine q_seq (h := ?_)
  refine sq (h := ?_)
  refine cd (by exact rfl) (fun h0 => ?_) (fun h0 => ?_)
  · skip
    have hkn : k < n := by simp only [decide_eq_true_eq] at h0; omega
    obtain ⟨x, hx⟩ : ∃ x, ws[k]? = some x := ⟨_, List.getElem?_eq_getElem (by omega)⟩
    have hxe := encI_at hx
    refine skp (h := ?_)
    refine q_seq (h := ?_)
    refine sq (h := ?_)
    refine bk (h := ?_)
    refine sq (h := ?_)
    refine rg (h := ?_)
    refine WL.y (hy := mv) (h := ?_)
    refine WL.y (hy := asg) (h := ?_)
    refine nl (h := ?_)
    refine q_seq (h := ?_)
    refine sq (h := ?_)
    refine rg (h := ?_)
    refine WL.y (hy := mv) (h := ?_)
    refine WL.y (hy := mv) (h := ?_)
    refine WL.y (hy := mv) (h := ?_)
    refine WL.y (hy := ix (A := A) (m := n) (hr := Rds.any hE)) (h := ?_)
    refine WL.y (hy := ldE (A := A) (hr := Rds.any hE) (hk := hxe)) (h := ?_)
    refine clfT hg (fi := fi) (cap := cap) (by exact rfl) (by repeat (first | exact Evs.nil | (apply Evs.cons; exact rfl))) (hp x (List.mem_of_getElem? hx)) rfl (Spl.thr (Spl.app _ _)) (h := fun _ _ => ?_)
    refine WL.subL (SubL.cons (At.app _ _) (SubL.refl _)) ?_
    refine nl (h := ?_)
    refine q_seq (h := ?_)
    refine cd (by exact rfl) (fun h1 => ?_) (fun h1 => ?_)
    · skip
      refine sq (h := ?_)
      refine rg (h := ?_)
      refine WL.y (hy := mv) (h := ?_)
      refine WL.y (hy := asg) (h := ?_)
      refine nl (h := ?_)
      refine q_seq (h := ?_)
      refine rtn (h := ?_)
      refine q_blk_ret (h := ?_)
      refine q_then_ret (h := ?_)
      refine q_then_ret (h := ?_)
      refine q_blk_ret (h := ?_)
      refine q_then_ret (h := ?_)
      refine q_ret (hR := ?_)
      exact fun w hS => ⟨_, .inl ⟨k, hkn, rfl, by rw [pAt_eq hx]; assumption, hall⟩, rfl, hS⟩
    · skip
      refine skp (h := ?_)
      refine q_blk_norm (h := ?_)
      refine q_seq (h := ?_)
      refine rg (h := ?_)
      refine WL.y (hy := addI) (h := ?_)
      refine WL.y (hy := mv) (h := ?_)
      refine nl (h := ?_)
      refine rn (k + 1) ⟨by omega, fun i hi => ?_⟩ (by omega) (by repeat (first | exact trivial | refine ⟨rfl, ?_⟩)) (SubL.refl _)
      rcases Nat.lt_succ_iff_lt_or_eq.1 hi with h | rfl
      · exact hall i h
      · rw [pAt_eq hx]; assumption
  · skip
    have hkn : k = n := by simp only [decide_eq_false_iff_not] at h0; omega
    refine et (h := ?_)
    refine q_then_exit (h := ?_)
    refine q_then_exit (h := ?_)
    refine q_blk_hit (h := ?_)
    refine q_seq (h := ?_)
    refine sq (h := ?_)
    refine rg (h := ?_)
    refine WL.y (hy := asg) (h := ?_)
    refine nl (h := ?_)
    refine q_seq (h := ?_)
    refine rtn (h := ?_)
    refine q_ret (hR := ?_)
    exact fun w hS => ⟨_, .inr ⟨rfl, by subst hkn; exact hall⟩, rfl, hS⟩
theorem T_ContainsIntB {E : Ent} {A : Option Addr} {n c : Nat} {ws : List Int} (hE : ∀ w, E.ok w → Rd w A 1 n (encI ws)) {g : FuncId} (hg : FnOk Try.prog g) (fi cap : List Value) (Lp : List Ent) (p : Int → Bool) (hn : n ≤ 9223372036854775807) (hlen : ws.length = n)
    (hp : ∀ x ∈ ws, Tr Try.prog g (fi ++ [.int .i64 x] ++ cap) Lp (fun _ : Unit => True) (fun _ => .bool (p x)) (fun _ => Lp)) :
    Tr Try.prog 68 [.slice A n c, .func (.func g) fi.toArray cap.toArray] (E :: Lp) (fun _ : Unit => True) (fun _ => .bool (ws.any p)) (fun _ => E :: Lp) := by
  refine ⟨fun w0 w R hst => ?_⟩
  refine en Try.func68 Try.ntmps68 hst (h := fun F => ?_)
  refine sq (h := ?_)
  refine rg (h := ?_)
  refine WL.y (hy := asg) (h := ?_)
  refine nl (h := ?_)
  refine q_seq (h := ?_)
  refine sq (h := ?_)
  refine rg (h := ?_)
  refine WL.y (hy := mv) (h := ?_)
  refine WL.y (hy := mv) (h := ?_)
  refine clT (hc := T_IndexIntB (c := c) hE hg fi cap Lp p hn hlen hp) (hs := Spl.cons .here (Spl.app _ _)) (h := fun x0 hx0 => ?_)
  refine WL.y (hy := geq) (h := ?_)
  refine WL.y (hy := asg) (h := ?_)
  refine nl (h := ?_)
  refine q_seq (h := ?_)
  refine rtn (h := ?_)
  refine q_ret (hR := ?_)
  exact fun w hS => ⟨(), trivial, by simp only [resV, hx0.any]; rw [← hlen, pAt_any], hS⟩
set_option maxRecDepth 100000 in
set_option maxHeartbeats 2000000 in
theorem C_balls_Check (d : Dp) (a : DA) (w : World) (h : DpR w d a) : C0 Try.prog 29 [d.val a] w (.int .i64 (depE d)) := by
  have hsc := h.sc
  have hfc := h.fc
  have hcc := h.cc
  refine ⟨en Try.func29 Try.ntmps29 ((((St.init w).share (e := .ro a.sA 1 d.st.length (encI d.st)) h.s rfl rfl rfl).share (e := .ro a.fA 16 d.fx.length (d.fx.map Fx.enc)) h.f rfl rfl rfl).share (e := .ro a.cA 3 d.cr.length (d.cr.map Cx.enc)) h.c rfl rfl rfl) (h := fun F => ?_)⟩
  refine sq (h := ?_)
  refine rg (h := ?_)
  refine bxA (h := fun b0 => ?_)
  refine WL.y (hy := asg) (h := ?_)
  refine nl (h := ?_)
  refine q_seq (h := ?_)
  refine sq (h := ?_)
  refine rg (h := ?_)
  refine al (h := fun bf => ?_)
  first | refine st (h := ?_) | refine stE (h := ?_)
  refine nl (h := ?_)
  refine q_seq (h := ?_)
  refine sq (h := ?_)
  refine sq (h := ?_)
  refine rg (h := ?_)
  refine WL.y (hy := (by first | exact fa | exact faE)) (h := ?_)
  refine WL.y (hy := (by first | exact fa | exact faE)) (h := ?_)
  refine WL.y (hy := (by first | exact ld | exact ldE)) (h := ?_)
  refine WL.y (hy := (by first | exact fa | exact faE)) (h := ?_)
  refine WL.y (hy := (by first | exact fa | exact faE)) (h := ?_)
  refine WL.y (hy := (by first | exact ld | exact ldE)) (h := ?_)
  refine WL.y (hy := (by first | exact fa | exact faE)) (h := ?_)
  refine WL.y (hy := (by first | exact fa | exact faE)) (h := ?_)
  refine WL.y (hy := (by first | exact ld | exact ldE)) (h := ?_)
  refine bs (h := fun b2 => ?_)
  refine WL.y (hy := lenS) (h := ?_)
  refine WL.y (hy := mv) (h := ?_)
  refine nl (h := ?_)
  refine q_seq (h := ?_)
  refine bk (h := ?_)
  refine lp (X := Nat) (I := fun k => k ≤ 3 ∧ Upto [d.each, d.tow, d.fra] (fun n => wi n 0 20) k) (le := fun k => [(1, .pointer (some ⟨b0, 0, none⟩)), (3, .pointer (some ⟨bf, 0, none⟩)), (19, .slice (some ⟨b2, 0, none⟩) 3 3), (20, .int .i64 3), (21, .int .i64 k)]) (Le := fun _ => [.own (some ⟨b2, 0, none⟩) 3 3 1 3 (encI [d.each, d.tow, d.fra]), .blk bf 119 [.func (.func 66) #[] #[]], .blk b0 49 (d.cells a), .ro a.sA 1 d.st.length (encI d.st), .ro a.fA 16 d.fx.length (d.fx.map Fx.enc), .ro a.cA 3 d.cr.length (d.cr.map Cx.enc)]) (μ := fun k => 3 - k) 0 ⟨Nat.zero_le _, upto_zero⟩ (by repeat (first | exact trivial | refine ⟨rfl, ?_⟩)) (by repeat (first | exact SubL.nil | (apply SubL.cons; (repeat (first | exact At.here | apply At.there))) | exact SubL.refl _ | apply SubL.skip)) (fun k hk => ?_)
  obtain ⟨hk0, hku⟩ := hk
  refine sq (h := ?_)
  refine rg (h := ?_)
  refine WL.y (hy := lss) (h := ?_)
  refine nl (h := ?_)
  refine q_seq (h := ?_)
  refine sq (h := ?_)
  refine cd (by exact rfl) (fun h0 => ?_) (fun h0 => ?_)
  · skip
    have hk3 : k < 3 := by have := of_decide_eq_true h0; omega
    obtain ⟨m, hm⟩ : ∃ m, [d.each, d.tow, d.fra][k]? = some m := ⟨_, List.getElem?_eq_getElem (by simpa using hk3)⟩
    have hne := encI_at hm
    refine skp (h := ?_)
    refine q_seq (h := ?_)
    refine sq (h := ?_)
    refine bk (h := ?_)
    refine sq (h := ?_)
    refine rg (h := ?_)
    refine WL.y (hy := ix (A := some ⟨b2, 0, none⟩) (m := 3)) (h := ?_)
    refine WL.y (hy := ldE (A := some ⟨b2, 0, none⟩) (hk := hne)) (h := ?_)
    refine WL.y (hy := asg) (h := ?_)
    refine nl (h := ?_)
    refine q_seq (h := ?_)
    refine sq (h := ?_)
    refine rg (h := ?_)
    refine WL.y (hy := mv) (h := ?_)
    refine cl0 (hc := fun w hS => C_balls_within _ _ _ w) (h := ?_)
    refine WL.y (hy := notB) (h := ?_)
    refine nl (h := ?_)
    refine q_seq (h := ?_)
    refine cd (by exact rfl) (fun h1 => ?_) (fun h1 => ?_)
    · skip
      have hE : depE d = 90 := dep_kit (by
        have hm' : wi m 0 20 = false := by simpa using h1
        have hall : ([d.each, d.tow, d.fra].all fun n => wi n 0 20) = false := all_no hm hm'
        rw [kitB, ← hall]
        simp only [List.all_cons, List.all_nil, Bool.and_true, Bool.and_assoc])
      refine sq (h := ?_)
      refine rg (h := ?_)
      refine WL.y (hy := asg) (h := ?_)
      refine nl (h := ?_)
      refine q_seq (h := ?_)
      refine rtn (h := ?_)
      refine q_blk_ret (h := ?_)
      refine q_then_ret (h := ?_)
      refine q_then_ret (h := ?_)
      refine q_blk_ret (h := ?_)
      refine q_then_ret (h := ?_)
      refine q_ret (hR := ?_)
      rw [hE]
      exact fun w hS => ⟨rfl, hS.sub (by repeat (first | exact SubL.nil | (apply SubL.cons; (repeat (first | exact At.here | apply At.there))) | exact SubL.refl _ | apply SubL.skip))⟩
    · skip
      have hmk : wi m 0 20 = true := by simpa using h1
      have hkn := upto_succ hku hm hmk
      refine skp (h := ?_)
      refine q_blk_norm (h := ?_)
      refine q_seq (h := ?_)
      refine rg (h := ?_)
      refine WL.y (hy := addI) (h := ?_)
      refine WL.y (hy := mv) (h := ?_)
      refine nl (h := ?_)
      refine rn (x := k) (k + 1) ⟨by omega, hkn⟩ (by omega) (by repeat (first | exact trivial | refine ⟨rfl, ?_⟩)) (by repeat (first | exact SubL.nil | (apply SubL.cons; (repeat (first | exact At.here | apply At.there))) | exact SubL.refl _ | apply SubL.skip))
  · skip
    have hk3 : k = 3 := by have := of_decide_eq_false h0; omega
    have hkit : kitB d = true := by
      rw [hk3] at hku
      have k0 : wi d.each 0 20 = true := hku 0 d.each (by omega) rfl
      have k1 : wi d.tow 0 20 = true := hku 1 d.tow (by omega) rfl
      have k2 : wi d.fra 0 20 = true := hku 2 d.fra (by omega) rfl
      rw [kitB, k0, k1, k2]; rfl
    refine et (h := ?_)
    refine q_then_exit (h := ?_)
    refine q_then_exit (h := ?_)
    refine q_blk_hit (h := ?_)
    refine q_seq (h := ?_)
    refine sq (h := ?_)
    refine sq (h := ?_)
    refine rg (h := ?_)
    refine WL.y (hy := (by first | exact fa | exact faE)) (h := ?_)
    refine WL.y (hy := (by first | exact ld | exact ldE)) (h := ?_)
    refine WL.y (hy := lenS) (h := ?_)
    refine WL.y (hy := neq) (h := ?_)
    refine WL.y (hy := mv) (h := ?_)
    apply brOr 5 33 38 (by exact rfl)
    · intro hb2
      refine un (h := ?_)
      refine WL.y (hy := (by first | exact fa | exact faE)) (h := ?_)
      refine un (h := ?_)
      refine WL.y (hy := (by first | exact ld | exact ldE)) (h := ?_)
      refine un (h := ?_)
      refine WL.y (hy := lenS) (h := ?_)
      refine un (h := ?_)
      refine WL.y (hy := gtr) (h := ?_)
      refine WL.y (hy := (by first | exact pkT | exact pkF)) (h := ?_)
      exact mg (by repeat (first | exact trivial | refine ⟨rfl, ?_⟩ | refine ⟨by rw [hb2]; rfl, ?_⟩)) (by repeat (first | exact SubL.nil | (apply SubL.cons; (repeat (first | exact At.here | apply At.there))) | exact SubL.refl _ | apply SubL.skip))
    · intro hb2
      repeat (first | refine un (h := ?_) | refine sk (h := ?_) | refine WL.y (hy := pkF) (h := ?_) | refine WL.y (hy := pkT) (h := ?_))
      exact mg (by repeat (first | exact trivial | refine ⟨rfl, ?_⟩ | refine ⟨by rw [hb2]; rfl, ?_⟩)) (by repeat (first | exact SubL.nil | (apply SubL.cons; (repeat (first | exact At.here | apply At.there))) | exact SubL.refl _ | apply SubL.skip))
    refine WL.y (hy := mv) (h := ?_)
    apply brOr 5 39 44 (by exact rfl)
    · intro hb3
      refine un (h := ?_)
      refine WL.y (hy := (by first | exact fa | exact faE)) (h := ?_)
      refine un (h := ?_)
      refine WL.y (hy := (by first | exact ld | exact ldE)) (h := ?_)
      refine un (h := ?_)
      refine WL.y (hy := lenS) (h := ?_)
      refine un (h := ?_)
      refine WL.y (hy := gtr) (h := ?_)
      refine WL.y (hy := (by first | exact pkT | exact pkF)) (h := ?_)
      exact mg (by repeat (first | exact trivial | refine ⟨rfl, ?_⟩ | refine ⟨by rw [hb3]; rfl, ?_⟩)) (by repeat (first | exact SubL.nil | (apply SubL.cons; (repeat (first | exact At.here | apply At.there))) | exact SubL.refl _ | apply SubL.skip))
    · intro hb3
      repeat (first | refine un (h := ?_) | refine sk (h := ?_) | refine WL.y (hy := pkF) (h := ?_) | refine WL.y (hy := pkT) (h := ?_))
      exact mg (by repeat (first | exact trivial | refine ⟨rfl, ?_⟩ | refine ⟨by rw [hb3]; rfl, ?_⟩)) (by repeat (first | exact SubL.nil | (apply SubL.cons; (repeat (first | exact At.here | apply At.there))) | exact SubL.refl _ | apply SubL.skip))
    refine nl (h := ?_)
    refine q_seq (h := ?_)
    refine cd (by exact rfl) (fun h4 => ?_) (fun h4 => ?_)
    · skip
      have hE : depE d = 90 := dep_len (by rw [lenB, h4]; rfl)
      refine sq (h := ?_)
      refine rg (h := ?_)
      refine WL.y (hy := asg) (h := ?_)
      refine nl (h := ?_)
      refine q_seq (h := ?_)
      refine rtn (h := ?_)
      refine q_then_ret (h := ?_)
      refine q_ret (hR := ?_)
      rw [hE]
      exact fun w hS => ⟨rfl, hS.sub (by repeat (first | exact SubL.nil | (apply SubL.cons; (repeat (first | exact At.here | apply At.there))) | exact SubL.refl _ | apply SubL.skip))⟩
    · skip
      have hln : lenB d = true := by rw [lenB, h4]; rfl
      simp only [Bool.or_eq_false_iff, Bool.not_eq_false', decide_eq_true_eq, decide_eq_false_iff_not] at h4
      refine skp (h := ?_)
      refine q_seq (h := ?_)
      refine sq (h := ?_)
      refine sq (h := ?_)
      refine rg (h := ?_)
      refine WL.y (hy := (by first | exact fa | exact faE)) (h := ?_)
      refine WL.y (hy := (by first | exact ld | exact ldE)) (h := ?_)
      refine WL.y (hy := mkf) (h := ?_)
      refine clT (hc := T_ContainsIntB (E := .ro a.sA 1 d.st.length (encI d.st)) (ws := d.st) (c := a.sc) (fun w hw => hw) inferInstance [] [.pointer (some ⟨bf, 0, none⟩)] [.blk bf 119 [.func (.func 66) #[] #[]]] (fun n => !wi n 0 99999) h.sc rfl (fun x _ => T_Check2 x bf)) (h := fun x48 _ => ?_)
      refine nl (h := ?_)
      refine q_seq (h := ?_)
      refine cd (by exact rfl) (fun h5 => ?_) (fun h5 => ?_)
      · skip
        have hE : depE d = 90 := dep_st (by
          obtain ⟨n, hn, hp⟩ := List.any_eq_true.1 h5
          obtain ⟨i, hi, e⟩ := List.getElem_of_mem hn
          exact all_no (i := i) (x := n) (by rw [List.getElem?_eq_getElem hi, e]) (by simpa using hp))
        refine sq (h := ?_)
        refine rg (h := ?_)
        refine WL.y (hy := asg) (h := ?_)
        refine nl (h := ?_)
        refine q_seq (h := ?_)
        refine rtn (h := ?_)
        refine q_then_ret (h := ?_)
        refine q_ret (hR := ?_)
        rw [hE]
        exact fun w hS => ⟨rfl, hS.sub (by repeat (first | exact SubL.nil | (apply SubL.cons; (repeat (first | exact At.here | apply At.there))) | exact SubL.refl _ | apply SubL.skip))⟩
      · skip
        have hst : stB d = true := List.all_eq_true.2 fun n hn => by
          have := List.any_eq_false.1 h5 n hn
          simpa using this
        refine skp (h := ?_)
        refine q_seq (h := ?_)
        refine sq (h := ?_)
        refine sq (h := ?_)
        refine rg (h := ?_)
        refine WL.y (hy := (by first | exact fa | exact faE)) (h := ?_)
        refine WL.y (hy := (by first | exact ld | exact ldE)) (h := ?_)
        refine WL.y (hy := lenS) (h := ?_)
        refine WL.y (hy := mv) (h := ?_)
        refine nl (h := ?_)
        refine q_seq (h := ?_)
        refine bk (h := ?_)
        refine lp (X := Nat) (I := fun j => j ≤ d.fx.length ∧ Upto d.fx fxOk j) (le := fun j => [(1, .pointer (some ⟨b0, 0, none⟩)), (3, .pointer (some ⟨bf, 0, none⟩)), (50, .slice a.fA d.fx.length a.fc), (51, .int .i64 d.fx.length), (52, .int .i64 j)]) (Le := fun _ => [.blk bf 119 [.func (.func 66) #[] #[]], .blk b0 49 (d.cells a), .ro a.sA 1 d.st.length (encI d.st), .ro a.fA 16 d.fx.length (d.fx.map Fx.enc), .ro a.cA 3 d.cr.length (d.cr.map Cx.enc)]) (μ := fun j => d.fx.length - j) 0 ⟨Nat.zero_le _, upto_zero⟩ (by repeat (first | exact trivial | refine ⟨rfl, ?_⟩)) (by repeat (first | exact SubL.nil | (apply SubL.cons; (repeat (first | exact At.here | apply At.there))) | exact SubL.refl _ | apply SubL.skip)) (fun j hj => ?_)
        obtain ⟨hj0, hju⟩ := hj
        refine sq (h := ?_)
        refine rg (h := ?_)
        refine WL.y (hy := lss) (h := ?_)
        refine nl (h := ?_)
        refine q_seq (h := ?_)
        refine sq (h := ?_)
        refine cd (by exact rfl) (fun h6 => ?_) (fun h6 => ?_)
        · skip
          have hkn2 : j < d.fx.length := by have := of_decide_eq_true h6; omega
          obtain ⟨x, hx⟩ : ∃ x, d.fx[j]? = some x := ⟨_, List.getElem?_eq_getElem hkn2⟩
          refine skp (h := ?_)
          refine q_seq (h := ?_)
          refine sq (h := ?_)
          refine bk (h := ?_)
          refine sq (h := ?_)
          refine rg (h := ?_)
          refine WL.y (hy := ix (A := a.fA) (m := d.fx.length)) (h := ?_)
          refine WL.y (hy := ldEW (A := a.fA) (hk := map_at hx)) (h := ?_)
          refine al (h := fun bx => ?_)
          first | refine stA (h := ?_) | refine stEA (h := ?_)
          refine nl (h := ?_)
          refine q_seq (h := ?_)
          refine sq (h := ?_)
          refine rg (h := ?_)
          refine WL.y (hy := (by first | exact fa | exact faE)) (h := ?_)
          refine WL.y (hy := (by first | exact ld | exact ldE)) (h := ?_)
          refine cl0 (hc := fun w hS => C_balls_within _ _ _ w) (h := ?_)
          refine WL.y (hy := notB) (h := ?_)
          refine WL.y (hy := mv) (h := ?_)
          apply brOr 7 60 67 (by exact rfl)
          · intro hb7
            refine un (h := ?_)
            refine WL.y (hy := (by first | exact fa | exact faE)) (h := ?_)
            refine un (h := ?_)
            refine WL.y (hy := (by first | exact ldA | exact ldEA)) (h := ?_)
            refine un (h := ?_)
            refine WL.y (hy := (by first | exact fa | exact faE)) (h := ?_)
            refine un (h := ?_)
            refine WL.y (hy := (by first | exact ldA | exact ldEA)) (h := ?_)
            refine un (h := ?_)
            refine cl0 (hc := fun w hS => C_balls_check x.f x.b x.A x.b.st.length x.c w ((hS.old (h.x x (List.mem_of_getElem? hx)).r).get) (by have h1 := (h.x x (List.mem_of_getElem? hx)).n; have h2 := (h.x x (List.mem_of_getElem? hx)).c; omega)) (h := ?_)
            refine un (h := ?_)
            refine WL.y (hy := neq) (h := ?_)
            refine WL.y (hy := (by first | exact pkT | exact pkF)) (h := ?_)
            exact mg (by repeat (first | exact trivial | refine ⟨rfl, ?_⟩ | refine ⟨by rw [hb7]; rfl, ?_⟩)) (by repeat (first | exact SubL.nil | (apply SubL.cons; (repeat (first | exact At.here | apply At.there))) | exact SubL.refl _ | apply SubL.skip))
          · intro hb7
            repeat (first | refine un (h := ?_) | refine sk (h := ?_) | refine WL.y (hy := pkF) (h := ?_) | refine WL.y (hy := pkT) (h := ?_))
            exact mg (by repeat (first | exact trivial | refine ⟨rfl, ?_⟩ | refine ⟨by rw [hb7]; rfl, ?_⟩)) (by repeat (first | exact SubL.nil | (apply SubL.cons; (repeat (first | exact At.here | apply At.there))) | exact SubL.refl _ | apply SubL.skip))
          refine nl (h := ?_)
          refine q_seq (h := ?_)
          refine cd (by exact rfl) (fun h8 => ?_) (fun h8 => ?_)
          · skip
            have hE : depE d = 90 := dep_fx (all_no hx (by rw [fxOk, h8]; rfl))
            refine sq (h := ?_)
            refine rg (h := ?_)
            refine WL.y (hy := asg) (h := ?_)
            refine nl (h := ?_)
            refine q_seq (h := ?_)
            refine rtn (h := ?_)
            refine q_blk_ret (h := ?_)
            refine q_then_ret (h := ?_)
            refine q_then_ret (h := ?_)
            refine q_blk_ret (h := ?_)
            refine q_then_ret (h := ?_)
            refine q_ret (hR := ?_)
            rw [hE]
            exact fun w hS => ⟨rfl, hS.sub (by repeat (first | exact SubL.nil | (apply SubL.cons; (repeat (first | exact At.here | apply At.there))) | exact SubL.refl _ | apply SubL.skip))⟩
          · skip
            have hjn := upto_succ hju hx (by rw [fxOk, h8]; rfl)
            refine skp (h := ?_)
            refine q_blk_norm (h := ?_)
            refine q_seq (h := ?_)
            refine rg (h := ?_)
            refine WL.y (hy := addI) (h := ?_)
            refine WL.y (hy := mv) (h := ?_)
            refine nl (h := ?_)
            refine rn (x := j) (j + 1) ⟨hkn2, hjn⟩ (by omega) (by repeat (first | exact trivial | refine ⟨rfl, ?_⟩)) (by repeat (first | exact SubL.nil | (apply SubL.cons; (repeat (first | exact At.here | apply At.there))) | exact SubL.refl _ | apply SubL.skip))
        · skip
          have hkn2 : j = d.fx.length := by have := of_decide_eq_false h6; omega
          have hfx : fxB d = true := all_to fun i x hi => hju i x (by omega)
          refine et (h := ?_)
          refine q_then_exit (h := ?_)
          refine q_then_exit (h := ?_)
          refine q_blk_hit (h := ?_)
          refine q_seq (h := ?_)
          refine sq (h := ?_)
          refine sq (h := ?_)
          refine rg (h := ?_)
          refine WL.y (hy := (by first | exact fa | exact faE)) (h := ?_)
          refine WL.y (hy := (by first | exact ld | exact ldE)) (h := ?_)
          refine WL.y (hy := lenS) (h := ?_)
          refine WL.y (hy := mv) (h := ?_)
          refine nl (h := ?_)
          refine q_seq (h := ?_)
          refine bk (h := ?_)
          refine lp (X := Nat) (I := fun i => i ≤ d.cr.length ∧ Upto d.cr crOk i) (le := fun i => [(1, .pointer (some ⟨b0, 0, none⟩)), (3, .pointer (some ⟨bf, 0, none⟩)), (70, .slice a.cA d.cr.length a.cc), (71, .int .i64 d.cr.length), (72, .int .i64 i)]) (Le := fun _ => [.blk bf 119 [.func (.func 66) #[] #[]], .blk b0 49 (d.cells a), .ro a.sA 1 d.st.length (encI d.st), .ro a.fA 16 d.fx.length (d.fx.map Fx.enc), .ro a.cA 3 d.cr.length (d.cr.map Cx.enc)]) (μ := fun i => d.cr.length - i) 0 ⟨Nat.zero_le _, upto_zero⟩ (by repeat (first | exact trivial | refine ⟨rfl, ?_⟩)) (by repeat (first | exact SubL.nil | (apply SubL.cons; (repeat (first | exact At.here | apply At.there))) | exact SubL.refl _ | apply SubL.skip)) (fun i hi => ?_)
          obtain ⟨hi0, hiu⟩ := hi
          refine sq (h := ?_)
          refine rg (h := ?_)
          refine WL.y (hy := lss) (h := ?_)
          refine nl (h := ?_)
          refine q_seq (h := ?_)
          refine sq (h := ?_)
          refine cd (by exact rfl) (fun h9 => ?_) (fun h9 => ?_)
          · skip
            have hkn3 : i < d.cr.length := by have := of_decide_eq_true h9; omega
            obtain ⟨y, hc⟩ : ∃ y, d.cr[i]? = some y := ⟨_, List.getElem?_eq_getElem hkn3⟩
            refine skp (h := ?_)
            refine q_seq (h := ?_)
            refine sq (h := ?_)
            refine bk (h := ?_)
            refine sq (h := ?_)
            refine rg (h := ?_)
            refine WL.y (hy := ix (A := a.cA) (m := d.cr.length)) (h := ?_)
            refine WL.y (hy := ldEW (A := a.cA) (hk := map_at hc)) (h := ?_)
            refine al (h := fun bc => ?_)
            first | refine stA (h := ?_) | refine stEA (h := ?_)
            refine nl (h := ?_)
            refine q_seq (h := ?_)
            refine sq (h := ?_)
            refine rg (h := ?_)
            refine WL.y (hy := (by first | exact fa | exact faE)) (h := ?_)
            refine WL.y (hy := (by first | exact ld | exact ldE)) (h := ?_)
            refine cl0 (hc := fun w hS => C_balls_within _ _ _ w) (h := ?_)
            refine WL.y (hy := notB) (h := ?_)
            refine WL.y (hy := mv) (h := ?_)
            apply brOr 5 80 85 (by exact rfl)
            · intro hb10
              refine un (h := ?_)
              refine WL.y (hy := (by first | exact fa | exact faE)) (h := ?_)
              refine un (h := ?_)
              refine WL.y (hy := (by first | exact ld | exact ldE)) (h := ?_)
              refine un (h := ?_)
              refine cl0 (hc := fun w hS => C_balls_within _ _ _ w) (h := ?_)
              refine un (h := ?_)
              refine WL.y (hy := notB) (h := ?_)
              refine WL.y (hy := (by first | exact pkT | exact pkF)) (h := ?_)
              exact mg (by repeat (first | exact trivial | refine ⟨rfl, ?_⟩ | refine ⟨by rw [hb10]; rfl, ?_⟩)) (by repeat (first | exact SubL.nil | (apply SubL.cons; (repeat (first | exact At.here | apply At.there))) | exact SubL.refl _ | apply SubL.skip))
            · intro hb10
              repeat (first | refine un (h := ?_) | refine sk (h := ?_) | refine WL.y (hy := pkF) (h := ?_) | refine WL.y (hy := pkT) (h := ?_))
              exact mg (by repeat (first | exact trivial | refine ⟨rfl, ?_⟩ | refine ⟨by rw [hb10]; rfl, ?_⟩)) (by repeat (first | exact SubL.nil | (apply SubL.cons; (repeat (first | exact At.here | apply At.there))) | exact SubL.refl _ | apply SubL.skip))
            refine WL.y (hy := mv) (h := ?_)
            apply brOr 6 86 92 (by exact rfl)
            · intro hb11
              refine un (h := ?_)
              refine WL.y (hy := (by first | exact ld | exact ldE)) (h := ?_)
              refine un (h := ?_)
              refine WL.y (hy := (by first | exact fa | exact faE)) (h := ?_)
              refine un (h := ?_)
              refine WL.y (hy := (by first | exact ld | exact ldE)) (h := ?_)
              refine un (h := ?_)
              refine clf0 (f := 66) (fi := []) (cap := []) (hc := fun w hS => C_Check1 y.count w) (h := ?_)
              refine un (h := ?_)
              refine WL.y (hy := notB) (h := ?_)
              refine WL.y (hy := (by first | exact pkT | exact pkF)) (h := ?_)
              exact mg (by repeat (first | exact trivial | refine ⟨rfl, ?_⟩ | refine ⟨by rw [hb11]; rfl, ?_⟩)) (by repeat (first | exact SubL.nil | (apply SubL.cons; (repeat (first | exact At.here | apply At.there))) | exact SubL.refl _ | apply SubL.skip))
            · intro hb11
              repeat (first | refine un (h := ?_) | refine sk (h := ?_) | refine WL.y (hy := pkF) (h := ?_) | refine WL.y (hy := pkT) (h := ?_))
              exact mg (by repeat (first | exact trivial | refine ⟨rfl, ?_⟩ | refine ⟨by rw [hb11]; rfl, ?_⟩)) (by repeat (first | exact SubL.nil | (apply SubL.cons; (repeat (first | exact At.here | apply At.there))) | exact SubL.refl _ | apply SubL.skip))
            refine nl (h := ?_)
            refine q_seq (h := ?_)
            refine cd (by exact rfl) (fun h12 => ?_) (fun h12 => ?_)
            · skip
              have hE : depE d = 90 := dep_cr (all_no hc (by rw [crOk, h12]; rfl))
              refine sq (h := ?_)
              refine rg (h := ?_)
              refine WL.y (hy := asg) (h := ?_)
              refine nl (h := ?_)
              refine q_seq (h := ?_)
              refine rtn (h := ?_)
              refine q_blk_ret (h := ?_)
              refine q_then_ret (h := ?_)
              refine q_then_ret (h := ?_)
              refine q_blk_ret (h := ?_)
              refine q_then_ret (h := ?_)
              refine q_ret (hR := ?_)
              rw [hE]
              exact fun w hS => ⟨rfl, hS.sub (by repeat (first | exact SubL.nil | (apply SubL.cons; (repeat (first | exact At.here | apply At.there))) | exact SubL.refl _ | apply SubL.skip))⟩
            · skip
              have hin := upto_succ hiu hc (by rw [crOk, h12]; rfl)
              refine skp (h := ?_)
              refine q_blk_norm (h := ?_)
              refine q_seq (h := ?_)
              refine rg (h := ?_)
              refine WL.y (hy := addI) (h := ?_)
              refine WL.y (hy := mv) (h := ?_)
              refine nl (h := ?_)
              refine rn (x := i) (i + 1) ⟨hkn3, hin⟩ (by omega) (by repeat (first | exact trivial | refine ⟨rfl, ?_⟩)) (by repeat (first | exact SubL.nil | (apply SubL.cons; (repeat (first | exact At.here | apply At.there))) | exact SubL.refl _ | apply SubL.skip))
          · skip
            have hkn3 : i = d.cr.length := by have := of_decide_eq_false h9; omega
            have hcr : crB d = true := all_to fun i' x hi' => hiu i' x (by omega)
            have hE := dep_yes hkit hln hst hfx hcr
            refine et (h := ?_)
            refine q_then_exit (h := ?_)
            refine q_then_exit (h := ?_)
            refine q_blk_hit (h := ?_)
            refine q_seq (h := ?_)
            refine sq (h := ?_)
            refine rg (h := ?_)
            refine WL.y (hy := asg) (h := ?_)
            refine nl (h := ?_)
            refine q_seq (h := ?_)
            refine rtn (h := ?_)
            refine q_ret (hR := ?_)
            rw [hE]
            exact fun w hS => ⟨rfl, hS.sub (by repeat (first | exact SubL.nil | (apply SubL.cons; (repeat (first | exact At.here | apply At.there))) | exact SubL.refl _ | apply SubL.skip))⟩
theorem DpR.old {w0 w : World} {L : List Ent} {d : Dp} {a : DA} (h : DpR w0 d a) (hS : St w0 w L) : DpR w d a :=
  ⟨(hS.old h.s).get, (hS.old h.f).get, (hS.old h.c).get, fun y hy => ⟨(hS.old (h.x y hy).r).get, (h.x y hy).n, (h.x y hy).c⟩, h.sc, h.fc, h.cc⟩
end Go.Proofs.Ytacaojifempclaa

namespace Go.Proofs.Ytacaojifempclaa
open Go Go.RowKit

def playersV (f : Fmt) : Int := bif f.dbl then 4 else 2
def begB (b : Brd) : Bool := decide (0 < (b.st.length : Int)) || !isZ b.g || !isZ b.p
def onceV (b : Brd) : Int := bif begB b then 0 else 1
def timesV (s : Pr) (n : Int) : Pr := (s.1 * n, s.2 * n)
def ndV (each tow fra : Int) (x : Fx) (item : Int) : Pr :=
  bif decide (item = 0) then timesV ((restC x.f x.b).1.1 + onceV x.b, (restC x.f x.b).1.2 + onceV x.b) each
  else bif decide (item = 1) then timesV (restC x.f x.b).2 (tow * playersV x.f) else timesV (onceV x.b, onceV x.b) (fra * playersV x.f)
theorem mul_rng {a b A B : Int} (ha : 0 ≤ a ∧ a ≤ A) (hb : 0 ≤ b ∧ b ≤ B) : 0 ≤ a * b ∧ a * b ≤ A * B :=
  ⟨Int.mul_nonneg ha.1 hb.1, Int.mul_le_mul ha.2 hb.2 hb.1 (Int.le_trans ha.1 ha.2)⟩
theorem once_rng (b : Brd) : 0 ≤ onceV b ∧ onceV b ≤ 1 := by unfold onceV; cases begB b <;> decide
theorem players_rng (f : Fmt) : 2 ≤ playersV f ∧ playersV f ≤ 4 := by unfold playersV; cases f.dbl <;> decide
theorem csb_rest {f : Fmt} {b : Brd} (h : checkE f b = 0) : CsB (restC f b) 86 := by
  obtain ⟨hf, hbo, hari, hhi⟩ := check_ok h
  obtain ⟨-, hwo, hw3⟩ := arises_facts hf hbo hari
  unfold restC
  cases hov : overV f (wonV b.st)
  · rw [cond_false]
    rcases hw3 with h3 | ⟨_, h4, _⟩
    · rw [h3] at hov; cases hov
    · rw [over_won hwo, Bool.or_eq_false_iff, decide_eq_false_iff_not, decide_eq_false_iff_not] at hov
      unfold WonOk at hwo
      exact csb_bump (csb_P hf ⟨by omega, h4⟩) _ _
  · exact csb_zero (by omega)
theorem nd_rng {each tow fra : Int} {x : Fx} {item : Int} (hk : (0 ≤ each ∧ each ≤ 20) ∧ (0 ≤ tow ∧ tow ≤ 20) ∧ 0 ≤ fra ∧ fra ≤ 20) (h : checkE x.f x.b = 0) : 0 ≤ (ndV each tow fra x item).1 ∧ (ndV each tow fra x item).1 ≤ (ndV each tow fra x item).2 ∧ (ndV each tow fra x item).2 ≤ 10000 := by
  have h1 := csb_rest h
  have h2 := once_rng x.b
  have h3 := players_rng x.f
  unfold CsB at h1
  have m1 := mul_rng (a := tow) (b := playersV x.f) (A := 20) (B := 4) (by omega) (by omega)
  have m2 := mul_rng (a := fra) (b := playersV x.f) (A := 20) (B := 4) (by omega) (by omega)
  unfold ndV timesV
  cases decide (item = 0)
  · cases decide (item = 1)
    · have m3 := mul_rng (a := onceV x.b) (b := fra * playersV x.f) (A := 1) (B := 80) h2 m2
      simp only [cond_false]; omega
    · have m3 := mul_rng (a := (restC x.f x.b).2.1) (b := tow * playersV x.f) (A := 86) (B := 80) (by omega) m1
      have m4 := mul_rng (a := (restC x.f x.b).2.2) (b := tow * playersV x.f) (A := 86) (B := 80) (by omega) m1
      have m5 := Int.mul_le_mul_of_nonneg_right h1.2.2.1 m1.1
      simp only [cond_false, cond_true]; omega
  · have m3 := mul_rng (a := (restC x.f x.b).1.1 + onceV x.b) (b := each) (A := 87) (B := 20) (by omega) (by omega)
    have m4 := mul_rng (a := (restC x.f x.b).1.2 + onceV x.b) (b := each) (A := 87) (B := 20) (by omega) (by omega)
    have m5 := Int.mul_le_mul_of_nonneg_right (show (restC x.f x.b).1.1 + onceV x.b ≤ (restC x.f x.b).1.2 + onceV x.b by omega) hk.1.1
    simp only [cond_true]; omega
theorem over_beg {f : Fmt} {b : Brd} (hf : f.Ok) (h : overV f (wonV b.st) = true) : begB b = true := by
  have hs0 := hf.s0
  unfold begB
  cases hl : b.st.length with
  | zero =>
    exfalso
    have hw : wonV b.st = (0, 0) := by unfold wonV; rw [hl]; rfl
    rw [hw] at h
    have h2 : max (0 : Int) 0 = f.sets := by unfold overV at h; exact of_decide_eq_true h
    have h3 : max (0 : Int) 0 = 0 := rfl
    omega
  | succ k => rw [decide_eq_true (by omega)]; rfl
theorem beg_prog (b : Brd) : ((!isZ b.g || !isZ b.p) || decide (0 < (b.st.length : Int))) = begB b := by
  unfold begB
  cases isZ b.g <;> cases isZ b.p <;> cases decide (0 < (b.st.length : Int)) <;> rfl
theorem C_balls_times (s : Pr) (n : Int) (h1 : -1000000000 ≤ s.1 * n ∧ s.1 * n ≤ 1000000000) (h2 : -1000000000 ≤ s.2 * n ∧ s.2 * n ≤ 1000000000) (w : World) : C0 Try.prog 126 [pv s, .int .i64 n] w (pv (timesV s n)) := by
  refine ⟨en Try.func126 Try.ntmps126 (St.init w) (h := fun F => ?_)⟩
  refine sq (h := ?_)
  refine rg (h := ?_)
  refine bxA (h := fun b0 => ?_)
  refine al (h := fun b1 => ?_)
  refine nl (h := ?_)
  refine q_seq (h := ?_)
  refine sq (h := ?_)
  refine rg (h := ?_)
  refine WL.y (hy := (by first | exact fa | exact faE)) (h := ?_)
  refine WL.y (hy := (by first | exact ld | exact ldE)) (h := ?_)
  refine WL.y (hy := mv) (h := ?_)
  refine WL.y (hy := mulI) (h := ?_)
  refine WL.y (hy := (by first | exact fa | exact faE)) (h := ?_)
  refine WL.y (hy := (by first | exact ld | exact ldE)) (h := ?_)
  refine WL.y (hy := mv) (h := ?_)
  refine WL.y (hy := mulI) (h := ?_)
  refine WL.y (hy := bd) (h := ?_)
  first | refine stA (h := ?_) | refine stEA (h := ?_)
  refine nl (h := ?_)
  refine q_seq (h := ?_)
  refine rtn (h := ?_)
  refine q_ret (hR := ?_)
  exact fun w hS => ⟨rfl, hS.sub (by repeat (first | exact SubL.nil | (apply SubL.cons; (repeat (first | exact At.here | apply At.there))) | exact SubL.refl _ | apply SubL.skip))⟩
abbrev nd6 (each tow fra : Int) (x : Fx) : List Value := [.int .i64 (ndV each tow fra x 0).1, .int .i64 (ndV each tow fra x 0).2, .int .i64 (ndV each tow fra x 1).1, .int .i64 (ndV each tow fra x 1).2, .int .i64 (ndV each tow fra x 2).1, .int .i64 (ndV each tow fra x 2).2]
set_option maxRecDepth 100000 in
theorem C_balls_needs (each tow fra : Int) (x : Fx) (hk : (0 ≤ each ∧ each ≤ 20) ∧ (0 ≤ tow ∧ tow ≤ 20) ∧ 0 ≤ fra ∧ fra ≤ 20) (hc : checkE x.f x.b = 0) (w : World) (h : Rd w x.A 2 x.b.st.length (encP x.b.st)) : C0 Try.prog 114 [.agg #[.int .i64 each, .int .i64 tow, .int .i64 fra], x.val] w (.agg (nd6 each tow fra x).toArray) := by
  obtain ⟨hf, hbo, hari, hhi⟩ := check_ok hc
  have h1 := csb_rest hc
  have h2 := once_rng x.b
  have h3 := players_rng x.f
  unfold CsB at h1
  have m1 := mul_rng (a := tow) (b := playersV x.f) (A := 20) (B := 4) (by omega) (by omega)
  have m2 := mul_rng (a := fra) (b := playersV x.f) (A := 20) (B := 4) (by omega) (by omega)
  have m3 := mul_rng (a := onceV x.b) (b := fra * playersV x.f) (A := 1) (B := 80) h2 m2
  have m4 := mul_rng (a := (restC x.f x.b).2.1) (b := tow * playersV x.f) (A := 86) (B := 80) (by omega) m1
  have m5 := mul_rng (a := (restC x.f x.b).2.2) (b := tow * playersV x.f) (A := 86) (B := 80) (by omega) m1
  have m6 := mul_rng (a := (restC x.f x.b).1.1 + onceV x.b) (b := each) (A := 87) (B := 20) (by omega) (by omega)
  have m7 := mul_rng (a := (restC x.f x.b).1.2 + onceV x.b) (b := each) (A := 87) (B := 20) (by omega) (by omega)
  refine ⟨en Try.func114 Try.ntmps114 ((St.init w).share (e := .ro x.A 2 x.b.st.length (encP x.b.st)) h rfl rfl rfl) (h := fun F => ?_)⟩
  refine sq (h := ?_)
  refine rg (h := ?_)
  refine bxA (h := fun b0 => ?_)
  refine bxA (h := fun b1 => ?_)
  refine al (h := fun b2 => ?_)
  refine nl (h := ?_)
  refine q_seq (h := ?_)
  refine sq (h := ?_)
  refine rg (h := ?_)
  refine WL.y (hy := (by first | exact fa | exact faE)) (h := ?_)
  refine WL.y (hy := (by first | exact ldA | exact ldEA)) (h := ?_)
  refine WL.y (hy := (by first | exact fa | exact faE)) (h := ?_)
  refine WL.y (hy := (by first | exact ldA | exact ldEA)) (h := ?_)
  refine cl0 (hc := fun w hS => C_balls_open x.f x.b hf (bdd_high hf hhi).1 hbo hari x.A x.b.st.length x.c w (hS.get (by repeat (first | exact Rds.ro | exact Rds.own | apply Rds.there)))) (h := ?_)
  refine WL.y (hy := mv) (h := ?_)
  refine WL.y (hy := ex) (h := ?_)
  refine WL.y (hy := ex) (h := ?_)
  refine al (h := fun b3 => ?_)
  first | refine stA (h := ?_) | refine stEA (h := ?_)
  refine WL.y (hy := asg) (h := ?_)
  refine nl (h := ?_)
  refine q_seq (h := ?_)
  refine sq (h := ?_)
  refine sq (h := ?_)
  refine rg (h := ?_)
  refine WL.y (hy := mv) (h := ?_)
  refine nl (h := ?_)
  refine q_seq (h := ?_)
  refine cd (by exact rfl) (fun h0 => ?_) (fun h0 => ?_)
  · skip
    have hov : overV x.f (wonV x.b.st) = true := h0
    have hz : onceV x.b = 0 := by rw [onceV, over_beg hf hov]; rfl
    have hr : restC x.f x.b = zC := by rw [restC, hov]; rfl
    have hE : nd6 each tow fra x = [.int .i64 0, .int .i64 0, .int .i64 0, .int .i64 0, .int .i64 0, .int .i64 0] := by
      have hn : ∀ i : Int, ndV each tow fra x i = (0, 0) := fun i => by
        unfold ndV timesV
        rw [hz, hr]
        cases decide (i = 0) <;> cases decide (i = 1) <;> simp [zC]
      simp only [nd6, hn]
    refine sq (h := ?_)
    refine rg (h := ?_)
    refine WL.y (hy := (by first | exact ldA | exact ldEA)) (h := ?_)
    first | refine stA (h := ?_) | refine stEA (h := ?_)
    refine nl (h := ?_)
    refine q_seq (h := ?_)
    refine rtn (h := ?_)
    refine q_then_ret (h := ?_)
    refine q_ret (hR := ?_)
    rw [hE]
    exact fun w hS => ⟨rfl, hS.sub (by repeat (first | exact SubL.nil | (apply SubL.cons; (repeat (first | exact At.here | apply At.there))) | exact SubL.refl _ | apply SubL.skip))⟩
  · skip
    refine skp (h := ?_)
    refine q_seq (h := ?_)
    refine sq (h := ?_)
    refine rg (h := ?_)
    refine WL.y (hy := asg) (h := ?_)
    refine nl (h := ?_)
    refine q_seq (h := ?_)
    refine ct (X := Unit) (fun _ => True) (fun _ => [(2, .pointer (some ⟨b0, 0, none⟩)), (3, .pointer (some ⟨b1, 0, none⟩)), (4, .pointer (some ⟨b2, 0, none⟩)), (5, .pointer (some ⟨b3, 0, none⟩)), (7, .int .i64 (playersV x.f))]) (fun _ => [.blk b3 103 (ccs (restC x.f x.b)), .blk b0 44 [.int .i64 each, .int .i64 tow, .int .i64 fra], .blk b1 60 x.enc, .blk b2 182 [.int .i64 0, .int .i64 0, .int .i64 0, .int .i64 0, .int .i64 0, .int .i64 0], .ro x.A 2 x.b.st.length (encP x.b.st)]) (h1 := ?_) (h2 := ?_)
    · skip
      refine sq (h := ?_)
      refine rg (h := ?_)
      refine WL.y (hy := (by first | exact fa | exact faE)) (h := ?_)
      refine WL.y (hy := (by first | exact fa | exact faE)) (h := ?_)
      refine WL.y (hy := (by first | exact ld | exact ldE)) (h := ?_)
      refine nl (h := ?_)
      refine q_seq (h := ?_)
      refine cd (by exact rfl) (fun h1 => ?_) (fun h1 => ?_)
      · skip
        have hp : playersV x.f = 4 := by rw [playersV, h1]; rfl
        refine rg (h := ?_)
        refine WL.y (hy := asg) (h := ?_)
        refine nl (h := ?_)
        rw [hp]
        exact ctn () trivial (by repeat (first | exact trivial | refine ⟨rfl, ?_⟩)) (by repeat (first | exact SubL.nil | (apply SubL.cons; (repeat (first | exact At.here | apply At.there))) | exact SubL.refl _ | apply SubL.skip))
      · skip
        have hp : playersV x.f = 2 := by rw [playersV, h1]; rfl
        refine skp (h := ?_)
        rw [hp]
        exact ctn () trivial (by repeat (first | exact trivial | refine ⟨rfl, ?_⟩)) (by repeat (first | exact SubL.nil | (apply SubL.cons; (repeat (first | exact At.here | apply At.there))) | exact SubL.refl _ | apply SubL.skip))
    rintro ⟨⟩ -
    refine sq (h := ?_)
    refine rg (h := ?_)
    refine WL.y (hy := asg) (h := ?_)
    refine nl (h := ?_)
    refine q_seq (h := ?_)
    refine ct (X := Unit) (fun _ => True) (fun _ => [(2, .pointer (some ⟨b0, 0, none⟩)), (3, .pointer (some ⟨b1, 0, none⟩)), (4, .pointer (some ⟨b2, 0, none⟩)), (5, .pointer (some ⟨b3, 0, none⟩)), (7, .int .i64 (playersV x.f)), (8, .int .i64 (onceV x.b))]) (fun _ => [.blk b3 103 (ccs (restC x.f x.b)), .blk b0 44 [.int .i64 each, .int .i64 tow, .int .i64 fra], .blk b1 60 x.enc, .blk b2 182 [.int .i64 0, .int .i64 0, .int .i64 0, .int .i64 0, .int .i64 0, .int .i64 0], .ro x.A 2 x.b.st.length (encP x.b.st)]) (h1 := ?_) (h2 := ?_)
    · skip
      refine sq (h := ?_)
      refine rg (h := ?_)
      refine WL.y (hy := (by first | exact fa | exact faE)) (h := ?_)
      refine WL.y (hy := (by first | exact ldA | exact ldEA)) (h := ?_)
      refine cl0 (hc := fun w hS => C_balls_begun x.b x.A x.b.st.length x.c w) (h := ?_)
      rw [beg_prog]
      refine WL.y (hy := mv) (h := ?_)
      refine WL.y (hy := ex) (h := ?_)
      refine WL.y (hy := ex) (h := ?_)
      refine WL.y (hy := asg) (h := ?_)
      refine WL.y (hy := asg) (h := ?_)
      refine nl (h := ?_)
      refine q_seq (h := ?_)
      refine sq (h := ?_)
      refine rg (h := ?_)
      refine WL.y (hy := mv) (h := ?_)
      refine nl (h := ?_)
      refine q_seq (h := ?_)
      refine cd (by exact rfl) (fun h2 => ?_) (fun h2 => ?_)
      · skip
        have hz : onceV x.b = 0 := by rw [onceV, h2]; rfl
        refine rg (h := ?_)
        refine WL.y (hy := asg) (h := ?_)
        refine nl (h := ?_)
        rw [hz]
        exact ctn () trivial (by repeat (first | exact trivial | refine ⟨rfl, ?_⟩)) (by repeat (first | exact SubL.nil | (apply SubL.cons; (repeat (first | exact At.here | apply At.there))) | exact SubL.refl _ | apply SubL.skip))
      · skip
        have hz : onceV x.b = 1 := by rw [onceV, h2]; rfl
        refine skp (h := ?_)
        rw [hz]
        exact ctn () trivial (by repeat (first | exact trivial | refine ⟨rfl, ?_⟩)) (by repeat (first | exact SubL.nil | (apply SubL.cons; (repeat (first | exact At.here | apply At.there))) | exact SubL.refl _ | apply SubL.skip))
    rintro ⟨⟩ -
    refine sq (h := ?_)
    refine rg (h := ?_)
    refine WL.y (hy := (by first | exact fa | exact faE)) (h := ?_)
    refine WL.y (hy := (by first | exact fa | exact faE)) (h := ?_)
    refine WL.y (hy := (by first | exact ld | exact ldE)) (h := ?_)
    refine WL.y (hy := mv) (h := ?_)
    refine WL.y (hy := addI) (h := ?_)
    refine WL.y (hy := (by first | exact fa | exact faE)) (h := ?_)
    refine WL.y (hy := (by first | exact fa | exact faE)) (h := ?_)
    refine WL.y (hy := (by first | exact ld | exact ldE)) (h := ?_)
    refine WL.y (hy := mv) (h := ?_)
    refine WL.y (hy := addI) (h := ?_)
    refine WL.y (hy := bd) (h := ?_)
    refine WL.y (hy := (by first | exact fa | exact faE)) (h := ?_)
    refine WL.y (hy := (by first | exact ld | exact ldE)) (h := ?_)
    refine cl0 (hc := fun w hS => C_balls_times ((restC x.f x.b).1.1 + onceV x.b, (restC x.f x.b).1.2 + onceV x.b) each (by dsimp only; omega) (by dsimp only; omega) w) (h := ?_)
    refine WL.y (hy := ixA) (h := ?_)
    first | refine stA (h := ?_) | refine stEA (h := ?_)
    refine nl (h := ?_)
    refine q_seq (h := ?_)
    refine sq (h := ?_)
    refine rg (h := ?_)
    refine WL.y (hy := (by first | exact fa | exact faE)) (h := ?_)
    refine WL.y (hy := (by first | exact ldA | exact ldEA)) (h := ?_)
    refine WL.y (hy := (by first | exact fa | exact faE)) (h := ?_)
    refine WL.y (hy := (by first | exact ld | exact ldE)) (h := ?_)
    refine WL.y (hy := mv) (h := ?_)
    refine WL.y (hy := mulI) (h := ?_)
    refine cl0 (hc := fun w hS => C_balls_times (restC x.f x.b).2 (tow * playersV x.f) (by omega) (by omega) w) (h := ?_)
    refine WL.y (hy := ixA) (h := ?_)
    first | refine stA (h := ?_) | refine stEA (h := ?_)
    refine nl (h := ?_)
    refine q_seq (h := ?_)
    refine sq (h := ?_)
    refine rg (h := ?_)
    refine WL.y (hy := mv) (h := ?_)
    refine WL.y (hy := mv) (h := ?_)
    refine WL.y (hy := bd) (h := ?_)
    refine WL.y (hy := (by first | exact fa | exact faE)) (h := ?_)
    refine WL.y (hy := (by first | exact ld | exact ldE)) (h := ?_)
    refine WL.y (hy := mv) (h := ?_)
    refine WL.y (hy := mulI) (h := ?_)
    refine cl0 (hc := fun w hS => C_balls_times (onceV x.b, onceV x.b) (fra * playersV x.f) (by dsimp only; omega) (by dsimp only; omega) w) (h := ?_)
    refine WL.y (hy := ixA) (h := ?_)
    first | refine stA (h := ?_) | refine stEA (h := ?_)
    refine nl (h := ?_)
    refine q_seq (h := ?_)
    refine sq (h := ?_)
    refine rg (h := ?_)
    refine WL.y (hy := (by first | exact ldA | exact ldEA)) (h := ?_)
    first | refine stA (h := ?_) | refine stEA (h := ?_)
    refine nl (h := ?_)
    refine q_seq (h := ?_)
    refine rtn (h := ?_)
    refine q_ret (hR := ?_)
    exact fun w hS => ⟨rfl, hS.sub (by repeat (first | exact SubL.nil | (apply SubL.cons; (repeat (first | exact At.here | apply At.there))) | exact SubL.refl _ | apply SubL.skip))⟩
end Go.Proofs.Ytacaojifempclaa

namespace Go.Proofs.Ytacaojifempclaa
open Go Go.RowKit

def accN (d : Dp) (item : Int) : Nat → Nat → Pr
  | 0, _ => (0, 0)
  | k + 1, dd => match d.fx[k]? with
    | some x => bif decide (x.day = (dd : Int)) then ((accN d item k dd).1 + (ndV d.each d.tow d.fra x item).1, (accN d item k dd).2 + (ndV d.each d.tow d.fra x item).2) else accN d item k dd
    | none => accN d item k dd
def needD (d : Dp) (item : Int) (dd : Nat) : Pr := accN d item d.fx.length dd
def crT (d : Dp) (item : Int) (dd : Nat) : Nat → Int
  | 0 => 0
  | k + 1 => match d.cr[k]? with
    | some c => bif decide (c.day = (dd : Int)) && decide (c.item = item) then crT d item dd k + c.count else crT d item dd k
    | none => crT d item dd k
def lefD (d : Dp) (item : Int) : Nat → Pr
  | 0 => (d.st.getD item.toNat 0, d.st.getD item.toNat 0)
  | k + 1 => ((lefD d item k).1 + crT d item k d.cr.length - (needD d item k).2, (lefD d item k).2 + crT d item k d.cr.length - (needD d item k).1)
def wkF (N L : Nat → Pr) : Nat → Int := fun i => if i < 122 then (if i % 2 = 0 then (N (i / 2)).1 else (N (i / 2)).2) else (if i % 2 = 0 then (L ((i - 122) / 2)).1 else (L ((i - 122) / 2)).2)
def updF (N : Nat → Pr) (k : Nat) (v : Pr) : Nat → Pr := fun i => if i = k then v else N i
theorem wk_lo (N L : Nat → Pr) {k o : Nat} (hk : k < 61) (ho : o = k * 2) (v : Int) : numE 244 (fun i => if i = o then v else wkF N L i) = numE 244 (wkF (updF N k (v, (N k).2)) L) := numE_congr fun i hi => by
  subst ho
  unfold wkF updF
  by_cases e : i = k * 2
  · rw [if_pos e, if_pos (by omega), if_pos (by omega), if_pos (by omega)]
  · rw [if_neg e]
    by_cases h1 : i < 122
    · rw [if_pos h1, if_pos h1]
      by_cases h2 : i % 2 = 0
      · rw [if_pos h2, if_pos h2, if_neg (by omega)]
      · rw [if_neg h2, if_neg h2]
        by_cases h3 : i / 2 = k
        · rw [if_pos h3, h3]
        · rw [if_neg h3]
    · rw [if_neg h1, if_neg h1]
theorem wk_hi (N L : Nat → Pr) {k o : Nat} (hk : k < 61) (ho : o = k * 2 + 1) (v : Int) : numE 244 (fun i => if i = o then v else wkF N L i) = numE 244 (wkF (updF N k ((N k).1, v)) L) := numE_congr fun i hi => by
  subst ho
  unfold wkF updF
  by_cases e : i = k * 2 + 1
  · rw [if_pos e, if_pos (by omega), if_neg (by omega), if_pos (by omega)]
  · rw [if_neg e]
    by_cases h1 : i < 122
    · rw [if_pos h1, if_pos h1]
      by_cases h2 : i % 2 = 0
      · rw [if_pos h2, if_pos h2]
        by_cases h3 : i / 2 = k
        · rw [if_pos h3, h3]
        · rw [if_neg h3]
      · rw [if_neg h2, if_neg h2, if_neg (by omega)]
    · rw [if_neg h1, if_neg h1]
theorem wk_left (N L : Nat → Pr) {k o : Nat} (hk : k < 61) (ho : o = 122 + k * 2) (v : Pr) : putAll (numE 244 (wkF N L)) o [.int .i64 v.1, .int .i64 v.2] = numE 244 (wkF N (updF L k v)) := by
  show ((numE 244 (wkF N L)).set o _).set (o + 1) _ = _
  rw [numE_set, numE_set]
  refine numE_congr fun i hi => ?_
  subst ho
  unfold wkF updF
  by_cases e1 : i = 122 + k * 2 + 1
  · rw [if_pos e1, if_neg (by omega), if_neg (by omega), if_pos (by omega)]
  · rw [if_neg e1]
    by_cases e2 : i = 122 + k * 2
    · rw [if_pos e2, if_neg (by omega), if_pos (by omega), if_pos (by omega)]
    · rw [if_neg e2]
      by_cases h1 : i < 122
      · rw [if_pos h1, if_pos h1]
      · have hne : ¬ (i - 122) / 2 = k := by omega
        rw [if_neg h1, if_neg h1, if_neg hne]
theorem wk_congr {N L N' L' : Nat → Pr} (h1 : ∀ k, k < 61 → N k = N' k) (h2 : ∀ k, k < 61 → L k = L' k) : numE 244 (wkF N L) = numE 244 (wkF N' L') := numE_congr fun i hi => by
  unfold wkF
  by_cases h : i < 122
  · rw [if_pos h, if_pos h, h1 (i / 2) (by omega)]
  · rw [if_neg h, if_neg h, h2 ((i - 122) / 2) (by omega)]
theorem wk_need1 (N L : Nat → Pr) {k o : Nat} (hk : k < 61) (ho : o = k * 2) : (numE 244 (wkF N L))[o]? = some (.int .i64 (N k).1) := by
  rw [numE_at (by omega)]
  unfold wkF
  rw [if_pos (by omega), if_pos (by omega), show o / 2 = k by omega]
theorem wk_need2 (N L : Nat → Pr) {k o : Nat} (hk : k < 61) (ho : o = k * 2 + 1) : (numE 244 (wkF N L))[o]? = some (.int .i64 (N k).2) := by
  rw [numE_at (by omega)]
  unfold wkF
  rw [if_pos (by omega), if_neg (by omega), show o / 2 = k by omega]
theorem wk_left1 (N L : Nat → Pr) {k o : Nat} (hk : k < 61) (ho : o = 122 + k * 2) : (numE 244 (wkF N L))[o]? = some (.int .i64 (L k).1) := by
  rw [numE_at (by omega)]
  unfold wkF
  rw [if_neg (by omega), if_pos (by omega), show (o - 122) / 2 = k by omega]
theorem wk_left2 (N L : Nat → Pr) {k o : Nat} (hk : k < 61) (ho : o = 122 + k * 2 + 1) : (numE 244 (wkF N L))[o]? = some (.int .i64 (L k).2) := by
  rw [numE_at (by omega)]
  unfold wkF
  rw [if_neg (by omega), if_neg (by omega), show (o - 122) / 2 = k by omega]
theorem wk_zero : numE 244 (fun _ => 0) = numE 244 (wkF (fun _ => (0, 0)) (fun _ => (0, 0))) := numE_congr fun i hi => by unfold wkF; by_cases h : i < 122 <;> by_cases h2 : i % 2 = 0 <;> simp [h, h2]
abbrev wkC (d : Dp) (item : Int) : List Value := numE 244 (wkF (needD d item) (fun j => lefD d item (j + 1)))
structure DepG (d : Dp) : Prop where
  k1 : 0 ≤ d.each ∧ d.each ≤ 20
  k2 : 0 ≤ d.tow ∧ d.tow ≤ 20
  k3 : 0 ≤ d.fra ∧ d.fra ≤ 20
  sl : d.st.length = 3
  fl : d.fx.length ≤ 30
  cl : d.cr.length ≤ 30
  st : ∀ x ∈ d.st, 0 ≤ x ∧ x ≤ 99999
  fx : ∀ x ∈ d.fx, (0 ≤ x.day ∧ x.day ≤ 60) ∧ checkE x.f x.b = 0
  cr : ∀ c ∈ d.cr, (0 ≤ c.day ∧ c.day ≤ 60) ∧ (0 ≤ c.item ∧ c.item ≤ 2) ∧ 0 ≤ c.count ∧ c.count ≤ 99999
theorem dep_good {d : Dp} (h : depOk d = true) : DepG d := by
  unfold depOk at h
  simp only [Bool.and_eq_true] at h
  obtain ⟨⟨⟨⟨h1, h2⟩, h3⟩, h4⟩, h5⟩ := h
  unfold kitB at h1
  simp only [Bool.and_eq_true] at h1
  unfold lenB at h2
  simp only [Bool.not_eq_true', Bool.or_eq_false_iff, Bool.not_eq_false', decide_eq_true_eq, decide_eq_false_iff_not] at h2
  refine ⟨wi_iff.1 h1.1.1, wi_iff.1 h1.1.2, wi_iff.1 h1.2, by omega, by omega, by omega, fun x hx => wi_iff.1 (List.all_eq_true.1 h3 x hx), fun x hx => ?_, fun c hc => ?_⟩
  · have := List.all_eq_true.1 h4 x hx
    unfold fxOk at this
    simp only [Bool.not_eq_true', Bool.or_eq_false_iff, Bool.not_eq_false', decide_eq_true_eq] at this
    exact ⟨wi_iff.1 this.1, this.2⟩
  · have := List.all_eq_true.1 h5 c hc
    unfold crOk at this
    simp only [Bool.not_eq_true', Bool.or_eq_false_iff, Bool.not_eq_false'] at this
    exact ⟨wi_iff.1 this.1.1, wi_iff.1 this.1.2, wi_iff.1 this.2⟩
theorem acc_rng {d : Dp} (h : DepG d) (item : Int) (dd : Nat) : ∀ k : Nat, 0 ≤ (accN d item k dd).1 ∧ (accN d item k dd).1 ≤ (accN d item k dd).2 ∧ (accN d item k dd).2 ≤ 10000 * k
  | 0 => by show 0 ≤ (0 : Int) ∧ (0 : Int) ≤ 0 ∧ (0 : Int) ≤ 10000 * ((0 : Nat) : Int); omega
  | k + 1 => by
    have ih := acc_rng h item dd k
    rw [accN]
    cases hx : d.fx[k]? with
    | none => simp only; omega
    | some x =>
      have hr := nd_rng (item := item) ⟨h.k1, h.k2, h.k3⟩ (h.fx x (List.mem_of_getElem? hx)).2
      simp only
      cases decide (x.day = (dd : Int))
      · simp only [cond_false]; omega
      · simp only [cond_true]; omega
theorem need_rng {d : Dp} (h : DepG d) (item : Int) (dd : Nat) : 0 ≤ (needD d item dd).1 ∧ (needD d item dd).1 ≤ (needD d item dd).2 ∧ (needD d item dd).2 ≤ 300000 := by
  have h1 := acc_rng h item dd d.fx.length
  have h2 := h.fl
  unfold needD; omega
theorem cr_rng {d : Dp} (h : DepG d) (item : Int) (dd : Nat) : ∀ k : Nat, 0 ≤ crT d item dd k ∧ crT d item dd k ≤ 100000 * k
  | 0 => by show 0 ≤ (0 : Int) ∧ (0 : Int) ≤ 100000 * ((0 : Nat) : Int); omega
  | k + 1 => by
    have ih := cr_rng h item dd k
    rw [crT]
    cases hx : d.cr[k]? with
    | none => simp only; omega
    | some c =>
      have hr := (h.cr c (List.mem_of_getElem? hx)).2.2
      simp only
      cases decide (c.day = (dd : Int)) && decide (c.item = item)
      · simp only [cond_false]; omega
      · simp only [cond_true]; omega
theorem st_rng {d : Dp} (h : DepG d) (k : Nat) : 0 ≤ d.st.getD k 0 ∧ d.st.getD k 0 ≤ 99999 := by
  rw [List.getD_eq_getElem?_getD]
  cases hx : d.st[k]? with
  | none => show 0 ≤ (0 : Int) ∧ (0 : Int) ≤ 99999; omega
  | some x => exact h.st x (List.mem_of_getElem? hx)
theorem lef_rng {d : Dp} (h : DepG d) (item : Int) : ∀ k : Nat, -(300000 * (k : Int)) ≤ (lefD d item k).1 ∧ (lefD d item k).1 ≤ (lefD d item k).2 ∧ (lefD d item k).2 ≤ 100000 + 3000000 * k
  | 0 => by
    have h1 := st_rng h item.toNat
    show -(300000 * ((0 : Nat) : Int)) ≤ d.st.getD item.toNat 0 ∧ d.st.getD item.toNat 0 ≤ d.st.getD item.toNat 0 ∧ d.st.getD item.toNat 0 ≤ 100000 + 3000000 * ((0 : Nat) : Int)
    omega
  | k + 1 => by
    have ih := lef_rng h item k
    have h1 := need_rng h item k
    have h2 := cr_rng h item k d.cr.length
    have h3 := h.cl
    rw [lefD]; dsimp only; omega
theorem acc_succ {d : Dp} {item : Int} {k : Nat} {x : Fx} (hx : d.fx[k]? = some x) (hd : 0 ≤ x.day) (dd : Nat) : accN d item (k + 1) dd = updF (accN d item k) x.day.toNat ((accN d item k x.day.toNat).1 + (ndV d.each d.tow d.fra x item).1, (accN d item k x.day.toNat).2 + (ndV d.each d.tow d.fra x item).2) dd := by
  rw [accN, hx]
  unfold updF
  simp only
  by_cases e : dd = x.day.toNat
  · rw [if_pos e, decide_eq_true (by omega), e]; rfl
  · rw [if_neg e, decide_eq_false (by omega)]; rfl
theorem upd_upd (N : Nat → Pr) (k : Nat) (a b : Pr) : updF (updF N k a) k b = updF N k b := by
  funext i; unfold updF; by_cases e : i = k
  · rw [if_pos e, if_pos e]
  · rw [if_neg e, if_neg e, if_neg e]
theorem upd_at (N : Nat → Pr) (k : Nat) (a : Pr) : updF N k a k = a := if_pos rfl
theorem nd_at {each tow fra : Int} {x : Fx} {item : Int} (h : 0 ≤ item ∧ item ≤ 2) : ((nd6 each tow fra x).drop (item.toNat * 2)).take 2 = [.int .i64 (ndV each tow fra x item).1, .int .i64 (ndV each tow fra x item).2] := by
  have h3 : item = 0 ∨ item = 1 ∨ item = 2 := by omega
  rcases h3 with rfl | rfl | rfl <;> rfl
theorem st_at {d : Dp} (h : DepG d) {item : Int} (hi : 0 ≤ item ∧ item ≤ 2) : (encI d.st)[item.toNat]? = some [.int .i64 (d.st.getD item.toNat 0)] := by
  have := h.sl
  rw [encI_at (List.getElem?_eq_getElem (show item.toNat < d.st.length by omega)), List.getD_eq_getElem?_getD, List.getElem?_eq_getElem (show item.toNat < d.st.length by omega)]; rfl
def lefT (d : Dp) (item : Int) (k : Nat) : Nat → Pr := fun j => if j < k then lefD d item (j + 1) else (0, 0)
theorem lefT_succ (d : Dp) (item : Int) (k : Nat) : updF (lefT d item k) k (lefD d item (k + 1)) = lefT d item (k + 1) := by
  funext i; unfold updF lefT
  by_cases e : i = k
  · rw [if_pos e, if_pos (by omega), e]
  · rw [if_neg e]
    by_cases h : i < k
    · rw [if_pos h, if_pos (by omega)]
    · rw [if_neg h, if_neg (by omega)]
theorem crT_succ {d : Dp} {item : Int} {dd k : Nat} {c : Cx} (h : d.cr[k]? = some c) : crT d item dd (k + 1) = bif decide (c.day = (dd : Int)) && decide (c.item = item) then crT d item dd k + c.count else crT d item dd k := by rw [crT, h]
set_option maxRecDepth 100000 in
set_option maxHeartbeats 4000000 in
theorem C_balls_run (d : Dp) (a : DA) (item : Int) (hG : DepG d) (hi : 0 ≤ item ∧ item ≤ 2) (w : World) (h : DpR w d a) : C0 Try.prog 101 [d.val a, .int .i64 item] w (.agg (wkC d item).toArray) := by
  have hsc := h.sc
  have hfl := hG.fl
  have hcl := hG.cl
  have hsl := hG.sl
  have hwz : numE 244 (fun _ => 0) = numE 244 (wkF (accN d item 0) (fun _ => (0, 0))) := wk_zero
  refine ⟨en Try.func101 Try.ntmps101 ((((St.init w).share (e := .ro a.sA 1 d.st.length (encI d.st)) h.s rfl rfl rfl).share (e := .ro a.fA 16 d.fx.length (d.fx.map Fx.enc)) h.f rfl rfl rfl).share (e := .ro a.cA 3 d.cr.length (d.cr.map Cx.enc)) h.c rfl rfl rfl) (h := fun F => ?_)⟩
  refine sq (h := ?_)
  refine rg (h := ?_)
  refine bxA (h := fun b0 => ?_)
  refine al (h := fun b1 => ?_)
  refine WL.blkTo (numE 244 fun _ => 0) .here (by rfl) ?_
  rw [hwz]
  refine nl (h := ?_)
  refine q_seq (h := ?_)
  refine sq (h := ?_)
  refine sq (h := ?_)
  refine rg (h := ?_)
  refine WL.y (hy := (by first | exact fa | exact faE)) (h := ?_)
  refine WL.y (hy := (by first | exact ld | exact ldE)) (h := ?_)
  refine WL.y (hy := lenS) (h := ?_)
  refine WL.y (hy := mv) (h := ?_)
  refine nl (h := ?_)
  refine q_seq (h := ?_)
  refine bk (h := ?_)
  refine lp (X := Nat) (I := fun k => k ≤ d.fx.length) (le := fun k => [(1, .int .i64 item), (2, .pointer (some ⟨b0, 0, none⟩)), (4, .pointer (some ⟨b1, 0, none⟩)), (13, .slice a.fA d.fx.length a.fc), (14, .int .i64 d.fx.length), (15, .int .i64 k)]) (Le := fun k => [.blk b1 113 (numE 244 (wkF (accN d item k) (fun _ => (0, 0)))), .blk b0 49 (d.cells a), .ro a.sA 1 d.st.length (encI d.st), .ro a.fA 16 d.fx.length (d.fx.map Fx.enc), .ro a.cA 3 d.cr.length (d.cr.map Cx.enc)]) (μ := fun k => d.fx.length - k) 0 (Nat.zero_le _) (by repeat (first | exact trivial | refine ⟨rfl, ?_⟩)) (by repeat (first | exact SubL.nil | (apply SubL.cons; (repeat (first | exact At.here | apply At.there))) | exact SubL.refl _ | apply SubL.skip)) (fun k hk => ?_)
  refine sq (h := ?_)
  refine rg (h := ?_)
  refine WL.y (hy := lss) (h := ?_)
  refine nl (h := ?_)
  refine q_seq (h := ?_)
  refine sq (h := ?_)
  refine cd (by exact rfl) (fun h0 => ?_) (fun h0 => ?_)
  · skip
    have hkn : k < d.fx.length := by have := of_decide_eq_true h0; omega
    obtain ⟨x, hx⟩ : ∃ x, d.fx[k]? = some x := ⟨_, List.getElem?_eq_getElem hkn⟩
    have hxg := hG.fx x (List.mem_of_getElem? hx)
    have hdl : x.day.toNat < 61 := by omega
    have hnr := nd_rng (item := item) ⟨hG.k1, hG.k2, hG.k3⟩ hxg.2
    have har := acc_rng hG item x.day.toNat k
    have hacc : updF (accN d item k) x.day.toNat ((accN d item k x.day.toNat).1 + (ndV d.each d.tow d.fra x item).1, (accN d item k x.day.toNat).2 + (ndV d.each d.tow d.fra x item).2) = accN d item (k + 1) := funext fun dd => (acc_succ hx hxg.1.1 dd).symm
    refine skp (h := ?_)
    refine q_seq (h := ?_)
    refine sq (h := ?_)
    refine bk (h := ?_)
    refine sq (h := ?_)
    refine rg (h := ?_)
    refine WL.y (hy := ix (A := a.fA) (m := d.fx.length)) (h := ?_)
    refine WL.y (hy := ldEW (A := a.fA) (hk := map_at hx)) (h := ?_)
    refine al (h := fun bx => ?_)
    first | refine stA (h := ?_) | refine stEA (h := ?_)
    refine nl (h := ?_)
    refine q_seq (h := ?_)
    refine sq (h := ?_)
    refine rg (h := ?_)
    refine WL.y (hy := (by first | exact fa | exact faE)) (h := ?_)
    refine WL.y (hy := (by first | exact ldA | exact ldEA)) (h := ?_)
    refine WL.y (hy := (by first | exact ldA | exact ldEA)) (h := ?_)
    refine cl0 (hc := fun w hS => C_balls_needs d.each d.tow d.fra x ⟨hG.k1, hG.k2, hG.k3⟩ hxg.2 w ((hS.old (h.x x (List.mem_of_getElem? hx)).r).get)) (h := ?_)
    refine WL.y (hy := mv) (h := ?_)
    refine WL.y (hy := ixv) (h := ?_)
    rw [nd_at hi]
    refine al (h := fun bn => ?_)
    first | refine stA (h := ?_) | refine stEA (h := ?_)
    refine nl (h := ?_)
    refine q_seq (h := ?_)
    refine sq (h := ?_)
    refine rgD (by kernel_rfl) [(1000000, .blk bx 60 x.enc), (1000000, .blk bn 39 [.int .i64 (ndV d.each d.tow d.fra x item).1, .int .i64 (ndV d.each d.tow d.fra x item).2]), (12, .blk b1 113 (numE 244 (wkF (accN d item k) (fun _ => (0, 0)))))] (by repeat (first | exact HS.nil | (apply HS.keep; (repeat (first | exact At.here | apply At.there))) | (apply HS.ro; (repeat (first | exact Rds.ro | exact Rds.own | apply Rds.there))))) (h := ?_)
    refine tk 0 (hy := (by first | exact fa | exact faE)) (h := ?_)
    refine tk 1 (hy := (by first | exact ld | exact ldE)) (h := ?_)
    refine tk 2 (hy := (by first | exact fa | exact faE)) (h := ?_)
    refine tk 3 (hy := ixA (hb := by omega)) (h := ?_)
    refine tk 4 (hy := (by first | exact fa | exact faE)) (h := ?_)
    refine tk 5 (hy := ld (hc := wk_need1 (accN d item k) (fun _ => (0, 0)) hdl (by omega))) (h := ?_)
    refine tk 6 (hy := (by first | exact fa | exact faE)) (h := ?_)
    refine tk 7 (hy := (by first | exact ld | exact ldE)) (h := ?_)
    refine tk 8 (hy := addI) (h := ?_)
    refine tk 9 (hy := (by first | exact fa | exact faE)) (h := ?_)
    refine tk 10 (hy := ixA (hb := by omega)) (h := ?_)
    refine tk 11 (hy := (by first | exact fa | exact faE)) (h := ?_)
    refine one 12 (h := ?_)
    refine stI (ho := by rw [numE_len]; omega) (h := ?_)
    rw [numE_set, wk_lo (k := x.day.toNat) _ _ hdl (by omega)]
    refine nx (h := ?_)
    refine dn (h := ?_)
    refine q_seq (h := ?_)
    refine rgD (by kernel_rfl) [(1000000, .blk bx 60 x.enc), (1000000, .blk bn 39 [.int .i64 (ndV d.each d.tow d.fra x item).1, .int .i64 (ndV d.each d.tow d.fra x item).2]), (12, .blk b1 113 (numE 244 (wkF (updF (accN d item k) x.day.toNat ((accN d item k x.day.toNat).1 + (ndV d.each d.tow d.fra x item).1, (accN d item k x.day.toNat).2)) (fun _ => (0, 0)))))] (by repeat (first | exact HS.nil | (apply HS.keep; (repeat (first | exact At.here | apply At.there))) | (apply HS.ro; (repeat (first | exact Rds.ro | exact Rds.own | apply Rds.there))))) (h := ?_)
    refine tk 0 (hy := (by first | exact fa | exact faE)) (h := ?_)
    refine tk 1 (hy := (by first | exact ld | exact ldE)) (h := ?_)
    refine tk 2 (hy := (by first | exact fa | exact faE)) (h := ?_)
    refine tk 3 (hy := ixA (hb := by omega)) (h := ?_)
    refine tk 4 (hy := (by first | exact fa | exact faE)) (h := ?_)
    refine tk 5 (hy := ld (v := .int .i64 (accN d item k x.day.toNat).2) (hc := (wk_need2 _ (fun _ => (0, 0)) hdl (by omega)).trans (by rw [upd_at]))) (h := ?_)
    refine tk 6 (hy := (by first | exact fa | exact faE)) (h := ?_)
    refine tk 7 (hy := (by first | exact ld | exact ldE)) (h := ?_)
    refine tk 8 (hy := addI) (h := ?_)
    refine tk 9 (hy := (by first | exact fa | exact faE)) (h := ?_)
    refine tk 10 (hy := ixA (hb := by omega)) (h := ?_)
    refine tk 11 (hy := (by first | exact fa | exact faE)) (h := ?_)
    refine one 12 (h := ?_)
    refine stI (ho := by rw [numE_len]; omega) (h := ?_)
    rw [numE_set, wk_hi (k := x.day.toNat) _ _ hdl (by omega), upd_upd, upd_at, hacc]
    refine nx (h := ?_)
    refine dn (h := ?_)
    refine q_blk_norm (h := ?_)
    refine q_seq (h := ?_)
    refine rg (h := ?_)
    refine WL.y (hy := addI) (h := ?_)
    refine WL.y (hy := mv) (h := ?_)
    refine nl (h := ?_)
    refine rn (x := k) (k + 1) hkn (by omega) (by repeat (first | exact trivial | refine ⟨rfl, ?_⟩)) (by repeat (first | exact SubL.nil | (apply SubL.cons; (repeat (first | exact At.here | apply At.there))) | exact SubL.refl _ | apply SubL.skip))
  · skip
    have hkn : k = d.fx.length := by have := of_decide_eq_false h0; omega
    rw [hkn]
    refine et (h := ?_)
    refine q_then_exit (h := ?_)
    refine q_then_exit (h := ?_)
    refine q_blk_hit (h := ?_)
    refine q_seq (h := ?_)
    refine sq (h := ?_)
    refine rgD0 (by kernel_rfl) (h := ?_)
    refine tk 0 (hy := (by first | exact fa | exact faE)) (h := ?_)
    refine tk 1 (hy := (by first | exact ld | exact ldE)) (h := ?_)
    refine tk 2 (hy := mv) (h := ?_)
    refine tk 3 (hy := ix (A := a.sA) (m := d.st.length)) (h := ?_)
    refine tk 4 (hy := ldE (A := a.sA) (hk := st_at hG hi)) (h := ?_)
    refine tk 5 (hy := (by first | exact fa | exact faE)) (h := ?_)
    refine tk 6 (hy := (by first | exact ld | exact ldE)) (h := ?_)
    refine tk 7 (hy := mv) (h := ?_)
    refine tk 8 (hy := ix (A := a.sA) (m := d.st.length)) (h := ?_)
    refine tk 9 (hy := ldE (A := a.sA) (hk := st_at hG hi)) (h := ?_)
    refine tk 10 (hy := bd) (h := ?_)
    refine one 11 (h := ?_)
    refine al (h := fun bl => ?_)
    refine nx (h := ?_)
    refine one 12 (h := ?_)
    first | refine stA (h := ?_) | refine stEA (h := ?_)
    refine nx (h := ?_)
    refine dn (h := ?_)
    refine q_seq (h := ?_)
    refine sq (h := ?_)
    refine sq (h := ?_)
    refine rg (h := ?_)
    refine WL.y (hy := mv) (h := ?_)
    refine nl (h := ?_)
    refine q_seq (h := ?_)
    refine bk (h := ?_)
    refine lp (X := Nat) (I := fun z => z ≤ 61) (le := fun z => [(1, .int .i64 item), (2, .pointer (some ⟨b0, 0, none⟩)), (4, .pointer (some ⟨b1, 0, none⟩)), (8, .pointer (some ⟨bl, 0, none⟩)), (61, .int .i64 z)]) (Le := fun z => [.blk bl 39 [.int .i64 (lefD d item z).1, .int .i64 (lefD d item z).2], .blk b1 113 (numE 244 (wkF (needD d item) (lefT d item z))), .blk b0 49 (d.cells a), .ro a.sA 1 d.st.length (encI d.st), .ro a.fA 16 d.fx.length (d.fx.map Fx.enc), .ro a.cA 3 d.cr.length (d.cr.map Cx.enc)]) (μ := fun z => 61 - z) 0 (Nat.zero_le _) (by repeat (first | exact trivial | refine ⟨rfl, ?_⟩)) (by repeat (first | exact SubL.nil | (apply SubL.cons; (repeat (first | exact At.here | apply At.there))) | exact SubL.refl _ | apply SubL.skip)) (fun z hz => ?_)
    refine sq (h := ?_)
    refine rg (h := ?_)
    refine WL.y (hy := lss) (h := ?_)
    refine nl (h := ?_)
    refine q_seq (h := ?_)
    refine sq (h := ?_)
    refine cd (by exact rfl) (fun h1 => ?_) (fun h1 => ?_)
    · skip
      have hz61 : z < 61 := by have := of_decide_eq_true h1; omega
      have hlr := lef_rng hG item z
      have hnr := need_rng hG item z
      refine skp (h := ?_)
      refine q_seq (h := ?_)
      refine sq (h := ?_)
      refine bk (h := ?_)
      refine sq (h := ?_)
      refine rg (h := ?_)
      refine WL.y (hy := mv) (h := ?_)
      refine WL.y (hy := asg) (h := ?_)
      refine nl (h := ?_)
      refine q_seq (h := ?_)
      refine sq (h := ?_)
      refine sq (h := ?_)
      refine rg (h := ?_)
      refine WL.y (hy := (by first | exact fa | exact faE)) (h := ?_)
      refine WL.y (hy := (by first | exact ld | exact ldE)) (h := ?_)
      refine WL.y (hy := lenS) (h := ?_)
      refine WL.y (hy := mv) (h := ?_)
      refine nl (h := ?_)
      refine q_seq (h := ?_)
      refine bk (h := ?_)
      refine lp (X := Nat) (I := fun j => j ≤ d.cr.length) (le := fun j => [(1, .int .i64 item), (2, .pointer (some ⟨b0, 0, none⟩)), (4, .pointer (some ⟨b1, 0, none⟩)), (8, .pointer (some ⟨bl, 0, none⟩)), (9, .int .i64 z), (61, .int .i64 z), (65, .slice a.cA d.cr.length a.cc), (66, .int .i64 d.cr.length), (67, .int .i64 j)]) (Le := fun j => [.blk bl 39 [.int .i64 ((lefD d item z).1 + crT d item z j), .int .i64 ((lefD d item z).2 + crT d item z j)], .blk b1 113 (numE 244 (wkF (needD d item) (lefT d item z))), .blk b0 49 (d.cells a), .ro a.sA 1 d.st.length (encI d.st), .ro a.fA 16 d.fx.length (d.fx.map Fx.enc), .ro a.cA 3 d.cr.length (d.cr.map Cx.enc)]) (μ := fun j => d.cr.length - j) 0 (Nat.zero_le _) (by repeat (first | exact trivial | refine ⟨rfl, ?_⟩)) (by rw [show (lefD d item z).1 + crT d item z 0 = (lefD d item z).1 from Int.add_zero _, show (lefD d item z).2 + crT d item z 0 = (lefD d item z).2 from Int.add_zero _]; repeat (first | exact SubL.nil | (apply SubL.cons; (repeat (first | exact At.here | apply At.there))) | exact SubL.refl _ | apply SubL.skip)) (fun j hj => ?_)
      refine sq (h := ?_)
      refine rg (h := ?_)
      refine WL.y (hy := lss) (h := ?_)
      refine nl (h := ?_)
      refine q_seq (h := ?_)
      refine sq (h := ?_)
      refine cd (by exact rfl) (fun h2 => ?_) (fun h2 => ?_)
      · skip
        have hjn : j < d.cr.length := by have := of_decide_eq_true h2; omega
        obtain ⟨y, hc⟩ : ∃ y, d.cr[j]? = some y := ⟨_, List.getElem?_eq_getElem hjn⟩
        have hyr := (hG.cr y (List.mem_of_getElem? hc)).2.2
        have hcr := cr_rng hG item z j
        have hcs := crT_succ (item := item) (dd := z) hc
        refine skp (h := ?_)
        refine q_seq (h := ?_)
        refine sq (h := ?_)
        refine bk (h := ?_)
        refine sq (h := ?_)
        refine rg (h := ?_)
        refine WL.y (hy := ix (A := a.cA) (m := d.cr.length)) (h := ?_)
        refine WL.y (hy := ldEW (A := a.cA) (hk := map_at hc)) (h := ?_)
        refine al (h := fun bc => ?_)
        first | refine stA (h := ?_) | refine stEA (h := ?_)
        refine nl (h := ?_)
        refine q_seq (h := ?_)
        refine sq (h := ?_)
        refine rg (h := ?_)
        refine WL.y (hy := (by first | exact fa | exact faE)) (h := ?_)
        refine WL.y (hy := (by first | exact ld | exact ldE)) (h := ?_)
        refine WL.y (hy := mv) (h := ?_)
        refine WL.y (hy := eql) (h := ?_)
        refine WL.y (hy := mv) (h := ?_)
        apply brAnd 5 75 80 (by exact rfl)
        · intro hb3
          refine un (h := ?_)
          refine WL.y (hy := (by first | exact fa | exact faE)) (h := ?_)
          refine un (h := ?_)
          refine WL.y (hy := (by first | exact ld | exact ldE)) (h := ?_)
          refine un (h := ?_)
          refine WL.y (hy := mv) (h := ?_)
          refine un (h := ?_)
          refine WL.y (hy := eql) (h := ?_)
          refine WL.y (hy := (by first | exact pkT | exact pkF)) (h := ?_)
          exact mg (by repeat (first | exact trivial | refine ⟨rfl, ?_⟩ | refine ⟨by rw [hb3]; rfl, ?_⟩)) (by repeat (first | exact SubL.nil | (apply SubL.cons; (repeat (first | exact At.here | apply At.there))) | exact SubL.refl _ | apply SubL.skip))
        · intro hb3
          repeat (first | refine un (h := ?_) | refine sk (h := ?_) | refine WL.y (hy := pkF) (h := ?_) | refine WL.y (hy := pkT) (h := ?_))
          exact mg (by repeat (first | exact trivial | refine ⟨rfl, ?_⟩ | refine ⟨by rw [hb3]; rfl, ?_⟩)) (by repeat (first | exact SubL.nil | (apply SubL.cons; (repeat (first | exact At.here | apply At.there))) | exact SubL.refl _ | apply SubL.skip))
        refine nl (h := ?_)
        refine q_seq (h := ?_)
        refine cd (by exact rfl) (fun h4 => ?_) (fun h4 => ?_)
        · skip
          rw [h4, cond_true] at hcs
          have hc1 : (lefD d item z).1 + crT d item z (j + 1) = (lefD d item z).1 + crT d item z j + y.count := by rw [hcs]; omega
          have hc2 : (lefD d item z).2 + crT d item z (j + 1) = (lefD d item z).2 + crT d item z j + y.count := by rw [hcs]; omega
          refine sq (h := ?_)
          refine rg (h := ?_)
          refine WL.y (hy := (by first | exact fa | exact faE)) (h := ?_)
          refine WL.y (hy := (by first | exact ld | exact ldE)) (h := ?_)
          refine WL.y (hy := (by first | exact fa | exact faE)) (h := ?_)
          refine WL.y (hy := (by first | exact ld | exact ldE)) (h := ?_)
          refine WL.y (hy := addI) (h := ?_)
          refine WL.y (hy := (by first | exact fa | exact faE)) (h := ?_)
          first | refine st (h := ?_) | refine stE (h := ?_)
          refine nl (h := ?_)
          refine q_seq (h := ?_)
          refine rg (h := ?_)
          refine WL.y (hy := (by first | exact fa | exact faE)) (h := ?_)
          refine WL.y (hy := (by first | exact ld | exact ldE)) (h := ?_)
          refine WL.y (hy := (by first | exact fa | exact faE)) (h := ?_)
          refine WL.y (hy := (by first | exact ld | exact ldE)) (h := ?_)
          refine WL.y (hy := addI) (h := ?_)
          refine WL.y (hy := (by first | exact fa | exact faE)) (h := ?_)
          first | refine st (h := ?_) | refine stE (h := ?_)
          refine nl (h := ?_)
          refine q_blk_norm (h := ?_)
          refine q_seq (h := ?_)
          refine rg (h := ?_)
          refine WL.y (hy := addI) (h := ?_)
          refine WL.y (hy := mv) (h := ?_)
          refine nl (h := ?_)
          refine rn (x := j) (j + 1) hjn (by omega) (by repeat (first | exact trivial | refine ⟨rfl, ?_⟩)) (by rw [hc1, hc2]; repeat (first | exact SubL.nil | (apply SubL.cons; (repeat (first | exact At.here | apply At.there))) | exact SubL.refl _ | apply SubL.skip))
        · skip
          rw [h4, cond_false] at hcs
          have hc1 : (lefD d item z).1 + crT d item z (j + 1) = (lefD d item z).1 + crT d item z j := by rw [hcs]
          have hc2 : (lefD d item z).2 + crT d item z (j + 1) = (lefD d item z).2 + crT d item z j := by rw [hcs]
          refine skp (h := ?_)
          refine q_blk_norm (h := ?_)
          refine q_seq (h := ?_)
          refine rg (h := ?_)
          refine WL.y (hy := addI) (h := ?_)
          refine WL.y (hy := mv) (h := ?_)
          refine nl (h := ?_)
          refine rn (x := j) (j + 1) hjn (by omega) (by repeat (first | exact trivial | refine ⟨rfl, ?_⟩)) (by rw [hc1, hc2]; repeat (first | exact SubL.nil | (apply SubL.cons; (repeat (first | exact At.here | apply At.there))) | exact SubL.refl _ | apply SubL.skip))
      · skip
        have hjn : j = d.cr.length := by have := of_decide_eq_false h2; omega
        rw [hjn]
        have hcr := cr_rng hG item z d.cr.length
        refine et (h := ?_)
        refine q_then_exit (h := ?_)
        refine q_then_exit (h := ?_)
        refine q_blk_hit (h := ?_)
        refine q_seq (h := ?_)
        refine sq (h := ?_)
        refine rgD (by kernel_rfl) [(9, .blk bl 39 _), (1000000, .blk b1 113 (numE 244 (wkF (needD d item) (lefT d item z))))] (by repeat (first | exact HS.nil | (apply HS.keep; (repeat (first | exact At.here | apply At.there))) | (apply HS.ro; (repeat (first | exact Rds.ro | exact Rds.own | apply Rds.there))))) (h := ?_)
        refine tk 0 (hy := (by first | exact fa | exact faE)) (h := ?_)
        refine tk 1 (hy := (by first | exact ld | exact ldE)) (h := ?_)
        refine tk 2 (hy := mv) (h := ?_)
        refine tk 3 (hy := (by first | exact fa | exact faE)) (h := ?_)
        refine tk 4 (hy := ixA (hb := by omega)) (h := ?_)
        refine tk 5 (hy := (by first | exact fa | exact faE)) (h := ?_)
        refine tk 6 (hy := ld (hc := wk_need2 (needD d item) (lefT d item z) hz61 (by omega))) (h := ?_)
        refine tk 7 (hy := subI) (h := ?_)
        refine tk 8 (hy := (by first | exact fa | exact faE)) (h := ?_)
        refine one 9 (h := ?_)
        first | refine st (h := ?_) | refine stE (h := ?_)
        refine nx (h := ?_)
        refine dn (h := ?_)
        refine q_seq (h := ?_)
        refine sq (h := ?_)
        refine rgD (by kernel_rfl) [(9, .blk bl 39 _), (1000000, .blk b1 113 (numE 244 (wkF (needD d item) (lefT d item z))))] (by repeat (first | exact HS.nil | (apply HS.keep; (repeat (first | exact At.here | apply At.there))) | (apply HS.ro; (repeat (first | exact Rds.ro | exact Rds.own | apply Rds.there))))) (h := ?_)
        refine tk 0 (hy := (by first | exact fa | exact faE)) (h := ?_)
        refine tk 1 (hy := (by first | exact ld | exact ldE)) (h := ?_)
        refine tk 2 (hy := mv) (h := ?_)
        refine tk 3 (hy := (by first | exact fa | exact faE)) (h := ?_)
        refine tk 4 (hy := ixA (hb := by omega)) (h := ?_)
        refine tk 5 (hy := (by first | exact fa | exact faE)) (h := ?_)
        refine tk 6 (hy := ld (hc := wk_need1 (needD d item) (lefT d item z) hz61 (by omega))) (h := ?_)
        refine tk 7 (hy := subI) (h := ?_)
        refine tk 8 (hy := (by first | exact fa | exact faE)) (h := ?_)
        refine one 9 (h := ?_)
        first | refine st (h := ?_) | refine stE (h := ?_)
        refine nx (h := ?_)
        refine dn (h := ?_)
        refine q_seq (h := ?_)
        refine rg (h := ?_)
        refine WL.y (hy := mv) (h := ?_)
        refine WL.y (hy := (by first | exact ldA | exact ldEA)) (h := ?_)
        refine WL.y (hy := (by first | exact fa | exact faE)) (h := ?_)
        refine WL.y (hy := ixA) (h := ?_)
        refine stP (vs := [.int .i64 (lefD d item (z + 1)).1, .int .i64 (lefD d item (z + 1)).2]) (h1 := fun v hv => by simp only [List.mem_cons, List.not_mem_nil, or_false] at hv; rcases hv with rfl | rfl <;> rfl) (hsz := rfl) (ho := by rw [numE_len]; simp only [List.length_cons, List.length_nil]; omega) (h := ?_)
        rw [wk_left (k := z) _ _ hz61 (by omega) (lefD d item (z + 1)), lefT_succ]
        refine nl (h := ?_)
        refine q_blk_norm (h := ?_)
        refine q_seq (h := ?_)
        refine rg (h := ?_)
        refine WL.y (hy := addI) (h := ?_)
        refine WL.y (hy := mv) (h := ?_)
        refine nl (h := ?_)
        refine rn (x := z) (z + 1) hz61 (by omega) (by repeat (first | exact trivial | refine ⟨rfl, ?_⟩)) (by repeat (first | exact SubL.nil | (apply SubL.cons; (repeat (first | exact At.here | apply At.there))) | exact SubL.refl _ | apply SubL.skip))
    · skip
      have hz61 : z = 61 := by have := of_decide_eq_false h1; omega
      rw [hz61, wk_congr (N := needD d item) (L := lefT d item 61) (N' := needD d item) (L' := fun j => lefD d item (j + 1)) (fun _ _ => rfl) (fun j hj => if_pos hj)]
      refine et (h := ?_)
      refine q_then_exit (h := ?_)
      refine q_then_exit (h := ?_)
      refine q_blk_hit (h := ?_)
      refine q_seq (h := ?_)
      refine sq (h := ?_)
      refine rg (h := ?_)
      refine WL.y (hy := ldW (hl := numE_len _ _)) (h := ?_)
      refine stW (h1 := numE_one) (hsz := numE_len _ _) (ho := rfl) (h := ?_)
      refine nl (h := ?_)
      refine q_seq (h := ?_)
      refine rtn (h := ?_)
      refine q_ret (h := (Res.cellA inferInstance (by exact rfl) (by repeat (first | exact At.here | apply At.there)) (tk_num 244 _) Res.nil)) (hR := ?_)
      exact fun w hS => ⟨rfl, hS.sub (by repeat (first | exact SubL.nil | (apply SubL.cons; (repeat (first | exact At.here | apply At.there))) | exact SubL.refl _ | apply SubL.skip))⟩
end Go.Proofs.Ytacaojifempclaa

namespace Go.Proofs.Ytacaojifempclaa
open Go Go.RowKit

def askE (d : Dp) (item day : Int) : Int := bif !decide (depE d = 0) then depE d else bif !wi item 0 2 || !wi day 0 60 then 1 else 0
def askW (d : Dp) (item day : Int) : List Value := bif decide (askE d item day = 0) then wkC d item else numE 244 fun _ => 0
theorem askW_len (d : Dp) (item day : Int) : (askW d item day).length = 244 := by
  unfold askW; cases decide (askE d item day = 0)
  · exact numE_len _ _
  · exact numE_len _ _
theorem askW_one (d : Dp) (item day : Int) : ∀ v ∈ askW d item day, v.oneCell' = true := by
  unfold askW; cases decide (askE d item day = 0)
  · exact numE_one
  · exact numE_one
theorem ask_ok {d : Dp} {item day : Int} (h : askE d item day = 0) : DepG d ∧ (0 ≤ item ∧ item ≤ 2) ∧ 0 ≤ day ∧ day ≤ 60 := by
  unfold askE at h
  cases h1 : !decide (depE d = 0)
  · rw [h1, cond_false] at h
    cases h2 : !wi item 0 2 || !wi day 0 60
    · rw [Bool.or_eq_false_iff, Bool.not_eq_false', Bool.not_eq_false'] at h2
      exact ⟨dep_good (dep_ok (by simpa using h1)), wi_iff.1 h2.1, wi_iff.1 h2.2⟩
    · rw [h2] at h; cases h
  · rw [h1, cond_true] at h
    rw [h] at h1; cases h1
theorem askW_ok {d : Dp} {item day : Int} (h : askE d item day = 0) : askW d item day = wkC d item := by rw [askW, decide_eq_true h]; rfl
set_option maxRecDepth 100000 in
theorem C_balls_ask (d : Dp) (a : DA) (item day : Int) (w : World) (h : DpR w d a) : C0 Try.prog 62 [d.val a, .int .i64 item, .int .i64 day] w (.tuple #[.agg (askW d item day).toArray, .int .i64 (askE d item day)]) := by
  refine ⟨en Try.func62 Try.ntmps62 ((St.init w).share (e := .ro a.sA 1 d.st.length (encI d.st)) h.s rfl rfl rfl) (h := fun F => ?_)⟩
  refine sq (h := ?_)
  refine rg (h := ?_)
  refine bxA (h := fun b0 => ?_)
  refine al (h := fun b1 => ?_)
  refine WL.blkTo (numE 244 fun _ => 0) .here (by rfl) ?_
  refine WL.y (hy := asg) (h := ?_)
  refine nl (h := ?_)
  refine q_seq (h := ?_)
  refine sq (h := ?_)
  refine sq (h := ?_)
  refine rg (h := ?_)
  refine WL.y (hy := (by first | exact ldA | exact ldEA)) (h := ?_)
  refine cl0 (hc := fun w hS => C_balls_Check d a w (h.old hS)) (h := ?_)
  refine WL.y (hy := asg) (h := ?_)
  refine nl (h := ?_)
  refine q_seq (h := ?_)
  refine sq (h := ?_)
  refine rg (h := ?_)
  refine WL.y (hy := mv) (h := ?_)
  refine WL.y (hy := neq) (h := ?_)
  refine nl (h := ?_)
  refine q_seq (h := ?_)
  refine cd (by exact rfl) (fun h0 => ?_) (fun h0 => ?_)
  · skip
    have hE : askE d item day = depE d := by rw [askE, h0]; rfl
    have hW : askW d item day = numE 244 fun _ => 0 := by rw [askW, hE, show decide (depE d = 0) = false by simpa using h0]; rfl
    refine sq (h := ?_)
    refine rg (h := ?_)
    refine WL.y (hy := Yd.to (v' := .agg (numE 244 fun _ => 0).toArray) bd (by rfl)) (h := ?_)
    refine WL.y (hy := mv) (h := ?_)
    refine stW (h1 := numE_one) (hsz := numE_len _ _) (ho := rfl) (h := ?_)
    refine WL.y (hy := asg) (h := ?_)
    refine nl (h := ?_)
    refine q_seq (h := ?_)
    refine rtn (h := ?_)
    refine q_then_ret (h := ?_)
    refine q_ret (h := (Res.cellA inferInstance (by exact rfl) (by repeat (first | exact At.here | apply At.there)) (tk_num 244 _) (Res.tmp (by exact rfl) Res.nil))) (hR := ?_)
    rw [hE, hW]
    exact fun w hS => ⟨rfl, hS.sub (by repeat (first | exact SubL.nil | (apply SubL.cons; (repeat (first | exact At.here | apply At.there))) | exact SubL.refl _ | apply SubL.skip))⟩
  · skip
    have hd := h0
    refine skp (h := ?_)
    refine q_seq (h := ?_)
    refine sq (h := ?_)
    refine sq (h := ?_)
    refine rg (h := ?_)
    refine WL.y (hy := mv) (h := ?_)
    refine cl0 (hc := fun w hS => C_balls_within _ _ _ w) (h := ?_)
    refine WL.y (hy := notB) (h := ?_)
    refine WL.y (hy := mv) (h := ?_)
    apply brOr 4 18 22 (by exact rfl)
    · intro hb1
      refine un (h := ?_)
      refine WL.y (hy := mv) (h := ?_)
      refine un (h := ?_)
      refine cl0 (hc := fun w hS => C_balls_within _ _ _ w) (h := ?_)
      refine un (h := ?_)
      refine WL.y (hy := notB) (h := ?_)
      refine WL.y (hy := (by first | exact pkT | exact pkF)) (h := ?_)
      exact mg (by repeat (first | exact trivial | refine ⟨rfl, ?_⟩ | refine ⟨by rw [hb1]; rfl, ?_⟩)) (by repeat (first | exact SubL.nil | (apply SubL.cons; (repeat (first | exact At.here | apply At.there))) | exact SubL.refl _ | apply SubL.skip))
    · intro hb1
      repeat (first | refine un (h := ?_) | refine sk (h := ?_) | refine WL.y (hy := pkF) (h := ?_) | refine WL.y (hy := pkT) (h := ?_))
      exact mg (by repeat (first | exact trivial | refine ⟨rfl, ?_⟩ | refine ⟨by rw [hb1]; rfl, ?_⟩)) (by repeat (first | exact SubL.nil | (apply SubL.cons; (repeat (first | exact At.here | apply At.there))) | exact SubL.refl _ | apply SubL.skip))
    refine nl (h := ?_)
    refine q_seq (h := ?_)
    refine cd (by exact rfl) (fun h2 => ?_) (fun h2 => ?_)
    · skip
      have hE : askE d item day = 1 := by rw [askE, hd, h2]; rfl
      have hW : askW d item day = numE 244 fun _ => 0 := by rw [askW, hE]; rfl
      refine sq (h := ?_)
      refine rg (h := ?_)
      refine WL.y (hy := Yd.to (v' := .agg (numE 244 fun _ => 0).toArray) bd (by rfl)) (h := ?_)
      refine stW (h1 := numE_one) (hsz := numE_len _ _) (ho := rfl) (h := ?_)
      refine WL.y (hy := asg) (h := ?_)
      refine nl (h := ?_)
      refine q_seq (h := ?_)
      refine rtn (h := ?_)
      refine q_then_ret (h := ?_)
      refine q_ret (h := (Res.cellA inferInstance (by exact rfl) (by repeat (first | exact At.here | apply At.there)) (tk_num 244 _) (Res.tmp (by exact rfl) Res.nil))) (hR := ?_)
      rw [hE, hW]
      exact fun w hS => ⟨rfl, hS.sub (by repeat (first | exact SubL.nil | (apply SubL.cons; (repeat (first | exact At.here | apply At.there))) | exact SubL.refl _ | apply SubL.skip))⟩
    · skip
      have hE : askE d item day = 0 := by rw [askE, hd, h2]; rfl
      have hG := ask_ok hE
      have hW := askW_ok hE
      refine skp (h := ?_)
      refine q_seq (h := ?_)
      refine sq (h := ?_)
      refine rg (h := ?_)
      refine WL.y (hy := (by first | exact ldA | exact ldEA)) (h := ?_)
      refine WL.y (hy := mv) (h := ?_)
      refine cl0 (hc := fun w hS => C_balls_run d a item hG.1 hG.2.1 w (h.old hS)) (h := ?_)
      refine stW (cs := numE 244 fun _ => 0) (h1 := numE_one) (hsz := numE_len _ _) (ho := by rw [numE_len, numE_len]) (h := ?_)
      refine WL.y (hy := asg) (h := ?_)
      refine nl (h := ?_)
      refine q_seq (h := ?_)
      refine rtn (h := ?_)
      refine q_ret (h := (Res.cellA inferInstance (by exact rfl) (by repeat (first | exact At.here | apply At.there)) (tk_num 244 _) (Res.tmp (by exact rfl) Res.nil))) (hR := ?_)
      rw [hE, hW]
      exact fun w hS => ⟨rfl, hS.sub (by repeat (first | exact SubL.nil | (apply SubL.cons; (repeat (first | exact At.here | apply At.there))) | exact SubL.refl _ | apply SubL.skip))⟩
def spanE (L : Nat → Pr) (n : Nat) : List (List Value) := (List.range n).map fun k => [.int .i64 (L k).1, .int .i64 (L k).2]
theorem spanE_at (L : Nat → Pr) {n k : Nat} (h : k < n) : (spanE L n)[k]? = some [.int .i64 (L k).1, .int .i64 (L k).2] := by rw [spanE, List.getElem?_map, List.getElem?_range h]; rfl
theorem spanE_len (L : Nat → Pr) (n : Nat) : (spanE L n).length = n := by rw [spanE, List.length_map, List.length_range]
theorem rd_week {b T : Nat} {N L : Nat → Pr} {k n o : Nat} (hn : k + n = 61) (ho : o = 122 + k * 2) (w : World) (h : (Ent.blk b T (numE 244 (wkF N L))).ok w) : Rd w (some ⟨b, o, none⟩) 2 n (spanE (fun j => L (k + j)) n) := by
  have hmem : ∀ c ∈ spanE (fun j => L (k + j)) n, ∃ j, c = [.int .i64 (L (k + j)).1, .int .i64 (L (k + j)).2] := fun c hc => by
    obtain ⟨j, _, rfl⟩ := List.mem_map.1 hc
    exact ⟨j, rfl⟩
  refine rd_blkA h (spanE_len _ _) (fun c hc => by obtain ⟨j, rfl⟩ := hmem c hc; rfl) (fun c hc v hv => by
    obtain ⟨j, rfl⟩ := hmem c hc
    simp only [List.mem_cons, List.not_mem_nil, or_false] at hv
    rcases hv with rfl | rfl <;> rfl) fun j c hj i v hv => ?_
  have hjn : j < n := by
    have := (List.getElem?_eq_some_iff.1 hj).1
    rwa [spanE_len] at this
  rw [spanE_at _ hjn] at hj
  cases hj
  rcases i with _ | _ | i
  · cases hv
    exact wk_left1 N L (k := k + j) (by omega) (by omega)
  · cases hv
    exact wk_left2 N L (k := k + j) (by omega) (by omega)
  · simp at hv
def leftR (d : Dp) (item day : Int) : List Value := bif decide (askE d item day = 0) then [pv (lefD d item (day.toNat + 1)), .int .i64 0] else [pv (0, 0), .int .i64 (askE d item day)]
def ordT (d : Dp) (item : Int) (day : Nat) : Nat → Int
  | 0 => 0
  | k + 1 => max (ordT d item day k) (-(lefD d item (day + k + 1)).1)
def ordV (d : Dp) (item : Int) (day : Nat) : Int := ordT d item day (61 - day)
def ordR (d : Dp) (item day : Int) : List Value := bif decide (askE d item day = 0) then [.int .i64 (ordV d item day.toNat), .int .i64 0] else [.int .i64 0, .int .i64 (askE d item day)]
set_option maxRecDepth 100000 in
theorem C_balls_Left (d : Dp) (a : DA) (item day : Int) (w : World) (h : DpR w d a) : C0 Try.prog 22 [d.val a, .int .i64 item, .int .i64 day] w (.tuple (leftR d item day).toArray) := by
  refine ⟨en Try.func22 Try.ntmps22 ((St.init w).share (e := .ro a.sA 1 d.st.length (encI d.st)) h.s rfl rfl rfl) (h := fun F => ?_)⟩
  refine sq (h := ?_)
  refine rg (h := ?_)
  refine bxA (h := fun b0 => ?_)
  refine al (h := fun b1 => ?_)
  refine WL.y (hy := asg) (h := ?_)
  refine nl (h := ?_)
  refine q_seq (h := ?_)
  refine sq (h := ?_)
  refine rg (h := ?_)
  refine WL.y (hy := (by first | exact ldA | exact ldEA)) (h := ?_)
  refine WL.y (hy := mv) (h := ?_)
  refine WL.y (hy := mv) (h := ?_)
  refine cl0 (hc := fun w hS => C_balls_ask d a item day w (h.old hS)) (h := ?_)
  refine WL.y (hy := mv) (h := ?_)
  refine WL.y (hy := ex) (h := ?_)
  refine WL.y (hy := ex) (h := ?_)
  refine al (h := fun b1 => ?_)
  refine WL.blkTo (numE 244 fun _ => 0) .here (by rfl) ?_
  refine stW (h1 := askW_one _ _ _) (hsz := askW_len _ _ _) (ho := by rw [askW_len, numE_len]) (h := ?_)
  refine WL.y (hy := asg) (h := ?_)
  refine nl (h := ?_)
  refine q_seq (h := ?_)
  refine sq (h := ?_)
  refine sq (h := ?_)
  refine rg (h := ?_)
  refine WL.y (hy := mv) (h := ?_)
  refine WL.y (hy := neq) (h := ?_)
  refine nl (h := ?_)
  refine q_seq (h := ?_)
  refine cd (by exact rfl) (fun h0 => ?_) (fun h0 => ?_)
  · skip
    have hE : leftR d item day = [pv (0, 0), .int .i64 (askE d item day)] := by rw [leftR, show decide (askE d item day = 0) = false by simpa using h0]; rfl
    refine sq (h := ?_)
    refine rg (h := ?_)
    refine WL.y (hy := bd) (h := ?_)
    refine WL.y (hy := mv) (h := ?_)
    first | refine stA (h := ?_) | refine stEA (h := ?_)
    refine WL.y (hy := asg) (h := ?_)
    refine nl (h := ?_)
    refine q_seq (h := ?_)
    refine rtn (h := ?_)
    refine q_then_ret (h := ?_)
    refine q_ret (hR := ?_)
    rw [hE]
    exact fun w hS => ⟨rfl, hS.sub (by repeat (first | exact SubL.nil | (apply SubL.cons; (repeat (first | exact At.here | apply At.there))) | exact SubL.refl _ | apply SubL.skip))⟩
  · skip
    have hE0 : askE d item day = 0 := by simpa using h0
    have hE : leftR d item day = [pv (lefD d item (day.toNat + 1)), .int .i64 0] := by rw [leftR, decide_eq_true hE0]; rfl
    obtain ⟨hG, hi, hd⟩ := ask_ok hE0
    rw [askW_ok hE0]
    refine skp (h := ?_)
    refine q_seq (h := ?_)
    refine sq (h := ?_)
    refine rg (h := ?_)
    refine WL.y (hy := mv) (h := ?_)
    refine WL.y (hy := (by first | exact fa | exact faE)) (h := ?_)
    refine WL.y (hy := ixA (hb := by omega)) (h := ?_)
    refine WL.y (hy := ldP (vs := [.int .i64 (lefD d item (day.toNat + 1)).1, .int .i64 (lefD d item (day.toNat + 1)).2]) (hc := fun j v hj => by
      rcases j with _ | _ | j
      · cases hj; exact wk_left1 _ _ (k := day.toNat) (by omega) (by omega)
      · cases hj; exact wk_left2 _ _ (k := day.toNat) (by omega) (by omega)
      · simp at hj)) (h := ?_)
    first | refine stA (h := ?_) | refine stEA (h := ?_)
    refine WL.y (hy := asg) (h := ?_)
    refine nl (h := ?_)
    refine q_seq (h := ?_)
    refine rtn (h := ?_)
    refine q_ret (hR := ?_)
    rw [hE]
    exact fun w hS => ⟨rfl, hS.sub (by repeat (first | exact SubL.nil | (apply SubL.cons; (repeat (first | exact At.here | apply At.there))) | exact SubL.refl _ | apply SubL.skip))⟩
set_option maxRecDepth 100000 in
theorem C_balls_Order (d : Dp) (a : DA) (item day : Int) (w : World) (h : DpR w d a) : C0 Try.prog 21 [d.val a, .int .i64 item, .int .i64 day] w (.tuple (ordR d item day).toArray) := by
  refine ⟨en Try.func21 Try.ntmps21 ((St.init w).share (e := .ro a.sA 1 d.st.length (encI d.st)) h.s rfl rfl rfl) (h := fun F => ?_)⟩
  refine sq (h := ?_)
  refine rg (h := ?_)
  refine bxA (h := fun b0 => ?_)
  refine WL.y (hy := asg) (h := ?_)
  refine WL.y (hy := asg) (h := ?_)
  refine nl (h := ?_)
  refine q_seq (h := ?_)
  refine sq (h := ?_)
  refine rg (h := ?_)
  refine WL.y (hy := (by first | exact ldA | exact ldEA)) (h := ?_)
  refine WL.y (hy := mv) (h := ?_)
  refine WL.y (hy := mv) (h := ?_)
  refine cl0 (hc := fun w hS => C_balls_ask d a item day w (h.old hS)) (h := ?_)
  refine WL.y (hy := mv) (h := ?_)
  refine WL.y (hy := ex) (h := ?_)
  refine WL.y (hy := ex) (h := ?_)
  refine al (h := fun b1 => ?_)
  refine WL.blkTo (numE 244 fun _ => 0) .here (by rfl) ?_
  refine stW (h1 := askW_one _ _ _) (hsz := askW_len _ _ _) (ho := by rw [askW_len, numE_len]) (h := ?_)
  refine WL.y (hy := asg) (h := ?_)
  refine nl (h := ?_)
  refine q_seq (h := ?_)
  refine sq (h := ?_)
  refine sq (h := ?_)
  refine rg (h := ?_)
  refine WL.y (hy := mv) (h := ?_)
  refine WL.y (hy := neq) (h := ?_)
  refine nl (h := ?_)
  refine q_seq (h := ?_)
  refine cd (by exact rfl) (fun h0 => ?_) (fun h0 => ?_)
  · skip
    have hE : ordR d item day = [.int .i64 0, .int .i64 (askE d item day)] := by rw [ordR, show decide (askE d item day = 0) = false by simpa using h0]; rfl
    refine sq (h := ?_)
    refine rg (h := ?_)
    refine WL.y (hy := mv) (h := ?_)
    refine WL.y (hy := asg) (h := ?_)
    refine WL.y (hy := asg) (h := ?_)
    refine nl (h := ?_)
    refine q_seq (h := ?_)
    refine rtn (h := ?_)
    refine q_then_ret (h := ?_)
    refine q_ret (hR := ?_)
    rw [hE]
    exact fun w hS => ⟨rfl, hS.sub (by repeat (first | exact SubL.nil | (apply SubL.cons; (repeat (first | exact At.here | apply At.there))) | exact SubL.refl _ | apply SubL.skip))⟩
  · skip
    have hE0 : askE d item day = 0 := by simpa using h0
    have hE : ordR d item day = [.int .i64 (ordV d item day.toNat), .int .i64 0] := by rw [ordR, decide_eq_true hE0]; rfl
    obtain ⟨hG, hi, hd⟩ := ask_ok hE0
    rw [askW_ok hE0]
    obtain ⟨n9, hn9⟩ : ∃ n9, n9 = 61 - day.toNat := ⟨_, rfl⟩
    refine skp (h := ?_)
    refine q_seq (h := ?_)
    refine sq (h := ?_)
    refine rg (h := ?_)
    refine WL.y (hy := asg) (h := ?_)
    refine nl (h := ?_)
    refine q_seq (h := ?_)
    refine sq (h := ?_)
    refine sq (h := ?_)
    refine rg (h := ?_)
    refine WL.y (hy := (by first | exact fa | exact faE)) (h := ?_)
    refine WL.y (hy := mv) (h := ?_)
    refine WL.y (hy := slA (b := b1) (lo' := day.toNat) (hl := .inr ⟨_, _, _, rfl, rfl, hd.1, by omega, rfl⟩) (hne := by omega)) (h := ?_)
    rw [show 61 - day.toNat = n9 from hn9.symm]
    refine WL.y (hy := lenS) (h := ?_)
    refine WL.y (hy := mv) (h := ?_)
    refine nl (h := ?_)
    refine q_seq (h := ?_)
    refine bk (h := ?_)
    refine lp (X := Nat) (I := fun k => k ≤ n9) (le := fun k => [(8, .pointer (some ⟨b1, 0, none⟩)), (10, .int .i64 (ordT d item day.toNat k)), (25, .slice (some ⟨b1, 0 + 122 + day.toNat * 2, none⟩) n9 n9), (26, .int .i64 n9), (27, .int .i64 k)]) (Le := fun k => [.blk b1 113 (wkC d item), .ro a.sA 1 d.st.length (encI d.st)]) (μ := fun k => n9 - k) 0 (Nat.zero_le _) (by repeat (first | exact trivial | refine ⟨rfl, ?_⟩)) (by repeat (first | exact SubL.nil | (apply SubL.cons; (repeat (first | exact At.here | apply At.there))) | exact SubL.refl _ | apply SubL.skip)) (fun k hk => ?_)
    refine sq (h := ?_)
    refine rg (h := ?_)
    refine WL.y (hy := lss) (h := ?_)
    refine nl (h := ?_)
    refine q_seq (h := ?_)
    refine sq (h := ?_)
    refine cd (by exact rfl) (fun h1 => ?_) (fun h1 => ?_)
    · skip
      have hkn : k < n9 := by have := of_decide_eq_true h1; omega
      have hlr := lef_rng hG item (day.toNat + k + 1)
      refine skp (h := ?_)
      refine q_seq (h := ?_)
      refine sq (h := ?_)
      refine bk (h := ?_)
      refine sq (h := ?_)
      refine rg (h := ?_)
      refine WL.y (hy := ix (A := some ⟨b1, 0 + 122 + day.toNat * 2, none⟩) (m := n9) (hr := by repeat (first | exact Rds.any (rd_week (k := day.toNat) (by omega) (by omega)) | apply Rds.there))) (h := ?_)
      refine WL.y (hy := ldEW (A := some ⟨b1, 0 + 122 + day.toNat * 2, none⟩) (hr := by repeat (first | exact Rds.any (rd_week (k := day.toNat) (n := n9) (by omega) (by omega)) | apply Rds.there)) (hk := spanE_at _ hkn)) (h := ?_)
      refine al (h := fun bt => ?_)
      first | refine stA (h := ?_) | refine stEA (h := ?_)
      refine nl (h := ?_)
      refine q_seq (h := ?_)
      refine rg (h := ?_)
      refine WL.y (hy := mv) (h := ?_)
      refine WL.y (hy := (by first | exact fa | exact faE)) (h := ?_)
      refine WL.y (hy := (by first | exact ld | exact ldE)) (h := ?_)
      refine WL.y (hy := negI) (h := ?_)
      refine WL.y (hy := maxI) (h := ?_)
      refine WL.y (hy := asg) (h := ?_)
      refine nl (h := ?_)
      refine q_blk_norm (h := ?_)
      refine q_seq (h := ?_)
      refine rg (h := ?_)
      refine WL.y (hy := addI) (h := ?_)
      refine WL.y (hy := mv) (h := ?_)
      refine nl (h := ?_)
      refine rn (x := k) (k + 1) hkn (by omega) (by repeat (first | exact trivial | refine ⟨rfl, ?_⟩)) (by repeat (first | exact SubL.nil | (apply SubL.cons; (repeat (first | exact At.here | apply At.there))) | exact SubL.refl _ | apply SubL.skip))
    · skip
      have hkn : k = n9 := by have := of_decide_eq_false h1; omega
      rw [hkn, show ordT d item day.toNat n9 = ordV d item day.toNat by rw [hn9]; rfl]
      refine et (h := ?_)
      refine q_then_exit (h := ?_)
      refine q_then_exit (h := ?_)
      refine q_blk_hit (h := ?_)
      refine q_seq (h := ?_)
      refine sq (h := ?_)
      refine rg (h := ?_)
      refine WL.y (hy := mv) (h := ?_)
      refine WL.y (hy := asg) (h := ?_)
      refine WL.y (hy := asg) (h := ?_)
      refine nl (h := ?_)
      refine q_seq (h := ?_)
      refine rtn (h := ?_)
      refine q_ret (hR := ?_)
      rw [hE]
      exact fun w hS => ⟨rfl, hS.sub (by repeat (first | exact SubL.nil | (apply SubL.cons; (repeat (first | exact At.here | apply At.there))) | exact SubL.refl _ | apply SubL.skip))⟩
end Go.Proofs.Ytacaojifempclaa

namespace Go.Proofs.Ytacaojifempclaa
open Go Go.RowKit

theorem accN_succ {d : Dp} {item : Int} {dd k : Nat} {x : Fx} (h : d.fx[k]? = some x) : accN d item (k + 1) dd = bif decide (x.day = (dd : Int)) then ((accN d item k dd).1 + (ndV d.each d.tow d.fra x item).1, (accN d item k dd).2 + (ndV d.each d.tow d.fra x item).2) else accN d item k dd := by rw [accN, h]
end Go.Proofs.Ytacaojifempclaa

namespace Go.Proofs.Ytacaojifempclaa
open Go Go.RowKit

structure CE where
  (won g : Pr) (n t : Int) (v : Cs)
def fndC (l : List CE) (won g : Pr) (n t : Int) : Option CE := l.find? fun e => decide (e.won = won) && decide (e.g = g) && decide (e.n = n) && decide (e.t = t)
def lkC2 (l : List CE) : Pr → Pr → Int → Int → Cs := fun won g n t => match fndC l won g n t with
  | some e => e.v
  | none => zC
def sideOk (f : Fmt) (l : List CE) (e : CE) (side : Int) : Bool := overS f e.won e.g side || (fndC l (wonS f e.won e.g side) (gamS f e.won e.g side) (e.n + 1) (tieN f e.won e.g)).isSome
def okC (f : Fmt) (l : List CE) : Bool := l.all fun e => decide (e.v = orV (courV (lkC2 l) f e.won e.g e.n e.t 0) (courV (lkC2 l) f e.won e.g e.n e.t 1)) && sideOk f l e 0 && sideOk f l e 1
theorem fnd_is {l : List CE} {won g : Pr} {n t : Int} {e : CE} (h : fndC l won g n t = some e) : e ∈ l ∧ e.won = won ∧ e.g = g ∧ e.n = n ∧ e.t = t := by
  have h1 := List.mem_of_find?_eq_some h
  have h2 := List.find?_some h
  simp only [Bool.and_eq_true, decide_eq_true_eq] at h2
  exact ⟨h1, h2.1.1.1, h2.1.1.2, h2.1.2, h2.2⟩
theorem cert_ok {f : Fmt} (hf : f.Ok) (hb : Bdd f) {l : List CE} (h : okC f l = true) : ∀ (k : Nat) (won g : Pr) (n t : Int), Vs f won g → remV f won g ≤ k → (fndC l won g n t).isSome = true → fromP f won g n t = lkC2 l won g n t
  | 0, won, g, n, t, hV, hr, _ => by have := rem_pos hf hb hV; omega
  | k + 1, won, g, n, t, hV, hr, hs => by
    obtain ⟨e, he⟩ := Option.isSome_iff_exists.1 hs
    obtain ⟨hm, rfl, rfl, rfl, rfl⟩ := fnd_is he
    have hok := List.all_eq_true.1 h e hm
    simp only [Bool.and_eq_true, decide_eq_true_eq] at hok
    obtain ⟨⟨hv, h0⟩, h1⟩ := hok
    have hl : lkC2 l e.won e.g e.n e.t = e.v := by unfold lkC2; rw [he]
    have hc : ∀ side : Int, side = 0 ∨ side = 1 → sideOk f l e side = true → courV (fromP f) f e.won e.g e.n e.t side = courV (lkC2 l) f e.won e.g e.n e.t side := fun side hsd hso => by
      unfold courV
      cases ho : overS f e.won e.g side
      · obtain ⟨hV', hr'⟩ := step_ok' hf hb hsd hV ho
        rw [sideOk, ho, Bool.false_or] at hso
        rw [cert_ok hf hb h k _ _ _ _ hV' (by omega) hso]
      · rfl
    rw [from_eq hf hb hV, hl, hv, hc 0 (.inl rfl) h0, hc 1 (.inr rfl) h1]
def exC : List CE := [⟨(0, 0), (0, 0), 0, 0, ((1, 3), (1, 2))⟩, ⟨(0, 0), (0, 1), 1, 0, ((1, 3), (1, 2))⟩, ⟨(0, 0), (1, 0), 1, 0, ((1, 3), (1, 2))⟩, ⟨(0, 0), (1, 1), 2, 0, ((1, 2), (1, 2))⟩, ⟨(0, 0), (1, 2), 3, 0, ((1, 2), (1, 2))⟩, ⟨(0, 0), (2, 1), 3, 0, ((1, 2), (1, 2))⟩, ⟨(0, 0), (2, 2), 4, 0, ((1, 2), (1, 2))⟩, ⟨(0, 1), (0, 0), 2, 0, ((0, 1), (0, 1))⟩, ⟨(0, 1), (0, 0), 4, 0, ((0, 1), (0, 1))⟩, ⟨(0, 1), (0, 0), 5, 1, ((1, 2), (0, 1))⟩, ⟨(0, 1), (0, 1), 3, 0, ((0, 1), (0, 1))⟩, ⟨(0, 1), (0, 1), 5, 0, ((0, 1), (0, 1))⟩, ⟨(0, 1), (0, 1), 6, 0, ((0, 1), (0, 1))⟩, ⟨(0, 1), (1, 0), 3, 0, ((0, 1), (0, 1))⟩, ⟨(0, 1), (1, 0), 5, 0, ((0, 1), (0, 1))⟩, ⟨(0, 1), (1, 0), 6, 0, ((0, 1), (0, 1))⟩, ⟨(0, 1), (1, 1), 4, 0, ((0, 0), (0, 1))⟩, ⟨(0, 1), (1, 1), 6, 0, ((0, 0), (0, 1))⟩, ⟨(0, 1), (1, 1), 7, 0, ((1, 1), (0, 1))⟩, ⟨(0, 1), (1, 2), 5, 0, ((0, 0), (0, 1))⟩, ⟨(0, 1), (1, 2), 7, 0, ((0, 0), (0, 1))⟩, ⟨(0, 1), (1, 2), 8, 0, ((0, 0), (0, 1))⟩, ⟨(0, 1), (2, 1), 5, 0, ((0, 0), (0, 1))⟩, ⟨(0, 1), (2, 1), 7, 0, ((0, 0), (0, 1))⟩, ⟨(0, 1), (2, 1), 8, 0, ((0, 0), (0, 1))⟩, ⟨(0, 1), (2, 2), 6, 0, ((0, 0), (0, 1))⟩, ⟨(0, 1), (2, 2), 8, 0, ((0, 0), (0, 1))⟩, ⟨(0, 1), (2, 2), 9, 0, ((0, 0), (0, 1))⟩, ⟨(1, 0), (0, 0), 2, 0, ((0, 1), (0, 1))⟩, ⟨(1, 0), (0, 0), 4, 0, ((0, 1), (0, 1))⟩, ⟨(1, 0), (0, 0), 5, 1, ((1, 2), (0, 1))⟩, ⟨(1, 0), (0, 1), 3, 0, ((0, 1), (0, 1))⟩, ⟨(1, 0), (0, 1), 5, 0, ((0, 1), (0, 1))⟩, ⟨(1, 0), (0, 1), 6, 0, ((0, 1), (0, 1))⟩, ⟨(1, 0), (1, 0), 3, 0, ((0, 1), (0, 1))⟩, ⟨(1, 0), (1, 0), 5, 0, ((0, 1), (0, 1))⟩, ⟨(1, 0), (1, 0), 6, 0, ((0, 1), (0, 1))⟩, ⟨(1, 0), (1, 1), 4, 0, ((0, 0), (0, 1))⟩, ⟨(1, 0), (1, 1), 6, 0, ((0, 0), (0, 1))⟩, ⟨(1, 0), (1, 1), 7, 0, ((1, 1), (0, 1))⟩, ⟨(1, 0), (1, 2), 5, 0, ((0, 0), (0, 1))⟩, ⟨(1, 0), (1, 2), 7, 0, ((0, 0), (0, 1))⟩, ⟨(1, 0), (1, 2), 8, 0, ((0, 0), (0, 1))⟩, ⟨(1, 0), (2, 1), 5, 0, ((0, 0), (0, 1))⟩, ⟨(1, 0), (2, 1), 7, 0, ((0, 0), (0, 1))⟩, ⟨(1, 0), (2, 1), 8, 0, ((0, 0), (0, 1))⟩, ⟨(1, 0), (2, 2), 6, 0, ((0, 0), (0, 1))⟩, ⟨(1, 0), (2, 2), 8, 0, ((0, 0), (0, 1))⟩, ⟨(1, 0), (2, 2), 9, 0, ((0, 0), (0, 1))⟩, ⟨(1, 1), (0, 0), 4, 0, ((0, 0), (0, 0))⟩, ⟨(1, 1), (0, 0), 6, 0, ((0, 0), (0, 0))⟩, ⟨(1, 1), (0, 0), 7, 0, ((0, 0), (0, 0))⟩, ⟨(1, 1), (0, 0), 7, 1, ((0, 0), (0, 0))⟩, ⟨(1, 1), (0, 0), 8, 0, ((0, 0), (0, 0))⟩, ⟨(1, 1), (0, 0), 9, 0, ((0, 0), (0, 0))⟩, ⟨(1, 1), (0, 0), 9, 1, ((0, 0), (0, 0))⟩, ⟨(1, 1), (0, 0), 10, 1, ((0, 0), (0, 0))⟩]
theorem exC_ok : okC exF exC = true := by kernel_rfl
theorem exF_ok : exF.Ok := fmt_ok (by decide)
theorem exF_bdd : Bdd exF := by unfold Bdd exF; decide
theorem ex_rest1 : restC exF ⟨[], (0, 0), (0, 0)⟩ = ((1, 3), (2, 3)) := by
  have hV : Vs exF (0, 0) (0, 0) := ⟨by decide, by decide⟩
  have h1 := cert_ok exF_ok exF_bdd exC_ok 15 (0, 0) (0, 0) 0 0 hV (by decide) (by kernel_rfl)
  have h2 : lkC2 exC (0, 0) (0, 0) 0 0 = ((1, 3), (1, 2)) := by kernel_rfl
  show bumpC (fromP exF (0, 0) (0, 0) 0 0) false true = _
  rw [h1, h2]; rfl
theorem ex_rest2 : restC exF ⟨[(3, 1)], (0, 1), (0, 0)⟩ = ((0, 1), (0, 1)) := by
  have hV : Vs exF (1, 0) (0, 1) := ⟨by decide, by decide⟩
  have h1 := cert_ok exF_ok exF_bdd exC_ok 15 (1, 0) (0, 1) 5 0 hV (by decide) (by kernel_rfl)
  have h2 : lkC2 exC (1, 0) (0, 1) 5 0 = ((0, 1), (0, 1)) := by kernel_rfl
  show bumpC (fromP exF (1, 0) (0, 1) 5 0) false false = _
  rw [h1, h2]; rfl
theorem ex_arises2 : arisesV exF ⟨[(3, 1)], (0, 1), (0, 0)⟩ = ((1, 0), true) := by
  have h0 : setsTo (tableV exF) exF [((3 : Int), (1 : Int))] 0 = ⟨(0, 0), 1, true⟩ := rfl
  have h1 : setsTo (tableV exF) exF [((3 : Int), (1 : Int))] (0 + 1) = setStep (tableV exF) exF (setsTo (tableV exF) exF [((3 : Int), (1 : Int))] 0) (3, 1) := setsTo_succ rfl (by rw [h0])
  have h2 : setV exF (0, 0) = (2, 3) := by decide
  have h3 : setsTo (tableV exF) exF (Brd.mk [(3, 1)] (0, 1) (0, 0)).st (Brd.mk [(3, 1)] (0, 1) (0, 0)).st.length = ⟨(1, 0), 2, true⟩ := by
    show setsTo (tableV exF) exF [((3 : Int), (1 : Int))] (0 + 1) = _
    rw [h1, h0, setStep]
    dsimp only
    rw [h2, ex_table]
    kernel_rfl
  have h4 : setV exF (1, 0) = (2, 3) := by decide
  rw [arisesV, arisesT, h3]
  dsimp only
  rw [h4, ex_table]
  exact (by kernel_rfl : ((bif !true then (((1 : Int), (0 : Int)), false) else bif overV exF (1, 0) then ((1, 0), isZ (0, 1) && isZ (0, 0)) else bif !(tget exT (0, 1)).isSome || (tat exT (0, 1)).2 then ((1, 0), false) else bif isZ (0, 0) then ((1, 0), true) else ((1, 0), (befV exF (2, 3) (brksV (2, 3) (0, 1)) (0 - 1, 0) || befV exF (2, 3) (brksV (2, 3) (0, 1)) (0, 0 - 1)) && befV exF (2, 3) (brksV (2, 3) (0, 1)) (0, 0))) = (((1 : Int), (0 : Int)), true)))
theorem ex_check1 : checkE exF ⟨[], (0, 0), (0, 0)⟩ = 0 := by
  unfold checkE
  rw [ex_arises]
  kernel_rfl
theorem ex_check2 : checkE exF ⟨[(3, 1)], (0, 1), (0, 0)⟩ = 0 := by
  unfold checkE
  rw [ex_arises2]
  kernel_rfl
def exD (A : Option Addr) (c : Nat) : Dp := ⟨2, 3, 1, [10, 30, 9], [⟨1, exF, ⟨[], (0, 0), (0, 0)⟩, none, 0⟩, ⟨1, exF, ⟨[(3, 1)], (0, 1), (0, 0)⟩, A, c⟩, ⟨2, exF, ⟨[], (0, 0), (0, 0)⟩, none, 0⟩], [⟨2, 0, 3⟩]⟩
section
variable {A : Option Addr} {c : Nat}
theorem ex_dep : depE (exD A c) = 0 := by
  have h1 : fxOk ⟨1, exF, ⟨[], (0, 0), (0, 0)⟩, none, 0⟩ = true := by unfold fxOk; dsimp only; rw [ex_check1]; rfl
  have h2 : fxOk ⟨1, exF, ⟨[(3, 1)], (0, 1), (0, 0)⟩, A, c⟩ = true := by unfold fxOk; dsimp only; rw [ex_check2]; rfl
  have h3 : fxOk ⟨2, exF, ⟨[], (0, 0), (0, 0)⟩, none, 0⟩ = true := by unfold fxOk; dsimp only; rw [ex_check1]; rfl
  exact dep_yes (by rfl) (by rfl) (by rfl) (by unfold fxB exD; simp only [List.all_cons, List.all_nil, h1, h2, h3, Bool.and_self]) (by rfl)
theorem ex_nd1 (d : Int) (B : Option Addr) (k : Nat) : ndV 2 3 1 ⟨d, exF, ⟨[], (0, 0), (0, 0)⟩, B, k⟩ 0 = (4, 8) := by
  unfold ndV; dsimp only; rw [ex_rest1]; rfl
theorem ex_nd2 (d : Int) (B : Option Addr) (k : Nat) : ndV 2 3 1 ⟨d, exF, ⟨[(3, 1)], (0, 1), (0, 0)⟩, B, k⟩ 0 = (0, 2) := by
  unfold ndV; dsimp only; rw [ex_rest2]; rfl
theorem ex_need (dd : Nat) : needD (exD A c) 0 dd = if dd = 1 then (4, 10) else if dd = 2 then (4, 8) else (0, 0) := by
  show accN (exD A c) 0 3 dd = _
  rw [accN_succ (k := 2) rfl, accN_succ (k := 1) rfl, accN_succ (k := 0) rfl]
  simp only [exD, ex_nd1, ex_nd2, accN]
  by_cases h1 : dd = 1
  · subst h1; rfl
  · by_cases h2 : dd = 2
    · subst h2; rfl
    · rw [if_neg h1, if_neg h2, decide_eq_false (show ¬ (1 : Int) = (dd : Int) by omega), decide_eq_false (show ¬ (2 : Int) = (dd : Int) by omega)]; rfl
theorem ex_cr (dd : Nat) : crT (exD A c) 0 dd 1 = if dd = 2 then 3 else 0 := by
  rw [crT_succ (k := 0) rfl]
  by_cases h2 : dd = 2
  · subst h2; rfl
  · rw [if_neg h2]
    dsimp only
    rw [decide_eq_false (show ¬ (2 : Int) = (dd : Int) by omega)]; rfl
theorem ex_lef_succ (k : Nat) : lefD (exD A c) 0 (k + 1) = ((lefD (exD A c) 0 k).1 + (if k = 2 then 3 else 0) - (if k = 1 then ((4 : Int), (10 : Int)) else if k = 2 then (4, 8) else (0, 0)).2, (lefD (exD A c) 0 k).2 + (if k = 2 then 3 else 0) - (if k = 1 then ((4 : Int), (10 : Int)) else if k = 2 then (4, 8) else (0, 0)).1) := by
  rw [lefD, ex_need, show (exD A c).cr.length = 1 from rfl, ex_cr]
theorem ex_lef : ∀ k : Nat, lefD (exD A c) 0 (k + 3) = (-5, 5)
  | 0 => by
    rw [ex_lef_succ, ex_lef_succ, ex_lef_succ]; rfl
  | k + 1 => by
    rw [show k + 1 + 3 = (k + 3) + 1 by omega, ex_lef_succ, ex_lef k, if_neg (by omega), if_neg (by omega), if_neg (by omega)]; rfl
theorem ex_ord : ∀ k : Nat, ordT (exD A c) 0 2 (k + 1) = 5
  | 0 => by
    rw [ordT, show 2 + 0 + 1 = 0 + 3 by omega, ex_lef]; rfl
  | k + 1 => by
    rw [ordT, ex_ord k, show 2 + (k + 1) + 1 = (k + 1) + 3 by omega, ex_lef]; rfl
theorem ex_askE : askE (exD A c) 0 2 = 0 := by
  unfold askE; rw [ex_dep]; rfl
theorem ex_left : leftR (exD A c) 0 2 = [pv (-5, 5), .int .i64 0] := by
  rw [leftR, decide_eq_true ex_askE, cond_true, show ((2 : Int).toNat + 1) = 0 + 3 from rfl, ex_lef]
theorem ex_ordR : ordR (exD A c) 0 2 = [.int .i64 5, .int .i64 0] := by
  rw [ordR, decide_eq_true ex_askE, cond_true, ordV, show 61 - (2 : Int).toNat = 58 + 1 from rfl, show (2 : Int).toNat = 2 from rfl, ex_ord]
theorem ex_restR : restR exF ⟨[], (0, 0), (0, 0)⟩ = [pv (1, 3), pv (2, 3), .int .i64 0] := by
  rw [restR, ex_check1, ex_rest1]; rfl
end
end Go.Proofs.Ytacaojifempclaa

namespace Go.Proofs.Ytacaojifempclaa
open Go Go.RowKit

def farF (f : Fmt) : Bool := decide (4 < f.games) && decide (f.games ≤ 8)
theorem C_law9_far (f : Fmt) (w : World) : C0 Try.prog 16 [f.val] w (.bool (farF f)) := by
  refine ⟨en Try.func16 Try.ntmps16 (St.init w) (h := fun F => ?_)⟩
  refine sq (h := ?_)
  refine rg (h := ?_)
  refine bxA (h := fun b0 => ?_)
  refine WL.y (hy := asg) (h := ?_)
  refine nl (h := ?_)
  refine q_seq (h := ?_)
  refine sq (h := ?_)
  refine rg (h := ?_)
  refine WL.y (hy := (by first | exact fa | exact faE)) (h := ?_)
  refine WL.y (hy := (by first | exact ld | exact ldE)) (h := ?_)
  refine WL.y (hy := gtr) (h := ?_)
  refine WL.y (hy := mv) (h := ?_)
  apply brAnd 4 6 10 (by exact rfl)
  · intro hb0
    refine un (h := ?_)
    refine WL.y (hy := (by first | exact fa | exact faE)) (h := ?_)
    refine un (h := ?_)
    refine WL.y (hy := (by first | exact ld | exact ldE)) (h := ?_)
    refine un (h := ?_)
    refine WL.y (hy := leq) (h := ?_)
    refine WL.y (hy := (by first | exact pkT | exact pkF)) (h := ?_)
    exact mg (by repeat (first | exact trivial | refine ⟨rfl, ?_⟩ | refine ⟨by rw [hb0]; rfl, ?_⟩)) (by repeat (first | exact SubL.nil | (apply SubL.cons; (repeat (first | exact At.here | apply At.there))) | exact SubL.refl _ | apply SubL.skip))
  · intro hb0
    repeat (first | refine un (h := ?_) | refine sk (h := ?_) | refine WL.y (hy := pkF) (h := ?_) | refine WL.y (hy := pkT) (h := ?_))
    exact mg (by repeat (first | exact trivial | refine ⟨rfl, ?_⟩ | refine ⟨by rw [hb0]; rfl, ?_⟩)) (by repeat (first | exact SubL.nil | (apply SubL.cons; (repeat (first | exact At.here | apply At.there))) | exact SubL.refl _ | apply SubL.skip))
  refine WL.y (hy := asg) (h := ?_)
  refine nl (h := ?_)
  refine q_seq (h := ?_)
  refine rtn (h := ?_)
  refine q_ret (hR := ?_)
  exact fun w hS => ⟨rfl, hS.sub (by repeat (first | exact SubL.nil | (apply SubL.cons; (repeat (first | exact At.here | apply At.there))) | exact SubL.refl _ | apply SubL.skip))⟩
section
variable {d : Dp}
end
def Fx.row (x : Fx) : Row := ⟨x.A, 2, x.b.st.length, encP x.b.st⟩
end Go.Proofs.Ytacaojifempclaa

namespace Go.Proofs.Ytacaojifempclaa
open Go Go.RowKit

def Fx.at_ (x : Fx) (A : Option Addr) (c : Nat) : Fx := { x with A := A, c := c }
def Dp.plus (d : Dp) (item day more : Int) : Dp := { d with cr := d.cr ++ [⟨day, item, more⟩] }
end Go.Proofs.Ytacaojifempclaa

namespace Go.Proofs.Ytacaojifempclaa
open Go Go.RowKit

structure EX where
  (a : DA) (A : Option Addr)
set_option maxRecDepth 100000 in
set_option maxHeartbeats 2000000 in
theorem C_law9_Example (w : World) : CR Try.prog 57 [] w (fun x : EX => x.a.sc = 3 ∧ x.a.fc = 3 ∧ x.a.cc = 1) (fun x => (exD x.A 1).val x.a)
    (fun x => [.own x.a.sA 3 3 1 3 (encI [10, 30, 9]), .own x.a.fA 3 60 16 3 ((exD x.A 1).fx.map Fx.enc), .own x.a.cA 1 62 3 1 ((exD x.A 1).cr.map Cx.enc), .own x.A 1 26 2 1 (encP [(3, 1)])]) := by
  refine ⟨en Try.func57 Try.ntmps57 (St.init w) (h := fun F => ?_)⟩
  refine sq (h := ?_)
  refine rg (h := ?_)
  refine al (h := fun b0 => ?_)
  refine nl (h := ?_)
  refine q_seq (h := ?_)
  refine sq (h := ?_)
  refine rg (h := ?_)
  refine cl (hc := fun w hS => C_law1_Example w) (h := fun y hy => ?_)
  refine WL.y (hy := mv) (h := ?_)
  refine WL.y (hy := ex) (h := ?_)
  refine WL.y (hy := ex) (h := ?_)
  refine al (h := fun b1 => ?_)
  first | refine stA (h := ?_) | refine stEA (h := ?_)
  refine WL.y (hy := asg) (h := ?_)
  refine nl (h := ?_)
  refine q_seq (h := ?_)
  refine sq (h := ?_)
  refine rg (h := ?_)
  refine WL.y (hy := bd) (h := ?_)
  refine bs (h := fun b2 => ?_)
  refine WL.y (hy := (by first | exact ldA | exact ldEA)) (h := ?_)
  refine WL.y (hy := bd) (h := ?_)
  refine WL.y (hy := (by first | exact ldA | exact ldEA)) (h := ?_)
  refine WL.y (hy := bd) (h := ?_)
  refine bs (h := fun b3 => ?_)
  refine WL.y (hy := bd) (h := ?_)
  refine WL.y (hy := bd) (h := ?_)
  refine WL.y (hy := bd) (h := ?_)
  refine WL.y (hy := (by first | exact ldA | exact ldEA)) (h := ?_)
  refine WL.y (hy := bd) (h := ?_)
  refine bs (h := fun b4 => ?_)
  refine WL.y (hy := bd) (h := ?_)
  refine bs (h := fun b5 => ?_)
  refine WL.y (hy := bd) (h := ?_)
  first | refine stA (h := ?_) | refine stEA (h := ?_)
  refine nl (h := ?_)
  refine q_seq (h := ?_)
  refine rtn (h := ?_)
  refine q_ret (hR := ?_)
  exact fun w hS => ⟨⟨⟨_, _, _, 3, 3, 1⟩, _⟩, ⟨rfl, rfl, rfl⟩, rfl, hS.sub (by repeat (first | exact SubL.nil | (apply SubL.cons; (repeat (first | exact At.here | apply At.there))) | exact SubL.refl _ | apply SubL.skip))⟩
theorem ex_dpr {w0 w : World} {L : List Ent} (hS : St w0 w L) {x : EX} (hx : x.a.sc = 3 ∧ x.a.fc = 3 ∧ x.a.cc = 1) (h1 : Rds L x.a.sA 1 3 (encI [10, 30, 9])) (h2 : Rds L x.a.fA 16 3 ((exD x.A 1).fx.map Fx.enc)) (h3 : Rds L x.a.cA 3 1 ((exD x.A 1).cr.map Cx.enc)) (h4 : Rds L x.A 2 1 (encP [(3, 1)])) : DpR w (exD x.A 1) x.a :=
  ⟨hS.get h1, hS.get h2, hS.get h3, fun y hy => by
    simp only [exD, List.mem_cons, List.not_mem_nil, or_false] at hy
    rcases hy with rfl | rfl | rfl
    · exact ⟨Rd.nil w none 2, Nat.le_refl _, Nat.zero_le _⟩
    · exact ⟨hS.get h4, Nat.le_refl _, by dsimp only; omega⟩
    · exact ⟨Rd.nil w none 2, Nat.le_refl _, Nat.zero_le _⟩, by show 3 ≤ _; omega, by show 3 ≤ _; omega, by show 1 ≤ _; omega⟩
set_option maxRecDepth 100000 in
set_option maxHeartbeats 2000000 in
theorem C_law9_works (w : World) : C0 Try.prog 17 [] w (.bool true) := by
  refine ⟨en Try.func17 Try.ntmps17 (St.init w) (h := fun F => ?_)⟩
  refine sq (h := ?_)
  refine rg (h := ?_)
  refine WL.y (hy := asg) (h := ?_)
  refine nl (h := ?_)
  refine q_seq (h := ?_)
  refine sq (h := ?_)
  refine rg (h := ?_)
  refine cl (hc := fun w hS => C_law9_Example w) (h := fun x hx => ?_)
  refine al (h := fun b0 => ?_)
  first | refine stA (h := ?_) | refine stEA (h := ?_)
  refine nl (h := ?_)
  refine q_seq (h := ?_)
  refine sq (h := ?_)
  refine rg (h := ?_)
  refine WL.y (hy := (by first | exact fa | exact faE)) (h := ?_)
  refine WL.y (hy := (by first | exact ld | exact ldE)) (h := ?_)
  refine WL.y (hy := ix (A := x.a.fA) (m := 3)) (h := ?_)
  refine WL.y (hy := (by first | exact fa | exact faE)) (h := ?_)
  refine WL.y (hy := ldEA (A := x.a.fA) (k := 0) (j := 1) (cs := Fx.enc ⟨1, exF, ⟨[], (0, 0), (0, 0)⟩, none, 0⟩) (vs := exF.cells) (hc := .skip (Tk.cons (.cons (.cons (.cons (.cons (.cons (.cons (.cons (.cons (.cons .nil)))))))))))) (h := ?_)
  refine WL.y (hy := bd) (h := ?_)
  refine cl0 (hc := fun w hS => C_balls_Rest exF ⟨[], (0, 0), (0, 0)⟩ none 0 0 w (Rd.nil w none 2) (by omega)) (h := ?_)
  rw [ex_restR]
  refine WL.y (hy := mv) (h := ?_)
  refine WL.y (hy := ex) (h := ?_)
  refine WL.y (hy := ex) (h := ?_)
  refine WL.y (hy := ex) (h := ?_)
  refine al (h := fun b1 => ?_)
  refine al (h := fun b2 => ?_)
  first | refine stA (h := ?_) | refine stEA (h := ?_)
  first | refine stA (h := ?_) | refine stEA (h := ?_)
  refine WL.y (hy := asg) (h := ?_)
  refine nl (h := ?_)
  refine q_seq (h := ?_)
  refine sq (h := ?_)
  refine rg (h := ?_)
  refine WL.y (hy := (by first | exact ldA | exact ldEA)) (h := ?_)
  refine cl0 (hc := fun w hS => C_balls_Left (exD x.A 1) x.a 0 2 w (ex_dpr hS hx (by repeat (first | exact Rds.own | apply Rds.there)) (by repeat (first | exact Rds.own | apply Rds.there)) (by repeat (first | exact Rds.own | apply Rds.there)) (by repeat (first | exact Rds.own | apply Rds.there)))) (h := ?_)
  rw [ex_left]
  refine WL.y (hy := mv) (h := ?_)
  refine WL.y (hy := ex) (h := ?_)
  refine WL.y (hy := ex) (h := ?_)
  refine al (h := fun b3 => ?_)
  first | refine stA (h := ?_) | refine stEA (h := ?_)
  refine WL.y (hy := asg) (h := ?_)
  refine nl (h := ?_)
  refine q_seq (h := ?_)
  refine sq (h := ?_)
  refine rg (h := ?_)
  refine WL.y (hy := (by first | exact ldA | exact ldEA)) (h := ?_)
  refine cl0 (hc := fun w hS => C_balls_Order (exD x.A 1) x.a 0 2 w (ex_dpr hS hx (by repeat (first | exact Rds.own | apply Rds.there)) (by repeat (first | exact Rds.own | apply Rds.there)) (by repeat (first | exact Rds.own | apply Rds.there)) (by repeat (first | exact Rds.own | apply Rds.there)))) (h := ?_)
  rw [ex_ordR]
  refine WL.y (hy := mv) (h := ?_)
  refine WL.y (hy := ex) (h := ?_)
  refine WL.y (hy := ex) (h := ?_)
  refine WL.y (hy := asg) (h := ?_)
  refine WL.y (hy := asg) (h := ?_)
  refine nl (h := ?_)
  refine q_seq (h := ?_)
  refine sq (h := ?_)
  refine rg (h := ?_)
  refine WL.y (hy := mv) (h := ?_)
  refine WL.y (hy := eql) (h := ?_)
  refine WL.y (hy := mv) (h := ?_)
  apply brAnd 3 33 36 (by exact rfl)
  · intro hb0
    refine un (h := ?_)
    refine WL.y (hy := mv) (h := ?_)
    refine un (h := ?_)
    refine WL.y (hy := eql) (h := ?_)
    refine WL.y (hy := (by first | exact pkT | exact pkF)) (h := ?_)
    exact mg (by repeat (first | exact trivial | refine ⟨rfl, ?_⟩ | refine ⟨by rw [hb0]; rfl, ?_⟩)) (by repeat (first | exact SubL.nil | (apply SubL.cons; (repeat (first | exact At.here | apply At.there))) | exact SubL.refl _ | apply SubL.skip))
  · intro hb0
    repeat (first | refine un (h := ?_) | refine sk (h := ?_) | refine WL.y (hy := pkF) (h := ?_) | refine WL.y (hy := pkT) (h := ?_))
    exact mg (by repeat (first | exact trivial | refine ⟨rfl, ?_⟩ | refine ⟨by rw [hb0]; rfl, ?_⟩)) (by repeat (first | exact SubL.nil | (apply SubL.cons; (repeat (first | exact At.here | apply At.there))) | exact SubL.refl _ | apply SubL.skip))
  refine WL.y (hy := mv) (h := ?_)
  apply brAnd 3 37 40 (by exact rfl)
  · intro hb1
    refine un (h := ?_)
    refine WL.y (hy := mv) (h := ?_)
    refine un (h := ?_)
    refine WL.y (hy := eql) (h := ?_)
    refine WL.y (hy := (by first | exact pkT | exact pkF)) (h := ?_)
    exact mg (by repeat (first | exact trivial | refine ⟨rfl, ?_⟩ | refine ⟨by rw [hb1]; rfl, ?_⟩)) (by repeat (first | exact SubL.nil | (apply SubL.cons; (repeat (first | exact At.here | apply At.there))) | exact SubL.refl _ | apply SubL.skip))
  · intro hb1
    repeat (first | refine un (h := ?_) | refine sk (h := ?_) | refine WL.y (hy := pkF) (h := ?_) | refine WL.y (hy := pkT) (h := ?_))
    exact mg (by repeat (first | exact trivial | refine ⟨rfl, ?_⟩ | refine ⟨by rw [hb1]; rfl, ?_⟩)) (by repeat (first | exact SubL.nil | (apply SubL.cons; (repeat (first | exact At.here | apply At.there))) | exact SubL.refl _ | apply SubL.skip))
  refine WL.y (hy := mv) (h := ?_)
  apply brAnd 4 41 45 (by exact rfl)
  · intro hb2
    refine un (h := ?_)
    refine WL.y (hy := (by first | exact ldA | exact ldEA)) (h := ?_)
    refine un (h := ?_)
    refine WL.y (hy := bd) (h := ?_)
    refine un (h := ?_)
    refine WL.y (hy := eqlT) (h := ?_)
    refine WL.y (hy := (by first | exact pkT | exact pkF)) (h := ?_)
    exact mg (by repeat (first | exact trivial | refine ⟨rfl, ?_⟩ | refine ⟨by rw [hb2]; rfl, ?_⟩)) (by repeat (first | exact SubL.nil | (apply SubL.cons; (repeat (first | exact At.here | apply At.there))) | exact SubL.refl _ | apply SubL.skip))
  · intro hb2
    repeat (first | refine un (h := ?_) | refine sk (h := ?_) | refine WL.y (hy := pkF) (h := ?_) | refine WL.y (hy := pkT) (h := ?_))
    exact mg (by repeat (first | exact trivial | refine ⟨rfl, ?_⟩ | refine ⟨by rw [hb2]; rfl, ?_⟩)) (by repeat (first | exact SubL.nil | (apply SubL.cons; (repeat (first | exact At.here | apply At.there))) | exact SubL.refl _ | apply SubL.skip))
  refine WL.y (hy := mv) (h := ?_)
  apply brAnd 4 46 50 (by exact rfl)
  · intro hb3
    refine un (h := ?_)
    refine WL.y (hy := (by first | exact ldA | exact ldEA)) (h := ?_)
    refine un (h := ?_)
    refine WL.y (hy := bd) (h := ?_)
    refine un (h := ?_)
    refine WL.y (hy := eqlT) (h := ?_)
    refine WL.y (hy := (by first | exact pkT | exact pkF)) (h := ?_)
    exact mg (by repeat (first | exact trivial | refine ⟨rfl, ?_⟩ | refine ⟨by rw [hb3]; rfl, ?_⟩)) (by repeat (first | exact SubL.nil | (apply SubL.cons; (repeat (first | exact At.here | apply At.there))) | exact SubL.refl _ | apply SubL.skip))
  · intro hb3
    repeat (first | refine un (h := ?_) | refine sk (h := ?_) | refine WL.y (hy := pkF) (h := ?_) | refine WL.y (hy := pkT) (h := ?_))
    exact mg (by repeat (first | exact trivial | refine ⟨rfl, ?_⟩ | refine ⟨by rw [hb3]; rfl, ?_⟩)) (by repeat (first | exact SubL.nil | (apply SubL.cons; (repeat (first | exact At.here | apply At.there))) | exact SubL.refl _ | apply SubL.skip))
  refine WL.y (hy := mv) (h := ?_)
  apply brAnd 4 51 55 (by exact rfl)
  · intro hb4
    refine un (h := ?_)
    refine WL.y (hy := (by first | exact ldA | exact ldEA)) (h := ?_)
    refine un (h := ?_)
    refine WL.y (hy := bd) (h := ?_)
    refine un (h := ?_)
    refine WL.y (hy := eqlT) (h := ?_)
    refine WL.y (hy := (by first | exact pkT | exact pkF)) (h := ?_)
    exact mg (by repeat (first | exact trivial | refine ⟨rfl, ?_⟩ | refine ⟨by rw [hb4]; rfl, ?_⟩)) (by repeat (first | exact SubL.nil | (apply SubL.cons; (repeat (first | exact At.here | apply At.there))) | exact SubL.refl _ | apply SubL.skip))
  · intro hb4
    repeat (first | refine un (h := ?_) | refine sk (h := ?_) | refine WL.y (hy := pkF) (h := ?_) | refine WL.y (hy := pkT) (h := ?_))
    exact mg (by repeat (first | exact trivial | refine ⟨rfl, ?_⟩ | refine ⟨by rw [hb4]; rfl, ?_⟩)) (by repeat (first | exact SubL.nil | (apply SubL.cons; (repeat (first | exact At.here | apply At.there))) | exact SubL.refl _ | apply SubL.skip))
  refine WL.y (hy := mv) (h := ?_)
  apply brAnd 3 56 59 (by exact rfl)
  · intro hb5
    refine un (h := ?_)
    refine WL.y (hy := mv) (h := ?_)
    refine un (h := ?_)
    refine WL.y (hy := eql) (h := ?_)
    refine WL.y (hy := (by first | exact pkT | exact pkF)) (h := ?_)
    exact mg (by repeat (first | exact trivial | refine ⟨rfl, ?_⟩ | refine ⟨by rw [hb5]; rfl, ?_⟩)) (by repeat (first | exact SubL.nil | (apply SubL.cons; (repeat (first | exact At.here | apply At.there))) | exact SubL.refl _ | apply SubL.skip))
  · intro hb5
    repeat (first | refine un (h := ?_) | refine sk (h := ?_) | refine WL.y (hy := pkF) (h := ?_) | refine WL.y (hy := pkT) (h := ?_))
    exact mg (by repeat (first | exact trivial | refine ⟨rfl, ?_⟩ | refine ⟨by rw [hb5]; rfl, ?_⟩)) (by repeat (first | exact SubL.nil | (apply SubL.cons; (repeat (first | exact At.here | apply At.there))) | exact SubL.refl _ | apply SubL.skip))
  refine WL.y (hy := asg) (h := ?_)
  refine nl (h := ?_)
  refine q_seq (h := ?_)
  refine rtn (h := ?_)
  refine q_ret (hR := ?_)
  exact fun w hS => ⟨rfl, hS.sub (by repeat (first | exact SubL.nil | (apply SubL.cons; (repeat (first | exact At.here | apply At.there))) | exact SubL.refl _ | apply SubL.skip))⟩
end Go.Proofs.Ytacaojifempclaa

namespace Go.Proofs.Ytacaojifempclaa
open Go Go.RowKit

theorem rest_form (f : Fmt) (b : Brd) : ∃ (p q : Pr) (e : Int), restR f b = [pv p, pv q, .int .i64 e] := by
  unfold restR
  by_cases h : checkE f b = 0
  · rw [decide_eq_true h]; exact ⟨_, _, _, rfl⟩
  · rw [decide_eq_false h]; exact ⟨_, _, _, rfl⟩
set_option maxRecDepth 100000 in
set_option maxHeartbeats 2000000 in
theorem K_BallsRests (f : Fmt) (b : Brd) (A : Option Addr) (n c : Nat) (w : World) (h : Rd w A 2 n (encP b.st)) (hn : n ≤ c ∧ c ≤ 9223372036854775807) :
    C0 Try.prog 4 [f.val, b.val A n c] w (.bool true) := by
  have hlen : b.st.length = n := by have := h.len; simpa [encP] using this
  obtain ⟨p, q, e, hR⟩ := rest_form f b
  refine ⟨en Try.func4 Try.ntmps4 ((St.init w).share (e := .ro A 2 n (encP b.st)) h rfl rfl rfl) (h := fun F => ?_)⟩
  refine sq (h := ?_)
  refine rg (h := ?_)
  refine bxA (h := fun b0 => ?_)
  refine bxA (h := fun b1 => ?_)
  refine WL.y (hy := asg) (h := ?_)
  refine nl (h := ?_)
  refine q_seq (h := ?_)
  refine sq (h := ?_)
  refine sq (h := ?_)
  refine rg (h := ?_)
  refine WL.y (hy := (by first | exact ldA | exact ldEA)) (h := ?_)
  refine cl0 (hc := fun w hS => C_law9_far _ w) (h := ?_)
  refine WL.y (hy := mv) (h := ?_)
  apply brOr 5 14 19 (by exact rfl)
  · intro hb0
    refine un (h := ?_)
    refine WL.y (hy := (by first | exact fa | exact faE)) (h := ?_)
    refine un (h := ?_)
    refine WL.y (hy := (by first | exact ld | exact ldE)) (h := ?_)
    refine un (h := ?_)
    refine WL.y (hy := lenS) (h := ?_)
    refine un (h := ?_)
    refine WL.y (hy := gtr) (h := ?_)
    refine WL.y (hy := (by first | exact pkT | exact pkF)) (h := ?_)
    exact mg (by repeat (first | exact trivial | refine ⟨rfl, ?_⟩ | refine ⟨by rw [hb0]; rfl, ?_⟩)) (by repeat (first | exact SubL.nil | (apply SubL.cons; (repeat (first | exact At.here | apply At.there))) | exact SubL.refl _ | apply SubL.skip))
  · intro hb0
    repeat (first | refine un (h := ?_) | refine sk (h := ?_) | refine WL.y (hy := pkF) (h := ?_) | refine WL.y (hy := pkT) (h := ?_))
    exact mg (by repeat (first | exact trivial | refine ⟨rfl, ?_⟩ | refine ⟨by rw [hb0]; rfl, ?_⟩)) (by repeat (first | exact SubL.nil | (apply SubL.cons; (repeat (first | exact At.here | apply At.there))) | exact SubL.refl _ | apply SubL.skip))
  refine nl (h := ?_)
  refine q_seq (h := ?_)
  refine cd (by exact rfl) (fun h1 => ?_) (fun h1 => ?_)
  · skip
    refine sq (h := ?_)
    refine rg (h := ?_)
    refine cl0 (hc := fun w hS => C_law9_works w) (h := ?_)
    refine WL.y (hy := asg) (h := ?_)
    refine nl (h := ?_)
    refine q_seq (h := ?_)
    refine rtn (h := ?_)
    refine q_then_ret (h := ?_)
    refine q_ret (hR := ?_)
    exact fun w hS => ⟨by first | rfl | simp [resV], hS.sub (by repeat (first | exact SubL.nil | (apply SubL.cons; (repeat (first | exact At.here | apply At.there))) | exact SubL.refl _ | apply SubL.skip))⟩
  · skip
    have hn40 : n ≤ 40 := by simp only [Bool.or_eq_false_iff, decide_eq_false_iff_not] at h1; omega
    refine skp (h := ?_)
    refine q_seq (h := ?_)
    refine sq (h := ?_)
    refine rg (h := ?_)
    refine WL.y (hy := (by first | exact ldA | exact ldEA)) (h := ?_)
    refine al (h := fun b2 => ?_)
    first | refine stA (h := ?_) | refine stEA (h := ?_)
    refine nl (h := ?_)
    refine q_seq (h := ?_)
    refine sq (h := ?_)
    refine rg (h := ?_)
    refine bs (h := fun b3 => ?_)
    refine WL.y (hy := (by first | exact fa | exact faE)) (h := ?_)
    refine WL.y (hy := (by first | exact ld | exact ldE)) (h := ?_)
    first | refine ap (h := fun A1 c1 => ?_) | refine ap0 (h := fun A1 c1 => ?_)
    refine WL.y (hy := (by first | exact fa | exact faE)) (h := ?_)
    first | refine st (h := ?_) | refine stE (h := ?_)
    refine nl (h := ?_)
    refine q_seq (h := ?_)
    refine sq (h := ?_)
    refine rg (h := ?_)
    refine WL.y (hy := (by first | exact ldA | exact ldEA)) (h := ?_)
    refine WL.y (hy := (by first | exact ldA | exact ldEA)) (h := ?_)
    refine cl0 (hc := fun w hS => C_balls_Rest f b A1 (0 + n) c1 w (hS.get (by repeat (first | exact Rds.ro | exact Rds.own | apply Rds.there))) (by omega)) (h := ?_)
    rw [hR]
    refine WL.y (hy := mv) (h := ?_)
    refine WL.y (hy := ex) (h := ?_)
    refine WL.y (hy := ex) (h := ?_)
    refine WL.y (hy := ex) (h := ?_)
    refine al (h := fun b4 => ?_)
    refine al (h := fun b5 => ?_)
    first | refine stA (h := ?_) | refine stEA (h := ?_)
    first | refine stA (h := ?_) | refine stEA (h := ?_)
    refine WL.y (hy := asg) (h := ?_)
    refine nl (h := ?_)
    refine q_seq (h := ?_)
    refine sq (h := ?_)
    refine rg (h := ?_)
    refine WL.y (hy := (by first | exact ldA | exact ldEA)) (h := ?_)
    refine WL.y (hy := (by first | exact ldA | exact ldEA)) (h := ?_)
    refine cl0 (hc := fun w hS => C_ref9_Rest f b A n c hn.1 w (hS.get (by repeat (first | exact Rds.ro | exact Rds.own | apply Rds.there))) (by omega)) (h := ?_)
    rw [hR]
    refine WL.y (hy := mv) (h := ?_)
    refine WL.y (hy := ex) (h := ?_)
    refine WL.y (hy := ex) (h := ?_)
    refine WL.y (hy := ex) (h := ?_)
    refine al (h := fun b6 => ?_)
    refine al (h := fun b7 => ?_)
    first | refine stA (h := ?_) | refine stEA (h := ?_)
    first | refine stA (h := ?_) | refine stEA (h := ?_)
    refine WL.y (hy := asg) (h := ?_)
    refine nl (h := ?_)
    refine q_seq (h := ?_)
    refine sq (h := ?_)
    refine rg (h := ?_)
    refine WL.y (hy := (by first | exact ldA | exact ldEA)) (h := ?_)
    refine WL.y (hy := (by first | exact ldA | exact ldEA)) (h := ?_)
    refine WL.y (hy := eqlT) (h := ?_)
    refine WL.y (hy := mv) (h := ?_)
    apply brAnd 4 44 48 (by exact rfl)
    · intro hb2
      refine un (h := ?_)
      refine WL.y (hy := (by first | exact ldA | exact ldEA)) (h := ?_)
      refine un (h := ?_)
      refine WL.y (hy := (by first | exact ldA | exact ldEA)) (h := ?_)
      refine un (h := ?_)
      refine WL.y (hy := eqlT) (h := ?_)
      refine WL.y (hy := (by first | exact pkT | exact pkF)) (h := ?_)
      exact mg (by repeat (first | exact trivial | refine ⟨rfl, ?_⟩ | refine ⟨by rw [hb2]; rfl, ?_⟩)) (by repeat (first | exact SubL.nil | (apply SubL.cons; (repeat (first | exact At.here | apply At.there))) | exact SubL.refl _ | apply SubL.skip))
    · intro hb2
      repeat (first | refine un (h := ?_) | refine sk (h := ?_) | refine WL.y (hy := pkF) (h := ?_) | refine WL.y (hy := pkT) (h := ?_))
      exact mg (by repeat (first | exact trivial | refine ⟨rfl, ?_⟩ | refine ⟨by rw [hb2]; rfl, ?_⟩)) (by repeat (first | exact SubL.nil | (apply SubL.cons; (repeat (first | exact At.here | apply At.there))) | exact SubL.refl _ | apply SubL.skip))
    refine WL.y (hy := mv) (h := ?_)
    apply brAnd 4 49 53 (by exact rfl)
    · intro hb3
      refine un (h := ?_)
      refine WL.y (hy := mv) (h := ?_)
      refine un (h := ?_)
      refine WL.y (hy := mv) (h := ?_)
      refine un (h := ?_)
      refine WL.y (hy := eql) (h := ?_)
      refine WL.y (hy := (by first | exact pkT | exact pkF)) (h := ?_)
      exact mg (by repeat (first | exact trivial | refine ⟨rfl, ?_⟩ | refine ⟨by rw [hb3]; rfl, ?_⟩)) (by repeat (first | exact SubL.nil | (apply SubL.cons; (repeat (first | exact At.here | apply At.there))) | exact SubL.refl _ | apply SubL.skip))
    · intro hb3
      repeat (first | refine un (h := ?_) | refine sk (h := ?_) | refine WL.y (hy := pkF) (h := ?_) | refine WL.y (hy := pkT) (h := ?_))
      exact mg (by repeat (first | exact trivial | refine ⟨rfl, ?_⟩ | refine ⟨by rw [hb3]; rfl, ?_⟩)) (by repeat (first | exact SubL.nil | (apply SubL.cons; (repeat (first | exact At.here | apply At.there))) | exact SubL.refl _ | apply SubL.skip))
    refine WL.y (hy := mv) (h := ?_)
    apply brAnd 2 54 56 (by exact rfl)
    · intro hb4
      refine un (h := ?_)
      refine cl0 (hc := fun w hS => C_law9_works w) (h := ?_)
      refine WL.y (hy := (by first | exact pkT | exact pkF)) (h := ?_)
      exact mg (by repeat (first | exact trivial | refine ⟨rfl, ?_⟩ | refine ⟨by rw [hb4]; rfl, ?_⟩)) (by repeat (first | exact SubL.nil | (apply SubL.cons; (repeat (first | exact At.here | apply At.there))) | exact SubL.refl _ | apply SubL.skip))
    · intro hb4
      repeat (first | refine un (h := ?_) | refine sk (h := ?_) | refine WL.y (hy := pkF) (h := ?_) | refine WL.y (hy := pkT) (h := ?_))
      exact mg (by repeat (first | exact trivial | refine ⟨rfl, ?_⟩ | refine ⟨by rw [hb4]; rfl, ?_⟩)) (by repeat (first | exact SubL.nil | (apply SubL.cons; (repeat (first | exact At.here | apply At.there))) | exact SubL.refl _ | apply SubL.skip))
    refine WL.y (hy := asg) (h := ?_)
    refine nl (h := ?_)
    refine q_seq (h := ?_)
    refine rtn (h := ?_)
    refine q_ret (hR := ?_)
    exact fun w hS => ⟨by first | rfl | simp [resV], hS.sub (by repeat (first | exact SubL.nil | (apply SubL.cons; (repeat (first | exact At.here | apply At.there))) | exact SubL.refl _ | apply SubL.skip))⟩
end Go.Proofs.Ytacaojifempclaa
