/- Plain law of score: the fewest points of a set in closed form; courses with a bound of games reach it. -/
import Derived.Test.YtacaojifempclaaUA
namespace Go.Proofs.Ytacaojifempclaa
open Go Go.RowKit

/-! #### the fewest points of a set, in closed form -/
def gcost (s : Pr) (a b : Int) : Int := bif brksV s (a, b) then max s.2 2 else 4
theorem gcost_tie {s : Pr} {a b : Int} (h : a = s.1 ∧ b = s.1) : gcost s a b = max s.2 2 := by
  unfold gcost brksV; simp [h.1, h.2]
theorem gcost_no {s : Pr} {a b : Int} (h : ¬ (a = s.1 ∧ b = s.1)) : gcost s a b = 4 := by
  unfold gcost brksV
  have : (decide (a = s.1) && decide (b = s.1)) = false := by simpa using h
  rw [this]; rfl
def cw (f : Fmt) (s : Pr) (a b : Int) : Int := if b = s.1 then 4 * (s.1 - a) + max s.2 2 else 4 * max (f.games - a) (b + 2 - a)
def lw (f : Fmt) (s : Pr) (a b : Int) : Int := if b = s.1 then s.1 - a + 1 else max (f.games - a) (b + 2 - a)
def CC (f : Fmt) (s : Pr) (W L a b : Int) : Int := min (cw f s a b + W) (cw f s b a + L)
/-- A set that one side wins with its next game. -/
def EO (f : Fmt) (s : Pr) (a b : Int) : Bool := brksV s (a, b) || (decide (f.games ≤ a + 1) && decide (2 ≤ a + 1 - b))
/-- The fewest points from some games on, if so many more games are looked at, and no side has more games than a limit. -/
def trG (f : Fmt) (s : Pr) (far lim W L : Int) : Nat → Int → Int → Int
  | 0, _, _ => far
  | n + 1, a, b => if lim ≤ a ∨ lim ≤ b then far else min far (gcost s a b + min (bif EO f s a b then W else trG f s far lim W L n (a + 1) b) (bif EO f s b a then L else trG f s far lim W L n a (b + 1)))
section
variable {f : Fmt} {s : Pr}
theorem open_swap {a b : Int} (h : OpenP f s a b) : OpenP f s b a := by unfold OpenP at *; omega
theorem gcost_swap (a b : Int) : gcost s a b = gcost s b a := by
  by_cases h : a = s.1 ∧ b = s.1
  · rw [gcost_tie h, gcost_tie ⟨h.2, h.1⟩]
  · rw [gcost_no h, gcost_no (by omega)]
theorem end_swap (a b : Int) : EndP f s b a 1 = EndP f s a b 0 := by
  rw [Bool.eq_iff_iff, end0, end1]; omega
theorem end_swap' (a b : Int) : EndP f s b a 0 = EndP f s a b 1 := by
  rw [Bool.eq_iff_iff, end0, end1]; omega
theorem open_next (ht : TieOk f s) {a b : Int} (h : OpenP f s a b) (he : EndP f s a b 0 = false) : OpenP f s (a + 1) b := by
  rw [end0_no] at he
  unfold OpenP TieOk at *; omega
theorem open_next' (ht : TieOk f s) {a b : Int} (h : OpenP f s a b) (he : EndP f s a b 1 = false) : OpenP f s a (b + 1) :=
  open_swap (open_next ht (open_swap h) (by rw [end_swap']; exact he))
theorem eo_is (ht : TieOk f s) {a b : Int} (h : OpenP f s a b) : EO f s a b = EndP f s a b 0 := by
  rw [Bool.eq_iff_iff, end0, EO, brksV, Bool.or_eq_true, Bool.and_eq_true, Bool.and_eq_true, decide_eq_true_eq, decide_eq_true_eq, decide_eq_true_eq, decide_eq_true_eq]
  unfold OpenP TieOk at *; omega
theorem eo_is' (ht : TieOk f s) {a b : Int} (h : OpenP f s a b) : EO f s b a = EndP f s a b 1 := by
  rw [eo_is ht (open_swap h), end_swap']
/-- One's own game: the cost is what the closed form says. -/
theorem cw_end (ht : TieOk f s) {a b : Int} (h : OpenP f s a b) (he : EndP f s a b 0 = true) : cw f s a b = gcost s a b ∧ 1 ≤ lw f s a b := by
  rw [end0] at he
  unfold OpenP TieOk at *
  by_cases hb : a = s.1 ∧ b = s.1
  · rw [gcost_tie hb, cw, lw, if_pos hb.2, if_pos hb.2]; omega
  · rw [gcost_no hb, cw, lw, if_neg (by omega), if_neg (by omega)]; omega
theorem cw_own (ht : TieOk f s) {a b : Int} (h : OpenP f s a b) (he : EndP f s a b 0 = false) : cw f s a b = gcost s a b + cw f s (a + 1) b ∧ lw f s a b = lw f s (a + 1) b + 1 ∧ 1 ≤ lw f s (a + 1) b := by
  rw [end0_no] at he
  unfold OpenP TieOk at *
  rw [gcost_no (by omega)]
  unfold cw lw
  by_cases hb : b = s.1
  · rw [if_pos hb, if_pos hb, if_pos hb, if_pos hb]; omega
  · rw [if_neg hb, if_neg hb, if_neg hb, if_neg hb]; omega
theorem cw_oth (ht : TieOk f s) {a b : Int} (h : OpenP f s a b) (he : EndP f s a b 1 = false) : cw f s a b ≤ gcost s a b + cw f s a (b + 1) := by
  rw [end1_no] at he
  unfold OpenP TieOk at *
  rw [gcost_no (by omega)]
  unfold cw
  by_cases hb : b = s.1
  · exfalso; omega
  · rw [if_neg hb]
    by_cases hb2 : b + 1 = s.1
    · rw [if_pos hb2]; omega
    · rw [if_neg hb2]; omega
theorem lw_pos (ht : TieOk f s) {a b : Int} (h : OpenP f s a b) : 1 ≤ lw f s a b := by
  unfold OpenP TieOk at *
  unfold lw
  by_cases hb : b = s.1
  · rw [if_pos hb]; omega
  · rw [if_neg hb]; omega
theorem cw_nn (ht : TieOk f s) {a b : Int} (h : OpenP f s a b) : 0 ≤ cw f s a b := by
  unfold OpenP TieOk at *
  unfold cw
  by_cases hb : b = s.1
  · rw [if_pos hb]; omega
  · rw [if_neg hb]; omega
theorem lw_le (ht : TieOk f s) {a b : Int} (h : OpenP f s a b) : lw f s a b ≤ f.games + 2 ∧ (a + lw f s a b ≤ f.games + 1 ∨ a + lw f s a b ≤ b + 2) := by
  unfold OpenP TieOk at *
  unfold lw
  by_cases hb : b = s.1
  · rw [if_pos hb]; omega
  · rw [if_neg hb]; omega
theorem cw_le (ht : TieOk f s) (hs : s.2 ≤ 15) {a b : Int} (h : OpenP f s a b) : cw f s a b ≤ 4 * (f.games + 2) + 15 := by
  unfold OpenP TieOk at *
  unfold cw
  by_cases hb : b = s.1
  · rw [if_pos hb]; omega
  · rw [if_neg hb]; omega
variable {far lim W L : Int}
/-- No course is cheaper than the closed form. -/
theorem tr_ge (ht : TieOk f s) (hs : s.2 ≤ 15) (hW : W + 4 * (f.games + 2) + 15 ≤ far) : ∀ (n : Nat) (a b : Int), OpenP f s a b → CC f s W L a b ≤ trG f s far lim W L n a b
  | 0, a, b, h => by
    have := cw_le ht hs h
    rw [trG]; unfold CC; omega
  | n + 1, a, b, h => by
    have hc := cw_le ht hs h
    have hfar : CC f s W L a b ≤ far := by unfold CC; omega
    rw [trG]
    by_cases hl : lim ≤ a ∨ lim ≤ b
    · rw [if_pos hl]; exact hfar
    · rw [if_neg hl]
      have hg := gcost_swap (s := s) a b
      have h1 : CC f s W L a b ≤ gcost s a b + (bif EO f s a b then W else trG f s far lim W L n (a + 1) b) := by
        rw [eo_is ht h]
        cases he : EndP f s a b 0
        · simp only [cond_false]
          have ih := tr_ge ht hs hW n (a + 1) b (open_next ht h he)
          have c1 := (cw_own ht h he).1
          have c2 := cw_oth ht (open_swap h) (by rw [end_swap]; exact he)
          rw [← hg] at c2
          unfold CC at *; omega
        · simp only [cond_true]
          have c1 := (cw_end ht h he).1
          unfold CC; omega
      have h2 : CC f s W L a b ≤ gcost s a b + (bif EO f s b a then L else trG f s far lim W L n a (b + 1)) := by
        rw [eo_is' ht h]
        cases he : EndP f s a b 1
        · simp only [cond_false]
          have ih := tr_ge ht hs hW n a (b + 1) (open_next' ht h he)
          have c1 := (cw_own ht (open_swap h) (by rw [end_swap']; exact he)).1
          have c2 := cw_oth ht h he
          rw [← hg] at c1
          unfold CC at *; omega
        · simp only [cond_true]
          have c1 := (cw_end ht (open_swap h) (by rw [end_swap']; exact he)).1
          rw [← hg] at c1
          unfold CC; omega
      omega
/-- The course in which one side wins all games. -/
theorem tr_own (ht : TieOk f s) : ∀ (n : Nat) (a b : Int), OpenP f s a b → lw f s a b ≤ n → a + lw f s a b ≤ lim → b < lim → trG f s far lim W L n a b ≤ cw f s a b + W
  | 0, a, b, h, hn, _, _ => by have := lw_pos ht h; omega
  | n + 1, a, b, h, hn, hl, hb => by
    have hp := lw_pos ht h
    rw [trG, if_neg (by omega), eo_is ht h]
    cases he : EndP f s a b 0
    · have c1 := cw_own ht h he
      have ih := tr_own ht n (a + 1) b (open_next ht h he) (by omega) (by omega) hb
      simp only [cond_false]; omega
    · have c1 := (cw_end ht h he).1
      simp only [cond_true]; omega
theorem tr_swap : ∀ (n : Nat) (a b : Int), trG f s far lim W L n a b = trG f s far lim L W n b a
  | 0, _, _ => rfl
  | n + 1, a, b => by
    rw [trG, trG, tr_swap n (a + 1) b, tr_swap n a (b + 1), gcost_swap a b]
    by_cases hl : lim ≤ a ∨ lim ≤ b
    · rw [if_pos hl, if_pos (by omega)]
    · rw [if_neg hl, if_neg (by omega), Int.min_comm (bif EO f s a b then W else _)]
theorem tr_is (ht : TieOk f s) (hs : s.2 ≤ 15) (hW : W + 4 * (f.games + 2) + 15 ≤ far) {n : Nat} {a b : Int} (h : OpenP f s a b) (h1 : lw f s a b ≤ n) (h2 : lw f s b a ≤ n) (h3 : a + lw f s a b ≤ lim) (h4 : b + lw f s b a ≤ lim) : trG f s far lim W L n a b = CC f s W L a b := by
  have p1 := lw_pos ht h
  have p2 := lw_pos ht (open_swap h)
  have g := tr_ge (L := L) (lim := lim) ht hs hW n a b h
  have g1 := tr_own (far := far) (W := W) (L := L) ht n a b h h1 h3 (by omega)
  have g2 := tr_own (far := far) (W := L) (L := W) ht n b a (open_swap h) h2 h4 (by omega)
  rw [← tr_swap] at g2
  unfold CC at *; omega
end
/-- The fewest points from the beginning of a set on, one's own sets first. -/
def Dd (f : Fmt) (far lim : Int) (n : Nat) : Nat → Int → Int → Int
  | 0, _, _ => far
  | k + 1, m, th => if m = f.sets then 0 else if th = f.sets then far else trG f (setV f (m, th)) far lim (Dd f far lim n k (m + 1) th) (Dd f far lim n k m (th + 1)) n 0 0
/-- The same, in closed form. -/
def Ec (f : Fmt) (far : Int) : Nat → Int → Int → Int
  | 0, _, _ => far
  | k + 1, m, th => if m = f.sets then 0 else if th = f.sets then far else CC f (setV f (m, th)) (Ec f far k (m + 1) th) (Ec f far k m (th + 1)) 0 0
theorem set_to {f : Fmt} (hf : f.Ok) (won : Pr) : (setV f won).2 ≤ 15 := by
  have h1 := hf.o1
  have h2 := hf.l1
  unfold setV
  cases decide (won.1 = f.sets - 1) && decide (won.2 = f.sets - 1) <;> simp only [cond_true, cond_false] <;> omega
theorem open0 {f : Fmt} {s : Pr} (ht : TieOk f s) : OpenP f s 0 0 := by unfold OpenP TieOk at *; omega
section
variable {f : Fmt}
theorem ec_bd (hf : f.Ok) {far : Int} (hfar : 1000 ≤ far) : ∀ (k : Nat) (m th : Int), (m ≤ f.sets ∧ 0 ≤ m) → th < f.sets → f.sets - m < k → Ec f far k m th ≤ (f.sets - m) * 60
  | 0, m, th, hm, hth, hk => by omega
  | k + 1, m, th, hm, hth, hk => by
    rw [Ec]
    by_cases h1 : m = f.sets
    · rw [if_pos h1]; omega
    · rw [if_neg h1, if_neg (by omega)]
      have ih := ec_bd hf hfar k (m + 1) th (by omega) hth (by omega)
      have ht := tie_ok hf (m, th)
      have hc := cw_le ht (set_to hf (m, th)) (open0 ht)
      have hg := hf.g1
      unfold CC; omega
theorem ec_far (hf : f.Ok) {far far' : Int} (h1 : 1000 ≤ far) (h2 : 1000 ≤ far') : ∀ (k : Nat) (m th : Int), (m ≤ f.sets ∧ 0 ≤ m) → (th < f.sets ∧ 0 ≤ th) → (f.sets - m) + (f.sets - th) < k → Ec f far k m th = Ec f far' k m th
  | 0, m, th, hm, hth, hk => by omega
  | k + 1, m, th, hm, hth, hk => by
    rw [Ec, Ec]
    by_cases e1 : m = f.sets
    · rw [if_pos e1, if_pos e1]
    · rw [if_neg e1, if_neg e1, if_neg (by omega), if_neg (by omega)]
      have ih := ec_far hf h1 h2 k (m + 1) th (by omega) hth (by omega)
      rw [ih]
      by_cases e2 : th + 1 = f.sets
      · have ht := tie_ok hf (m, th)
        have hc := cw_le ht (set_to hf (m, th)) (open0 ht)
        have hn := cw_nn ht (open0 ht)
        have hg := hf.g1
        have hs := hf.s1
        have hb := ec_bd hf h2 k (m + 1) th (by omega) (by omega) (by omega)
        have x1 : ∀ F : Int, Ec f F k m (th + 1) = F := fun F => by
          cases k with
          | zero => rfl
          | succ k => rw [Ec, if_neg e1, if_pos e2]
        rw [x1, x1]; unfold CC; omega
      · rw [ec_far hf h1 h2 k m (th + 1) hm (by omega) (by omega)]
theorem dd_ec (hf : f.Ok) {far lim : Int} {n : Nat} (h1 : 1000 ≤ far) (hn : f.games + 2 ≤ n) (hl : 20 ≤ lim) : ∀ (k : Nat) (m th : Int), (m ≤ f.sets ∧ 0 ≤ m) → (th ≤ f.sets ∧ 0 ≤ th) → (f.sets - m) + (f.sets - th) < k → Dd f far lim n k m th = Ec f far k m th
  | 0, m, th, hm, hth, hk => by omega
  | k + 1, m, th, hm, hth, hk => by
    rw [Dd, Ec]
    by_cases e1 : m = f.sets
    · rw [if_pos e1, if_pos e1]
    · by_cases e2 : th = f.sets
      · rw [if_neg e1, if_neg e1, if_pos e2, if_pos e2]
      · rw [if_neg e1, if_neg e1, if_neg e2, if_neg e2, dd_ec hf h1 hn hl k (m + 1) th (by omega) hth (by omega), dd_ec hf h1 hn hl k m (th + 1) hm (by omega) (by omega)]
        have ht := tie_ok hf (m, th)
        have hb := ec_bd hf h1 k (m + 1) th (by omega) (by omega) (by omega)
        have ho := open0 ht
        have hlw := lw_le ht ho
        have hg := hf.g1
        have hs := hf.s1
        exact tr_is ht (set_to hf _) (by omega) ho (by omega) (by omega) (by omega) (by omega)
end
end Go.Proofs.Ytacaojifempclaa
