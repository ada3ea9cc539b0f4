/- Plain law of score: the fewest points of a board that arises, in closed form. -/
import Derived.Test.YtacaojifempclaaUC
namespace Go.Proofs.Ytacaojifempclaa
open Go Go.RowKit

/-! #### the fewest points of a board that arises, in closed form -/
def En (f : Fmt) (far m th : Int) : Int := Ec f far (2 * f.sets - m - th + 1).toNat m th
/-- What comes if one's own side wins the next game, one's own sets and games first. -/
def winC (f : Fmt) (far : Int) (s : Pr) (m th a b : Int) : Int := bif EO f s a b then En f far (m + 1) th else CC f s (En f far (m + 1) th) (En f far m (th + 1)) (a + 1) b
def losC (f : Fmt) (far : Int) (s : Pr) (m th a b : Int) : Int := bif EO f s b a then En f far m (th + 1) else CC f s (En f far (m + 1) th) (En f far m (th + 1)) a (b + 1)
def ptsC (l by_ mine theirs : Int) : Int := max 0 (max l (theirs + by_) - mine)
def finC (f : Fmt) (far : Int) (s : Pr) (l by_ m th a b pa pb : Int) : Int := min (ptsC l by_ pa pb + winC f far s m th a b) (ptsC l by_ pb pa + losC f far s m th a b)
section
variable {f : Fmt} {side : Int}
theorem dn_en (hf : f.Ok) {far lim : Int} {n : Nat} (h1 : 1000 ≤ far) (hn : f.games + 2 ≤ n) (hl : 20 ≤ lim) {m th : Int} (hm : 0 ≤ m ∧ m ≤ f.sets) (hth : 0 ≤ th ∧ th ≤ f.sets) : Dn f far lim n m th = En f far m th :=
  dd_ec hf h1 hn hl _ m th ⟨hm.2, hm.1⟩ ⟨hth.2, hth.1⟩ (by omega)
theorem en_bd (hf : f.Ok) {far : Int} (h1 : 1000 ≤ far) {m th : Int} (hm : 0 ≤ m ∧ m ≤ f.sets) (hth : 0 ≤ th ∧ th < f.sets) : En f far m th ≤ 180 := by
  have := ec_bd hf h1 (2 * f.sets - m - th + 1).toNat m th ⟨hm.2, hm.1⟩ hth.2 (by omega)
  have := hf.s1
  unfold En; omega
theorem en_far (hf : f.Ok) {far far' : Int} (h1 : 1000 ≤ far) (h2 : 1000 ≤ far') {m th : Int} (hm : 0 ≤ m ∧ m ≤ f.sets) (hth : 0 ≤ th ∧ th < f.sets) : En f far m th = En f far' m th :=
  ec_far hf h1 h2 _ m th ⟨hm.2, hm.1⟩ ⟨hth.2, hth.1⟩ (by omega)
theorem en_lost {far : Int} {m th : Int} (hm : m < f.sets) (hth : th = f.sets) : En f far m th = far := by
  unfold En
  cases (2 * f.sets - m - th + 1).toNat with
  | zero => rfl
  | succ k => rw [Ec, if_neg (by omega), if_pos hth]
theorem win_bd (hf : f.Ok) {far : Int} (h1 : 1000 ≤ far) {s : Pr} (ht : TieOk f s) (hs : s.2 ≤ 15) {m th a b : Int} (hm : 0 ≤ m ∧ m < f.sets) (hth : 0 ≤ th ∧ th < f.sets) (ho : OpenP f s a b) : winC f far s m th a b ≤ 300 := by
  have hb := en_bd hf h1 (m := m + 1) (th := th) (by omega) (by omega)
  unfold winC
  rw [eo_is ht ho]
  cases he : EndP f s a b 0
  · have hc := cw_le ht hs (open_next ht ho he)
    have hg := hf.g1
    simp only [cond_false]; unfold CC; omega
  · simp only [cond_true]; omega
/-- How far is far does not matter. -/
theorem fin_far (hf : f.Ok) {far far' : Int} (h1 : 1000 ≤ far) (h2 : 1000 ≤ far') {s : Pr} (ht : TieOk f s) (hs : s.2 ≤ 15) {l by_ m th a b pa pb : Int} (hm : 0 ≤ m ∧ m < f.sets) (hth : 0 ≤ th ∧ th < f.sets) (ho : OpenP f s a b) (hp : ptsC l by_ pa pb ≤ 100) : finC f far s l by_ m th a b pa pb = finC f far' s l by_ m th a b pa pb := by
  have hw := en_far hf h1 h2 (m := m + 1) (th := th) (by omega) (by omega)
  by_cases hl : th + 1 < f.sets
  · have hlo := en_far hf h1 h2 (m := m) (th := th + 1) (by omega) (by omega)
    unfold finC winC losC
    rw [hw, hlo]
  · have e1 := en_lost (f := f) (far := far) (m := m) (th := th + 1) (by omega) (by omega)
    have e2 := en_lost (f := f) (far := far') (m := m) (th := th + 1) (by omega) (by omega)
    have hb := en_bd hf h2 (m := m + 1) (th := th) (by omega) (by omega)
    have hg := hf.g1
    have hn : 0 ≤ ptsC l by_ pb pa := by unfold ptsC; omega
    unfold finC winC losC
    rw [hw, e1, e2, eo_is ht ho, eo_is' ht ho]
    cases he : EndP f s a b 0
    · have o1 := open_next ht ho he
      have c1 := cw_le ht hs o1
      have n1 := cw_nn ht (open_swap o1)
      cases he' : EndP f s a b 1
      · have o2 := open_next' ht ho he'
        have c2 := cw_le ht hs o2
        have n2 := cw_nn ht (open_swap o2)
        simp only [cond_false]; unfold CC; omega
      · simp only [cond_false, cond_true]; unfold CC; omega
    · cases he' : EndP f s a b 1
      · have o2 := open_next' ht ho he'
        have c2 := cw_le ht hs o2
        have n2 := cw_nn ht (open_swap o2)
        simp only [cond_false, cond_true]; unfold CC; omega
      · simp only [cond_true]; omega
theorem far_big : (1000 : Int) ≤ farV := by decide
/-- What comes behind a game that one's own side wins. -/
theorem rst_own (hf : f.Ok) (hs : side = 0 ∨ side = 1) {won games : Pr} (h1 : 0 ≤ won.1 ∧ won.1 < f.sets) (h2 : 0 ≤ won.2 ∧ won.2 < f.sets) (hg : OpenP f (setV f won) games.1 games.2) (hgl : games.1 ≤ 40 ∧ games.2 ≤ 40) :
    rstV f side won games (mostV f) side = winC f farV (setV f won) (ownP side won).1 (ownP side won).2 (ownP side games).1 (ownP side games).2 ∧
    rstV f side won games (mostV f) (1 - side) = losC f farV (setV f won) (ownP side won).1 (ownP side won).2 (ownP side games).1 (ownP side games).2 := by
  have ht := tie_ok hf won
  have hto := set_to hf won
  have hg0 := hf.g0
  have hg1 := hf.g1
  have hmost : mostV f = 2 * f.games + 4 := rfl
  have hfar : (1000 : Int) ≤ farV := far_big
  have D := fun {m th : Int} hm hth => dn_en hf (lim := 1000000) (n := (mostV f).toNat) (m := m) (th := th) hfar (by omega) (by omega) hm hth
  have hbw := en_bd hf hfar (m := (ownP side won).1 + 1) (th := (ownP side won).2) (by rcases hs with rfl | rfl <;> simp only [own0, own1] <;> omega) (by rcases hs with rfl | rfl <;> simp only [own0, own1] <;> omega)
  have hfarV : farV = 1099511627776 := rfl
  have T : ∀ a b : Int, OpenP f (setV f won) a b → a ≤ 41 → b ≤ 41 → trG f (setV f won) farV 1000000 (En f farV ((ownP side won).1 + 1) (ownP side won).2) (En f farV (ownP side won).1 ((ownP side won).2 + 1)) (mostV f - 1).toNat a b = CC f (setV f won) (En f farV ((ownP side won).1 + 1) (ownP side won).2) (En f farV (ownP side won).1 ((ownP side won).2 + 1)) a b := fun a b ho ha hb => by
    have l1 := lw_le ht ho
    have l2 := lw_le ht (open_swap ho)
    exact tr_is ht hto (by omega) ho (by omega) (by omega) (by omega) (by omega)
  have n1 : ¬ won.1 = f.sets := by omega
  have n2 : ¬ won.2 = f.sets := by omega
  unfold rstV winC losC
  rcases hs with rfl | rfl
  · simp only [own0] at *
    rw [eo_is ht hg, eo_is' ht hg]
    have e0 : endsV f won games 0 = EndP f (setV f won) games.1 games.2 0 := rfl
    have e1 : endsV f won games (1 - 0) = EndP f (setV f won) games.1 games.2 1 := rfl
    have a0 : addV won 0 = (won.1 + 1, won.2) := rfl
    have a1 : addV won (1 - 0) = (won.1, won.2 + 1) := rfl
    have b0 : addV games 0 = (games.1 + 1, games.2) := rfl
    have b1 : addV games (1 - 0) = (games.1, games.2 + 1) := rfl
    rw [e0, e1, a0, a1, b0, b1]
    constructor
    · cases he : EndP f (setV f won) games.1 games.2 0
      · simp only [cond_false]
        rw [pl_is (side := 0) n1 n2]
        simp only [own0]
        rw [D (by omega) (by omega), D (by omega) (by omega)]
        exact T _ _ (open_next ht hg he) (by omega) (by omega)
      · simp only [cond_true]
        rw [pl_new (.inl rfl) (by dsimp only; omega) (by dsimp only; omega), own0]
        exact D (by omega) (by omega)
    · cases he : EndP f (setV f won) games.1 games.2 1
      · simp only [cond_false]
        rw [pl_is (side := 0) n1 n2]
        simp only [own0]
        rw [D (by omega) (by omega), D (by omega) (by omega)]
        exact T _ _ (open_next' ht hg he) (by omega) (by omega)
      · simp only [cond_true]
        rw [pl_new (.inl rfl) (by dsimp only; omega) (by dsimp only; omega), own0]
        exact D (by omega) (by omega)
  · simp only [own1] at *
    rw [eo_is' ht hg, eo_is ht hg]
    have e1 : endsV f won games 1 = EndP f (setV f won) games.1 games.2 1 := rfl
    have e0 : endsV f won games (1 - 1) = EndP f (setV f won) games.1 games.2 0 := rfl
    have a1 : addV won 1 = (won.1, won.2 + 1) := rfl
    have a0 : addV won (1 - 1) = (won.1 + 1, won.2) := rfl
    have b1 : addV games 1 = (games.1, games.2 + 1) := rfl
    have b0 : addV games (1 - 1) = (games.1 + 1, games.2) := rfl
    rw [e0, e1, a0, a1, b0, b1]
    constructor
    · cases he : EndP f (setV f won) games.1 games.2 1
      · simp only [cond_false]
        rw [pl_is (side := 1) n2 n1]
        simp only [own1]
        rw [D (by omega) (by omega), D (by omega) (by omega)]
        exact T _ _ (open_swap (open_next' ht hg he)) (by omega) (by omega)
      · simp only [cond_true]
        rw [pl_new (.inr rfl) (by dsimp only; omega) (by dsimp only; omega), own1]
        exact D (by omega) (by omega)
    · cases he : EndP f (setV f won) games.1 games.2 0
      · simp only [cond_false]
        rw [pl_is (side := 1) n2 n1]
        simp only [own1]
        rw [D (by omega) (by omega), D (by omega) (by omega)]
        exact T _ _ (open_swap (open_next ht hg he)) (by omega) (by omega)
      · simp only [cond_true]
        rw [pl_new (.inr rfl) (by dsimp only; omega) (by dsimp only; omega), own1]
        exact D (by omega) (by omega)
theorem val_fin (hf : f.Ok) (hs : side = 0 ∨ side = 1) {won games pts : Pr} (h1 : 0 ≤ won.1 ∧ won.1 < f.sets) (h2 : 0 ≤ won.2 ∧ won.2 < f.sets) (hg : OpenP f (setV f won) games.1 games.2) (hgl : games.1 ≤ 40 ∧ games.2 ≤ 40) (hp : (0 ≤ pts.1 ∧ pts.1 ≤ 40) ∧ 0 ≤ pts.2 ∧ pts.2 ≤ 40) :
    valP f side won games pts (mostV f) = finC f 1000000 (setV f won) (lst (setV f won) (brksV (setV f won) games)) (byG f (brksV (setV f won) games)) (ownP side won).1 (ownP side won).2 (ownP side games).1 (ownP side games).2 (ownP side pts).1 (ownP side pts).2 := by
  have ht := tie_ok hf won
  have hto := set_to hf won
  have hby := byG_rng f (brksV (setV f won) games)
  have hls : lst (setV f won) (brksV (setV f won) games) ≤ 15 := by
    unfold lst
    cases brksV (setV f won) games
    · simp
    · exact hto
  have hr := rst_own hf hs h1 h2 hg hgl
  have t0 := takes_eq (f := f) (tie := brksV (setV f won) games) hto (.inl rfl) pts
  have t1 := takes_eq (f := f) (tie := brksV (setV f won) games) hto (.inr rfl) pts
  rw [own0] at t0
  rw [own1] at t1
  have hfarV : farV = 1099511627776 := rfl
  have hpc : ptsC (lst (setV f won) (brksV (setV f won) games)) (byG f (brksV (setV f won) games)) (ownP side pts).1 (ownP side pts).2 ≤ 100 := by
    unfold ptsC
    rcases hs with rfl | rfl
    · rw [own0]; omega
    · rw [own1]; dsimp only; omega
  have hso : 0 ≤ (ownP side won).1 ∧ (ownP side won).1 < f.sets := by rcases hs with rfl | rfl <;> assumption
  have hst : 0 ≤ (ownP side won).2 ∧ (ownP side won).2 < f.sets := by rcases hs with rfl | rfl <;> assumption
  have hgo : OpenP f (setV f won) (ownP side games).1 (ownP side games).2 := by
    rcases hs with rfl | rfl
    · exact hg
    · exact open_swap hg
  rw [fin_far hf (by decide) far_big ht hto hso hst hgo hpc]
  have hwb := win_bd hf far_big ht hto hso hst hgo
  unfold valP
  rw [t0, t1]
  unfold finC
  rcases hs with rfl | rfl
  · have r0 := hr.1
    have r1 := hr.2
    rw [show (1 : Int) - 0 = 1 from rfl] at r1
    rw [r0, r1]
    simp only [own0] at *
    unfold ptsC at *
    omega
  · have r1 := hr.1
    have r0 := hr.2
    rw [show (1 : Int) - 1 = 0 from rfl] at r0
    rw [r0, r1]
    simp only [own1] at *
    unfold ptsC at *
    omega
/-- The fewest points of a board that arises, in closed form. -/
theorem least_fin (hf : f.Ok) (hs : side = 0 ∨ side = 1) {b : Brd} (hb : (0 ≤ b.p.1 ∧ b.p.1 ≤ 40) ∧ 0 ≤ b.p.2 ∧ b.p.2 ≤ 40) (hgl : b.g.1 ≤ 40 ∧ b.g.2 ≤ 40) (h1 : 0 ≤ (arisesV f b).1.1 ∧ (arisesV f b).1.1 < f.sets) (h2 : 0 ≤ (arisesV f b).1.2 ∧ (arisesV f b).1.2 < f.sets) (hg : OpenP f (setV f (arisesV f b).1) b.g.1 b.g.2) :
    leastV f b side = finC f 1000000 (setV f (arisesV f b).1) (lst (setV f (arisesV f b).1) (brksV (setV f (arisesV f b).1) b.g)) (byG f (brksV (setV f (arisesV f b).1) b.g)) (ownP side (arisesV f b).1).1 (ownP side (arisesV f b).1).2 (ownP side b.g).1 (ownP side b.g).2 (ownP side b.p).1 (ownP side b.p).2 := by
  have hg0 := hf.g0
  have hg1 := hf.g1
  have hs1 := hf.s1
  have hmost : mostV f = 2 * f.games + 4 := rfl
  have hpl : PlOk f (arisesV f b).1 b.g (mostV f) := ⟨by omega, by omega, by omega, hg, ⟨by omega, by omega⟩, by omega⟩
  have := (least_is hf hs (arisesV f b).1 b.g 300 (arisesV f b).1 b.g b.p (mostV f) [] (by omega) hpl (Int.le_refl _) (by unfold moreM; rw [if_pos rfl]; omega) (fun _ _ _ e => by cases e)).1
  unfold leastV
  rw [this, ← val_fin hf hs h1 h2 hg hgl hb, lsV]
  have hso : (ownP side (arisesV f b).1).1 < f.sets ∧ (ownP side (arisesV f b).1).2 < f.sets := by
    rcases hs with rfl | rfl
    · exact ⟨h1.2, h2.2⟩
    · exact ⟨h2.2, h1.2⟩
  rw [if_neg (by omega), if_neg (by omega), if_neg (by omega)]
theorem lw_fine {s : Pr} (ht : TieOk f s) {a b : Int} (h : OpenP f s a b) : lw f s a b ≤ 3 ∨ (a < f.games ∧ b < f.games ∧ lw f s a b ≤ f.games + 2) := by
  unfold OpenP TieOk at *
  unfold lw
  by_cases hb : b = s.1
  · rw [if_pos hb]; omega
  · rw [if_neg hb]; omega
/-- What the document's table says of games that are in play. -/
theorem tab_cc (hf : f.Ok) {s : Pr} (ht : TieOk f s) (hs : s.2 ≤ 15) {W L a b : Int} (hW : W ≤ 180) (ho : OpenP f s a b) (ha : a ≤ 41) (hb : b ≤ 41) (hab : a + b ≤ 81) : trG f s 1000000 44 W L (89 - a - b).toNat a b = CC f s W L a b := by
  have hg1 := hf.g1
  have hg0 := hf.g0
  have l1 := lw_fine ht ho
  have l2 := lw_fine ht (open_swap ho)
  have l3 := lw_le ht ho
  have l4 := lw_le ht (open_swap ho)
  exact tr_is ht hs (by omega) ho (by omega) (by omega) (by omega) (by omega)
end
end Go.Proofs.Ytacaojifempclaa
