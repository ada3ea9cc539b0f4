/- Plain law of score: the fewest points without a memory. -/
import Derived.Test.YtacaojifempclaaUB
namespace Go.Proofs.Ytacaojifempclaa
open Go Go.RowKit

/-! #### how few points win a game, in closed form -/
def lst (s : Pr) (tie : Bool) : Int := bif tie then s.2 else 4
def byG (f : Fmt) (tie : Bool) : Int := bif tie then 2 else bif f.noAd then 1 else 2
theorem game_is (f : Fmt) (s : Pr) (tie : Bool) (p : Pr) : gameV f s tie p = leadsV p (lst s tie) (byG f tie) := by
  unfold gameV lst byG
  cases tie
  · cases f.noAd <;> rfl
  · rfl
theorem byG_rng (f : Fmt) (tie : Bool) : 1 ≤ byG f tie ∧ byG f tie ≤ 2 := by
  unfold byG
  cases tie
  · cases f.noAd <;> simp
  · simp
def ownP (side : Int) (p : Pr) : Pr := bif decide (side = 0) then p else (p.2, p.1)
theorem own0 (p : Pr) : ownP 0 p = p := rfl
theorem own1 (p : Pr) : ownP 1 p = (p.2, p.1) := rfl
theorem leads_own {p : Pr} {l b side : Int} (hb : 1 ≤ b) (hs : side = 0 ∨ side = 1) : leadsV p l b = side ↔ l ≤ (ownP side p).1 ∧ b ≤ (ownP side p).1 - (ownP side p).2 := by
  unfold leadsV
  rcases hs with rfl | rfl
  · rw [own0]
    by_cases h1 : l ≤ p.1 ∧ b ≤ p.1 - p.2
    · simp [h1.1, h1.2]
    · have e1 : (decide (l ≤ p.1) && decide (b ≤ p.1 - p.2)) = false := by simpa using h1
      rw [e1]
      cases decide (l ≤ p.2) && decide (b ≤ p.2 - p.1) <;> simp <;> omega
  · rw [own1]
    by_cases h1 : l ≤ p.1 ∧ b ≤ p.1 - p.2
    · simp [h1.1, h1.2]; omega
    · have e1 : (decide (l ≤ p.1) && decide (b ≤ p.1 - p.2)) = false := by simpa using h1
      rw [e1]
      by_cases h2 : l ≤ p.2 ∧ b ≤ p.2 - p.1
      · simp [h2.1, h2.2]
      · have e2 : (decide (l ≤ p.2) && decide (b ≤ p.2 - p.1)) = false := by simpa using h2
        rw [e2]; simp; omega
theorem own_add {side : Int} (hs : side = 0 ∨ side = 1) (p : Pr) : ownP side (addV p side) = ((ownP side p).1 + 1, (ownP side p).2) := by
  rcases hs with rfl | rfl <;> rfl
theorem takes_is {f : Fmt} {s : Pr} {tie : Bool} {side : Int} (hl : s.2 ≤ 15) (hs : side = 0 ∨ side = 1) : ∀ (N : Nat) (p : Pr), max (lst s tie) ((ownP side p).2 + byG f tie) - (ownP side p).1 ≤ N → takesV f s tie p side = max 0 (max (lst s tie) ((ownP side p).2 + byG f tie) - (ownP side p).1)
  | N, p, h => by
    have hb := byG_rng f tie
    by_cases hg : gameV f s tie p = side
    · have h2 := hg
      rw [game_is, leads_own hb.1 hs] at h2
      rw [takesV_done hg]; omega
    · have h2 := hg
      rw [game_is, leads_own hb.1 hs] at h2
      cases N with
      | zero => omega
      | succ N =>
        rw [takesV_step hl hs hg, takes_is hl hs N (addV p side) (by rw [own_add hs]; dsimp only; omega), own_add hs]
        dsimp only; omega
theorem takes_eq {f : Fmt} {s : Pr} {tie : Bool} {side : Int} (hl : s.2 ≤ 15) (hs : side = 0 ∨ side = 1) (p : Pr) : takesV f s tie p side = max 0 (max (lst s tie) ((ownP side p).2 + byG f tie) - (ownP side p).1) :=
  takes_is hl hs (max (lst s tie) ((ownP side p).2 + byG f tie) - (ownP side p).1).toNat p (by omega)
theorem takes0 {f : Fmt} {s games : Pr} {side : Int} (hl : s.2 ≤ 15) (hs : side = 0 ∨ side = 1) : takesV f s (brksV s games) (0, 0) side = gcost s games.1 games.2 := by
  rw [takes_eq hl hs]
  have hb := byG_rng f (brksV s games)
  have e : ownP side (0, 0) = (0, 0) := by rcases hs with rfl | rfl <;> rfl
  rw [e]
  unfold gcost lst byG at *
  cases h : brksV s games
  · rw [h] at hb
    simp only [cond_false] at *; omega
  · rw [h] at hb
    simp only [cond_true] at *; omega
theorem set_own (f : Fmt) (side : Int) (won : Pr) : setV f (ownP side won) = setV f won := by
  unfold ownP
  cases decide (side = 0)
  · show setV f (won.2, won.1) = _
    unfold setV
    rw [Bool.and_comm]
  · rfl
/-! #### the fewest points from a place on, without a memory -/
def Dn (f : Fmt) (far lim : Int) (n : Nat) (m th : Int) : Int := Dd f far lim n (2 * f.sets - m - th + 1).toNat m th
theorem dn_eq (f : Fmt) (far lim : Int) (n : Nat) {m th : Int} (hm : m ≤ f.sets) (ht : th ≤ f.sets) : Dn f far lim n m th = if m = f.sets then 0 else if th = f.sets then far else trG f (setV f (m, th)) far lim (Dn f far lim n (m + 1) th) (Dn f far lim n m (th + 1)) n 0 0 := by
  unfold Dn
  obtain ⟨k, hk⟩ : ∃ k : Nat, (2 * f.sets - m - th + 1).toNat = k + 1 := ⟨(2 * f.sets - m - th).toNat, by omega⟩
  rw [hk, Dd, show (2 * f.sets - (m + 1) - th + 1).toNat = k by omega, show (2 * f.sets - m - (th + 1) + 1).toNat = k by omega]
def plV (f : Fmt) (side : Int) (won games : Pr) (more : Int) : Int :=
  if (ownP side won).1 = f.sets then 0 else if (ownP side won).2 = f.sets then farV else trG f (setV f won) farV 1000000 (Dn f farV 1000000 (mostV f).toNat ((ownP side won).1 + 1) (ownP side won).2) (Dn f farV 1000000 (mostV f).toNat (ownP side won).1 ((ownP side won).2 + 1)) more.toNat (ownP side games).1 (ownP side games).2
theorem pl_is {f : Fmt} {side : Int} {won games : Pr} {more : Int} (h1 : ¬ (ownP side won).1 = f.sets) (h2 : ¬ (ownP side won).2 = f.sets) : plV f side won games more = trG f (setV f won) farV 1000000 (Dn f farV 1000000 (mostV f).toNat ((ownP side won).1 + 1) (ownP side won).2) (Dn f farV 1000000 (mostV f).toNat (ownP side won).1 ((ownP side won).2 + 1)) more.toNat (ownP side games).1 (ownP side games).2 := by
  rw [plV, if_neg h1, if_neg h2]
def rstV (f : Fmt) (side : Int) (won games : Pr) (more k : Int) : Int := bif endsV f won games k then plV f side (addV won k) (0, 0) (mostV f) else plV f side won (addV games k) (more - 1)
def valP (f : Fmt) (side : Int) (won games pts : Pr) (more : Int) : Int :=
  min (min farV (takesV f (setV f won) (brksV (setV f won) games) pts 0 + rstV f side won games more 0)) (takesV f (setV f won) (brksV (setV f won) games) pts 1 + rstV f side won games more 1)
section
variable {f : Fmt} {side : Int}
theorem pl_new (hs : side = 0 ∨ side = 1) {won : Pr} (h1 : won.1 ≤ f.sets) (h2 : won.2 ≤ f.sets) : plV f side won (0, 0) (mostV f) = Dn f farV 1000000 (mostV f).toNat (ownP side won).1 (ownP side won).2 := by
  have e : ownP side (0, 0) = (0, 0) := by rcases hs with rfl | rfl <;> rfl
  have hb : (ownP side won).1 ≤ f.sets ∧ (ownP side won).2 ≤ f.sets := by rcases hs with rfl | rfl <;> exact ⟨by assumption, by assumption⟩
  rw [dn_eq f farV 1000000 _ hb.1 hb.2, plV, e, show ((ownP side won).1, (ownP side won).2) = ownP side won from rfl, set_own]
theorem eo_swap (f : Fmt) (s : Pr) (a b : Int) : EO f s a b = (brksV s (b, a) || (decide (f.games ≤ a + 1) && decide (2 ≤ a + 1 - b))) := by
  unfold EO brksV; rw [Bool.and_comm (decide (a = s.1))]
theorem pl_step (hf : f.Ok) (hs : side = 0 ∨ side = 1) {won games : Pr} {more : Int} (h1 : 0 ≤ won.1 ∧ won.1 < f.sets) (h2 : 0 ≤ won.2 ∧ won.2 < f.sets) (hg : OpenP f (setV f won) games.1 games.2) (hgl : games.1 < 1000000 ∧ games.2 < 1000000) (hm : 0 < more) : plV f side won games more = valP f side won games (0, 0) more := by
  have hl := set_to hf won
  have ht := tie_ok hf won
  unfold valP
  rw [takes0 hl (.inl rfl), takes0 hl (.inr rfl)]
  obtain ⟨n, hn⟩ : ∃ n : Nat, more.toNat = n + 1 := ⟨more.toNat - 1, by omega⟩
  have hn1 : (more - 1).toNat = n := by omega
  have e0 : endsV f won games 0 = EndP f (setV f won) games.1 games.2 0 := rfl
  have e1 : endsV f won games 1 = EndP f (setV f won) games.1 games.2 1 := rfl
  unfold rstV
  rw [e0, e1, pl_new (won := addV won 0) hs (by show won.1 + 1 ≤ _; omega) (by show won.2 ≤ _; omega), pl_new (won := addV won 1) hs (by show won.1 ≤ _; omega) (by show won.2 + 1 ≤ _; omega)]
  have hn1' : ¬ (ownP side won).1 = f.sets ∧ ¬ (ownP side won).2 = f.sets := by rcases hs with rfl | rfl <;> simp only [own0, own1] <;> omega
  rw [pl_is hn1'.1 hn1'.2, pl_is hn1'.1 hn1'.2, pl_is hn1'.1 hn1'.2]
  rcases hs with rfl | rfl
  · simp only [own0]
    have n3 : ¬ ((1000000 : Int) ≤ games.1 ∨ (1000000 : Int) ≤ games.2) := by omega
    rw [hn, hn1, trG, if_neg n3, eo_is ht hg, eo_is' ht hg]
    show min farV _ = min (min farV (_ + bif _ then _ else trG f (setV f won) farV 1000000 _ _ n (games.1 + 1) games.2)) (_ + bif _ then _ else trG f (setV f won) farV 1000000 _ _ n games.1 (games.2 + 1))
    have a0 : addV won 0 = (won.1 + 1, won.2) := rfl
    have a1 : addV won 1 = (won.1, won.2 + 1) := rfl
    rw [a0, a1]
    dsimp only
    omega
  · simp only [own1]
    have n3 : ¬ ((1000000 : Int) ≤ games.2 ∨ (1000000 : Int) ≤ games.1) := by omega
    rw [hn, hn1, trG, if_neg n3, eo_is' ht hg, eo_is ht hg, gcost_swap]
    show min farV _ = min (min farV (_ + bif _ then _ else trG f (setV f won) farV 1000000 _ _ n games.2 (games.1 + 1))) (_ + bif _ then _ else trG f (setV f won) farV 1000000 _ _ n (games.2 + 1) games.1)
    have a0 : addV won 0 = (won.1 + 1, won.2) := rfl
    have a1 : addV won 1 = (won.1, won.2 + 1) := rfl
    rw [a0, a1]
    dsimp only
    omega
/-! #### the memory -/
theorem kget_put : ∀ (t : Kn) (p : Plc) (v : Int) (q : Plc), kget (kput t p v) q = if q = p then some v else kget t q
  | [], p, v, q => rfl
  | e :: t, p, v, q => by
    rw [kput]
    by_cases h : p = e.1
    · rw [if_pos h, kget, kget]
      by_cases hq : q = p
      · rw [if_pos hq, if_pos hq]
      · rw [if_neg hq, if_neg hq, if_neg (fun e' => hq (e'.trans h.symm))]
    · rw [if_neg h, kget, kget, kget_put t p v q]
      by_cases hq : q = e.1
      · rw [if_pos hq, if_pos hq, if_neg (fun e' => h (e'.symm.trans hq))]
      · rw [if_neg hq, if_neg hq]
/-- How many more games are looked at from a place on. -/
def moreM (f : Fmt) (w0 g0 won games : Pr) : Int := if won = w0 then mostV f - (games.1 + games.2 - g0.1 - g0.2) else mostV f - (games.1 + games.2)
theorem add_near (p : Pr) {k : Int} (hk : k = 0 ∨ k = 1) : (addV p k).1 + (addV p k).2 = p.1 + p.2 + 1 ∧ (p.1 ≤ (addV p k).1 ∧ (addV p k).1 ≤ p.1 + 1) ∧ p.2 ≤ (addV p k).2 ∧ (addV p k).2 ≤ p.2 + 1 := by
  rcases hk with rfl | rfl
  · have e : addV p 0 = (p.1 + 1, p.2) := rfl
    rw [e]; dsimp only; omega
  · have e : addV p 1 = (p.1, p.2 + 1) := rfl
    rw [e]; dsimp only; omega
theorem more_next {w0 g0 won games : Pr} {k : Int} (hk : k = 0 ∨ k = 1) : moreM f w0 g0 won (addV games k) = moreM f w0 g0 won games - 1 := by
  have ha := add_near games hk
  unfold moreM
  by_cases h : won = w0
  · rw [if_pos h, if_pos h]; omega
  · rw [if_neg h, if_neg h]; omega
def GoodK (f : Fmt) (side : Int) (w0 g0 : Pr) (kn : Kn) : Prop := ∀ won games v, kget kn (won, games) = some v → v = plV f side won games (moreM f w0 g0 won games)
/-- What least returns. -/
def lsV (f : Fmt) (side : Int) (won games pts : Pr) (more : Int) : Int :=
  if (ownP side won).1 = f.sets then 0 else if (ownP side won).2 = f.sets then farV else if more = 0 then farV else valP f side won games pts more
structure PlOk (f : Fmt) (won games : Pr) (more : Int) : Prop where
  w1 : 0 ≤ won.1 ∧ won.1 ≤ f.sets
  w2 : 0 ≤ won.2 ∧ won.2 ≤ f.sets
  w : won.1 < f.sets ∨ won.2 < f.sets
  g : OpenP f (setV f won) games.1 games.2
  gl : games.1 + more < 1000000 ∧ games.2 + more < 1000000
  m : 0 ≤ more ∧ more ≤ mostV f
theorem ls_pl (hf : f.Ok) (hs : side = 0 ∨ side = 1) {won games : Pr} {more : Int} (h : PlOk f won games more) : lsV f side won games (0, 0) more = plV f side won games more := by
  unfold lsV
  by_cases h1 : (ownP side won).1 = f.sets
  · rw [if_pos h1, plV, if_pos h1]
  · by_cases h2 : (ownP side won).2 = f.sets
    · rw [if_neg h1, if_pos h2, plV, if_neg h1, if_pos h2]
    · rw [if_neg h1, if_neg h2]
      by_cases h3 : more = 0
      · rw [if_pos h3, plV, if_neg h1, if_neg h2, h3]; rfl
      · rw [if_neg h3]
        have hw : won.1 < f.sets ∧ won.2 < f.sets := by
          have := h.w1
          have := h.w2
          rcases hs with rfl | rfl
          · rw [own0] at h1 h2; omega
          · rw [own1] at h1 h2; dsimp only at h1 h2; omega
        have := h.m
        have := h.gl
        exact (pl_step hf hs ⟨h.w1.1, hw.1⟩ ⟨h.w2.1, hw.2⟩ h.g ⟨by omega, by omega⟩ (by omega)).symm
theorem open_at (hf : f.Ok) {won games : Pr} {k : Int} (hk : k = 0 ∨ k = 1) (h : OpenP f (setV f won) games.1 games.2) (he : endsV f won games k = false) : OpenP f (setV f won) (addV games k).1 (addV games k).2 := by
  have ht := tie_ok hf won
  rcases hk with rfl | rfl
  · exact open_next ht h he
  · exact open_next' ht h he
theorem isZ_iff (p : Pr) : isZ p = true ↔ p = (0, 0) := by
  unfold isZ
  rw [decide_eq_true_eq]
  obtain ⟨a, b⟩ := p
  simp
theorem sub2 (rec : Pr → Pr → Int → Kn → Int × Kn) (won games pts : Pr) (more : Int) (kn : Kn) : subTo rec f won games pts more kn 2 = (min (min farV (takesV f (setV f won) (brksV (setV f won) games) pts 0 + (restV rec f won games more 0 kn).1)) (takesV f (setV f won) (brksV (setV f won) games) pts 1 + (restV rec f won games more 1 (restV rec f won games more 0 kn).2).1), (restV rec f won games more 1 (restV rec f won games more 0 kn).2).2) := rfl
theorem least_is (hf : f.Ok) (hs : side = 0 ∨ side = 1) (w0 g0 : Pr) : ∀ (n : Nat) (won games pts : Pr) (more : Int) (kn : Kn), (2 * f.sets - won.1 - won.2) * 25 + more < n → PlOk f won games more → w0.1 + w0.2 ≤ won.1 + won.2 → more = moreM f w0 g0 won games → GoodK f side w0 g0 kn →
    (leastF f side n won games pts more kn).1 = lsV f side won games pts more ∧ GoodK f side w0 g0 (leastF f side n won games pts more kn).2
  | 0, won, games, pts, more, kn, hn, h, _, _, _ => by
    have := h.w1
    have := h.w2
    have := h.m
    omega
  | n + 1, won, games, pts, more, kn, hn, h, hw0, hm, hk => by
    have k1 := h.w1
    have k2 := h.w2
    have k3 := h.w
    have k4 := h.m
    have k5 := h.gl
    have hg1 := hf.g1
    have hg0 := hf.g0
    have hmost : mostV f = 2 * f.games + 4 := rfl
    have hleads := leads_own (p := won) (l := f.sets) (b := 1) (side := side) (by omega) hs
    have hov : overV f won = decide ((ownP side won).1 = f.sets ∨ (ownP side won).2 = f.sets) := by
      unfold overV
      rcases hs with rfl | rfl
      · rw [own0]; exact decide_eq_decide.2 (by omega)
      · rw [own1]; exact decide_eq_decide.2 (by dsimp only; omega)
    have hob : (0 ≤ (ownP side won).1 ∧ (ownP side won).1 ≤ f.sets) ∧ (0 ≤ (ownP side won).2 ∧ (ownP side won).2 ≤ f.sets) ∧ ((ownP side won).1 < f.sets ∨ (ownP side won).2 < f.sets) := by
      rcases hs with rfl | rfl
      · exact ⟨k1, k2, k3⟩
      · exact ⟨k2, k1, k3.symm⟩
    unfold lsV
    rw [leastF]
    by_cases h1 : (ownP side won).1 = f.sets
    · have e1 : (overV f won && decide (leadsV won f.sets 1 = side)) = true := by
        rw [hov, decide_eq_true (.inl h1), decide_eq_true (hleads.2 (by omega))]; rfl
      rw [e1, if_pos h1]; exact ⟨rfl, hk⟩
    · have e1 : (overV f won && decide (leadsV won f.sets 1 = side)) = false := by
        rw [Bool.and_eq_false_iff, decide_eq_false_iff_not]
        exact .inr fun e => by have := hleads.1 e; omega
      rw [e1, if_neg h1, cond_false]
      by_cases h2 : (ownP side won).2 = f.sets
      · rw [hov, decide_eq_true (.inr h2), if_pos h2]; exact ⟨rfl, hk⟩
      · rw [hov, decide_eq_false (by omega), if_neg h2, cond_false]
        by_cases h3 : more = 0
        · rw [decide_eq_true h3, if_pos h3]; exact ⟨rfl, hk⟩
        · rw [decide_eq_false h3, if_neg h3, cond_false]
          have hwl : won.1 < f.sets ∧ won.2 < f.sets := by
            rcases hs with rfl | rfl
            · rw [own0] at h1 h2; omega
            · rw [own1] at h1 h2; dsimp only at h1 h2; omega
          have hlsz : isZ pts = true → plV f side won games more = valP f side won games pts more := fun e => by
            rw [(isZ_iff pts).1 e]
            exact pl_step hf hs ⟨k1.1, hwl.1⟩ ⟨k2.1, hwl.2⟩ h.g ⟨by omega, by omega⟩ (by omega)
          cases hmem : (kget kn (won, games)).isSome && isZ pts
          · rw [cond_false]
            have R : ∀ (k : Int) (kn : Kn), k = 0 ∨ k = 1 → GoodK f side w0 g0 kn → (restV (fun w g m kn => leastF f side n w g (0, 0) m kn) f won games more k kn).1 = rstV f side won games more k ∧ GoodK f side w0 g0 (restV (fun w g m kn => leastF f side n w g (0, 0) m kn) f won games more k kn).2 := fun k kn hkk hkn => by
              unfold restV rstV
              cases he : endsV f won games k
              · simp only [cond_false]
                have ha := add_near games hkk
                have hp : PlOk f won (addV games k) (more - 1) := ⟨k1, k2, k3, open_at hf hkk h.g he, ⟨by omega, by omega⟩, by omega⟩
                have ih := least_is hf hs w0 g0 n won (addV games k) (0, 0) (more - 1) kn (by omega) hp hw0 (by rw [more_next hkk, ← hm]) hkn
                rw [ls_pl hf hs hp] at ih
                exact ih
              · simp only [cond_true]
                have ha := add_near won hkk
                have hp : PlOk f (addV won k) (0, 0) (mostV f) := ⟨by omega, by omega, by omega, open0 (tie_ok hf _), ⟨by dsimp only; omega, by dsimp only; omega⟩, by omega⟩
                have ih := least_is hf hs w0 g0 n (addV won k) (0, 0) (0, 0) (mostV f) kn (by omega) hp (by omega) (by unfold moreM; rw [if_neg (fun e => by rw [e] at ha; omega)]; dsimp only; omega) hkn
                rw [ls_pl hf hs hp] at ih
                exact ih
            have R0 := R 0 kn (.inl rfl) hk
            have R1 := R 1 _ (.inr rfl) R0.2
            have hv : (keepV won games pts (subTo (fun w g m kn => leastF f side n w g (0, 0) m kn) f won games pts more kn 2)).1 = valP f side won games pts more := by
              rw [keepV_1, sub2, R0.1, R1.1]; rfl
            refine ⟨hv, ?_⟩
            rw [keepV_2]
            rw [keepV_1] at hv
            rw [hv, sub2]
            dsimp only
            cases hz : isZ pts
            · exact R1.2
            · simp only [cond_true]
              intro w g v hget
              rw [kget_put] at hget
              by_cases hq : (w, g) = (won, games)
              · rw [if_pos hq] at hget
                injection hq with q1 q2
                subst q1 q2
                rw [← hm, hlsz hz]
                exact (Option.some.inj hget).symm
              · rw [if_neg hq] at hget
                exact R1.2 w g v hget
          · rw [cond_true]
            rw [Bool.and_eq_true] at hmem
            obtain ⟨v, hv⟩ := Option.isSome_iff_exists.1 hmem.1
            refine ⟨?_, hk⟩
            dsimp only
            rw [hv, ← hlsz hmem.2, hm]
            exact hk won games v hv
end
end Go.Proofs.Ytacaojifempclaa
