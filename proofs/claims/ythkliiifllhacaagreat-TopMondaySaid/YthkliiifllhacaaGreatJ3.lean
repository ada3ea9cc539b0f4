/- The texts of the walk, part 3. -/
import Derived.Test.YthkliiifllhacaaGreatJ2
namespace Go.Proofs.YthkliiifllhacaaGreat
open Go Go.RowKit

theorem leads_n {p : Pr} {l b : Int} : leadsV p l b = -1 ↔ ¬ (l ≤ p.1 ∧ b ≤ p.1 - p.2) ∧ ¬ (l ≤ p.2 ∧ b ≤ p.2 - p.1) := by
 unfold leadsV
 cases h1 : decide (l ≤ p.1) && decide (b ≤ p.1 - p.2)
 ·
  cases h2 : decide (l ≤ p.2) && decide (b ≤ p.2 - p.1)
  ·
   simp at h1 h2 ⊢; omega
  ·
   simp at h1 h2 ⊢; omega
 ·
  simp at h1 ⊢; omega
theorem leads_0 {p : Pr} {l b : Int} : leadsV p l b = 0 ↔ (l ≤ p.1 ∧ b ≤ p.1 - p.2) := by
 unfold leadsV
 cases h1 : decide (l ≤ p.1) && decide (b ≤ p.1 - p.2)
 ·
  cases h2 : decide (l ≤ p.2) && decide (b ≤ p.2 - p.1) <;> simp at h1 h2 ⊢ <;> omega
 ·
  simp at h1 ⊢; omega
theorem leads_1 {p : Pr} {l b : Int} (hb : 1 ≤ b) : leadsV p l b = 1 ↔ (l ≤ p.2 ∧ b ≤ p.2 - p.1) := by
 unfold leadsV
 cases h1 : decide (l ≤ p.1) && decide (b ≤ p.1 - p.2)
 ·
  cases h2 : decide (l ≤ p.2) && decide (b ≤ p.2 - p.1) <;> simp at h1 h2 ⊢ <;> omega
 ·
  simp at h1 ⊢; omega
theorem add_0 (p : Pr) : addV p 0 = (p.1 + 1, p.2) := rfl
theorem add_1 (p : Pr) : addV p 1 = (p.1, p.2 + 1) := rfl
theorem add_sum (p : Pr) (side : Int) : (addV p side).1 + (addV p side).2 = p.1 + p.2 + 1 := by
 unfold addV; cases decide (side = 0) <;> simp only [cond_true, cond_false] <;> omega
theorem leads_add {p : Pr} {l b side : Int} (hb : 1 ≤ b) (hs : side = 0 ∨ side = 1) (h : leadsV p l b = -1) : leadsV (addV p side) l b = -1 ∨ leadsV (addV p side) l b = side := by
 rw [leads_n] at h
 rcases hs with rfl | rfl
 ·
  by_cases h0 : leadsV (addV p 0) l b = 0
  ·
   exact .inr h0
  ·
   left
   rw [leads_n]
   rw [leads_0] at h0
   rw [add_0] at h0 ⊢
   exact ⟨h0, by simp only; omega⟩
 ·
  by_cases h0 : leadsV (addV p 1) l b = 1
  ·
   exact .inr h0
  ·
   left
   rw [leads_n]
   rw [leads_1 hb] at h0
   rw [add_1] at h0 ⊢
   exact ⟨by simp only; omega, h0⟩
theorem game_add {f : Fmt} {s p : Pr} {t : Bool} {side : Int} (hs : side = 0 ∨ side = 1) (h : gameV f s t p = -1) : gameV f s t (addV p side) = -1 ∨ gameV f s t (addV p side) = side := by
 unfold gameV at *
 cases t
 ·
  cases hn : f.noAd <;> rw [hn] at h <;> exact leads_add (by omega) hs h
 ·
  exact leads_add (by omega) hs h

theorem befTo_half (first side : Int) (hf : 0 ≤ first ∧ first ≤ 1) (hs : 0 ≤ side ∧ side ≤ 1) : ∀ k : Nat, befTo first side k = if first = side then ((k : Int) + 1) / 2 else (k : Int) / 2
 | 0 => by simp [befTo]
 | k + 1 => by
  rw [befTo, befTo_half first side hf hs k]
  by_cases h1 : (first + (k : Int)) % 2 = side
  ·
   rw [decide_eq_true h1]
   by_cases h2 : first = side
   ·
    simp only [if_pos h2, cond_true]; omega
   ·
    simp only [if_neg h2, cond_true]; omega
  ·
   rw [decide_eq_false h1]
   by_cases h2 : first = side
   ·
    simp only [if_pos h2, cond_false]; omega
   ·
    simp only [if_neg h2, cond_false]; omega
theorem serv_eq {f : Fmt} {first : Int} {game : Nat} {ties : List Bool} {tie : Bool} {pt : Int} (hf : 0 ≤ first ∧ first ≤ 1) (hl : ties.length = game + 1) (ht : tieI ties ((ties.length : Int) - 1) = tie) (hp : 0 ≤ pt) : servR f first game tie pt = servesV f first ties pt := by
 have hg : (ties.length : Int) - 1 = game := by omega
 have htu : turnV ties pt = turnR tie pt := by unfold turnV turnR; rw [ht]
 have ht0 : 0 ≤ turnR tie pt := by unfold turnR; cases tie <;> simp <;> omega
 unfold servR servesV
 rw [htu, hg]
 generalize turnR tie pt = t at *
 cases f.dbl
 ·
  rfl
 ·
  simp only [Bool.not_true, cond_false]
  rw [befTo_half first _ hf (by omega)]
  by_cases h : first = (first + (game : Int) + t) % 2
  ·
   rw [if_pos h]; omega
  ·
   rw [if_neg h]; omega

theorem tieI_app {l : List Bool} {b : Bool} : tieI (l ++ [b]) ((((l ++ [b]).length : Nat) : Int) - 1) = b := by
 have : ((((l ++ [b]).length : Nat) : Int) - 1).toNat = l.length := by simp
 rw [tieI, this]
 simp
structure MS.Inv (m : MS) : Prop where
 w : m.winner = -1
 won : m.won = wonV m.st
 tl : m.ties.length = m.gs.length + 1
 te : ∀ (i : Nat) g, m.gs[i]? = some g → m.ties[i]? = some g.tie
 ta : m.tie = brksV (setV m.f m.won) m.g
 g0 : 0 ≤ m.g.1 ∧ 0 ≤ m.g.2
 ld : leadsV m.g m.f.games 2 = -1
 ad : m.f.noAd = true → m.tie = false → m.p.1 < 4 ∧ m.p.2 < 4
 go : gameV m.f (setV m.f m.won) m.tie m.p = -1
 ws : m.won.1 < m.f.sets ∧ m.won.2 < m.f.sets
 p0 : 0 ≤ m.p.1 ∧ 0 ≤ m.p.2
 sv : m.server = servesV m.f m.first m.ties (m.p.1 + m.p.2)
theorem set_to (f : Fmt) (hf : f.Ok) (won : Pr) : 1 ≤ (setV f won).2 ∧ -1 ≤ (setV f won).1 := by
 have h1 := hf.o0
 have h2 := hf.l0
 have h3 := hf.t
 have h4 := hf.lt
 have h5 := hf.g0
 unfold setV
 cases decide (won.1 = f.sets - 1) && decide (won.2 = f.sets - 1) <;> simp only [cond_true, cond_false] <;> omega
theorem game_00 {f : Fmt} (hf : f.Ok) (won : Pr) (t : Bool) : gameV f (setV f won) t (0, 0) = -1 := by
 have := set_to f hf won
 unfold gameV
 cases t <;> cases f.noAd <;> simp only [cond_true, cond_false] <;> rw [leads_n] <;> simp only <;> omega
structure MS.Pre (m : MS) : Prop where
 w : m.winner = -1
 won : m.won = wonV m.st
 tl : m.ties.length = m.gs.length
 te : ∀ (i : Nat) g, m.gs[i]? = some g → m.ties[i]? = some g.tie
 g0 : 0 ≤ m.g.1 ∧ 0 ≤ m.g.2
theorem next_inv {m : MS} (hf : m.f.Ok) (hp : m.Pre) (hld : leadsV m.g m.f.games 2 = -1) (hws : m.won.1 < m.f.sets ∧ m.won.2 < m.f.sets) (hp0 : m.p = (0, 0)) : (nextV m).Inv := by
 have hw : decide (0 ≤ m.winner) = false := by rw [hp.w]; rfl
 have e : nextV m = { m with ties := tiesV m, balls := bif freshV m.f (tiesV m) then m.balls + 1 else m.balls, server := servesV m.f m.first (tiesV m) 0 } := by rw [nextV, hw]; rfl
 rw [e]
 refine ⟨hp.w, hp.won, by simp [tiesV, hp.tl], fun i g hg => ?_, tieI_app, hp.g0, hld, fun _ _ => ?_, ?_, hws, ?_, ?_⟩
 ·
  have hi : i < m.gs.length := (List.getElem?_eq_some_iff.1 hg).1
  show (tiesV m)[i]? = _
  rw [tiesV, List.getElem?_append_left (by rw [hp.tl]; exact hi)]
  exact hp.te i g hg
 ·
  dsimp only; rw [hp0]; simp
 ·
  dsimp only; rw [hp0]; exact game_00 hf _ _
 ·
  dsimp only; rw [hp0]; simp
 ·
  dsimp only; rw [hp0]; rfl

structure MS.Done (m : MS) : Prop where
 w : m.winner = 0 ∨ m.winner = 1
 sv : m.server = -1
def gameOver (m : MS) (side : Int) : MS := { m with gs := m.gs ++ [gameG m side], p := (0, 0), g := addV m.g side, ends := bif decide (((addV m.g side).1 + (addV m.g side).2) % 2 = 1) then m.ends + 1 else m.ends }
def setOver (m : MS) (side : Int) : MS := { m with gs := m.gs ++ [gameG m side], p := (0, 0), st := m.st ++ [addV m.g side], g := (0, 0), won := addV m.won side, ends := bif decide (((addV m.g side).1 + (addV m.g side).2) % 2 = 1) then m.ends + 1 else m.ends }
def matchOver (m : MS) (side : Int) : MS := { m with gs := m.gs ++ [gameG m side], p := (0, 0), st := m.st ++ [addV m.g side], g := (0, 0), won := addV m.won side, winner := side, server := -1 }
inductive Stp (m : MS) (side : Int) : MS → Prop
 | no (hw : m.w side = -1) (hi : (pointN m side).Inv) : Stp m side (pointN m side)
 | game (hw : m.w side = side) (he : setEnds m side = false) (hp : (gameOver m side).Pre) (hi : (nextV (gameOver m side)).Inv) : Stp m side (nextV (gameOver m side))
 | set (hw : m.w side = side) (he : setEnds m side = true) (hl : (addV m.g side).2 < (addV m.g side).1 ↔ side = 0) (ho : max (addV m.won side).1 (addV m.won side).2 < m.f.sets) (hp : (setOver m side).Pre) (hi : (nextV (setOver m side)).Inv) : Stp m side (nextV (setOver m side))
 | over (hw : m.w side = side) (he : setEnds m side = true) (hl : (addV m.g side).2 < (addV m.g side).1 ↔ side = 0) (ho : max (addV m.won side).1 (addV m.won side).2 = m.f.sets) : Stp m side (matchOver m side)

theorem wside_eq {p : Pr} {side : Int} (hs : side = 0 ∨ side = 1) (h : p.2 < p.1 ↔ side = 0) : wside p = side := by
 unfold wside
 by_cases h0 : p.2 < p.1
 ·
  rw [decide_eq_true h0]; have := h.1 h0; simp [this]
 ·
  rw [decide_eq_false h0]
  have : side ≠ 0 := fun e => h0 (h.2 e)
  simp only [cond_false]; omega
theorem set_lead {m : MS} (h : m.Inv) {side : Int} (hs : side = 0 ∨ side = 1) (he : setEnds m side = true) : (addV m.g side).2 < (addV m.g side).1 ↔ side = 0 := by
 unfold setEnds at he
 rw [Bool.or_eq_true, decide_eq_true_eq] at he
 rcases he with ht | hl
 ·
  have hb := h.ta
  rw [ht] at hb
  have := hb.symm
  simp only [brksV, Bool.and_eq_true, decide_eq_true_eq] at this
  rcases hs with rfl | rfl
  ·
   rw [add_0]; dsimp only; omega
  ·
   rw [add_1]; dsimp only; omega
 ·
  rcases leads_add (b := 2) (by omega) hs h.ld with h1 | h1
  ·
   omega
  ·
   rcases hs with rfl | rfl
   ·
    rw [leads_0] at h1; rw [add_0] at h1 ⊢; dsimp only at h1 ⊢; omega
   ·
    rw [leads_1 (by omega)] at h1; rw [add_1] at h1 ⊢; dsimp only at h1 ⊢; omega

theorem point_step {m : MS} (hf : m.f.Ok) (h : m.Inv) {side : Int} (hs : side = 0 ∨ side = 1) : Stp m side (pointV m side) := by
 have h01 : 0 ≤ (addV m.g side).1 ∧ 0 ≤ (addV m.g side).2 := by
  have := h.g0
  unfold addV; cases decide (side = 0) <;> simp only [cond_true, cond_false] <;> omega
 have tie' : ∀ (i : Nat) g, (m.gs ++ [gameG m side])[i]? = some g → m.ties[i]? = some g.tie := fun i g hg => by
  by_cases hi : i < m.gs.length
  ·
   rw [List.getElem?_append_left hi] at hg; exact h.te i g hg
  ·
   have hl : i < (m.gs ++ [gameG m side]).length := (List.getElem?_eq_some_iff.1 hg).1
   obtain rfl : i = m.gs.length := by simp at hl; omega
   simp at hg
   subst hg
   have hlt : m.gs.length < m.ties.length := by rw [h.tl]; omega
   show m.ties[m.gs.length]? = some m.tie
   rw [List.getElem?_eq_getElem hlt]
   have e : m.tie = m.ties.getD m.gs.length false := by
    rw [MS.tie, tieI]
    congr 1
    have := h.tl
    omega
   rw [e, List.getD_eq_getElem?_getD, List.getElem?_eq_getElem hlt]
   rfl
 have htl : m.ties.length = (m.gs ++ [gameG m side]).length := by rw [h.tl]; simp
 rcases game_add (f := m.f) (s := setV m.f m.won) (t := m.tie) hs h.go with hw | hw
 ·
  have e : pointV m side = pointN m side := by
   have : decide (m.w side < 0) = true := by rw [MS.w, hw]; rfl
   rw [pointV, this]; rfl
  rw [e]
  refine .no hw ⟨h.w, h.won, h.tl, h.te, h.ta, h.g0, h.ld, fun hn ht => ?_, hw, h.ws, ?_, rfl⟩
  ·
   have ht' : m.tie = false := ht
   have hp := h.ad hn ht'
   have hg : gameV m.f (setV m.f m.won) m.tie (addV m.p side) = -1 := hw
   unfold gameV at hg
   rw [ht', show m.f.noAd = true from hn] at hg
   simp only [cond_true, cond_false] at hg
   rw [leads_n] at hg
   show (addV m.p side).1 < 4 ∧ (addV m.p side).2 < 4
   rcases hs with rfl | rfl
   ·
    rw [add_0] at hg ⊢; simp only at hg ⊢; omega
   ·
    rw [add_1] at hg ⊢; simp only at hg ⊢; omega
  ·
   show 0 ≤ (addV m.p side).1 ∧ 0 ≤ (addV m.p side).2
   have := h.p0
   rcases hs with rfl | rfl
   ·
    rw [add_0]; simp only; omega
   ·
    rw [add_1]; simp only; omega
 ·
  have hws : m.w side = side := hw
  have hs0 : 0 ≤ side := by omega
  have hlt : decide (m.w side < 0) = false := by rw [hws]; simp; omega
  cases he : setEnds m side
  ·
   have hG : pointG m side = { m with gs := m.gs ++ [gameG m side], p := (0, 0), g := addV m.g side } := by rw [pointG, hws, he]; rfl
   have hE : pointE m side = gameOver m side := by
    rw [pointE, hG, hws]
    have : decide (m.winner < 0) = true := by rw [h.w]; rfl
    simp only [this, Bool.and_true]
    rfl
   rw [pointV, hlt, cond_false, hE]
   have hld : leadsV (addV m.g side) m.f.games 2 = -1 := by
    have := he
    unfold setEnds at this
    rw [Bool.or_eq_false_iff, decide_eq_false_iff_not] at this
    rcases leads_add (b := 2) (by omega) hs h.ld with h1 | h1
    ·
     exact h1
    ·
     omega
   have hp : (gameOver m side).Pre := ⟨h.w, h.won, htl, tie', h01⟩
   exact .game hws he hp (next_inv hf hp hld h.ws rfl)
  ·
   have hl := set_lead h hs he
   have hwn : wonV (m.st ++ [addV m.g side]) = addV m.won side := by rw [wonV_app, wside_eq hs hl, h.won]
   have hle : (addV m.won side).1 ≤ m.f.sets ∧ (addV m.won side).2 ≤ m.f.sets := by
    have := h.ws
    rcases hs with rfl | rfl
    ·
     rw [add_0]; simp only; omega
    ·
     rw [add_1]; simp only; omega
   by_cases ho : max (addV m.won side).1 (addV m.won side).2 = m.f.sets
   ·
    have hG : pointG m side = { m with gs := m.gs ++ [gameG m side], p := (0, 0), st := m.st ++ [addV m.g side], g := (0, 0), won := addV m.won side, winner := side } := by rw [pointG, hws, he]; simp only [cond_true, decide_eq_true ho]
    have hE : pointE m side = { m with gs := m.gs ++ [gameG m side], p := (0, 0), st := m.st ++ [addV m.g side], g := (0, 0), won := addV m.won side, winner := side } := by
     rw [pointE, hG]
     have : decide (side < 0) = false := by simp; omega
     simp only [this, Bool.and_false, cond_false]
    have e : pointV m side = matchOver m side := by
     rw [pointV, hlt, cond_false, hE, nextV]
     simp only [decide_eq_true hs0, cond_true]
     rfl
    rw [e]
    exact .over hws he hl ho
   ·
    have hG : pointG m side = { m with gs := m.gs ++ [gameG m side], p := (0, 0), st := m.st ++ [addV m.g side], g := (0, 0), won := addV m.won side } := by rw [pointG, hws, he]; simp only [cond_true, decide_eq_false ho, cond_false]
    have hE : pointE m side = setOver m side := by
     rw [pointE, hG, hws]
     have : decide (m.winner < 0) = true := by rw [h.w]; rfl
     simp only [this, Bool.and_true]
     rfl
    rw [pointV, hlt, cond_false, hE]
    have hp : (setOver m side).Pre := ⟨h.w, hwn.symm, htl, tie', by simp [setOver]⟩
    refine .set hws he hl (by omega) hp (next_inv hf hp ?_ ?_ rfl)
    ·
     have := hf.g0
     show leadsV (0, 0) m.f.games 2 = -1
     rw [leads_n]; simp only; omega
    ·
     show (addV m.won side).1 < m.f.sets ∧ (addV m.won side).2 < m.f.sets
     omega

theorem begin_pre (f : Fmt) (first : Int) : (begin0 f first).Pre := ⟨rfl, rfl, rfl, fun i g h => by simp [begin0] at h, by simp [begin0]⟩
theorem begin_inv {f : Fmt} (hf : f.Ok) (first : Int) : (beginV f first).Inv :=
 next_inv (m := begin0 f first) hf (begin_pre f first) (by have := hf.g0; rw [leads_n]; simp only [begin0]; omega) (by have := hf.s0; simp only [begin0]; omega) rfl
theorem stp_f {m m' : MS} {side : Int} (h : Stp m side m') : m'.f = m.f ∧ m'.first = m.first := by
 have hn : ∀ m0 : MS, (nextV m0).f = m0.f ∧ (nextV m0).first = m0.first := fun m0 => by unfold nextV; cases decide (0 ≤ m0.winner) <;> exact ⟨rfl, rfl⟩
 cases h with
 | no => exact ⟨rfl, rfl⟩
 | game => exact hn _
 | set => exact hn _
 | over => exact ⟨rfl, rfl⟩
theorem stp_inv {m m' : MS} {side : Int} (hs : side = 0 ∨ side = 1) (h : Stp m side m') : m'.Inv ∨ m'.Done := by
 cases h with
 | no _ hi => exact .inl hi
 | game _ _ _ hi => exact .inl hi
 | set _ _ _ _ _ hi => exact .inl hi
 | over => exact .inr ⟨hs, rfl⟩
theorem playTo_inv {f : Fmt} {first : Int} {xs : List Int} (hf : f.Ok) : ∀ {k : Nat} {m : MS}, playTo f first xs k = some m → m.f = f ∧ m.first = first ∧ (m.Inv ∨ m.Done)
 | 0, m, h => by
  simp only [playTo, Option.some.injEq] at h
  subst h
  exact ⟨rfl, rfl, .inl (begin_inv hf first)⟩
 | k + 1, m, h => by
  rw [playTo] at h
  cases h1 : playTo f first xs k with
  | none => rw [h1] at h; cases h
  | some m0 =>
   cases h2 : xs[k]? with
   | none => rw [h1, h2] at h; cases h
   | some s =>
    rw [h1, h2] at h
    simp only at h
    obtain ⟨e1, e2, hi⟩ := playTo_inv hf h1
    cases hb : sideBad s || decide (0 ≤ m0.winner)
    ·
     rw [hb] at h
     simp only [cond_false, Option.some.injEq] at h
     subst h
     rw [Bool.or_eq_false_iff] at hb
     have hs := side_ok hb.1
     rcases hi with hi | hd
     ·
      have hst := point_step (e1 ▸ hf) hi hs
      have := stp_f hst
      exact ⟨this.1.trans e1, this.2.trans e2, stp_inv hs hst⟩
     ·
      have := hb.2
      rw [decide_eq_false_iff_not] at this
      have := hd.w
      omega
    ·
     rw [hb] at h; cases h
end Go.Proofs.YthkliiifllhacaaGreat

namespace Go.Proofs.YthkliiifllhacaaGreat
open Go Go.RowKit

end Go.Proofs.YthkliiifllhacaaGreat

namespace Go.Proofs.YthkliiifllhacaaGreat
open Go Go.RowKit

structure Spot where
 (first : Int) (st : List Pr) (g p : Pr)
theorem Spot.ext' {a b : Spot} (h1 : a.first = b.first) (h2 : a.st = b.st) (h3 : a.g = b.g) (h4 : a.p = b.p) : a = b := by
 cases a; cases b; cases h1; cases h2; cases h3; cases h4; rfl
instance : DecidableEq Spot := fun a b => decidable_of_iff (a.first = b.first ∧ a.st = b.st ∧ a.g = b.g ∧ a.p = b.p) ⟨fun h => Spot.ext' h.1 h.2.1 h.2.2.1 h.2.2.2, fun h => by subst h; exact ⟨rfl, rfl, rfl, rfl⟩⟩
def spotOf (m : MS) : Spot := ⟨m.first, m.st, m.g, m.p⟩
def ldS (p : Pr) (side l b : Int) : Bool := bif decide (side = 1) then decide (l ≤ p.2) && decide (b ≤ p.2 - p.1) else decide (l ≤ p.1) && decide (b ≤ p.1 - p.2)
def topS (s : Spot) : Int := max (wonV s.st).1 (wonV s.st).2
def tieS (f : Fmt) (s : Spot) : Bool := brksV (setV f (wonV s.st)) s.g
def leastS (f : Fmt) (s : Spot) : Int := bif tieS f s then (setV f (wonV s.st)).2 else 4
def byS (f : Fmt) (s : Spot) : Int := bif tieS f s then 2 else bif f.noAd then 1 else 2
def gotS (f : Fmt) (s : Spot) (side : Int) : Bool := ldS (addV s.p side) side (leastS f s) (byS f s)
def endS' (f : Fmt) (s : Spot) (side : Int) : Bool := tieS f s || ldS (addV s.g side) side f.games 2
def stepS (f : Fmt) (s : Spot) (side : Int) : Spot :=
 bif gotS f s side then (bif endS' f s side then ⟨s.first, s.st ++ [addV s.g side], (0, 0), (0, 0)⟩ else ⟨s.first, s.st, addV s.g side, (0, 0)⟩) else ⟨s.first, s.st, s.g, addV s.p side⟩
def nxtS (f : Fmt) (s : Spot) (side : Int) : Option Spot := bif decide (topS s = f.sets) then none else some (stepS f s side)
def sumP (l : List Pr) : Int := (l.map fun p => p.1 + p.2).sum
def cntS (s : Spot) : Int := sumP s.st + (s.g.1 + s.g.2)
def winS (f : Fmt) (s : Spot) : Int := bif decide ((wonV s.st).1 = f.sets) then 0 else bif decide ((wonV s.st).2 = f.sets) then 1 else -1
def srvS (f : Fmt) (s : Spot) : Int := bif decide (topS s = f.sets) then -1 else servR f s.first (cntS s).toNat (tieS f s) (s.p.1 + s.p.2)
structure Rch (m : MS) : Prop where
 inv : m.Inv ∨ (m.Done ∧ max (wonV m.st).1 (wonV m.st).2 = m.f.sets ∧ m.winner = winS m.f (spotOf m))
 cnt : (m.gs.length : Int) = cntS (spotOf m)

theorem lds_eq {p : Pr} {side l b : Int} (hs : side = 0 ∨ side = 1) (hb : 1 ≤ b) (h : leadsV p l b = -1 ∨ leadsV p l b = side) : ldS p side l b = decide (leadsV p l b = side) := by
 rcases hs with rfl | rfl
 ·
  rw [ldS, decide_eq_false (by decide), cond_false, Bool.eq_iff_iff, Bool.and_eq_true, decide_eq_true_eq, decide_eq_true_eq, decide_eq_true_eq, leads_0]
 ·
  rw [ldS, decide_eq_true rfl, cond_true, Bool.eq_iff_iff, Bool.and_eq_true, decide_eq_true_eq, decide_eq_true_eq, decide_eq_true_eq, leads_1 hb]
theorem sumP_app (l : List Pr) (p : Pr) : sumP (l ++ [p]) = sumP l + (p.1 + p.2) := by
 unfold sumP; rw [List.map_append, List.sum_append]; simp
theorem next_spot (m : MS) : spotOf (nextV m) = spotOf m ∧ (nextV m).gs = m.gs ∧ (nextV m).f = m.f := by
 unfold nextV; cases decide (0 ≤ m.winner) <;> exact ⟨rfl, rfl, rfl⟩
section
variable {m : MS}
theorem got_eq (h : m.Inv) {side : Int} (hs : side = 0 ∨ side = 1) : gotS m.f (spotOf m) side = decide (m.w side = side) := by
 have hw := game_add (f := m.f) (s := setV m.f m.won) (t := m.tie) hs h.go
 have ht : tieS m.f (spotOf m) = m.tie := by rw [h.ta, h.won]; rfl
 have hv : setV m.f (wonV (spotOf m).st) = setV m.f m.won := by rw [h.won]; rfl
 rw [gotS, leastS, byS, ht, hv, MS.w]
 unfold gameV at hw ⊢
 cases htt : m.tie
 ·
  rw [htt] at hw
  cases hn : m.f.noAd
  ·
   rw [hn] at hw; exact lds_eq hs (by decide) hw
  ·
   rw [hn] at hw; exact lds_eq hs (by decide) hw
 ·
  rw [htt] at hw
  exact lds_eq (b := 2) hs (by decide) hw
theorem ends_eq (h : m.Inv) {side : Int} (hs : side = 0 ∨ side = 1) (hw : m.w side = side) : endS' m.f (spotOf m) side = setEnds m side := by
 have ht : tieS m.f (spotOf m) = m.tie := by rw [h.ta, h.won]; rfl
 have hl := leads_add (b := 2) (by decide) hs h.ld
 rw [endS', ht, setEnds]
 have e := lds_eq (p := addV m.g side) (l := m.f.games) (b := 2) hs (by decide) hl
 show (m.tie || ldS (addV m.g side) side m.f.games 2) = _
 rw [e]
 congr 1
 rw [Bool.eq_iff_iff, decide_eq_true_eq, decide_eq_true_eq]
 omega
theorem inv_top (h : m.Inv) : decide (topS (spotOf m) = m.f.sets) = false := by
 have := h.ws
 rw [h.won] at this
 apply decide_eq_false
 show ¬ max (wonV m.st).1 (wonV m.st).2 = m.f.sets
 omega
end
theorem rch_next {m : MS} (h1 : (nextV m).Inv) (h2 : (m.gs.length : Int) = cntS (spotOf m)) : Rch (nextV m) :=
 ⟨.inl h1, by rw [(next_spot m).1, (next_spot m).2.1]; exact h2⟩
theorem rch_begin {f : Fmt} (hf : f.Ok) (first : Int) : Rch (beginV f first) := rch_next (m := begin0 f first) (begin_inv hf first) rfl
theorem begin_spot (f : Fmt) (first : Int) : spotOf (beginV f first) = ⟨first, [], (0, 0), (0, 0)⟩ := (next_spot (begin0 f first)).1
theorem spot_step {m : MS} (hf : m.f.Ok) (h : m.Inv) (hc : (m.gs.length : Int) = cntS (spotOf m)) {side : Int} (hs : side = 0 ∨ side = 1) : nxtS m.f (spotOf m) side = some (spotOf (pointV m side)) ∧ Rch (pointV m side) := by
 have hst := point_step hf h hs
 have hn : nxtS m.f (spotOf m) side = some (stepS m.f (spotOf m) side) := by rw [nxtS, inv_top h]; rfl
 have hg := got_eq h hs
 rw [hn]
 unfold stepS
 generalize hm' : pointV m side = m' at hst
 have hsum := add_sum m.g side
 cases hst with
 | no hw hi =>
  rw [hg, decide_eq_false (by rw [hw]; omega)]
  exact ⟨rfl, .inl hi, hc⟩
 | game hw he hp hi =>
  rw [hg, decide_eq_true hw, ends_eq h hs hw, he]
  refine ⟨by rw [(next_spot _).1]; rfl, rch_next hi ?_⟩
  show ((m.gs ++ [gameG m side]).length : Int) = sumP m.st + ((addV m.g side).1 + (addV m.g side).2)
  rw [List.length_append, List.length_singleton, hsum]
  have : (m.gs.length : Int) = sumP m.st + (m.g.1 + m.g.2) := hc
  omega
 | set hw he hl ho hp hi =>
  rw [hg, decide_eq_true hw, ends_eq h hs hw, he]
  refine ⟨by rw [(next_spot _).1]; rfl, rch_next hi ?_⟩
  show ((m.gs ++ [gameG m side]).length : Int) = sumP (m.st ++ [addV m.g side]) + (0 + 0)
  rw [List.length_append, List.length_singleton, sumP_app, hsum]
  have : (m.gs.length : Int) = sumP m.st + (m.g.1 + m.g.2) := hc
  omega
 | over hw he hl ho =>
  rw [hg, decide_eq_true hw, ends_eq h hs hw, he]
  have hwn : wonV (m.st ++ [addV m.g side]) = addV m.won side := by rw [wonV_app, wside_eq hs hl, h.won]
  refine ⟨rfl, .inr ⟨⟨hs, rfl⟩, ?_, ?_⟩, ?_⟩
  ·
   show max (wonV (m.st ++ [addV m.g side])).1 (wonV (m.st ++ [addV m.g side])).2 = m.f.sets
   rw [hwn]; exact ho
  ·
   show side = winS m.f ⟨m.first, m.st ++ [addV m.g side], (0, 0), (0, 0)⟩
   have hws := h.ws
   unfold winS
   dsimp only
   rw [hwn]
   rcases hs with rfl | rfl
   ·
    rw [add_0] at ho ⊢
    dsimp only at ho ⊢
    rw [decide_eq_true (by omega)]; rfl
   ·
    rw [add_1] at ho ⊢
    dsimp only at ho ⊢
    rw [decide_eq_false (by omega), decide_eq_true (by omega)]; rfl
  ·
   show ((m.gs ++ [gameG m side]).length : Int) = sumP (m.st ++ [addV m.g side]) + (0 + 0)
   rw [List.length_append, List.length_singleton, sumP_app, hsum]
   have : (m.gs.length : Int) = sumP m.st + (m.g.1 + m.g.2) := hc
   omega
theorem playTo_rch {f : Fmt} {first : Int} {xs : List Int} (hf : f.Ok) : ∀ {k : Nat} {m : MS}, playTo f first xs k = some m → Rch m
 | 0, m, h => by
  simp only [playTo, Option.some.injEq] at h
  subst h
  exact rch_begin hf first
 | k + 1, m, h => by
  rw [playTo] at h
  cases h1 : playTo f first xs k with
  | none => rw [h1] at h; cases h
  | some m0 =>
   cases h2 : xs[k]? with
   | none => rw [h1, h2] at h; cases h
   | some s =>
    rw [h1, h2] at h
    dsimp only at h
    have hr := playTo_rch hf h1
    have hmf := (playTo_inv hf h1).1
    cases hb : sideBad s || decide (0 ≤ m0.winner)
    ·
     rw [hb] at h
     obtain rfl := Option.some.inj h
     simp only [Bool.or_eq_false_iff, decide_eq_false_iff_not] at hb
     have hs : s = 0 ∨ s = 1 := by
      have := hb.1
      unfold sideBad at this
      simp only [Bool.and_eq_false_iff, Bool.not_eq_false', decide_eq_true_eq] at this
      omega
     rcases hr.inv with hi | ⟨hd, _⟩
     ·
      exact (spot_step (hmf ▸ hf) hi hr.cnt hs).2
     ·
      have := hd.w; omega
    ·
     rw [hb] at h; cases h
theorem rch_win {m : MS} (h : Rch m) : m.winner = winS m.f (spotOf m) := by
 rcases h.inv with hi | ⟨_, _, hw⟩
 ·
  have := hi.ws
  rw [hi.won] at this
  rw [hi.w, winS, decide_eq_false (show ¬ (wonV (spotOf m).st).1 = m.f.sets by show ¬ (wonV m.st).1 = _; omega), decide_eq_false (show ¬ (wonV (spotOf m).st).2 = m.f.sets by show ¬ (wonV m.st).2 = _; omega)]; rfl
 ·
  exact hw
theorem rch_srv {m : MS} (hfs : 0 ≤ m.first ∧ m.first ≤ 1) (h : Rch m) : m.server = srvS m.f (spotOf m) := by
 rcases h.inv with hi | ⟨hd, ht, _⟩
 ·
  rw [srvS, inv_top hi, cond_false, hi.sv]
  have ht : tieS m.f (spotOf m) = m.tie := by rw [hi.ta, hi.won]; rfl
  have hc : (cntS (spotOf m)).toNat = m.gs.length := by rw [← h.cnt, Int.toNat_natCast]
  rw [ht, hc]
  refine (serv_eq hfs hi.tl rfl ?_).symm
  have := hi.p0
  show 0 ≤ m.p.1 + m.p.2
  omega
 ·
  rw [srvS, decide_eq_true (show topS (spotOf m) = m.f.sets from ht), cond_true]; exact hd.sv
end Go.Proofs.YthkliiifllhacaaGreat

namespace Go.Proofs.YthkliiifllhacaaGreat
open Go Go.RowKit

abbrev Mn := Int × Int × Int
abbrev En := Spot × Mn
def joinE (a b : Mn) : Mn := (min a.1 b.1, max a.2.1 b.2.1, min a.2.2 b.2.2)
def putC : List En → En → List En
 | [], e => [e]
 | x :: l, e => if x.1 = e.1 then (x.1, joinE x.2 e.2) :: l else x :: putC l e
def normC (l : List En) : List En := l.foldl putC []
def getC (l : List En) (s : Spot) : Option Mn := (l.find? fun e => decide (e.1 = s)).map (·.2)
def joinO (a b : Option Mn) : Option Mn := match a, b with
 | none, b => b
 | some x, none => some x
 | some x, some y => some (joinE x y)
def denC : List En → Spot → Option Mn
 | [], _ => none
 | e :: l, s => if e.1 = s then joinO (some e.2) (denC l s) else denC l s
theorem joinE_comm (a b : Mn) : joinE a b = joinE b a := Prod.ext (by simp only [joinE]; omega) (Prod.ext (by simp only [joinE]; omega) (by simp only [joinE]; omega))
theorem joinE_assoc (a b c : Mn) : joinE (joinE a b) c = joinE a (joinE b c) := Prod.ext (by simp only [joinE]; omega) (Prod.ext (by simp only [joinE]; omega) (by simp only [joinE]; omega))
theorem joinO_none (a : Option Mn) : joinO a none = a := by cases a <;> rfl
theorem joinO_comm (a b : Option Mn) : joinO a b = joinO b a := by
 cases a <;> cases b <;> simp only [joinO, joinE_comm]
theorem joinO_assoc (a b c : Option Mn) : joinO (joinO a b) c = joinO a (joinO b c) := by
 cases a <;> cases b <;> cases c <;> simp only [joinO, joinE_assoc]
theorem den_perm {l l' : List En} (h : l.Perm l') (s : Spot) : denC l s = denC l' s := by
 induction h with
 | nil => rfl
 | cons x _ ih => rw [denC, denC, ih]
 | swap x y l =>
  simp only [denC]
  by_cases h1 : x.1 = s <;> by_cases h2 : y.1 = s
  ·
   simp only [if_pos h1, if_pos h2]
   rw [← joinO_assoc, ← joinO_assoc, joinO_comm (some y.2)]
  ·
   simp only [if_pos h1, if_neg h2]
  ·
   simp only [if_neg h1, if_pos h2]
  ·
   simp only [if_neg h1, if_neg h2]
 | trans _ _ ih1 ih2 => rw [ih1, ih2]
theorem get_nil (s : Spot) : getC [] s = none := rfl
theorem get_cons (x : En) (l : List En) (s : Spot) : getC (x :: l) s = if x.1 = s then some x.2 else getC l s := by
 unfold getC
 rw [List.find?_cons]
 by_cases h : x.1 = s
 ·
  rw [decide_eq_true h, if_pos h]; rfl
 ·
  rw [decide_eq_false h, if_neg h]
theorem get_put (l : List En) (e : En) (s : Spot) : getC (putC l e) s = if e.1 = s then joinO (getC l s) (some e.2) else getC l s := by
 induction l with
 | nil => rw [putC, get_cons, get_nil]; rfl
 | cons x l ih =>
  rw [putC]
  by_cases hx : x.1 = e.1
  ·
   rw [if_pos hx, get_cons, get_cons]
   by_cases he : e.1 = s
   ·
    rw [if_pos (hx.trans he), if_pos he, if_pos (hx.trans he)]; rfl
   ·
    rw [if_neg (fun h => he (hx ▸ h)), if_neg he, if_neg (fun h => he (hx ▸ h))]
  ·
   rw [if_neg hx, get_cons, get_cons, ih]
   by_cases he : e.1 = s
   ·
    have hs : ¬ x.1 = s := fun h => hx (h.trans he.symm)
    simp only [if_pos he, if_neg hs]
   ·
    simp only [if_neg he]
theorem get_fold (l acc : List En) (s : Spot) : getC (l.foldl putC acc) s = joinO (getC acc s) (denC l s) := by
 induction l generalizing acc with
 | nil => rw [List.foldl_nil, denC, joinO_none]
 | cons e l ih =>
  rw [List.foldl_cons, ih, get_put, denC]
  by_cases h : e.1 = s
  ·
   rw [if_pos h, if_pos h, joinO_assoc]
  ·
   rw [if_neg h, if_neg h]
theorem get_norm (l : List En) (s : Spot) : getC (normC l) s = denC l s := by
 rw [normC, get_fold, get_nil]; rfl
def Keys (l : List En) : Prop := (l.map (·.1)).Nodup
theorem put_keys {l : List En} (e : En) (s : Spot) : s ∈ (putC l e).map (·.1) ↔ s ∈ l.map (·.1) ∨ s = e.1 := by
 induction l with
 | nil => simp [putC]
 | cons x l ih =>
  rw [putC]
  by_cases hx : x.1 = e.1
  ·
   rw [if_pos hx]
   simp only [List.map_cons, List.mem_cons]
   constructor
   ·
    exact fun h => .inl h
   ·
    rintro (h | h)
    ·
     exact h
    ·
     exact .inl (h.trans hx.symm)
  ·
   rw [if_neg hx]
   simp only [List.map_cons, List.mem_cons, ih]
   constructor
   ·
    rintro (h | h | h)
    ·
     exact .inl (.inl h)
    ·
     exact .inl (.inr h)
    ·
     exact .inr h
   ·
    rintro ((h | h) | h)
    ·
     exact .inl h
    ·
     exact .inr (.inl h)
    ·
     exact .inr (.inr h)
theorem put_nodup {l : List En} (e : En) (h : Keys l) : Keys (putC l e) := by
 induction l with
 | nil => unfold Keys putC; simp
 | cons x l ih =>
  unfold Keys at h ⊢
  rw [List.map_cons, List.nodup_cons] at h
  rw [putC]
  by_cases hx : x.1 = e.1
  ·
   rw [if_pos hx, List.map_cons, List.nodup_cons]; exact h
  ·
   rw [if_neg hx, List.map_cons, List.nodup_cons]
   refine ⟨fun hm => ?_, ih h.2⟩
   rcases (put_keys e x.1).1 hm with h1 | h1
   ·
    exact h.1 h1
   ·
    exact hx h1
theorem norm_nodup (l : List En) : Keys (normC l) := by
 have : ∀ (l acc : List En), Keys acc → Keys (l.foldl putC acc) := fun l => by
  induction l with
  | nil => exact fun acc h => h
  | cons e l ih => exact fun acc h => ih _ (put_nodup e h)
 exact this l [] List.nodup_nil
theorem mem_get {l : List En} (h : Keys l) (e : En) : e ∈ l ↔ getC l e.1 = some e.2 := by
 induction l with
 | nil => simp [getC]
 | cons x l ih =>
  unfold Keys at h
  rw [List.map_cons, List.nodup_cons] at h
  rw [get_cons, List.mem_cons, ih h.2]
  by_cases hx : x.1 = e.1
  ·
   rw [if_pos hx]
   constructor
   ·
    rintro (h1 | h1)
    ·
     rw [h1]
    ·
     exfalso
     have : e ∈ l := (ih h.2).2 h1
     exact h.1 (hx ▸ List.mem_map.2 ⟨e, this, rfl⟩)
   ·
    exact fun h1 => .inl (Prod.ext hx.symm (Option.some.inj h1).symm)
  ·
   rw [if_neg hx]
   constructor
   ·
    rintro (h1 | h1)
    ·
     exact absurd (congrArg Prod.fst h1).symm hx
    ·
     exact h1
   ·
    exact fun h1 => .inr h1
theorem keys_nodup {l : List En} (h : Keys l) : l.Nodup := by
 induction l with
 | nil => exact List.nodup_nil
 | cons x l ih =>
  unfold Keys at h
  rw [List.map_cons, List.nodup_cons] at h
  exact List.nodup_cons.2 ⟨fun hm => h.1 (List.mem_map.2 ⟨x, hm, rfl⟩), ih h.2⟩
theorem perm_of_get {l l' : List En} (h : Keys l) (h' : Keys l') (hg : ∀ s, getC l s = getC l' s) : l.Perm l' :=
 (List.perm_ext_iff_of_nodup (keys_nodup h) (keys_nodup h')).2 fun e => by rw [mem_get h, mem_get h', hg]
theorem norm_perm {l l' : List En} (h : l.Perm l') : (normC l).Perm (normC l') :=
 perm_of_get (norm_nodup l) (norm_nodup l') fun s => by rw [get_norm, get_norm, den_perm h]

def upE (e : En) (s : Spot) : En := (s, (e.2.1 + 1, e.2.2.1 + 1, e.2.2.2))
def goE (f : Fmt) (side : Int) (e : En) (p : Int) : List En := if side = -1 ∨ side = p then (match nxtS f e.1 p with | some s => [upE e s] | none => []) else []
def stepI (f : Fmt) (l : List En) (side : Int) : List En := l.flatMap fun e => goE f side e 0 ++ goE f side e 1
def stepC (f : Fmt) (l : List En) (side : Int) : List En := normC (stepI f l side)
def iterC (f : Fmt) (l : List En) : Nat → List En
 | 0 => l
 | k + 1 => stepC f (iterC f l k) (-1)
def missI (f : Fmt) (l : List En) (a : Int) : Nat → List En
 | 0 => []
 | k + 1 => missI f l a k ++ (if a ≤ (k : Int) then iterC f l k else [])
def missC (f : Fmt) (l : List En) (a : Int) (b : Nat) : List En := normC (missI f l a (b + 1))
theorem step_perm (f : Fmt) {l l' : List En} (side : Int) (h : l.Perm l') : (stepC f l side).Perm (stepC f l' side) := norm_perm (h.flatMap_right _)
theorem iter_perm (f : Fmt) {l l' : List En} (h : l.Perm l') : ∀ k, (iterC f l k).Perm (iterC f l' k)
 | 0 => h
 | k + 1 => step_perm f (-1) (iter_perm f h k)
theorem missI_perm (f : Fmt) {l l' : List En} (a : Int) (h : l.Perm l') : ∀ k, (missI f l a k).Perm (missI f l' a k)
 | 0 => .refl _
 | k + 1 => by
  rw [missI, missI]
  refine (missI_perm f a h k).append ?_
  by_cases ha : a ≤ (k : Int)
  ·
   rw [if_pos ha, if_pos ha]; exact iter_perm f h k
  ·
   rw [if_neg ha, if_neg ha]
theorem miss_perm (f : Fmt) {l l' : List En} (a : Int) (b : Nat) (h : l.Perm l') : (missC f l a b).Perm (missC f l' a b) := norm_perm (missI_perm f a h _)
structure Nt where
 (kind side : Int) (pair : Pr)
def holdS (f : Fmt) (x : Nt) (s : Spot) : Bool :=
 bif decide (x.kind = 3) then decide (s.p = x.pair) else bif decide (x.kind = 4) then decide (s.g = x.pair) && decide (s.p = (0, 0)) else
 bif decide (x.kind = 5) then decide (wonV s.st = x.pair) && (decide (s.g = (0, 0)) && decide (s.p = (0, 0))) else
 bif decide (x.kind = 6) then decide (0 ≤ srvS f s) && decide (srvS f s % 2 = x.side) else decide (winS f s = x.side)
def testC (f : Fmt) (x : Nt) (l : List En) : List En := l.filter fun e => holdS f x e.1
def afterC (f : Fmt) (l : List En) (x : Nt) : List En :=
 if x.kind = 1 then stepC f l x.side else if x.kind = 2 then missC f l x.pair.1 x.pair.2.toNat else testC f x l
theorem after_perm (f : Fmt) {l l' : List En} (x : Nt) (h : l.Perm l') : (afterC f l x).Perm (afterC f l' x) := by
 unfold afterC
 by_cases h1 : x.kind = 1
 ·
  rw [if_pos h1, if_pos h1]; exact step_perm f _ h
 ·
  rw [if_neg h1, if_neg h1]
  by_cases h2 : x.kind = 2
  ·
   rw [if_pos h2, if_pos h2]; exact miss_perm f _ _ h
  ·
   rw [if_neg h2, if_neg h2]; exact h.filter _
end Go.Proofs.YthkliiifllhacaaGreat

namespace Go.Proofs.YthkliiifllhacaaGreat
open Go Go.RowKit

def keyC (l : List En) : List Spot := l.map (·.1)
theorem norm_mem (l : List En) (s : Spot) : s ∈ keyC (normC l) ↔ s ∈ keyC l := by
 have : ∀ (l acc : List En), s ∈ keyC (l.foldl putC acc) ↔ s ∈ keyC acc ∨ s ∈ keyC l := fun l => by
  induction l with
  | nil => intro acc; simp [keyC]
  | cons e l ih =>
   intro acc
   rw [List.foldl_cons, ih]
   show s ∈ (putC acc e).map (·.1) ∨ s ∈ keyC l ↔ s ∈ keyC acc ∨ s ∈ (e :: l).map (·.1)
   rw [put_keys, List.map_cons, List.mem_cons]
   constructor
   ·
    rintro ((h | h) | h)
    ·
     exact .inl h
    ·
     exact .inr (.inl h)
    ·
     exact .inr (.inr h)
   ·
    rintro (h | h | h)
    ·
     exact .inl (.inl h)
    ·
     exact .inl (.inr h)
    ·
     exact .inr h
 rw [normC, this]
 simp [keyC]
def Pt (f : Fmt) (side : Int) (t s : Spot) : Prop := ∃ p : Int, (p = 0 ∨ p = 1) ∧ (side = -1 ∨ side = p) ∧ nxtS f t p = some s
def Pts (f : Fmt) (t : Spot) : Nat → Spot → Prop
 | 0, s => t = s
 | k + 1, s => ∃ u, Pts f t k u ∧ Pt f (-1) u s
def Rel (f : Fmt) (x : Nt) (t s : Spot) : Prop :=
 if x.kind = 1 then Pt f x.side t s else if x.kind = 2 then ∃ k : Nat, k ≤ x.pair.2.toNat ∧ x.pair.1 ≤ (k : Int) ∧ Pts f t k s else t = s ∧ holdS f x s = true
theorem go_mem {f : Fmt} {side : Int} {e : En} {p : Int} {s : Spot} : s ∈ keyC (goE f side e p) ↔ (side = -1 ∨ side = p) ∧ nxtS f e.1 p = some s := by
 unfold goE
 by_cases h : side = -1 ∨ side = p
 ·
  rw [if_pos h]
  cases hn : nxtS f e.1 p with
  | none => simp [keyC]
  | some t =>
   simp only [keyC, upE, List.map_cons, List.map_nil, List.mem_singleton, h, true_and, Option.some.injEq]
   exact ⟨fun h => h.symm, fun h => h.symm⟩
 ·
  rw [if_neg h]; simp [keyC, h]
theorem step_mem {f : Fmt} {l : List En} {side : Int} {s : Spot} : s ∈ keyC (stepC f l side) ↔ ∃ t ∈ keyC l, Pt f side t s := by
 rw [stepC, norm_mem]
 unfold stepI
 simp only [keyC, List.map_flatMap, List.mem_flatMap, List.map_append, List.mem_append]
 constructor
 ·
  rintro ⟨e, he, h | h⟩
  ·
   exact ⟨e.1, List.mem_map.2 ⟨e, he, rfl⟩, 0, .inl rfl, go_mem.1 h⟩
  ·
   exact ⟨e.1, List.mem_map.2 ⟨e, he, rfl⟩, 1, .inr rfl, go_mem.1 h⟩
 ·
  rintro ⟨t, ht, p, hp, h⟩
  obtain ⟨e, he, rfl⟩ := List.mem_map.1 ht
  rcases hp with rfl | rfl
  ·
   exact ⟨e, he, .inl (go_mem.2 h)⟩
  ·
   exact ⟨e, he, .inr (go_mem.2 h)⟩
theorem iter_mem {f : Fmt} {l : List En} : ∀ {k : Nat} {s : Spot}, s ∈ keyC (iterC f l k) ↔ ∃ t ∈ keyC l, Pts f t k s
 | 0, s => ⟨fun h => ⟨s, h, rfl⟩, fun ⟨t, ht, h⟩ => by cases h; exact ht⟩
 | k + 1, s => by
  rw [iterC, step_mem]
  constructor
  ·
   rintro ⟨u, hu, h⟩
   obtain ⟨t, ht, h'⟩ := iter_mem.1 hu
   exact ⟨t, ht, u, h', h⟩
  ·
   rintro ⟨t, ht, u, h', h⟩
   exact ⟨u, iter_mem.2 ⟨t, ht, h'⟩, h⟩
theorem missI_mem {f : Fmt} {l : List En} {a : Int} {s : Spot} : ∀ {n : Nat}, s ∈ keyC (missI f l a n) ↔ ∃ k : Nat, k < n ∧ a ≤ (k : Int) ∧ ∃ t ∈ keyC l, Pts f t k s
 | 0 => ⟨fun h => by simp [keyC, missI] at h, fun ⟨k, h, _⟩ => by omega⟩
 | n + 1 => by
  have : keyC (missI f l a (n + 1)) = keyC (missI f l a n) ++ keyC (if a ≤ (n : Int) then iterC f l n else []) := by rw [missI]; simp [keyC]
  rw [this, List.mem_append, missI_mem]
  constructor
  ·
   rintro (⟨k, h1, h2⟩ | h)
   ·
    exact ⟨k, by omega, h2⟩
   ·
    by_cases ha : a ≤ (n : Int)
    ·
     rw [if_pos ha] at h
     exact ⟨n, by omega, ha, iter_mem.1 h⟩
    ·
     rw [if_neg ha] at h; simp [keyC] at h
  ·
   rintro ⟨k, h1, h2, h3⟩
   by_cases e : k = n
   ·
    subst e
    rw [if_pos h2]
    exact .inr (iter_mem.2 h3)
   ·
    exact .inl ⟨k, by omega, h2, h3⟩
theorem after_mem {f : Fmt} {l : List En} {x : Nt} {s : Spot} : s ∈ keyC (afterC f l x) ↔ ∃ t ∈ keyC l, Rel f x t s := by
 unfold afterC Rel
 by_cases h1 : x.kind = 1
 ·
  simp only [if_pos h1]; exact step_mem
 ·
  simp only [if_neg h1]
  by_cases h2 : x.kind = 2
  ·
   simp only [if_pos h2]
   rw [missC, norm_mem, missI_mem]
   constructor
   ·
    rintro ⟨k, hk, ha, t, ht, h⟩
    exact ⟨t, ht, k, by omega, ha, h⟩
   ·
    rintro ⟨t, ht, k, hk, ha, h⟩
    exact ⟨k, by omega, ha, t, ht, h⟩
  ·
   simp only [if_neg h2]
   constructor
   ·
    intro h
    obtain ⟨e, he, rfl⟩ := List.mem_map.1 h
    obtain ⟨h3, h4⟩ := List.mem_filter.1 he
    exact ⟨e.1, List.mem_map.2 ⟨e, h3, rfl⟩, rfl, h4⟩
   ·
    rintro ⟨t, ht, rfl, h⟩
    obtain ⟨e, he, rfl⟩ := List.mem_map.1 ht
    exact List.mem_map.2 ⟨e, List.mem_filter.2 ⟨he, h⟩, rfl⟩

def begC (first : Int) : List En := (if first = -1 ∨ first = 0 then [(⟨0, [], (0, 0), (0, 0)⟩, (0, 0, 0))] else []) ++ (if first = -1 ∨ first = 1 then [(⟨1, [], (0, 0), (0, 0)⟩, (0, 0, 0))] else [])
def crowdC (f : Fmt) (first : Int) (xs : List Nt) : List En := xs.foldl (afterC f) (begC first)
theorem crowd_succ (f : Fmt) (first : Int) {xs : List Nt} {k : Nat} {x : Nt} (h : xs[k]? = some x) : crowdC f first (xs.take (k + 1)) = afterC f (crowdC f first (xs.take k)) x := by
 unfold crowdC
 rw [List.take_add_one, h, List.foldl_append]; rfl
def Lft (f : Fmt) (first : Int) (xs : List Nt) : Nat → Nat → Spot → Prop
 | 0, k, s => k = 0 ∧ s ∈ keyC (begC first)
 | j + 1, k, s => (∃ x t, xs[j]? = some x ∧ Lft f first xs j k t ∧ Rel f x t s) ∨ ∃ k', k = k' + 1 ∧ Lft f first xs j k' s
theorem lft_le {f : Fmt} {first : Int} {xs : List Nt} : ∀ {j k : Nat} {s : Spot}, Lft f first xs j k s → k ≤ j
 | 0, k, s, h => by have := h.1; omega
 | j + 1, k, s, h => by
  rcases h with ⟨_, _, _, h, _⟩ | ⟨k', rfl, h⟩
  ·
   have := lft_le h; omega
  ·
   have := lft_le h; omega
end Go.Proofs.YthkliiifllhacaaGreat

namespace Go.Proofs.YthkliiifllhacaaGreat
open Go Go.RowKit

def Mo (l : List En) (R : Int → Spot → Prop) : Prop := (∀ e ∈ l, R e.2.2.2 e.1) ∧ ∀ n s, R n s → ∃ e ∈ l, e.1 = s ∧ e.2.2.2 ≤ n
theorem Mo.iff {l : List En} {R R' : Int → Spot → Prop} (h : Mo l R) (hi : ∀ n s, R n s ↔ R' n s) : Mo l R' := ⟨fun e he => (hi _ _).1 (h.1 e he), fun n s hr => h.2 n s ((hi _ _).2 hr)⟩
theorem den_out {l : List En} {s : Spot} {v : Mn} (h : denC l s = some v) : (∃ e ∈ l, e.1 = s ∧ e.2.2.2 = v.2.2) ∧ ∀ e ∈ l, e.1 = s → v.2.2 ≤ e.2.2.2 := by
 induction l generalizing v with
 | nil => cases h
 | cons e l ih =>
  rw [denC] at h
  by_cases he : e.1 = s
  ·
   rw [if_pos he] at h
   cases hd : denC l s with
   | none =>
    rw [hd] at h
    have hv : e.2 = v := Option.some.inj h
    subst hv
    refine ⟨⟨e, List.mem_cons_self, he, rfl⟩, fun e' he' hs => ?_⟩
    rcases List.mem_cons.1 he' with rfl | hm
    ·
     exact Int.le_refl _
    ·
     exfalso
     have : ∀ l : List En, e' ∈ l → e'.1 = s → denC l s ≠ none := fun l => by
      induction l with
      | nil => intro h; cases h
      | cons y l ih2 =>
       intro hy hs2 hn
       rw [denC] at hn
       by_cases h3 : y.1 = s
       ·
        rw [if_pos h3] at hn
        cases hq : denC l s <;> rw [hq] at hn <;> cases hn
       ·
        rw [if_neg h3] at hn
        rcases List.mem_cons.1 hy with rfl | hy
        ·
         exact h3 hs2
        ·
         exact ih2 hy hs2 hn
     exact this l hm hs hd
   | some u =>
    rw [hd] at h
    have hv : joinE e.2 u = v := Option.some.inj h
    subst hv
    obtain ⟨⟨e1, h1, h2, h3⟩, h4⟩ := ih hd
    have hj : (joinE e.2 u).2.2 = min e.2.2.2 u.2.2 := rfl
    rw [hj]
    refine ⟨?_, fun e' he' hs => ?_⟩
    ·
     by_cases hle : e.2.2.2 ≤ u.2.2
     ·
      exact ⟨e, List.mem_cons_self, he, by omega⟩
     ·
      exact ⟨e1, List.mem_cons_of_mem _ h1, h2, by omega⟩
    ·
     rcases List.mem_cons.1 he' with rfl | hm
     ·
      omega
     ·
      have := h4 e' hm hs; omega
  ·
   rw [if_neg he] at h
   obtain ⟨⟨e1, h1, h2, h3⟩, h4⟩ := ih h
   refine ⟨⟨e1, List.mem_cons_of_mem _ h1, h2, h3⟩, fun e' he' hs => ?_⟩
   rcases List.mem_cons.1 he' with rfl | hm
   ·
    exact absurd hs he
   ·
    exact h4 e' hm hs
theorem den_mem {l : List En} {s : Spot} (h : s ∈ keyC l) : ∃ v, denC l s = some v := by
 have := (norm_mem l s).2 h
 obtain ⟨e, he, rfl⟩ := List.mem_map.1 this
 exact ⟨e.2, by rw [← get_norm]; exact (mem_get (norm_nodup l) e).1 he⟩
theorem Mo.of_den {l l' : List En} {R : Int → Spot → Prop} (h : Mo l R) (hk : Keys l') (hg : ∀ s, getC l' s = denC l s) : Mo l' R := by
 refine ⟨fun e he => ?_, fun n s hr => ?_⟩
 ·
  have := (mem_get hk e).1 he
  rw [hg] at this
  obtain ⟨⟨e1, h1, h2, h3⟩, _⟩ := den_out this
  have := h.1 e1 h1
  rwa [h2, h3] at this
 ·
  obtain ⟨e, he, hs, hn⟩ := h.2 n s hr
  obtain ⟨v, hv⟩ := den_mem (List.mem_map.2 ⟨e, he, hs⟩)
  have h4 := (den_out hv).2 e he hs
  exact ⟨(s, v), (mem_get hk (s, v)).2 (by rw [hg]; exact hv), rfl, by show v.2.2 ≤ n; omega⟩
theorem Mo.norm {l : List En} {R : Int → Spot → Prop} (h : Mo l R) : Mo (normC l) R := h.of_den (norm_nodup l) (get_norm l)
theorem Mo.app {l l' : List En} {R R' : Int → Spot → Prop} (h : Mo l R) (h' : Mo l' R') : Mo (l ++ l') (fun n s => R n s ∨ R' n s) := by
 refine ⟨fun e he => ?_, fun n s hr => ?_⟩
 ·
  rcases List.mem_append.1 he with he | he
  ·
   exact .inl (h.1 e he)
  ·
   exact .inr (h'.1 e he)
 ·
  rcases hr with hr | hr
  ·
   obtain ⟨e, he, h2⟩ := h.2 n s hr
   exact ⟨e, List.mem_append_left _ he, h2⟩
  ·
   obtain ⟨e, he, h2⟩ := h'.2 n s hr
   exact ⟨e, List.mem_append_right _ he, h2⟩
theorem go_out {f : Fmt} {side : Int} {e : En} {p : Int} {u : En} : u ∈ goE f side e p ↔ (side = -1 ∨ side = p) ∧ nxtS f e.1 p = some u.1 ∧ u = upE e u.1 := by
 unfold goE
 by_cases h : side = -1 ∨ side = p
 ·
  rw [if_pos h]
  cases hn : nxtS f e.1 p with
  | none => simp
  | some t =>
   simp only [List.mem_singleton, h, true_and, Option.some.injEq]
   constructor
   ·
    rintro rfl; exact ⟨rfl, rfl⟩
   ·
    rintro ⟨rfl, h2⟩; exact h2
 ·
  rw [if_neg h]; simp [h]
theorem Mo.step {f : Fmt} {l : List En} {R : Int → Spot → Prop} (side : Int) (h : Mo l R) : Mo (stepC f l side) (fun n s => ∃ t, R n t ∧ Pt f side t s) := by
 refine Mo.norm ⟨fun u hu => ?_, fun n s hr => ?_⟩
 ·
  obtain ⟨e, he, hu⟩ := List.mem_flatMap.1 hu
  rcases List.mem_append.1 hu with hu | hu
  ·
   obtain ⟨h1, h2, h3⟩ := go_out.1 hu
   exact ⟨e.1, by rw [h3]; exact h.1 e he, 0, .inl rfl, h1, h2⟩
  ·
   obtain ⟨h1, h2, h3⟩ := go_out.1 hu
   exact ⟨e.1, by rw [h3]; exact h.1 e he, 1, .inr rfl, h1, h2⟩
 ·
  obtain ⟨t, ht, p, hp, hsd, hn⟩ := hr
  obtain ⟨e, he, rfl, hle⟩ := h.2 n t ht
  refine ⟨upE e s, List.mem_flatMap.2 ⟨e, he, ?_⟩, rfl, hle⟩
  rcases hp with rfl | rfl
  ·
   exact List.mem_append_left _ (go_out.2 ⟨hsd, hn, rfl⟩)
  ·
   exact List.mem_append_right _ (go_out.2 ⟨hsd, hn, rfl⟩)
theorem Mo.iter {f : Fmt} {l : List En} {R : Int → Spot → Prop} (h : Mo l R) : ∀ k, Mo (iterC f l k) (fun n s => ∃ t, R n t ∧ Pts f t k s)
 | 0 => h.iff fun n s => ⟨fun hr => ⟨s, hr, rfl⟩, fun ⟨t, hr, ht⟩ => by cases ht; exact hr⟩
 | k + 1 => ((h.iter k).step (-1)).iff fun n s => ⟨fun ⟨u, ⟨t, hr, hp⟩, h2⟩ => ⟨t, hr, u, hp, h2⟩, fun ⟨t, hr, u, hp, h2⟩ => ⟨u, ⟨t, hr, hp⟩, h2⟩⟩
theorem Mo.nil : Mo [] (fun _ _ => False) := ⟨fun e he => (by cases he), fun n s h => h.elim⟩
theorem Mo.missI {f : Fmt} {l : List En} {R : Int → Spot → Prop} (a : Int) (h : Mo l R) : ∀ n, Mo (missI f l a n) (fun m s => ∃ t, R m t ∧ ∃ k : Nat, k < n ∧ a ≤ (k : Int) ∧ Pts f t k s)
 | 0 => Mo.nil.iff fun m s => ⟨fun h => h.elim, fun ⟨t, _, k, hk, _⟩ => by omega⟩
 | n + 1 => by
  unfold Go.Proofs.YthkliiifllhacaaGreat.missI
  by_cases ha : a ≤ (n : Int)
  ·
   rw [if_pos ha]
   refine ((h.missI a n).app (h.iter (f := f) n)).iff fun m s => ⟨?_, ?_⟩
   ·
    rintro (⟨t, hr, k, hk, h2⟩ | ⟨t, hr, hp⟩)
    ·
     exact ⟨t, hr, k, by omega, h2⟩
    ·
     exact ⟨t, hr, n, by omega, ha, hp⟩
   ·
    rintro ⟨t, hr, k, hk, h2, h3⟩
    by_cases e : k = n
    ·
     subst e; exact .inr ⟨t, hr, h3⟩
    ·
     exact .inl ⟨t, hr, k, by omega, h2, h3⟩
  ·
   rw [if_neg ha, List.append_nil]
   refine (h.missI a n).iff fun m s => ⟨?_, ?_⟩
   ·
    rintro ⟨t, hr, k, hk, h2⟩
    exact ⟨t, hr, k, by omega, h2⟩
   ·
    rintro ⟨t, hr, k, hk, h2, h3⟩
    exact ⟨t, hr, k, by by_cases e : k = n; (subst e; exact absurd h2 ha); omega, h2, h3⟩
theorem Mo.after {f : Fmt} {l : List En} {R : Int → Spot → Prop} (x : Nt) (h : Mo l R) : Mo (afterC f l x) (fun n s => ∃ t, R n t ∧ Rel f x t s) := by
 unfold afterC
 by_cases h1 : x.kind = 1
 ·
  rw [if_pos h1]
  refine (h.step x.side).iff fun n s => ?_
  unfold Rel; simp only [if_pos h1]
 ·
  rw [if_neg h1]
  by_cases h2 : x.kind = 2
  ·
   rw [if_pos h2]
   refine (h.missI (f := f) x.pair.1 (x.pair.2.toNat + 1)).norm.iff fun n s => ?_
   unfold Rel
   simp only [if_neg h1, if_pos h2]
   constructor
   ·
    rintro ⟨t, hr, k, hk, h3⟩; exact ⟨t, hr, k, by omega, h3⟩
   ·
    rintro ⟨t, hr, k, hk, h3⟩; exact ⟨t, hr, k, by omega, h3⟩
  ·
   rw [if_neg h2]
   refine ⟨fun e he => ?_, fun n s hr => ?_⟩
   ·
    obtain ⟨h3, h4⟩ := List.mem_filter.1 he
    refine ⟨e.1, h.1 e h3, ?_⟩
    unfold Rel; rw [if_neg h1, if_neg h2]; exact ⟨rfl, h4⟩
   ·
    obtain ⟨t, ht, hr⟩ := hr
    unfold Rel at hr; rw [if_neg h1, if_neg h2] at hr
    obtain ⟨rfl, hh⟩ := hr
    obtain ⟨e, he, rfl, hle⟩ := h.2 n t ht
    exact ⟨e, List.mem_filter.2 ⟨he, hh⟩, rfl, hle⟩

end Go.Proofs.YthkliiifllhacaaGreat

namespace Go.Proofs.YthkliiifllhacaaGreat
open Go Go.RowKit

def Run (f : Fmt) (K : Spot → Prop) : List Nt → Spot → Prop
 | [], s => K s
 | x :: xs, s => Run f (fun u => ∃ t, K t ∧ Rel f x t u) xs s
end Go.Proofs.YthkliiifllhacaaGreat

namespace Go.Proofs.YthkliiifllhacaaGreat
open Go Go.RowKit

def brdOf (s : Spot) : Brd := ⟨s.st, s.g, s.p⟩
def orI (a b : Int) : Int := if a ≠ 0 then a else b
def cmpP (a b : Pr) : Int := orI (a.1 - b.1) (a.2 - b.2)
def cmpL : List Pr → List Pr → Int
 | [], [] => 0
 | [], _ :: _ => -1
 | _ :: _, [] => 1
 | a :: l, b :: l' => orI (cmpP a b) (cmpL l l')
def cmpB (a b : Brd) : Int := orI (orI (cmpL a.st b.st) (cmpP a.g b.g)) (cmpP a.p b.p)
theorem cmpP_zero {a b : Pr} : cmpP a b = 0 ↔ a = b := by
 unfold cmpP orI
 constructor
 ·
  intro h
  by_cases h1 : a.1 - b.1 ≠ 0
  ·
   rw [if_pos h1] at h; exact absurd h h1
  ·
   rw [if_neg h1] at h; exact Prod.ext (by omega) (by omega)
 ·
  rintro rfl
  rw [if_neg (by omega)]; omega
theorem cmpL_zero : ∀ {a b : List Pr}, cmpL a b = 0 ↔ a = b
 | [], [] => ⟨fun _ => rfl, fun _ => rfl⟩
 | [], _ :: _ => ⟨fun h => absurd h (by show ¬ (-1 : Int) = 0; decide), fun h => by cases h⟩
 | _ :: _, [] => ⟨fun h => absurd h (by show ¬ (1 : Int) = 0; decide), fun h => by cases h⟩
 | a :: l, b :: l' => by
  rw [cmpL, orI]
  constructor
  ·
   intro h
   by_cases h1 : cmpP a b ≠ 0
   ·
    rw [if_pos h1] at h; exact absurd h h1
   ·
    rw [if_neg h1] at h
    have e := cmpP_zero.1 (show cmpP a b = 0 by omega)
    rw [e, cmpL_zero.1 h]
  ·
   intro h
   obtain ⟨rfl, rfl⟩ := List.cons.inj h
   rw [if_neg (by rw [cmpP_zero.2 rfl]; omega)]
   exact cmpL_zero.2 rfl
theorem orI_zero {a b : Int} : orI a b = 0 ↔ a = 0 ∧ b = 0 := by
 unfold orI
 by_cases h : a ≠ 0
 ·
  rw [if_pos h]; omega
 ·
  rw [if_neg h]; omega
theorem cmpB_zero {a b : Brd} : cmpB a b = 0 ↔ a = b := by
 unfold cmpB
 rw [orI_zero, orI_zero, cmpL_zero, cmpP_zero, cmpP_zero]
 constructor
 ·
  rintro ⟨⟨h1, h2⟩, h3⟩
  cases a; cases b
  cases h1; cases h2; cases h3; rfl
 ·
  rintro rfl; exact ⟨⟨rfl, rfl⟩, rfl⟩
theorem cmpP_neg {a b : Pr} : (cmpP a b < 0 ↔ 0 < cmpP b a) := by
 unfold cmpP orI
 by_cases h : a.1 - b.1 ≠ 0
 ·
  rw [if_pos h, if_pos (by omega)]; omega
 ·
  rw [if_neg h, if_neg (by omega)]; omega
theorem orI_neg {a b a' b' : Int} (h1 : a < 0 ↔ 0 < a') (h2 : 0 < a ↔ a' < 0) (h3 : b < 0 ↔ 0 < b') : orI a b < 0 ↔ 0 < orI a' b' := by
 unfold orI
 by_cases h : a ≠ 0
 ·
  rw [if_pos h, if_pos (by omega)]; exact h1
 ·
  rw [if_neg h, if_neg (by omega)]; exact h3
theorem cmpL_neg : ∀ {a b : List Pr}, cmpL a b < 0 ↔ 0 < cmpL b a
 | [], [] => by decide
 | [], _ :: _ => ⟨fun _ => by show (0 : Int) < 1; decide, fun _ => by show (-1 : Int) < 0; decide⟩
 | _ :: _, [] => ⟨fun h => by exact absurd h (by show ¬ (1 : Int) < 0; decide), fun h => by exact absurd h (by show ¬ (0 : Int) < -1; decide)⟩
 | a :: l, b :: l' => by
  rw [cmpL, cmpL]
  exact orI_neg cmpP_neg (cmpP_neg (a := b) (b := a)).symm cmpL_neg
theorem cmpB_neg {a b : Brd} : cmpB a b < 0 ↔ 0 < cmpB b a := by
 unfold cmpB
 exact orI_neg (orI_neg cmpL_neg (cmpL_neg (a := b.st) (b := a.st)).symm cmpP_neg) (orI_neg (cmpL_neg (a := b.st) (b := a.st)) cmpL_neg.symm (cmpP_neg (a := b.g) (b := a.g))).symm cmpP_neg
theorem cmpP_trans {a b c : Pr} (h1 : cmpP a b < 0) (h2 : cmpP b c < 0) : cmpP a c < 0 := by
 unfold cmpP orI at *
 by_cases e1 : a.1 - b.1 ≠ 0 <;> by_cases e2 : b.1 - c.1 ≠ 0
 ·
  rw [if_pos e1] at h1; rw [if_pos e2] at h2; rw [if_pos (by omega)]; omega
 ·
  rw [if_pos e1] at h1; rw [if_neg e2] at h2; rw [if_pos (by omega)]; omega
 ·
  rw [if_neg e1] at h1; rw [if_pos e2] at h2; rw [if_pos (by omega)]; omega
 ·
  rw [if_neg e1] at h1; rw [if_neg e2] at h2; rw [if_neg (by omega)]; omega
theorem cmpL_trans : ∀ {a b c : List Pr}, cmpL a b < 0 → cmpL b c < 0 → cmpL a c < 0
 | [], [], _, h1, _ => absurd h1 (by show ¬ (0 : Int) < 0; decide)
 | [], _ :: _, [], _, h2 => absurd h2 (by show ¬ (1 : Int) < 0; decide)
 | [], _ :: _, _ :: _, _, _ => by show (-1 : Int) < 0; decide
 | _ :: _, [], _, h1, _ => absurd h1 (by show ¬ (1 : Int) < 0; decide)
 | _ :: _, _ :: _, [], _, h2 => absurd h2 (by show ¬ (1 : Int) < 0; decide)
 | a :: l, b :: m, c :: n, h1, h2 => by
  rw [cmpL, orI] at h1 h2 ⊢
  by_cases e1 : cmpP a b ≠ 0 <;> by_cases e2 : cmpP b c ≠ 0
  ·
   rw [if_pos e1] at h1; rw [if_pos e2] at h2
   have := cmpP_trans h1 h2
   rw [if_pos (by omega)]; exact this
  ·
   rw [if_pos e1] at h1; rw [if_neg e2] at h2
   have e : b = c := cmpP_zero.1 (by omega)
   subst e
   rw [if_pos e1]; exact h1
  ·
   rw [if_neg e1] at h1; rw [if_pos e2] at h2
   have e : a = b := cmpP_zero.1 (by omega)
   subst e
   rw [if_pos e2]; exact h2
  ·
   rw [if_neg e1] at h1; rw [if_neg e2] at h2
   have e : a = b := cmpP_zero.1 (by omega)
   subst e
   rw [if_neg e2]; exact cmpL_trans h1 h2
theorem cmpB_trans {a b c : Brd} (h1 : cmpB a b < 0) (h2 : cmpB b c < 0) : cmpB a c < 0 := by
 unfold cmpB orI at *
 by_cases s1 : cmpL a.st b.st ≠ 0 <;> by_cases s2 : cmpL b.st c.st ≠ 0
 ·
  simp only [if_pos s1] at h1
  simp only [if_pos s2] at h2
  have := cmpL_trans h1 h2
  rw [if_pos (show cmpL a.st c.st ≠ 0 by omega), if_pos (show cmpL a.st c.st ≠ 0 by omega)]; exact this
 ·
  have e : b.st = c.st := cmpL_zero.1 (by omega)
  rw [← e, if_pos s1, if_pos s1]
  rw [if_pos s1, if_pos s1] at h1; exact h1
 ·
  have e : a.st = b.st := cmpL_zero.1 (by omega)
  rw [e, if_pos s2, if_pos s2]
  rw [if_pos s2, if_pos s2] at h2; exact h2
 ·
  have e1 : a.st = b.st := cmpL_zero.1 (by omega)
  rw [if_neg s1] at h1
  rw [if_neg s2] at h2
  rw [e1, if_neg s2]
  by_cases g1 : cmpP a.g b.g ≠ 0 <;> by_cases g2 : cmpP b.g c.g ≠ 0
  ·
   rw [if_pos g1] at h1; rw [if_pos g2] at h2
   have := cmpP_trans h1 h2
   rw [if_pos (by omega)]; exact this
  ·
   rw [if_pos g1] at h1
   have e : b.g = c.g := cmpP_zero.1 (by omega)
   rw [← e, if_pos g1]; exact h1
  ·
   rw [if_pos g2] at h2
   have e : a.g = b.g := cmpP_zero.1 (by omega)
   rw [e, if_pos g2]; exact h2
  ·
   rw [if_neg g1] at h1; rw [if_neg g2] at h2
   have e : a.g = b.g := cmpP_zero.1 (by omega)
   rw [e, if_neg g2]; exact cmpP_trans h1 h2
def SrtB (l : List Brd) : Prop := l.Pairwise fun a b => cmpB a b < 0
end Go.Proofs.YthkliiifllhacaaGreat

namespace Go.Proofs.YthkliiifllhacaaGreat
open Go Go.RowKit

def posB (l : List Brd) (b : Brd) : Nat := l.findIdx fun c => decide (cmpB b c < 0)
def insB (l : List Brd) (b : Brd) : List Brd := if b ∈ l then l else l.take (posB l b) ++ b :: l.drop (posB l b)
theorem cmpB_pos {a b : Brd} (h : ¬ cmpB a b < 0) (hne : a ≠ b) : cmpB b a < 0 := by
 have h0 : cmpB a b ≠ 0 := fun e => hne (cmpB_zero.1 e)
 exact cmpB_neg.2 (by omega)
theorem ins_mem {l : List Brd} {b c : Brd} : c ∈ insB l b ↔ c = b ∨ c ∈ l := by
 unfold insB
 by_cases h : b ∈ l
 ·
  rw [if_pos h]
  exact ⟨.inr, fun hc => hc.elim (fun e => e ▸ h) id⟩
 ·
  rw [if_neg h, List.mem_append, List.mem_cons]
  have : c ∈ l ↔ c ∈ l.take (posB l b) ∨ c ∈ l.drop (posB l b) := by rw [← List.mem_append, List.take_append_drop]
  rw [this]
  constructor
  ·
   rintro (h | h | h)
   ·
    exact .inr (.inl h)
   ·
    exact .inl h
   ·
    exact .inr (.inr h)
  ·
   rintro (h | h | h)
   ·
    exact .inr (.inl h)
   ·
    exact .inl h
   ·
    exact .inr (.inr h)
theorem ins_srt {l : List Brd} {b : Brd} (h : SrtB l) : SrtB (insB l b) := by
 unfold insB
 by_cases hb : b ∈ l
 ·
  rw [if_pos hb]; exact h
 ·
  rw [if_neg hb]
  have hspl : SrtB (l.take (posB l b) ++ l.drop (posB l b)) := by rw [List.take_append_drop]; exact h
  obtain ⟨h1, h2, h3⟩ := List.pairwise_append.1 hspl
  have hlo : ∀ c ∈ l.take (posB l b), cmpB c b < 0 := fun c hc => by
   obtain ⟨i, hi, rfl⟩ := List.getElem_of_mem hc
   rw [List.length_take] at hi
   rw [List.getElem_take]
   have hn := List.not_of_lt_findIdx (p := fun c => decide (cmpB b c < 0)) (xs := l) (i := i) (by unfold posB at hi; omega)
   refine cmpB_pos ?_ fun e => hb (e ▸ List.getElem_mem _)
   simpa using hn
  have hhi : ∀ c ∈ l.drop (posB l b), cmpB b c < 0 := fun c hc => by
   by_cases hp : posB l b < l.length
   ·
    have h0 : cmpB b l[posB l b] < 0 := by
     have := List.findIdx_getElem (p := fun c => decide (cmpB b c < 0)) (xs := l) (w := hp)
     exact of_decide_eq_true this
    rw [List.drop_eq_getElem_cons hp] at hc h2
    rcases List.mem_cons.1 hc with rfl | hc
    ·
     exact h0
    ·
     exact cmpB_trans h0 ((List.pairwise_cons.1 h2).1 c hc)
   ·
    rw [List.drop_eq_nil_of_le (by omega)] at hc; cases hc
  refine List.pairwise_append.2 ⟨h1, List.pairwise_cons.2 ⟨hhi, h2⟩, fun x hx y hy => ?_⟩
  rcases List.mem_cons.1 hy with rfl | hy
  ·
   exact hlo x hx
  ·
   exact h3 x hx y hy
def boardsC (l : List Spot) : List Brd := l.foldl (fun o s => insB o (brdOf s)) []
theorem boards_facts (l : List Spot) : SrtB (boardsC l) ∧ ∀ b, b ∈ boardsC l ↔ ∃ s ∈ l, brdOf s = b := by
 have : ∀ (l : List Spot) (o : List Brd), SrtB o → SrtB (l.foldl (fun o s => insB o (brdOf s)) o) ∧ ∀ b, b ∈ l.foldl (fun o s => insB o (brdOf s)) o ↔ b ∈ o ∨ ∃ s ∈ l, brdOf s = b := fun l => by
  induction l with
  | nil => exact fun o h => ⟨h, fun b => ⟨.inl, fun h => h.elim id fun ⟨_, h, _⟩ => by cases h⟩⟩
  | cons s l ih =>
   intro o h
   rw [List.foldl_cons]
   obtain ⟨h1, h2⟩ := ih (insB o (brdOf s)) (ins_srt h)
   refine ⟨h1, fun b => ?_⟩
   rw [h2, ins_mem]
   constructor
   ·
    rintro ((e | h) | ⟨t, ht, h⟩)
    ·
     exact .inr ⟨s, List.mem_cons_self, e.symm⟩
    ·
     exact .inl h
    ·
     exact .inr ⟨t, List.mem_cons_of_mem _ ht, h⟩
   ·
    rintro (h | ⟨t, ht, h⟩)
    ·
     exact .inl (.inr h)
    ·
     rcases List.mem_cons.1 ht with rfl | ht
     ·
      exact .inl (.inl h.symm)
     ·
      exact .inr ⟨t, ht, h⟩
 obtain ⟨h1, h2⟩ := this l [] List.Pairwise.nil
 exact ⟨h1, fun b => by rw [boardsC, h2]; exact ⟨fun h => h.elim (fun h => by cases h) id, .inr⟩⟩
end Go.Proofs.YthkliiifllhacaaGreat

namespace Go.Proofs.YthkliiifllhacaaGreat
open Go Go.RowKit

def Mm (l : List En) (R : Int → Spot → Prop) : Prop := (∀ e ∈ l, R e.2.1 e.1 ∧ R e.2.2.1 e.1) ∧ ∀ n s, R n s → ∃ e ∈ l, e.1 = s ∧ e.2.1 ≤ n ∧ n ≤ e.2.2.1
theorem Mm.iff {l : List En} {R R' : Int → Spot → Prop} (h : Mm l R) (hi : ∀ n s, R n s ↔ R' n s) : Mm l R' := ⟨fun e he => ⟨(hi _ _).1 (h.1 e he).1, (hi _ _).1 (h.1 e he).2⟩, fun n s hr => h.2 n s ((hi _ _).2 hr)⟩
theorem den_none {l : List En} {s : Spot} (h : denC l s = none) : ∀ e ∈ l, e.1 ≠ s := fun e he hs => by
 obtain ⟨v, hv⟩ := den_mem (List.mem_map.2 ⟨e, he, hs⟩)
 rw [hv] at h; cases h
theorem den_mm {l : List En} {s : Spot} {v : Mn} (h : denC l s = some v) : ((∃ e ∈ l, e.1 = s ∧ e.2.1 = v.1) ∧ ∃ e ∈ l, e.1 = s ∧ e.2.2.1 = v.2.1) ∧ ∀ e ∈ l, e.1 = s → v.1 ≤ e.2.1 ∧ e.2.2.1 ≤ v.2.1 := by
 induction l generalizing v with
 | nil => cases h
 | cons e l ih =>
  rw [denC] at h
  by_cases he : e.1 = s
  ·
   rw [if_pos he] at h
   cases hd : denC l s with
   | none =>
    rw [hd] at h
    have hv : e.2 = v := Option.some.inj h
    subst hv
    refine ⟨⟨⟨e, List.mem_cons_self, he, rfl⟩, e, List.mem_cons_self, he, rfl⟩, fun e' he' hs => ?_⟩
    rcases List.mem_cons.1 he' with rfl | hm
    ·
     exact ⟨Int.le_refl _, Int.le_refl _⟩
    ·
     exact absurd hs (den_none hd e' hm)
   | some u =>
    rw [hd] at h
    have hv : joinE e.2 u = v := Option.some.inj h
    subst hv
    obtain ⟨⟨⟨e1, h1, h2, h3⟩, e2, g1, g2, g3⟩, h4⟩ := ih hd
    have hj : (joinE e.2 u).1 = min e.2.1 u.1 := rfl
    have hj2 : (joinE e.2 u).2.1 = max e.2.2.1 u.2.1 := rfl
    rw [hj, hj2]
    refine ⟨⟨?_, ?_⟩, fun e' he' hs => ?_⟩
    ·
     by_cases hle : e.2.1 ≤ u.1
     ·
      exact ⟨e, List.mem_cons_self, he, by omega⟩
     ·
      exact ⟨e1, List.mem_cons_of_mem _ h1, h2, by omega⟩
    ·
     by_cases hle : u.2.1 ≤ e.2.2.1
     ·
      exact ⟨e, List.mem_cons_self, he, by omega⟩
     ·
      exact ⟨e2, List.mem_cons_of_mem _ g1, g2, by omega⟩
    ·
     rcases List.mem_cons.1 he' with rfl | hm
     ·
      omega
     ·
      have := h4 e' hm hs; omega
  ·
   rw [if_neg he] at h
   obtain ⟨⟨⟨e1, h1, h2, h3⟩, e2, g1, g2, g3⟩, h4⟩ := ih h
   refine ⟨⟨⟨e1, List.mem_cons_of_mem _ h1, h2, h3⟩, e2, List.mem_cons_of_mem _ g1, g2, g3⟩, fun e' he' hs => ?_⟩
   rcases List.mem_cons.1 he' with rfl | hm
   ·
    exact absurd hs he
   ·
    exact h4 e' hm hs
theorem Mm.norm {l : List En} {R : Int → Spot → Prop} (h : Mm l R) : Mm (normC l) R := by
 refine ⟨fun e he => ?_, fun n s hr => ?_⟩
 ·
  have := (mem_get (norm_nodup l) e).1 he
  rw [get_norm] at this
  obtain ⟨⟨⟨e1, h1, h2, h3⟩, e2, g1, g2, g3⟩, _⟩ := den_mm this
  have r1 := (h.1 e1 h1).1
  have r2 := (h.1 e2 g1).2
  rw [h2, h3] at r1
  rw [g2, g3] at r2
  exact ⟨r1, r2⟩
 ·
  obtain ⟨e, he, hs, hn⟩ := h.2 n s hr
  obtain ⟨v, hv⟩ := den_mem (List.mem_map.2 ⟨e, he, hs⟩)
  have h4 := (den_mm hv).2 e he hs
  exact ⟨(s, v), (mem_get (norm_nodup l) (s, v)).2 (by rw [get_norm]; exact hv), rfl, by show v.1 ≤ n; omega, by show n ≤ v.2.1; omega⟩
theorem Mm.app {l l' : List En} {R R' : Int → Spot → Prop} (h : Mm l R) (h' : Mm l' R') : Mm (l ++ l') (fun n s => R n s ∨ R' n s) := by
 refine ⟨fun e he => ?_, fun n s hr => ?_⟩
 ·
  rcases List.mem_append.1 he with he | he
  ·
   exact ⟨.inl (h.1 e he).1, .inl (h.1 e he).2⟩
  ·
   exact ⟨.inr (h'.1 e he).1, .inr (h'.1 e he).2⟩
 ·
  rcases hr with hr | hr
  ·
   obtain ⟨e, he, h2⟩ := h.2 n s hr
   exact ⟨e, List.mem_append_left _ he, h2⟩
  ·
   obtain ⟨e, he, h2⟩ := h'.2 n s hr
   exact ⟨e, List.mem_append_right _ he, h2⟩
theorem Mm.step {f : Fmt} {l : List En} {R : Int → Spot → Prop} (side : Int) (h : Mm l R) : Mm (stepC f l side) (fun n s => ∃ t, R (n - 1) t ∧ Pt f side t s) := by
 refine Mm.norm ⟨fun u hu => ?_, fun n s hr => ?_⟩
 ·
  obtain ⟨e, he, hu⟩ := List.mem_flatMap.1 hu
  have key : ∀ p : Int, (p = 0 ∨ p = 1) → u ∈ goE f side e p → (∃ t, R (u.2.1 - 1) t ∧ Pt f side t u.1) ∧ ∃ t, R (u.2.2.1 - 1) t ∧ Pt f side t u.1 := fun p hp hu => by
   obtain ⟨h1, h2, h3⟩ := go_out.1 hu
   have e1 : u.2.1 - 1 = e.2.1 := by rw [h3]; show e.2.1 + 1 - 1 = _; omega
   have e2 : u.2.2.1 - 1 = e.2.2.1 := by rw [h3]; show e.2.2.1 + 1 - 1 = _; omega
   exact ⟨⟨e.1, by rw [e1]; exact (h.1 e he).1, p, hp, h1, h2⟩, e.1, by rw [e2]; exact (h.1 e he).2, p, hp, h1, h2⟩
  rcases List.mem_append.1 hu with hu | hu
  ·
   exact key 0 (.inl rfl) hu
  ·
   exact key 1 (.inr rfl) hu
 ·
  obtain ⟨t, ht, p, hp, hsd, hn⟩ := hr
  obtain ⟨e, he, rfl, hle⟩ := h.2 (n - 1) t ht
  refine ⟨upE e s, List.mem_flatMap.2 ⟨e, he, ?_⟩, rfl, by show e.2.1 + 1 ≤ n; omega, by show n ≤ e.2.2.1 + 1; omega⟩
  rcases hp with rfl | rfl
  ·
   exact List.mem_append_left _ (go_out.2 ⟨hsd, hn, rfl⟩)
  ·
   exact List.mem_append_right _ (go_out.2 ⟨hsd, hn, rfl⟩)
theorem Mm.iter {f : Fmt} {l : List En} {R : Int → Spot → Prop} (h : Mm l R) : ∀ k : Nat, Mm (iterC f l k) (fun n s => ∃ t, R (n - (k : Int)) t ∧ Pts f t k s)
 | 0 => h.iff fun n s => ⟨fun hr => ⟨s, by rw [show n - ((0 : Nat) : Int) = n by omega]; exact hr, rfl⟩, fun ⟨t, hr, ht⟩ => by cases ht; rw [show n - ((0 : Nat) : Int) = n by omega] at hr; exact hr⟩
 | k + 1 => ((h.iter k).step (-1)).iff fun n s => ⟨fun ⟨u, ⟨t, hr, hp⟩, h2⟩ => ⟨t, by rw [show n - ((k + 1 : Nat) : Int) = n - 1 - (k : Int) by omega]; exact hr, u, hp, h2⟩, fun ⟨t, hr, u, hp, h2⟩ => ⟨u, ⟨t, by rw [show n - 1 - (k : Int) = n - ((k + 1 : Nat) : Int) by omega]; exact hr, hp⟩, h2⟩⟩
theorem Mm.nil : Mm [] (fun _ _ => False) := ⟨fun e he => (by cases he), fun n s h => h.elim⟩
theorem Mm.missI {f : Fmt} {l : List En} {R : Int → Spot → Prop} (a : Int) (h : Mm l R) : ∀ n, Mm (missI f l a n) (fun m s => ∃ t, ∃ k : Nat, k < n ∧ a ≤ (k : Int) ∧ R (m - (k : Int)) t ∧ Pts f t k s)
 | 0 => Mm.nil.iff fun m s => ⟨fun h => h.elim, fun ⟨t, k, hk, _⟩ => by omega⟩
 | n + 1 => by
  unfold Go.Proofs.YthkliiifllhacaaGreat.missI
  by_cases ha : a ≤ (n : Int)
  ·
   rw [if_pos ha]
   refine ((h.missI a n).app (h.iter (f := f) n)).iff fun m s => ⟨?_, ?_⟩
   ·
    rintro (⟨t, k, hk, h2⟩ | ⟨t, hr, hp⟩)
    ·
     exact ⟨t, k, by omega, h2⟩
    ·
     exact ⟨t, n, by omega, ha, hr, hp⟩
   ·
    rintro ⟨t, k, hk, h2, h3, h4⟩
    by_cases e : k = n
    ·
     subst e; exact .inr ⟨t, h3, h4⟩
    ·
     exact .inl ⟨t, k, by omega, h2, h3, h4⟩
  ·
   rw [if_neg ha, List.append_nil]
   refine (h.missI a n).iff fun m s => ⟨?_, ?_⟩
   ·
    rintro ⟨t, k, hk, h2⟩
    exact ⟨t, k, by omega, h2⟩
   ·
    rintro ⟨t, k, hk, h2, h3⟩
    exact ⟨t, k, by by_cases e : k = n; (subst e; exact absurd h2 ha); omega, h2, h3⟩
def RelN (f : Fmt) (x : Nt) (t s : Spot) (k : Int) : Prop :=
 if x.kind = 1 then k = 1 ∧ Pt f x.side t s else if x.kind = 2 then ∃ j : Nat, k = (j : Int) ∧ j ≤ x.pair.2.toNat ∧ x.pair.1 ≤ (j : Int) ∧ Pts f t j s else k = 0 ∧ t = s ∧ holdS f x s = true
theorem Mm.after {f : Fmt} {l : List En} {R : Int → Spot → Prop} (x : Nt) (h : Mm l R) : Mm (afterC f l x) (fun n s => ∃ t k, R (n - k) t ∧ RelN f x t s k) := by
 unfold afterC
 by_cases h1 : x.kind = 1
 ·
  rw [if_pos h1]
  refine (h.step x.side).iff fun n s => ?_
  unfold RelN; simp only [if_pos h1]
  exact ⟨fun ⟨t, hr, hp⟩ => ⟨t, 1, hr, rfl, hp⟩, fun ⟨t, k, hr, hk, hp⟩ => by subst hk; exact ⟨t, hr, hp⟩⟩
 ·
  rw [if_neg h1]
  by_cases h2 : x.kind = 2
  ·
   rw [if_pos h2]
   refine (h.missI (f := f) x.pair.1 (x.pair.2.toNat + 1)).norm.iff fun n s => ?_
   unfold RelN; simp only [if_neg h1, if_pos h2]
   constructor
   ·
    rintro ⟨t, k, hk, ha, hr, hp⟩; exact ⟨t, k, hr, k, rfl, by omega, ha, hp⟩
   ·
    rintro ⟨t, k, hr, j, rfl, hk, ha, hp⟩; exact ⟨t, j, by omega, ha, hr, hp⟩
  ·
   rw [if_neg h2]
   unfold RelN; simp only [if_neg h1, if_neg h2]
   refine ⟨fun e he => ?_, fun n s hr => ?_⟩
   ·
    obtain ⟨h3, h4⟩ := List.mem_filter.1 he
    exact ⟨⟨e.1, 0, by rw [Int.sub_zero]; exact (h.1 e h3).1, rfl, rfl, h4⟩, e.1, 0, by rw [Int.sub_zero]; exact (h.1 e h3).2, rfl, rfl, h4⟩
   ·
    obtain ⟨t, k, ht, rfl, rfl, hh⟩ := hr
    rw [Int.sub_zero] at ht
    obtain ⟨e, he, rfl, hle⟩ := h.2 n t ht
    exact ⟨e, List.mem_filter.2 ⟨he, hh⟩, rfl, hle⟩
def Len (f : Fmt) (first : Int) (xs : List Nt) : Nat → Int → Spot → Prop
 | 0, n, s => n = 0 ∧ s ∈ keyC (begC first)
 | j + 1, n, s => ∃ x t k, xs[j]? = some x ∧ Len f first xs j (n - k) t ∧ RelN f x t s k
end Go.Proofs.YthkliiifllhacaaGreat

namespace Go.Proofs.YthkliiifllhacaaGreat
open Go Go.RowKit

def spS (f : Fmt) (first : Int) (ps : List Int) : Nat → Spot
 | 0 => ⟨first, [], (0, 0), (0, 0)⟩
 | n + 1 => match ps[n]? with
  | some p => stepS f (spS f first ps n) p
  | none => spS f first ps n
theorem spS_succ {f : Fmt} {first : Int} {ps : List Int} {n : Nat} {p : Int} (h : ps[n]? = some p) : spS f first ps (n + 1) = stepS f (spS f first ps n) p := by rw [spS, h]
def CanP (f : Fmt) (first : Int) (ps : List Int) : Prop := ∀ (n : Nat) (p : Int), ps[n]? = some p → (p = 0 ∨ p = 1) ∧ topS (spS f first ps n) ≠ f.sets
def hitV (f : Fmt) (first : Int) (ps : List Int) (x : Nt) (m n : Nat) : Prop :=
 if x.kind = 1 then n = m + 1 ∧ n ≤ ps.length ∧ (x.side = -1 ∨ ps[m]? = some x.side) else if x.kind = 2 then ((m : Int) + x.pair.1 ≤ n ∧ (n : Int) ≤ m + x.pair.2) ∧ m ≤ n ∧ n ≤ ps.length else n = m ∧ holdS f x (spS f first ps n) = true
def Fit (f : Fmt) (first : Int) (ps : List Int) (xs : List Nt) : Nat → Nat → Prop
 | 0, n => n = 0
 | j + 1, n => ∃ x m, xs[j]? = some x ∧ Fit f first ps xs j m ∧ hitV f first ps x m n
end Go.Proofs.YthkliiifllhacaaGreat

namespace Go.Proofs.YthkliiifllhacaaGreat
open Go Go.RowKit

section
variable {f : Fmt} {s : Spot}
end
end Go.Proofs.YthkliiifllhacaaGreat

namespace Go.Proofs.YthkliiifllhacaaGreat
open Go Go.RowKit

structure Nt.Ok (x : Nt) : Prop where
 k : 1 ≤ x.kind ∧ x.kind ≤ 7
 s1 : x.kind = 1 → x.side = -1 ∨ x.side = 0 ∨ x.side = 1
 s6 : x.kind = 6 ∨ x.kind = 7 → x.side = 0 ∨ x.side = 1
section
variable {f : Fmt} {s : Spot}
end
theorem beg_in {first b : Int} (hb : b = 0 ∨ b = 1) (h : first = -1 ∨ first = b) : (⟨b, [], (0, 0), (0, 0)⟩ : Spot) ∈ keyC (begC first) := by
 unfold keyC begC
 rw [List.map_append, List.mem_append]
 rcases hb with rfl | rfl
 ·
  exact .inl (by rw [if_pos h]; exact List.mem_cons_self)
 ·
  exact .inr (by rw [if_pos h]; exact List.mem_cons_self)
end Go.Proofs.YthkliiifllhacaaGreat

namespace Go.Proofs.YthkliiifllhacaaGreat
open Go Go.RowKit

def fstC (p : Nat → Bool) (n : Nat) : Int := match (List.range n).find? p with
 | some k => k
 | none => -1
theorem fstC_spec (p : Nat → Bool) (n : Nat) : (fstC p n = -1 ∧ ∀ i, i < n → p i = false) ∨ ∃ k : Nat, k < n ∧ fstC p n = k ∧ p k = true ∧ ∀ i, i < k → p i = false := by
 unfold fstC
 cases h : (List.range n).find? p with
 | none =>
  refine .inl ⟨rfl, fun i hi => ?_⟩
  have := List.find?_range_eq_none.1 h i hi
  simpa using this
 | some k =>
  obtain ⟨h1, h2, h3⟩ := List.find?_range_eq_some.1 h
  refine .inr ⟨k, List.mem_range.1 h2, rfl, h1, fun i hi => ?_⟩
  have := h3 i hi
  simpa using this
def badC (f : Fmt) (first : Int) (xs : List Nt) : Int := fstC (fun i => (crowdC f first (xs.take (i + 1))).isEmpty) xs.length
theorem after_nil (f : Fmt) (x : Nt) : afterC f [] x = [] := by
 have : keyC (afterC f [] x) = [] := List.eq_nil_iff_forall_not_mem.2 fun s hs => by
  obtain ⟨t, ht, _⟩ := after_mem.1 hs
  cases ht
 exact List.map_eq_nil_iff.1 this
theorem fold_nil (f : Fmt) (xs : List Nt) : xs.foldl (afterC f) [] = [] := by
 induction xs with
 | nil => rfl
 | cons x xs ih => rw [List.foldl_cons, after_nil, ih]
theorem crowd_nil {f : Fmt} {first : Int} {xs : List Nt} {i : Nat} (h : crowdC f first (xs.take i) = []) : crowdC f first xs = [] := by
 have : xs = xs.take i ++ xs.drop i := (List.take_append_drop i xs).symm
 rw [this]
 unfold crowdC at h ⊢
 rw [List.foldl_append, h, fold_nil]
theorem beg_ne {first : Int} (h : -1 ≤ first ∧ first ≤ 1) : begC first ≠ [] := fun e => by
 have : (⟨if first = 1 then 1 else 0, [], (0, 0), (0, 0)⟩ : Spot) ∈ keyC (begC first) := by
  by_cases h1 : first = 1
  ·
   rw [if_pos h1]; exact beg_in (.inr rfl) (.inr h1)
  ·
   rw [if_neg h1]; exact beg_in (.inl rfl) (by omega)
 rw [e] at this; cases this
theorem bad_none {f : Fmt} {first : Int} {xs : List Nt} (h : -1 ≤ first ∧ first ≤ 1) : badC f first xs = -1 ↔ crowdC f first xs ≠ [] := by
 unfold badC
 rcases fstC_spec (fun i => (crowdC f first (xs.take (i + 1))).isEmpty) xs.length with ⟨h1, h2⟩ | ⟨k, hk, h1, h2, _⟩
 ·
  rw [h1]
  refine ⟨fun _ e => ?_, fun _ => rfl⟩
  cases hl : xs.length with
  | zero =>
   have : xs = [] := List.eq_nil_of_length_eq_zero hl
   subst this
   exact beg_ne h e
  | succ n =>
   have := h2 n (by omega)
   rw [show n + 1 = xs.length from hl.symm, List.take_length, e] at this
   cases this
 ·
  rw [h1]
  refine ⟨fun e => by omega, fun hne => ?_⟩
  exact absurd (crowd_nil (i := k + 1) (List.isEmpty_iff.1 h2)) hne
end Go.Proofs.YthkliiifllhacaaGreat

namespace Go.Proofs.YthkliiifllhacaaGreat
open Go Go.RowKit

end Go.Proofs.YthkliiifllhacaaGreat

namespace Go.Proofs.YthkliiifllhacaaGreat
open Go Go.RowKit

def mostN (x : Nt) : Int := if x.kind = 1 then 1 else if x.kind = 2 then x.pair.2 else 0
def mostS (xs : List Nt) : Int := (xs.map mostN).sum
end Go.Proofs.YthkliiifllhacaaGreat

namespace Go.Proofs.YthkliiifllhacaaGreat
open Go Go.RowKit

theorem spS_app {f : Fmt} {first : Int} {ps qs : List Int} : ∀ {n : Nat}, n ≤ ps.length → spS f first (ps ++ qs) n = spS f first ps n
 | 0, _ => rfl
 | n + 1, h => by
  rw [spS, spS, List.getElem?_append_left (by omega), spS_app (by omega)]
theorem spS_last {f : Fmt} {first : Int} {ps : List Int} {p : Int} : spS f first (ps ++ [p]) (ps.length + 1) = stepS f (spS f first ps ps.length) p := by
 rw [spS_succ (p := p) (by rw [List.getElem?_append_right (Nat.le_refl _), Nat.sub_self]; rfl), spS_app (Nat.le_refl _)]
theorem can_app {f : Fmt} {first : Int} {ps : List Int} {p : Int} (h : CanP f first ps) (hp : p = 0 ∨ p = 1) {u : Spot} (hn : nxtS f (spS f first ps ps.length) p = some u) : CanP f first (ps ++ [p]) ∧ spS f first (ps ++ [p]) (ps ++ [p]).length = u := by
 have ht : topS (spS f first ps ps.length) ≠ f.sets := fun e => by
  rw [nxtS, decide_eq_true e] at hn; cases hn
 have hu : stepS f (spS f first ps ps.length) p = u := by
  rw [nxtS, decide_eq_false ht] at hn; exact Option.some.inj hn
 refine ⟨fun n q hq => ?_, by rw [List.length_append, List.length_singleton, spS_last, hu]⟩
 have hlt : n < ps.length + 1 := by
  have := (List.getElem?_eq_some_iff.1 hq).1
  rwa [List.length_append, List.length_singleton] at this
 by_cases e : n = ps.length
 ·
  subst e
  rw [List.getElem?_append_right (Nat.le_refl _), Nat.sub_self] at hq
  obtain rfl : p = q := Option.some.inj hq
  exact ⟨hp, by rw [spS_app (Nat.le_refl _)]; exact ht⟩
 ·
  rw [List.getElem?_append_left (by omega)] at hq
  rw [spS_app (by omega)]
  exact h n q hq
theorem fit_app {f : Fmt} {first : Int} {ps qs : List Int} {xs : List Nt} : ∀ {j n : Nat}, Fit f first ps xs j n → n ≤ ps.length ∧ Fit f first (ps ++ qs) xs j n
 | 0, n, h => ⟨by have : n = 0 := h; omega, h⟩
 | j + 1, n, ⟨x, m, hx, hm, hh⟩ => by
  obtain ⟨g1, g2⟩ := fit_app (qs := qs) hm
  unfold hitV at hh
  by_cases h1 : x.kind = 1
  ·
   rw [if_pos h1] at hh
   obtain ⟨h2, h3, h4⟩ := hh
   refine ⟨h3, x, m, hx, g2, ?_⟩
   unfold hitV
   rw [if_pos h1]
   refine ⟨h2, by rw [List.length_append]; omega, h4.imp id fun e => ?_⟩
   rw [List.getElem?_append_left (by omega)]; exact e
  ·
   rw [if_neg h1] at hh
   by_cases h2 : x.kind = 2
   ·
    rw [if_pos h2] at hh
    obtain ⟨h3, h4, h5⟩ := hh
    refine ⟨h5, x, m, hx, g2, ?_⟩
    unfold hitV
    rw [if_neg h1, if_pos h2]
    exact ⟨h3, h4, by rw [List.length_append]; omega⟩
   ·
    rw [if_neg h2] at hh
    obtain ⟨rfl, h3⟩ := hh
    refine ⟨g1, x, n, hx, g2, ?_⟩
    unfold hitV
    rw [if_neg h1, if_neg h2]
    exact ⟨rfl, by rw [spS_app g1]; exact h3⟩
structure Row_ (f : Fmt) (cf : Int) (xs : List Nt) (j : Nat) (s : Spot) (first : Int) (ps : List Int) : Prop where
 fs : first = 0 ∨ first = 1
 cf : cf = -1 ∨ cf = first
 can : CanP f first ps
 fit : Fit f first ps xs j ps.length
 sp : spS f first ps ps.length = s
theorem row_begin {f : Fmt} {cf first : Int} {xs : List Nt} (h1 : first = 0 ∨ first = 1) (h2 : cf = -1 ∨ cf = first) : Row_ f cf xs 0 ⟨first, [], (0, 0), (0, 0)⟩ first [] := ⟨h1, h2, fun n p hp => (by cases hp), rfl, rfl⟩
end Go.Proofs.YthkliiifllhacaaGreat

namespace Go.Proofs.YthkliiifllhacaaGreat
open Go Go.RowKit

abbrev ep (s : Spot) (k : Nat) : Pr := s.st.getD k (0, 0)
abbrev spotC (s : Spot) : List Value := [.int .i64 s.first, .int .i64 (s.st.length : Int), .int .i64 (ep s 0).1, .int .i64 (ep s 0).2, .int .i64 (ep s 1).1, .int .i64 (ep s 1).2, .int .i64 (ep s 2).1, .int .i64 (ep s 2).2, .int .i64 (ep s 3).1, .int .i64 (ep s 3).2, .int .i64 (ep s 4).1, .int .i64 (ep s 4).2, .int .i64 s.g.1, .int .i64 s.g.2, .int .i64 s.p.1, .int .i64 s.p.2]
abbrev spotF (s : Spot) : List Fl := [.i s.first, .i (s.st.length : Int), .i (ep s 0).1, .i (ep s 0).2, .i (ep s 1).1, .i (ep s 1).2, .i (ep s 2).1, .i (ep s 2).2, .i (ep s 3).1, .i (ep s 3).2, .i (ep s 4).1, .i (ep s 4).2, .i s.g.1, .i s.g.2, .i s.p.1, .i s.p.2]
theorem spotF_inj {a b : Spot} (ha : a.st.length ≤ 5) (h : spotF a = spotF b) : a = b := by
 simp only [spotF, List.cons.injEq, Fl.i.injEq, and_true] at h
 obtain ⟨h0, h1, a0, b0, a1, b1, a2, b2, a3, b3, a4, b4, g1, g2, p1, p2⟩ := h
 have hl : a.st.length = b.st.length := by omega
 refine Spot.ext' h0 (List.ext_getElem hl fun k hk hk' => ?_) (Prod.ext g1 g2) (Prod.ext p1 p2)
 have e : ∀ k, k < 5 → ep a k = ep b k := fun k hk => by
  have : k = 0 ∨ k = 1 ∨ k = 2 ∨ k = 3 ∨ k = 4 := by omega
  rcases this with rfl | rfl | rfl | rfl | rfl
  ·
   exact Prod.ext a0 b0
  ·
   exact Prod.ext a1 b1
  ·
   exact Prod.ext a2 b2
  ·
   exact Prod.ext a3 b3
  ·
   exact Prod.ext a4 b4
 have := e k (by omega)
 simp only [ep, List.getD_eq_getElem?_getD, List.getElem?_eq_getElem hk, List.getElem?_eq_getElem hk', Option.getD_some] at this
 exact this

structure Nd where
 (b : Nat) (s : Spot) (bf : Option Nat) (sd : Int)
abbrev bp (b : Nat) : Value := .pointer (some ⟨b, 0, none⟩)
abbrev bpO (o : Option Nat) : Value := .pointer (o.map fun b => ⟨b, 0, none⟩)
abbrev nodeC (x : Nd) (m : Pr) : List Value := [.int .i64 x.s.first, .int .i64 (x.s.st.length : Int), .int .i64 (ep x.s 0).1, .int .i64 (ep x.s 0).2, .int .i64 (ep x.s 1).1, .int .i64 (ep x.s 1).2, .int .i64 (ep x.s 2).1, .int .i64 (ep x.s 2).2, .int .i64 (ep x.s 3).1, .int .i64 (ep x.s 3).2, .int .i64 (ep x.s 4).1, .int .i64 (ep x.s 4).2, .int .i64 x.s.g.1, .int .i64 x.s.g.2, .int .i64 x.s.p.1, .int .i64 x.s.p.2, bpO x.bf, .int .i64 x.sd, .int .i64 m.1, .int .i64 m.2]
def poolE (T : TypeId) (N : List Nd) (mn : Nat → Pr) (out : Option Nat) : Ent := .gen true true (fun k => ∃ x ∈ N, x.b = k ∧ out ≠ some k) (fun w => ∀ x ∈ N, out ≠ some x.b → w.heap[x.b]? = some (.cells (nodeC x (mn x.b)).toArray T (0, 0)))
 (fun w w' hb hok x hx ho => (hb x.b ⟨x, hx, rfl, ho⟩).trans (hok x hx ho)) (fun w k hok ⟨x, hx, he, ho⟩ => by subst he; exact heap_lt (hok x hx ho))
def upN (mn : Nat → Pr) (b : Nat) (v : Pr) : Nat → Pr := fun k => if k = b then v else mn k
theorem upN_same (mn : Nat → Pr) (b : Nat) (v : Pr) : upN mn b v b = v := if_pos rfl
theorem upN_other {mn : Nat → Pr} {b k : Nat} {v : Pr} (h : k ≠ b) : upN mn b v k = mn k := if_neg h
section
variable {w0 w : World} {M : List Ent} {T : TypeId} {N : List Nd} {mn : Nat → Pr}
theorem St.pool0 {L : List Ent} (h : St w0 w L) (T : TypeId) (mn : Nat → Pr) : St w0 w (poolE T [] mn none :: L) := by
 refine St.add (M := [_]) h (Blw.refl _ _) (fun e he => ?_) (fun e he b hb' => ?_) (List.pairwise_singleton _ _)
 ·
  simp only [List.mem_singleton] at he; subst he; exact fun x hx => by cases hx
 ·
  simp only [List.mem_singleton] at he; subst he; obtain ⟨x, hx, _⟩ := hb'; cases hx
theorem St.pOpen (h : St w0 w (poolE T N mn none :: M)) {x : Nd} (hx : x ∈ N) : St w0 w (.blk x.b T (nodeC x (mn x.b)) :: poolE T N mn (some x.b) :: M) := by
 have hok := h.ok (poolE T N mn none) (by simp)
 refine h.split (e1 := .blk x.b T _) rfl (hok x hx (by simp)) (fun y hy _ => hok y hy (by simp)) (fun k hk => ⟨x, hx, (show k = x.b from hk).symm, by simp⟩) (fun k ⟨y, hy, he, _⟩ => ⟨y, hy, he, by simp⟩) (fun k hk ⟨y, hy, he, ho⟩ => ho (by rw [show k = x.b from hk]))
theorem nd_one (hn : (N.map (·.b)).Nodup) {x y : Nd} (hx : x ∈ N) (hy : y ∈ N) (e : x.b = y.b) : x = y := by
 induction N with
 | nil => cases hx
 | cons z N ih =>
  rw [List.map_cons, List.nodup_cons] at hn
  rcases List.mem_cons.1 hx with h1 | h1
  ·
   rcases List.mem_cons.1 hy with h2 | h2
   ·
    rw [h1, h2]
   ·
    exact absurd (List.mem_map.2 ⟨y, h2, by rw [← e, h1]⟩) hn.1
  ·
   rcases List.mem_cons.1 hy with h2 | h2
   ·
    exact absurd (List.mem_map.2 ⟨x, h1, by rw [e, h2]⟩) hn.1
   ·
    exact ih hn.2 h1 h2
theorem St.pClose {x : Nd} {v : Pr} (h : St w0 w (.blk x.b T (nodeC x v) :: poolE T N mn (some x.b) :: M)) (hx : x ∈ N) (hn : (N.map (·.b)).Nodup) : St w0 w (poolE T N (upN mn x.b v) none :: M) := by
 have h1 := h.ok (.blk x.b T (nodeC x v)) (by simp)
 have h2 := h.ok (poolE T N mn (some x.b)) (by simp)
 refine h.fuse (e := poolE T N (upN mn x.b v) none) rfl rfl (fun y hy _ => ?_) (fun k ⟨y, hy, he, _⟩ => ?_)
 ·
  by_cases e : y.b = x.b
  ·
   obtain rfl := nd_one hn hy hx e
   rw [upN_same]; exact h1
  ·
   rw [upN_other e]
   exact h2 y hy (fun e2 => e (Option.some.inj e2).symm)
 ·
  by_cases e : k = x.b
  ·
   exact .inl e
  ·
   exact .inr ⟨y, hy, he, fun e2 => e (Option.some.inj e2).symm⟩
theorem St.pNew {x : Nd} {v : Pr} (h : St w0 w (.blk x.b T (nodeC x v) :: poolE T N mn none :: M)) : (∀ y ∈ N, y.b ≠ x.b) ∧ St w0 w (poolE T (x :: N) (upN mn x.b v) none :: M) := by
 have h1 := h.ok (.blk x.b T (nodeC x v)) (by simp)
 have h2 := h.ok (poolE T N mn none) (by simp)
 have hp := (List.pairwise_cons.1 h.sep).1 (poolE T N mn none) (by simp)
 have hne : ∀ y ∈ N, y.b ≠ x.b := fun y hy e => hp (.inl rfl) x.b rfl ⟨y, hy, e, by simp⟩
 refine ⟨hne, h.fuse (e := poolE T (x :: N) (upN mn x.b v) none) rfl rfl (fun y hy _ => ?_) (fun k ⟨y, hy, he, _⟩ => ?_)⟩
 ·
  rcases List.mem_cons.1 hy with rfl | hy
  ·
   rw [upN_same]; exact h1
  ·
   rw [upN_other (hne y hy)]; exact h2 y hy (by simp)
 ·
  rcases List.mem_cons.1 hy with rfl | hy
  ·
   exact .inl he.symm
  ·
   exact .inr ⟨y, hy, he, by simp⟩
end
section rules
variable {F : Fence} {P : Program} {ops : Array Oper} {Q : Exit → Act → World → Prop} {rest : List Oper} {n : Nat} {D : List Deferred} {l : Env} {w0 : World} {L M M' : List Ent} {c : Code}
variable {T : TypeId} {N : List Nd} {mn : Nat → Pr}
theorem WL.pOpen (ha : At L (poolE T N mn none) M) {x : Nd} (hx : x ∈ N) (h : WL F P ops Q rest n D l w0 (.blk x.b T (nodeC x (mn x.b)) :: poolE T N mn (some x.b) :: M)) : WL F P ops Q rest n D l w0 L := fun hF a w hfr hst => h hF a w hfr ((hst.pull ha).pOpen hx)
theorem WC.pOpen (ha : At L (poolE T N mn none) M) {x : Nd} (hx : x ∈ N) (h : WC F P c Q n D l w0 (.blk x.b T (nodeC x (mn x.b)) :: poolE T N mn (some x.b) :: M)) : WC F P c Q n D l w0 L := fun hF a w hfr hst => h hF a w hfr ((hst.pull ha).pOpen hx)
theorem pull2 {w : World} {e1 e2 : Ent} (ha : At L e1 M) (hb : At M e2 M') (hst : St w0 w L) : St w0 w (e1 :: e2 :: M') := hst.sub (.cons ha (.cons hb (SubL.refl _)))
theorem WL.pClose {x : Nd} (v : Pr) (hx : x ∈ N) (hn : (N.map (·.b)).Nodup) (ha : At L (.blk x.b T (nodeC x v)) M) (hb : At M (poolE T N mn (some x.b)) M') (h : WL F P ops Q rest n D l w0 (poolE T N (upN mn x.b v) none :: M')) : WL F P ops Q rest n D l w0 L := fun hF a w hfr hst => h hF a w hfr ((pull2 ha hb hst).pClose hx hn)
theorem WC.pClose {x : Nd} (v : Pr) (hx : x ∈ N) (hn : (N.map (·.b)).Nodup) (ha : At L (.blk x.b T (nodeC x v)) M) (hb : At M (poolE T N mn (some x.b)) M') (h : WC F P c Q n D l w0 (poolE T N (upN mn x.b v) none :: M')) : WC F P c Q n D l w0 L := fun hF a w hfr hst => h hF a w hfr ((pull2 ha hb hst).pClose hx hn)
theorem WL.pNew (x : Nd) (v : Pr) (ha : At L (.blk x.b T (nodeC x v)) M) (hb : At M (poolE T N mn none) M') (h : (∀ y ∈ N, y.b ≠ x.b) → WL F P ops Q rest n D l w0 (poolE T (x :: N) (upN mn x.b v) none :: M')) : WL F P ops Q rest n D l w0 L := fun hF a w hfr hst => h (pull2 ha hb hst).pNew.1 hF a w hfr (pull2 ha hb hst).pNew.2
theorem WC.pNew (x : Nd) (v : Pr) (ha : At L (.blk x.b T (nodeC x v)) M) (hb : At M (poolE T N mn none) M') (h : (∀ y ∈ N, y.b ≠ x.b) → WC F P c Q n D l w0 (poolE T (x :: N) (upN mn x.b v) none :: M')) : WC F P c Q n D l w0 L := fun hF a w hfr hst => h (pull2 ha hb hst).pNew.1 hF a w hfr (pull2 ha hb hst).pNew.2
theorem WC.pool0 (T : TypeId) (mn : Nat → Pr) (h : WC F P c Q n D l w0 (poolE T [] mn none :: L)) : WC F P c Q n D l w0 L := fun hF a w hfr hst => h hF a w hfr (hst.pool0 T mn)
end rules

inductive RowN (N : List Nd) : Nd → List Int → Prop
 | nil {x : Nd} (h : x.bf = none) : RowN N x []
 | snoc {x y : Nd} {r : List Int} (hy : y ∈ N) (h : x.bf = some y.b) (hr : RowN N y r) : RowN N x (r ++ [x.sd])
theorem RowN.mono {N N' : List Nd} {x : Nd} {r : List Int} (h : RowN N x r) (hs : ∀ y ∈ N, y ∈ N') : RowN N' x r := by
 induction h with
 | nil h => exact .nil h
 | snoc hy h _ ih => exact .snoc (hs _ hy) h ih
theorem RowN.uniq {N : List Nd} (hn : (N.map (·.b)).Nodup) {x : Nd} {r r' : List Int} (h : RowN N x r) (h' : RowN N x r') : r = r' := by
 induction h generalizing r' with
 | nil h =>
  cases h' with
  | nil => rfl
  | snoc _ h2 _ => rw [h] at h2; cases h2
 | snoc hy h _ ih =>
  cases h' with
  | nil h2 => rw [h] at h2; cases h2
  | snoc hy' h2 hr' =>
   rw [h] at h2
   obtain rfl := nd_one hn hy hy' (Option.some.inj h2)
   rw [ih hr']
theorem RowN.copy {N : List Nd} {x y : Nd} {r : List Int} (h : RowN N x r) (h1 : y.bf = x.bf) (h2 : y.sd = x.sd) : RowN N y r := by
 cases h with
 | nil h => exact .nil (h1.trans h)
 | snoc hy h hr => rw [← h2]; exact .snoc hy (h1.trans h) hr
structure NdOk (f : Fmt) (N : List Nd) (mn : Nat → Pr) (K : Int) (x : Nd) : Prop where
 fs : x.s.first = 0 ∨ x.s.first = 1
 row : ∃ r, RowN N x r ∧ (r.length : Int) ≤ K ∧ CanP f x.s.first r ∧ spS f x.s.first r r.length = x.s
 lo : 0 ≤ (mn x.b).1 ∧ (mn x.b).1 ≤ K
 hi : 0 ≤ (mn x.b).2 ∧ (mn x.b).2 ≤ K
structure PoolOk (f : Fmt) (N : List Nd) (mn : Nat → Pr) (K : Int) : Prop where
 nd : (N.map (·.b)).Nodup
 ok : ∀ x ∈ N, NdOk f N mn K x
theorem PoolOk.nil (f : Fmt) (mn : Nat → Pr) (K : Int) : PoolOk f [] mn K := ⟨List.nodup_nil, fun x hx => by cases hx⟩
theorem PoolOk.up {f : Fmt} {N : List Nd} {mn : Nat → Pr} {K K' : Int} (h : PoolOk f N mn K) (hk : K ≤ K') : PoolOk f N mn K' := ⟨h.nd, fun x hx => by
 obtain ⟨h1, ⟨r, h2, h3, h4⟩, h5, h6⟩ := h.ok x hx
 exact ⟨h1, ⟨r, h2, by omega, h4⟩, by omega, by omega⟩⟩
theorem PoolOk.add {f : Fmt} {N : List Nd} {mn : Nat → Pr} {K : Int} (h : PoolOk f N mn K) {x : Nd} {v : Pr} (hne : ∀ y ∈ N, y.b ≠ x.b) (hf : x.s.first = 0 ∨ x.s.first = 1) (hr : ∃ r, RowN N x r ∧ (r.length : Int) ≤ K ∧ CanP f x.s.first r ∧ spS f x.s.first r r.length = x.s) (h1 : 0 ≤ v.1 ∧ v.1 ≤ K) (h2 : 0 ≤ v.2 ∧ v.2 ≤ K) : PoolOk f (x :: N) (upN mn x.b v) K := by
 refine ⟨?_, fun y hy => ?_⟩
 ·
  rw [List.map_cons, List.nodup_cons]
  refine ⟨fun hm => ?_, h.nd⟩
  obtain ⟨y, hy, e⟩ := List.mem_map.1 hm
  exact hne y hy e
 ·
  have hs : ∀ z ∈ N, z ∈ x :: N := fun z hz => List.mem_cons_of_mem _ hz
  rcases List.mem_cons.1 hy with rfl | hy
  ·
   obtain ⟨r, h3, h4⟩ := hr
   exact ⟨hf, ⟨r, h3.mono hs, h4⟩, by rw [upN_same]; exact h1, by rw [upN_same]; exact h2⟩
  ·
   obtain ⟨g1, ⟨r, g2, g3⟩, g4, g5⟩ := h.ok y hy
   exact ⟨g1, ⟨r, g2.mono hs, g3⟩, by rw [upN_other (hne y hy)]; exact g4, by rw [upN_other (hne y hy)]; exact g5⟩
theorem PoolOk.set {f : Fmt} {N : List Nd} {mn : Nat → Pr} {K : Int} (h : PoolOk f N mn K) (b : Nat) {v : Pr} (h1 : 0 ≤ v.1 ∧ v.1 ≤ K) (h2 : 0 ≤ v.2 ∧ v.2 ≤ K) : PoolOk f N (upN mn b v) K := ⟨h.nd, fun y hy => by
 obtain ⟨g1, g2, g4, g5⟩ := h.ok y hy
 refine ⟨g1, g2, ?_, ?_⟩
 ·
  unfold upN; split
  ·
   exact h1
  ·
   exact g4
 ·
  unfold upN; split
  ·
   exact h2
  ·
   exact g5⟩

theorem won_sum (l : List Pr) : (wonV l).1 + (wonV l).2 = l.length ∧ 0 ≤ (wonV l).1 ∧ 0 ≤ (wonV l).2 := by
 have key : ∀ k, k ≤ l.length → (wonTo l k).1 + (wonTo l k).2 = (k : Int) := fun k => by
  induction k with
  | zero => exact fun _ => rfl
  | succ k ih =>
   intro hk
   rw [wonTo_succ (List.getElem?_eq_getElem (by omega)), add_sum, ih (by omega)]; rfl
 have hb := wonTo_bd l l.length
 exact ⟨key _ (Nat.le_refl _), hb.1.1, hb.2.1⟩
structure SpBd (f : Fmt) (s : Spot) (n : Int) : Prop where
 g : (0 ≤ s.g.1 ∧ s.g.1 ≤ n) ∧ 0 ≤ s.g.2 ∧ s.g.2 ≤ n
 p : (0 ≤ s.p.1 ∧ s.p.1 ≤ n) ∧ 0 ≤ s.p.2 ∧ s.p.2 ≤ n
 won : (wonV s.st).1 ≤ f.sets ∧ (wonV s.st).2 ≤ f.sets ∧ (wonV s.st).1 + (wonV s.st).2 ≤ 2 * f.sets - 1
 st : ∀ q ∈ s.st, (0 ≤ q.1 ∧ q.1 ≤ n) ∧ 0 ≤ q.2 ∧ q.2 ≤ n
theorem SpBd.len {f : Fmt} {s : Spot} {n : Int} (hf : f.Ok) (h : SpBd f s n) : s.st.length ≤ 5 := by
 have h1 := (won_sum s.st).1
 have h2 := h.won
 have h3 := hf.s1
 omega
theorem addV_rng {p : Pr} {n : Int} (side : Int) (h : (0 ≤ p.1 ∧ p.1 ≤ n) ∧ 0 ≤ p.2 ∧ p.2 ≤ n) : (0 ≤ (addV p side).1 ∧ (addV p side).1 ≤ n + 1) ∧ 0 ≤ (addV p side).2 ∧ (addV p side).2 ≤ n + 1 := by
 unfold addV; cases decide (side = 0) <;> simp only [cond_true, cond_false] <;> omega
theorem SpBd.step {f : Fmt} {s : Spot} {n : Int} (h : SpBd f s n) (hn : 0 ≤ n) (ht : topS s ≠ f.sets) (side : Int) : SpBd f (stepS f s side) (n + 1) := by
 have hg := addV_rng side h.g
 have hp := addV_rng side h.p
 have up : ∀ q : Pr, (0 ≤ q.1 ∧ q.1 ≤ n) ∧ 0 ≤ q.2 ∧ q.2 ≤ n → (0 ≤ q.1 ∧ q.1 ≤ n + 1) ∧ 0 ≤ q.2 ∧ q.2 ≤ n + 1 := fun q hq => by omega
 have z : (0 ≤ ((0, 0) : Pr).1 ∧ ((0, 0) : Pr).1 ≤ n + 1) ∧ 0 ≤ ((0, 0) : Pr).2 ∧ ((0, 0) : Pr).2 ≤ n + 1 := ⟨⟨Int.le_refl _, by show (0 : Int) ≤ n + 1; omega⟩, Int.le_refl _, by show (0 : Int) ≤ n + 1; omega⟩
 have hst : ∀ q ∈ s.st, (0 ≤ q.1 ∧ q.1 ≤ n + 1) ∧ 0 ≤ q.2 ∧ q.2 ≤ n + 1 := fun q hq => up q (h.st q hq)
 unfold stepS
 cases gotS f s side
 ·
  exact ⟨up _ h.g, hp, h.won, hst⟩
 cases endS' f s side
 ·
  exact ⟨hg, z, h.won, hst⟩
 refine ⟨z, z, ?_, fun q hq => ?_⟩
 ·
  show (wonV (s.st ++ [addV s.g side])).1 ≤ f.sets ∧ (wonV (s.st ++ [addV s.g side])).2 ≤ f.sets ∧ (wonV (s.st ++ [addV s.g side])).1 + (wonV (s.st ++ [addV s.g side])).2 ≤ 2 * f.sets - 1
  rw [wonV_app]
  have h1 := h.won
  have h2 : max (wonV s.st).1 (wonV s.st).2 ≠ f.sets := ht
  unfold addV
  cases decide (wside (bif decide (side = 0) then (s.g.1 + 1, s.g.2) else (s.g.1, s.g.2 + 1)) = 0) <;> simp only [cond_true, cond_false] <;> omega
 ·
  rcases List.mem_append.1 hq with hq | hq
  ·
   exact hst q hq
  ·
   rw [List.mem_singleton] at hq; subst hq; exact hg
theorem step_first (f : Fmt) (s : Spot) (side : Int) : (stepS f s side).first = s.first := by
 unfold stepS; cases gotS f s side
 ·
  rfl
 cases endS' f s side <;> rfl
theorem spS_bd {f : Fmt} {first : Int} {r : List Int} (hf : f.Ok) (h : CanP f first r) : ∀ n, n ≤ r.length → SpBd f (spS f first r n) n ∧ (spS f first r n).first = first
 | 0, _ => ⟨⟨by exact ⟨⟨Int.le_refl _, Int.le_refl _⟩, Int.le_refl _, Int.le_refl _⟩, by exact ⟨⟨Int.le_refl _, Int.le_refl _⟩, Int.le_refl _, Int.le_refl _⟩, by
   have := hf.s0
   show (0 : Int) ≤ f.sets ∧ (0 : Int) ≤ f.sets ∧ (0 : Int) + 0 ≤ 2 * f.sets - 1
   omega, fun q hq => by cases hq⟩, rfl⟩
 | n + 1, hn => by
  obtain ⟨p, hp⟩ : ∃ p, r[n]? = some p := ⟨_, List.getElem?_eq_getElem (by omega)⟩
  obtain ⟨h1, h2⟩ := spS_bd hf h n (by omega)
  rw [spS_succ hp]
  exact ⟨h1.step (by omega) (h n p hp).2 p, (step_first ..).trans h2⟩
theorem SpBd.mono {f : Fmt} {s : Spot} {n m : Int} (h : SpBd f s n) (hm : n ≤ m) : SpBd f s m := ⟨by have := h.g; omega, by have := h.p; omega, h.won, fun q hq => by have := h.st q hq; omega⟩
theorem NdOk.bd {f : Fmt} {N : List Nd} {mn : Nat → Pr} {K : Int} {x : Nd} (hf : f.Ok) (h : NdOk f N mn K x) : SpBd f x.s K := by
 obtain ⟨r, _, h1, h2, h3⟩ := h.row
 have := (spS_bd hf h2 r.length (Nat.le_refl _)).1
 rw [h3] at this
 exact this.mono h1
theorem NdOk.len {f : Fmt} {N : List Nd} {mn : Nat → Pr} {K : Int} {x : Nd} (hf : f.Ok) (h : NdOk f N mn K x) : x.s.st.length ≤ 5 := (h.bd hf).len hf
theorem NdOk.k0 {f : Fmt} {N : List Nd} {mn : Nat → Pr} {K : Int} {x : Nd} (h : NdOk f N mn K x) : 0 ≤ K := by
 have := h.lo; omega

abbrev crE (ns : List Nd) : List (List Fl × Value) := ns.map fun x => (spotF x.s, bp x.b)
theorem crE_shape (ns : List Nd) : ∀ p ∈ crE ns, shapeOf p.1 = shapeOf (spotF ⟨0, [], (0, 0), (0, 0)⟩) := fun p hp => by
 obtain ⟨x, _, rfl⟩ := List.mem_map.1 hp; rfl
def getN (ns : List Nd) (s : Spot) : Option Nd := ns.find? fun x => decide (x.s = s)
theorem getN_some {ns : List Nd} {s : Spot} {x : Nd} (h : getN ns s = some x) : x ∈ ns ∧ x.s = s := ⟨List.mem_of_find?_eq_some h, of_decide_eq_true (List.find?_some (p := fun x : Nd => decide (x.s = s)) h)⟩
theorem getN_none {ns : List Nd} {s : Spot} (h : getN ns s = none) : ∀ x ∈ ns, x.s ≠ s := fun x hx e => by
 have := List.find?_eq_none.1 h x hx
 rw [decide_eq_true_eq] at this
 exact this e
theorem lkp_cr {ns : List Nd} {s : Spot} (h5 : ∀ x ∈ ns, x.s.st.length ≤ 5) (hs : s.st.length ≤ 5) : lkp (crE ns) (spotF s) = (getN ns s).map fun x => bp x.b := by
 induction ns with
 | nil => rfl
 | cons x ns ih =>
  have ih := ih fun y hy => h5 y (by simp [hy])
  unfold lkp crE getN at *
  rw [List.map_cons, List.find?_cons, List.find?_cons]
  by_cases e : x.s = s
  ·
   rw [decide_eq_true (show spotF s = spotF x.s by rw [e]), decide_eq_true e]; rfl
  ·
   rw [decide_eq_false (show ¬ spotF s = spotF x.s from fun h => e (spotF_inj hs h).symm), decide_eq_false e]; exact ih
theorem upd_cr {ns : List Nd} {x : Nd} (h5 : ∀ y ∈ ns, y.s.st.length ≤ 5) (hs : x.s.st.length ≤ 5) (h : getN ns x.s = none) : updM (crE ns) (spotF x.s) (bp x.b) = crE (ns ++ [x]) := by
 induction ns with
 | nil => rfl
 | cons y ns ih =>
  have hn := getN_none h
  have e : ¬ spotF x.s = spotF y.s := fun h => hn y (by simp) (spotF_inj hs h).symm
  show (if spotF x.s = spotF y.s then _ else _) = _
  rw [if_neg e, ih (fun z hz => h5 z (by simp [hz])) (List.find?_eq_none.2 fun z hz => by simpa using hn z (by simp [hz]))]
  rfl
def spotKs (ns : List Nd) : List Spot := ns.map (·.s)
def toC (mn : Nat → Pr) (ns : List Nd) : List En := ns.map fun x => (x.s, ((mn x.b).1, (mn x.b).2, 0))
theorem toC_keys (mn : Nat → Pr) (ns : List Nd) : keyC (toC mn ns) = spotKs ns := by
 unfold keyC toC spotKs; rw [List.map_map]; rfl
theorem toC_congr {mn mn' : Nat → Pr} {ns : List Nd} (h : ∀ x ∈ ns, mn' x.b = mn x.b) : toC mn' ns = toC mn ns := by
 unfold toC; exact List.map_congr_left fun x hx => by rw [h x hx]
def putNs (ns : List Nd) (x : Nd) : List Nd := match getN ns x.s with
 | some _ => ns
 | none => ns ++ [x]
def putM (ns : List Nd) (mn : Nat → Pr) (x : Nd) : Nat → Pr := match getN ns x.s with
 | some o => upN mn o.b (min (mn o.b).1 (mn x.b).1, max (mn o.b).2 (mn x.b).2)
 | none => mn
theorem putNs_mem {ns : List Nd} {x y : Nd} (h : y ∈ putNs ns x) : y ∈ ns ∨ y = x := by
 unfold putNs at h
 cases hg : getN ns x.s with
 | none => rw [hg] at h; rcases List.mem_append.1 h with h | h; exact .inl h; exact .inr (List.mem_singleton.1 h)
 | some o => rw [hg] at h; exact .inl h
theorem put_toC {ns : List Nd} {mn : Nat → Pr} {x : Nd} (hk : (spotKs ns).Nodup) (hb : ∀ y ∈ ns, ∀ z ∈ ns, y.b = z.b → y = z) : toC (putM ns mn x) (putNs ns x) = putC (toC mn ns) (x.s, ((mn x.b).1, (mn x.b).2, 0)) := by
 unfold putNs putM
 cases hg : getN ns x.s with
 | none =>
  dsimp only
  have hn := getN_none hg
  clear hg hk hb
  induction ns with
  | nil => rfl
  | cons y ns ih =>
   have := ih fun z hz => hn z (by simp [hz])
   show (y.s, _) :: toC mn (ns ++ [x]) = (if y.s = x.s then _ else _ :: putC (toC mn ns) _)
   rw [if_neg (hn y (by simp)), this]
 | some o =>
  dsimp only
  obtain ⟨ho, hs⟩ := getN_some hg
  clear hg
  induction ns with
  | nil => cases ho
  | cons y ns ih =>
   unfold spotKs at hk
   rw [List.map_cons, List.nodup_cons] at hk
   show (y.s, _) :: toC _ ns = (if y.s = x.s then _ else _ :: putC (toC mn ns) _)
   by_cases e : y.s = x.s
   ·
    rw [if_pos e]
    have : o = y := by
     rcases List.mem_cons.1 ho with rfl | ho
     ·
      rfl
     ·
      exact absurd (List.mem_map.2 ⟨o, ho, hs.trans e.symm⟩) hk.1
    subst this
    rw [upN_same, toC_congr (mn := mn) fun z hz => upN_other fun e2 => ?_]
    ·
     rfl
    ·
     have := hb z (by simp [hz]) o (by simp) e2
     subst this
     exact hk.1 (List.mem_map.2 ⟨z, hz, rfl⟩)
   ·
    rw [if_neg e]
    have ho' : o ∈ ns := (List.mem_cons.1 ho).resolve_left fun e2 => e (e2 ▸ hs)
    rw [upN_other (fun e2 => e (by rw [hb y (by simp) o ho e2]; exact hs)), ih hk.2 (fun z hz u hu => hb z (by simp [hz]) u (by simp [hu])) ho']
theorem putNs_keys {ns : List Nd} {x : Nd} (hk : (spotKs ns).Nodup) : (spotKs (putNs ns x)).Nodup := by
 unfold putNs
 cases hg : getN ns x.s with
 | some o => exact hk
 | none =>
  show ((ns ++ [x]).map (·.s)).Nodup
  rw [List.map_append, List.nodup_append]
  refine ⟨hk, List.nodup_cons.2 ⟨by simp, List.nodup_nil⟩, fun a ha b hb e => ?_⟩
  obtain ⟨y, hy, rfl⟩ := List.mem_map.1 ha
  simp only [List.map_cons, List.map_nil, List.mem_singleton] at hb
  exact getN_none hg y hy (e.trans hb)
theorem putM_ok {f : Fmt} {N ns : List Nd} {mn : Nat → Pr} {K : Int} {x : Nd} (h : PoolOk f N mn K) (hs : ∀ y ∈ ns, y ∈ N) (hx : x ∈ N) : PoolOk f N (putM ns mn x) K := by
 unfold putM
 cases hg : getN ns x.s with
 | none => exact h
 | some o =>
  have h1 := h.ok o (hs o (getN_some hg).1)
  have h2 := h.ok x hx
  have a1 := h1.lo; have a2 := h1.hi; have b1 := h2.lo; have b2 := h2.hi
  exact h.set o.b (by dsimp only; omega) (by dsimp only; omega)
theorem putM_other {ns : List Nd} {mn : Nat → Pr} {x : Nd} {k : Nat} (h : ∀ y ∈ ns, y.b ≠ k) : putM ns mn x k = mn k := by
 unfold putM
 cases hg : getN ns x.s with
 | none => rfl
 | some o => exact upN_other fun e => h o (getN_some hg).1 e.symm
end Go.Proofs.YthkliiifllhacaaGreat

namespace Go.Proofs.YthkliiifllhacaaGreat
open Go Go.RowKit

theorem plays_O {f : Fmt} {first : Int} {xs : List Int} {m : MS} (h1 : f.Ok) (h2 : first = 0 ∨ first = 1) (h3 : xs.length ≤ 600) (h : playTo f first xs xs.length = some m) (hc : chkF f = 0) : playO f first xs = some m := by
 have hs : sideBad first = false := by rcases h2 with rfl | rfl <;> rfl
 have hn : decide ((600 : Int) < xs.length) = false := by rw [decide_eq_false_iff_not]; omega
 have : preE f first xs.length = 0 := by
  rw [preE, hc, hs, hn]; rfl
 rw [playO, this]; exact h
end Go.Proofs.YthkliiifllhacaaGreat

namespace Go.Proofs.YthkliiifllhacaaGreat
open Go Go.RowKit

theorem can_play {f : Fmt} {first : Int} {ps : List Int} (hf : f.Ok) (h : CanP f first ps) : ∀ k, k ≤ ps.length → ∃ m, playTo f first ps k = some m ∧ spotOf m = spS f first ps k
 | 0, _ => ⟨_, rfl, begin_spot f first⟩
 | k + 1, hk => by
  obtain ⟨m, h1, h2⟩ := can_play hf h k (by omega)
  obtain ⟨p, hp⟩ : ∃ p, ps[k]? = some p := ⟨_, List.getElem?_eq_getElem (by omega)⟩
  obtain ⟨hs, ht⟩ := h k p hp
  have hr := playTo_rch hf h1
  have hmf := (playTo_inv hf h1).1
  have hin : m.Inv := by
   rcases hr.inv with hi | ⟨hd, hmx, _⟩
   ·
    exact hi
   ·
    exact absurd (by rw [← h2]; show max (wonV m.st).1 (wonV m.st).2 = f.sets; rw [hmx, hmf]) ht
  have hnb : (sideBad p || decide (0 ≤ m.winner)) = false := by
   have hw := hin.w
   have : sideBad p = false := by rcases hs with rfl | rfl <;> rfl
   rw [this, Bool.false_or]
   exact decide_eq_false (by omega)
  have hst := playTo_succ h1 hp
  rw [hnb] at hst
  refine ⟨_, hst, ?_⟩
  have := (spot_step (hmf ▸ hf) hin hr.cnt hs).1
  rw [h2, hmf, nxtS, decide_eq_false ht] at this
  rw [spS_succ hp]
  exact (Option.some.inj this).symm
structure PlayN (f : Fmt) (s : Spot) (r : List Int) (m : MS) : Prop where
 o : playO f s.first r = some m
 e : playE f s.first r = 0
 sp : spotOf m = s
 w : m.winner = winS f s
 sv : m.server = srvS f s
theorem can_playO {f : Fmt} {first : Int} {ps : List Int} (hf : f.Ok) (hc0 : chkF f = 0) (h1 : first = 0 ∨ first = 1) (h : CanP f first ps) (hn : ps.length ≤ 600) : ∃ m, playO f first ps = some m ∧ playE f first ps = 0 ∧ spotOf m = spS f first ps ps.length ∧ m.winner = winS f (spotOf m) ∧ m.server = srvS f (spotOf m) := by
 obtain ⟨m, h2, h3⟩ := can_play hf h ps.length (Nat.le_refl _)
 have hO := plays_O hf h1 hn h2 hc0
 have hr := playTo_rch hf h2
 obtain ⟨i1, i2, _⟩ := playTo_inv hf h2
 refine ⟨m, hO, playE_some hO, h3, ?_, ?_⟩
 ·
  rw [rch_win hr, i1]
 ·
  rw [rch_srv (by omega) hr, i1]
theorem NdOk.play {f : Fmt} {N : List Nd} {mn : Nat → Pr} {K : Int} {x : Nd} (hf : f.Ok) (hc0 : chkF f = 0) (hK : K ≤ 600) (h : NdOk f N mn K x) {r : List Int} (hn : (N.map (·.b)).Nodup) (hr : RowN N x r) : ∃ m, PlayN f x.s r m := by
 obtain ⟨r', h1, h2, h3, h4⟩ := h.row
 obtain rfl := h1.uniq hn hr
 obtain ⟨m, g1, g2, g3, g4, g5⟩ := can_playO hf hc0 h.fs h3 (by omega)
 rw [h4] at g3
 rw [g3] at g4 g5
 exact ⟨m, g1, g2, g3, g4, g5⟩
theorem row_next {f : Fmt} {N : List Nd} {x y : Nd} {K : Int} (hx : x ∈ N) (h : ∃ r, RowN N x r ∧ (r.length : Int) ≤ K ∧ CanP f x.s.first r ∧ spS f x.s.first r r.length = x.s) (hbf : y.bf = some x.b) (hsd : y.sd = 0 ∨ y.sd = 1) (hn : nxtS f x.s y.sd = some y.s) :
  y.s.first = x.s.first ∧ ∃ r, RowN N y r ∧ (r.length : Int) ≤ K + 1 ∧ CanP f y.s.first r ∧ spS f y.s.first r r.length = y.s := by
 obtain ⟨r, h1, h2, h3, h4⟩ := h
 have hfs : y.s.first = x.s.first := by
  have ht : topS x.s ≠ f.sets := fun e => by rw [nxtS, decide_eq_true e] at hn; cases hn
  rw [nxtS, decide_eq_false ht] at hn
  have := Option.some.inj hn
  rw [← this, step_first]
 rw [← h4] at hn
 obtain ⟨g1, g2⟩ := can_app h3 hsd hn
 refine ⟨hfs, r ++ [y.sd], .snoc hx hbf h1, by rw [List.length_append, List.length_singleton]; omega, by rw [hfs]; exact g1, by rw [hfs]; exact g2⟩
theorem PoolOk.next {f : Fmt} {N : List Nd} {mn : Nat → Pr} {K : Int} (h : PoolOk f N mn K) {x y : Nd} (hx : x ∈ N) (hne : ∀ z ∈ N, z.b ≠ y.b) (hbf : y.bf = some x.b) (hsd : y.sd = 0 ∨ y.sd = 1) (hn : nxtS f x.s y.sd = some y.s) : PoolOk f (y :: N) (upN mn y.b ((mn x.b).1 + 1, (mn x.b).2 + 1)) (K + 1) := by
 have hk := h.ok x hx
 obtain ⟨h1, h2⟩ := row_next hx hk.row hbf hsd hn
 have := hk.lo; have := hk.hi
 exact (h.up (by omega)).add hne (by rw [h1]; exact hk.fs) h2 (by dsimp only; omega) (by dsimp only; omega)
theorem PoolOk.copy {f : Fmt} {N : List Nd} {mn : Nat → Pr} {K : Int} (h : PoolOk f N mn K) {x y : Nd} (hx : x ∈ N) (hne : ∀ z ∈ N, z.b ≠ y.b) (hs : y.s = x.s) (hbf : y.bf = x.bf) (hsd : y.sd = x.sd) : PoolOk f (y :: N) (upN mn y.b (mn x.b)) K := by
 have hk := h.ok x hx
 obtain ⟨r, h1, h2⟩ := hk.row
 exact h.add hne (by rw [hs]; exact hk.fs) ⟨r, h1.copy hbf hsd, by rw [hs]; exact h2⟩ hk.lo hk.hi
theorem PoolOk.first {f : Fmt} {N : List Nd} {mn : Nat → Pr} {K : Int} (h : PoolOk f N mn K) (hK : 0 ≤ K) {y : Nd} (hne : ∀ z ∈ N, z.b ≠ y.b) (hf : y.s.first = 0 ∨ y.s.first = 1) (hs : y.s = ⟨y.s.first, [], (0, 0), (0, 0)⟩) (hbf : y.bf = none) : PoolOk f (y :: N) (upN mn y.b (0, 0)) K :=
 h.add hne hf ⟨[], .nil hbf, hK, fun n p hp => (by cases hp), by rw [hs]; rfl⟩ ⟨Int.le_refl _, hK⟩ ⟨Int.le_refl _, hK⟩

def From (N ns N' : List Nd) (y : Nd) (G : Nd → List Int → Prop) : Prop := ∃ x ∈ ns, ∃ r q, RowN N x r ∧ RowN N' y (r ++ q) ∧ y.s.first = x.s.first ∧ G x q
def QOk (f : Fmt) (x : Nt) (y : Spot) (q : List Int) : Prop :=
 if x.kind = 1 then ∃ p, q = [p] ∧ (x.side = -1 ∨ x.side = p) else if x.kind = 2 then x.pair.1 ≤ (q.length : Int) ∧ (q.length : Int) ≤ x.pair.2 else q = [] ∧ holdS f x y = true
theorem row_read {f : Fmt} {cf first : Int} {xs : List Nt} {j : Nat} {s u : Spot} {r q : List Int} {x : Nt} (h : Row_ f cf xs j s first r) (hx : xs[j]? = some x) (hc : CanP f first (r ++ q)) (hsp : spS f first (r ++ q) (r ++ q).length = u) (hq : QOk f x u q) : Row_ f cf xs (j + 1) u first (r ++ q) := by
 refine ⟨h.fs, h.cf, hc, ⟨x, r.length, hx, (fit_app h.fit).2, ?_⟩, hsp⟩
 unfold hitV
 unfold QOk at hq
 by_cases h1 : x.kind = 1
 ·
  rw [if_pos h1] at hq ⊢
  obtain ⟨p, rfl, hp⟩ := hq
  refine ⟨by rw [List.length_append]; rfl, Nat.le_refl _, hp.imp id fun e => ?_⟩
  rw [List.getElem?_append_right (Nat.le_refl _), Nat.sub_self, e]; rfl
 ·
  rw [if_neg h1] at hq ⊢
  by_cases h2 : x.kind = 2
  ·
   rw [if_pos h2] at hq ⊢
   rw [List.length_append]
   exact ⟨by omega, by omega, Nat.le_refl _⟩
  ·
   rw [if_neg h2] at hq ⊢
   obtain ⟨rfl, hq⟩ := hq
   rw [List.append_nil] at hsp ⊢
   exact ⟨rfl, by rw [hsp]; exact hq⟩
end Go.Proofs.YthkliiifllhacaaGreat

namespace Go.Proofs.YthkliiifllhacaaGreat
open Go Go.RowKit

section rules
variable {F : Fence} {P : Program} {ops : Array Oper} {Q : Exit → Act → World → Prop} {rest : List Oper} {n : Nat} {D : List Deferred} {l : Env} {w0 : World} {L M : List Ent}
variable {d : Nat} {ty : TypeId} {pos : String} {aft : Array Edge}
theorem pool_cell {w : World} {T : TypeId} {N : List Nd} {mn : Nat → Pr} {y : Nd} (hok : (poolE T N mn none).ok w) (hy : y ∈ N) (i : Nat) : w.cell? ⟨y.b, i, none⟩ = (nodeC y (mn y.b))[i]? := by
 rw [cell_of_row w y.b i _ T (0, 0) (hok y hy (by simp))]; simp
theorem ldQ {x : Operand} {t : TypeId} {size bytes : Nat} {z : Value} {zl : List Value} (hT : Ty P t false size bytes z zl := by infer_instance) {y : Nd} {o : Nat} {T : TypeId} {N : List Nd} {mn : Nat → Pr} {v : Value} (hy : y ∈ N)
  (hx : ev l x = some (.pointer (some ⟨y.b, o, none⟩)) := by exact rfl) (ha : At L (poolE T N mn none) M := by repeat (first | exact At.here | apply At.there)) (hc : (nodeC y (mn y.b))[o]? = some v := by exact rfl) : Yd P n D l w0 L (.load t x) (v) :=
 ⟨by simp, by simp, fun oo ho ac w hfr hst => by
  have hcell : w.cell? ⟨y.b, o, none⟩ = some v := by rw [pool_cell (hst _ ha.mem) hy, hc]
  simp [execOp, ho, hfr.eval hx, Instr.loadAt, Instr.sureAddr, run_loadVar1 hT hcell]⟩
theorem ldQA {x : Operand} {t : TypeId} {size bytes : Nat} {z : Value} {zl : List Value} (hT : Ty P t true size bytes z zl := by infer_instance) {y : Nd} {o : Nat} {T : TypeId} {N : List Nd} {mn : Nat → Pr} {vs : List Value} (hy : y ∈ N)
  (hx : ev l x = some (.pointer (some ⟨y.b, o, none⟩)) := by exact rfl) (ha : At L (poolE T N mn none) M := by repeat (first | exact At.here | apply At.there)) (hc : Tk (nodeC y (mn y.b)) o size vs := by repeat (first | exact Tk.nil | apply Tk.cons | apply Tk.skip)) : Yd P n D l w0 L (.load t x) (.agg vs.toArray) :=
 ⟨by simp, by simp, fun oo ho ac w hfr hst => by
  have hcell : ∀ j v, vs[j]? = some v → w.cell? ((⟨y.b, o, none⟩ : Addr).add j) = some v := fun j v hj => by
   rw [add_lit, pool_cell (hst _ ha.mem) hy]; exact hc.out.2 j v hj
  simp [execOp, ho, hfr.eval hx, Instr.loadAt, Instr.sureAddr, run_loadVarA hT hc.out.1 hcell]⟩
theorem stQ {x y : Operand} {t : TypeId} {bytes : Nat} {z : Value} {zl : List Value} (hT : Ty P t true 2 bytes z zl := by infer_instance) {o : Nd} {T : TypeId} {N : List Nd} {mn : Nat → Pr} {v : Pr} (ho : o ∈ N) (hn : (N.map (·.b)).Nodup)
  (hx : ev l x = some (.pointer (some ⟨o.b, 18, none⟩)) := by exact rfl) (hy : ev l y = some (.agg #[.int .i64 v.1, .int .i64 v.2]) := by exact rfl)
  (ha : At L (poolE T N mn none) M := by repeat (first | exact At.here | apply At.there))
  (h : WL F P ops Q rest n D l w0 (poolE T N (upN mn o.b v) none :: M)) : WL F P ops Q (⟨none, .store t x y, ty, pos, aft, none⟩ :: rest) n D l w0 L :=
 WL.skipop (by simp) (fun ac w hfr hst => by
  obtain ⟨w', hr, hs⟩ := run_storeCells (P := P) [.int .i64 v.1, .int .i64 v.2] (nodeC o (mn o.b)) 18 0 w ((hst.pull ha).pOpen ho) (fun _ => by show 18 + 0 + 2 ≤ 20; omega) (fun u hu => by
   rcases List.mem_cons.1 hu with rfl | hu
   ·
    rfl
   ·
    rw [List.mem_singleton] at hu; subst hu; rfl)
  refine ⟨w', ?_, St.pClose (v := v) hs ho hn⟩
  simp [execOp, hfr.eval hx, hfr.eval hy, Instr.storeAt, Instr.sureAddr, storeVar, run_sizeOf hT, Value.cells, hr]) h
theorem neqN {x y : Operand} {t u : TypeId} (hT : P.underlying t = some (.pointer (P.pointee t))) {o : Option Nat} (hx : ev l x = some (bpO o) := by exact rfl) (hy : ev l y = some (.pointer none) := by exact rfl) : Yd P n D l w0 L (.binOp .neq t x y u) (.bool o.isSome) :=
 ⟨by simp, by simp, fun oo ho ac w hfr _ => by
  have h1 : ∀ d : Nat, (Op.equalIn (d + 1) t (bpO o) (.pointer none)).run P w = .ok (!o.isSome) w := fun d => by
   cases o <;> simp only [Op.equalIn, Sem.run_bind, run_underlying hT, Result.andThen_ok, Option.map] <;> rfl
  have h2 : (Op.equal t (bpO o) (.pointer none)).run P w = .ok (!o.isSome) w := h1 9999
  simp only [execOp, ho, hfr.eval hx, hfr.eval hy, binOp, Sem.run_bind, eqGuard]
  simp [h2]⟩
theorem run_field {t k off ft size : Nat} (hT : FieldTy P t k off ft size) (cs : Array Value) (w : World) : (Instr.field t (.agg cs) k).run P w = (part ft cs off).run P w := by
 have hu := hT.und
 cases hq : P.underlying t with
 | none => simp [hq] at hu
 | some d =>
  cases d <;> simp [hq, fldD] at hu
  rename_i fs
  obtain ⟨f, hf, h1, h2⟩ := hu
  subst h1 h2
  simp [Instr.field, run_underlying hq, hf, asAgg]
theorem fdv1 {x : Operand} {t k off ft size sz bytes : Nat} {z : Value} {zl cs : List Value} {v : Value} (hT : FieldTy P t k off ft size := by infer_instance) (hE : Ty P ft false sz bytes z zl := by infer_instance) (hx : ev l x = some (.agg cs.toArray) := by exact rfl) (hv : cs[off]? = some v := by exact rfl) : Yd P n D l w0 L (.field t x k) v :=
 ⟨by simp, by simp, fun oo ho ac w hfr hst => by
  simp [execOp, ho, hfr.eval hx, run_field hT, part, run_isAgg hE, hv]⟩
theorem fdvA {x : Operand} {t k off ft size sz bytes : Nat} {z : Value} {zl cs vs : List Value} (hT : FieldTy P t k off ft size := by infer_instance) (hE : Ty P ft true sz bytes z zl := by infer_instance) (hx : ev l x = some (.agg cs.toArray) := by exact rfl) (hc : (cs.drop off).take sz = vs := by exact rfl) : Yd P n D l w0 L (.field t x k) (.agg vs.toArray) :=
 ⟨by simp, by simp, fun oo ho ac w hfr hst => by
  subst hc
  simp [execOp, ho, hfr.eval hx, run_field hT, part, run_isAgg hE, run_sizeOf hE, List.extract_toArray]⟩
theorem slAh {x hi : Operand} {t e : TypeId} {len size bytes b o : Nat} {agg : Bool} {z : Value} {zl : List Value} (hT : ArrayTy P t len e := by infer_instance) (hE : Ty P e agg size bytes z zl := by infer_instance) {k : IntKind} {i : Int}
  (hx : ev l x = some (.pointer (some ⟨b, o, none⟩)) := by exact rfl) (hi' : ev l hi = some (.int k i) := by exact rfl) (hb : 0 ≤ i ∧ i ≤ len) (hne : len ≠ 0) : Yd P n D l w0 L (.slice t x none (some hi) none) (.slice (some ⟨b, o, none⟩) i.toNat len) :=
 ⟨by simp, by simp, fun oo ho ac w hfr hst => by
  simp [execOp, ho, hfr.eval hx, hfr.eval hi', Instr.sliceAt, Instr.sureAddr, run_underlying hT.und, Instr.sliceBounds, run_sizeOf hE, Addr.add, sliceBound_ok (P := P) hb, hne]⟩
end rules
theorem rd_sets {w : World} {b : Nat} {T : TypeId} {s : Spot} (h5 : s.st.length ≤ 5) (h : (Ent.blk b T (spotC s)).ok w) : Rd w (some ⟨b, 2, none⟩) 2 s.st.length (encP s.st) := by
 refine rd_blkA h (by simp [encP]) (fun c hc => ?_) (fun c hc v hv => ?_) fun k c hk j v hj => ?_
 ·
  obtain ⟨p, _, rfl⟩ := List.mem_map.1 hc; rfl
 ·
  obtain ⟨p, _, rfl⟩ := List.mem_map.1 hc
  rcases List.mem_cons.1 hv with rfl | hv
  ·
   rfl
  ·
   rw [List.mem_singleton] at hv; subst hv; rfl
 ·
  have hkl : k < s.st.length := by
   have := (List.getElem?_eq_some_iff.1 hk).1
   simpa [encP] using this
  have hc : c = [.int .i64 (ep s k).1, .int .i64 (ep s k).2] := by
   have := encP_at (List.getElem?_eq_getElem hkl)
   rw [hk] at this
   have := Option.some.inj this
   rw [this, ep, List.getD_eq_getElem?_getD, List.getElem?_eq_getElem hkl]; rfl
  subst hc
  have hj2 : j = 0 ∨ j = 1 := by
   have := (List.getElem?_eq_some_iff.1 hj).1
   simp at this; omega
  have hk5 : k = 0 ∨ k = 1 ∨ k = 2 ∨ k = 3 ∨ k = 4 := by omega
  rcases hj2 with rfl | rfl <;> rcases hk5 with rfl | rfl | rfl | rfl | rfl <;> exact hj
end Go.Proofs.YthkliiifllhacaaGreat

namespace Go.Proofs.YthkliiifllhacaaGreat
open Go Go.RowKit

theorem C_card_within (n lo hi : Int) (w : World) : C0 Tryz.prog 164 [.int .i64 n, .int .i64 lo, .int .i64 hi] w (.bool (wi n lo hi)) := by
 refine ⟨en Tryz.func164 Tryz.ntmps164 (St.init w) (h := fun F => ?_)⟩
 refine sr ?_
 refine ww ?_
 refine nr ?_
 iterate 4 refine ww ?_
 apply brAnd 4 10 14 (by exact rfl)
 ·
  intro hb0
  iterate 3 refine uw ?_
  refine ww ?_
  exact mg (by repeat (first | exact trivial | refine ⟨rfl, ?_⟩ | refine ⟨by rw [hb0]; rfl, ?_⟩)) slz_
 ·
  intro hb0
  repeat (first | refine uz ?_ | refine kz ?_ | refine wz ?_)
  exact mg (by repeat (first | exact trivial | refine ⟨rfl, ?_⟩ | refine ⟨by rw [hb0]; rfl, ?_⟩)) slz_
 refine ww ?_
 refine nq ?_
 refine rtn ?_
 refine q_ret (hR := ?_)
 exact fun w hS => ⟨rfl, hS.sub slz_⟩
theorem C_card_more (p : Pr) (side : Int) (hp : Sm p) (w : World) : C0 Tryz.prog 217 [pv p, .int .i64 side] w (pv (addV p side)) := by
 obtain ⟨⟨h1, h2⟩, h3, h4⟩ := hp
 refine ⟨en Tryz.func217 Tryz.ntmps217 (St.init w) (h := fun F => ?_)⟩
 refine sr ?_
 refine bxA (h := fun b0 => ?_)
 refine al (h := fun b1 => ?_)
 refine nq ?_
 refine sq ?_
 refine sr ?_
 iterate 2 refine ww ?_
 refine nq ?_
 refine czz (fun h0 => ?_) fun h0 => ?_
 ·
  refine rg ?_
  iterate 4 refine ww ?_
  first | refine st (h := ?_) | refine stE (h := ?_)
  refine nr ?_
  refine ww ?_
  first | refine stA (h := ?_) | refine stEA (h := ?_)
  refine nq ?_
  refine rtn ?_
  refine q_ret (hR := ?_)
  exact fun w hS => ⟨cdT' (x := (p.1 + 1, p.2)) (fun p : Pr => Ending.returned (pv p)) h0, hS.sub slz_⟩
 ·
  refine rg ?_
  iterate 4 refine ww ?_
  first | refine st (h := ?_) | refine stE (h := ?_)
  refine nr ?_
  refine ww ?_
  first | refine stA (h := ?_) | refine stEA (h := ?_)
  refine nq ?_
  refine rtn ?_
  refine q_ret (hR := ?_)
  exact fun w hS => ⟨cdF' (y := (p.1, p.2 + 1)) (fun p : Pr => Ending.returned (pv p)) h0, hS.sub slz_⟩
theorem C_card_leads (p : Pr) (side l b : Int) (hp : Sm p) (w : World) : C0 Tryz.prog 218 [pv p, .int .i64 side, .int .i64 l, .int .i64 b] w (.bool (ldS p side l b)) := by
 obtain ⟨⟨h1, h2⟩, h3, h4⟩ := hp
 refine ⟨en Tryz.func218 Tryz.ntmps218 (St.init w) (h := fun F => ?_)⟩
 refine sr ?_
 refine bxA (h := fun b0 => ?_)
 refine ww ?_
 refine nq ?_
 refine sq ?_
 refine sr ?_
 iterate 2 refine ww ?_
 refine nq ?_
 refine czz (fun h0 => ?_) fun h0 => ?_
 ·
  refine rg ?_
  iterate 5 refine ww ?_
  first | refine st (h := ?_) | refine stE (h := ?_)
  refine ww ?_
  first | refine st (h := ?_) | refine stE (h := ?_)
  refine nr ?_
  iterate 5 refine ww ?_
  apply brAnd 8 21 29 (by exact rfl)
  ·
   intro hb1
   iterate 7 refine uw ?_
   refine ww ?_
   exact mg (by repeat (first | exact trivial | refine ⟨rfl, ?_⟩ | refine ⟨by rw [hb1]; rfl, ?_⟩)) slz_
  ·
   intro hb1
   repeat (first | refine uz ?_ | refine kz ?_ | refine wz ?_)
   exact mg (by repeat (first | exact trivial | refine ⟨rfl, ?_⟩ | refine ⟨by rw [hb1]; rfl, ?_⟩)) slz_
  refine ww ?_
  refine nq ?_
  refine rtn ?_
  refine q_ret (hR := ?_)
  exact fun w hS => ⟨by rw [ldS, h0]; rfl, hS.sub slz_⟩
 ·
  refine skp ?_
  refine q_seq ?_
  refine sr ?_
  iterate 5 refine ww ?_
  apply brAnd 8 21 29 (by exact rfl)
  ·
   intro hb2
   iterate 7 refine uw ?_
   refine ww ?_
   exact mg (by repeat (first | exact trivial | refine ⟨rfl, ?_⟩ | refine ⟨by rw [hb2]; rfl, ?_⟩)) slz_
  ·
   intro hb2
   repeat (first | refine uz ?_ | refine kz ?_ | refine wz ?_)
   exact mg (by repeat (first | exact trivial | refine ⟨rfl, ?_⟩ | refine ⟨by rw [hb2]; rfl, ?_⟩)) slz_
  refine ww ?_
  refine nq ?_
  refine rtn ?_
  refine q_ret (hR := ?_)
  exact fun w hS => ⟨by rw [ldS, h0]; rfl, hS.sub slz_⟩
theorem C_spot_won (s : Spot) (h5 : s.st.length ≤ 5) (w : World) : C0 Tryz.prog 202 [.agg (spotC s).toArray] w (pv (wonV s.st)) := by
 refine ⟨en Tryz.func202 Tryz.ntmps202 (St.init w) (h := fun F => ?_)⟩
 refine sr ?_
 refine bxA (h := fun b0 => ?_)
 refine al (h := fun b1 => ?_)
 refine nq ?_
 refine sq ?_
 refine sr ?_
 iterate 3 refine ww ?_
 refine wy (slAh (hb := by omega) (hne := by decide)) ?_
 rw [Int.toNat_natCast]
 iterate 2 refine ww ?_
 refine nq ?_
 refine bk ?_
 refine lp (X := WZ) (I := fun z => z.k ≤ s.st.length ∧ z.p = wonTo s.st z.k) (le := fun z => [(2, .pointer (some ⟨b1, 0, none⟩)), (8, .slice (some ⟨b0, 2, none⟩) s.st.length 5), (9, .int .i64 s.st.length), (10, .int .i64 z.k)]) (Le := fun z => [.blk b1 73 [.int .i64 z.p.1, .int .i64 z.p.2], .blk b0 143 (spotC s)]) (μ := fun z => s.st.length - z.k) ⟨0, (0, 0)⟩ ⟨Nat.zero_le _, rfl⟩ sbz_ slz_ (fun z hz => ?_)
 obtain ⟨hzk, hzp⟩ := hz
 refine sr ?_
 refine ww ?_
 refine nq ?_
 refine sq ?_
 refine czz (fun h0 => ?_) fun h0 => ?_
 ·
  have hkn : z.k < s.st.length := by simp only [decide_eq_true_eq] at h0; omega
  obtain ⟨q, hq⟩ : ∃ q, s.st[z.k]? = some q := ⟨_, List.getElem?_eq_getElem (by omega)⟩
  have hqe := encP_at hq
  have hst := wonTo_succ hq
  have hbd := wonTo_bd s.st z.k
  rw [← hzp] at hbd hst
  refine skp ?_
  refine q_seq ?_
  refine sq ?_
  refine bk ?_
  refine sr ?_
  refine wy (ix (es := encP s.st) (hr := Rds.there (Rds.any fun w hw => rd_sets h5 hw)) (hb := by omega)) ?_
  refine wy (ldEA (hr := Rds.there (Rds.any fun w hw => rd_sets h5 hw)) (hk := hqe)) ?_
  refine al (h := fun b2 => ?_)
  first | refine stA (h := ?_) | refine stEA (h := ?_)
  refine nr ?_
  iterate 5 refine ww ?_
  refine nq ?_
  refine czz (fun h1 => ?_) fun h1 => ?_
  ·
   have hw : addV z.p (wside q) = (z.p.1 + 1, z.p.2) := by
    have h' : decide (q.2 < q.1) = true := h1
    rw [wside, h']; rfl
   refine rg ?_
   iterate 4 refine ww ?_
   first | refine st (h := ?_) | refine stE (h := ?_)
   refine nl ?_
   refine q_blk_norm ?_
   refine q_seq ?_
   refine rg ?_
   iterate 2 refine ww ?_
   refine nl ?_
   refine rn (x := z) ⟨z.k + 1, addV z.p (wside q)⟩ ⟨by dsimp only; omega, hst.symm⟩ (by dsimp only; omega) sbz_ (by rw [hw]; exact slz_)
  ·
   have hw : addV z.p (wside q) = (z.p.1, z.p.2 + 1) := by
    have h' : decide (q.2 < q.1) = false := h1
    rw [wside, h']; rfl
   refine rg ?_
   iterate 4 refine ww ?_
   first | refine st (h := ?_) | refine stE (h := ?_)
   refine nl ?_
   refine q_blk_norm ?_
   refine q_seq ?_
   refine rg ?_
   iterate 2 refine ww ?_
   refine nl ?_
   refine rn (x := z) ⟨z.k + 1, addV z.p (wside q)⟩ ⟨by dsimp only; omega, hst.symm⟩ (by dsimp only; omega) sbz_ (by rw [hw]; exact slz_)
 ·
  have hkn : z.k = s.st.length := by simp only [decide_eq_false_iff_not] at h0; omega
  refine et ?_
  iterate 2 refine q_then_exit ?_
  refine q_blk_hit ?_
  refine q_seq ?_
  refine sr ?_
  refine ww ?_
  first | refine stA (h := ?_) | refine stEA (h := ?_)
  refine nq ?_
  refine rtn ?_
  refine q_ret (hR := ?_)
  exact fun w hS => ⟨by rw [hkn] at hzp; rw [hzp]; rfl, hS.sub slz_⟩
end Go.Proofs.YthkliiifllhacaaGreat

namespace Go.Proofs.YthkliiifllhacaaGreat
open Go Go.RowKit

theorem encI_set (xs : List Int) (i : Nat) (x : Int) : (encI xs).set i [.int .i64 x] = encI (xs.set i x) := by unfold encI; rw [List.map_set]
def RevI (xs : List Int) (k : Nat) (ys : List Int) : Prop := ys.length = xs.length ∧ ∀ i, i < xs.length → ys[i]? = if i < k ∨ xs.length ≤ i + k then xs[xs.length - 1 - i]? else xs[i]?
theorem rev_start (xs : List Int) : RevI xs 0 xs := ⟨rfl, fun i hi => by rw [if_neg (by omega)]⟩
theorem rev_end {xs ys : List Int} {k : Nat} (h : RevI xs k ys) (hk : xs.length ≤ 2 * k + 1) : ys = xs.reverse := by
 refine List.ext_getElem? fun i => ?_
 by_cases hi : i < xs.length
 ·
  rw [h.2 i hi, List.getElem?_reverse hi]
  by_cases hc : i < k ∨ xs.length ≤ i + k
  ·
   rw [if_pos hc]
  ·
   rw [if_neg hc]; congr 1; omega
 ·
  rw [List.getElem?_eq_none (by rw [h.1]; omega), List.getElem?_eq_none (by rw [List.length_reverse]; omega)]
theorem rev_step {xs ys : List Int} {k : Nat} (h : RevI xs k ys) (hk : 2 * k + 1 < xs.length) {a b : Int} (ha : ys[k]? = some a) (hb : ys[xs.length - 1 - k]? = some b) : RevI xs (k + 1) ((ys.set k b).set (xs.length - 1 - k) a) := by
 have ha' : xs[k]? = some a := by have := h.2 k (by omega); rw [if_neg (by omega)] at this; rw [← this]; exact ha
 have hb' : xs[xs.length - 1 - k]? = some b := by have := h.2 (xs.length - 1 - k) (by omega); rw [if_neg (by omega)] at this; rw [← this]; exact hb
 have hl := h.1
 refine ⟨by simp [hl], fun i hi => ?_⟩
 by_cases e1 : i = xs.length - 1 - k
 ·
  subst e1
  rw [List.getElem?_set_self (by simp; omega), if_pos (by omega), show xs.length - 1 - (xs.length - 1 - k) = k by omega, ha']
 ·
  rw [List.getElem?_set_ne (fun e => e1 e.symm)]
  by_cases e2 : i = k
  ·
   subst e2
   rw [List.getElem?_set_self (by omega), if_pos (by omega), hb']
  ·
   rw [List.getElem?_set_ne (fun e => e2 e.symm), h.2 i hi]
   by_cases hc : i < k ∨ xs.length ≤ i + k
   ·
    rw [if_pos hc, if_pos (by omega)]
   ·
    rw [if_neg hc, if_neg (by omega)]
structure RVZ where
 (k : Nat) (ys : List Int)
theorem T_Reverse (xs : List Int) (A : Option Addr) (n c : Nat) (hlen : xs.length = n) (hn : n ≤ 100000) : Tr Tryz.prog 225 [.slice A n c] [.own A c 3 1 n (encI xs)] (fun _ : Unit => True) (fun _ => .tuple #[]) (fun _ => [.own A c 3 1 n (encI xs.reverse)]) := by
 refine ⟨fun w0 w R hst => ?_⟩
 refine en Tryz.func225 Tryz.ntmps225 hst (h := fun F => ?_)
 refine sr ?_
 iterate 5 refine ww ?_
 refine nq ?_
 refine bk ?_
 refine lp (X := RVZ) (I := fun z => z.k ≤ n ∧ RevI xs z.k z.ys) (le := fun z => [(0, .slice A n c), (2, .int .i64 z.k), (3, .int .i64 ((n : Int) - 1 - (z.k : Int)))]) (Le := fun z => .own A c 3 1 n (encI z.ys) :: R) (μ := fun z => n - z.k) ⟨0, xs⟩ ⟨Nat.zero_le _, rev_start xs⟩ (by repeat (first | exact trivial | refine ⟨rfl, ?_⟩ | refine ⟨by show some (Value.int .i64 ((n : Int) - 1)) = some (Value.int .i64 ((n : Int) - 1 - ((0 : Nat) : Int))); congr 2; omega, ?_⟩)) (SubL.refl _) (fun z hz => ?_)
 obtain ⟨hzk, hzr⟩ := hz
 have hyl := hzr.1
 refine sq ?_
 refine sr ?_
 iterate 3 refine ww ?_
 refine nq ?_
 refine czz (fun h0 => ?_) fun h0 => ?_
 ·
  have hk1 : 2 * z.k + 1 < n := by simp only [decide_eq_true_eq] at h0; omega
  obtain ⟨a, ha⟩ : ∃ a, z.ys[z.k]? = some a := ⟨_, List.getElem?_eq_getElem (by omega)⟩
  obtain ⟨b, hb⟩ : ∃ b, z.ys[n - 1 - z.k]? = some b := ⟨_, List.getElem?_eq_getElem (by omega)⟩
  have hj : ((n : Int) - 1 - (z.k : Int)).toNat = n - 1 - z.k := by omega
  have hnx := rev_step hzr (by omega) ha (by rw [hlen]; exact hb)
  rw [hlen] at hnx
  have hka : (encI z.ys)[((z.k : Nat) : Int).toNat]? = some [.int .i64 a] := encI_at ha
  have hkb : (encI z.ys)[((n : Int) - 1 - (z.k : Int)).toNat]? = some [.int .i64 b] := by rw [hj]; exact encI_at hb
  have hk2 : ((encI z.ys).set ((z.k : Nat) : Int).toNat ([Value.int .i64 a].set 0 (.int .i64 b)))[((n : Int) - 1 - (z.k : Int)).toNat]? = some [.int .i64 b] := by
   rw [hj, List.getElem?_set_ne (by show z.k ≠ n - 1 - z.k; omega)]; exact encI_at hb
  have hsw : ((encI z.ys).set ((z.k : Nat) : Int).toNat ([Value.int .i64 a].set 0 (.int .i64 b))).set ((n : Int) - 1 - (z.k : Int)).toNat ([Value.int .i64 b].set 0 (.int .i64 a)) = encI ((z.ys.set z.k b).set (n - 1 - z.k) a) := by
   rw [hj]
   show ((encI _).set z.k [.int .i64 b]).set (n - 1 - z.k) [.int .i64 a] = _
   rw [encI_set, encI_set]
  refine skp ?_
  refine q_seq ?_
  refine sq ?_
  refine bk ?_
  refine WC.some_ (A := A) atz_ (by omega) (fun hAs => ?_)
  refine rgD (by kernel_rfl) [(13, .own A c 3 1 n (encI z.ys))] (by repeat (first | exact HS.nil | (apply HS.keep; (repeat (first | exact At.here | apply At.there))) | (apply HS.ro; (repeat (first | exact Rds.ro | exact Rds.own | apply Rds.there))))) (h := ?_)
  refine tw 0 ?_
  refine tw 1 ?_
  refine tw 2 ?_
  refine tw 3 ?_
  refine tw 4 ?_
  refine tw 5 ?_
  refine tk 6 (hy := ix (A := A) (m := n)) (h := ?_)
  refine tk 7 (hy := ldE (A := A) (hk := hkb)) (h := ?_)
  refine tw 8 ?_
  refine tw 9 ?_
  refine tk 10 (hy := ixS (A := A) (m := n) (hs := hAs)) (h := ?_)
  refine tk 11 (hy := ldE (A := A) (hk := hka)) (h := ?_)
  refine tk 12 (hy := ixS (A := A) (m := n) (hs := hAs)) (h := ?_)
  refine one 13 (h := ?_)
  refine stE (A := A) (hk := hka) (h := ?_)
  refine nx (h := ?_)
  refine one 14 (h := ?_)
  refine wy (ix (A := A) (m := n)) ?_
  refine nx (h := ?_)
  refine one 15 (h := ?_)
  refine stE (A := A) (hk := hk2) (h := ?_)
  refine nx (h := ?_)
  refine dn (h := ?_)
  refine q_blk_norm ?_
  refine q_seq ?_
  refine rg ?_
  iterate 6 refine ww ?_
  refine nl ?_
  rw [hsw]
  refine rn (x := z) ⟨z.k + 1, (z.ys.set z.k b).set (n - 1 - z.k) a⟩ ⟨by dsimp only; omega, hnx⟩ (by dsimp only; omega) (by repeat (first | exact trivial | refine ⟨rfl, ?_⟩ | refine ⟨by show some (Value.int .i64 ((n : Int) - 1 - (z.k : Int) - 1)) = some (Value.int .i64 ((n : Int) - 1 - ((z.k + 1 : Nat) : Int))); congr 2; omega, ?_⟩)) slz_
 ·
  have hk1 : n ≤ 2 * z.k + 1 := by simp only [decide_eq_false_iff_not] at h0; omega
  have he := rev_end hzr (by omega)
  refine et ?_
  iterate 2 refine q_then_exit ?_
  refine q_blk_hit ?_
  refine q_end (hR := ?_)
  exact fun w hS => ⟨(), trivial, rfl, by rw [he] at hS; exact hS.sub slz_⟩

theorem row_none {N : List Nd} {x : Nd} {r : List Int} (h : RowN N x r) (hb : x.bf = none) : r = [] := by
 cases h with
 | nil _ => rfl
 | snoc _ h2 _ => rw [hb] at h2; cases h2
theorem row_some {N : List Nd} {x : Nd} {r : List Int} {b : Nat} (h : RowN N x r) (hb : x.bf = some b) : ∃ y r', y ∈ N ∧ y.b = b ∧ RowN N y r' ∧ r = r' ++ [x.sd] := by
 cases h with
 | nil h2 => rw [hb] at h2; cases h2
 | snoc hy h2 hr => rw [hb] at h2; exact ⟨_, _, hy, (Option.some.inj h2).symm, hr, rfl⟩
structure RWS where
 (x : Nd) (A : Option Addr) (c : Nat) (r q : List Int)
theorem T_node_row (N : List Nd) (mn : Nat → Pr) (x : Nd) (hx : x ∈ N) (r : List Int) (hr : RowN N x r) (hn : r.length ≤ 1000) : Tr Tryz.prog 219 [bp x.b] [poolE 255 N mn none] (fun _ : Option Addr × Nat => True) (fun p => .slice p.1 r.length p.2) (fun p => [.own p.1 p.2 3 1 r.length (encI r), poolE 255 N mn none]) := by
 refine ⟨fun w0 w R hst => ?_⟩
 refine en Tryz.func219 Tryz.ntmps219 hst (h := fun F => ?_)
 refine sr ?_
 refine ww ?_
 refine nr ?_
 refine ww ?_
 refine WL.nilOwn 3 1 (h := ?_)
 refine nq ?_
 refine sq ?_
 refine bk ?_
 refine lp (X := RWS) (I := fun z => z.x ∈ N ∧ RowN N z.x z.r ∧ r = z.r ++ z.q.reverse) (le := fun z => [(0, bp z.x.b), (3, .slice z.A z.q.length z.c)]) (Le := fun z => .own z.A z.c 3 1 z.q.length (encI z.q) :: poolE 255 N mn none :: R) (μ := fun z => z.r.length) ⟨x, none, 0, r, []⟩ ⟨hx, hr, by rw [List.reverse_nil, List.append_nil]⟩ sbz_ slz_ (fun z hz => ?_)
 obtain ⟨hzx, hzr, hzq⟩ := hz
 have hzl : z.q.length ≤ 1000 := by
  have := congrArg List.length hzq
  rw [List.length_append, List.length_reverse] at this; omega
 refine sq ?_
 refine sr ?_
 iterate 3 refine ww ?_
 refine wy (ldQ (hy := hzx)) ?_
 refine wy (neqN (by kernel_rfl)) ?_
 refine nq ?_
 refine czz (fun h0 => ?_) fun h0 => ?_
 ·
  obtain ⟨b', hb'⟩ := Option.isSome_iff_exists.1 h0
  obtain ⟨y, r', hy, hyb, hyr, hre⟩ := row_some hzr hb'
  refine skp ?_
  refine q_seq ?_
  refine sq ?_
  refine bk ?_
  refine rg ?_
  iterate 4 refine ww ?_
  refine wy (ldQ (hy := hzx)) ?_
  refine bs (h := fun b0 => ?_)
  refine ap (es := encI z.q) (m := z.q.length) (A := z.A) (c := z.c) (h := fun A1 c1 => ?_)
  refine ww ?_
  refine nl ?_
  refine q_blk_norm ?_
  refine q_seq ?_
  refine rg ?_
  iterate 3 refine ww ?_
  refine wy (ldQ (hy := hzx)) ?_
  refine ww ?_
  refine nl ?_
  refine rn (x := z) ⟨y, A1, c1, r', z.q ++ [z.x.sd]⟩ ⟨hy, hyr, by rw [hzq, hre, List.reverse_append]; simp⟩ (by dsimp only; rw [hre, List.length_append, List.length_singleton]; omega) (by rw [List.length_append]; repeat (first | exact trivial | refine ⟨rfl, ?_⟩ | refine ⟨by rw [hyb]; show some (bpO z.x.bf) = _; rw [hb']; rfl, ?_⟩)) (by rw [List.length_append, show encI (z.q ++ [z.x.sd]) = encI z.q ++ [[.int .i64 z.x.sd]] from List.map_append]; exact slz_)
 ·
  have hbn : z.x.bf = none := by simpa using h0
  have hr0 := row_none hzr hbn
  have hq : z.q.reverse = r := by rw [hr0] at hzq; rw [hzq]; rfl
  have hql : z.q.length = r.length := by rw [← hq, List.length_reverse]
  refine et ?_
  iterate 2 refine q_then_exit ?_
  refine q_blk_hit ?_
  refine q_seq ?_
  refine sr ?_
  refine ww ?_
  refine clT (hc := T_Reverse z.q z.A z.q.length z.c rfl (by omega)) (h := fun _ _ => ?_)
  refine nr ?_
  iterate 2 refine ww ?_
  refine nq ?_
  refine rtn ?_
  refine q_ret (hR := ?_)
  rw [hql, hq]
  exact fun w hS => ⟨(z.A, z.c), trivial, rfl, hS.sub slz_⟩
end Go.Proofs.YthkliiifllhacaaGreat

namespace Go.Proofs.YthkliiifllhacaaGreat
open Go Go.RowKit

abbrev MC := Array MapEntry × Nat
theorem flL_ints : ∀ xs : List Int, FlL (xs.map vI) (xs.map Fl.i)
 | [] => .nil
 | _ :: xs => .int (flL_ints xs)
theorem flL_spot (s : Spot) : FlL (spotC s) (spotF s) := flL_ints [s.first, (s.st.length : Int), (ep s 0).1, (ep s 0).2, (ep s 1).1, (ep s 1).2, (ep s 2).1, (ep s 2).2, (ep s 3).1, (ep s 3).2, (ep s 4).1, (ep s 4).2, s.g.1, s.g.2, s.p.1, s.p.2]
set_option maxRecDepth 100000 in
theorem T_put_old (N ns : List Nd) (mn : Nat → Pr) (x o : Nd) (bm : Nat) (es : Array MapEntry) (c : Nat) (hm : MapIs es (crE ns)) (hs : Stm es c) (hn : (N.map (·.b)).Nodup) (h5 : ∀ y ∈ N, y.s.st.length ≤ 5) (hN : ∀ y ∈ ns, y ∈ N) (hx : x ∈ N) (hg : getN ns x.s = some o) :
  Tr Tryz.prog 166 [.map (some bm), bp x.b] [poolE 255 N mn none, .obj bm (.map es c)] (fun p : MC => MapIs p.1 (crE (putNs ns x)) ∧ Stm p.1 p.2) (fun _ => .tuple #[]) (fun p => [poolE 255 N (putM ns mn x) none, .obj bm (.map p.1 p.2)]) := by
 refine ⟨fun w0 w R hst => ?_⟩
 have hoN := hN o (getN_some hg).1
 have hl : lkp (crE ns) (spotF x.s) = some (bp o.b) := by rw [lkp_cr (fun y hy => h5 y (hN y hy)) (h5 x hx), hg]; rfl
 have hM : putM ns mn x = upN mn o.b (min (mn o.b).1 (mn x.b).1, max (mn o.b).2 (mn x.b).2) := by unfold putM; rw [hg]
 have hS : putNs ns x = ns := by unfold putNs; rw [hg]
 refine en Tryz.func166 Tryz.ntmps166 hst (h := fun F => ?_)
 refine sq ?_
 refine sr ?_
 iterate 4 refine ww ?_
 refine wy (ldQA (hy := hx)) ?_
 refine wy (lkC (kv := crE ns) (hm := hm) (hs := crE_shape ns) (hl := flL_spot x.s)) ?_
 rw [hl]
 iterate 5 refine ww ?_
 refine nr ?_
 refine ww ?_
 refine nq ?_
 refine cdT (h := ?_)
 refine sq ?_
 refine rgD (by kernel_rfl) [(26, poolE 255 N mn none)] (by repeat (first | exact HS.nil | (apply HS.keep; (repeat (first | exact At.here | apply At.there))) | (apply HS.ro; (repeat (first | exact Rds.ro | exact Rds.own | apply Rds.there))))) (h := ?_)
 refine tw 0 ?_
 refine tw 1 ?_
 refine tw 2 ?_
 refine tw 3 ?_
 refine tw 4 ?_
 refine tk 5 (hy := ldQ (hy := hoN)) (h := ?_)
 refine tw 6 ?_
 refine tw 7 ?_
 refine tw 8 ?_
 refine tw 9 ?_
 refine tk 10 (hy := ldQ (hy := hx)) (h := ?_)
 refine tw 11 ?_
 refine tw 12 ?_
 refine tw 13 ?_
 refine tw 14 ?_
 refine tw 15 ?_
 refine tk 16 (hy := ldQ (hy := hoN)) (h := ?_)
 refine tw 17 ?_
 refine tw 18 ?_
 refine tw 19 ?_
 refine tw 20 ?_
 refine tk 21 (hy := ldQ (hy := hx)) (h := ?_)
 refine tw 22 ?_
 refine tw 23 ?_
 refine tw 24 ?_
 refine tw 25 ?_
 refine one 26 (h := ?_)
 refine stQ (v := (min (mn o.b).1 (mn x.b).1, max (mn o.b).2 (mn x.b).2)) (ho := hoN) (hn := hn) (h := ?_)
 refine nx (h := ?_)
 refine dn (h := ?_)
 refine q_seq ?_
 refine rtn ?_
 refine q_then_ret ?_
 refine q_ret (hR := ?_)
 rw [hM, hS]
 exact fun w hS => ⟨(es, c), ⟨hm, hs⟩, rfl, hS.sub slz_⟩
set_option maxRecDepth 100000 in
theorem T_put_new (N ns : List Nd) (mn : Nat → Pr) (x : Nd) (bm : Nat) (es : Array MapEntry) (c : Nat) (hm : MapIs es (crE ns)) (hs : Stm es c) (h5 : ∀ y ∈ N, y.s.st.length ≤ 5) (hN : ∀ y ∈ ns, y ∈ N) (hx : x ∈ N) (hg : getN ns x.s = none) :
  Tr Tryz.prog 166 [.map (some bm), bp x.b] [poolE 255 N mn none, .obj bm (.map es c)] (fun p : MC => MapIs p.1 (crE (putNs ns x)) ∧ Stm p.1 p.2) (fun _ => .tuple #[]) (fun p => [poolE 255 N (putM ns mn x) none, .obj bm (.map p.1 p.2)]) := by
 refine ⟨fun w0 w R hst => ?_⟩
 have hl : lkp (crE ns) (spotF x.s) = none := by rw [lkp_cr (fun y hy => h5 y (hN y hy)) (h5 x hx), hg]; rfl
 have hM : putM ns mn x = mn := by unfold putM; rw [hg]
 have hS : putNs ns x = ns ++ [x] := by unfold putNs; rw [hg]
 have hU := upd_cr (fun y hy => h5 y (hN y hy)) (h5 x hx) hg
 refine en Tryz.func166 Tryz.ntmps166 hst (h := fun F => ?_)
 refine sq ?_
 refine sr ?_
 iterate 4 refine ww ?_
 refine wy (ldQA (hy := hx)) ?_
 refine wy (lkC (kv := crE ns) (hm := hm) (hs := crE_shape ns) (hl := flL_spot x.s)) ?_
 rw [hl]
 iterate 5 refine ww ?_
 refine nr ?_
 refine ww ?_
 refine nq ?_
 refine cdF (h := ?_)
 refine skp ?_
 refine q_seq ?_
 refine rg ?_
 iterate 4 refine ww ?_
 refine wy (ldQA (hy := hx)) ?_
 refine ww ?_
 refine mupS (kv := crE ns) (hm := hm) (hs := crE_shape ns) (hst0 := hs) (hl := flL_spot x.s) (h := fun es1 c1 hm1 hs1 => ?_)
 rw [show updM (crE ns) _ _ = _ from hU] at hm1
 refine nl ?_
 refine q_end (hR := ?_)
 rw [hM, hS]
 exact fun w hS => ⟨(es1, c1), ⟨hm1, hs1⟩, rfl, hS.sub slz_⟩
theorem T_put (N ns : List Nd) (mn : Nat → Pr) (x : Nd) (bm : Nat) (es : Array MapEntry) (c : Nat) (hm : MapIs es (crE ns)) (hs : Stm es c) (hn : (N.map (·.b)).Nodup) (h5 : ∀ y ∈ N, y.s.st.length ≤ 5) (hN : ∀ y ∈ ns, y ∈ N) (hx : x ∈ N) :
  Tr Tryz.prog 166 [.map (some bm), bp x.b] [poolE 255 N mn none, .obj bm (.map es c)] (fun p : MC => MapIs p.1 (crE (putNs ns x)) ∧ Stm p.1 p.2) (fun _ => .tuple #[]) (fun p => [poolE 255 N (putM ns mn x) none, .obj bm (.map p.1 p.2)]) := by
 cases hg : getN ns x.s with
 | some o => exact T_put_old N ns mn x o bm es c hm hs hn h5 hN hx hg
 | none => exact T_put_new N ns mn x bm es c hm hs h5 hN hx hg
end Go.Proofs.YthkliiifllhacaaGreat

namespace Go.Proofs.YthkliiifllhacaaGreat
open Go Go.RowKit

abbrev cardC (f : Fmt) (first : Int) (A : Option Addr) (n c : Nat) : List Value := [.int .i64 f.sets, .int .i64 f.games, .bool f.noAd, .int .i64 f.tie, .int .i64 f.to, .int .i64 f.ltie, .int .i64 f.lto, .int .i64 f.first, .int .i64 f.thn, .bool f.dbl, .int .i64 first, .slice A n c]
theorem ret_next {w0 w : World} {R : List Ent} {T : TypeId} {N : List Nd} {mn : Nat → Pr} {b bx : Nat} {cells : List Value} {u : Spot} {side : Int} {v : Pr} (h : St w0 w (.blk b T cells :: poolE T N mn none :: R)) (hc : cells = nodeC ⟨b, u, some bx, side⟩ v) :
  ∃ k : Nat, (∀ y ∈ N, y.b ≠ k) ∧ Ending.returned (bp b) = Ending.returned (bp k) ∧ St w0 w ([poolE T (⟨k, u, some bx, side⟩ :: N) (upN mn k v) none] ++ R) := by
 subst hc
 have := St.pNew (x := ⟨b, u, some bx, side⟩) h
 exact ⟨b, this.1, rfl, this.2⟩
theorem pair_eq2 (a b c d : Int) : decide ([a, b] = [c, d]) = (decide (a = c) && decide (b = d)) := by
 rw [Bool.eq_iff_iff, Bool.and_eq_true, decide_eq_true_eq, decide_eq_true_eq, decide_eq_true_eq]
 simp
theorem set_cond (f : Fmt) (won : Pr) : (decide (won.1 = won.2) && decide (won.1 = f.sets - 1)) = (decide (won.1 = f.sets - 1) && decide (won.2 = f.sets - 1)) := by
 rw [Bool.eq_iff_iff, Bool.and_eq_true, Bool.and_eq_true, decide_eq_true_eq, decide_eq_true_eq, decide_eq_true_eq]
 omega
theorem put_sets {s : Spot} (h : s.st.length ≤ 4) (o : Value) (g p q : Pr) : putAll [.int .i64 s.first, o, .int .i64 (ep s 0).1, .int .i64 (ep s 0).2, .int .i64 (ep s 1).1, .int .i64 (ep s 1).2, .int .i64 (ep s 2).1, .int .i64 (ep s 2).2, .int .i64 (ep s 3).1, .int .i64 (ep s 3).2, .int .i64 (ep s 4).1, .int .i64 (ep s 4).2, .int .i64 g.1, .int .i64 g.2, .int .i64 p.1, .int .i64 p.2] (2 + ((s.st.length : Int)).toNat * 2) [.int .i64 q.1, .int .i64 q.2]
  = [.int .i64 s.first, o, .int .i64 ((s.st ++ [q]).getD 0 (0, 0)).1, .int .i64 ((s.st ++ [q]).getD 0 (0, 0)).2, .int .i64 ((s.st ++ [q]).getD 1 (0, 0)).1, .int .i64 ((s.st ++ [q]).getD 1 (0, 0)).2, .int .i64 ((s.st ++ [q]).getD 2 (0, 0)).1, .int .i64 ((s.st ++ [q]).getD 2 (0, 0)).2, .int .i64 ((s.st ++ [q]).getD 3 (0, 0)).1, .int .i64 ((s.st ++ [q]).getD 3 (0, 0)).2, .int .i64 ((s.st ++ [q]).getD 4 (0, 0)).1, .int .i64 ((s.st ++ [q]).getD 4 (0, 0)).2, .int .i64 g.1, .int .i64 g.2, .int .i64 p.1, .int .i64 p.2] := by
 obtain ⟨fs, st, g', p'⟩ := s
 match st, h with
 | [], _ => rfl
 | [_], _ => rfl
 | [_, _], _ => rfl
 | [_, _, _], _ => rfl
 | [_, _, _, _], _ => rfl
 | _ :: _ :: _ :: _ :: _ :: _, h => simp at h
set_option maxRecDepth 100000 in
theorem T_next_none (f : Fmt) (cf : Int) (A : Option Addr) (n c : Nat) (N : List Nd) (mn : Nat → Pr) (x : Nd) (side : Int) (h5 : x.s.st.length ≤ 5) (hx : x ∈ N) (hn : nxtS f x.s side = none) :
  Tr Tryz.prog 201 [.agg (cardC f cf A n c).toArray, bp x.b, .int .i64 side] [poolE 255 N mn none] (fun _ : Unit => True) (fun _ => .pointer none) (fun _ => [poolE 255 N mn none]) := by
 refine ⟨fun w0 w R hst => ?_⟩
 have htop : topS x.s = f.sets := by
  by_cases e : topS x.s = f.sets
  ·
   exact e
  ·
   rw [nxtS, decide_eq_false e] at hn; cases hn
 refine en Tryz.func201 Tryz.ntmps201 hst (h := fun F => ?_)
 refine sr ?_
 refine bxA (h := fun b0 => ?_)
 refine ww ?_
 refine nr ?_
 iterate 3 refine ww ?_
 refine wy (ldQA (hy := hx)) ?_
 refine cl0 (hc := fun w hS => C_spot_won x.s h5 w) (h := ?_)
 refine al (h := fun b1 => ?_)
 first | refine stA (h := ?_) | refine stEA (h := ?_)
 refine nq ?_
 refine sq ?_
 refine sr ?_
 iterate 10 refine ww ?_
 refine nq ?_
 refine czz (fun h0 => ?_) fun h0 => ?_
 ·
  refine sr ?_
  refine ww ?_
  refine nq ?_
  refine rtn ?_
  refine q_then_ret ?_
  refine q_ret (hR := ?_)
  exact fun w hS => ⟨(), trivial, rfl, hS.sub slz_⟩
 ·
  exact absurd htop (of_decide_eq_false h0)
end Go.Proofs.YthkliiifllhacaaGreat

namespace Go.Proofs.YthkliiifllhacaaGreat
open Go Go.RowKit

set_option maxRecDepth 100000 in
set_option maxHeartbeats 1000000 in
theorem T_next_some (f : Fmt) (hf : f.Ok) (cf : Int) (A : Option Addr) (n c : Nat) (N : List Nd) (mn : Nat → Pr) (x : Nd) (side : Int) (hs : side = 0 ∨ side = 1) (K : Int) (hK : K ≤ 10000) (hP : PoolOk f N mn K) (hx : x ∈ N) (u : Spot) (hn : nxtS f x.s side = some u) :
  Tr Tryz.prog 201 [.agg (cardC f cf A n c).toArray, bp x.b, .int .i64 side] [poolE 255 N mn none] (fun k : Nat => ∀ y ∈ N, y.b ≠ k) (fun k => bp k) (fun k => [poolE 255 (⟨k, u, some x.b, side⟩ :: N) (upN mn k ((mn x.b).1 + 1, (mn x.b).2 + 1)) none]) := by
 refine ⟨fun w0 w R hst => ?_⟩
 have hxo := hP.ok x hx
 have hB := hxo.bd hf
 have h5 := hB.len hf
 have hlo := hxo.lo
 have hhi := hxo.hi
 have hg := hB.g
 have hp := hB.p
 have hw := hB.won
 have hsum := (won_sum x.s.st).1
 have hs0 := hf.s0
 have hs1 := hf.s1
 have htop : topS x.s ≠ f.sets := fun e => by rw [nxtS, decide_eq_true e] at hn; cases hn
 have hu : stepS f x.s side = u := by rw [nxtS, decide_eq_false htop] at hn; exact Option.some.inj hn
 have hgm : Sm x.s.g := ⟨by omega, by omega⟩
 have hpm : Sm x.s.p := ⟨by omega, by omega⟩
 have hga := addV_rng side hg
 have hpa := addV_rng side hp
 have hgam : Sm (addV x.s.g side) := ⟨by omega, by omega⟩
 have hpam : Sm (addV x.s.p side) := ⟨by omega, by omega⟩
 have hl4 : x.s.st.length ≤ 4 := by
  have : max (wonV x.s.st).1 (wonV x.s.st).2 ≠ f.sets := htop
  omega
 have hle : (((x.s.st ++ [addV x.s.g side]).length : Nat) : Int) = (x.s.st.length : Int) + 1 := by rw [List.length_append]; rfl
 refine en Tryz.func201 Tryz.ntmps201 hst (h := fun F => ?_)
 refine sr ?_
 refine bxA (h := fun b0 => ?_)
 refine ww ?_
 refine nr ?_
 iterate 3 refine ww ?_
 refine wy (ldQA (hy := hx)) ?_
 refine cl0 (hc := fun w hS => C_spot_won x.s h5 w) (h := ?_)
 refine al (h := fun b1 => ?_)
 first | refine stA (h := ?_) | refine stEA (h := ?_)
 refine nq ?_
 refine sq ?_
 refine sr ?_
 iterate 10 refine ww ?_
 refine nq ?_
 refine czz (fun h0 => ?_) fun h0 => ?_
 ·
  exact absurd (of_decide_eq_true h0) htop
 ·
  refine skp ?_
  refine q_seq ?_
  refine ct (X := Nat × Nat) (fun _ => True) (fun q => [(1, bp x.b), (2, .int .i64 side), (3, .pointer (some ⟨b0, 0, none⟩)), (7, .pointer (some ⟨b1, 0, none⟩)), (8, .pointer (some ⟨q.1, 0, none⟩)), (9, .pointer (some ⟨q.2, 0, none⟩))]) (fun q => .blk q.2 73 [.int .i64 f.tie, .int .i64 f.to] :: .blk q.1 143 (spotC x.s) :: .blk b1 73 [.int .i64 (wonV x.s.st).1, .int .i64 (wonV x.s.st).2] :: .blk b0 197 (cardC f cf A n c) :: poolE 255 N mn none :: R) (h1 := ?_) (h2 := ?_)
  ·
   refine rgD (by kernel_rfl) [(1000000, poolE 255 N mn none), (1000000, .blk b0 197 (cardC f cf A n c))] (by repeat (first | exact HS.nil | (apply HS.keep; (repeat (first | exact At.here | apply At.there))) | (apply HS.ro; (repeat (first | exact Rds.ro | exact Rds.own | apply Rds.there))))) (h := ?_)
   refine tw 0 ?_
   refine tw 1 ?_
   refine tw 2 ?_
   refine tk 3 (hy := ldQA (hy := hx)) (h := ?_)
   refine tw 4 ?_
   refine tw 5 ?_
   refine tw 6 ?_
   refine tw 7 ?_
   refine tw 8 ?_
   refine tw 9 ?_
   refine tw 10 ?_
   refine tw 11 ?_
   refine tw 12 ?_
   refine two 13 14 (h1 := ?_) (h2 := ?_)
   ·
    refine al (h := fun b2 => ?_)
    refine nx (h := ?_)
    refine one 14 (h := ?_)
    refine al (h := fun b3 => ?_)
    refine nx (h := ?_)
    refine one 15 (h := ?_)
    first | refine stA (h := ?_) | refine stEA (h := ?_)
    refine nx (h := ?_)
    refine one 16 (h := ?_)
    first | refine stA (h := ?_) | refine stEA (h := ?_)
    refine nx (h := ?_)
    refine dn (h := ?_)
    exact ctn (_, _) trivial sbz_ slz_
   ·
    refine al (h := fun b4 => ?_)
    refine nx (h := ?_)
    refine one 13 (h := ?_)
    refine al (h := fun b5 => ?_)
    refine nx (h := ?_)
    refine one 15 (h := ?_)
    first | refine stA (h := ?_) | refine stEA (h := ?_)
    refine nx (h := ?_)
    refine one 16 (h := ?_)
    first | refine stA (h := ?_) | refine stEA (h := ?_)
    refine nx (h := ?_)
    refine dn (h := ?_)
    exact ctn (_, _) trivial sbz_ slz_
  rintro ⟨b2, b3⟩ -
  refine ct (X := Unit) (fun _ => True) (fun _ => [(1, bp x.b), (2, .int .i64 side), (3, .pointer (some ⟨b0, 0, none⟩)), (8, .pointer (some ⟨b2, 0, none⟩)), (9, .pointer (some ⟨b3, 0, none⟩))]) (fun _ => .blk b3 73 [.int .i64 (setV f (wonV x.s.st)).1, .int .i64 (setV f (wonV x.s.st)).2] :: .blk b2 143 (spotC x.s) :: .blk b0 197 (cardC f cf A n c) :: poolE 255 N mn none :: R) (h1 := ?_) (h2 := ?_)
  ·
   refine sr ?_
   iterate 6 refine ww ?_
   apply brAnd 9 46 55 (by exact rfl)
   ·
    intro hb1
    iterate 6 refine uw ?_
    refine uz ?_
    refine wy (subI (hb := by omega)) ?_
    refine uw ?_
    refine ww ?_
    exact mg (by repeat (first | exact trivial | refine ⟨rfl, ?_⟩ | refine ⟨by rw [hb1]; rfl, ?_⟩)) slz_
   ·
    intro hb1
    repeat (first | refine uz ?_ | refine kz ?_ | refine wz ?_)
    exact mg (by repeat (first | exact trivial | refine ⟨rfl, ?_⟩ | refine ⟨by rw [hb1]; rfl, ?_⟩)) slz_
   refine nq ?_
   refine czz (fun h2 => ?_) fun h2 => ?_
   ·
    have hset : setV f (wonV x.s.st) = (f.ltie, f.lto) := by
     have h' : (decide ((wonV x.s.st).1 = (wonV x.s.st).2) && decide ((wonV x.s.st).1 = f.sets - 1)) = true := h2
     rw [set_cond] at h'
     rw [setV, h']; rfl
    refine rg ?_
    iterate 9 refine ww ?_
    first | refine stA (h := ?_) | refine stEA (h := ?_)
    refine nl ?_
    rw [hset]
    exact ctn () trivial sbz_ slz_
   ·
    have hset : setV f (wonV x.s.st) = (f.tie, f.to) := by
     have h' : (decide ((wonV x.s.st).1 = (wonV x.s.st).2) && decide ((wonV x.s.st).1 = f.sets - 1)) = false := h2
     rw [set_cond] at h'
     rw [setV, h']; rfl
    refine skp ?_
    rw [hset]
    exact ctn () trivial sbz_ slz_
  rintro ⟨⟩ -
  refine sr ?_
  iterate 7 refine ww ?_
  refine wy eqlT ?_
  rw [pair_eq2]
  refine ww ?_
  refine nr ?_
  iterate 3 refine ww ?_
  refine cl0 (hc := fun w hS => C_card_more x.s.p side hpm w) (h := ?_)
  refine ww ?_
  first | refine stA (h := ?_) | refine stEA (h := ?_)
  refine nr ?_
  refine ww ?_
  refine WL.cut (by repeat (first | exact Cut.nil | apply Cut.hit | apply Cut.miss (by exact rfl))) ?_
  refine ww ?_
  refine WL.cut (by repeat (first | exact Cut.nil | apply Cut.hit | apply Cut.miss (by exact rfl))) ?_
  refine nq ?_
  refine sq ?_
  refine bk ?_
  refine sr ?_
  iterate 2 refine ww ?_
  refine nq ?_
  refine czz (fun h3 => ?_) fun h3 => ?_
  ·
   have hT : tieS f x.s = true := h3
   have hleast : leastS f x.s = (setV f (wonV x.s.st)).2 := by rw [leastS, hT]; rfl
   have hby : byS f x.s = 2 := by rw [byS, hT]; rfl
   refine rg ?_
   iterate 3 refine ww ?_
   refine WL.cut (by repeat (first | exact Cut.nil | apply Cut.hit | apply Cut.miss (by exact rfl))) ?_
   refine nl ?_
   refine q_blk_norm ?_
   refine q_seq ?_
   refine sq ?_
   refine sr ?_
   iterate 5 refine ww ?_
   refine cl0 (hc := fun w hS => C_card_leads (addV x.s.p side) side _ _ hpam w) (h := ?_)
   refine nq ?_
   refine czz (fun h4 => ?_) fun h4 => ?_
   ·
    have hG : gotS f x.s side = true := by rw [gotS, hleast, hby]; exact h4
    refine sr ?_
    iterate 4 refine ww ?_
    refine cl0 (hc := fun w hS => C_card_more x.s.g side hgm w) (h := ?_)
    refine ww ?_
    first | refine stA (h := ?_) | refine stEA (h := ?_)
    refine ww ?_
    first | refine stA (h := ?_) | refine stEA (h := ?_)
    refine nr ?_
    iterate 2 refine ww ?_
    apply brOr 9 101 110 (by exact rfl)
    ·
     intro hb5
     iterate 7 refine uw ?_
     refine uz ?_
     refine cl0 (hc := fun w hS => C_card_leads (addV x.s.g side) side f.games 2 hgam w) (h := ?_)
     refine ww ?_
     exact mg (by repeat (first | exact trivial | refine ⟨rfl, ?_⟩ | refine ⟨by rw [hb5]; rfl, ?_⟩)) slz_
    ·
     intro hb5
     repeat (first | refine uz ?_ | refine kz ?_ | refine wz ?_)
     exact mg (by repeat (first | exact trivial | refine ⟨rfl, ?_⟩ | refine ⟨by rw [hb5]; rfl, ?_⟩)) slz_
    refine nq ?_
    refine czz (fun h6 => ?_) fun h6 => ?_
    ·
     have hE : endS' f x.s side = true := by unfold endS'; exact h6
     obtain rfl : u = ⟨x.s.first, x.s.st ++ [addV x.s.g side], (0, 0), (0, 0)⟩ := by rw [← hu, stepS, hG, hE]; rfl
     refine sr ?_
     iterate 5 refine ww ?_
     refine wy (ixA (hb := by omega)) ?_
     refine stP (vs := [.int .i64 (addV x.s.g side).1, .int .i64 (addV x.s.g side).2]) (h1 := by simp [Value.oneCell']) (hsz := rfl) (ho := by show 0 + 2 + ((x.s.st.length : Int)).toNat * 2 + 2 ≤ 16; omega) (h := ?_)
     refine WL.blkTo _ .here (put_sets hl4 _ (addV x.s.g side) (0, 0) (addV x.s.g side)) ?_
     refine nr ?_
     iterate 2 refine ww ?_
     first | refine stA (h := ?_) | refine stEA (h := ?_)
     refine nq ?_
     refine rg ?_
     iterate 4 refine ww ?_
     first | refine st (h := ?_) | refine stE (h := ?_)
     refine nq ?_
     refine sq ?_
     refine rgD (by kernel_rfl) [(1000000, poolE 255 N mn none), (1000000, .blk b2 143 _)] (by repeat (first | exact HS.nil | (apply HS.keep; (repeat (first | exact At.here | apply At.there))) | (apply HS.ro; (repeat (first | exact Rds.ro | exact Rds.own | apply Rds.there))))) (h := ?_)
     refine tw 0 ?_
     refine tw 1 ?_
     refine tw 2 ?_
     refine tw 3 ?_
     refine tw 4 ?_
     refine tw 5 ?_
     refine tw 6 ?_
     refine tk 7 (hy := ldQ (hy := hx)) (h := ?_)
     refine tk 8 (hy := addI (hb := by omega)) (h := ?_)
     refine tw 9 ?_
     refine tw 10 ?_
     refine tw 11 ?_
     refine tw 12 ?_
     refine tk 13 (hy := ldQ (hy := hx)) (h := ?_)
     refine tk 14 (hy := addI (hb := by omega)) (h := ?_)
     refine tw 15 ?_
     refine tw 16 ?_
     refine one 17 (h := ?_)
     refine bxA (h := fun b6 => ?_)
     refine nx (h := ?_)
     refine tw 18 ?_
     refine dn (h := ?_)
     refine q_seq ?_
     refine rtn ?_
     refine q_ret (hR := ?_)
     intro w hS
     have hS2 := hS.sub (L' := .blk _ 255 _ :: poolE 255 N mn none :: R) slz_
     first
      | exact ret_next hS2 rfl
      | exact ret_next hS2 (by rw [← hle]; rfl)
    ·
     have hE : endS' f x.s side = false := by unfold endS'; exact h6
     obtain rfl : u = ⟨x.s.first, x.s.st, addV x.s.g side, (0, 0)⟩ := by rw [← hu, stepS, hG, hE]; rfl
     refine skp ?_
     refine q_seq ?_
     refine sq ?_
     refine rgD (by kernel_rfl) [(1000000, poolE 255 N mn none), (1000000, .blk b2 143 _)] (by repeat (first | exact HS.nil | (apply HS.keep; (repeat (first | exact At.here | apply At.there))) | (apply HS.ro; (repeat (first | exact Rds.ro | exact Rds.own | apply Rds.there))))) (h := ?_)
     refine tw 0 ?_
     refine tw 1 ?_
     refine tw 2 ?_
     refine tw 3 ?_
     refine tw 4 ?_
     refine tw 5 ?_
     refine tw 6 ?_
     refine tk 7 (hy := ldQ (hy := hx)) (h := ?_)
     refine tk 8 (hy := addI (hb := by omega)) (h := ?_)
     refine tw 9 ?_
     refine tw 10 ?_
     refine tw 11 ?_
     refine tw 12 ?_
     refine tk 13 (hy := ldQ (hy := hx)) (h := ?_)
     refine tk 14 (hy := addI (hb := by omega)) (h := ?_)
     refine tw 15 ?_
     refine tw 16 ?_
     refine one 17 (h := ?_)
     refine bxA (h := fun b7 => ?_)
     refine nx (h := ?_)
     refine tw 18 ?_
     refine dn (h := ?_)
     refine q_seq ?_
     refine rtn ?_
     refine q_ret (hR := ?_)
     intro w hS
     have hS2 := hS.sub (L' := .blk _ 255 _ :: poolE 255 N mn none :: R) slz_
     first
      | exact ret_next hS2 rfl
      | exact ret_next hS2 (by rw [← hle]; rfl)
   ·
    have hG : gotS f x.s side = false := by rw [gotS, hleast, hby]; exact h4
    obtain rfl : u = ⟨x.s.first, x.s.st, x.s.g, addV x.s.p side⟩ := by rw [← hu, stepS, hG]; rfl
    refine skp ?_
    refine q_seq ?_
    refine sq ?_
    refine rgD (by kernel_rfl) [(1000000, poolE 255 N mn none), (1000000, .blk b2 143 _)] (by repeat (first | exact HS.nil | (apply HS.keep; (repeat (first | exact At.here | apply At.there))) | (apply HS.ro; (repeat (first | exact Rds.ro | exact Rds.own | apply Rds.there))))) (h := ?_)
    refine tw 0 ?_
    refine tw 1 ?_
    refine tw 2 ?_
    refine tw 3 ?_
    refine tw 4 ?_
    refine tw 5 ?_
    refine tw 6 ?_
    refine tk 7 (hy := ldQ (hy := hx)) (h := ?_)
    refine tk 8 (hy := addI (hb := by omega)) (h := ?_)
    refine tw 9 ?_
    refine tw 10 ?_
    refine tw 11 ?_
    refine tw 12 ?_
    refine tk 13 (hy := ldQ (hy := hx)) (h := ?_)
    refine tk 14 (hy := addI (hb := by omega)) (h := ?_)
    refine tw 15 ?_
    refine tw 16 ?_
    refine one 17 (h := ?_)
    refine bxA (h := fun b8 => ?_)
    refine nx (h := ?_)
    refine tw 18 ?_
    refine dn (h := ?_)
    refine q_seq ?_
    refine rtn ?_
    refine q_ret (hR := ?_)
    intro w hS
    have hS2 := hS.sub (L' := .blk _ 255 _ :: poolE 255 N mn none :: R) slz_
    first
     | exact ret_next hS2 rfl
     | exact ret_next hS2 (by rw [← hle]; rfl)
  ·
   have hT : tieS f x.s = false := h3
   have hleast : leastS f x.s = 4 := by rw [leastS, hT]; rfl
   refine sr ?_
   iterate 5 refine ww ?_
   refine nq ?_
   refine czz (fun h7 => ?_) fun h7 => ?_
   ·
    have hby : byS f x.s = 1 := by rw [byS, hT, h7]; rfl
    refine rg ?_
    refine ww ?_
    refine WL.cut (by repeat (first | exact Cut.nil | apply Cut.hit | apply Cut.miss (by exact rfl))) ?_
    refine nl ?_
    refine q_blk_norm ?_
    refine q_seq ?_
    refine sq ?_
    refine sr ?_
    iterate 5 refine ww ?_
    refine cl0 (hc := fun w hS => C_card_leads (addV x.s.p side) side _ _ hpam w) (h := ?_)
    refine nq ?_
    refine czz (fun h8 => ?_) fun h8 => ?_
    ·
     have hG : gotS f x.s side = true := by rw [gotS, hleast, hby]; exact h8
     refine sr ?_
     iterate 4 refine ww ?_
     refine cl0 (hc := fun w hS => C_card_more x.s.g side hgm w) (h := ?_)
     refine ww ?_
     first | refine stA (h := ?_) | refine stEA (h := ?_)
     refine ww ?_
     first | refine stA (h := ?_) | refine stEA (h := ?_)
     refine nr ?_
     iterate 2 refine ww ?_
     apply brOr 9 101 110 (by exact rfl)
     ·
      intro hb9
      iterate 7 refine uw ?_
      refine uz ?_
      refine cl0 (hc := fun w hS => C_card_leads (addV x.s.g side) side f.games 2 hgam w) (h := ?_)
      refine ww ?_
      exact mg (by repeat (first | exact trivial | refine ⟨rfl, ?_⟩ | refine ⟨by rw [hb9]; rfl, ?_⟩)) slz_
     ·
      intro hb9
      repeat (first | refine uz ?_ | refine kz ?_ | refine wz ?_)
      exact mg (by repeat (first | exact trivial | refine ⟨rfl, ?_⟩ | refine ⟨by rw [hb9]; rfl, ?_⟩)) slz_
     refine nq ?_
     refine czz (fun h10 => ?_) fun h10 => ?_
     ·
      have hE : endS' f x.s side = true := by unfold endS'; exact h10
      obtain rfl : u = ⟨x.s.first, x.s.st ++ [addV x.s.g side], (0, 0), (0, 0)⟩ := by rw [← hu, stepS, hG, hE]; rfl
      refine sr ?_
      iterate 5 refine ww ?_
      refine wy (ixA (hb := by omega)) ?_
      refine stP (vs := [.int .i64 (addV x.s.g side).1, .int .i64 (addV x.s.g side).2]) (h1 := by simp [Value.oneCell']) (hsz := rfl) (ho := by show 0 + 2 + ((x.s.st.length : Int)).toNat * 2 + 2 ≤ 16; omega) (h := ?_)
      refine WL.blkTo _ .here (put_sets hl4 _ (addV x.s.g side) (0, 0) (addV x.s.g side)) ?_
      refine nr ?_
      iterate 2 refine ww ?_
      first | refine stA (h := ?_) | refine stEA (h := ?_)
      refine nq ?_
      refine rg ?_
      iterate 4 refine ww ?_
      first | refine st (h := ?_) | refine stE (h := ?_)
      refine nq ?_
      refine sq ?_
      refine rgD (by kernel_rfl) [(1000000, poolE 255 N mn none), (1000000, .blk b2 143 _)] (by repeat (first | exact HS.nil | (apply HS.keep; (repeat (first | exact At.here | apply At.there))) | (apply HS.ro; (repeat (first | exact Rds.ro | exact Rds.own | apply Rds.there))))) (h := ?_)
      refine tw 0 ?_
      refine tw 1 ?_
      refine tw 2 ?_
      refine tw 3 ?_
      refine tw 4 ?_
      refine tw 5 ?_
      refine tw 6 ?_
      refine tk 7 (hy := ldQ (hy := hx)) (h := ?_)
      refine tk 8 (hy := addI (hb := by omega)) (h := ?_)
      refine tw 9 ?_
      refine tw 10 ?_
      refine tw 11 ?_
      refine tw 12 ?_
      refine tk 13 (hy := ldQ (hy := hx)) (h := ?_)
      refine tk 14 (hy := addI (hb := by omega)) (h := ?_)
      refine tw 15 ?_
      refine tw 16 ?_
      refine one 17 (h := ?_)
      refine bxA (h := fun b9 => ?_)
      refine nx (h := ?_)
      refine tw 18 ?_
      refine dn (h := ?_)
      refine q_seq ?_
      refine rtn ?_
      refine q_ret (hR := ?_)
      intro w hS
      have hS2 := hS.sub (L' := .blk _ 255 _ :: poolE 255 N mn none :: R) slz_
      first
       | exact ret_next hS2 rfl
       | exact ret_next hS2 (by rw [← hle]; rfl)
     ·
      have hE : endS' f x.s side = false := by unfold endS'; exact h10
      obtain rfl : u = ⟨x.s.first, x.s.st, addV x.s.g side, (0, 0)⟩ := by rw [← hu, stepS, hG, hE]; rfl
      refine skp ?_
      refine q_seq ?_
      refine sq ?_
      refine rgD (by kernel_rfl) [(1000000, poolE 255 N mn none), (1000000, .blk b2 143 _)] (by repeat (first | exact HS.nil | (apply HS.keep; (repeat (first | exact At.here | apply At.there))) | (apply HS.ro; (repeat (first | exact Rds.ro | exact Rds.own | apply Rds.there))))) (h := ?_)
      refine tw 0 ?_
      refine tw 1 ?_
      refine tw 2 ?_
      refine tw 3 ?_
      refine tw 4 ?_
      refine tw 5 ?_
      refine tw 6 ?_
      refine tk 7 (hy := ldQ (hy := hx)) (h := ?_)
      refine tk 8 (hy := addI (hb := by omega)) (h := ?_)
      refine tw 9 ?_
      refine tw 10 ?_
      refine tw 11 ?_
      refine tw 12 ?_
      refine tk 13 (hy := ldQ (hy := hx)) (h := ?_)
      refine tk 14 (hy := addI (hb := by omega)) (h := ?_)
      refine tw 15 ?_
      refine tw 16 ?_
      refine one 17 (h := ?_)
      refine bxA (h := fun b10 => ?_)
      refine nx (h := ?_)
      refine tw 18 ?_
      refine dn (h := ?_)
      refine q_seq ?_
      refine rtn ?_
      refine q_ret (hR := ?_)
      intro w hS
      have hS2 := hS.sub (L' := .blk _ 255 _ :: poolE 255 N mn none :: R) slz_
      first
       | exact ret_next hS2 rfl
       | exact ret_next hS2 (by rw [← hle]; rfl)
    ·
     have hG : gotS f x.s side = false := by rw [gotS, hleast, hby]; exact h8
     obtain rfl : u = ⟨x.s.first, x.s.st, x.s.g, addV x.s.p side⟩ := by rw [← hu, stepS, hG]; rfl
     refine skp ?_
     refine q_seq ?_
     refine sq ?_
     refine rgD (by kernel_rfl) [(1000000, poolE 255 N mn none), (1000000, .blk b2 143 _)] (by repeat (first | exact HS.nil | (apply HS.keep; (repeat (first | exact At.here | apply At.there))) | (apply HS.ro; (repeat (first | exact Rds.ro | exact Rds.own | apply Rds.there))))) (h := ?_)
     refine tw 0 ?_
     refine tw 1 ?_
     refine tw 2 ?_
     refine tw 3 ?_
     refine tw 4 ?_
     refine tw 5 ?_
     refine tw 6 ?_
     refine tk 7 (hy := ldQ (hy := hx)) (h := ?_)
     refine tk 8 (hy := addI (hb := by omega)) (h := ?_)
     refine tw 9 ?_
     refine tw 10 ?_
     refine tw 11 ?_
     refine tw 12 ?_
     refine tk 13 (hy := ldQ (hy := hx)) (h := ?_)
     refine tk 14 (hy := addI (hb := by omega)) (h := ?_)
     refine tw 15 ?_
     refine tw 16 ?_
     refine one 17 (h := ?_)
     refine bxA (h := fun b11 => ?_)
     refine nx (h := ?_)
     refine tw 18 ?_
     refine dn (h := ?_)
     refine q_seq ?_
     refine rtn ?_
     refine q_ret (hR := ?_)
     intro w hS
     have hS2 := hS.sub (L' := .blk _ 255 _ :: poolE 255 N mn none :: R) slz_
     first
      | exact ret_next hS2 rfl
      | exact ret_next hS2 (by rw [← hle]; rfl)
   ·
    have hby : byS f x.s = 2 := by rw [byS, hT, h7]; rfl
    refine skp ?_
    refine q_blk_norm ?_
    refine q_seq ?_
    refine sq ?_
    refine sr ?_
    iterate 5 refine ww ?_
    refine cl0 (hc := fun w hS => C_card_leads (addV x.s.p side) side _ _ hpam w) (h := ?_)
    refine nq ?_
    refine czz (fun h11 => ?_) fun h11 => ?_
    ·
     have hG : gotS f x.s side = true := by rw [gotS, hleast, hby]; exact h11
     refine sr ?_
     iterate 4 refine ww ?_
     refine cl0 (hc := fun w hS => C_card_more x.s.g side hgm w) (h := ?_)
     refine ww ?_
     first | refine stA (h := ?_) | refine stEA (h := ?_)
     refine ww ?_
     first | refine stA (h := ?_) | refine stEA (h := ?_)
     refine nr ?_
     iterate 2 refine ww ?_
     apply brOr 9 101 110 (by exact rfl)
     ·
      intro hb12
      iterate 7 refine uw ?_
      refine uz ?_
      refine cl0 (hc := fun w hS => C_card_leads (addV x.s.g side) side f.games 2 hgam w) (h := ?_)
      refine ww ?_
      exact mg (by repeat (first | exact trivial | refine ⟨rfl, ?_⟩ | refine ⟨by rw [hb12]; rfl, ?_⟩)) slz_
     ·
      intro hb12
      repeat (first | refine uz ?_ | refine kz ?_ | refine wz ?_)
      exact mg (by repeat (first | exact trivial | refine ⟨rfl, ?_⟩ | refine ⟨by rw [hb12]; rfl, ?_⟩)) slz_
     refine nq ?_
     refine czz (fun h13 => ?_) fun h13 => ?_
     ·
      have hE : endS' f x.s side = true := by unfold endS'; exact h13
      obtain rfl : u = ⟨x.s.first, x.s.st ++ [addV x.s.g side], (0, 0), (0, 0)⟩ := by rw [← hu, stepS, hG, hE]; rfl
      refine sr ?_
      iterate 5 refine ww ?_
      refine wy (ixA (hb := by omega)) ?_
      refine stP (vs := [.int .i64 (addV x.s.g side).1, .int .i64 (addV x.s.g side).2]) (h1 := by simp [Value.oneCell']) (hsz := rfl) (ho := by show 0 + 2 + ((x.s.st.length : Int)).toNat * 2 + 2 ≤ 16; omega) (h := ?_)
      refine WL.blkTo _ .here (put_sets hl4 _ (addV x.s.g side) (0, 0) (addV x.s.g side)) ?_
      refine nr ?_
      iterate 2 refine ww ?_
      first | refine stA (h := ?_) | refine stEA (h := ?_)
      refine nq ?_
      refine rg ?_
      iterate 4 refine ww ?_
      first | refine st (h := ?_) | refine stE (h := ?_)
      refine nq ?_
      refine sq ?_
      refine rgD (by kernel_rfl) [(1000000, poolE 255 N mn none), (1000000, .blk b2 143 _)] (by repeat (first | exact HS.nil | (apply HS.keep; (repeat (first | exact At.here | apply At.there))) | (apply HS.ro; (repeat (first | exact Rds.ro | exact Rds.own | apply Rds.there))))) (h := ?_)
      refine tw 0 ?_
      refine tw 1 ?_
      refine tw 2 ?_
      refine tw 3 ?_
      refine tw 4 ?_
      refine tw 5 ?_
      refine tw 6 ?_
      refine tk 7 (hy := ldQ (hy := hx)) (h := ?_)
      refine tk 8 (hy := addI (hb := by omega)) (h := ?_)
      refine tw 9 ?_
      refine tw 10 ?_
      refine tw 11 ?_
      refine tw 12 ?_
      refine tk 13 (hy := ldQ (hy := hx)) (h := ?_)
      refine tk 14 (hy := addI (hb := by omega)) (h := ?_)
      refine tw 15 ?_
      refine tw 16 ?_
      refine one 17 (h := ?_)
      refine bxA (h := fun b12 => ?_)
      refine nx (h := ?_)
      refine tw 18 ?_
      refine dn (h := ?_)
      refine q_seq ?_
      refine rtn ?_
      refine q_ret (hR := ?_)
      intro w hS
      have hS2 := hS.sub (L' := .blk _ 255 _ :: poolE 255 N mn none :: R) slz_
      first
       | exact ret_next hS2 rfl
       | exact ret_next hS2 (by rw [← hle]; rfl)
     ·
      have hE : endS' f x.s side = false := by unfold endS'; exact h13
      obtain rfl : u = ⟨x.s.first, x.s.st, addV x.s.g side, (0, 0)⟩ := by rw [← hu, stepS, hG, hE]; rfl
      refine skp ?_
      refine q_seq ?_
      refine sq ?_
      refine rgD (by kernel_rfl) [(1000000, poolE 255 N mn none), (1000000, .blk b2 143 _)] (by repeat (first | exact HS.nil | (apply HS.keep; (repeat (first | exact At.here | apply At.there))) | (apply HS.ro; (repeat (first | exact Rds.ro | exact Rds.own | apply Rds.there))))) (h := ?_)
      refine tw 0 ?_
      refine tw 1 ?_
      refine tw 2 ?_
      refine tw 3 ?_
      refine tw 4 ?_
      refine tw 5 ?_
      refine tw 6 ?_
      refine tk 7 (hy := ldQ (hy := hx)) (h := ?_)
      refine tk 8 (hy := addI (hb := by omega)) (h := ?_)
      refine tw 9 ?_
      refine tw 10 ?_
      refine tw 11 ?_
      refine tw 12 ?_
      refine tk 13 (hy := ldQ (hy := hx)) (h := ?_)
      refine tk 14 (hy := addI (hb := by omega)) (h := ?_)
      refine tw 15 ?_
      refine tw 16 ?_
      refine one 17 (h := ?_)
      refine bxA (h := fun b13 => ?_)
      refine nx (h := ?_)
      refine tw 18 ?_
      refine dn (h := ?_)
      refine q_seq ?_
      refine rtn ?_
      refine q_ret (hR := ?_)
      intro w hS
      have hS2 := hS.sub (L' := .blk _ 255 _ :: poolE 255 N mn none :: R) slz_
      first
       | exact ret_next hS2 rfl
       | exact ret_next hS2 (by rw [← hle]; rfl)
    ·
     have hG : gotS f x.s side = false := by rw [gotS, hleast, hby]; exact h11
     obtain rfl : u = ⟨x.s.first, x.s.st, x.s.g, addV x.s.p side⟩ := by rw [← hu, stepS, hG]; rfl
     refine skp ?_
     refine q_seq ?_
     refine sq ?_
     refine rgD (by kernel_rfl) [(1000000, poolE 255 N mn none), (1000000, .blk b2 143 _)] (by repeat (first | exact HS.nil | (apply HS.keep; (repeat (first | exact At.here | apply At.there))) | (apply HS.ro; (repeat (first | exact Rds.ro | exact Rds.own | apply Rds.there))))) (h := ?_)
     refine tw 0 ?_
     refine tw 1 ?_
     refine tw 2 ?_
     refine tw 3 ?_
     refine tw 4 ?_
     refine tw 5 ?_
     refine tw 6 ?_
     refine tk 7 (hy := ldQ (hy := hx)) (h := ?_)
     refine tk 8 (hy := addI (hb := by omega)) (h := ?_)
     refine tw 9 ?_
     refine tw 10 ?_
     refine tw 11 ?_
     refine tw 12 ?_
     refine tk 13 (hy := ldQ (hy := hx)) (h := ?_)
     refine tk 14 (hy := addI (hb := by omega)) (h := ?_)
     refine tw 15 ?_
     refine tw 16 ?_
     refine one 17 (h := ?_)
     refine bxA (h := fun b14 => ?_)
     refine nx (h := ?_)
     refine tw 18 ?_
     refine dn (h := ?_)
     refine q_seq ?_
     refine rtn ?_
     refine q_ret (hR := ?_)
     intro w hS
     have hS2 := hS.sub (L' := .blk _ 255 _ :: poolE 255 N mn none :: R) slz_
     first
      | exact ret_next hS2 rfl
      | exact ret_next hS2 (by rw [← hle]; rfl)
end Go.Proofs.YthkliiifllhacaaGreat

namespace Go.Proofs.YthkliiifllhacaaGreat
open Go Go.RowKit

structure CrIs (N ns : List Nd) (es : Array MapEntry) (c : Nat) : Prop where
 m : MapIs es (crE ns)
 s : Stm es c
 sub : ∀ y ∈ ns, y ∈ N
 keys : (spotKs ns).Nodup
theorem CrIs.nil (N : List Nd) : CrIs N [] #[] 0 := ⟨mapIs0, stm0, fun y hy => (by cases hy), List.nodup_nil⟩
theorem CrIs.up {N N' ns : List Nd} {es : Array MapEntry} {c : Nat} (h : CrIs N ns es c) (hs : ∀ y ∈ N, y ∈ N') : CrIs N' ns es c := ⟨h.m, h.s, fun y hy => hs y (h.sub y hy), h.keys⟩
theorem CrIs.put {N ns : List Nd} {es es' : Array MapEntry} {c c' : Nat} {x : Nd} (h : CrIs N ns es c) (hx : x ∈ N) (hm : MapIs es' (crE (putNs ns x)) ∧ Stm es' c') : CrIs N (putNs ns x) es' c' :=
 ⟨hm.1, hm.2, fun y hy => by rcases putNs_mem hy with h2 | h2; exact h.sub y h2; exact h2 ▸ hx, putNs_keys h.keys⟩
abbrev ndKV (x : Nd) : KV := (.agg (spotC x.s).toArray, bp x.b)
theorem cr_kv {N ns : List Nd} {es : Array MapEntry} {c : Nat} (h : CrIs N ns es c) : es.toList.map kvOf = ns.map ndKV := by
 have := h.m
 unfold MapIs at this
 rw [show es.toList.map kvOf = es.toList.map (fun e => (e.key, e.val)) from rfl, this, crE, List.map_map]
 rfl
theorem todo_nd {todo : List KV} {ts : List Nd} {o : Option KV} {todo' : List KV} (ht : todo.Perm (ts.map ndKV)) (h : NxO todo o todo') : (o = none ∧ ts = [] ∧ todo'.Perm (([] : List Nd).map ndKV)) ∨ ∃ x ts', o = some (ndKV x) ∧ ts.Perm (x :: ts') ∧ todo'.Perm (ts'.map ndKV) := by
 cases o with
 | none =>
  obtain ⟨rfl, rfl⟩ := h
  have := ht.nil_eq
  left
  refine ⟨rfl, ?_, .refl _⟩
  cases ts with
  | nil => rfl
  | cons _ _ => cases this
 | some kv =>
  right
  have hp : (kv :: todo').Perm (ts.map ndKV) := (show todo.Perm (kv :: todo') from h).symm.trans ht
  have hm : kv ∈ ts.map ndKV := hp.subset List.mem_cons_self
  obtain ⟨x, hx, rfl⟩ := List.mem_map.1 hm
  obtain ⟨l1, l2, rfl⟩ := List.append_of_mem hx
  refine ⟨x, l1 ++ l2, rfl, List.perm_middle, ?_⟩
  have : (ndKV x :: todo').Perm (ndKV x :: (l1 ++ l2).map ndKV) := hp.trans (by
   rw [List.map_append, List.map_cons, List.map_append]
   exact List.perm_middle)
  exact (List.perm_cons _).1 this

theorem T_reader_score (f : Fmt) (cf : Int) (A : Option Addr) (n c : Nat) (N : List Nd) (mn : Nat → Pr) (x : Nd) (hx : x ∈ N) (r : List Int) (hr : RowN N x r) (hrl : r.length ≤ 600) :
  Tr Tryz.prog 203 [.agg (cardC f cf A n c).toArray, bp x.b] [poolE 255 N mn none] (fun _ : Option Addr × Nat => True) (fun p => (scO (playO f x.s.first r)).val p.1 p.2) (fun p => [.own p.1 p.2 73 2 (scO (playO f x.s.first r)).st.length (encP (scO (playO f x.s.first r)).st), poolE 255 N mn none]) := by
 refine ⟨fun w0 w R hst => ?_⟩
 refine en Tryz.func203 Tryz.ntmps203 hst (h := fun F => ?_)
 refine sr ?_
 refine bxA (h := fun b0 => ?_)
 refine al (h := fun b1 => ?_)
 refine nq ?_
 refine sq ?_
 refine rgD (by kernel_rfl) [(1000000, poolE 255 N mn none), (1000000, .blk b0 197 (cardC f cf A n c))] (by repeat (first | exact HS.nil | (apply HS.keep; (repeat (first | exact At.here | apply At.there))) | (apply HS.ro; (repeat (first | exact Rds.ro | exact Rds.own | apply Rds.there))))) (h := ?_)
 refine tw 0 ?_
 refine tw 1 ?_
 refine tw 2 ?_
 refine tw 3 ?_
 refine tw 4 ?_
 refine tw 5 ?_
 refine tw 6 ?_
 refine tk 7 (hy := ldQ (hy := hx)) (h := ?_)
 refine tw 8 ?_
 refine two 9 14 (h1 := ?_) (h2 := ?_)
 ·
  refine clT (hc := T_node_row N mn x hx r hr (by omega)) (h := fun p1 _ => ?_)
  refine nx (h := ?_)
  refine two 10 14 (h1 := ?_) (h2 := ?_)
  ·
   refine cl (hc := fun w hS => C_score_Play f x.s.first r _ _ _ w (hS.get rdz_) (by omega)) (h := fun p2 _ => ?_)
   refine nx (h := ?_)
   refine tw 11 ?_
   refine tw 12 ?_
   refine tw 13 ?_
   refine one 14 (h := ?_)
   refine al (h := fun b2 => ?_)
   refine nx (h := ?_)
   refine one 15 (h := ?_)
   first | refine stA (h := ?_) | refine stEA (h := ?_)
   refine nx (h := ?_)
   refine tw 16 ?_
   refine dn (h := ?_)
   refine q_seq ?_
   refine sr ?_
   refine ww ?_
   first | refine stA (h := ?_) | refine stEA (h := ?_)
   refine nq ?_
   refine rtn ?_
   refine q_ret (hR := ?_)
   exact fun w hS => ⟨p2, trivial, rfl, hS.sub slz_⟩
  ·
   refine al (h := fun b3 => ?_)
   refine nx (h := ?_)
   refine one 10 (h := ?_)
   refine cl (hc := fun w hS => C_score_Play f x.s.first r _ _ _ w (hS.get rdz_) (by omega)) (h := fun p2 _ => ?_)
   refine nx (h := ?_)
   refine tw 11 ?_
   refine tw 12 ?_
   refine tw 13 ?_
   refine one 15 (h := ?_)
   first | refine stA (h := ?_) | refine stEA (h := ?_)
   refine nx (h := ?_)
   refine tw 16 ?_
   refine dn (h := ?_)
   refine q_seq ?_
   refine sr ?_
   refine ww ?_
   first | refine stA (h := ?_) | refine stEA (h := ?_)
   refine nq ?_
   refine rtn ?_
   refine q_ret (hR := ?_)
   exact fun w hS => ⟨p2, trivial, rfl, hS.sub slz_⟩
 ·
  refine al (h := fun b4 => ?_)
  refine nx (h := ?_)
  refine one 9 (h := ?_)
  refine clT (hc := T_node_row N mn x hx r hr (by omega)) (h := fun p1 _ => ?_)
  refine nx (h := ?_)
  refine one 10 (h := ?_)
  refine cl (hc := fun w hS => C_score_Play f x.s.first r _ _ _ w (hS.get rdz_) (by omega)) (h := fun p2 _ => ?_)
  refine nx (h := ?_)
  refine tw 11 ?_
  refine tw 12 ?_
  refine tw 13 ?_
  refine one 15 (h := ?_)
  first | refine stA (h := ?_) | refine stEA (h := ?_)
  refine nx (h := ?_)
  refine tw 16 ?_
  refine dn (h := ?_)
  refine q_seq ?_
  refine sr ?_
  refine ww ?_
  first | refine stA (h := ?_) | refine stEA (h := ?_)
  refine nq ?_
  refine rtn ?_
  refine q_ret (hR := ?_)
  exact fun w hS => ⟨p2, trivial, rfl, hS.sub slz_⟩
abbrev Nt.val (x : Nt) : Value := .agg #[.int .i64 x.kind, .int .i64 x.side, .int .i64 x.pair.1, .int .i64 x.pair.2]
abbrev Nt.cells (x : Nt) : List Value := [.int .i64 x.kind, .int .i64 x.side, .int .i64 x.pair.1, .int .i64 x.pair.2]
theorem dec_pr (a b : Pr) : (decide (a.1 = b.1) && decide (a.2 = b.2)) = decide (a = b) := by
 rw [Bool.eq_iff_iff, Bool.and_eq_true, decide_eq_true_eq, decide_eq_true_eq, decide_eq_true_eq]
 exact ⟨fun h => Prod.ext h.1 h.2, fun h => by rw [h]; exact ⟨rfl, rfl⟩⟩
set_option maxRecDepth 100000 in
theorem T_reader_holds (f : Fmt) (hf : f.Ok) (hc0 : chkF f = 0) (cf : Int) (A : Option Addr) (n c : Nat) (N : List Nd) (mn : Nat → Pr) (K : Int) (hK : K ≤ 600) (hP : PoolOk f N mn K) (x : Nd) (hx : x ∈ N) (t : Nt) :
  Tr Tryz.prog 168 [.agg (cardC f cf A n c).toArray, t.val, bp x.b] [poolE 255 N mn none] (fun _ : Unit => True) (fun _ => .bool (holdS f t x.s)) (fun _ => [poolE 255 N mn none]) := by
 refine ⟨fun w0 w R hst => ?_⟩
 have hxo := hP.ok x hx
 have h5 := hxo.len hf
 obtain ⟨r, hr, hrk, _⟩ := hxo.row
 obtain ⟨m, hm⟩ := hxo.play hf hc0 hK hP.nd hr
 have hrl : r.length ≤ 600 := by omega
 have hsc : (scO (playO f x.s.first r)).server = srvS f x.s ∧ (scO (playO f x.s.first r)).winner = winS f x.s := by rw [hm.o]; exact ⟨hm.sv, hm.w⟩
 have eP : decide ([x.s.p.1, x.s.p.2] = [t.pair.1, t.pair.2]) = decide (x.s.p = t.pair) := by rw [pair_eq2, dec_pr]
 have eG : decide ([x.s.g.1, x.s.g.2] = [t.pair.1, t.pair.2]) = decide (x.s.g = t.pair) := by rw [pair_eq2, dec_pr]
 have eW : decide ([(wonV x.s.st).1, (wonV x.s.st).2] = [t.pair.1, t.pair.2]) = decide (wonV x.s.st = t.pair) := by rw [pair_eq2, dec_pr]
 have zP : decide ([x.s.p.1, x.s.p.2] = [(0 : Int), 0]) = decide (x.s.p = (0, 0)) := by rw [pair_eq2]; exact dec_pr x.s.p (0, 0)
 have zG : decide ([x.s.g.1, x.s.g.2] = [(0 : Int), 0]) = decide (x.s.g = (0, 0)) := by rw [pair_eq2]; exact dec_pr x.s.g (0, 0)
 refine en Tryz.func168 Tryz.ntmps168 hst (h := fun F => ?_)
 refine sr ?_
 refine bxA (h := fun b0 => ?_)
 refine bxA (h := fun b1 => ?_)
 refine ww ?_
 refine nr ?_
 refine ww ?_
 refine al (h := fun b2 => ?_)
 first | refine stA (h := ?_) | refine stEA (h := ?_)
 refine nq ?_
 refine sq ?_
 refine sr ?_
 iterate 2 refine ww ?_
 refine nq ?_
 refine bk ?_
 refine sr ?_
 iterate 2 refine ww ?_
 refine nq ?_
 refine czz (fun h0 => ?_) fun h0 => ?_
 ·
  have hH : holdS f t x.s = decide (x.s.p = t.pair) := by rw [holdS, h0]; rfl
  refine sq ?_
  refine rgD (by kernel_rfl) [(1000000, poolE 255 N mn none), (1000000, .blk b1 75 t.cells)] (by repeat (first | exact HS.nil | (apply HS.keep; (repeat (first | exact At.here | apply At.there))) | (apply HS.ro; (repeat (first | exact Rds.ro | exact Rds.own | apply Rds.there))))) (h := ?_)
  refine tw 0 ?_
  refine tw 1 ?_
  refine tw 2 ?_
  refine tw 3 ?_
  refine tk 4 (hy := ldQA (hy := hx)) (h := ?_)
  refine tw 5 ?_
  refine tw 6 ?_
  refine tk 7 (hy := eqlT) (h := ?_)
  refine tw 8 ?_
  refine dn (h := ?_)
  refine q_seq ?_
  refine rtn ?_
  refine q_blk_ret ?_
  refine q_then_ret ?_
  refine q_ret (hR := ?_)
  rw [hH]
  first
   | (rw [← eP]; exact fun w hS => ⟨(), trivial, rfl, hS.sub slz_⟩)
   | (rw [← eG, ← zP, kA]; exact fun w hS => ⟨(), trivial, rfl, hS.sub slz_⟩)
   | (rw [← eW, ← zG, ← zP, kA, kB]; exact fun w hS => ⟨(), trivial, rfl, hS.sub slz_⟩)
   | (rw [← eW, ← zG, ← zP, kA]; exact fun w hS => ⟨(), trivial, rfl, hS.sub slz_⟩)
   | (rw [← hsc.1]; exact fun w hS => ⟨(), trivial, rfl, hS.sub slz_⟩)
   | (rw [← hsc.2]; exact fun w hS => ⟨(), trivial, rfl, hS.sub slz_⟩)
 ·
  have n3 := h0
  refine sr ?_
  iterate 2 refine ww ?_
  refine nq ?_
  refine czz (fun h1 => ?_) fun h1 => ?_
  ·
   have hH : holdS f t x.s = (decide (x.s.g = t.pair) && decide (x.s.p = (0, 0))) := by rw [holdS, n3, h1]; rfl
   refine sq ?_
   refine rgD (by kernel_rfl) [(1000000, poolE 255 N mn none), (1000000, .blk b1 75 t.cells), (1000000, .blk b2 73 [.int .i64 0, .int .i64 0])] (by repeat (first | exact HS.nil | (apply HS.keep; (repeat (first | exact At.here | apply At.there))) | (apply HS.ro; (repeat (first | exact Rds.ro | exact Rds.own | apply Rds.there))))) (h := ?_)
   refine tw 0 ?_
   refine tw 1 ?_
   refine tw 2 ?_
   refine tw 3 ?_
   refine tk 4 (hy := ldQA (hy := hx)) (h := ?_)
   refine tw 5 ?_
   refine tw 6 ?_
   refine tk 7 (hy := eqlT) (h := ?_)
   refine tw 8 ?_
   refine brH (g := 32) (by exact rfl) (fun hb2 => ?_) (fun hb2 => ?_)
   ·
    have kA := hb2
    refine tw 9 ?_
    refine tw 10 ?_
    refine tw 11 ?_
    refine tw 12 ?_
    refine tk 13 (hy := ldQA (hy := hx)) (h := ?_)
    refine tw 14 ?_
    refine tk 15 (hy := eqlT) (h := ?_)
    refine tw 16 ?_
    refine tw 17 ?_
    refine dn (h := ?_)
    refine q_seq ?_
    refine rtn ?_
    refine q_blk_ret ?_
    refine q_then_ret ?_
    refine q_ret (hR := ?_)
    rw [hH]
    first
     | (rw [← eP]; exact fun w hS => ⟨(), trivial, rfl, hS.sub slz_⟩)
     | (rw [← eG, ← zP, kA]; exact fun w hS => ⟨(), trivial, rfl, hS.sub slz_⟩)
     | (rw [← eW, ← zG, ← zP, kA, kB]; exact fun w hS => ⟨(), trivial, rfl, hS.sub slz_⟩)
     | (rw [← eW, ← zG, ← zP, kA]; exact fun w hS => ⟨(), trivial, rfl, hS.sub slz_⟩)
     | (rw [← hsc.1]; exact fun w hS => ⟨(), trivial, rfl, hS.sub slz_⟩)
     | (rw [← hsc.2]; exact fun w hS => ⟨(), trivial, rfl, hS.sub slz_⟩)
   ·
    have kA := hb2
    refine tkS 9 (h := ?_)
    refine tkS 10 (h := ?_)
    refine tkS 11 (h := ?_)
    refine tkS 12 (h := ?_)
    refine tkS 13 (h := ?_)
    refine tkS 14 (h := ?_)
    refine tkS 15 (h := ?_)
    refine tw 16 ?_
    refine tw 17 ?_
    refine dn (h := ?_)
    refine q_seq ?_
    refine rtn ?_
    refine q_blk_ret ?_
    refine q_then_ret ?_
    refine q_ret (hR := ?_)
    rw [hH]
    first
     | (rw [← eP]; exact fun w hS => ⟨(), trivial, rfl, hS.sub slz_⟩)
     | (rw [← eG, ← zP, kA]; exact fun w hS => ⟨(), trivial, rfl, hS.sub slz_⟩)
     | (rw [← eW, ← zG, ← zP, kA, kB]; exact fun w hS => ⟨(), trivial, rfl, hS.sub slz_⟩)
     | (rw [← eW, ← zG, ← zP, kA]; exact fun w hS => ⟨(), trivial, rfl, hS.sub slz_⟩)
     | (rw [← hsc.1]; exact fun w hS => ⟨(), trivial, rfl, hS.sub slz_⟩)
     | (rw [← hsc.2]; exact fun w hS => ⟨(), trivial, rfl, hS.sub slz_⟩)
  ·
   have n4 := h1
   refine sr ?_
   iterate 2 refine ww ?_
   refine nq ?_
   refine czz (fun h3 => ?_) fun h3 => ?_
   ·
    have hH : holdS f t x.s = (decide (wonV x.s.st = t.pair) && (decide (x.s.g = (0, 0)) && decide (x.s.p = (0, 0)))) := by rw [holdS, n3, n4, h3]; rfl
    refine sq ?_
    refine rgD (by kernel_rfl) [(1000000, poolE 255 N mn none), (1000000, .blk b1 75 t.cells), (1000000, .blk b2 73 [.int .i64 0, .int .i64 0])] (by repeat (first | exact HS.nil | (apply HS.keep; (repeat (first | exact At.here | apply At.there))) | (apply HS.ro; (repeat (first | exact Rds.ro | exact Rds.own | apply Rds.there))))) (h := ?_)
    refine tw 0 ?_
    refine tw 1 ?_
    refine tw 2 ?_
    refine tk 3 (hy := ldQA (hy := hx)) (h := ?_)
    refine tw 5 ?_
    refine tw 6 ?_
    refine one 4 (h := ?_)
    refine cl0 (hc := fun w hS => C_spot_won x.s h5 w) (h := ?_)
    refine nx (h := ?_)
    refine tk 7 (hy := eqlT) (h := ?_)
    refine tw 8 ?_
    refine brH (g := 51) (by exact rfl) (fun hb4 => ?_) (fun hb4 => ?_)
    ·
     have kA := hb4
     refine tw 9 ?_
     refine tw 10 ?_
     refine tw 11 ?_
     refine tw 12 ?_
     refine tk 13 (hy := ldQA (hy := hx)) (h := ?_)
     refine tw 14 ?_
     refine tk 15 (hy := eqlT) (h := ?_)
     refine tw 16 ?_
     refine tw 17 ?_
     refine brH (g := 60) (by exact rfl) (fun hb5 => ?_) (fun hb5 => ?_)
     ·
      have kB := hb5
      refine tw 18 ?_
      refine tw 19 ?_
      refine tw 20 ?_
      refine tw 21 ?_
      refine tk 22 (hy := ldQA (hy := hx)) (h := ?_)
      refine tw 23 ?_
      refine tk 24 (hy := eqlT) (h := ?_)
      refine tw 25 ?_
      refine tw 26 ?_
      refine dn (h := ?_)
      refine q_seq ?_
      refine rtn ?_
      refine q_blk_ret ?_
      refine q_then_ret ?_
      refine q_ret (hR := ?_)
      rw [hH]
      first
       | (rw [← eP]; exact fun w hS => ⟨(), trivial, rfl, hS.sub slz_⟩)
       | (rw [← eG, ← zP, kA]; exact fun w hS => ⟨(), trivial, rfl, hS.sub slz_⟩)
       | (rw [← eW, ← zG, ← zP, kA, kB]; exact fun w hS => ⟨(), trivial, rfl, hS.sub slz_⟩)
       | (rw [← eW, ← zG, ← zP, kA]; exact fun w hS => ⟨(), trivial, rfl, hS.sub slz_⟩)
       | (rw [← hsc.1]; exact fun w hS => ⟨(), trivial, rfl, hS.sub slz_⟩)
       | (rw [← hsc.2]; exact fun w hS => ⟨(), trivial, rfl, hS.sub slz_⟩)
     ·
      have kB := hb5
      refine tkS 18 (h := ?_)
      refine tkS 19 (h := ?_)
      refine tkS 20 (h := ?_)
      refine tkS 21 (h := ?_)
      refine tkS 22 (h := ?_)
      refine tkS 23 (h := ?_)
      refine tkS 24 (h := ?_)
      refine tw 25 ?_
      refine tw 26 ?_
      refine dn (h := ?_)
      refine q_seq ?_
      refine rtn ?_
      refine q_blk_ret ?_
      refine q_then_ret ?_
      refine q_ret (hR := ?_)
      rw [hH]
      first
       | (rw [← eP]; exact fun w hS => ⟨(), trivial, rfl, hS.sub slz_⟩)
       | (rw [← eG, ← zP, kA]; exact fun w hS => ⟨(), trivial, rfl, hS.sub slz_⟩)
       | (rw [← eW, ← zG, ← zP, kA, kB]; exact fun w hS => ⟨(), trivial, rfl, hS.sub slz_⟩)
       | (rw [← eW, ← zG, ← zP, kA]; exact fun w hS => ⟨(), trivial, rfl, hS.sub slz_⟩)
       | (rw [← hsc.1]; exact fun w hS => ⟨(), trivial, rfl, hS.sub slz_⟩)
       | (rw [← hsc.2]; exact fun w hS => ⟨(), trivial, rfl, hS.sub slz_⟩)
    ·
     have kA := hb4
     refine tkS 9 (h := ?_)
     refine tkS 10 (h := ?_)
     refine tkS 11 (h := ?_)
     refine tkS 12 (h := ?_)
     refine tkS 13 (h := ?_)
     refine tkS 14 (h := ?_)
     refine tkS 15 (h := ?_)
     refine tw 16 ?_
     refine tw 17 ?_
     refine tkS 18 (h := ?_)
     refine tkS 19 (h := ?_)
     refine tkS 20 (h := ?_)
     refine tkS 21 (h := ?_)
     refine tkS 22 (h := ?_)
     refine tkS 23 (h := ?_)
     refine tkS 24 (h := ?_)
     refine tw 25 ?_
     refine tw 26 ?_
     refine dn (h := ?_)
     refine q_seq ?_
     refine rtn ?_
     refine q_blk_ret ?_
     refine q_then_ret ?_
     refine q_ret (hR := ?_)
     rw [hH]
     first
      | (rw [← eP]; exact fun w hS => ⟨(), trivial, rfl, hS.sub slz_⟩)
      | (rw [← eG, ← zP, kA]; exact fun w hS => ⟨(), trivial, rfl, hS.sub slz_⟩)
      | (rw [← eW, ← zG, ← zP, kA, kB]; exact fun w hS => ⟨(), trivial, rfl, hS.sub slz_⟩)
      | (rw [← eW, ← zG, ← zP, kA]; exact fun w hS => ⟨(), trivial, rfl, hS.sub slz_⟩)
      | (rw [← hsc.1]; exact fun w hS => ⟨(), trivial, rfl, hS.sub slz_⟩)
      | (rw [← hsc.2]; exact fun w hS => ⟨(), trivial, rfl, hS.sub slz_⟩)
   ·
    have n5 := h3
    refine sr ?_
    iterate 2 refine ww ?_
    refine nq ?_
    refine czz (fun h6 => ?_) fun h6 => ?_
    ·
     have hH : holdS f t x.s = (decide (0 ≤ srvS f x.s) && decide (srvS f x.s % 2 = t.side)) := by rw [holdS, n3, n4, n5, h6]; rfl
     refine sr ?_
     iterate 2 refine ww ?_
     refine clT (hc := T_reader_score f cf A n c N mn x hx r hr hrl) (h := fun p1 _ => ?_)
     refine wy (by first | exact fdv1 | exact fdvA) ?_
     refine ww ?_
     refine nr ?_
     iterate 3 refine ww ?_
     apply brAnd 6 77 83 (by exact rfl)
     ·
      intro hb7
      have hnn := of_decide_eq_true hb7
      iterate 5 refine uw ?_
      refine ww ?_
      exact mg (by repeat (first | exact trivial | refine ⟨rfl, ?_⟩ | refine ⟨by rw [hb7]; rfl, ?_⟩)) slz_
     ·
      intro hb7
      repeat (first | refine uz ?_ | refine kz ?_ | refine wz ?_)
      exact mg (by repeat (first | exact trivial | refine ⟨rfl, ?_⟩ | refine ⟨by rw [hb7]; rfl, ?_⟩)) slz_
     refine ww ?_
     refine nq ?_
     refine rtn ?_
     refine q_blk_ret ?_
     refine q_then_ret ?_
     refine q_ret (hR := ?_)
     rw [hH]
     first
      | (rw [← eP]; exact fun w hS => ⟨(), trivial, rfl, hS.sub slz_⟩)
      | (rw [← eG, ← zP, kA]; exact fun w hS => ⟨(), trivial, rfl, hS.sub slz_⟩)
      | (rw [← eW, ← zG, ← zP, kA, kB]; exact fun w hS => ⟨(), trivial, rfl, hS.sub slz_⟩)
      | (rw [← eW, ← zG, ← zP, kA]; exact fun w hS => ⟨(), trivial, rfl, hS.sub slz_⟩)
      | (rw [← hsc.1]; exact fun w hS => ⟨(), trivial, rfl, hS.sub slz_⟩)
      | (rw [← hsc.2]; exact fun w hS => ⟨(), trivial, rfl, hS.sub slz_⟩)
    ·
     have hH : holdS f t x.s = decide (winS f x.s = t.side) := by rw [holdS, n3, n4, n5, h6]; rfl
     refine skp ?_
     refine q_blk_norm ?_
     refine q_seq ?_
     refine sq ?_
     refine rgD (by kernel_rfl) [(1000000, poolE 255 N mn none), (1000000, .blk b1 75 t.cells), (1000000, .blk b0 197 (cardC f cf A n c))] (by repeat (first | exact HS.nil | (apply HS.keep; (repeat (first | exact At.here | apply At.there))) | (apply HS.ro; (repeat (first | exact Rds.ro | exact Rds.own | apply Rds.there))))) (h := ?_)
     refine tw 0 ?_
     refine tw 1 ?_
     refine tw 4 ?_
     refine tw 5 ?_
     refine one 2 (h := ?_)
     refine clT (hc := T_reader_score f cf A n c N mn x hx r hr hrl) (h := fun p1 _ => ?_)
     refine nx (h := ?_)
     refine tk 3 (hy := (by first | exact fdv1 | exact fdvA)) (h := ?_)
     refine tw 6 ?_
     refine tw 7 ?_
     refine dn (h := ?_)
     refine q_seq ?_
     refine rtn ?_
     refine q_ret (hR := ?_)
     rw [hH]
     first
      | (rw [← eP]; exact fun w hS => ⟨(), trivial, rfl, hS.sub slz_⟩)
      | (rw [← eG, ← zP, kA]; exact fun w hS => ⟨(), trivial, rfl, hS.sub slz_⟩)
      | (rw [← eW, ← zG, ← zP, kA, kB]; exact fun w hS => ⟨(), trivial, rfl, hS.sub slz_⟩)
      | (rw [← eW, ← zG, ← zP, kA]; exact fun w hS => ⟨(), trivial, rfl, hS.sub slz_⟩)
      | (rw [← hsc.1]; exact fun w hS => ⟨(), trivial, rfl, hS.sub slz_⟩)
      | (rw [← hsc.2]; exact fun w hS => ⟨(), trivial, rfl, hS.sub slz_⟩)
end Go.Proofs.YthkliiifllhacaaGreat

namespace Go.Proofs.YthkliiifllhacaaGreat
open Go Go.RowKit

def addN (f : Fmt) (N : List Nd) (x : Nd) (side : Int) (o : Option Nat) : List Nd := match o, nxtS f x.s side with
 | some k, some u => ⟨k, u, some x.b, side⟩ :: N
 | _, _ => N
def addM (mn : Nat → Pr) (x : Nd) (o : Option Nat) : Nat → Pr := match o with
 | some k => upN mn k ((mn x.b).1 + 1, (mn x.b).2 + 1)
 | none => mn
def NxtOk (f : Fmt) (N : List Nd) (x : Nd) (side : Int) (o : Option Nat) : Prop := match o with
 | none => nxtS f x.s side = none
 | some k => (∃ u, nxtS f x.s side = some u) ∧ ∀ y ∈ N, y.b ≠ k
theorem T_nextO (f : Fmt) (hf : f.Ok) (cf : Int) (A : Option Addr) (n c : Nat) (N : List Nd) (mn : Nat → Pr) (x : Nd) (side : Int) (hs : side = 0 ∨ side = 1) (K : Int) (hK : K ≤ 10000) (hP : PoolOk f N mn K) (hx : x ∈ N) :
  Tr Tryz.prog 201 [.agg (cardC f cf A n c).toArray, bp x.b, .int .i64 side] [poolE 255 N mn none] (NxtOk f N x side) (fun o => bpO o) (fun o => [poolE 255 (addN f N x side o) (addM mn x o) none]) := by
 cases hn : nxtS f x.s side with
 | none =>
  have h := T_next_none f cf A n c N mn x side ((hP.ok x hx).len hf) hx hn
  exact ⟨fun w0 w R hst => (h.out w0 w R hst).mono fun e w' ⟨_, _, he, hs⟩ => ⟨none, hn, he, hs⟩⟩
 | some u =>
  have h := T_next_some f hf cf A n c N mn x side hs K hK hP hx u hn
  refine ⟨fun w0 w R hst => (h.out w0 w R hst).mono fun e w' ⟨k, hk, he, hs⟩ => ⟨some k, ⟨⟨u, hn⟩, hk⟩, he, ?_⟩⟩
  show St w0 w' ([poolE _ (addN f N x side (some k)) (addM mn x (some k)) none] ++ R)
  rw [show addN f N x side (some k) = ⟨k, u, some x.b, side⟩ :: N by simp only [addN, hn]]
  exact hs

theorem norm_snoc (l : List En) (e : En) : normC (l ++ [e]) = putC (normC l) e := by unfold normC; rw [List.foldl_append]; rfl
abbrev ndE (mn : Nat → Pr) (x : Nd) : En := (x.s, ((mn x.b).1, (mn x.b).2, 0))
def partE (f : Fmt) (side : Int) (e : En) : Nat → List En
 | 0 => []
 | k + 1 => partE f side e k ++ goE f side e k
theorem part_two (f : Fmt) (side : Int) (e : En) : partE f side e 2 = goE f side e 0 ++ goE f side e 1 := by
 show (([] : List En) ++ goE f side e ((0 : Nat) : Int)) ++ goE f side e ((1 : Nat) : Int) = _
 rfl
theorem stepI_snoc (f : Fmt) (mn : Nat → Pr) (dn : List Nd) (x : Nd) (side : Int) : stepI f (toC mn (dn ++ [x])) side = stepI f (toC mn dn) side ++ partE f side (ndE mn x) 2 := by
 rw [part_two]
 unfold stepI toC
 rw [List.map_append, List.flatMap_append]
 simp
structure PlI (f : Fmt) (N : List Nd) (mn : Nat → Pr) (ns : List Nd) (side K : Int) (l : List En) (N' : List Nd) (mn' : Nat → Pr) (ns' : List Nd) (es' : Array MapEntry) (c' : Nat) : Prop where
 ok : PoolOk f N' mn' (K + 1)
 sub : ∀ y ∈ N, y ∈ N'
 mn : ∀ y ∈ N, mn' y.b = mn y.b
 cr : CrIs N' ns' es' c'
 new : ∀ y ∈ ns', ∀ z ∈ N, z.b ≠ y.b
 fr : ∀ y ∈ ns', ∃ x ∈ ns, y.bf = some x.b ∧ (y.sd = 0 ∨ y.sd = 1) ∧ (side = -1 ∨ side = y.sd) ∧ nxtS f x.s y.sd = some y.s
 toC : toC mn' ns' = normC l
theorem PlI.start {f : Fmt} {N : List Nd} {mn : Nat → Pr} {ns : List Nd} {side K : Int} (h : PoolOk f N mn K) : PlI f N mn ns side K [] N mn [] #[] 0 :=
 ⟨h.up (by omega), fun y hy => hy, fun y hy => rfl, CrIs.nil N, fun y hy => (by cases hy), fun y hy => (by cases hy), rfl⟩
theorem PlI.skip {f : Fmt} {N : List Nd} {mn : Nat → Pr} {ns : List Nd} {side K : Int} {l l2 : List En} {N' : List Nd} {mn' : Nat → Pr} {ns' : List Nd} {es' : Array MapEntry} {c' : Nat} (h : PlI f N mn ns side K l N' mn' ns' es' c') (e : l2 = []) : PlI f N mn ns side K (l ++ l2) N' mn' ns' es' c' := by
 subst e; rw [List.append_nil]; exact h
theorem PlI.point {f : Fmt} {N : List Nd} {mn : Nat → Pr} {ns : List Nd} {side K : Int} {l : List En} {N' : List Nd} {mn' : Nat → Pr} {ns' : List Nd} {es' : Array MapEntry} {c' : Nat} (h : PlI f N mn ns side K l N' mn' ns' es' c') (hP : PoolOk f N mn K) (hns : ∀ y ∈ ns, y ∈ N) {x : Nd} (hx : x ∈ ns) {p : Int} (hp : p = 0 ∨ p = 1) (hs : side = -1 ∨ side = p) {u : Spot} (hn : nxtS f x.s p = some u) {k : Nat} (hk : ∀ y ∈ N', y.b ≠ k) {es2 : Array MapEntry} {c2 : Nat} (hm : MapIs es2 (crE (putNs ns' ⟨k, u, some x.b, p⟩)) ∧ Stm es2 c2) :
  PlI f N mn ns side K (l ++ goE f side (ndE mn x) p) (⟨k, u, some x.b, p⟩ :: N') (putM ns' (upN mn' k ((mn' x.b).1 + 1, (mn' x.b).2 + 1)) ⟨k, u, some x.b, p⟩) (putNs ns' ⟨k, u, some x.b, p⟩) es2 c2 := by
 have hxN := hns x hx
 have hxo := hP.ok x hxN
 have hmx := h.mn x hxN
 have hlo := hxo.lo; have hhi := hxo.hi
 obtain ⟨h1, r, h2, h3, h4⟩ := row_next (y := ⟨k, u, some x.b, p⟩) hxN hxo.row rfl hp hn
 have hok : PoolOk f (⟨k, u, some x.b, p⟩ :: N') (upN mn' k ((mn' x.b).1 + 1, (mn' x.b).2 + 1)) (K + 1) :=
  h.ok.add (x := ⟨k, u, some x.b, p⟩) hk (by rw [h1]; exact hxo.fs) ⟨r, h2.mono h.sub, h3, h4⟩ (by rw [hmx]; dsimp only; omega) (by rw [hmx]; dsimp only; omega)
 have hsub' : ∀ y ∈ ns', y ∈ (⟨k, u, some x.b, p⟩ :: N' : List Nd) := fun y hy => List.mem_cons_of_mem _ (h.cr.sub y hy)
 have hne : ∀ y ∈ N, y.b ≠ k := fun y hy => hk y (h.sub y hy)
 refine ⟨putM_ok hok hsub' List.mem_cons_self, fun y hy => List.mem_cons_of_mem _ (h.sub y hy), fun y hy => ?_, (h.cr.up fun y hy => List.mem_cons_of_mem _ hy).put List.mem_cons_self hm, fun y hy z hz => ?_, fun y hy => ?_, ?_⟩
 ·
  rw [putM_other fun z hz e => h.new z hz y hy e.symm, upN_other (hne y hy), h.mn y hy]
 ·
  rcases putNs_mem hy with h5 | rfl
  ·
   exact h.new y h5 z hz
  ·
   exact hne z hz
 ·
  rcases putNs_mem hy with h5 | rfl
  ·
   exact h.fr y h5
  ·
   exact ⟨x, hx, rfl, hp, hs, hn⟩
 ·
  have hg : goE f side (ndE mn x) p = [upE (ndE mn x) u] := by unfold goE; rw [if_pos hs]; simp only [hn]
  rw [hg, norm_snoc, ← h.toC, put_toC h.cr.keys (fun y hy z hz e => nd_one h.ok.nd (h.cr.sub y hy) (h.cr.sub z hz) e)]
  rw [toC_congr (mn := mn') fun y hy => upN_other (hk y (h.cr.sub y hy))]
  congr 1
  show (u, ((upN mn' k _ k).1, (upN mn' k _ k).2, (0 : Int))) = _
  rw [upN_same, hmx]
  rfl
theorem nxt_top {f : Fmt} {s u : Spot} {p : Int} (h : nxtS f s p = some u) : topS s ≠ f.sets := fun e => by rw [nxtS, decide_eq_true e] at h; cases h
theorem nxt_step {f : Fmt} {s u : Spot} {p : Int} (h : nxtS f s p = some u) : stepS f s p = u := by
 rw [nxtS, decide_eq_false (nxt_top h)] at h; exact Option.some.inj h
structure PZ2 where
 (N : List Nd) (mn : Nat → Pr) (ns : List Nd) (es : Array MapEntry) (c : Nat) (dn ts : List Nd) (tk : List KV) (o : Option KV)
structure PZ3 where
 (N : List Nd) (mn : Nat → Pr) (ns : List Nd) (es : Array MapEntry) (c k : Nat)
structure PR where
 (N : List Nd) (mn : Nat → Pr) (ns : List Nd) (b : Nat) (es : Array MapEntry) (c : Nat)
set_option maxRecDepth 100000 in
theorem T_reader_play (f : Fmt) (hf : f.Ok) (cf : Int) (A : Option Addr) (n c : Nat) (N ns : List Nd) (mn : Nat → Pr) (side K : Int) (hK : K ≤ 9000) (hP : PoolOk f N mn K) (b : Nat) (es : Array MapEntry) (cl : Nat) (hC : CrIs N ns es cl) :
  Tr Tryz.prog 167 [.agg (cardC f cf A n c).toArray, .map (some b), .int .i64 side] [poolE 255 N mn none, roM b es cl] (fun q : PR => ∃ dn, dn.Perm ns ∧ PlI f N mn ns side K (stepI f (toC mn dn) side) q.N q.mn q.ns q.es q.c) (fun q => .map (some q.b)) (fun q => [poolE 255 q.N q.mn none, .obj q.b (.map q.es q.c), roM b es cl]) := by
 refine ⟨fun w0 w R hst => ?_⟩
 refine en Tryz.func167 Tryz.ntmps167 hst (h := fun F => ?_)
 refine sr ?_
 refine bxA (h := fun b0 => ?_)
 refine ww ?_
 refine nr ?_
 refine mkm (h := fun b1 => ?_)
 refine ww ?_
 refine nq ?_
 refine sq ?_
 refine sr ?_
 refine ww ?_
 refine rngM (h := fun r1 => ?_)
 rw [cr_kv hC]
 refine nq ?_
 refine bk ?_
 refine lp (X := PZ2) (I := fun z => (z.dn ++ z.ts).Perm ns ∧ z.tk.Perm (z.ts.map ndKV) ∧ PlI f N mn ns side K (stepI f (toC mn z.dn) side) z.N z.mn z.ns z.es z.c) (le := fun z => [(2, .int .i64 side), (3, .pointer (some ⟨b0, 0, none⟩)), (7, .map (some b1)), (14, .pointer (some ⟨r1, 0, none⟩))]) (Le := fun z => itE r1 b es cl z.tk z.o :: .obj b1 (.map z.es z.c) :: .blk b0 197 (cardC f cf A n c) :: poolE 255 z.N z.mn none :: roM b es cl :: R) (μ := fun z => z.ts.length) ⟨N, mn, [], #[], 0, [], ns, ns.map ndKV, none⟩ ⟨.refl _, .refl _, PlI.start hP⟩ sbz_ slz_ (fun z hz => ?_)
 obtain ⟨hzd, hzt, hzp⟩ := hz
 refine sr ?_
 refine nxtM (hs := hC.s) (h := fun o2 tk2 ho2 => ?_)
 refine wy exN ?_
 refine nq ?_
 refine sq ?_
 refine czz (fun h0 => ?_) fun h0 => ?_
 ·
  obtain ⟨kv, rfl⟩ := Option.isSome_iff_exists.1 h0
  rcases todo_nd hzt ho2 with ⟨e, _⟩ | ⟨x, ts', e, hts, htk⟩
  ·
   cases e
  obtain rfl := Option.some.inj e
  have hxn : x ∈ ns := hzd.subset (List.mem_append.2 (.inr (hts.symm.subset List.mem_cons_self)))
  refine skp ?_
  refine q_seq ?_
  refine bk ?_
  refine sr ?_
  refine wy (entM (hs := hC.s)) ?_
  iterate 2 refine ww ?_
  refine nr ?_
  refine ww ?_
  refine nq ?_
  refine bk ?_
  refine lp (X := PZ3) (I := fun v => v.k ≤ 2 ∧ PlI f N mn ns side K (stepI f (toC mn z.dn) side ++ partE f side (ndE mn x) v.k) v.N v.mn v.ns v.es v.c) (le := fun v => [(2, .int .i64 side), (3, .pointer (some ⟨b0, 0, none⟩)), (7, .map (some b1)), (14, .pointer (some ⟨r1, 0, none⟩)), (9, bp x.b), (19, .int .i64 v.k)]) (Le := fun v => itE r1 b es cl tk2 (some (ndKV x)) :: .obj b1 (.map v.es v.c) :: .blk b0 197 (cardC f cf A n c) :: poolE 255 v.N v.mn none :: roM b es cl :: R) (μ := fun v => 2 - v.k) ⟨z.N, z.mn, z.ns, z.es, z.c, 0⟩ ⟨Nat.zero_le _, hzp.skip rfl⟩ sbz_ slz_ (fun v hv0 => ?_)
  obtain ⟨hvk, hv⟩ := hv0
  refine sr ?_
  refine ww ?_
  refine nq ?_
  refine sq ?_
  refine czz (fun h1 => ?_) fun h1 => ?_
  ·
   have hk2 : v.k < 2 := by simp only [decide_eq_true_eq] at h1; omega
   have hp : ((v.k : Nat) : Int) = 0 ∨ ((v.k : Nat) : Int) = 1 := by omega
   refine skp ?_
   refine q_seq ?_
   refine sq ?_
   refine bk ?_
   refine sr ?_
   iterate 2 refine ww ?_
   refine nq ?_
   refine sq ?_
   refine sr ?_
   iterate 3 refine ww ?_
   apply brAnd 4 24 28 (by exact rfl)
   ·
    intro hb2
    iterate 3 refine uw ?_
    refine ww ?_
    exact mg (by repeat (first | exact trivial | refine ⟨rfl, ?_⟩ | refine ⟨by rw [hb2]; rfl, ?_⟩)) slz_
   ·
    intro hb2
    repeat (first | refine uz ?_ | refine kz ?_ | refine wz ?_)
    exact mg (by repeat (first | exact trivial | refine ⟨rfl, ?_⟩ | refine ⟨by rw [hb2]; rfl, ?_⟩)) slz_
   refine nq ?_
   refine czz (fun h3 => ?_) fun h3 => ?_
   ·
    have hgo : goE f side (ndE mn x) ((v.k : Nat) : Int) = [] := by
     unfold goE
     rw [if_neg]
     have h' : (!decide (side = -1) && !decide (side = (v.k : Int))) = true := h3
     simp only [Bool.and_eq_true, Bool.not_eq_true', decide_eq_false_iff_not] at h'
     omega
    refine et ?_
    refine q_then_exit ?_
    refine q_blk_hit ?_
    refine q_seq ?_
    refine rg ?_
    iterate 2 refine ww ?_
    refine nl ?_
    first
     | (refine rn (x := v) ⟨v.N, v.mn, v.ns, v.es, v.c, v.k + 1⟩ ⟨by dsimp only; omega, by
       show PlI f N mn ns side K (_ ++ (partE f side (ndE mn x) v.k ++ goE f side (ndE mn x) ((v.k : Nat) : Int))) _ _ _ _ _
       rw [hgo, List.append_nil]; exact hv⟩ (by dsimp only; omega) sbz_ slz_)
     | (refine rn (x := v) ⟨_, _, putNs v.ns ⟨k1, u, some x.b, ((v.k : Nat) : Int)⟩, q.1, q.2, v.k + 1⟩ ⟨by dsimp only; omega, by
       show PlI f N mn ns side K (_ ++ (partE f side (ndE mn x) v.k ++ goE f side (ndE mn x) ((v.k : Nat) : Int))) _ _ _ _ _
       rw [← List.append_assoc]; exact hv.point hP hC.sub hxn hp hsd hu hk1 hq⟩ (by dsimp only; omega) sbz_ slz_)
   ·
    have hsd : side = -1 ∨ side = ((v.k : Nat) : Int) := by
     have h' : (!decide (side = -1) && !decide (side = (v.k : Int))) = false := h3
     simp only [Bool.and_eq_false_iff, Bool.not_eq_false', decide_eq_true_eq] at h'
     exact h'
    refine skp ?_
    refine q_seq ?_
    refine sr ?_
    iterate 3 refine ww ?_
    refine clT (hc := T_nextO f hf cf A n c v.N v.mn x ((v.k : Nat) : Int) hp (K + 1) (by omega) hv.ok (hv.sub x (hC.sub x hxn))) (h := fun o4 ho4 => ?_)
    refine ww ?_
    refine nr ?_
    refine ww ?_
    refine wy (neqN (by kernel_rfl)) ?_
    refine nq ?_
    refine czz (fun h4 => ?_) fun h4 => ?_
    ·
     obtain ⟨k1, rfl⟩ := Option.isSome_iff_exists.1 h4
     obtain ⟨⟨u, hu⟩, hk1⟩ := ho4
     have hXN : v.N ⊆ addN f v.N x ((v.k : Nat) : Int) (some k1) := by simp only [addN, hu]; exact fun y hy => List.mem_cons_of_mem _ hy
     have eN : addN f v.N x ((v.k : Nat) : Int) (some k1) = ⟨k1, u, some x.b, ((v.k : Nat) : Int)⟩ :: v.N := by simp only [addN, hu]
     rw [eN]
     refine rg ?_
     iterate 2 refine ww ?_
     refine clT (hc := T_put (⟨k1, u, some x.b, ((v.k : Nat) : Int)⟩ :: v.N) v.ns (addM v.mn x (some k1)) ⟨k1, u, some x.b, ((v.k : Nat) : Int)⟩ b1 v.es v.c hv.cr.m hv.cr.s (by rw [List.map_cons]; exact List.nodup_cons.2 ⟨fun hm => by obtain ⟨y, hy, e⟩ := List.mem_map.1 hm; exact hk1 y hy e, hv.ok.nd⟩) (fun y hy => by
      rcases List.mem_cons.1 hy with rfl | hy
      ·
       exact (SpBd.step ((hP.ok x (hC.sub x hxn)).bd hf) (hP.ok x (hC.sub x hxn)).k0 (nxt_top hu) _ |> fun h => by rw [nxt_step hu] at h; exact h.len hf)
      ·
       exact (hv.ok.ok y hy).len hf) (fun y hy => List.mem_cons_of_mem _ (hv.cr.sub y hy)) List.mem_cons_self) (h := fun q hq => ?_)
     refine nl ?_
     refine q_blk_norm ?_
     refine q_seq ?_
     refine rg ?_
     iterate 2 refine ww ?_
     refine nl ?_
     first
      | (refine rn (x := v) ⟨v.N, v.mn, v.ns, v.es, v.c, v.k + 1⟩ ⟨by dsimp only; omega, by
        show PlI f N mn ns side K (_ ++ (partE f side (ndE mn x) v.k ++ goE f side (ndE mn x) ((v.k : Nat) : Int))) _ _ _ _ _
        rw [hgo, List.append_nil]; exact hv⟩ (by dsimp only; omega) sbz_ slz_)
      | (refine rn (x := v) ⟨_, _, putNs v.ns ⟨k1, u, some x.b, ((v.k : Nat) : Int)⟩, q.1, q.2, v.k + 1⟩ ⟨by dsimp only; omega, by
        show PlI f N mn ns side K (_ ++ (partE f side (ndE mn x) v.k ++ goE f side (ndE mn x) ((v.k : Nat) : Int))) _ _ _ _ _
        rw [← List.append_assoc]; exact hv.point hP hC.sub hxn hp hsd hu hk1 hq⟩ (by dsimp only; omega) sbz_ slz_)
    ·
     have ho5 : o4 = none := by simpa using h4
     subst ho5
     have hgo : goE f side (ndE mn x) ((v.k : Nat) : Int) = [] := by
      unfold goE
      rw [if_pos hsd]; simp only [show nxtS f x.s ((v.k : Nat) : Int) = none from ho4]
     refine skp ?_
     refine q_blk_norm ?_
     refine q_seq ?_
     refine rg ?_
     iterate 2 refine ww ?_
     refine nl ?_
     first
      | (refine rn (x := v) ⟨v.N, v.mn, v.ns, v.es, v.c, v.k + 1⟩ ⟨by dsimp only; omega, by
        show PlI f N mn ns side K (_ ++ (partE f side (ndE mn x) v.k ++ goE f side (ndE mn x) ((v.k : Nat) : Int))) _ _ _ _ _
        rw [hgo, List.append_nil]; exact hv⟩ (by dsimp only; omega) sbz_ slz_)
      | (refine rn (x := v) ⟨_, _, putNs v.ns ⟨k1, u, some x.b, ((v.k : Nat) : Int)⟩, q.1, q.2, v.k + 1⟩ ⟨by dsimp only; omega, by
        show PlI f N mn ns side K (_ ++ (partE f side (ndE mn x) v.k ++ goE f side (ndE mn x) ((v.k : Nat) : Int))) _ _ _ _ _
        rw [← List.append_assoc]; exact hv.point hP hC.sub hxn hp hsd hu hk1 hq⟩ (by dsimp only; omega) sbz_ slz_)
  ·
   have hk2 : v.k = 2 := by simp only [decide_eq_false_iff_not] at h1; omega
   refine et ?_
   iterate 2 refine q_then_exit ?_
   refine q_blk_hit ?_
   refine q_blk_norm ?_
   refine rn (x := z) ⟨v.N, v.mn, v.ns, v.es, v.c, z.dn ++ [x], ts', tk2, some (ndKV x)⟩ ⟨by rw [List.append_assoc]; exact ((List.Perm.append_left z.dn (hts.symm)).trans hzd), htk, by rw [stepI_snoc]; rw [hk2] at hv; exact hv⟩ (by have := hts.length_eq; rw [List.length_cons] at this; dsimp only; omega) sbz_ slz_
 ·
  have ho3 : o2 = none := by simpa using h0
  have hts : z.ts = [] := by
   rcases todo_nd hzt ho2 with ⟨_, h9, _⟩ | ⟨x, ts', e, _⟩
   ·
    exact h9
   ·
    rw [ho3] at e; cases e
  refine et ?_
  iterate 2 refine q_then_exit ?_
  refine q_blk_hit ?_
  refine q_seq ?_
  refine sr ?_
  iterate 2 refine ww ?_
  refine nq ?_
  refine rtn ?_
  refine q_ret (hR := ?_)
  exact fun w hS => ⟨⟨z.N, z.mn, z.ns, b1, z.es, z.c⟩, ⟨z.dn, by rw [hts, List.append_nil] at hzd; exact hzd, hzp⟩, rfl, hS.sub slz_⟩
end Go.Proofs.YthkliiifllhacaaGreat

namespace Go.Proofs.YthkliiifllhacaaGreat
open Go Go.RowKit

def RowF (N ns N' : List Nd) (y : Nd) (j : Nat) : Prop := ∃ x ∈ ns, ∃ r p, RowN N x r ∧ RowN N' y (r ++ p) ∧ y.s.first = x.s.first ∧ p.length = j
theorem RowF.mono {N ns N' N2 : List Nd} {y : Nd} {j : Nat} (h : RowF N ns N' y j) (hs : ∀ z ∈ N', z ∈ N2) : RowF N ns N2 y j := by
 obtain ⟨x, hx, r, p, h1, h2, h3⟩ := h
 exact ⟨x, hx, r, p, h1, h2.mono hs, h3⟩
structure MsI (f : Fmt) (N : List Nd) (mn : Nat → Pr) (ns : List Nd) (a K : Int) (k : Nat) (cs : List Nd) (esC : Array MapEntry) (cC : Nat) (l : List En) (N' : List Nd) (mn' : Nat → Pr) (ns' : List Nd) (es' : Array MapEntry) (c' : Nat) : Prop where
 ok : PoolOk f N' mn' (K + (k : Int))
 sub : ∀ y ∈ N, y ∈ N'
 mnE : ∀ y ∈ N, mn' y.b = mn y.b
 cr : CrIs N' ns' es' c'
 cur : CrIs N' cs esC cC
 new : ∀ y ∈ ns', (∀ z ∈ N, z.b ≠ y.b) ∧ ∀ z ∈ cs, z.b ≠ y.b
 csP : (toC mn' cs).Perm (iterC f (toC mn ns) k)
 csR : ∀ y ∈ cs, RowF N ns N' y k
 outR : ∀ y ∈ ns', ∃ j : Nat, a ≤ (j : Int) ∧ j ≤ k ∧ RowF N ns N' y j
 eqC : toC mn' ns' = normC l
section
variable {f : Fmt} {N : List Nd} {mn : Nat → Pr} {ns : List Nd} {a K : Int} {k : Nat} {cs : List Nd} {esC : Array MapEntry} {cC : Nat} {l : List En} {N' : List Nd} {mn' : Nat → Pr} {ns' : List Nd} {es' : Array MapEntry} {c' : Nat}
theorem MsI.start (hP : PoolOk f N mn K) (hC : CrIs N ns es' c') : MsI f N mn ns a K 0 ns es' c' [] N mn [] #[] 0 :=
 ⟨hP.up (by omega), fun y hy => hy, fun y hy => rfl, CrIs.nil N, hC, fun y hy => (by cases hy), .refl _, fun y hy => by
  obtain ⟨r, hr, _⟩ := (hP.ok y (hC.sub y hy)).row
  exact ⟨y, hy, r, [], hr, by rw [List.append_nil]; exact hr, rfl, rfl⟩, fun y hy => (by cases hy), rfl⟩
theorem MsI.copy (h : MsI f N mn ns a K k cs esC cC l N' mn' ns' es' c') (ha : a ≤ (k : Int)) {x : Nd} (hx : x ∈ cs) {k0 : Nat} (hk0 : ∀ z ∈ N', z.b ≠ k0) {es2 : Array MapEntry} {c2 : Nat} (hm : MapIs es2 (crE (putNs ns' ⟨k0, x.s, x.bf, x.sd⟩)) ∧ Stm es2 c2) :
  MsI f N mn ns a K k cs esC cC (l ++ [ndE mn' x]) (⟨k0, x.s, x.bf, x.sd⟩ :: N') (putM ns' (upN mn' k0 (mn' x.b)) ⟨k0, x.s, x.bf, x.sd⟩) (putNs ns' ⟨k0, x.s, x.bf, x.sd⟩) es2 c2 ∧ ∀ z ∈ cs, putM ns' (upN mn' k0 (mn' x.b)) ⟨k0, x.s, x.bf, x.sd⟩ z.b = mn' z.b := by
 have hxN := h.cur.sub x hx
 have hok := h.ok.copy (y := ⟨k0, x.s, x.bf, x.sd⟩) hxN hk0 rfl rfl rfl
 have hup : ∀ z ∈ N', z ∈ (⟨k0, x.s, x.bf, x.sd⟩ :: N' : List Nd) := fun z hz => List.mem_cons_of_mem _ hz
 have hcm : ∀ z ∈ cs, putM ns' (upN mn' k0 (mn' x.b)) ⟨k0, x.s, x.bf, x.sd⟩ z.b = mn' z.b := fun z hz => by
  rw [putM_other fun y hy e => (h.new y hy).2 z hz e.symm, upN_other (hk0 z (h.cur.sub z hz))]
 refine ⟨⟨putM_ok hok (fun y hy => hup y (h.cr.sub y hy)) List.mem_cons_self, fun y hy => hup y (h.sub y hy), fun y hy => ?_, (h.cr.up hup).put List.mem_cons_self hm, h.cur.up hup, fun y hy => ?_, ?_, fun y hy => (h.csR y hy).mono hup, fun y hy => ?_, ?_⟩, hcm⟩
 ·
  rw [putM_other fun z hz e => (h.new z hz).1 y hy e.symm, upN_other (hk0 y (h.sub y hy)), h.mnE y hy]
 ·
  rcases putNs_mem hy with h5 | rfl
  ·
   exact h.new y h5
  ·
   exact ⟨fun z hz => hk0 z (h.sub z hz), fun z hz => hk0 z (h.cur.sub z hz)⟩
 ·
  rw [toC_congr hcm]; exact h.csP
 ·
  rcases putNs_mem hy with h5 | rfl
  ·
   obtain ⟨j, h6, h7, h8⟩ := h.outR y h5
   exact ⟨j, h6, h7, h8.mono hup⟩
  ·
   obtain ⟨x0, hx0, r, p, h6, h7, h8, h9⟩ := h.csR x hx
   exact ⟨k, ha, Nat.le_refl _, x0, hx0, r, p, h6, (h7.copy (y := ⟨k0, x.s, x.bf, x.sd⟩) rfl rfl).mono hup, h8, h9⟩
 ·
  rw [norm_snoc, ← h.eqC, put_toC h.cr.keys (fun y hy z hz e => nd_one h.ok.nd (h.cr.sub y hy) (h.cr.sub z hz) e)]
  rw [toC_congr (mn := mn') fun y hy => upN_other (hk0 y (h.cr.sub y hy))]
  congr 1
  show (x.s, ((upN mn' k0 _ k0).1, (upN mn' k0 _ k0).2, (0 : Int))) = _
  rw [upN_same]
theorem MsI.play (h : MsI f N mn ns a K k cs esC cC l N' mn' ns' es' c') {dn cs2 N2 : List Nd} {mn2 : Nat → Pr} {es2 : Array MapEntry} {c2 : Nat} (hd : dn.Perm cs) (hq : PlI f N' mn' cs (-1) (K + (k : Int)) (stepI f (toC mn' dn) (-1)) N2 mn2 cs2 es2 c2) : MsI f N mn ns a K (k + 1) cs2 es2 c2 l N2 mn2 ns' es' c' := by
 refine ⟨by rw [show K + ((k + 1 : Nat) : Int) = K + (k : Int) + 1 by omega]; exact hq.ok, fun y hy => hq.sub y (h.sub y hy), fun y hy => by rw [hq.mn y (h.sub y hy), h.mnE y hy], h.cr.up hq.sub, hq.cr, fun y hy => ⟨(h.new y hy).1, fun z hz e => hq.new z hz y (h.cr.sub y hy) e.symm⟩, ?_, fun y hy => ?_, fun y hy => ?_, ?_⟩
 ·
  rw [hq.toC]
  show (normC _).Perm (normC (stepI f (iterC f (toC mn ns) k) (-1)))
  have hp : (toC mn' dn).Perm (iterC f (toC mn ns) k) := (hd.map _).trans h.csP
  exact norm_perm (hp.flatMap_right _)
 ·
  obtain ⟨x, hx, h1, h2, h3, h4⟩ := hq.fr y hy
  obtain ⟨x0, hx0, r, p, h5, h6, h7, h8⟩ := h.csR x hx
  refine ⟨x0, hx0, r, p ++ [y.sd], h5, ?_, ?_, by rw [List.length_append, h8]; rfl⟩
  ·
   rw [← List.append_assoc]
   exact .snoc (hq.sub x (h.cur.sub x hx)) h1 (h6.mono hq.sub)
  ·
   rw [← h7, ← nxt_step h4, step_first]
 ·
  obtain ⟨j, h1, h2, h3⟩ := h.outR y hy
  exact ⟨j, h1, by omega, h3.mono hq.sub⟩
 ·
  rw [toC_congr fun y hy => hq.mn y (h.cr.sub y hy)]; exact h.eqC
structure RdOk (f : Fmt) (N : List Nd) (mn : Nat → Pr) (ns : List Nd) (t : Nt) (K : Int) (q : PR) : Prop where
 ok : PoolOk f q.N q.mn (K + mostN t + 1)
 sub : ∀ y ∈ N, y ∈ q.N
 mnE : ∀ y ∈ N, q.mn y.b = mn y.b
 cr : CrIs q.N q.ns q.es q.c
 eqC : (toC q.mn q.ns).Perm (afterC f (toC mn ns) t)
 fr : ∀ y ∈ q.ns, ∃ x ∈ ns, ∃ r p, RowN N x r ∧ RowN q.N y (r ++ p) ∧ y.s.first = x.s.first ∧ QOk f t y.s p
theorem rd_noted {t : Nt} (hP : PoolOk f N mn K) (hC : CrIs N ns es' c') (ht : t.kind = 1) {q : PR} {dn : List Nd} (hd : dn.Perm ns) (hq : PlI f N mn ns t.side K (stepI f (toC mn dn) t.side) q.N q.mn q.ns q.es q.c) : RdOk f N mn ns t K q := by
 refine ⟨hq.ok.up (by unfold mostN; rw [if_pos ht]; omega), hq.sub, hq.mn, hq.cr, ?_, fun y hy => ?_⟩
 ·
  rw [hq.toC, afterC, if_pos ht]
  exact norm_perm ((hd.map (ndE mn)).flatMap_right _)
 ·
  obtain ⟨x, hx, h1, h2, h3, h4⟩ := hq.fr y hy
  obtain ⟨r, hr, _⟩ := (hP.ok x (hC.sub x hx)).row
  refine ⟨x, hx, r, [y.sd], hr, .snoc (hq.sub x (hC.sub x hx)) h1 (hr.mono hq.sub), by rw [← nxt_step h4, step_first], ?_⟩
  unfold QOk
  rw [if_pos ht]
  exact ⟨y.sd, rfl, h3⟩
theorem rd_missed {t : Nt} {B : Nat} (h1 : t.kind = 2) (hB : t.pair.2 = (B : Int)) {b' : Nat} (hl : l.Perm (missI f (toC mn ns) t.pair.1 (B + 1))) (h : MsI f N mn ns t.pair.1 K (B + 1) cs esC cC l N' mn' ns' es' c') (hj : ∀ y ∈ ns', ∃ j : Nat, t.pair.1 ≤ (j : Int) ∧ j ≤ B ∧ RowF N ns N' y j) : RdOk f N mn ns t K ⟨N', mn', ns', b', es', c'⟩ := by
 have hne : t.kind ≠ 1 := by omega
 refine ⟨h.ok.up (by unfold mostN; rw [if_neg hne, if_pos h1]; omega), h.sub, h.mnE, h.cr, ?_, fun y hy => ?_⟩
 ·
  show (Go.Proofs.YthkliiifllhacaaGreat.toC mn' ns').Perm _
  rw [h.eqC, afterC, if_neg hne, if_pos h1, missC, hB, Int.toNat_natCast]
  exact norm_perm hl
 ·
  obtain ⟨j, h3, h4, x, hx, r, p, h5, h6, h7, h8⟩ := hj y hy
  refine ⟨x, hx, r, p, h5, h6, h7, ?_⟩
  unfold QOk
  rw [if_neg hne, if_pos h1]
  omega
def tstN (f : Fmt) (t : Nt) (dn : List Nd) : List Nd := dn.filter fun x => holdS f t x.s
theorem tst_toC (t : Nt) (dn : List Nd) : toC mn (tstN f t dn) = testC f t (toC mn dn) := by
 unfold tstN testC toC
 rw [List.filter_map]; rfl
theorem tst_snoc (t : Nt) (dn : List Nd) (x : Nd) : tstN f t (dn ++ [x]) = bif holdS f t x.s then tstN f t dn ++ [x] else tstN f t dn := by
 unfold tstN
 rw [List.filter_append]
 cases hh : holdS f t x.s
 ·
  simp [hh]
 ·
  simp [hh]
theorem get_fresh {dn ts : List Nd} {x : Nd} (hk : (spotKs ns).Nodup) (hp : (dn ++ x :: ts).Perm ns) (t : Nt) : getN (tstN f t dn) x.s = none := by
 refine List.find?_eq_none.2 fun y hy => ?_
 have hy' : y ∈ dn := (List.mem_filter.1 hy).1
 have hn : (spotKs (dn ++ x :: ts)).Nodup := (hp.map _).nodup_iff.2 hk
 unfold spotKs at hn
 rw [List.map_append, List.nodup_append] at hn
 rw [decide_eq_true_eq]
 exact hn.2.2 y.s (List.mem_map.2 ⟨y, hy', rfl⟩) x.s (List.mem_map.2 ⟨x, List.mem_cons_self, rfl⟩)
theorem putM_none {x : Nd} (h : getN ns x.s = none) : putM ns mn x = mn := by unfold putM; rw [h]
theorem putNs_none {x : Nd} (h : getN ns x.s = none) : putNs ns x = ns ++ [x] := by unfold putNs; rw [h]
theorem rd_test {t : Nt} (hP : PoolOk f N mn K) (hC : CrIs N ns esC cC) (h1 : t.kind ≠ 1) (h2 : t.kind ≠ 2) {b' : Nat} {dn : List Nd} (hd : dn.Perm ns) (hc : CrIs N (tstN f t dn) es' c') : RdOk f N mn ns t K ⟨N, mn, tstN f t dn, b', es', c'⟩ := by
 refine ⟨hP.up (by unfold mostN; rw [if_neg h1, if_neg h2]; omega), fun y hy => hy, fun y hy => rfl, hc, ?_, fun y hy => ?_⟩
 ·
  show (Go.Proofs.YthkliiifllhacaaGreat.toC mn (tstN f t dn)).Perm _
  rw [tst_toC, afterC, if_neg h1, if_neg h2]
  exact (hd.map _).filter _
 ·
  obtain ⟨h3, h4⟩ := List.mem_filter.1 hy
  have hyn := hd.subset h3
  obtain ⟨r, hr, _⟩ := (hP.ok y (hC.sub y hyn)).row
  refine ⟨y, hyn, r, [], hr, by rw [List.append_nil]; exact hr, rfl, ?_⟩
  unfold QOk
  rw [if_neg h1, if_neg h2]
  exact ⟨rfl, h4⟩
end
end Go.Proofs.YthkliiifllhacaaGreat

namespace Go.Proofs.YthkliiifllhacaaGreat
open Go Go.RowKit

structure MZ where
 (N : List Nd) (mn : Nat → Pr) (ns : List Nd) (es : Array MapEntry) (c : Nat) (cs : List Nd) (cb : Nat) (esC : Array MapEntry) (cC : Nat) (l : List En) (k : Nat)
structure MZ2 where
 (N : List Nd) (mn : Nat → Pr) (ns : List Nd) (es : Array MapEntry) (c : Nat) (dn ts : List Nd) (tk : List KV) (o : Option KV)
structure MZ3 where
 (es : Array MapEntry) (c : Nat) (dn ts : List Nd) (tk : List KV) (o : Option KV)
theorem T_read_noted (f : Fmt) (hf : f.Ok) (cf : Int) (A : Option Addr) (n c : Nat) (N ns : List Nd) (mn : Nat → Pr) (t : Nt) (K : Int) (hK : K ≤ 500) (hP : PoolOk f N mn K) (b : Nat) (es : Array MapEntry) (cl : Nat) (hC : CrIs N ns es cl) (ht : t.kind = 1) :
  Tr Tryz.prog 106 [.agg (cardC f cf A n c).toArray, .map (some b), t.val] [poolE 255 N mn none, roM b es cl] (RdOk f N mn ns t K) (fun q => .map (some q.b)) (fun q => [poolE 255 q.N q.mn none, .obj q.b (.map q.es q.c), roM b es cl]) := by
 refine ⟨fun w0 w R hst => ?_⟩
 refine en Tryz.func106 Tryz.ntmps106 hst (h := fun F => ?_)
 refine sr ?_
 refine bxA (h := fun b0 => ?_)
 refine bxA (h := fun b1 => ?_)
 refine ww ?_
 refine nr ?_
 refine mkm (h := fun b2 => ?_)
 refine ww ?_
 refine nq ?_
 refine sq ?_
 refine sr ?_
 iterate 2 refine ww ?_
 refine nq ?_
 refine bk ?_
 refine sr ?_
 iterate 2 refine ww ?_
 refine nq ?_
 refine czz (fun h0 => ?_) fun h0 => ?_
 ·
  refine sr ?_
  iterate 4 refine ww ?_
  refine clT (hc := T_reader_play f hf cf A n c N ns mn t.side K (by omega) hP b es cl hC) (h := fun q hq => ?_)
  obtain ⟨dn, hd, hq⟩ := hq
  refine ww ?_
  refine nq ?_
  refine rtn ?_
  refine q_blk_ret ?_
  refine q_then_ret ?_
  refine q_ret (hR := ?_)
  exact fun w hS => ⟨q, rd_noted hP hC ht hd hq, rfl, hS.sub slz_⟩
 ·
  exact absurd ht (of_decide_eq_false h0)
set_option maxRecDepth 100000 in
theorem T_read_test (f : Fmt) (hf : f.Ok) (hc0 : chkF f = 0) (cf : Int) (A : Option Addr) (n c : Nat) (N ns : List Nd) (mn : Nat → Pr) (t : Nt) (K : Int) (hK : K ≤ 500) (hP : PoolOk f N mn K) (b : Nat) (es : Array MapEntry) (cl : Nat) (hC : CrIs N ns es cl) (hk1 : t.kind ≠ 1) (hk2 : t.kind ≠ 2) :
  Tr Tryz.prog 106 [.agg (cardC f cf A n c).toArray, .map (some b), t.val] [poolE 255 N mn none, roM b es cl] (RdOk f N mn ns t K) (fun q => .map (some q.b)) (fun q => [poolE 255 q.N q.mn none, .obj q.b (.map q.es q.c), roM b es cl]) := by
 refine ⟨fun w0 w R hst => ?_⟩
 refine en Tryz.func106 Tryz.ntmps106 hst (h := fun F => ?_)
 refine sr ?_
 refine bxA (h := fun b0 => ?_)
 refine bxA (h := fun b1 => ?_)
 refine ww ?_
 refine nr ?_
 refine mkm (h := fun b2 => ?_)
 refine ww ?_
 refine nq ?_
 refine sq ?_
 refine sr ?_
 iterate 2 refine ww ?_
 refine nq ?_
 refine bk ?_
 refine sr ?_
 iterate 2 refine ww ?_
 refine nq ?_
 refine czz (fun h0 => ?_) fun h0 => ?_
 ·
  exact absurd (of_decide_eq_true h0) hk1
 ·
  refine sr ?_
  iterate 2 refine ww ?_
  refine nq ?_
  refine czz (fun h1 => ?_) fun h1 => ?_
  ·
   exact absurd (of_decide_eq_true h1) hk2
  ·
   refine sr ?_
   refine ww ?_
   refine rngM (h := fun r1 => ?_)
   rw [cr_kv hC]
   refine nq ?_
   refine bk ?_
   refine lp (X := MZ3) (I := fun z => (z.dn ++ z.ts).Perm ns ∧ z.tk.Perm (z.ts.map ndKV) ∧ CrIs N (tstN f t z.dn) z.es z.c) (le := fun z => [(3, .pointer (some ⟨b0, 0, none⟩)), (5, .pointer (some ⟨b1, 0, none⟩)), (7, .map (some b2)), (18, .pointer (some ⟨r1, 0, none⟩))]) (Le := fun z => itE r1 b es cl z.tk z.o :: .obj b2 (.map z.es z.c) :: .blk b1 75 t.cells :: .blk b0 197 (cardC f cf A n c) :: poolE 255 N mn none :: roM b es cl :: R) (μ := fun z => z.ts.length) ⟨#[], 0, [], ns, ns.map ndKV, none⟩ ⟨.refl _, .refl _, CrIs.nil N⟩ sbz_ slz_ (fun z hz => ?_)
   obtain ⟨hzd, hzt, hzc⟩ := hz
   refine sr ?_
   refine nxtM (hs := hC.s) (h := fun o2 tk2 ho2 => ?_)
   refine wy exN ?_
   refine nq ?_
   refine sq ?_
   refine czz (fun h2 => ?_) fun h2 => ?_
   ·
    obtain ⟨kv, rfl⟩ := Option.isSome_iff_exists.1 h2
    rcases todo_nd hzt ho2 with ⟨e, _⟩ | ⟨x, ts', e, hts, htk⟩
    ·
     cases e
    obtain rfl := Option.some.inj e
    have hxn : x ∈ ns := hzd.subset (List.mem_append.2 (.inr (hts.symm.subset List.mem_cons_self)))
    have hdx : (z.dn ++ x :: ts').Perm ns := ((List.Perm.append_left z.dn hts.symm)).trans hzd
    have hgf := get_fresh (f := f) hC.keys hdx t
    refine skp ?_
    refine q_seq ?_
    refine bk ?_
    refine sr ?_
    refine wy (entM (hs := hC.s)) ?_
    iterate 2 refine ww ?_
    refine nr ?_
    iterate 3 refine ww ?_
    refine clT (hc := T_reader_holds f hf hc0 cf A n c N mn K (by omega) hP x (hC.sub x hxn) t) (h := fun _ _ => ?_)
    refine nq ?_
    refine czz (fun h3 => ?_) fun h3 => ?_
    ·
     have hH : holdS f t x.s = true := h3
     have hsn : tstN f t (z.dn ++ [x]) = tstN f t z.dn ++ [x] := by rw [tst_snoc, hH]; rfl
     refine rg ?_
     iterate 2 refine ww ?_
     refine clT (hc := T_put N (tstN f t z.dn) mn x b2 z.es z.c hzc.m hzc.s hP.nd (fun y hy => (hP.ok y hy).len hf) hzc.sub (hC.sub x hxn)) (h := fun q hq => ?_)
     rw [putM_none hgf]
     rw [putNs_none hgf, ← hsn] at hq
     refine nl ?_
     refine q_blk_norm ?_
     first
      | (refine rn (x := z) ⟨q.1, q.2, z.dn ++ [x], ts', tk2, some (ndKV x)⟩ ⟨by rw [List.append_assoc]; exact hdx, htk, ⟨hq.1, hq.2, fun y hy => hC.sub y (hdx.subset (by rw [hsn] at hy; rcases List.mem_append.1 hy with h9 | h9; exact List.mem_append.2 (.inl (List.mem_filter.1 h9).1); exact List.mem_append.2 (.inr (by rw [List.mem_singleton.1 h9]; exact List.mem_cons_self)))), by rw [hsn, ← putNs_none hgf]; exact putNs_keys hzc.keys⟩⟩ (by have := hts.length_eq; rw [List.length_cons] at this; dsimp only; omega) sbz_ slz_)
      | (refine rn (x := z) ⟨z.es, z.c, z.dn ++ [x], ts', tk2, some (ndKV x)⟩ ⟨by rw [List.append_assoc]; exact hdx, htk, by rw [hsn]; exact hzc⟩ (by have := hts.length_eq; rw [List.length_cons] at this; dsimp only; omega) sbz_ slz_)
    ·
     have hH : holdS f t x.s = false := h3
     have hsn : tstN f t (z.dn ++ [x]) = tstN f t z.dn := by rw [tst_snoc, hH]; rfl
     refine skp ?_
     refine q_blk_norm ?_
     first
      | (refine rn (x := z) ⟨q.1, q.2, z.dn ++ [x], ts', tk2, some (ndKV x)⟩ ⟨by rw [List.append_assoc]; exact hdx, htk, ⟨hq.1, hq.2, fun y hy => hC.sub y (hdx.subset (by rw [hsn] at hy; rcases List.mem_append.1 hy with h9 | h9; exact List.mem_append.2 (.inl (List.mem_filter.1 h9).1); exact List.mem_append.2 (.inr (by rw [List.mem_singleton.1 h9]; exact List.mem_cons_self)))), by rw [hsn, ← putNs_none hgf]; exact putNs_keys hzc.keys⟩⟩ (by have := hts.length_eq; rw [List.length_cons] at this; dsimp only; omega) sbz_ slz_)
      | (refine rn (x := z) ⟨z.es, z.c, z.dn ++ [x], ts', tk2, some (ndKV x)⟩ ⟨by rw [List.append_assoc]; exact hdx, htk, by rw [hsn]; exact hzc⟩ (by have := hts.length_eq; rw [List.length_cons] at this; dsimp only; omega) sbz_ slz_)
   ·
    have ho3 : o2 = none := by simpa using h2
    have hts : z.ts = [] := by
     rcases todo_nd hzt ho2 with ⟨_, h9, _⟩ | ⟨x, ts', e, _⟩
     ·
      exact h9
     ·
      rw [ho3] at e; cases e
    refine et ?_
    iterate 2 refine q_then_exit ?_
    refine q_blk_hit ?_
    refine q_blk_norm ?_
    refine q_seq ?_
    refine sr ?_
    iterate 2 refine ww ?_
    refine nq ?_
    refine rtn ?_
    refine q_ret (hR := ?_)
    exact fun w hS => ⟨⟨N, mn, tstN f t z.dn, b2, z.es, z.c⟩, rd_test hP hC hk1 hk2 (by rw [hts, List.append_nil] at hzd; exact hzd) hzc, rfl, hS.sub slz_⟩
theorem ndE_eq {mn mn' : Nat → Pr} {x : Nd} (h : mn' x.b = mn x.b) : ndE mn' x = ndE mn x := by unfold ndE; rw [h]
theorem toC_snoc (mn : Nat → Pr) (dn : List Nd) (x : Nd) : toC mn (dn ++ [x]) = toC mn dn ++ [ndE mn x] := by unfold toC; rw [List.map_append]; rfl
set_option maxRecDepth 100000 in
set_option maxHeartbeats 1000000 in
theorem T_read_missed (f : Fmt) (hf : f.Ok) (cf : Int) (A : Option Addr) (n c : Nat) (N ns : List Nd) (mn : Nat → Pr) (t : Nt) (K : Int) (hK : K ≤ 500) (hP : PoolOk f N mn K) (b : Nat) (es : Array MapEntry) (cl : Nat) (hC : CrIs N ns es cl) (ht : t.kind = 2) (B : Nat) (hB : t.pair.2 = (B : Int)) (hB3 : B ≤ 30) :
  Tr Tryz.prog 106 [.agg (cardC f cf A n c).toArray, .map (some b), t.val] [poolE 255 N mn none, roM b es cl] (RdOk f N mn ns t K) (fun q => .map (some q.b)) (fun q => [poolE 255 q.N q.mn none, .obj q.b (.map q.es q.c), roM b es cl]) := by
 refine ⟨fun w0 w R hst => ?_⟩
 refine en Tryz.func106 Tryz.ntmps106 hst (h := fun F => ?_)
 refine sr ?_
 refine bxA (h := fun b0 => ?_)
 refine bxA (h := fun b1 => ?_)
 refine ww ?_
 refine nr ?_
 refine mkm (h := fun b2 => ?_)
 refine ww ?_
 refine nq ?_
 refine sq ?_
 refine sr ?_
 iterate 2 refine ww ?_
 refine nq ?_
 refine bk ?_
 refine sr ?_
 iterate 2 refine ww ?_
 refine nq ?_
 refine czz (fun h0 => ?_) fun h0 => ?_
 ·
  exact absurd (of_decide_eq_true h0) (by omega)
 ·
  refine sr ?_
  iterate 2 refine ww ?_
  refine nq ?_
  refine czz (fun h1 => ?_) fun h1 => ?_
  ·
   refine sr ?_
   iterate 3 refine ww ?_
   refine wy (addI (hb := by omega)) ?_
   refine ww ?_
   refine nq ?_
   refine bk ?_
   refine WC.dupM (b := b) (es := es) (c := cl) atz_ ?_
   refine lp (X := MZ) (I := fun z => z.k ≤ B + 1 ∧ MsI f N mn ns t.pair.1 K z.k z.cs z.esC z.cC z.l z.N z.mn z.ns z.es z.c ∧ z.l.Perm (missI f (toC mn ns) t.pair.1 z.k) ∧ ∀ y ∈ z.ns, ∃ j : Nat, t.pair.1 ≤ (j : Int) ∧ j + 1 ≤ z.k ∧ RowF N ns z.N y j) (le := fun z => [(1, .map (some z.cb)), (3, .pointer (some ⟨b0, 0, none⟩)), (5, .pointer (some ⟨b1, 0, none⟩)), (7, .map (some b2)), (42, .int .i64 (t.pair.2 + 1)), (43, .int .i64 z.k)]) (Le := fun z => .obj b2 (.map z.es z.c) :: .blk b1 75 t.cells :: .blk b0 197 (cardC f cf A n c) :: poolE 255 z.N z.mn none :: roM z.cb z.esC z.cC :: roM b es cl :: R) (μ := fun z => B + 1 - z.k) ⟨N, mn, [], #[], 0, ns, b, es, cl, [], 0⟩ ⟨Nat.zero_le _, MsI.start hP hC, .refl _, fun y hy => (by cases hy)⟩ sbz_ slz_ (fun z hz => ?_)
   obtain ⟨hzk, hzm, hzl, hzj⟩ := hz
   refine sr ?_
   refine ww ?_
   refine nq ?_
   refine sq ?_
   refine czz (fun h2 => ?_) fun h2 => ?_
   ·
    have hkB : z.k ≤ B := by simp only [decide_eq_true_eq] at h2; omega
    refine skp ?_
    refine q_seq ?_
    refine sq ?_
    refine bk ?_
    refine sr ?_
    iterate 2 refine ww ?_
    refine nq ?_
    refine sq ?_
    refine sr ?_
    iterate 5 refine ww ?_
    refine nq ?_
    refine czz (fun h3 => ?_) fun h3 => ?_
    ·
     have hak : t.pair.1 ≤ (z.k : Int) := of_decide_eq_true h3
     refine sr ?_
     refine ww ?_
     refine rngM (b := z.cb) (es := z.esC) (c := z.cC) (h := fun r1 => ?_)
     rw [cr_kv hzm.cur]
     refine nq ?_
     refine bk ?_
     refine lp (X := MZ2) (I := fun v => MsI f N mn ns t.pair.1 K z.k z.cs z.esC z.cC (z.l ++ toC z.mn v.dn) v.N v.mn v.ns v.es v.c ∧ (∀ y ∈ z.cs, v.mn y.b = z.mn y.b) ∧ (v.dn ++ v.ts).Perm z.cs ∧ v.tk.Perm (v.ts.map ndKV)) (le := fun v => [(1, .map (some z.cb)), (3, .pointer (some ⟨b0, 0, none⟩)), (5, .pointer (some ⟨b1, 0, none⟩)), (7, .map (some b2)), (42, .int .i64 (t.pair.2 + 1)), (43, .int .i64 z.k), (52, .pointer (some ⟨r1, 0, none⟩))]) (Le := fun v => itE r1 z.cb z.esC z.cC v.tk v.o :: .obj b2 (.map v.es v.c) :: .blk b1 75 t.cells :: .blk b0 197 (cardC f cf A n c) :: poolE 255 v.N v.mn none :: roM z.cb z.esC z.cC :: roM b es cl :: R) (μ := fun v => v.ts.length) ⟨z.N, z.mn, z.ns, z.es, z.c, [], z.cs, z.cs.map ndKV, none⟩ ⟨by show MsI _ _ _ _ _ _ _ _ _ _ (z.l ++ []) _ _ _ _ _; rw [List.append_nil]; exact hzm, fun y hy => rfl, .refl _, .refl _⟩ sbz_ slz_ (fun v hv0 => ?_)
     obtain ⟨hvm, hvc, hvd, hvt⟩ := hv0
     refine sr ?_
     refine nxtM (b := z.cb) (es := z.esC) (c := z.cC) (hs := hzm.cur.s) (h := fun o2 tk2 ho2 => ?_)
     refine wy exN ?_
     refine nq ?_
     refine sq ?_
     refine czz (fun h4 => ?_) fun h4 => ?_
     ·
      obtain ⟨kv, rfl⟩ := Option.isSome_iff_exists.1 h4
      rcases todo_nd hvt ho2 with ⟨e, _⟩ | ⟨x, ts', e, hts, htk⟩
      ·
       cases e
      obtain rfl := Option.some.inj e
      have hxn : x ∈ z.cs := hvd.subset (List.mem_append.2 (.inr (hts.symm.subset List.mem_cons_self)))
      refine skp ?_
      refine q_seq ?_
      refine bk ?_
      refine sr ?_
      refine wy (entM (b := z.cb) (es := z.esC) (c := z.cC) (hs := hzm.cur.s)) ?_
      iterate 2 refine ww ?_
      refine nr ?_
      iterate 2 refine ww ?_
      refine wy (ldQA (hy := hvm.cur.sub x hxn)) ?_
      refine al (h := fun b3 => ?_)
      first | refine stA (h := ?_) | refine stEA (h := ?_)
      refine nq ?_
      refine WC.pNew ⟨b3, x.s, x.bf, x.sd⟩ (v.mn x.b) .here atz_ (fun hne => ?_)
      have hcp := hvm.ok.copy (y := ⟨b3, x.s, x.bf, x.sd⟩) (hvm.cur.sub x hxn) hne rfl rfl rfl
      refine rg ?_
      refine ww ?_
      refine clT (hc := T_put (⟨b3, x.s, x.bf, x.sd⟩ :: v.N) v.ns (upN v.mn b3 (v.mn x.b)) ⟨b3, x.s, x.bf, x.sd⟩ b2 v.es v.c hvm.cr.m hvm.cr.s hcp.nd (fun y hy => (hcp.ok y hy).len hf) (fun y hy => List.mem_cons_of_mem _ (hvm.cr.sub y hy)) List.mem_cons_self) (h := fun q hq => ?_)
      have hcy := hvm.copy hak hxn hne hq
      refine nl ?_
      refine q_blk_norm ?_
      refine rn (x := v) ⟨⟨b3, x.s, x.bf, x.sd⟩ :: v.N, putM v.ns (upN v.mn b3 (v.mn x.b)) ⟨b3, x.s, x.bf, x.sd⟩, putNs v.ns ⟨b3, x.s, x.bf, x.sd⟩, q.1, q.2, v.dn ++ [x], ts', tk2, some (ndKV x)⟩ ⟨by rw [toC_snoc, ← List.append_assoc, ← ndE_eq (hvc x hxn)]; exact hcy.1, fun y hy => (hcy.2 y hy).trans (hvc y hy), by rw [List.append_assoc]; exact ((List.Perm.append_left v.dn hts.symm)).trans hvd, htk⟩ (by have := hts.length_eq; rw [List.length_cons] at this; dsimp only; omega) sbz_ slz_
     ·
      have ho3 : o2 = none := by simpa using h4
      have hts : v.ts = [] := by
       rcases todo_nd hvt ho2 with ⟨_, h9, _⟩ | ⟨x, ts', e, _⟩
       ·
        exact h9
       ·
        rw [ho3] at e; cases e
      have hdn : v.dn.Perm z.cs := by rw [hts, List.append_nil] at hvd; exact hvd
      have hyl : (z.l ++ toC z.mn v.dn).Perm (missI f (toC mn ns) t.pair.1 (z.k + 1)) := by
       rw [missI, if_pos hak]
       exact hzl.append ((hdn.map (ndE z.mn)).trans hzm.csP)
      refine et ?_
      iterate 2 refine q_then_exit ?_
      refine q_blk_hit ?_
      refine q_seq ?_
      refine rg ?_
      iterate 2 refine ww ?_
      first
       | refine clT (hc := T_reader_play f hf cf A n c v.N z.cs v.mn (-1) (K + (z.k : Int)) (by omega) hvm.ok z.cb z.esC z.cC hvm.cur) (h := fun q hq => ?_)
       | refine clT (hc := T_reader_play f hf cf A n c z.N z.cs z.mn (-1) (K + (z.k : Int)) (by omega) hzm.ok z.cb z.esC z.cC hzm.cur) (h := fun q hq => ?_)
      obtain ⟨dn2, hd2, hq⟩ := hq
      refine ww ?_
      refine WL.toRoM (b := q.b) (es := q.es) (c := q.c) atz_ ?_
      refine nl ?_
      refine q_blk_norm ?_
      refine q_seq ?_
      refine rg ?_
      iterate 2 refine ww ?_
      refine nl ?_
      first
       | (refine rn (x := z) ⟨q.N, q.mn, v.ns, v.es, v.c, q.ns, q.b, q.es, q.c, z.l ++ toC z.mn v.dn, z.k + 1⟩ ⟨by dsimp only; omega, hvm.play hd2 hq, hyl, fun y hy => by
         obtain ⟨j, h7, h8, h9⟩ := hvm.outR y hy
         exact ⟨j, h7, by dsimp only; omega, h9.mono hq.sub⟩⟩ (by dsimp only; omega) sbz_ slz_)
       | (refine rn (x := z) ⟨q.N, q.mn, z.ns, z.es, z.c, q.ns, q.b, q.es, q.c, z.l, z.k + 1⟩ ⟨by dsimp only; omega, hzm.play hd2 hq, hnl, fun y hy => by
         obtain ⟨j, h7, h8, h9⟩ := hzj y hy
         exact ⟨j, h7, by dsimp only; omega, h9.mono hq.sub⟩⟩ (by dsimp only; omega) sbz_ slz_)
    ·
     have hak : ¬ t.pair.1 ≤ (z.k : Int) := of_decide_eq_false h3
     have hnl : (z.l).Perm (missI f (toC mn ns) t.pair.1 (z.k + 1)) := by
      rw [missI, if_neg hak, List.append_nil]; exact hzl
     refine skp ?_
     refine q_seq ?_
     refine rg ?_
     iterate 2 refine ww ?_
     first
      | refine clT (hc := T_reader_play f hf cf A n c v.N z.cs v.mn (-1) (K + (z.k : Int)) (by omega) hvm.ok z.cb z.esC z.cC hvm.cur) (h := fun q hq => ?_)
      | refine clT (hc := T_reader_play f hf cf A n c z.N z.cs z.mn (-1) (K + (z.k : Int)) (by omega) hzm.ok z.cb z.esC z.cC hzm.cur) (h := fun q hq => ?_)
     obtain ⟨dn2, hd2, hq⟩ := hq
     refine ww ?_
     refine WL.toRoM (b := q.b) (es := q.es) (c := q.c) atz_ ?_
     refine nl ?_
     refine q_blk_norm ?_
     refine q_seq ?_
     refine rg ?_
     iterate 2 refine ww ?_
     refine nl ?_
     first
      | (refine rn (x := z) ⟨q.N, q.mn, v.ns, v.es, v.c, q.ns, q.b, q.es, q.c, z.l ++ toC z.mn v.dn, z.k + 1⟩ ⟨by dsimp only; omega, hvm.play hd2 hq, hyl, fun y hy => by
        obtain ⟨j, h7, h8, h9⟩ := hvm.outR y hy
        exact ⟨j, h7, by dsimp only; omega, h9.mono hq.sub⟩⟩ (by dsimp only; omega) sbz_ slz_)
      | (refine rn (x := z) ⟨q.N, q.mn, z.ns, z.es, z.c, q.ns, q.b, q.es, q.c, z.l, z.k + 1⟩ ⟨by dsimp only; omega, hzm.play hd2 hq, hnl, fun y hy => by
        obtain ⟨j, h7, h8, h9⟩ := hzj y hy
        exact ⟨j, h7, by dsimp only; omega, h9.mono hq.sub⟩⟩ (by dsimp only; omega) sbz_ slz_)
   ·
    have hkB : z.k = B + 1 := by simp only [decide_eq_false_iff_not] at h2; omega
    refine et ?_
    iterate 2 refine q_then_exit ?_
    refine q_blk_hit ?_
    refine q_blk_norm ?_
    refine q_seq ?_
    refine sr ?_
    iterate 2 refine ww ?_
    refine nq ?_
    refine rtn ?_
    refine q_ret (hR := ?_)
    rw [hkB] at hzm hzl
    exact fun w hS => ⟨⟨z.N, z.mn, z.ns, b2, z.es, z.c⟩, rd_missed ht hB hzl hzm (fun y hy => by obtain ⟨j, h7, h8, h9⟩ := hzj y hy; exact ⟨j, h7, by omega, h9⟩), rfl, hS.sub slz_⟩
  ·
   exact absurd ht (of_decide_eq_false h1)
end Go.Proofs.YthkliiifllhacaaGreat

namespace Go.Proofs.YthkliiifllhacaaGreat
open Go Go.RowKit

def sdV (x : Nt) (least : Int) : Bool := wi x.side least 1 && decide (x.pair = (0, 0))
def prV (x : Nt) (most : Int) : Bool := decide (x.side = 0) && wi x.pair.1 0 most && wi x.pair.2 0 most
def mkV (x : Nt) : Bool := bif decide (x.kind = 1) then sdV x (-1) else bif decide (x.kind = 2) then prV x 30 && decide (x.pair.1 ≤ x.pair.2) else
 bif decide (x.kind = 3) || (decide (x.kind = 4) || decide (x.kind = 5)) then prV x 40 else bif decide (x.kind = 6) || decide (x.kind = 7) then sdV x 0 else false
theorem T_isMark1 (x : Nt) (least : Int) (b : Nat) : Tr Tryz.prog 199 [.int .i64 least, .pointer (some ⟨b, 0, none⟩)] [.blk b 75 x.cells] (fun _ : Unit => True) (fun _ => .bool (sdV x least)) (fun _ => [.blk b 75 x.cells]) := by
 refine ⟨fun w0 w R hst => ?_⟩
 have zP : decide ([x.pair.1, x.pair.2] = [(0 : Int), 0]) = decide (x.pair = (0, 0)) := by rw [pair_eq2]; exact dec_pr x.pair (0, 0)
 refine en Tryz.func199 Tryz.ntmps199 hst (h := fun F => ?_)
 refine sr ?_
 refine ww ?_
 refine nr ?_
 iterate 3 refine ww ?_
 refine cl0 (hc := fun w hS => C_card_within ..) (h := ?_)
 refine ww ?_
 apply brAnd 5 8 13 (by exact rfl)
 ·
  intro hb0
  iterate 3 refine uw ?_
  refine uz ?_
  refine wy eqlT ?_
  refine ww ?_
  exact mg (by repeat (first | exact trivial | refine ⟨rfl, ?_⟩ | refine ⟨by rw [hb0]; rfl, ?_⟩)) slz_
 ·
  intro hb0
  repeat (first | refine uz ?_ | refine kz ?_ | refine wz ?_)
  exact mg (by repeat (first | exact trivial | refine ⟨rfl, ?_⟩ | refine ⟨by rw [hb0]; rfl, ?_⟩)) slz_
 refine ww ?_
 refine nq ?_
 refine rtn ?_
 refine q_ret (hR := ?_)
 exact fun w hS => ⟨(), trivial, by rw [sdV, ← zP]; rfl, hS⟩
theorem T_isMark2 (x : Nt) (most : Int) (b : Nat) : Tr Tryz.prog 200 [.int .i64 most, .pointer (some ⟨b, 0, none⟩)] [.blk b 75 x.cells] (fun _ : Unit => True) (fun _ => .bool (prV x most)) (fun _ => [.blk b 75 x.cells]) := by
 refine ⟨fun w0 w R hst => ?_⟩
 refine en Tryz.func200 Tryz.ntmps200 hst (h := fun F => ?_)
 refine sr ?_
 refine ww ?_
 refine nr ?_
 iterate 4 refine ww ?_
 apply brAnd 6 7 13 (by exact rfl)
 ·
  intro hb0
  iterate 4 refine uw ?_
  refine uz ?_
  refine cl0 (hc := fun w hS => C_card_within ..) (h := ?_)
  refine ww ?_
  exact mg (by repeat (first | exact trivial | refine ⟨rfl, ?_⟩ | refine ⟨by rw [hb0]; rfl, ?_⟩)) slz_
 ·
  intro hb0
  repeat (first | refine uz ?_ | refine kz ?_ | refine wz ?_)
  exact mg (by repeat (first | exact trivial | refine ⟨rfl, ?_⟩ | refine ⟨by rw [hb0]; rfl, ?_⟩)) slz_
 refine ww ?_
 apply brAnd 6 14 20 (by exact rfl)
 ·
  intro hb1
  iterate 4 refine uw ?_
  refine uz ?_
  refine cl0 (hc := fun w hS => C_card_within ..) (h := ?_)
  refine ww ?_
  exact mg (by repeat (first | exact trivial | refine ⟨rfl, ?_⟩ | refine ⟨by rw [hb1]; rfl, ?_⟩)) slz_
 ·
  intro hb1
  repeat (first | refine uz ?_ | refine kz ?_ | refine wz ?_)
  exact mg (by repeat (first | exact trivial | refine ⟨rfl, ?_⟩ | refine ⟨by rw [hb1]; rfl, ?_⟩)) slz_
 refine ww ?_
 refine nq ?_
 refine rtn ?_
 refine q_ret (hR := ?_)
 exact fun w hS => ⟨(), trivial, rfl, hS⟩
theorem C_card_isMark (x : Nt) (w : World) : C0 Tryz.prog 165 [x.val] w (.bool (mkV x)) := by
 refine ⟨en Tryz.func165 Tryz.ntmps165 (St.init w) (h := fun F => ?_)⟩
 refine sr ?_
 refine bxA (h := fun b0 => ?_)
 refine ww ?_
 refine nr ?_
 iterate 2 refine ww ?_
 refine nr ?_
 iterate 2 refine ww ?_
 refine nq ?_
 refine sq ?_
 refine sr ?_
 iterate 2 refine ww ?_
 refine nq ?_
 refine bk ?_
 refine sr ?_
 iterate 2 refine ww ?_
 refine nq ?_
 refine czz (fun h0 => ?_) fun h0 => ?_
 ·
  refine sr ?_
  refine ww ?_
  refine clfT inferInstance (fi := []) (cap := [.pointer (some ⟨b0, 0, none⟩)]) (by exact rfl) (by repeat (first | exact Evs.nil | (apply Evs.cons; exact rfl))) (T_isMark1 x (-1) b0) rfl (by repeat (first | exact Spl.nil | (apply Spl.cons; (repeat (first | exact At.here | apply At.there))))) (h := fun _ _ => ?_)
  refine ww ?_
  refine nq ?_
  refine rtn ?_
  refine q_blk_ret ?_
  refine q_then_ret ?_
  refine q_ret (hR := ?_)
  refine fun w hS => ⟨?_, hS.sub slz_⟩
  clear hS
  simp_all [mkV, resV]
 ·
  refine sr ?_
  iterate 2 refine ww ?_
  refine nq ?_
  refine czz (fun h1 => ?_) fun h1 => ?_
  ·
   refine sr ?_
   refine ww ?_
   refine clfT inferInstance (fi := []) (cap := [.pointer (some ⟨b0, 0, none⟩)]) (by exact rfl) (by repeat (first | exact Evs.nil | (apply Evs.cons; exact rfl))) (T_isMark2 x 30 b0) rfl (by repeat (first | exact Spl.nil | (apply Spl.cons; (repeat (first | exact At.here | apply At.there))))) (h := fun _ _ => ?_)
   refine ww ?_
   apply brAnd 8 17 25 (by exact rfl)
   ·
    intro hb2
    iterate 7 refine uw ?_
    refine ww ?_
    exact mg (by repeat (first | exact trivial | refine ⟨rfl, ?_⟩ | refine ⟨by rw [hb2]; rfl, ?_⟩)) slz_
   ·
    intro hb2
    repeat (first | refine uz ?_ | refine kz ?_ | refine wz ?_)
    exact mg (by repeat (first | exact trivial | refine ⟨rfl, ?_⟩ | refine ⟨by rw [hb2]; rfl, ?_⟩)) slz_
   refine ww ?_
   refine nq ?_
   refine rtn ?_
   refine q_blk_ret ?_
   refine q_then_ret ?_
   refine q_ret (hR := ?_)
   refine fun w hS => ⟨?_, hS.sub slz_⟩
   clear hS
   simp_all [mkV, resV]
  ·
   refine sq ?_
   refine sr ?_
   iterate 2 refine ww ?_
   refine nq ?_
   refine czz (fun h3 => ?_) fun h3 => ?_
   ·
    refine skp ?_
    refine q_seq ?_
    refine czz (fun h4 => ?_) fun h4 => ?_
    ·
     refine sr ?_
     refine ww ?_
     refine clfT inferInstance (fi := []) (cap := [.pointer (some ⟨b0, 0, none⟩)]) (by exact rfl) (by repeat (first | exact Evs.nil | (apply Evs.cons; exact rfl))) (T_isMark2 x 40 b0) rfl (by repeat (first | exact Spl.nil | (apply Spl.cons; (repeat (first | exact At.here | apply At.there))))) (h := fun _ _ => ?_)
     refine ww ?_
     refine nq ?_
     refine rtn ?_
     refine q_blk_ret ?_
     refine q_then_ret ?_
     refine q_ret (hR := ?_)
     refine fun w hS => ⟨?_, hS.sub slz_⟩
     clear hS
     simp_all [mkV, resV]
    ·
     refine sq ?_
     refine sr ?_
     iterate 2 refine ww ?_
     refine nq ?_
     refine czz (fun h5 => ?_) fun h5 => ?_
     ·
      refine skp ?_
      refine q_seq ?_
      refine czz (fun h6 => ?_) fun h6 => ?_
      ·
       refine sr ?_
       refine ww ?_
       refine clfT inferInstance (fi := []) (cap := [.pointer (some ⟨b0, 0, none⟩)]) (by exact rfl) (by repeat (first | exact Evs.nil | (apply Evs.cons; exact rfl))) (T_isMark1 x 0 b0) rfl (by repeat (first | exact Spl.nil | (apply Spl.cons; (repeat (first | exact At.here | apply At.there))))) (h := fun _ _ => ?_)
       refine ww ?_
       refine nq ?_
       refine rtn ?_
       refine q_blk_ret ?_
       refine q_then_ret ?_
       refine q_ret (hR := ?_)
       refine fun w hS => ⟨?_, hS.sub slz_⟩
       clear hS
       simp_all [mkV, resV]
      ·
       refine skp ?_
       refine q_blk_norm ?_
       refine q_seq ?_
       refine sr ?_
       refine ww ?_
       refine nq ?_
       refine rtn ?_
       refine q_ret (hR := ?_)
       refine fun w hS => ⟨?_, hS.sub slz_⟩
       clear hS
       simp_all [mkV, resV]
     ·
      refine rg ?_
      iterate 2 refine ww ?_
      refine nq ?_
      refine czz (fun h7 => ?_) fun h7 => ?_
      ·
       refine sr ?_
       refine ww ?_
       refine clfT inferInstance (fi := []) (cap := [.pointer (some ⟨b0, 0, none⟩)]) (by exact rfl) (by repeat (first | exact Evs.nil | (apply Evs.cons; exact rfl))) (T_isMark1 x 0 b0) rfl (by repeat (first | exact Spl.nil | (apply Spl.cons; (repeat (first | exact At.here | apply At.there))))) (h := fun _ _ => ?_)
       refine ww ?_
       refine nq ?_
       refine rtn ?_
       refine q_blk_ret ?_
       refine q_then_ret ?_
       refine q_ret (hR := ?_)
       refine fun w hS => ⟨?_, hS.sub slz_⟩
       clear hS
       simp_all [mkV, resV]
      ·
       refine skp ?_
       refine q_blk_norm ?_
       refine q_seq ?_
       refine sr ?_
       refine ww ?_
       refine nq ?_
       refine rtn ?_
       refine q_ret (hR := ?_)
       refine fun w hS => ⟨?_, hS.sub slz_⟩
       clear hS
       simp_all [mkV, resV]
   ·
    refine sr ?_
    iterate 2 refine ww ?_
    refine nq ?_
    refine czz (fun h8 => ?_) fun h8 => ?_
    ·
     refine skp ?_
     refine q_seq ?_
     refine czz (fun h9 => ?_) fun h9 => ?_
     ·
      refine sr ?_
      refine ww ?_
      refine clfT inferInstance (fi := []) (cap := [.pointer (some ⟨b0, 0, none⟩)]) (by exact rfl) (by repeat (first | exact Evs.nil | (apply Evs.cons; exact rfl))) (T_isMark2 x 40 b0) rfl (by repeat (first | exact Spl.nil | (apply Spl.cons; (repeat (first | exact At.here | apply At.there))))) (h := fun _ _ => ?_)
      refine ww ?_
      refine nq ?_
      refine rtn ?_
      refine q_blk_ret ?_
      refine q_then_ret ?_
      refine q_ret (hR := ?_)
      refine fun w hS => ⟨?_, hS.sub slz_⟩
      clear hS
      simp_all [mkV, resV]
     ·
      refine sq ?_
      refine sr ?_
      iterate 2 refine ww ?_
      refine nq ?_
      refine czz (fun h10 => ?_) fun h10 => ?_
      ·
       refine skp ?_
       refine q_seq ?_
       refine czz (fun h11 => ?_) fun h11 => ?_
       ·
        refine sr ?_
        refine ww ?_
        refine clfT inferInstance (fi := []) (cap := [.pointer (some ⟨b0, 0, none⟩)]) (by exact rfl) (by repeat (first | exact Evs.nil | (apply Evs.cons; exact rfl))) (T_isMark1 x 0 b0) rfl (by repeat (first | exact Spl.nil | (apply Spl.cons; (repeat (first | exact At.here | apply At.there))))) (h := fun _ _ => ?_)
        refine ww ?_
        refine nq ?_
        refine rtn ?_
        refine q_blk_ret ?_
        refine q_then_ret ?_
        refine q_ret (hR := ?_)
        refine fun w hS => ⟨?_, hS.sub slz_⟩
        clear hS
        simp_all [mkV, resV]
       ·
        refine skp ?_
        refine q_blk_norm ?_
        refine q_seq ?_
        refine sr ?_
        refine ww ?_
        refine nq ?_
        refine rtn ?_
        refine q_ret (hR := ?_)
        refine fun w hS => ⟨?_, hS.sub slz_⟩
        clear hS
        simp_all [mkV, resV]
      ·
       refine rg ?_
       iterate 2 refine ww ?_
       refine nq ?_
       refine czz (fun h12 => ?_) fun h12 => ?_
       ·
        refine sr ?_
        refine ww ?_
        refine clfT inferInstance (fi := []) (cap := [.pointer (some ⟨b0, 0, none⟩)]) (by exact rfl) (by repeat (first | exact Evs.nil | (apply Evs.cons; exact rfl))) (T_isMark1 x 0 b0) rfl (by repeat (first | exact Spl.nil | (apply Spl.cons; (repeat (first | exact At.here | apply At.there))))) (h := fun _ _ => ?_)
        refine ww ?_
        refine nq ?_
        refine rtn ?_
        refine q_blk_ret ?_
        refine q_then_ret ?_
        refine q_ret (hR := ?_)
        refine fun w hS => ⟨?_, hS.sub slz_⟩
        clear hS
        simp_all [mkV, resV]
       ·
        refine skp ?_
        refine q_blk_norm ?_
        refine q_seq ?_
        refine sr ?_
        refine ww ?_
        refine nq ?_
        refine rtn ?_
        refine q_ret (hR := ?_)
        refine fun w hS => ⟨?_, hS.sub slz_⟩
        clear hS
        simp_all [mkV, resV]
    ·
     refine rg ?_
     iterate 2 refine ww ?_
     refine nq ?_
     refine czz (fun h13 => ?_) fun h13 => ?_
     ·
      refine sr ?_
      refine ww ?_
      refine clfT inferInstance (fi := []) (cap := [.pointer (some ⟨b0, 0, none⟩)]) (by exact rfl) (by repeat (first | exact Evs.nil | (apply Evs.cons; exact rfl))) (T_isMark2 x 40 b0) rfl (by repeat (first | exact Spl.nil | (apply Spl.cons; (repeat (first | exact At.here | apply At.there))))) (h := fun _ _ => ?_)
      refine ww ?_
      refine nq ?_
      refine rtn ?_
      refine q_blk_ret ?_
      refine q_then_ret ?_
      refine q_ret (hR := ?_)
      refine fun w hS => ⟨?_, hS.sub slz_⟩
      clear hS
      simp_all [mkV, resV]
     ·
      refine sq ?_
      refine sr ?_
      iterate 2 refine ww ?_
      refine nq ?_
      refine czz (fun h14 => ?_) fun h14 => ?_
      ·
       refine skp ?_
       refine q_seq ?_
       refine czz (fun h15 => ?_) fun h15 => ?_
       ·
        refine sr ?_
        refine ww ?_
        refine clfT inferInstance (fi := []) (cap := [.pointer (some ⟨b0, 0, none⟩)]) (by exact rfl) (by repeat (first | exact Evs.nil | (apply Evs.cons; exact rfl))) (T_isMark1 x 0 b0) rfl (by repeat (first | exact Spl.nil | (apply Spl.cons; (repeat (first | exact At.here | apply At.there))))) (h := fun _ _ => ?_)
        refine ww ?_
        refine nq ?_
        refine rtn ?_
        refine q_blk_ret ?_
        refine q_then_ret ?_
        refine q_ret (hR := ?_)
        refine fun w hS => ⟨?_, hS.sub slz_⟩
        clear hS
        simp_all [mkV, resV]
       ·
        refine skp ?_
        refine q_blk_norm ?_
        refine q_seq ?_
        refine sr ?_
        refine ww ?_
        refine nq ?_
        refine rtn ?_
        refine q_ret (hR := ?_)
        refine fun w hS => ⟨?_, hS.sub slz_⟩
        clear hS
        simp_all [mkV, resV]
      ·
       refine rg ?_
       iterate 2 refine ww ?_
       refine nq ?_
       refine czz (fun h16 => ?_) fun h16 => ?_
       ·
        refine sr ?_
        refine ww ?_
        refine clfT inferInstance (fi := []) (cap := [.pointer (some ⟨b0, 0, none⟩)]) (by exact rfl) (by repeat (first | exact Evs.nil | (apply Evs.cons; exact rfl))) (T_isMark1 x 0 b0) rfl (by repeat (first | exact Spl.nil | (apply Spl.cons; (repeat (first | exact At.here | apply At.there))))) (h := fun _ _ => ?_)
        refine ww ?_
        refine nq ?_
        refine rtn ?_
        refine q_blk_ret ?_
        refine q_then_ret ?_
        refine q_ret (hR := ?_)
        refine fun w hS => ⟨?_, hS.sub slz_⟩
        clear hS
        simp_all [mkV, resV]
       ·
        refine skp ?_
        refine q_blk_norm ?_
        refine q_seq ?_
        refine sr ?_
        refine ww ?_
        refine nq ?_
        refine rtn ?_
        refine q_ret (hR := ?_)
        refine fun w hS => ⟨?_, hS.sub slz_⟩
        clear hS
        simp_all [mkV, resV]
def encN (xs : List Nt) : List (List Value) := xs.map Nt.cells
theorem encN_len (xs : List Nt) : (encN xs).length = xs.length := List.length_map _
theorem encN_at {xs : List Nt} {k : Nat} {x : Nt} (h : xs[k]? = some x) : (encN xs)[k]? = some x.cells := by unfold encN; rw [List.getElem?_map, h]; rfl
def headB (f : Fmt) (first : Int) (n : Nat) : Bool := !decide (chkF f = 0) || !wi first (-1) 1 || decide ((30 : Int) < n)
def chkC (f : Fmt) (first : Int) (xs : List Nt) : Int := bif headB f first xs.length then 30 else bif !xs.all mkV then 30 else bif decide (600 < mostS xs) then 30 else 0
theorem mostS_succ {xs : List Nt} {k : Nat} {x : Nt} (h : xs[k]? = some x) : mostS (xs.take (k + 1)) = mostS (xs.take k) + mostN x := by
 unfold mostS
 rw [List.take_add_one, h, List.map_append, List.sum_append]
 show _ + (mostN x + 0) = _
 omega
theorem mk_kind {x : Nt} (h : mkV x = true) : (1 ≤ x.kind ∧ x.kind ≤ 7) ∧ (x.kind = 1 → -1 ≤ x.side ∧ x.side ≤ 1 ∧ x.pair = (0, 0)) ∧ (x.kind = 2 → x.side = 0 ∧ 0 ≤ x.pair.1 ∧ x.pair.1 ≤ x.pair.2 ∧ x.pair.2 ≤ 30) ∧ (3 ≤ x.kind → x.kind ≤ 5 → x.side = 0 ∧ (0 ≤ x.pair.1 ∧ x.pair.1 ≤ 40) ∧ 0 ≤ x.pair.2 ∧ x.pair.2 ≤ 40) ∧ (6 ≤ x.kind → 0 ≤ x.side ∧ x.side ≤ 1 ∧ x.pair = (0, 0)) := by
 unfold mkV at h
 by_cases h1 : x.kind = 1
 ·
  rw [decide_eq_true h1, cond_true, sdV, Bool.and_eq_true, wi_iff, decide_eq_true_eq] at h
  exact ⟨by omega, fun _ => ⟨h.1.1, h.1.2, h.2⟩, by omega, by omega, by omega⟩
 rw [decide_eq_false h1, cond_false] at h
 by_cases h2 : x.kind = 2
 ·
  rw [decide_eq_true h2, cond_true, prV, Bool.and_eq_true, Bool.and_eq_true, Bool.and_eq_true, wi_iff, wi_iff, decide_eq_true_eq, decide_eq_true_eq] at h
  exact ⟨by omega, by omega, fun _ => by omega, by omega, by omega⟩
 rw [decide_eq_false h2, cond_false] at h
 by_cases h3 : (decide (x.kind = 3) || (decide (x.kind = 4) || decide (x.kind = 5))) = true
 ·
  rw [h3, cond_true, prV, Bool.and_eq_true, Bool.and_eq_true, wi_iff, wi_iff, decide_eq_true_eq] at h
  simp only [Bool.or_eq_true, decide_eq_true_eq] at h3
  exact ⟨by omega, by omega, by omega, fun _ _ => by omega, by omega⟩
 rw [Bool.not_eq_true] at h3
 rw [h3, cond_false] at h
 by_cases h4 : (decide (x.kind = 6) || decide (x.kind = 7)) = true
 ·
  rw [h4, cond_true, sdV, Bool.and_eq_true, wi_iff, decide_eq_true_eq] at h
  simp only [Bool.or_eq_true, decide_eq_true_eq] at h4
  exact ⟨by omega, by omega, by omega, by omega, fun _ => ⟨h.1.1, h.1.2, h.2⟩⟩
 ·
  rw [Bool.not_eq_true] at h4
  rw [h4, cond_false] at h
  cases h
theorem most_bd {x : Nt} (h : mkV x = true) : 0 ≤ mostN x ∧ mostN x ≤ 30 := by
 have hk := mk_kind h
 unfold mostN
 by_cases h1 : x.kind = 1
 ·
  rw [if_pos h1]; omega
 ·
  rw [if_neg h1]
  by_cases h2 : x.kind = 2
  ·
   rw [if_pos h2]; have := hk.2.2.1 h2; omega
  ·
   rw [if_neg h2]; omega
structure CKZ where
 (k : Nat)
theorem all_take {xs : List Nt} {k : Nat} {x : Nt} (h : xs[k]? = some x) : (xs.take (k + 1)).all mkV = ((xs.take k).all mkV && mkV x) := by
 rw [List.take_add_one, h, List.all_append]
 simp
theorem all_bad {xs : List Nt} {k : Nat} (h : (xs.take k).all mkV = false) : xs.all mkV = false := by
 cases hh : xs.all mkV
 ·
  rfl
 ·
  rw [List.all_eq_true] at hh
  have : (xs.take k).all mkV = true := List.all_eq_true.2 fun x hx => hh x (List.mem_of_mem_take hx)
  rw [this] at h; cases h
theorem C_card_Check (f : Fmt) (first : Int) (xs : List Nt) (A : Option Addr) (n c : Nat) (w : World) (h : Rd w A 4 n (encN xs)) (hn : n ≤ 9223372036854775807) : C0 Tryz.prog 104 [.agg (cardC f first A n c).toArray] w (.int .i64 (chkC f first xs)) := by
 have hlen : xs.length = n := by have := h.len; rwa [encN_len] at this
 refine ⟨en Tryz.func104 Tryz.ntmps104 ((St.init w).share (e := .ro A 4 n (encN xs)) h rfl rfl rfl) (h := fun F => ?_)⟩
 refine sr ?_
 refine bxA (h := fun b0 => ?_)
 refine ww ?_
 refine nq ?_
 refine sq ?_
 refine sr ?_
 iterate 2 refine ww ?_
 refine cl0 (hc := fun w hS => C_score_Check _ w) (h := ?_)
 iterate 2 refine ww ?_
 apply brOr 5 10 15 (by exact rfl)
 ·
  intro hb0
  iterate 2 refine uw ?_
  refine uz ?_
  refine cl0 (hc := fun w hS => C_card_within ..) (h := ?_)
  refine uw ?_
  refine ww ?_
  exact mg (by repeat (first | exact trivial | refine ⟨rfl, ?_⟩ | refine ⟨by rw [hb0]; rfl, ?_⟩)) slz_
 ·
  intro hb0
  repeat (first | refine uz ?_ | refine kz ?_ | refine wz ?_)
  exact mg (by repeat (first | exact trivial | refine ⟨rfl, ?_⟩ | refine ⟨by rw [hb0]; rfl, ?_⟩)) slz_
 refine ww ?_
 apply brOr 5 16 21 (by exact rfl)
 ·
  intro hb1
  iterate 4 refine uw ?_
  refine ww ?_
  exact mg (by repeat (first | exact trivial | refine ⟨rfl, ?_⟩ | refine ⟨by rw [hb1]; rfl, ?_⟩)) slz_
 ·
  intro hb1
  repeat (first | refine uz ?_ | refine kz ?_ | refine wz ?_)
  exact mg (by repeat (first | exact trivial | refine ⟨rfl, ?_⟩ | refine ⟨by rw [hb1]; rfl, ?_⟩)) slz_
 refine nq ?_
 refine czz (fun h2 => ?_) fun h2 => ?_
 ·
  have hE : chkC f first xs = 30 := by
   have h' : headB f first xs.length = true := by rw [hlen]; exact h2
   rw [chkC, h']; rfl
  refine sr ?_
  refine ww ?_
  refine nq ?_
  refine rtn ?_
  refine q_then_ret ?_
  refine q_ret (hR := ?_)
  rw [hE]
  exact fun w hS => ⟨rfl, hS.sub slz_⟩
 ·
  have hH : headB f first xs.length = false := by rw [hlen]; exact h2
  have hn30 : n ≤ 30 := by
   have h' := hH
   unfold headB at h'
   simp only [Bool.or_eq_false_iff, decide_eq_false_iff_not] at h'
   omega
  refine skp ?_
  refine q_seq ?_
  refine sr ?_
  refine ww ?_
  refine WL.cut (by repeat (first | exact Cut.nil | apply Cut.hit | apply Cut.miss (by exact rfl))) ?_
  refine nq ?_
  refine sq ?_
  refine sr ?_
  iterate 4 refine ww ?_
  refine nq ?_
  refine bk ?_
  refine lp (X := CKZ) (I := fun z => z.k ≤ n ∧ (xs.take z.k).all mkV = true ∧ 0 ≤ mostS (xs.take z.k) ∧ mostS (xs.take z.k) ≤ 30 * (z.k : Int)) (le := fun z => [(3, .int .i64 (mostS (xs.take z.k))), (23, .slice A n c), (24, .int .i64 n), (25, .int .i64 z.k)]) (Le := fun z => [.ro A 4 n (encN xs)]) (μ := fun z => n - z.k) ⟨0⟩ ⟨Nat.zero_le _, rfl, by exact Int.le_refl _, by exact Int.le_refl _⟩ sbz_ slz_ (fun z hz => ?_)
  obtain ⟨hzk, hza, hz0, hzm⟩ := hz
  refine sr ?_
  refine ww ?_
  refine nq ?_
  refine sq ?_
  refine czz (fun h3 => ?_) fun h3 => ?_
  ·
   have hkn : z.k < n := by simp only [decide_eq_true_eq] at h3; omega
   obtain ⟨x, hx⟩ : ∃ x, xs[z.k]? = some x := ⟨_, List.getElem?_eq_getElem (by omega)⟩
   have hxe := encN_at hx
   have hms := mostS_succ hx
   have hal := all_take hx
   refine skp ?_
   refine q_seq ?_
   refine sq ?_
   refine bk ?_
   refine sr ?_
   refine wy (ix (hb := by omega)) ?_
   refine wy (ldEA (hk := hxe)) ?_
   refine al (h := fun b1 => ?_)
   first | refine stA (h := ?_) | refine stEA (h := ?_)
   refine nq ?_
   refine sq ?_
   refine sr ?_
   refine ww ?_
   refine cl0 (hc := fun w hS => C_card_isMark _ w) (h := ?_)
   refine ww ?_
   refine nq ?_
   refine czz (fun h4 => ?_) fun h4 => ?_
   ·
    have hE : chkC f first xs = 30 := by
     have h1 : (!mkV x) = true := h4
     have h2 : xs.all mkV = false := all_bad (k := z.k + 1) (by rw [hal, show mkV x = false by simpa using h1, Bool.and_false])
     rw [chkC, hH, h2]; rfl
    refine sr ?_
    refine ww ?_
    refine nq ?_
    refine rtn ?_
    refine q_then_ret ?_
    refine q_blk_ret ?_
    iterate 2 refine q_then_ret ?_
    refine q_blk_ret ?_
    refine q_then_ret ?_
    refine q_ret (hR := ?_)
    rw [hE]
    exact fun w hS => ⟨rfl, hS.sub slz_⟩
   ·
    have hmk : mkV x = true := by simpa using h4
    have hmb := most_bd hmk
    have hal2 : (xs.take (z.k + 1)).all mkV = true := by rw [hal, hza, hmk]; rfl
    refine skp ?_
    refine q_seq ?_
    refine sr ?_
    iterate 2 refine ww ?_
    refine nq ?_
    refine bk ?_
    refine sr ?_
    iterate 2 refine ww ?_
    refine nq ?_
    refine czz (fun h5 => ?_) fun h5 => ?_
    ·
     have hmo : mostN x = 1 := by unfold mostN; rw [if_pos (of_decide_eq_true h5)]
     refine rg ?_
     refine ww ?_
     refine wy (addI (hb := by omega)) ?_
     refine ww ?_
     refine WL.cut (by repeat (first | exact Cut.nil | apply Cut.hit | apply Cut.miss (by exact rfl))) ?_
     refine nl ?_
     iterate 2 refine q_blk_norm ?_
     refine q_seq ?_
     refine rg ?_
     iterate 2 refine ww ?_
     refine nl ?_
     refine rn (x := z) ⟨z.k + 1⟩ ⟨by dsimp only; omega, hal2, by dsimp only; omega, by dsimp only; omega⟩ (by dsimp only; omega) (by dsimp only; rw [hms, hmo]; (try rw [Int.add_zero]); repeat (first | exact trivial | refine ⟨rfl, ?_⟩)) slz_
    ·
     have hk1 : ¬ x.kind = 1 := of_decide_eq_false h5
     refine sr ?_
     iterate 2 refine ww ?_
     refine nq ?_
     refine czz (fun h6 => ?_) fun h6 => ?_
     ·
      have hmo : mostN x = x.pair.2 := by unfold mostN; rw [if_neg hk1, if_pos (of_decide_eq_true h6)]
      have hpb : 0 ≤ x.pair.2 ∧ x.pair.2 ≤ 30 := by rw [← hmo]; exact hmb
      refine rg ?_
      iterate 4 refine ww ?_
      refine wy (addI (hb := by omega)) ?_
      refine ww ?_
      refine WL.cut (by repeat (first | exact Cut.nil | apply Cut.hit | apply Cut.miss (by exact rfl))) ?_
      refine nl ?_
      iterate 2 refine q_blk_norm ?_
      refine q_seq ?_
      refine rg ?_
      iterate 2 refine ww ?_
      refine nl ?_
      refine rn (x := z) ⟨z.k + 1⟩ ⟨by dsimp only; omega, hal2, by dsimp only; omega, by dsimp only; omega⟩ (by dsimp only; omega) (by dsimp only; rw [hms, hmo]; (try rw [Int.add_zero]); repeat (first | exact trivial | refine ⟨rfl, ?_⟩)) slz_
     ·
      have hmo : mostN x = 0 := by unfold mostN; rw [if_neg hk1, if_neg (of_decide_eq_false h6)]
      refine skp ?_
      iterate 2 refine q_blk_norm ?_
      refine q_seq ?_
      refine rg ?_
      iterate 2 refine ww ?_
      refine nl ?_
      refine rn (x := z) ⟨z.k + 1⟩ ⟨by dsimp only; omega, hal2, by dsimp only; omega, by dsimp only; omega⟩ (by dsimp only; omega) (by dsimp only; rw [hms, hmo]; (try rw [Int.add_zero]); repeat (first | exact trivial | refine ⟨rfl, ?_⟩)) slz_
  ·
   have hkn : z.k = n := by simp only [decide_eq_false_iff_not] at h3; omega
   have htk : xs.take z.k = xs := by rw [hkn, ← hlen, List.take_length]
   rw [htk] at hza hzm
   refine et ?_
   iterate 2 refine q_then_exit ?_
   refine q_blk_hit ?_
   refine q_seq ?_
   refine sq ?_
   refine sr ?_
   iterate 2 refine ww ?_
   refine nq ?_
   refine czz (fun h7 => ?_) fun h7 => ?_
   ·
    have h8 := h7
    rw [htk] at h8
    have hE : chkC f first xs = 30 := by rw [chkC, hH, hza, show decide (600 < mostS xs) = true from h8]; rfl
    refine sr ?_
    refine ww ?_
    refine nq ?_
    refine rtn ?_
    refine q_then_ret ?_
    refine q_ret (hR := ?_)
    rw [hE]
    exact fun w hS => ⟨rfl, hS.sub slz_⟩
   ·
    have h8 := h7
    rw [htk] at h8
    have hE : chkC f first xs = 0 := by rw [chkC, hH, hza, show decide (600 < mostS xs) = false from h8]; rfl
    refine skp ?_
    refine q_seq ?_
    refine sr ?_
    refine ww ?_
    refine nq ?_
    refine rtn ?_
    refine q_ret (hR := ?_)
    rw [hE]
    exact fun w hS => ⟨rfl, hS.sub slz_⟩
end Go.Proofs.YthkliiifllhacaaGreat

namespace Go.Proofs.YthkliiifllhacaaGreat
open Go Go.RowKit

end Go.Proofs.YthkliiifllhacaaGreat

namespace Go.Proofs.YthkliiifllhacaaGreat
open Go Go.RowKit

def win (n lo hi : Int) : Bool := decide (lo ≤ n) && decide (n ≤ hi)
theorem win_iff {n lo hi : Int} : win n lo hi = true ↔ lo ≤ n ∧ n ≤ hi := by simp [win]
structure Ps where
 (player nation : Int) (qual : Bool)
abbrev Ps.enc (x : Ps) : List Value := [.int .i64 x.player, .int .i64 x.nation, .bool x.qual]
abbrev Ps.val (x : Ps) : Value := .agg #[.int .i64 x.player, .int .i64 x.nation, .bool x.qual]
def encPs (ps : List Ps) : List (List Value) := ps.map Ps.enc
theorem encPs_at {ps : List Ps} {k : Nat} {x : Ps} (h : ps[k]? = some x) : (encPs ps)[k]? = some x.enc := by simp [encPs, h]
structure Pl where
 (size seeds : Int) (ps : List Ps) (lots : List Int)
structure PA where
 (pA lA : Option Addr) (pc lc : Nat)
abbrev Pl.cells (p : Pl) (a : PA) : List Value := [.int .i64 p.size, .int .i64 p.seeds, .slice a.pA p.ps.length a.pc, .slice a.lA p.lots.length a.lc]
abbrev Pl.val (p : Pl) (a : PA) : Value := .agg #[.int .i64 p.size, .int .i64 p.seeds, .slice a.pA p.ps.length a.pc, .slice a.lA p.lots.length a.lc]
structure PRd (w : World) (p : Pl) (a : PA) : Prop where
 r : Rd w a.pA 3 p.ps.length (encPs p.ps)
 l : Rd w a.lA 1 p.lots.length (enI p.lots)
 pn : p.ps.length ≤ 9223372036854775807
 ln : p.lots.length ≤ 9223372036854775807
 pc : p.ps.length ≤ a.pc
def headOk (p : Pl) : Bool := (decide (p.size = 4) || decide (p.size = 8)) && win p.ps.length 2 p.size && decide (p.size - p.ps.length ≤ p.size / 2) && win p.seeds 0 (min (p.size / 2) p.ps.length) && decide ((p.lots.length : Int) ≤ 10)
def psOk (seeds : Int) (i : Nat) (x : Ps) : Bool := win x.player 0 999 && win x.nation 0 9 && !(decide ((i : Int) < seeds) && x.qual)
def dupP (ps : List Ps) (k : Nat) (n : Int) : Bool := (ps.take k).any fun x => decide (x.player = n)
def pssOk (seeds : Int) (ps : List Ps) : Nat → Bool
 | 0 => true
 | k + 1 => pssOk seeds ps k && (match ps[k]? with | some x => !dupP ps k x.player && psOk seeds k x | none => true)
def lotOk (n : Int) : Bool := win n 0 999999
def pOk (p : Pl) : Bool := headOk p && pssOk p.seeds p.ps p.ps.length && p.lots.all lotOk
def chkP (p : Pl) : Int := bif pOk p then 0 else 60
theorem pssOk_succ {seeds : Int} {ps : List Ps} {k : Nat} {x : Ps} (h : ps[k]? = some x) : pssOk seeds ps (k + 1) = (pssOk seeds ps k && (!dupP ps k x.player && psOk seeds k x)) := by rw [pssOk, h]
theorem pssOk_le {seeds : Int} {ps : List Ps} {j : Nat} (h : pssOk seeds ps j = false) : ∀ {k : Nat}, j ≤ k → pssOk seeds ps k = false
  | 0, hk => by obtain rfl : j = 0 := by omega
                exact h
  | k + 1, hk => by
    by_cases e : j = k + 1
    · subst e; exact h
    · rw [pssOk, pssOk_le h (k := k) (by omega)]; rfl
theorem dupP_succ {ps : List Ps} {k : Nat} {x : Ps} (h : ps[k]? = some x) (n : Int) : dupP ps (k + 1) n = (dupP ps k n || decide (x.player = n)) := by
 unfold dupP
 rw [List.take_add_one, h]
 simp
theorem dupP_le {ps : List Ps} {n : Int} {j k : Nat} (h : dupP ps j n = true) (hk : j ≤ k) : dupP ps k n = true := by
 unfold dupP at h ⊢
 obtain ⟨x, hx, he⟩ := List.any_eq_true.1 h
 exact List.any_eq_true.2 ⟨x, (List.take_subset_take_left (l := ps) hk) hx, he⟩
structure Pl.Ok (p : Pl) : Prop where
 z : p.size = 4 ∨ p.size = 8
 n : 2 ≤ p.ps.length ∧ (p.ps.length : Int) ≤ p.size ∧ p.size - p.ps.length ≤ p.size / 2
 s : 0 ≤ p.seeds ∧ p.seeds ≤ p.size / 2 ∧ p.seeds ≤ p.ps.length
 l : p.lots.length ≤ 10
 pr : ∀ (i : Nat) (x : Ps), p.ps[i]? = some x → (0 ≤ x.player ∧ x.player ≤ 999) ∧ (0 ≤ x.nation ∧ x.nation ≤ 9) ∧ ((i : Int) < p.seeds → x.qual = false)
 nd : ∀ (i j : Nat) (x y : Ps), i < j → p.ps[i]? = some x → p.ps[j]? = some y → x.player ≠ y.player
 lt : ∀ n ∈ p.lots, 0 ≤ n ∧ n ≤ 999999
theorem pssOk_all {seeds : Int} {ps : List Ps} : ∀ {k : Nat}, pssOk seeds ps k = true → (∀ (i : Nat) (x : Ps), i < k → ps[i]? = some x → psOk seeds i x = true ∧ dupP ps i x.player = false)
 | 0, _, i, _, hi, _ => by omega
 | k + 1, h, i, x, hi, hx => by
  rw [pssOk, Bool.and_eq_true] at h
  by_cases e : i = k
  ·
   subst e
   have h2 := h.2
   rw [hx] at h2
   simp only [Bool.and_eq_true, Bool.not_eq_true'] at h2
   exact ⟨h2.2, h2.1⟩
  ·
   exact pssOk_all h.1 i x (by omega) hx
theorem p_ok {p : Pl} (h : pOk p = true) : p.Ok := by
 simp only [pOk, headOk, Bool.and_eq_true, Bool.or_eq_true, decide_eq_true_eq, win_iff] at h
 obtain ⟨⟨⟨⟨⟨⟨h1, h2⟩, h3⟩, h4⟩, h5⟩, h6⟩, h7⟩ := h
 have hall := pssOk_all h6
 refine ⟨h1, by omega, by omega, by omega, fun i x hx => ?_, fun i j x y hij hx hy he => ?_, fun n hn => ?_⟩
 ·
  have := (hall i x (List.getElem?_eq_some_iff.1 hx).1 hx).1
  simp only [psOk, Bool.and_eq_true, win_iff, Bool.not_eq_true', Bool.and_eq_false_iff, decide_eq_false_iff_not] at this
  refine ⟨this.1.1, this.1.2, fun hi => ?_⟩
  rcases this.2 with h | h
  ·
   exact absurd hi h
  ·
   exact h
 ·
  have := (hall j y (List.getElem?_eq_some_iff.1 hy).1 hy).2
  unfold dupP at this
  rw [List.any_eq_false] at this
  have hm : x ∈ p.ps.take j := by
   have : (p.ps.take j)[i]? = some x := by rw [List.getElem?_take]; simp [hij, hx]
   exact List.mem_of_getElem? this
  exact this x hm (by simp [he])
 ·
  have := List.all_eq_true.1 h7 n hn
  simpa [lotOk, win_iff] using this
theorem chkP_ok {p : Pl} (h : (!decide (chkP p = 0)) = false) : p.Ok ∧ pOk p = true := by
 cases hb : pOk p
 ·
  simp [chkP, hb] at h
 ·
  exact ⟨p_ok hb, rfl⟩
theorem chkP_no {p : Pl} (h : (!decide (chkP p = 0)) = true) : pOk p = false := by
 cases hb : pOk p
 ·
  rfl
 ·
  simp [chkP, hb] at h
def psAt (p : Pl) (n : Int) : Ps := (p.ps[n.toNat]?).getD ⟨0, 0, false⟩
def apartV (p : Pl) (a b : Int) : Bool :=
 bif decide (a = -1) || decide (b = -1) then !decide (a = b)
 else (!decide ((psAt p a).nation = (psAt p b).nation) || decide ((psAt p a).nation = 0)) && !((psAt p a).qual && (psAt p b).qual)
def seatV (p : Pl) (slot n : Int) : Bool :=
 bif decide (slot = 0) && decide (0 < p.seeds) then decide (n = 0)
 else bif decide (slot = p.size - 1) && decide (1 < p.seeds) then decide (n = 1)
 else bif decide (n = -1) || decide (p.seeds ≤ n) then true
 else decide (1 < n) && [p.size / 4, p.size - 1 - p.size / 4].any fun x => decide (slot = x)
def byesV (p : Pl) : Int := p.size - p.ps.length
def byeV (p : Pl) (n other : Int) : Bool := decide (n = -1) || decide (p.seeds ≤ n) || (decide (other = -1) == decide (n < byesV p))
def matchV (p : Pl) (a b : Int) : Bool :=
 bif decide (byesV p ≤ p.seeds) && ((decide (a = -1) && decide (p.seeds ≤ b)) || (decide (b = -1) && decide (p.seeds ≤ a))) then false
 else apartV p a b && byeV p a b && byeV p b a
def hasV (l : List Int) (n : Int) : Bool := l.any fun x => decide (n = x)
def lastV (l : List Int) : Int := (l.getLast?).getD 0
def leftB (byes n : Int) : Int := bif decide (n = -1) then byes - 1 else byes
def skipV (p : Pl) (l : List Int) (byes n : Int) : Bool :=
 decide (leftB byes n < 0) || (!decide (n = -1) && hasV l n) || !seatV p l.length n || (decide ((l.length : Int) % 2 = 1) && !matchV p (lastV l) n)
def moreV (p : Pl) (rk : List Int) : Nat → List Int → Int → List (List Int)
 | 0, l, _ => [l]
 | f + 1, l, byes => rk.flatMap fun n => bif skipV p l byes n then [] else moreV p rk f (l ++ [n]) (leftB byes n)
end Go.Proofs.YthkliiifllhacaaGreat
