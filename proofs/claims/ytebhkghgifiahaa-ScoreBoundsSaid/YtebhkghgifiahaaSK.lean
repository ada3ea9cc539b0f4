/- The plain law of a match: where a match of the program stands, and that the reference's match is the same. -/
import Derived.Test.YtebhkghgifiahaaSJ
namespace Go.Proofs.Ytebhkghgifiahaa
open Go Go.RowKit

theorem leads_n {p : Pr} {l b : Int} : leadsV p l b = -1 ↔ ¬ (l ≤ p.1 ∧ b ≤ p.1 - p.2) ∧ ¬ (l ≤ p.2 ∧ b ≤ p.2 - p.1) := by
  unfold leadsV
  cases h1 : decide (l ≤ p.1) && decide (b ≤ p.1 - p.2)
  · cases h2 : decide (l ≤ p.2) && decide (b ≤ p.2 - p.1)
    · simp at h1 h2 ⊢; omega
    · simp at h1 h2 ⊢; omega
  · simp at h1 ⊢; omega
theorem leads_0 {p : Pr} {l b : Int} : leadsV p l b = 0 ↔ (l ≤ p.1 ∧ b ≤ p.1 - p.2) := by
  unfold leadsV
  cases h1 : decide (l ≤ p.1) && decide (b ≤ p.1 - p.2)
  · cases h2 : decide (l ≤ p.2) && decide (b ≤ p.2 - p.1) <;> simp at h1 h2 ⊢ <;> omega
  · simp at h1 ⊢; omega
theorem leads_1 {p : Pr} {l b : Int} (hb : 1 ≤ b) : leadsV p l b = 1 ↔ (l ≤ p.2 ∧ b ≤ p.2 - p.1) := by
  unfold leadsV
  cases h1 : decide (l ≤ p.1) && decide (b ≤ p.1 - p.2)
  · cases h2 : decide (l ≤ p.2) && decide (b ≤ p.2 - p.1) <;> simp at h1 h2 ⊢ <;> omega
  · simp at h1 ⊢; omega
theorem add_0 (p : Pr) : addV p 0 = (p.1 + 1, p.2) := rfl
theorem add_1 (p : Pr) : addV p 1 = (p.1, p.2 + 1) := rfl
theorem add_sum (p : Pr) (side : Int) : (addV p side).1 + (addV p side).2 = p.1 + p.2 + 1 := by
  unfold addV; cases decide (side = 0) <;> simp only [cond_true, cond_false] <;> omega
/-- One more for a side: none leads, or this side does. -/
theorem leads_add {p : Pr} {l b side : Int} (hb : 1 ≤ b) (hs : side = 0 ∨ side = 1) (h : leadsV p l b = -1) : leadsV (addV p side) l b = -1 ∨ leadsV (addV p side) l b = side := by
  rw [leads_n] at h
  rcases hs with rfl | rfl
  · by_cases h0 : leadsV (addV p 0) l b = 0
    · exact .inr h0
    · left
      rw [leads_n]
      rw [leads_0] at h0
      rw [add_0] at h0 ⊢
      exact ⟨h0, by simp only; omega⟩
  · by_cases h0 : leadsV (addV p 1) l b = 1
    · exact .inr h0
    · left
      rw [leads_n]
      rw [leads_1 hb] at h0
      rw [add_1] at h0 ⊢
      exact ⟨by simp only; omega, h0⟩
theorem game_add {f : Fmt} {s p : Pr} {t : Bool} {side : Int} (hs : side = 0 ∨ side = 1) (h : gameV f s t p = -1) : gameV f s t (addV p side) = -1 ∨ gameV f s t (addV p side) = side := by
  unfold gameV at *
  cases t
  · cases hn : f.noAd <;> rw [hn] at h <;> exact leads_add (by omega) hs h
  · exact leads_add (by omega) hs h

theorem befTo_half (first side : Int) (hf : 0 ≤ first ∧ first ≤ 1) (hs : 0 ≤ side ∧ side ≤ 1) : ∀ k : Nat, befTo first side k = if first = side then ((k : Int) + 1) / 2 else (k : Int) / 2
  | 0 => by simp [befTo]
  | k + 1 => by
    rw [befTo, befTo_half first side hf hs k]
    by_cases h1 : (first + (k : Int)) % 2 = side
    · rw [decide_eq_true h1]
      by_cases h2 : first = side
      · simp only [if_pos h2, cond_true]; omega
      · simp only [if_neg h2, cond_true]; omega
    · rw [decide_eq_false h1]
      by_cases h2 : first = side
      · simp only [if_pos h2, cond_false]; omega
      · simp only [if_neg h2, cond_false]; omega
theorem serv_eq {f : Fmt} {first : Int} {game : Nat} {ties : List Bool} {tie : Bool} {pt : Int} (hf : 0 ≤ first ∧ first ≤ 1) (hl : ties.length = game + 1) (ht : tieI ties ((ties.length : Int) - 1) = tie) (hp : 0 ≤ pt) : servR f first game tie pt = servesV f first ties pt := by
  have hg : (ties.length : Int) - 1 = game := by omega
  have htu : turnV ties pt = turnR tie pt := by unfold turnV turnR; rw [ht]
  have ht0 : 0 ≤ turnR tie pt := by unfold turnR; cases tie <;> simp <;> omega
  unfold servR servesV
  rw [htu, hg]
  generalize turnR tie pt = t at *
  cases f.dbl
  · rfl
  · simp only [Bool.not_true, cond_false]
    rw [befTo_half first _ hf (by omega)]
    by_cases h : first = (first + (game : Int) + t) % 2
    · rw [if_pos h]; omega
    · rw [if_neg h]; omega

theorem tieI_app {l : List Bool} {b : Bool} : tieI (l ++ [b]) ((((l ++ [b]).length : Nat) : Int) - 1) = b := by
  have : ((((l ++ [b]).length : Nat) : Int) - 1).toNat = l.length := by simp
  rw [tieI, this]
  simp
theorem tieI_at {l : List Bool} {i : Nat} {b : Bool} (h : l[i]? = some b) : tieI l (i : Int) = b := by simp [tieI, h]

/-! #### a match in play -/
structure MS.Inv (m : MS) : Prop where
  w : m.winner = -1
  won : m.won = wonV m.st
  tl : m.ties.length = m.gs.length + 1
  te : ∀ (i : Nat) g, m.gs[i]? = some g → m.ties[i]? = some g.tie
  ta : m.tie = brksV (setV m.f m.won) m.g
  g0 : 0 ≤ m.g.1 ∧ 0 ≤ m.g.2
  ld : leadsV m.g m.f.games 2 = -1
  ad : m.f.noAd = true → m.tie = false → m.p.1 < 4 ∧ m.p.2 < 4
  go : gameV m.f (setV m.f m.won) m.tie m.p = -1
  ws : m.won.1 < m.f.sets ∧ m.won.2 < m.f.sets
  p0 : 0 ≤ m.p.1 ∧ 0 ≤ m.p.2
  sv : m.server = servesV m.f m.first m.ties (m.p.1 + m.p.2)
def refOf (m : MS) : RS := ⟨m.st, m.g, m.p, 0, m.ends, m.balls, m.winner, m.first, m.gs, freshV m.f m.ties⟩

theorem set_to (f : Fmt) (hf : f.Ok) (won : Pr) : 1 ≤ (setV f won).2 ∧ -1 ≤ (setV f won).1 := by
  have h1 := hf.o0
  have h2 := hf.l0
  have h3 := hf.t
  have h4 := hf.lt
  have h5 := hf.g0
  unfold setV
  cases decide (won.1 = f.sets - 1) && decide (won.2 = f.sets - 1) <;> simp only [cond_true, cond_false] <;> omega
theorem game_00 {f : Fmt} (hf : f.Ok) (won : Pr) (t : Bool) : gameV f (setV f won) t (0, 0) = -1 := by
  have := set_to f hf won
  unfold gameV
  cases t <;> cases f.noAd <;> simp only [cond_true, cond_false] <;> rw [leads_n] <;> simp only <;> omega
theorem tied_eq {f : Fmt} {st : List Pr} {won g : Pr} (hw : won = wonV st) (hg : 0 ≤ g.1) : tiedV f st g = brksV (setV f won) g := by
  unfold tiedV brksV
  rw [hw]
  by_cases h : g.1 = (setV f (wonV st)).1
  · have : 0 ≤ (setV f (wonV st)).1 := by omega
    simp [h, this]
  · simp [h]

/-- What stands before the next game begins. -/
structure MS.Pre (m : MS) : Prop where
  w : m.winner = -1
  won : m.won = wonV m.st
  tl : m.ties.length = m.gs.length
  te : ∀ (i : Nat) g, m.gs[i]? = some g → m.ties[i]? = some g.tie
  g0 : 0 ≤ m.g.1 ∧ 0 ≤ m.g.2
theorem fresh_eq {m : MS} (h : m.Pre) : rFresh m.f (refOf m) = freshV m.f (tiesV m) := by
  have hl : ((tiesV m).length : Int) - 1 = (m.gs.length : Int) := by simp [tiesV, h.tl]
  have h1 : tieI (tiesV m) ((tiesV m).length - 1) = tiedV m.f m.st m.g := by rw [tied_eq h.won h.g0.1]; exact tieI_app
  unfold rFresh freshV
  rw [h1, hl]
  show (dueV m.f m.gs.length && !tiedV m.f m.st m.g || decide (2 ≤ (m.gs.length : Int)) && dueV m.f ((m.gs.length : Int) - 2) && gsTie m.gs ((m.gs.length : Int) - 2)) = _
  rw [Bool.and_comm (dueV m.f m.gs.length)]
  congr 1
  by_cases h2 : 2 ≤ (m.gs.length : Int)
  · obtain ⟨g, hg⟩ : ∃ g, m.gs[m.gs.length - 2]? = some g := ⟨_, List.getElem?_eq_getElem (by omega)⟩
    have e : (m.gs.length : Int) - 2 = ((m.gs.length - 2 : Nat) : Int) := by omega
    have hi : tieI (tiesV m) ((m.gs.length : Int) - 2) = g.tie := by
      rw [e]
      refine tieI_at ?_
      rw [tiesV, List.getElem?_append_left (by rw [h.tl]; omega)]
      exact h.te _ _ hg
    have hi2 : gsTie m.gs ((m.gs.length : Int) - 2) = g.tie := gs_tie (by rw [e, Int.toNat_natCast]; exact hg)
    rw [hi, hi2, Bool.and_assoc, Bool.and_comm (dueV _ _), ← Bool.and_assoc]
  · simp [h2]
theorem begin_eq {m : MS} (h : m.Pre) (fr : Bool) : rBegin m.f { refOf m with fresh := fr } = refOf (nextV m) := by
  have hf : rFresh m.f { refOf m with fresh := fr } = freshV m.f (tiesV m) := fresh_eq h
  have hw : decide (0 ≤ m.winner) = false := by rw [h.w]; rfl
  unfold rBegin nextV
  rw [hf, hw]
  rfl
theorem next_inv {m : MS} (hf : m.f.Ok) (hp : m.Pre) (hld : leadsV m.g m.f.games 2 = -1) (hws : m.won.1 < m.f.sets ∧ m.won.2 < m.f.sets) (hp0 : m.p = (0, 0)) : (nextV m).Inv := by
  have hw : decide (0 ≤ m.winner) = false := by rw [hp.w]; rfl
  have e : nextV m = { m with ties := tiesV m, balls := bif freshV m.f (tiesV m) then m.balls + 1 else m.balls, server := servesV m.f m.first (tiesV m) 0 } := by rw [nextV, hw]; rfl
  rw [e]
  refine ⟨hp.w, hp.won, by simp [tiesV, hp.tl], fun i g hg => ?_, tieI_app, hp.g0, hld, fun _ _ => ?_, ?_, hws, ?_, ?_⟩
  · have hi : i < m.gs.length := (List.getElem?_eq_some_iff.1 hg).1
    show (tiesV m)[i]? = _
    rw [tiesV, List.getElem?_append_left (by rw [hp.tl]; exact hi)]
    exact hp.te i g hg
  · dsimp only; rw [hp0]; simp
  · dsimp only; rw [hp0]; exact game_00 hf _ _
  · dsimp only; rw [hp0]; simp
  · dsimp only; rw [hp0]; rfl

/-! #### a point -/
structure MS.Done (m : MS) : Prop where
  w : m.winner = 0 ∨ m.winner = 1
  sv : m.server = -1
/-- The state behind a game that is over, before the next one. -/
def gameOver (m : MS) (side : Int) : MS := { m with gs := m.gs ++ [gameG m side], p := (0, 0), g := addV m.g side, ends := bif decide (((addV m.g side).1 + (addV m.g side).2) % 2 = 1) then m.ends + 1 else m.ends }
def setOver (m : MS) (side : Int) : MS := { m with gs := m.gs ++ [gameG m side], p := (0, 0), st := m.st ++ [addV m.g side], g := (0, 0), won := addV m.won side, ends := bif decide (((addV m.g side).1 + (addV m.g side).2) % 2 = 1) then m.ends + 1 else m.ends }
def matchOver (m : MS) (side : Int) : MS := { m with gs := m.gs ++ [gameG m side], p := (0, 0), st := m.st ++ [addV m.g side], g := (0, 0), won := addV m.won side, winner := side, server := -1 }
/-- What a point does. -/
inductive Stp (m : MS) (side : Int) : MS → Prop
  | no (hw : m.w side = -1) (hi : (pointN m side).Inv) : Stp m side (pointN m side)
  | game (hw : m.w side = side) (he : setEnds m side = false) (hp : (gameOver m side).Pre) (hi : (nextV (gameOver m side)).Inv) : Stp m side (nextV (gameOver m side))
  | set (hw : m.w side = side) (he : setEnds m side = true) (hl : (addV m.g side).2 < (addV m.g side).1 ↔ side = 0) (ho : max (addV m.won side).1 (addV m.won side).2 < m.f.sets) (hp : (setOver m side).Pre) (hi : (nextV (setOver m side)).Inv) : Stp m side (nextV (setOver m side))
  | over (hw : m.w side = side) (he : setEnds m side = true) (hl : (addV m.g side).2 < (addV m.g side).1 ↔ side = 0) (ho : max (addV m.won side).1 (addV m.won side).2 = m.f.sets) : Stp m side (matchOver m side)

theorem wside_eq {p : Pr} {side : Int} (hs : side = 0 ∨ side = 1) (h : p.2 < p.1 ↔ side = 0) : wside p = side := by
  unfold wside
  by_cases h0 : p.2 < p.1
  · rw [decide_eq_true h0]; have := h.1 h0; simp [this]
  · rw [decide_eq_false h0]
    have : side ≠ 0 := fun e => h0 (h.2 e)
    simp only [cond_false]; omega
theorem set_lead {m : MS} (h : m.Inv) {side : Int} (hs : side = 0 ∨ side = 1) (he : setEnds m side = true) : (addV m.g side).2 < (addV m.g side).1 ↔ side = 0 := by
  unfold setEnds at he
  rw [Bool.or_eq_true, decide_eq_true_eq] at he
  rcases he with ht | hl
  · have hb := h.ta
    rw [ht] at hb
    have := hb.symm
    simp only [brksV, Bool.and_eq_true, decide_eq_true_eq] at this
    rcases hs with rfl | rfl
    · rw [add_0]; dsimp only; omega
    · rw [add_1]; dsimp only; omega
  · rcases leads_add (b := 2) (by omega) hs h.ld with h1 | h1
    · omega
    · rcases hs with rfl | rfl
      · rw [leads_0] at h1; rw [add_0] at h1 ⊢; dsimp only at h1 ⊢; omega
      · rw [leads_1 (by omega)] at h1; rw [add_1] at h1 ⊢; dsimp only at h1 ⊢; omega

theorem point_step {m : MS} (hf : m.f.Ok) (h : m.Inv) {side : Int} (hs : side = 0 ∨ side = 1) : Stp m side (pointV m side) := by
  have h01 : 0 ≤ (addV m.g side).1 ∧ 0 ≤ (addV m.g side).2 := by
    have := h.g0
    unfold addV; cases decide (side = 0) <;> simp only [cond_true, cond_false] <;> omega
  have tie' : ∀ (i : Nat) g, (m.gs ++ [gameG m side])[i]? = some g → m.ties[i]? = some g.tie := fun i g hg => by
    by_cases hi : i < m.gs.length
    · rw [List.getElem?_append_left hi] at hg; exact h.te i g hg
    · have hl : i < (m.gs ++ [gameG m side]).length := (List.getElem?_eq_some_iff.1 hg).1
      obtain rfl : i = m.gs.length := by simp at hl; omega
      simp at hg
      subst hg
      have hlt : m.gs.length < m.ties.length := by rw [h.tl]; omega
      show m.ties[m.gs.length]? = some m.tie
      rw [List.getElem?_eq_getElem hlt]
      have e : m.tie = m.ties.getD m.gs.length false := by
        rw [MS.tie, tieI]
        congr 1
        have := h.tl
        omega
      rw [e, List.getD_eq_getElem?_getD, List.getElem?_eq_getElem hlt]
      rfl
  have htl : m.ties.length = (m.gs ++ [gameG m side]).length := by rw [h.tl]; simp
  rcases game_add (f := m.f) (s := setV m.f m.won) (t := m.tie) hs h.go with hw | hw
  · have e : pointV m side = pointN m side := by
      have : decide (m.w side < 0) = true := by rw [MS.w, hw]; rfl
      rw [pointV, this]; rfl
    rw [e]
    refine .no hw ⟨h.w, h.won, h.tl, h.te, h.ta, h.g0, h.ld, fun hn ht => ?_, hw, h.ws, ?_, rfl⟩
    · have ht' : m.tie = false := ht
      have hp := h.ad hn ht'
      have hg : gameV m.f (setV m.f m.won) m.tie (addV m.p side) = -1 := hw
      unfold gameV at hg
      rw [ht', show m.f.noAd = true from hn] at hg
      simp only [cond_true, cond_false] at hg
      rw [leads_n] at hg
      show (addV m.p side).1 < 4 ∧ (addV m.p side).2 < 4
      rcases hs with rfl | rfl
      · rw [add_0] at hg ⊢; simp only at hg ⊢; omega
      · rw [add_1] at hg ⊢; simp only at hg ⊢; omega
    · show 0 ≤ (addV m.p side).1 ∧ 0 ≤ (addV m.p side).2
      have := h.p0
      rcases hs with rfl | rfl
      · rw [add_0]; simp only; omega
      · rw [add_1]; simp only; omega
  · have hws : m.w side = side := hw
    have hs0 : 0 ≤ side := by omega
    have hlt : decide (m.w side < 0) = false := by rw [hws]; simp; omega
    cases he : setEnds m side
    · have hG : pointG m side = { m with gs := m.gs ++ [gameG m side], p := (0, 0), g := addV m.g side } := by rw [pointG, hws, he]; rfl
      have hE : pointE m side = gameOver m side := by
        rw [pointE, hG, hws]
        have : decide (m.winner < 0) = true := by rw [h.w]; rfl
        simp only [this, Bool.and_true]
        rfl
      rw [pointV, hlt, cond_false, hE]
      have hld : leadsV (addV m.g side) m.f.games 2 = -1 := by
        have := he
        unfold setEnds at this
        rw [Bool.or_eq_false_iff, decide_eq_false_iff_not] at this
        rcases leads_add (b := 2) (by omega) hs h.ld with h1 | h1
        · exact h1
        · omega
      have hp : (gameOver m side).Pre := ⟨h.w, h.won, htl, tie', h01⟩
      exact .game hws he hp (next_inv hf hp hld h.ws rfl)
    · have hl := set_lead h hs he
      have hwn : wonV (m.st ++ [addV m.g side]) = addV m.won side := by rw [wonV_app, wside_eq hs hl, h.won]
      have hle : (addV m.won side).1 ≤ m.f.sets ∧ (addV m.won side).2 ≤ m.f.sets := by
        have := h.ws
        rcases hs with rfl | rfl
        · rw [add_0]; simp only; omega
        · rw [add_1]; simp only; omega
      by_cases ho : max (addV m.won side).1 (addV m.won side).2 = m.f.sets
      · have hG : pointG m side = { m with gs := m.gs ++ [gameG m side], p := (0, 0), st := m.st ++ [addV m.g side], g := (0, 0), won := addV m.won side, winner := side } := by rw [pointG, hws, he]; simp only [cond_true, decide_eq_true ho]
        have hE : pointE m side = { m with gs := m.gs ++ [gameG m side], p := (0, 0), st := m.st ++ [addV m.g side], g := (0, 0), won := addV m.won side, winner := side } := by
          rw [pointE, hG]
          have : decide (side < 0) = false := by simp; omega
          simp only [this, Bool.and_false, cond_false]
        have e : pointV m side = matchOver m side := by
          rw [pointV, hlt, cond_false, hE, nextV]
          simp only [decide_eq_true hs0, cond_true]
          rfl
        rw [e]
        exact .over hws he hl ho
      · have hG : pointG m side = { m with gs := m.gs ++ [gameG m side], p := (0, 0), st := m.st ++ [addV m.g side], g := (0, 0), won := addV m.won side } := by rw [pointG, hws, he]; simp only [cond_true, decide_eq_false ho, cond_false]
        have hE : pointE m side = setOver m side := by
          rw [pointE, hG, hws]
          have : decide (m.winner < 0) = true := by rw [h.w]; rfl
          simp only [this, Bool.and_true]
          rfl
        rw [pointV, hlt, cond_false, hE]
        have hp : (setOver m side).Pre := ⟨h.w, hwn.symm, htl, tie', by simp [setOver]⟩
        refine .set hws he hl (by omega) hp (next_inv hf hp ?_ ?_ rfl)
        · have := hf.g0
          show leadsV (0, 0) m.f.games 2 = -1
          rw [leads_n]; simp only; omega
        · show (addV m.won side).1 < m.f.sets ∧ (addV m.won side).2 < m.f.sets
          omega

/-! #### the reference's point -/
theorem rW_eq {m : MS} (h : m.Inv) {side : Int} (hs : side = 0 ∨ side = 1) : rW m.f (refOf m) side = m.w side := by
  have ht : tiedV m.f m.st m.g = m.tie := by rw [tied_eq h.won h.g0.1, h.ta]
  show (bif tiedV m.f m.st m.g then leadsV (addV m.p side) (setV m.f (wonV m.st)).2 2 else gameR m.f (addV m.p side)) = gameV m.f (setV m.f m.won) m.tie (addV m.p side)
  rw [ht, ← h.won]
  unfold gameV gameR
  cases htt : m.tie
  · simp only [cond_false]
    cases hn : m.f.noAd
    · rfl
    · simp only [cond_true]
      have hp := h.ad hn htt
      have hp0 := h.p0
      unfold leadsV
      rcases hs with rfl | rfl
      · rw [add_0]
        simp only
        by_cases h4 : 4 ≤ m.p.1 + 1
        · have : (1 : Int) ≤ m.p.1 + 1 - m.p.2 := by omega
          simp [h4, this]
        · have h5 : ¬ 4 ≤ m.p.2 := by omega
          simp [h4, h5]
      · rw [add_1]
        simp only
        have h4 : ¬ 4 ≤ m.p.1 := by omega
        by_cases h5 : 4 ≤ m.p.2 + 1
        · have : (1 : Int) ≤ m.p.2 + 1 - m.p.1 := by omega
          simp [h4, h5, this]
        · simp [h4, h5]
  · rfl
theorem rGm_eq {m : MS} (h : m.Inv) (hfs : 0 ≤ m.first ∧ m.first ≤ 1) {side : Int} (hs : side = 0 ∨ side = 1) : rGm m.f (refOf m) side = gameG m side := by
  have ht : tiedV m.f m.st m.g = m.tie := by rw [tied_eq h.won h.g0.1, h.ta]
  unfold rGm gameG
  rw [rW_eq h hs]
  show (⟨m.st.length, tiedV m.f m.st m.g, servR m.f m.first m.gs.length (tiedV m.f m.st m.g) 0, m.w side, addV m.p side, freshV m.f m.ties⟩ : Gm) = _
  rw [ht, serv_eq (tie := m.tie) hfs h.tl rfl (by omega)]
theorem sim_point {m : MS} (hf : m.f.Ok) (hfs : 0 ≤ m.first ∧ m.first ≤ 1) (h : m.Inv) {side : Int} (hs : side = 0 ∨ side = 1) : rPoint m.f (refOf m) side = refOf (pointV m side) := by
  have ht : tiedV m.f m.st m.g = m.tie := by rw [tied_eq h.won h.g0.1, h.ta]
  have hW := rW_eq h hs
  have hgm := rGm_eq h hfs hs
  have hset : rSet m.f (refOf m) side = setEnds m (m.w side) := by
    unfold rSet setEnds
    rw [hW]
    show (tiedV m.f m.st m.g || _) = _
    rw [ht]; rfl
  have hG : rG m.f (refOf m) side = { refOf m with p := (0, 0), gs := m.gs ++ [gameG m side], g := addV m.g (m.w side) } := by
    unfold rG; rw [hgm, hW]; rfl
  have hodd : rOdd m.f (refOf m) side = decide (((addV m.g (m.w side)).1 + (addV m.g (m.w side)).2) % 2 = 1) := by unfold rOdd; rw [hW]; rfl
  unfold rPoint
  rw [hW]
  have hst := point_step hf h hs
  generalize pointV m side = m' at hst
  cases hst with
  | no hw hi =>
    rw [show decide (m.w side < 0) = true by rw [hw]; rfl, cond_true]
    unfold rN rEnds
    rw [hW]
    show ({ refOf m with p := addV m.p side, ends := bif tiedV m.f m.st m.g && (decide (m.w side < 0) && decide (((addV m.p side).1 + (addV m.p side).2) % 6 = 0)) then m.ends + 1 else m.ends } : RS) = _
    rw [ht, show decide (m.w side < 0) = true by rw [hw]; rfl, Bool.true_and]
    rfl
  | game hw he hp hi =>
    rw [show decide (m.w side < 0) = false by rw [hw]; simp; omega, cond_false]
    rw [hw] at hset hG hodd
    have hS : rS m.f (refOf m) side = rG m.f (refOf m) side := by unfold rS; rw [hset, he]; rfl
    have hO : rOver m.f (refOf m) side = false := by unfold rOver; rw [hset, he]; rfl
    rw [hO, cond_false, hS, hG, hodd]
    exact begin_eq hp (freshV m.f m.ties)
  | set hw he hl ho hp hi =>
    rw [show decide (m.w side < 0) = false by rw [hw]; simp; omega, cond_false]
    rw [hw] at hset hG hodd
    have hwn : wonV (m.st ++ [addV m.g side]) = addV m.won side := by rw [wonV_app, wside_eq hs hl, h.won]
    have hS : rS m.f (refOf m) side = { rG m.f (refOf m) side with st := m.st ++ [addV m.g side], g := (0, 0) } := by unfold rS; rw [hset, he, hW, hw]; rfl
    have hO : rOver m.f (refOf m) side = false := by
      unfold rOver; rw [hset, he, hW, hw]
      show (true && (decide ((wonV (m.st ++ [addV m.g side])).1 = m.f.sets) || decide ((wonV (m.st ++ [addV m.g side])).2 = m.f.sets))) = false
      rw [hwn]
      simp only [Bool.true_and, Bool.or_eq_false_iff, decide_eq_false_iff_not]
      omega
    rw [hO, cond_false, hS, hG, hodd]
    exact begin_eq hp (freshV m.f m.ties)
  | over hw he hl ho =>
    rw [show decide (m.w side < 0) = false by rw [hw]; simp; omega, cond_false]
    rw [hw] at hset hG hodd
    have hwn : wonV (m.st ++ [addV m.g side]) = addV m.won side := by rw [wonV_app, wside_eq hs hl, h.won]
    have hS : rS m.f (refOf m) side = { rG m.f (refOf m) side with st := m.st ++ [addV m.g side], g := (0, 0) } := by unfold rS; rw [hset, he, hW, hw]; rfl
    have hO : rOver m.f (refOf m) side = true := by
      unfold rOver; rw [hset, he, hW, hw]
      show (true && (decide ((wonV (m.st ++ [addV m.g side])).1 = m.f.sets) || decide ((wonV (m.st ++ [addV m.g side])).2 = m.f.sets))) = true
      rw [hwn]
      simp only [Bool.true_and, Bool.or_eq_true, decide_eq_true_eq]
      omega
    rw [hO, cond_true, hS, hG, hw]
    rfl

/-! #### all points -/
theorem begin_pre (f : Fmt) (first : Int) : (begin0 f first).Pre := ⟨rfl, rfl, rfl, fun i g h => by simp [begin0] at h, by simp [begin0]⟩
theorem begin_inv {f : Fmt} (hf : f.Ok) (first : Int) : (beginV f first).Inv :=
  next_inv (m := begin0 f first) hf (begin_pre f first) (by have := hf.g0; rw [leads_n]; simp only [begin0]; omega) (by have := hf.s0; simp only [begin0]; omega) rfl
theorem stp_f {m m' : MS} {side : Int} (h : Stp m side m') : m'.f = m.f ∧ m'.first = m.first := by
  have hn : ∀ m0 : MS, (nextV m0).f = m0.f ∧ (nextV m0).first = m0.first := fun m0 => by unfold nextV; cases decide (0 ≤ m0.winner) <;> exact ⟨rfl, rfl⟩
  cases h with
  | no => exact ⟨rfl, rfl⟩
  | game => exact hn _
  | set => exact hn _
  | over => exact ⟨rfl, rfl⟩
theorem stp_inv {m m' : MS} {side : Int} (hs : side = 0 ∨ side = 1) (h : Stp m side m') : m'.Inv ∨ m'.Done := by
  cases h with
  | no _ hi => exact .inl hi
  | game _ _ _ hi => exact .inl hi
  | set _ _ _ _ _ hi => exact .inl hi
  | over => exact .inr ⟨hs, rfl⟩
theorem playTo_inv {f : Fmt} {first : Int} {xs : List Int} (hf : f.Ok) : ∀ {k : Nat} {m : MS}, playTo f first xs k = some m → m.f = f ∧ m.first = first ∧ (m.Inv ∨ m.Done)
  | 0, m, h => by
    simp only [playTo, Option.some.injEq] at h
    subst h
    exact ⟨rfl, rfl, .inl (begin_inv hf first)⟩
  | k + 1, m, h => by
    rw [playTo] at h
    cases h1 : playTo f first xs k with
    | none => rw [h1] at h; cases h
    | some m0 =>
      cases h2 : xs[k]? with
      | none => rw [h1, h2] at h; cases h
      | some s =>
        rw [h1, h2] at h
        simp only at h
        obtain ⟨e1, e2, hi⟩ := playTo_inv hf h1
        cases hb : sideBad s || decide (0 ≤ m0.winner)
        · rw [hb] at h
          simp only [cond_false, Option.some.injEq] at h
          subst h
          rw [Bool.or_eq_false_iff] at hb
          have hs := side_ok hb.1
          rcases hi with hi | hd
          · have hst := point_step (e1 ▸ hf) hi hs
            have := stp_f hst
            exact ⟨this.1.trans e1, this.2.trans e2, stp_inv hs hst⟩
          · have := hb.2
            rw [decide_eq_false_iff_not] at this
            have := hd.w
            omega
        · rw [hb] at h; cases h
end Go.Proofs.Ytebhkghgifiahaa
