/- The plain law of the sides. -/
import Derived.Test.YtebhkghgifiahaaSR
namespace Go.Proofs.Ytebhkghgifiahaa
open Go Go.RowKit

theorem pointV_no {m : MS} {side : Int} (hw : m.w side = -1) : pointV m side = pointN m side := by
  have : decide (m.w side < 0) = true := by rw [hw]; rfl
  rw [pointV, this]; rfl
theorem pointV_game {m : MS} {side : Int} (hs : 0 ≤ side) (hw : m.w side = side) (hi : m.winner = -1) (he : setEnds m side = false) : pointV m side = nextV (gameOver m side) := by
  have hlt : decide (m.w side < 0) = false := by rw [hw]; simp; omega
  have hG : pointG m side = { m with gs := m.gs ++ [gameG m side], p := (0, 0), g := addV m.g side } := by rw [pointG, hw, he]; rfl
  have hE : pointE m side = gameOver m side := by
    rw [pointE, hG, hw]
    have : decide (m.winner < 0) = true := by rw [hi]; rfl
    simp only [this, Bool.and_true]
    rfl
  rw [pointV, hlt, cond_false, hE]
theorem pointV_set {m : MS} {side : Int} (hs : 0 ≤ side) (hw : m.w side = side) (hi : m.winner = -1) (he : setEnds m side = true) (ho : ¬ max (addV m.won side).1 (addV m.won side).2 = m.f.sets) : pointV m side = nextV (setOver m side) := by
  have hlt : decide (m.w side < 0) = false := by rw [hw]; simp; omega
  have hG : pointG m side = { m with gs := m.gs ++ [gameG m side], p := (0, 0), st := m.st ++ [addV m.g side], g := (0, 0), won := addV m.won side } := by rw [pointG, hw, he]; simp only [cond_true, decide_eq_false ho, cond_false]
  have hE : pointE m side = setOver m side := by
    rw [pointE, hG, hw]
    have : decide (m.winner < 0) = true := by rw [hi]; rfl
    simp only [this, Bool.and_true]
    rfl
  rw [pointV, hlt, cond_false, hE]
theorem pointV_over {m : MS} {side : Int} (hs : 0 ≤ side) (hw : m.w side = side) (he : setEnds m side = true) (ho : max (addV m.won side).1 (addV m.won side).2 = m.f.sets) : pointV m side = matchOver m side := by
  have hlt : decide (m.w side < 0) = false := by rw [hw]; simp; omega
  have hG : pointG m side = { m with gs := m.gs ++ [gameG m side], p := (0, 0), st := m.st ++ [addV m.g side], g := (0, 0), won := addV m.won side, winner := side } := by rw [pointG, hw, he]; simp only [cond_true, decide_eq_true ho]
  have hE : pointE m side = { m with gs := m.gs ++ [gameG m side], p := (0, 0), st := m.st ++ [addV m.g side], g := (0, 0), won := addV m.won side, winner := side } := by
    rw [pointE, hG, hw]
    have : decide (side < 0) = false := by simp; omega
    simp only [this, Bool.and_false, cond_false]
  rw [pointV, hlt, cond_false, hE, nextV]
  simp only [decide_eq_true hs, cond_true]
  rfl

/-! #### sides exchanged -/
def sw (p : Pr) : Pr := (p.2, p.1)
def mirG (g : Gm) : Gm := ⟨g.set, g.tie, turnV' g.server, 1 - g.winner, sw g.pts, g.fresh⟩
def mir (m : MS) : MS := ⟨m.f, 1 - m.first, m.st.map sw, sw m.g, sw m.p, sw m.won, turnV' m.server, m.ends, m.balls, turnV' m.winner, m.ties, m.gs.map mirG⟩
theorem add_sw (p : Pr) {side : Int} (hs : side = 0 ∨ side = 1) : addV (sw p) (1 - side) = sw (addV p side) := by
  rcases hs with rfl | rfl <;> rfl
theorem leads_sw {p : Pr} {l b : Int} (hb : 1 ≤ b) : (leadsV p l b = -1 → leadsV (sw p) l b = -1) ∧ (leadsV p l b = 0 → leadsV (sw p) l b = 1) ∧ (leadsV p l b = 1 → leadsV (sw p) l b = 0) := by
  rw [leads_n, leads_0, leads_1 hb, leads_n, leads_0, leads_1 hb]
  simp only [sw]
  omega
theorem game_sw {f : Fmt} {s p : Pr} {t : Bool} : (gameV f s t p = -1 → gameV f s t (sw p) = -1) ∧ (gameV f s t p = 0 → gameV f s t (sw p) = 1) ∧ (gameV f s t p = 1 → gameV f s t (sw p) = 0) := by
  unfold gameV
  cases t
  · cases f.noAd
    · exact leads_sw (by omega)
    · exact leads_sw (by omega)
  · exact leads_sw (by omega)
theorem set_sw (f : Fmt) (won : Pr) : setV f (sw won) = setV f won := by
  unfold setV sw
  simp only
  rw [Bool.and_comm]
theorem brks_sw (s g : Pr) : brksV s (sw g) = brksV s g := by
  unfold brksV sw
  simp only
  rw [Bool.and_comm]
theorem serves_sw (f : Fmt) {first : Int} (hf : first = 0 ∨ first = 1) (ties : List Bool) {pt : Int} (hp : 0 ≤ pt) (ht : 1 ≤ (ties.length : Int)) : servesV f (1 - first) ties pt = turnV' (servesV f first ties pt) := by
  have h0 : 0 ≤ turnV ties pt := by unfold turnV; cases tieI ties ((ties.length : Int) - 1) <;> simp <;> omega
  unfold servesV turnV'
  generalize turnV ties pt = t at *
  cases f.dbl
  · simp only [Bool.not_false, cond_true]
    rw [decide_eq_false (by omega), cond_false]
    omega
  · simp only [Bool.not_true, cond_false]
    rw [decide_eq_false (by omega), cond_false]
    omega
theorem w_sw {m : MS} {side : Int} (hs : side = 0 ∨ side = 1) (h : m.w side = -1 ∨ m.w side = side) : (m.w side = -1 → (mir m).w (1 - side) = -1) ∧ (m.w side = side → (mir m).w (1 - side) = 1 - side) := by
  have e : (mir m).w (1 - side) = gameV m.f (setV m.f m.won) m.tie (sw (addV m.p side)) := by
    show gameV m.f (setV m.f (sw m.won)) m.tie (addV (sw m.p) (1 - side)) = _
    rw [set_sw, add_sw _ hs]
  rw [e]
  obtain ⟨g1, g2, g3⟩ := game_sw (f := m.f) (s := setV m.f m.won) (p := addV m.p side) (t := m.tie)
  refine ⟨g1, fun hw => ?_⟩
  have hw' : gameV m.f (setV m.f m.won) m.tie (addV m.p side) = side := hw
  rcases hs with rfl | rfl
  · exact g2 hw'
  · exact g3 hw'
theorem ends_sw {m : MS} {side : Int} (hs : side = 0 ∨ side = 1) : setEnds (mir m) (1 - side) = setEnds m side := by
  unfold setEnds
  show (m.tie || decide (0 ≤ leadsV (addV (sw m.g) (1 - side)) m.f.games 2)) = _
  rw [add_sw _ hs]
  congr 1
  obtain ⟨g1, g2, g3⟩ := leads_sw (p := addV m.g side) (l := m.f.games) (b := 2) (by omega)
  have hr := leadsV_rng (addV m.g side) m.f.games 2
  rcases (by omega : leadsV (addV m.g side) m.f.games 2 = -1 ∨ leadsV (addV m.g side) m.f.games 2 = 0 ∨ leadsV (addV m.g side) m.f.games 2 = 1) with h | h | h
  · rw [g1 h, h]
  · rw [g2 h, h]; rfl
  · rw [g3 h, h]; rfl
theorem sum_sw (p : Pr) : (sw p).1 + (sw p).2 = p.1 + p.2 := by simp only [sw]; omega
theorem gameG_sw {m : MS} {side : Int} (hs : side = 0 ∨ side = 1) (hfs : m.first = 0 ∨ m.first = 1) (ht : 1 ≤ (m.ties.length : Int)) (hw : m.w side = side) : gameG (mir m) (1 - side) = mirG (gameG m side) := by
  have h2 := (w_sw hs (.inr hw)).2 hw
  unfold gameG mirG
  rw [h2, hw]
  show (⟨(m.st.map sw).length, m.tie, servesV m.f (1 - m.first) m.ties 0, 1 - side, addV (sw m.p) (1 - side), freshV m.f m.ties⟩ : Gm) = _
  rw [add_sw _ hs, serves_sw m.f hfs m.ties (by omega) ht, List.length_map]
theorem next_sw {m : MS} (hw : m.winner = -1) (hfs : m.first = 0 ∨ m.first = 1) : nextV (mir m) = mir (nextV m) := by
  have h1 : decide (0 ≤ m.winner) = false := by rw [hw]; rfl
  have h2 : decide (0 ≤ (mir m).winner) = false := by
    show decide (0 ≤ turnV' m.winner) = false
    rw [hw]; rfl
  have hl : 1 ≤ (((tiesV m).length : Nat) : Int) := by simp [tiesV]; omega
  have ht : tiesV (mir m) = tiesV m := by
    show m.ties ++ [brksV (setV m.f (sw m.won)) (sw m.g)] = _
    rw [set_sw, brks_sw]; rfl
  unfold nextV
  rw [h1, h2, ht]
  simp only [cond_false]
  show ({ mir m with ties := tiesV m, balls := bif freshV m.f (tiesV m) then m.balls + 1 else m.balls, server := servesV m.f (1 - m.first) (tiesV m) 0 } : MS) = _
  rw [serves_sw m.f hfs (tiesV m) (by omega) hl]
  rfl
theorem point_sw {m : MS} {side : Int} (hi : m.Inv) (hs : side = 0 ∨ side = 1) (hfs : m.first = 0 ∨ m.first = 1) (hst : Stp m side (pointV m side)) : pointV (mir m) (1 - side) = mir (pointV m side) := by
  have ht : 1 ≤ (m.ties.length : Int) := by have := hi.tl; omega
  have hs0 : 0 ≤ side := by omega
  have hs1 : 0 ≤ 1 - side := by omega
  have hmw : (mir m).winner = -1 := by show turnV' m.winner = -1; rw [hi.w]; rfl
  have hadd := add_sw m.won hs
  have hwe : ∀ (ho : max (addV m.won side).1 (addV m.won side).2 = m.f.sets), max (addV (sw m.won) (1 - side)).1 (addV (sw m.won) (1 - side)).2 = m.f.sets := fun ho => by rw [hadd]; simp only [sw]; omega
  have hcase : m.w side = -1 ∨ m.w side = side := game_add (f := m.f) (s := setV m.f m.won) (t := m.tie) hs hi.go
  obtain ⟨q1, q2⟩ := w_sw hs hcase
  have hes := ends_sw (m := m) hs
  rcases hcase with hw | hw
  · rw [pointV_no hw, pointV_no (q1 hw)]
    have hp0 : 0 ≤ (addV m.p side).1 + (addV m.p side).2 := by rw [add_sum]; have := hi.p0; omega
    unfold pointN
    show ({ mir m with p := addV (sw m.p) (1 - side), ends := bif m.tie && decide (((addV (sw m.p) (1 - side)).1 + (addV (sw m.p) (1 - side)).2) % 6 = 0) then m.ends + 1 else m.ends, server := servesV m.f (1 - m.first) m.ties ((addV (sw m.p) (1 - side)).1 + (addV (sw m.p) (1 - side)).2) } : MS) = _
    rw [add_sw _ hs, sum_sw, serves_sw m.f hfs m.ties hp0 ht]
    rfl
  · have hG := gameG_sw hs hfs ht hw
    cases he : setEnds m side
    · rw [pointV_game hs0 hw hi.w he, pointV_game hs1 (q2 hw) hmw (hes.trans he), ← next_sw (m := gameOver m side) hi.w hfs]
      congr 1
      unfold gameOver
      rw [hG]
      show ({ mir m with gs := m.gs.map mirG ++ [mirG (gameG m side)], p := (0, 0), g := addV (sw m.g) (1 - side), ends := bif decide (((addV (sw m.g) (1 - side)).1 + (addV (sw m.g) (1 - side)).2) % 2 = 1) then m.ends + 1 else m.ends } : MS) = _
      rw [add_sw _ hs, sum_sw]
      simp only [mir, List.map_append, List.map_cons, List.map_nil, sw]
    · by_cases ho : max (addV m.won side).1 (addV m.won side).2 = m.f.sets
      · rw [pointV_over hs0 hw he ho, pointV_over hs1 (q2 hw) (hes.trans he) (hwe ho)]
        unfold matchOver
        rw [hG]
        show ({ mir m with gs := m.gs.map mirG ++ [mirG (gameG m side)], p := (0, 0), st := m.st.map sw ++ [addV (sw m.g) (1 - side)], g := (0, 0), won := addV (sw m.won) (1 - side), winner := 1 - side, server := -1 } : MS) = _
        rw [add_sw _ hs, add_sw _ hs]
        have hts : turnV' side = 1 - side := by rcases hs with rfl | rfl <;> rfl
        simp only [mir, List.map_append, List.map_cons, List.map_nil, sw, hts]
        rfl
      · have ho' : ¬ max (addV (mir m).won (1 - side)).1 (addV (mir m).won (1 - side)).2 = (mir m).f.sets := by
          show ¬ max (addV (sw m.won) (1 - side)).1 (addV (sw m.won) (1 - side)).2 = m.f.sets
          rw [hadd]; simp only [sw]; omega
        rw [pointV_set hs0 hw hi.w he ho, pointV_set hs1 (q2 hw) hmw (hes.trans he) ho', ← next_sw (m := setOver m side) hi.w hfs]
        congr 1
        unfold setOver
        rw [hG]
        show ({ mir m with gs := m.gs.map mirG ++ [mirG (gameG m side)], p := (0, 0), st := m.st.map sw ++ [addV (sw m.g) (1 - side)], g := (0, 0), won := addV (sw m.won) (1 - side), ends := bif decide (((addV (sw m.g) (1 - side)).1 + (addV (sw m.g) (1 - side)).2) % 2 = 1) then m.ends + 1 else m.ends } : MS) = _
        rw [add_sw _ hs, add_sw _ hs, sum_sw]
        simp only [mir, List.map_append, List.map_cons, List.map_nil, sw]
theorem playTo_sw {f : Fmt} {first : Int} {xs : List Int} (hf : f.Ok) (hfs : first = 0 ∨ first = 1) : ∀ {k : Nat} {m : MS}, playTo f first xs k = some m → playTo f (1 - first) (xs.map fun x => 1 - x) k = some (mir m)
  | 0, m, h => by
    simp only [playTo, Option.some.injEq] at h ⊢
    subst h
    exact (next_sw (m := begin0 f first) rfl hfs)
  | k + 1, m, h => by
    rw [playTo] at h
    cases h1 : playTo f first xs k with
    | none => rw [h1] at h; cases h
    | some m0 =>
      cases h2 : xs[k]? with
      | none => rw [h1, h2] at h; cases h
      | some s =>
        rw [h1, h2] at h
        simp only at h
        obtain ⟨e1, e2, hi⟩ := playTo_inv hf h1
        cases hb : sideBad s || decide (0 ≤ m0.winner)
        · rw [hb] at h
          simp only [cond_false, Option.some.injEq] at h
          subst h
          rw [Bool.or_eq_false_iff] at hb
          have hs := side_ok hb.1
          have hin : m0.Inv := by
            rcases hi with hi | hd
            · exact hi
            · have := hb.2
              rw [decide_eq_false_iff_not] at this
              have := hd.w
              omega
          have ih := playTo_sw (k := k) hf hfs h1
          have h3 : (xs.map fun x => 1 - x)[k]? = some (1 - s) := by rw [List.getElem?_map, h2]; rfl
          have hb1 : sideBad (1 - s) = false := by rcases hs with rfl | rfl <;> rfl
          have hb2 : decide (0 ≤ (mir m0).winner) = false := by
            show decide (0 ≤ turnV' m0.winner) = false
            rw [hin.w]; rfl
          rw [playTo, ih, h3]
          simp only
          rw [hb1, hb2]
          simp only [Bool.or_self, cond_false, Option.some.injEq]
          exact point_sw hin hs (by rw [e2]; exact hfs) (point_step (e1 ▸ hf) hin hs)
        · rw [hb] at h; cases h
theorem play_sw {f : Fmt} {first : Int} {xs : List Int} {m : MS} (h : playO f first xs = some m) : playO f (1 - first) (xs.map fun x => 1 - x) = some (mir m) := by
  have hp := play_some h
  refine plays_O hp.ok (by have := hp.fst; omega) (by have := hp.n; simpa using this) ?_ (chk_ok (some_chk h))
  have := playTo_sw hp.ok hp.fst hp.to
  simpa using this
end Go.Proofs.Ytebhkghgifiahaa
