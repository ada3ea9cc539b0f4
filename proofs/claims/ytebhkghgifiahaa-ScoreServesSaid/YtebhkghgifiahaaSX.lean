/- The plain law of the servers in a row. -/
import Derived.Test.YtebhkghgifiahaaSV
namespace Go.Proofs.Ytebhkghgifiahaa
open Go Go.RowKit

/-- How many points in a row the pair has served that serves the point s of a game. -/
def rowV (tie : Bool) (s : Int) : Int := bif tie then (bif decide (s = 0) then 1 else bif decide (s % 2 = 1) then 1 else 2) else s + 1
theorem serves_mod (f : Fmt) (first : Int) (ties : List Bool) (pt : Int) : servesV f first ties pt % 2 = (first + ((ties.length : Int) - 1) + turnV ties pt) % 2 := by
  unfold servesV
  cases f.dbl <;> simp only [Bool.not_false, Bool.not_true, cond_true, cond_false] <;> omega
theorem turn_tie {m : MS} (pt : Int) : turnV m.ties pt = bif m.tie then (pt + 1) / 2 else 0 := rfl
/-- A point that has others before it in its game did not end one. -/
theorem no_of_pts {m m' : MS} {side : Int} (h : Stp m side m') (hp : ¬ m'.p.1 + m'.p.2 = 0) : m' = pointN m side ∧ m'.Inv := by
  have hn : ∀ m0 : MS, (nextV m0).p = m0.p := fun m0 => by unfold nextV; cases decide (0 ≤ m0.winner) <;> rfl
  cases h with
  | no hw hi => exact ⟨rfl, hi⟩
  | game hw he hpp hi => exact absurd (by rw [hn]; rfl) hp
  | set hw he hl ho hpp hi => exact absurd (by rw [hn]; rfl) hp
  | over hw he hl ho => exact absurd rfl hp
theorem row_step {m : MS} {side : Int} (h : m.Inv) (hi : (pointN m side).Inv) :
    (bif decide ((pointN m side).server % 2 = m.server % 2) then rowV m.tie (m.p.1 + m.p.2) + 1 else 1) = rowV (pointN m side).tie ((pointN m side).p.1 + (pointN m side).p.2) := by
  have hs := add_sum m.p side
  have hp0 := h.p0
  have e1 : (pointN m side).server % 2 = (m.first + ((m.ties.length : Int) - 1) + turnV m.ties (m.p.1 + m.p.2 + 1)) % 2 := by
    rw [hi.sv, serves_mod]
    show (m.first + ((m.ties.length : Int) - 1) + turnV m.ties ((addV m.p side).1 + (addV m.p side).2)) % 2 = _
    rw [hs]
  have e2 : m.server % 2 = (m.first + ((m.ties.length : Int) - 1) + turnV m.ties (m.p.1 + m.p.2)) % 2 := by rw [h.sv, serves_mod]
  have e3 : (pointN m side).tie = m.tie := rfl
  have e4 : (pointN m side).p.1 + (pointN m side).p.2 = m.p.1 + m.p.2 + 1 := hs
  rw [e1, e2, e3, e4, turn_tie, turn_tie]
  unfold rowV
  have hs0 : 0 ≤ m.p.1 + m.p.2 := by omega
  generalize m.p.1 + m.p.2 = s at *
  cases m.tie
  · simp only [cond_false, decide_true, cond_true]
  · simp only [cond_true]
    rw [decide_eq_false (by omega : ¬ s + 1 = 0)]
    by_cases h2 : s % 2 = 1
    · rw [decide_eq_true h2, decide_eq_false (by omega : ¬ s = 0), decide_eq_false (by omega : ¬ (s + 1) % 2 = 1), decide_eq_true (by omega : (m.first + ((m.ties.length : Int) - 1) + (s + 1 + 1) / 2) % 2 = (m.first + ((m.ties.length : Int) - 1) + (s + 1) / 2) % 2)]
      simp
    · rw [decide_eq_true (by omega : (s + 1) % 2 = 1), decide_eq_false (by omega : ¬ (m.first + ((m.ties.length : Int) - 1) + (s + 1 + 1) / 2) % 2 = (m.first + ((m.ties.length : Int) - 1) + (s + 1) / 2) % 2)]
      simp
theorem row_two {t : Bool} {s : Int} (ht : t = true) (hs : 0 ≤ s) : rowV t s ≤ 2 ∧ (s = 1 → rowV t s = 1) := by
  subst ht
  unfold rowV
  by_cases h0 : s = 0
  · rw [decide_eq_true h0]; simp
  · rw [decide_eq_false h0]
    by_cases h1 : s % 2 = 1
    · rw [decide_eq_true h1]; simp
    · rw [decide_eq_false h1]; simp; omega
/-- What is known of the servers of a game behind its point with the state m. -/
structure RowI (m : MS) (row last total : Int) : Prop where
  r : row = rowV m.tie (m.p.1 + m.p.2)
  l : last = m.server % 2
  t : total = m.p.1 + m.p.2 + 1
def rst (m : MS) (x y : Int) : Int := bif decide (m.p.1 + m.p.2 = 0) then x else y
theorem rowI_next {f : Fmt} {first : Int} {xs : List Int} (hf : f.Ok) {k : Nat} {m : MS} {row last total : Int} (hm : playTo f first xs k = some m) (hin : m.Inv)
    (hb : ∀ j m0, k = j + 1 → playTo f first xs j = some m0 → RowI m0 row last total) : RowI m (bif decide (m.server % 2 = rst m (-1) last) then rst m 0 row + 1 else 1) (m.server % 2) (rst m 0 total + 1) := by
  have hsv := serves_rng m.f m.first m.ties (m.p.1 + m.p.2)
  rw [← hin.sv] at hsv
  by_cases h0 : m.p.1 + m.p.2 = 0
  · unfold rst
    rw [decide_eq_true h0]
    simp only [cond_true]
    refine ⟨?_, rfl, by omega⟩
    rw [decide_eq_false (by omega), h0]
    unfold rowV
    cases m.tie <;> rfl
  · unfold rst
    rw [decide_eq_false h0]
    simp only [cond_false]
    cases k with
    | zero =>
      simp only [playTo, Option.some.injEq] at hm
      subst hm
      exact absurd rfl h0
    | succ j =>
      obtain ⟨m0, s, h1, h2, hs, hin0, e1, e2, hmm, hst⟩ := stp_of hf hm
      obtain ⟨hr, hl, ht⟩ := hb j m0 rfl h1
      obtain ⟨rfl, hi⟩ := no_of_pts hst h0
      refine ⟨?_, rfl, ?_⟩
      · rw [hl, hr]; exact row_step hin0 hi
      · rw [ht]
        show m0.p.1 + m0.p.2 + 1 + 1 = (addV m0.p s).1 + (addV m0.p s).2 + 1
        rw [add_sum]
theorem servG_four (f : Fmt) (first i : Int) : servG f first i = servG f first (i - 4) := by
  unfold servG
  cases f.dbl <;> simp only [Bool.not_false, Bool.not_true, cond_true, cond_false] <;> omega
theorem servG_pair (f : Fmt) (first i : Int) : servG f first i % 2 = (first + i) % 2 ∧ (1 < servG f first i → f.dbl = true) := by
  unfold servG
  cases f.dbl <;> simp only [Bool.not_false, Bool.not_true, cond_true, cond_false] <;> refine ⟨by omega, fun _ => ?_⟩
  · omega
  · first | rfl | trivial
theorem play_to {f : Fmt} {first : Int} {xs : List Int} {m : MS} (h : playO f first xs = some m) {k : Nat} (hk : k ≤ xs.length) : ∃ m0, playTo f first xs k = some m0 ∧ playO f first (xs.take k) = some m0 := by
  have hp := play_some h
  cases h1 : playTo f first xs k with
  | none =>
    have := playTo_none h1 hk
    rw [hp.to] at this; cases this
  | some m0 =>
    refine ⟨m0, rfl, plays_O hp.ok hp.fst (by have := hp.n; rw [List.length_take]; omega) ?_ (chk_ok (some_chk h))⟩
    have hl : (xs.take k).length = k := by rw [List.length_take]; omega
    have := playTo_app f first (xs.take k) (xs.drop k) k (by omega)
    rw [List.take_append_drop] at this
    rw [hl, ← this]; exact h1
theorem rowV_rng {t : Bool} {s : Int} (hs : 0 ≤ s) : 1 ≤ rowV t s ∧ rowV t s ≤ s + 1 := by
  unfold rowV
  cases t
  · simp only [cond_false]; omega
  · simp only [cond_true]
    by_cases h0 : s = 0
    · rw [decide_eq_true h0]; simp only [cond_true]; omega
    · rw [decide_eq_false h0]
      simp only [cond_false]
      cases decide (s % 2 = 1) <;> simp only [cond_true, cond_false] <;> omega
theorem rst_or (m : MS) (x y : Int) : rst m x y = x ∨ rst m x y = y := by
  unfold rst; cases decide (m.p.1 + m.p.2 = 0)
  · exact .inr rfl
  · exact .inl rfl
theorem tie_eq {f : Fmt} {m : MS} (hi : m.Inv) (hmf : m.f = f) : (decide (0 ≤ (ruleV f (decide ((wonV m.st).1 = f.sets - 1) && decide ((wonV m.st).2 = f.sets - 1))).1) && decide ([m.g.1, m.g.2] = [(ruleV f (decide ((wonV m.st).1 = f.sets - 1) && decide ((wonV m.st).2 = f.sets - 1))).1, (ruleV f (decide ((wonV m.st).1 = f.sets - 1) && decide ((wonV m.st).2 = f.sets - 1))).1])) = m.tie := by
  rw [rule_set, hi.ta, ← tied_eq hi.won hi.g0.1, hmf]
  unfold tiedV
  rw [Bool.and_assoc]
  congr 1
  rw [← Bool.decide_and]
  exact decide_eq_decide.2 (by simp)
theorem tie_eq2 {f : Fmt} {m : MS} (hi : m.Inv) (hmf : m.f = f) : (decide ((ruleV f (decide ((wonV m.st).1 = f.sets - 1) && decide ((wonV m.st).2 = f.sets - 1))).1 < 0) || !decide ([m.g.1, m.g.2] = [(ruleV f (decide ((wonV m.st).1 = f.sets - 1) && decide ((wonV m.st).2 = f.sets - 1))).1, (ruleV f (decide ((wonV m.st).1 = f.sets - 1) && decide ((wonV m.st).2 = f.sets - 1))).1])) = !m.tie := by
  rw [← tie_eq hi hmf, Bool.not_and]
  congr 1
  rw [← decide_not]
  exact decide_eq_decide.2 (by omega)
end Go.Proofs.Ytebhkghgifiahaa
