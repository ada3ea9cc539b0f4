/- The plain law of the servers of games. -/
import Derived.Test.YtebhkghgifiahaaSS
namespace Go.Proofs.Ytebhkghgifiahaa
open Go Go.RowKit

theorem turn_turn (s : Int) : turnV' (turnV' s) = s := by
  unfold turnV'
  by_cases h : s < 0
  · rw [decide_eq_true h]; simp only [cond_true]; rw [decide_eq_true h]; rfl
  · rw [decide_eq_false h]; simp only [cond_false]; rw [decide_eq_false (by omega)]; simp only [cond_false]; omega
def servG (f : Fmt) (first i : Int) : Int := bif !f.dbl then (first + i) % 2 else (first + i) % 2 + 2 * ((i / 2) % 2)
theorem serves_0 (f : Fmt) (first : Int) (ties : List Bool) : servesV f first ties 0 = servG f first ((ties.length : Int) - 1) := by
  have h : turnV ties 0 = 0 := by unfold turnV; cases tieI ties ((ties.length : Int) - 1) <;> rfl
  unfold servesV servG
  rw [h]
  cases f.dbl
  · simp
  · simp only [Bool.not_true, cond_false, Int.add_zero]
    rw [show (0 : Int) % 2 = 0 from rfl, show (0 : Int) / 2 = 0 from rfl, Int.add_zero, Int.add_zero]
structure GOk (f : Fmt) (first : Int) (i : Nat) (g : Gm) : Prop where
  w : g.winner = 0 ∨ g.winner = 1
  s : g.server = servG f first i
theorem servG_rng (f : Fmt) (first i : Int) : 0 ≤ servG f first i ∧ servG f first i ≤ 3 := by
  unfold servG
  cases f.dbl <;> simp only [Bool.not_false, Bool.not_true, cond_true, cond_false] <;> omega
theorem serves_rng (f : Fmt) (first : Int) (ties : List Bool) (pt : Int) : 0 ≤ servesV f first ties pt ∧ servesV f first ties pt ≤ 3 := by
  unfold servesV
  cases f.dbl <;> simp only [Bool.not_false, Bool.not_true, cond_true, cond_false] <;> omega
theorem stp_gs {m m' : MS} {side : Int} (h : Stp m side m') : m'.gs = m.gs ∨ (m'.gs = m.gs ++ [gameG m side] ∧ m.w side = side) := by
  have hn : ∀ m0 : MS, (nextV m0).gs = m0.gs := fun m0 => by unfold nextV; cases decide (0 ≤ m0.winner) <;> rfl
  cases h with
  | no => exact .inl rfl
  | game hw => exact .inr ⟨hn _, hw⟩
  | set hw => exact .inr ⟨hn _, hw⟩
  | over hw => exact .inr ⟨rfl, hw⟩
theorem stp_of {f : Fmt} {first : Int} {xs : List Int} (hf : f.Ok) {k : Nat} {m : MS} (h : playTo f first xs (k + 1) = some m) : ∃ m0 s, playTo f first xs k = some m0 ∧ xs[k]? = some s ∧ (s = 0 ∨ s = 1) ∧ m0.Inv ∧ m0.f = f ∧ m0.first = first ∧ m = pointV m0 s ∧ Stp m0 s m := by
  rw [playTo] at h
  cases h1 : playTo f first xs k with
  | none => rw [h1] at h; cases h
  | some m0 =>
    cases h2 : xs[k]? with
    | none => rw [h1, h2] at h; cases h
    | some s =>
      rw [h1, h2] at h
      simp only at h
      obtain ⟨e1, e2, hi⟩ := playTo_inv hf h1
      cases hb : sideBad s || decide (0 ≤ m0.winner)
      · rw [hb] at h
        simp only [cond_false, Option.some.injEq] at h
        rw [Bool.or_eq_false_iff] at hb
        have hs := side_ok hb.1
        have hin : m0.Inv := by
          rcases hi with hi | hd
          · exact hi
          · have := hb.2
            rw [decide_eq_false_iff_not] at this
            have := hd.w
            omega
        exact ⟨m0, s, rfl, rfl, hs, hin, e1, e2, h.symm, h ▸ point_step (e1 ▸ hf) hin hs⟩
      · rw [hb] at h; cases h
theorem games_ok {f : Fmt} {first : Int} {xs : List Int} (hf : f.Ok) : ∀ {k : Nat} {m : MS}, playTo f first xs k = some m → ∀ (i : Nat) (g : Gm), m.gs[i]? = some g → GOk f first i g
  | 0, m, h, i, g, hg => by
    simp only [playTo, Option.some.injEq] at h
    subst h
    have : (beginV f first).gs = [] := rfl
    rw [this] at hg
    simp at hg
  | k + 1, m, h, i, g, hg => by
    obtain ⟨m0, s, h1, h2, hs, hin, e1, e2, hm, hst⟩ := stp_of hf h
    have ih := games_ok hf h1
    rcases stp_gs hst with he | ⟨he, hw⟩
    · rw [he] at hg; exact ih i g hg
    · rw [he] at hg
      by_cases hi : i < m0.gs.length
      · rw [List.getElem?_append_left hi] at hg; exact ih i g hg
      · have hl : i < (m0.gs ++ [gameG m0 s]).length := (List.getElem?_eq_some_iff.1 hg).1
        obtain rfl : i = m0.gs.length := by simp at hl; omega
        simp at hg
        subst hg
        refine ⟨?_, ?_⟩
        · show m0.w s = 0 ∨ m0.w s = 1
          rw [hw]; exact hs
        · show servesV m0.f m0.first m0.ties 0 = _
          rw [serves_0, e1, e2, hin.tl]
          congr 1
          omega
theorem plays_games {f : Fmt} {first : Int} {xs : List Int} {m : MS} (h : playO f first xs = some m) : ∀ (i : Nat) (g : Gm), m.gs[i]? = some g → GOk f first i g := games_ok (play_some h).ok (play_some h).to
theorem plays_server {f : Fmt} {first : Int} {xs : List Int} {m : MS} (h : playO f first xs = some m) : -1 ≤ m.server ∧ m.server ≤ 3 ∧ -1 ≤ m.winner ∧ m.winner ≤ 1 := by
  rcases (play_some h).inv with hi | hd
  · have h1 := serves_rng m.f m.first m.ties (m.p.1 + m.p.2)
    rw [← hi.sv] at h1
    have := hi.w
    omega
  · have h1 := hd.sv
    have h2 := hd.w
    omega
theorem turn_rng (s : Int) : turnV' s ≤ s + 1 := by
  unfold turnV'
  by_cases h : s < 0
  · rw [decide_eq_true h]; simp only [cond_true]; omega
  · rw [decide_eq_false h]; simp only [cond_false]; omega
theorem plays_pts {f : Fmt} {first : Int} {xs : List Int} (hf : f.Ok) : ∀ {k : Nat} {m : MS}, playTo f first xs k = some m → ∀ (i : Nat) (s : Int), i < k → xs[i]? = some s → s = 0 ∨ s = 1
  | 0, _, _, _, _, hi, _ => by omega
  | k + 1, m, h, i, s, hi, hx => by
    obtain ⟨m0, s0, h1, h2, hs, -⟩ := stp_of hf h
    by_cases e : i = k
    · subst e; rw [h2] at hx; injection hx with hx; subst hx; exact hs
    · exact plays_pts hf h1 i s (by omega) hx
theorem plays_points {f : Fmt} {first : Int} {xs : List Int} {m : MS} (h : playO f first xs = some m) {i : Nat} {s : Int} (hx : xs[i]? = some s) : s = 0 ∨ s = 1 :=
  plays_pts (play_some h).ok (play_some h).to i s (List.getElem?_eq_some_iff.1 hx).1 hx
end Go.Proofs.Ytebhkghgifiahaa
