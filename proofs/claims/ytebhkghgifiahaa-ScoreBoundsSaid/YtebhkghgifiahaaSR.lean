/- The plain law of one more point. -/
import Derived.Test.YtebhkghgifiahaaSO
import Derived.Test.YtebhkghgifiahaaWH
namespace Go.Proofs.Ytebhkghgifiahaa
open Go Go.RowKit

theorem playTo_app (f : Fmt) (first : Int) (xs ys : List Int) : ∀ k, k ≤ xs.length → playTo f first (xs ++ ys) k = playTo f first xs k
  | 0, _ => rfl
  | k + 1, hk => by rw [playTo, playTo, playTo_app f first xs ys k (by omega), List.getElem?_append_left (by omega)]
theorem chk_ok {f : Fmt} {first : Int} {n : Nat} (h : preE f first n = 0) : chkF f = 0 := by
  unfold preE at h
  cases hc : !decide (chkF f = 0)
  · simpa using hc
  · rw [hc, cond_true] at h; exact h
theorem ready_some {f : Fmt} {first : Int} {xs : List Int} (h : readyB f first xs = true) : ∃ m, playO f first xs = some m := by
  unfold readyB at h
  cases hn : decide ((700 : Int) < xs.length)
  · rw [hn, cond_false] at h
    cases hO : playO f first xs with
    | none => exact absurd (of_decide_eq_true h) (playE_none hO)
    | some m => exact ⟨m, rfl⟩
  · rw [hn] at h; cases h
theorem some_ok {f : Fmt} {first : Int} {xs : List Int} {m : MS} (h : playO f first xs = some m) : okB (playE f first xs) = true := decide_eq_true (playE_some h)
theorem some_chk {f : Fmt} {first : Int} {xs : List Int} {m : MS} (h : playO f first xs = some m) : preE f first xs.length = 0 := by
  unfold playO at h
  cases hp : decide (preE f first xs.length = 0)
  · rw [hp] at h; cases h
  · exact of_decide_eq_true hp
/-- One point less is played without an error, too. -/
theorem play_snoc {f : Fmt} {first x : Int} {xs : List Int} {m' : MS} (h : playO f first (xs ++ [x]) = some m') : ∃ m, playO f first xs = some m ∧ m.Inv ∧ (x = 0 ∨ x = 1) ∧ m' = pointV m x ∧ Stp m x m' := by
  have hp := play_some h
  have hto := hp.to
  have hl : (xs ++ [x]).length = xs.length + 1 := by simp
  rw [hl, playTo, playTo_app _ _ _ _ _ (Nat.le_refl _)] at hto
  cases h1 : playTo f first xs xs.length with
  | none => rw [h1] at hto; cases hto
  | some m =>
    have h2 : (xs ++ [x])[xs.length]? = some x := by simp
    rw [h1, h2] at hto
    simp only at hto
    cases hb : sideBad x || decide (0 ≤ m.winner)
    · rw [hb] at hto
      simp only [cond_false, Option.some.injEq] at hto
      rw [Bool.or_eq_false_iff] at hb
      have hs := side_ok hb.1
      obtain ⟨e1, e2, hi⟩ := playTo_inv hp.ok h1
      have hin : m.Inv := by
        rcases hi with hi | hd
        · exact hi
        · have h3 := hd.w
          have h4 := hb.2
          rw [decide_eq_false_iff_not] at h4
          omega
      exact ⟨m, plays_O hp.ok hp.fst (by have := hp.n; omega) h1 (chk_ok (some_chk h)), hin, hs, hto.symm, hto ▸ point_step (e1 ▸ hp.ok) hin hs⟩
    · rw [hb] at hto; cases hto

/-! #### what one point turns -/
structure StepB (m : MS) (side : Int) (m' : MS) : Prop where
  p : m'.p = (0, 0)
  gm : ∃ g : Gm, m'.gs[m.gs.length]? = some g ∧ g.winner = side ∧ g.pts.1 + g.pts.2 = m.p.1 + m.p.2 + 1 ∧ Sm g.pts
  same : m'.st.length = m.st.length → m'.st = m.st ∧ m'.g.1 + m'.g.2 = m.g.1 + m.g.2 + 1 ∧ m'.winner = -1
  diff : m'.st.length ≠ m.st.length → m'.st.length = m.st.length + 1 ∧ m'.st.take m.st.length = m.st ∧ m'.g = (0, 0) ∧ (∃ p : Pr, m'.st[m.st.length]? = some p ∧ p.1 + p.2 = m.g.1 + m.g.2 + 1 ∧ Sm p) ∧ (m'.winner = -1 ∨ m'.winner = side)
structure StepF (m : MS) (side : Int) (m' : MS) : Prop where
  gl : m'.gs.length = m.gs.length ∨ m'.gs.length = m.gs.length + 1
  pre : ∀ (k : Nat) g, m.gs[k]? = some g → m'.gs[k]? = some g
  ends : m.ends ≤ m'.ends ∧ m'.ends ≤ m.ends + 1
  balls : m.balls ≤ m'.balls ∧ m'.balls ≤ m.balls + 1
  a : m'.gs.length = m.gs.length → m'.st = m.st ∧ m'.g = m.g ∧ m'.p.1 + m'.p.2 = m.p.1 + m.p.2 + 1 ∧ m'.balls = m.balls ∧ m'.winner = -1
  b : m'.gs.length ≠ m.gs.length → StepB m side m'
theorem next_keep {m : MS} (h : m.winner = -1) : (nextV m).gs = m.gs ∧ (nextV m).st = m.st ∧ (nextV m).g = m.g ∧ (nextV m).p = m.p ∧ (nextV m).ends = m.ends ∧ (nextV m).winner = -1 ∧ m.balls ≤ (nextV m).balls ∧ (nextV m).balls ≤ m.balls + 1 := by
  have hw : decide (0 ≤ m.winner) = false := by rw [h]; rfl
  have e : nextV m = { m with ties := tiesV m, balls := bif freshV m.f (tiesV m) then m.balls + 1 else m.balls, server := servesV m.f m.first (tiesV m) 0 } := by rw [nextV, hw]; rfl
  rw [e]
  refine ⟨rfl, rfl, rfl, rfl, rfl, h, ?_, ?_⟩ <;> dsimp only <;> cases freshV m.f (tiesV m) <;> simp only [cond_true, cond_false] <;> omega
theorem step_facts {m m' : MS} {side K : Int} (hB : m.Bd K) (h : m.Inv) (hst : Stp m side m') : StepF m side m' := by
  have hsp : Sm (addV m.p side) := sm_of (addV_bd (side := side) hB.p) (by have := hB.k; omega)
  have hsg : Sm (addV m.g side) := sm_of (addV_bd (side := side) hB.g) (by have := hB.k; omega)
  have hgsum := add_sum m.g side
  have hpsum := add_sum m.p side
  have hpre : ∀ (k : Nat) (g g' : Gm), m.gs[k]? = some g → (m.gs ++ [g'])[k]? = some g := fun k g g' hk => by
    rw [List.getElem?_append_left (List.getElem?_eq_some_iff.1 hk).1]; exact hk
  have hends : ∀ c : Bool, m.ends ≤ (bif c then m.ends + 1 else m.ends) ∧ (bif c then m.ends + 1 else m.ends) ≤ m.ends + 1 := fun c => by cases c <;> simp only [cond_true, cond_false] <;> omega
  cases hst with
  | no hw hi => exact ⟨.inl rfl, fun _ _ hk => hk, hends _, ⟨Int.le_refl _, by show m.balls ≤ m.balls + 1; omega⟩, fun _ => ⟨rfl, rfl, hpsum, rfl, h.w⟩, fun hn => absurd rfl hn⟩
  | game hw he hp hi =>
    obtain ⟨k1, k2, k3, k4, k5, k6, k7, k8⟩ := next_keep (m := gameOver m side) h.w
    have hl : (nextV (gameOver m side)).gs.length = m.gs.length + 1 := by rw [k1]; simp [gameOver]
    refine ⟨.inr hl, fun k g hk => by rw [k1]; exact hpre k g _ hk, by rw [k5]; exact hends _, ⟨k7, k8⟩, fun e => by omega, fun _ => ⟨by rw [k4]; rfl, ⟨gameG m side, by rw [k1]; simp [gameOver], hw, hpsum, hsp⟩, fun _ => ⟨k2, by rw [k3]; exact hgsum, k6⟩, fun hn => absurd (by rw [k2]; rfl) hn⟩⟩
  | set hw he hl ho hp hi =>
    obtain ⟨k1, k2, k3, k4, k5, k6, k7, k8⟩ := next_keep (m := setOver m side) h.w
    have hgl : (nextV (setOver m side)).gs.length = m.gs.length + 1 := by rw [k1]; simp [setOver]
    have hsl : (nextV (setOver m side)).st.length = m.st.length + 1 := by rw [k2]; simp [setOver]
    refine ⟨.inr hgl, fun k g hk => by rw [k1]; exact hpre k g _ hk, by rw [k5]; exact hends _, ⟨k7, k8⟩, fun e => by omega, fun _ => ⟨by rw [k4]; rfl, ⟨gameG m side, by rw [k1]; simp [setOver], hw, hpsum, hsp⟩, fun e => by omega, fun _ => ⟨hsl, by rw [k2]; simp [setOver], by rw [k3]; rfl, ⟨addV m.g side, by rw [k2]; simp [setOver], hgsum, hsg⟩, .inl k6⟩⟩⟩
  | over hw he hl ho =>
    refine ⟨.inr (by simp [matchOver]), fun k g hk => hpre k g _ hk, ⟨Int.le_refl _, by show m.ends ≤ m.ends + 1; omega⟩, ⟨Int.le_refl _, by show m.balls ≤ m.balls + 1; omega⟩, fun e => by simp [matchOver] at e, fun _ => ⟨rfl, ⟨gameG m side, by simp [matchOver], hw, hpsum, hsp⟩, fun e => by simp [matchOver] at e, fun _ => ⟨by simp [matchOver], by simp [matchOver], rfl, ⟨addV m.g side, by simp [matchOver], hgsum, hsg⟩, .inr rfl⟩⟩⟩
theorem encP_tk (l : List Pr) (k : Nat) : (encP l).take k = encP (l.take k) := by simp [encP, List.map_take]
theorem encI_tk (l : List Int) (k : Nat) : (encI l).take k = encI (l.take k) := by simp [encI, List.map_take]
end Go.Proofs.Ytebhkghgifiahaa
