/- The plain law of the lengths of matches. -/
import Derived.Test.YtebhkghgifiahaaSV
namespace Go.Proofs.Ytebhkghgifiahaa
open Go Go.RowKit

structure Ext where
  (low high pts : Int)
def extV (f : Fmt) (s : Pr) : Ext := bif decide (s.1 = 0) then ⟨1, 1, max s.2 2⟩ else bif decide (s.1 = -1) then ⟨max f.games 2, -1, 4 * max f.games 2⟩ else ⟨max f.games 2, 2 * s.1 + 1, 4 * max f.games 2⟩
def lastE (f : Fmt) : Ext := extV f (f.ltie, f.lto)
def eachE (f : Fmt) : Ext := extV f (f.tie, f.to)
def rangeE (f : Fmt) : Ext := bif decide (f.sets = 1) then lastE f else
  ⟨f.sets * (eachE f).low, bif decide (0 ≤ (lastE f).high) && decide (0 ≤ (eachE f).high) then (2 * f.sets - 2) * (eachE f).high + (lastE f).high else -1, f.sets * (eachE f).pts⟩
/-- A rule of a valid format, in plain words. -/
structure RuleOk (f : Fmt) (s : Pr) : Prop where
  t : s.1 = -1 ∨ s.1 = 0 ∨ s.1 = f.games - 1 ∨ s.1 = f.games
  o : 1 ≤ s.2 ∧ s.2 ≤ 15
theorem set_ok {f : Fmt} (hf : f.Ok) (won : Pr) : RuleOk f (setV f won) := by
  have h1 := hf.t
  have h2 := hf.lt
  have h3 := hf.o0
  have h4 := hf.o1
  have h5 := hf.l0
  have h6 := hf.l1
  unfold setV
  cases decide (won.1 = f.sets - 1) && decide (won.2 = f.sets - 1)
  · exact ⟨h1, h3, h4⟩
  · exact ⟨h2, h5, h6⟩
theorem ext_zero {f : Fmt} {s : Pr} (h : s.1 = 0) : extV f s = ⟨1, 1, max s.2 2⟩ := by unfold extV; rw [decide_eq_true h]; rfl
theorem ext_none {f : Fmt} {s : Pr} (h : s.1 = -1) : extV f s = ⟨max f.games 2, -1, 4 * max f.games 2⟩ := by
  unfold extV; rw [decide_eq_false (by omega), decide_eq_true h]; rfl
theorem ext_some {f : Fmt} {s : Pr} (h : s.1 ≠ 0) (h' : s.1 ≠ -1) : extV f s = ⟨max f.games 2, 2 * s.1 + 1, 4 * max f.games 2⟩ := by
  unfold extV; rw [decide_eq_false h, decide_eq_false h']; rfl
theorem ext_bd {f : Fmt} (hf : f.Ok) {s : Pr} (h : RuleOk f s) : 1 ≤ (extV f s).low ∧ (extV f s).low ≤ 8 ∧ (extV f s).high ≤ 17 ∧ -1 ≤ (extV f s).high ∧ 1 ≤ (extV f s).pts ∧ (extV f s).pts ≤ 32 ∧ (0 ≤ (extV f s).high → (extV f s).low ≤ (extV f s).high) := by
  have h1 := hf.g0
  have h2 := hf.g1
  have h3 := h.t
  have h4 := h.o
  by_cases a : s.1 = 0
  · rw [ext_zero a]; simp only; omega
  · by_cases b : s.1 = -1
    · rw [ext_none b]; simp only; omega
    · rw [ext_some a b]; simp only; omega

def sumI (x : Nat → Int) : Nat → Int
  | 0 => 0
  | n + 1 => sumI x n + x n
def ruleI (f : Fmt) (i : Nat) : Pr := bif decide ((i : Int) = 2 * f.sets - 2) then (f.ltie, f.lto) else (f.tie, f.to)
theorem rule_at {f : Fmt} {won : Pr} {n : Nat} (hw : won.1 + won.2 = (n : Int)) (hl : won.1 < f.sets ∧ won.2 < f.sets) : setV f won = ruleI f n := by
  unfold setV ruleI
  congr 1
  rw [← Bool.decide_and]
  exact decide_eq_decide.2 (by omega)
abbrev lowX (f : Fmt) (i : Nat) : Int := (extV f (ruleI f i)).low
abbrev highX (f : Fmt) (i : Nat) : Int := (extV f (ruleI f i)).high
abbrev ptsX (f : Fmt) (i : Nat) : Int := (extV f (ruleI f i)).pts
def AllHigh (f : Fmt) : Prop := ∀ i : Nat, (i : Int) ≤ 2 * f.sets - 2 → 0 ≤ highX f i

structure BI (f : Fmt) (k : Int) (m : MS) : Prop where
  wl : m.won.1 + m.won.2 = (m.st.length : Int)
  w0 : 0 ≤ m.won.1 ∧ 0 ≤ m.won.2
  ws : m.won.1 ≤ f.sets ∧ m.won.2 ≤ f.sets ∧ m.won.1 + m.won.2 ≤ 2 * f.sets - 1
  gl : sumI (lowX f) m.st.length + (m.g.1 + m.g.2) ≤ m.gs.length
  gh : AllHigh f → (m.gs.length : Int) ≤ sumI (highX f) m.st.length + (m.g.1 + m.g.2)
  gt : m.winner = -1 → 0 ≤ (setV f m.won).1 → m.g.1 ≤ (setV f m.won).1 ∧ m.g.2 ≤ (setV f m.won).1
  kp : sumI (ptsX f) m.st.length + 4 * (m.g.1 + m.g.2) + (m.p.1 + m.p.2) ≤ k
  dn : m.winner ≠ -1 → m.won.1 = f.sets ∨ m.won.2 = f.sets

theorem game_pts {f : Fmt} {s p : Pr} {side : Int} (hs : side = 0 ∨ side = 1) (hp : 0 ≤ p.1 ∧ 0 ≤ p.2) :
    (gameV f s false (addV p side) = side → 4 ≤ p.1 + p.2 + 1) ∧ (gameV f s true (addV p side) = side → max s.2 2 ≤ p.1 + p.2 + 1) := by
  unfold gameV
  simp only [cond_true, cond_false]
  constructor
  · intro h
    rcases hs with rfl | rfl
    · cases hn : f.noAd <;> rw [hn] at h <;> simp only [cond_true, cond_false] at h <;> rw [leads_0, add_0] at h <;> simp only at h <;> omega
    · cases hn : f.noAd <;> rw [hn] at h <;> simp only [cond_true, cond_false] at h <;> rw [leads_1 (by omega), add_1] at h <;> simp only at h <;> omega
  · intro h
    rcases hs with rfl | rfl
    · rw [leads_0, add_0] at h; simp only at h; omega
    · rw [leads_1 (by omega), add_1] at h; simp only at h; omega
/-- What is known of the set that ends. -/
theorem set_end {f : Fmt} (hf : f.Ok) {m : MS} (hmf : m.f = f) (hi : m.Inv) {side : Int} (hs : side = 0 ∨ side = 1) (hgt : 0 ≤ (setV f m.won).1 → m.g.1 ≤ (setV f m.won).1 ∧ m.g.2 ≤ (setV f m.won).1) (hw : m.w side = side) (he : setEnds m side = true) :
    (extV f (setV f m.won)).low ≤ m.g.1 + m.g.2 + 1 ∧ (0 ≤ (extV f (setV f m.won)).high → m.g.1 + m.g.2 + 1 ≤ (extV f (setV f m.won)).high) ∧ (extV f (setV f m.won)).pts ≤ 4 * (m.g.1 + m.g.2) + (m.p.1 + m.p.2) + 1 := by
  have hr := set_ok hf m.won
  have hw' : gameV f (setV f m.won) m.tie (addV m.p side) = side := by rw [← hmf]; exact hw
  obtain ⟨q1, q2⟩ := game_pts (f := f) (s := setV f m.won) (p := m.p) hs hi.p0
  have hta := hi.ta
  rw [hmf] at hta
  have hg0 := hi.g0
  have hp0 := hi.p0
  have ht := hr.t
  have ho := hr.o
  have hga := hf.g0
  generalize hS : setV f m.won = S at *
  cases htt : m.tie
  · rw [htt] at hta hw'
    have q := q1 hw'
    have hld : leadsV (addV m.g side) f.games 2 = side := by
      unfold setEnds at he
      rw [htt, Bool.false_or, decide_eq_true_eq] at he
      rcases leads_add (b := 2) (by omega) hs hi.ld with h1 | h1
      · omega
      · rw [← hmf]; exact h1
    have hsum : max f.games 2 ≤ m.g.1 + m.g.2 + 1 := by
      rcases hs with rfl | rfl
      · rw [leads_0, add_0] at hld; simp only at hld; omega
      · rw [leads_1 (by omega), add_1] at hld; simp only at hld; omega
    have hnt : ¬ (m.g.1 = S.1 ∧ m.g.2 = S.1) := by
      intro h
      unfold brksV at hta
      rw [decide_eq_true h.1, decide_eq_true h.2] at hta
      cases hta
    by_cases a : S.1 = 0
    · have := hgt (by omega)
      omega
    · by_cases b : S.1 = -1
      · rw [ext_none b]; simp only; omega
      · have := hgt (by omega)
        rw [ext_some a b]; simp only; omega
  · rw [htt] at hta hw'
    have q := q2 hw'
    have hb := hta.symm
    simp only [brksV, Bool.and_eq_true, decide_eq_true_eq] at hb
    by_cases a : S.1 = 0
    · rw [ext_zero a]; simp only; omega
    · rw [ext_some a (by omega)]; simp only; omega
theorem bi_step {f : Fmt} (hf : f.Ok) {k : Int} {m m' : MS} {side : Int} (hmf : m.f = f) (hi : m.Inv) (hb : BI f k m) (hs : side = 0 ∨ side = 1) (hst : Stp m side m') : BI f (k + 1) m' := by
  have hwin := hi.w
  have hgt := hb.gt hwin
  have hws := hi.ws
  rw [hmf] at hws
  have hru := rule_at hb.wl hws
  have hgs := add_sum m.g side
  have hps := add_sum m.p side
  have hp0 := hi.p0
  have hg0 := hi.g0
  obtain ⟨b1, b2, b3, b4, b5, b6, b7, b8⟩ := hb
  have ex1 : lowX f m.st.length = (extV f (ruleI f m.st.length)).low := rfl
  have ex2 : highX f m.st.length = (extV f (ruleI f m.st.length)).high := rfl
  have ex3 : ptsX f m.st.length = (extV f (ruleI f m.st.length)).pts := rfl
  have hnk : ∀ m0 : MS, m0.winner = -1 → (nextV m0).gs = m0.gs ∧ (nextV m0).st = m0.st ∧ (nextV m0).g = m0.g ∧ (nextV m0).p = m0.p ∧ (nextV m0).won = m0.won ∧ (nextV m0).winner = -1 := fun m0 h => by
    have hw : decide (0 ≤ m0.winner) = false := by rw [h]; rfl
    unfold nextV; rw [hw]; exact ⟨rfl, rfl, rfl, rfl, rfl, h⟩
  have hgl : ((m.gs ++ [gameG m side]).length : Int) = m.gs.length + 1 := by simp
  have hsl : ((m.st ++ [addV m.g side]).length : Int) = m.st.length + 1 := by simp
  have hsl' : (m.st ++ [addV m.g side]).length = m.st.length + 1 := by simp
  have haw : (addV m.won side).1 + (addV m.won side).2 = m.won.1 + m.won.2 + 1 := add_sum _ _
  have hab : (addV m.won side).1 ≤ f.sets ∧ (addV m.won side).2 ≤ f.sets ∧ 0 ≤ (addV m.won side).1 ∧ 0 ≤ (addV m.won side).2 := by
    rcases hs with rfl | rfl
    · rw [add_0]; simp only; omega
    · rw [add_1]; simp only; omega
  cases hst with
  | no hw hi' =>
    refine ⟨b1, b2, b3, b4, b5, b6, ?_, b8⟩
    show sumI (ptsX f) m.st.length + 4 * (m.g.1 + m.g.2) + ((addV m.p side).1 + (addV m.p side).2) ≤ k + 1
    omega
  | game hw he hp hi' =>
    obtain ⟨k1, k2, k3, k4, k5, k6⟩ := hnk (gameOver m side) hwin
    have hnt : m.tie = false := by
      unfold setEnds at he
      rw [Bool.or_eq_false_iff] at he
      exact he.1
    have hw' : gameV f (setV f m.won) false (addV m.p side) = side := by rw [← hmf, ← hnt]; exact hw
    have q := (game_pts (f := f) (s := setV f m.won) (p := m.p) hs hp0).1 hw'
    refine ⟨by rw [k2, k5]; exact b1, by rw [k5]; exact b2, by rw [k5]; exact b3, ?_, fun hA => ?_, fun _ h0 => ?_, ?_, fun hn => absurd k6 hn⟩
    · rw [k1, k2, k3]
      show sumI (lowX f) m.st.length + ((addV m.g side).1 + (addV m.g side).2) ≤ ((m.gs ++ [gameG m side]).length : Int)
      omega
    · rw [k1, k2, k3]
      have := b5 hA
      show ((m.gs ++ [gameG m side]).length : Int) ≤ sumI (highX f) m.st.length + ((addV m.g side).1 + (addV m.g side).2)
      omega
    · rw [k5] at h0 ⊢
      rw [k3]
      have h0' : 0 ≤ (setV f m.won).1 := h0
      show (addV m.g side).1 ≤ (setV f m.won).1 ∧ (addV m.g side).2 ≤ (setV f m.won).1
      have hgt' := hgt h0'
      have hr := (set_ok hf m.won).t
      have hga := hf.g0
      have hld : leadsV (addV m.g side) f.games 2 = -1 := by
        have h2 := he
        unfold setEnds at h2
        rw [Bool.or_eq_false_iff, decide_eq_false_iff_not, hmf] at h2
        rcases leads_add (b := 2) (by omega) hs hi.ld with h1 | h1
        · rw [hmf] at h1; exact h1
        · rw [hmf] at h1; omega
      have hta := hi.ta
      rw [hmf, hnt] at hta
      have hnt2 : ¬ (m.g.1 = (setV f m.won).1 ∧ m.g.2 = (setV f m.won).1) := by
        intro h
        unfold brksV at hta
        rw [decide_eq_true h.1, decide_eq_true h.2] at hta
        cases hta
      rw [leads_n] at hld
      rcases hs with rfl | rfl
      · rw [add_0] at hld ⊢; simp only at hld ⊢; omega
      · rw [add_1] at hld ⊢; simp only at hld ⊢; omega
    · rw [k2, k3, k4]
      show sumI (ptsX f) m.st.length + 4 * ((addV m.g side).1 + (addV m.g side).2) + (0 + 0) ≤ k + 1
      omega
  | set hw he hl ho hp hi' =>
    obtain ⟨e1, e2, e3⟩ := set_end hf hmf hi hs hgt hw he
    rw [hru] at e1 e2 e3
    obtain ⟨k1, k2, k3, k4, k5, k6⟩ := hnk (setOver m side) hwin
    rw [hmf] at ho
    refine ⟨?_, by rw [k5]; exact ⟨hab.2.2.1, hab.2.2.2⟩, ?_, ?_, fun hA => ?_, fun _ h0 => ?_, ?_, fun hn => absurd k6 hn⟩
    · rw [k2, k5]
      show (addV m.won side).1 + (addV m.won side).2 = ((m.st ++ [addV m.g side]).length : Int)
      omega
    · rw [k5]
      show (addV m.won side).1 ≤ f.sets ∧ (addV m.won side).2 ≤ f.sets ∧ (addV m.won side).1 + (addV m.won side).2 ≤ 2 * f.sets - 1
      omega
    · rw [k1, k2, k3]
      show sumI (lowX f) (m.st ++ [addV m.g side]).length + (0 + 0) ≤ ((m.gs ++ [gameG m side]).length : Int)
      rw [hsl', sumI]
      omega
    · rw [k1, k2, k3]
      have := b5 hA
      have := e2 (hA m.st.length (by omega))
      show ((m.gs ++ [gameG m side]).length : Int) ≤ sumI (highX f) (m.st ++ [addV m.g side]).length + (0 + 0)
      rw [hsl', sumI]
      omega
    · rw [k3]
      exact ⟨h0, h0⟩
    · rw [k2, k3, k4]
      show sumI (ptsX f) (m.st ++ [addV m.g side]).length + 4 * (0 + 0) + (0 + 0) ≤ k + 1
      rw [hsl', sumI]
      omega
  | over hw he hl ho =>
    obtain ⟨e1, e2, e3⟩ := set_end hf hmf hi hs hgt hw he
    rw [hru] at e1 e2 e3
    rw [hmf] at ho
    refine ⟨?_, ⟨hab.2.2.1, hab.2.2.2⟩, ?_, ?_, fun hA => ?_, fun h0 => ?_, ?_, fun _ => ?_⟩
    · show (addV m.won side).1 + (addV m.won side).2 = ((m.st ++ [addV m.g side]).length : Int)
      omega
    · show (addV m.won side).1 ≤ f.sets ∧ (addV m.won side).2 ≤ f.sets ∧ (addV m.won side).1 + (addV m.won side).2 ≤ 2 * f.sets - 1
      omega
    · show sumI (lowX f) (m.st ++ [addV m.g side]).length + (0 + 0) ≤ ((m.gs ++ [gameG m side]).length : Int)
      rw [hsl', sumI]
      omega
    · have := b5 hA
      have := e2 (hA m.st.length (by omega))
      show ((m.gs ++ [gameG m side]).length : Int) ≤ sumI (highX f) (m.st ++ [addV m.g side]).length + (0 + 0)
      rw [hsl', sumI]
      omega
    · have : side = -1 := h0
      omega
    · show sumI (ptsX f) (m.st ++ [addV m.g side]).length + 4 * (0 + 0) + (0 + 0) ≤ k + 1
      rw [hsl', sumI]
      omega
    · show (addV m.won side).1 = f.sets ∨ (addV m.won side).2 = f.sets
      omega
theorem bi_begin {f : Fmt} (hf : f.Ok) (first : Int) : BI f 0 (beginV f first) := by
  have h1 := hf.s0
  refine ⟨rfl, ⟨Int.le_refl _, Int.le_refl _⟩, ⟨by show (0 : Int) ≤ f.sets; omega, by show (0 : Int) ≤ f.sets; omega, by show (0 : Int) + 0 ≤ 2 * f.sets - 1; omega⟩, Int.le_refl _, fun _ => Int.le_refl _, fun _ h0 => ⟨h0, h0⟩, Int.le_refl _, fun hn => absurd rfl hn⟩
theorem bi_all {f : Fmt} {first : Int} {xs : List Int} (hf : f.Ok) : ∀ {k : Nat} {m : MS}, playTo f first xs k = some m → BI f k m
  | 0, m, h => by
    simp only [playTo, Option.some.injEq] at h
    subst h
    exact bi_begin hf first
  | k + 1, m, h => by
    obtain ⟨m0, s, h1, h2, hs, hin, e1, e2, hm, hst⟩ := stp_of hf h
    have := bi_step hf e1 hin (bi_all hf h1) hs hst
    simpa using this

/-! #### whole matches -/
theorem rule_last {f : Fmt} {i : Nat} (h : (i : Int) = 2 * f.sets - 2) : extV f (ruleI f i) = lastE f := by unfold ruleI; rw [decide_eq_true h]; rfl
theorem rule_each {f : Fmt} {i : Nat} (h : ¬ (i : Int) = 2 * f.sets - 2) : extV f (ruleI f i) = eachE f := by unfold ruleI; rw [decide_eq_false h]; rfl
theorem sum_each {f : Fmt} (x : Ext → Int) : ∀ n : Nat, (n : Int) ≤ 2 * f.sets - 2 → sumI (fun i => x (extV f (ruleI f i))) n = (n : Int) * x (eachE f)
  | 0, _ => by simp [sumI]
  | n + 1, h => by
    rw [sumI, sum_each x n (by omega), rule_each (by omega)]
    rw [Int.natCast_add, Int.add_mul]
    simp
theorem sum_last {f : Fmt} (x : Ext → Int) {n : Nat} (h : (n : Int) = 2 * f.sets - 2) : sumI (fun i => x (extV f (ruleI f i))) (n + 1) = (n : Int) * x (eachE f) + x (lastE f) := by
  rw [sumI, sum_each x n (by omega), rule_last h]
theorem last_ok {f : Fmt} (hf : f.Ok) : RuleOk f (f.ltie, f.lto) := ⟨hf.lt, hf.l0, hf.l1⟩
theorem each_ok {f : Fmt} (hf : f.Ok) : RuleOk f (f.tie, f.to) := ⟨hf.t, hf.o0, hf.o1⟩
/-- What Range says, by the number of sets. -/
theorem range_one {f : Fmt} (h : f.sets = 1) : rangeE f = lastE f := by unfold rangeE; rw [decide_eq_true h]; rfl
theorem range_more {f : Fmt} (h : ¬ f.sets = 1) : (rangeE f).low = f.sets * (eachE f).low ∧ (rangeE f).pts = f.sets * (eachE f).pts ∧ (rangeE f).high = bif decide (0 ≤ (lastE f).high) && decide (0 ≤ (eachE f).high) then (2 * f.sets - 2) * (eachE f).high + (lastE f).high else -1 := by
  unfold rangeE; rw [decide_eq_false h]; exact ⟨rfl, rfl, rfl⟩
theorem range_bd {f : Fmt} (hf : f.Ok) : 1 ≤ (rangeE f).low ∧ (rangeE f).low ≤ 100 ∧ -1 ≤ (rangeE f).high ∧ (rangeE f).high ≤ 1000 ∧ (0 ≤ (rangeE f).high → (rangeE f).low ≤ (rangeE f).high) ∧ 1 ≤ (rangeE f).pts ∧ (rangeE f).pts ≤ 600 := by
  obtain ⟨l1, l2, l3, l4, l5, l6, l7⟩ := ext_bd hf (last_ok hf)
  obtain ⟨e1, e2, e3, e4, e5, e6, e7⟩ := ext_bd hf (each_ok hf)
  have h1 := hf.s0
  have h2 := hf.s1
  by_cases h : f.sets = 1
  · rw [range_one h]
    unfold lastE
    omega
  · obtain ⟨q1, q2, q3⟩ := range_more h
    rw [q1, q2, q3]
    unfold lastE eachE
    rcases (by omega : f.sets = 2 ∨ f.sets = 3) with hs | hs <;> rw [hs] <;>
      (by_cases ha : 0 ≤ (extV f (f.ltie, f.lto)).high
       · by_cases hb : 0 ≤ (extV f (f.tie, f.to)).high
         · rw [decide_eq_true ha, decide_eq_true hb]; simp only [Bool.and_self, cond_true]; omega
         · rw [decide_eq_true ha, decide_eq_false hb]; simp only [Bool.and_false, cond_false]; omega
       · rw [decide_eq_false ha]; simp only [Bool.false_and, cond_false]; omega)
theorem all_high {f : Fmt} (hf : f.Ok) (h : 0 ≤ (rangeE f).high) : AllHigh f := by
  intro i hi
  have h1 := hf.s0
  show 0 ≤ (extV f (ruleI f i)).high
  by_cases hl : (i : Int) = 2 * f.sets - 2
  · rw [rule_last hl]
    by_cases hs : f.sets = 1
    · rw [range_one hs] at h; exact h
    · rw [(range_more hs).2.2] at h
      cases hb : decide (0 ≤ (lastE f).high)
      · rw [hb] at h; simp at h
      · exact of_decide_eq_true hb
  · rw [rule_each hl]
    have hs : ¬ f.sets = 1 := by omega
    rw [(range_more hs).2.2] at h
    cases hb : decide (0 ≤ (eachE f).high)
    · rw [hb] at h; simp at h
    · exact of_decide_eq_true hb
theorem range_least {f : Fmt} (hf : f.Ok) {k : Int} {m : MS} (hb : BI f k m) (hw : m.winner ≠ -1) (hp : 0 ≤ m.p.1 ∧ 0 ≤ m.p.2) (hg : 0 ≤ m.g.1 ∧ 0 ≤ m.g.2) : (rangeE f).low ≤ m.gs.length ∧ (rangeE f).pts ≤ k := by
  obtain ⟨b1, b2, b3, b4, b5, b6, b7, b8⟩ := hb
  have h1 := hf.s0
  have h2 := hf.s1
  have hd := b8 hw
  obtain ⟨l1, l2, l3, l4, l5, l6, l7⟩ := ext_bd hf (last_ok hf)
  obtain ⟨e1, e2, e3, e4, e5, e6, e7⟩ := ext_bd hf (each_ok hf)
  have hlen : f.sets ≤ (m.st.length : Int) ∧ (m.st.length : Int) ≤ 2 * f.sets - 1 := by omega
  have key : ∀ x : Ext → Int, 1 ≤ x (lastE f) → 1 ≤ x (eachE f) → (if f.sets = 1 then x (lastE f) else f.sets * x (eachE f)) ≤ sumI (fun i => x (extV f (ruleI f i))) m.st.length := fun x hl he => by
    by_cases hlast : (m.st.length : Int) = 2 * f.sets - 1
    · obtain ⟨n, hn⟩ : ∃ n : Nat, m.st.length = n + 1 := ⟨m.st.length - 1, by omega⟩
      rw [hn, sum_last x (by omega)]
      rcases (by omega : f.sets = 1 ∨ f.sets = 2 ∨ f.sets = 3) with hs | hs | hs
      · rw [if_pos hs]; obtain rfl : n = 0 := by omega
        simp
      · rw [if_neg (by omega), hs]; obtain rfl : n = 2 := by omega
        simp; omega
      · rw [if_neg (by omega), hs]; obtain rfl : n = 4 := by omega
        simp; omega
    · rw [sum_each x _ (by omega)]
      rcases (by omega : f.sets = 2 ∨ f.sets = 3) with hs | hs
      · rw [if_neg (by omega), hs]
        rw [show (m.st.length : Int) = 2 by omega]; omega
      · rw [if_neg (by omega), hs]
        rcases (by omega : (m.st.length : Int) = 3 ∨ (m.st.length : Int) = 4) with hk | hk <;> rw [hk] <;> omega
  have k1 := key Ext.low l1 e1
  have k2 := key Ext.pts l5 e5
  have kl : sumI (lowX f) m.st.length = sumI (fun i => (extV f (ruleI f i)).low) m.st.length := rfl
  have kp : sumI (ptsX f) m.st.length = sumI (fun i => (extV f (ruleI f i)).pts) m.st.length := rfl
  by_cases hs : f.sets = 1
  · rw [if_pos hs] at k1 k2
    rw [range_one hs]
    omega
  · rw [if_neg hs] at k1 k2
    rw [(range_more hs).1, (range_more hs).2.1]
    omega
theorem range_most {f : Fmt} (hf : f.Ok) {k : Int} {m : MS} (hb : BI f k m) (hin : m.Inv ∨ m.Done) (hmf : m.f = f) (hg0 : m.Done → m.g = (0, 0)) (h0 : 0 ≤ (rangeE f).high) : (m.gs.length : Int) ≤ (rangeE f).high := by
  have hA := all_high hf h0
  obtain ⟨b1, b2, b3, b4, b5, b6, b7, b8⟩ := hb
  have h1 := hf.s0
  have h2 := hf.s1
  have hle := b5 hA
  obtain ⟨l1, l2, l3, l4, l5, l6, l7⟩ := ext_bd hf (last_ok hf)
  obtain ⟨e1, e2, e3, e4, e5, e6, e7⟩ := ext_bd hf (each_ok hf)
  have hl0 : 0 ≤ (lastE f).high := by
    have := hA (2 * f.sets - 2).toNat (by omega)
    have e : extV f (ruleI f (2 * f.sets - 2).toNat) = lastE f := rule_last (by omega)
    unfold highX at this
    rw [e] at this; exact this
  -- the sets of a whole match
  have top : ∀ n : Nat, (n : Int) ≤ 2 * f.sets - 1 → sumI (highX f) n ≤ (rangeE f).high := fun n hn => by
    by_cases hs : f.sets = 1
    · rw [range_one hs]
      rcases (by omega : n = 0 ∨ n = 1) with rfl | rfl
      · exact hl0
      · show 0 + (extV f (ruleI f 0)).high ≤ _
        rw [rule_last (by omega)]; omega
    · have he0 : 0 ≤ (eachE f).high := by
        have := hA 0 (by omega)
        unfold highX at this
        rw [rule_each (by omega)] at this; exact this
      rw [(range_more hs).2.2, decide_eq_true hl0, decide_eq_true he0]
      simp only [Bool.and_self, cond_true]
      by_cases hlast : (n : Int) = 2 * f.sets - 1
      · obtain ⟨j, rfl⟩ : ∃ j : Nat, n = j + 1 := ⟨n - 1, by omega⟩
        have := sum_last (f := f) Ext.high (n := j) (by omega)
        show sumI (fun i => (extV f (ruleI f i)).high) (j + 1) ≤ _
        rw [this, show (j : Int) = 2 * f.sets - 2 by omega]
        exact Int.le_refl _
      · have := sum_each (f := f) Ext.high n (by omega)
        show sumI (fun i => (extV f (ruleI f i)).high) n ≤ _
        rw [this]
        have : (n : Int) * (eachE f).high ≤ (2 * f.sets - 2) * (eachE f).high := Int.mul_le_mul_of_nonneg_right (by omega) he0
        omega
  rcases hin with hi | hd
  · have hws := hi.ws
    rw [hmf] at hws
    have hru := rule_at b1 hws
    have hg := hi.g0
    have h3 := top (m.st.length + 1) (by omega)
    rw [sumI] at h3
    have h4 : 0 ≤ highX f m.st.length := hA _ (by omega)
    have h5 : highX f m.st.length = (extV f (setV f m.won)).high := by rw [hru]
    have hr := (set_ok hf m.won).t
    by_cases a : (setV f m.won).1 = 0
    · have := b6 hi.w (by omega)
      omega
    · by_cases b : (setV f m.won).1 = -1
      · rw [ext_none b] at h5; simp only at h5; omega
      · have h6 := hf.g0
        have := b6 hi.w (by omega)
        rw [ext_some a b] at h5; simp only at h5; omega
  · have := hg0 hd
    rw [this] at hle
    have h3 := top m.st.length (by omega)
    simp only at hle
    omega
end Go.Proofs.Ytebhkghgifiahaa
