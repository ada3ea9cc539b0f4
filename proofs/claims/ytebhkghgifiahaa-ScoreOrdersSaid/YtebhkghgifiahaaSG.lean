/- Plain laws for the theorem of the orders: the table is symmetric, prefixes divide. -/
import Derived.Test.YtebhkghgifiahaaSE
namespace Go.Proofs.Ytebhkghgifiahaa
open Go Go.RowKit

def swp (p : Pr) : Pr := (p.2, p.1)
theorem leads_swp {p : Pr} {l b : Int} (hb : 1 ≤ b) : decide (0 ≤ leadsV (swp p) l b) = decide (0 ≤ leadsV p l b) := by
  have h : ∀ q : Pr, decide (0 ≤ leadsV q l b) = ((decide (l ≤ q.1) && decide (b ≤ q.1 - q.2)) || (decide (l ≤ q.2) && decide (b ≤ q.2 - q.1))) := fun q => by
    unfold leadsV
    cases decide (l ≤ q.1) && decide (b ≤ q.1 - q.2)
    · cases decide (l ≤ q.2) && decide (b ≤ q.2 - q.1) <;> simp
    · simp
  rw [h, h]
  simp only [swp]
  exact Bool.or_comm _ _
theorem tget_put (t : Tb) (p q : Pr) (v : Stn) : tget (tput t p v) q = if q = p then some v else tget t q := by
  induction t with
  | nil =>
    by_cases h : q = p <;> simp [tput, tget, h]
  | cons e t ih =>
    by_cases h : p = e.1
    · rw [tput, if_pos h]
      by_cases hq : q = p
      · simp [tget, hq]
      · have : ¬ q = e.1 := fun h' => hq (h'.trans h.symm)
        simp [tget, hq, this]
    · rw [tput, if_neg h]
      by_cases hq : q = e.1
      · have : ¬ q = p := fun h' => h (h'.symm.trans hq)
        rw [tget, if_pos hq, if_neg this, tget, if_pos hq]
      · rw [tget, if_neg hq, ih, tget, if_neg hq]
/-- What a pair hands on: its orders, if it is there and not over. -/
def con (t : Tb) (p : Pr) : Option Int := match tget t p with
  | some (o, false) => some o
  | _ => none
def M : Int := 1000000000001
/-- A pair's value after a contribution of one that stands before it. -/
def giv (f : Fmt) (s p q : Pr) (o : Option Int) (v : Option Stn) : Option Stn := match o with
  | none => v
  | some c => some (min M ((v.getD (0, false)).1 + c), brksV s p || decide (0 ≤ leadsV q f.games 2))
theorem pair_get (f : Fmt) (s p q : Pr) (t : Tb) : tget (pairT f s p t) q = if q = addV p 0 then giv f s p q (con t p) (tget t q) else if q = addV p 1 then giv f s p q (con t p) (tget t q) else tget t q := by
  have h01 : addV p 1 ≠ addV p 0 := fun h => by simp [addV] at h; omega
  unfold pairT con
  cases hg : tget t p with
  | none => simp [giv]
  | some v =>
    obtain ⟨o, ov⟩ := v
    have ht : tat t p = (o, ov) := by rw [tat, hg]; rfl
    rw [ht]
    cases ov
    · simp only [Option.isSome_some, Bool.not_true, Bool.or_self, cond_false]
      show tget (tput (tput t (addV p (0 : Nat)) (newS f s p (o, false) t (0 : Nat))) (addV p (1 : Nat)) (newS f s p (o, false) (tput t (addV p (0 : Nat)) (newS f s p (o, false) t (0 : Nat))) (1 : Nat))) q = _
      rw [tget_put, tget_put]
      have e0 : ((0 : Nat) : Int) = 0 := rfl
      have e1 : ((1 : Nat) : Int) = 1 := rfl
      rw [e0, e1]
      by_cases h1 : q = addV p 1
      · have h0 : ¬ q = addV p 0 := fun h => h01 (h1.symm.trans h)
        rw [if_pos h1, if_neg h0, if_pos h1]
        simp only [giv, newS, tat, tget_put, ← h1, if_neg h0]
        rfl
      · rw [if_neg h1]
        by_cases h0 : q = addV p 0
        · rw [if_pos h0, if_pos h0]
          simp only [giv, newS, tat, ← h0]
          rfl
        · rw [if_neg h0, if_neg h0, if_neg h1]
    · simp [giv]
theorem con_congr {t t' : Tb} {p : Pr} (h : tget t p = tget t' p) : con t p = con t' p := by unfold con; rw [h]
theorem row_else {f : Fmt} {s : Pr} {all : Nat} {t : Tb} {r : Pr} (h : ¬ r.1 + r.2 = all + 1) : ∀ j, tget (rowTo f s all t j) r = tget t r
  | 0 => rfl
  | j + 1 => by
    rw [rowTo, pair_get, row_else h j]
    have h0 : ¬ r = addV (loA all + (j : Int), (all : Int) - (loA all + j)) 0 := fun e => h (by rw [e]; simp [addV]; omega)
    have h1 : ¬ r = addV (loA all + (j : Int), (all : Int) - (loA all + j)) 1 := fun e => h (by rw [e]; simp [addV]; omega)
    rw [if_neg h0, if_neg h1]
theorem row_get {f : Fmt} {s : Pr} {all : Nat} {t : Tb} {q : Pr} (hq : q.1 + q.2 = all + 1) : ∀ j : Nat, tget (rowTo f s all t j) q =
    giv f s (q.1, q.2 - 1) q (if loA all ≤ q.1 ∧ q.1 < loA all + j then con t (q.1, q.2 - 1) else none) (giv f s (q.1 - 1, q.2) q (if loA all + 1 ≤ q.1 ∧ q.1 ≤ loA all + j then con t (q.1 - 1, q.2) else none) (tget t q))
  | 0 => by
    have h1 : ¬ (loA all ≤ q.1 ∧ q.1 < loA all + ((0 : Nat) : Int)) := by omega
    have h2 : ¬ (loA all + 1 ≤ q.1 ∧ q.1 ≤ loA all + ((0 : Nat) : Int)) := by omega
    rw [if_neg h1, if_neg h2]; rfl
  | j + 1 => by
    have ih := row_get (f := f) (s := s) (t := t) hq j
    have hc : con (rowTo f s all t j) (loA all + (j : Int), (all : Int) - (loA all + j)) = con t (loA all + (j : Int), (all : Int) - (loA all + j)) := con_congr (row_else (by dsimp only; omega) j)
    rw [rowTo, pair_get, hc]
    obtain ⟨x, y⟩ := q
    simp only at hq ih ⊢
    have a0 : addV (loA all + (j : Int), (all : Int) - (loA all + j)) 0 = (loA all + j + 1, (all : Int) - (loA all + j)) := by simp [addV]
    have a1 : addV (loA all + (j : Int), (all : Int) - (loA all + j)) 1 = (loA all + j, (all : Int) - (loA all + j) + 1) := by simp [addV]
    rw [a0, a1]
    by_cases h0 : x = loA all + j + 1
    · have e : (x, y) = (loA all + (j : Int) + 1, (all : Int) - (loA all + j)) := Prod.ext h0 (by dsimp only; omega)
      have n1 : ¬ (loA all ≤ x ∧ x < loA all + (j : Int)) := by omega
      have n2 : ¬ (loA all + 1 ≤ x ∧ x ≤ loA all + (j : Int)) := by omega
      have n3 : ¬ (loA all ≤ x ∧ x < loA all + ((j + 1 : Nat) : Int)) := by omega
      have y4 : loA all + 1 ≤ x ∧ x ≤ loA all + ((j + 1 : Nat) : Int) := by omega
      have e2 : (x - 1, y) = (loA all + (j : Int), (all : Int) - (loA all + j)) := Prod.ext (by dsimp only; omega) (by dsimp only; omega)
      rw [if_pos e, ih, if_neg n1, if_neg n2, if_neg n3, if_pos y4, ← e2]
      rfl
    · have ne : ¬ (x, y) = (loA all + (j : Int) + 1, (all : Int) - (loA all + j)) := fun e => h0 (congrArg Prod.fst e)
      rw [if_neg ne]
      by_cases h1 : x = loA all + j
      · have e : (x, y) = (loA all + (j : Int), (all : Int) - (loA all + j) + 1) := Prod.ext h1 (by dsimp only; omega)
        have n1 : ¬ (loA all ≤ x ∧ x < loA all + (j : Int)) := by omega
        have y3 : loA all ≤ x ∧ x < loA all + ((j + 1 : Nat) : Int) := by omega
        have e2 : (x, y - 1) = (loA all + (j : Int), (all : Int) - (loA all + j)) := Prod.ext (by dsimp only; omega) (by dsimp only; omega)
        have c2 : (loA all + 1 ≤ x ∧ x ≤ loA all + ((j + 1 : Nat) : Int)) ↔ (loA all + 1 ≤ x ∧ x ≤ loA all + (j : Int)) := by omega
        rw [if_pos e, ih, if_neg n1, if_pos y3, ← e2]
        simp only [c2]
        rfl
      · have ne1 : ¬ (x, y) = (loA all + (j : Int), (all : Int) - (loA all + j) + 1) := fun e => h1 (congrArg Prod.fst e)
        have c1 : (loA all ≤ x ∧ x < loA all + ((j + 1 : Nat) : Int)) ↔ (loA all ≤ x ∧ x < loA all + (j : Int)) := by omega
        have c2 : (loA all + 1 ≤ x ∧ x ≤ loA all + ((j + 1 : Nat) : Int)) ↔ (loA all + 1 ≤ x ∧ x ≤ loA all + (j : Int)) := by omega
        rw [if_neg ne1, ih]
        simp only [c1, c2]
/-- What holds of the pairs up to a sum. -/
structure Good (f : Fmt) (t : Tb) (k : Int) : Prop where
  ok : ∀ p v, tget t p = some v → (0 ≤ p.1 ∧ 0 ≤ p.2) ∧ p.1 + p.2 ≤ k ∧ 0 ≤ v.1 ∧ (0 ≤ leadsV p f.games 2 → v.2 = true)
theorem con_some {f : Fmt} {t : Tb} {k : Int} (h : Good f t k) {p : Pr} {c : Int} (hc : con t p = some c) : (0 ≤ p.1 ∧ 0 ≤ p.2) ∧ 0 ≤ c ∧ ¬ 0 ≤ leadsV p f.games 2 := by
  unfold con at hc
  split at hc
  · next o hg =>
    injection hc with hc
    obtain ⟨h1, _, h3, h4⟩ := h.ok _ _ hg
    exact ⟨h1, by subst hc; exact h3, fun hl => by have := h4 hl; cases this⟩
  · cases hc
def Sy (t : Tb) : Prop := ∀ p, tget t (swp p) = tget t p
theorem sy_con {t : Tb} (h : Sy t) (p : Pr) : con t (swp p) = con t p := by unfold con; rw [h p]
theorem brks_swp (s p : Pr) : brksV s (swp p) = brksV s p := by
  unfold brksV swp
  exact Bool.and_comm _ _
theorem lead2 {g x : Int} (h : g ≤ x + 1) : 0 ≤ leadsV (x + 1, x - 1) g 2 := by
  unfold leadsV
  have e1 : decide (g ≤ x + 1) = true := decide_eq_true h
  have e2 : decide ((2 : Int) ≤ x + 1 - (x - 1)) = true := decide_eq_true (by omega)
  simp only [e1, e2]
  simp
theorem lead2' {g x : Int} (h : g ≤ x + 1) : 0 ≤ leadsV (x - 1, x + 1) g 2 := by
  have := leads_swp (p := (x + 1, x - 1)) (l := g) (b := 2) (by omega)
  simp only [swp] at this
  have h1 : decide (0 ≤ leadsV (x + 1, x - 1) g 2) = true := decide_eq_true (lead2 h)
  rw [h1] at this
  exact of_decide_eq_true this
theorem next_sum {f : Fmt} {s : Pr} (hg0 : 1 ≤ f.games) (hs : s.1 = -1 ∨ s.1 = 0 ∨ s.1 = f.games - 1 ∨ s.1 = f.games) {k : Nat} (hk : k < 82) (hg : Good f (tblTo f s k) k) (hy : Sy (tblTo f s k)) : Good f (tblTo f s (k + 1)) ((k + 1 : Nat) : Int) ∧ Sy (tblTo f s (k + 1)) := by
  obtain ⟨t, ht⟩ : ∃ t, t = tblTo f s k := ⟨_, rfl⟩
  rw [tblTo, ← ht]
  rw [← ht] at hg hy
  have hlo : loA k = max 0 ((k : Int) - 40 - 1) := rfl
  have hcn : (cntA k : Int) = min (k : Int) 41 - loA k + 1 := by unfold cntA loA; omega
  have hM : M = 1000000000001 := rfl
  have hnone : ∀ q : Pr, q.1 + q.2 = k + 1 → tget t q = none := fun q hq => by
    cases h : tget t q with
    | none => rfl
    | some v => have := (hg.ok q v h).2.1; omega
  have hrow : ∀ q : Pr, q.1 + q.2 = k + 1 → tget (rowTo f s k t (cntA k)) q = giv f s (q.1, q.2 - 1) q (if loA k ≤ q.1 ∧ q.1 < loA k + cntA k then con t (q.1, q.2 - 1) else none) (giv f s (q.1 - 1, q.2) q (if loA k + 1 ≤ q.1 ∧ q.1 ≤ loA k + cntA k then con t (q.1 - 1, q.2) else none) none) := fun q hq => by
    rw [row_get hq, hnone q hq]
  constructor
  · refine ⟨fun q v hv => ?_⟩
    by_cases hq : q.1 + q.2 = k + 1
    · rw [hrow q hq] at hv
      have step : ∀ (p : Pr) (o : Option Int) (u : Option Stn), (∀ c, o = some c → con t p = some c) → (p = (q.1, q.2 - 1) ∨ p = (q.1 - 1, q.2)) → (∀ v, u = some v → (0 ≤ q.1 ∧ 0 ≤ q.2) ∧ 0 ≤ v.1 ∧ (0 ≤ leadsV q f.games 2 → v.2 = true)) → ∀ v, giv f s p q o u = some v → (0 ≤ q.1 ∧ 0 ≤ q.2) ∧ 0 ≤ v.1 ∧ (0 ≤ leadsV q f.games 2 → v.2 = true) := by
        intro p o u ho hp hu v hv
        cases o with
        | none => exact hu v hv
        | some c =>
          have hc := con_some hg (ho c rfl)
          simp only [giv, Option.some.injEq] at hv
          subst hv
          have hu0 : 0 ≤ (u.getD (0, false)).1 := by
            cases u with
            | none => simp
            | some w => exact (hu w rfl).2.1
          refine ⟨?_, by dsimp only; omega, fun hl => by simp [hl]⟩
          rcases hp with rfl | rfl
          · have := hc.1; dsimp only at this; omega
          · have := hc.1; dsimp only at this; omega
      have h1 := step (q.1 - 1, q.2) (if loA k + 1 ≤ q.1 ∧ q.1 ≤ loA k + cntA k then con t (q.1 - 1, q.2) else none) none (fun c hc => by
        split at hc
        · exact hc
        · cases hc) (.inr rfl) (fun v hv => by cases hv)
      have h2 := step (q.1, q.2 - 1) (if loA k ≤ q.1 ∧ q.1 < loA k + cntA k then con t (q.1, q.2 - 1) else none) _ (fun c hc => by
        split at hc
        · exact hc
        · cases hc) (.inl rfl) h1 v hv
      exact ⟨h2.1, by omega, h2.2.1, h2.2.2⟩
    · rw [row_else hq] at hv
      obtain ⟨a, b, c⟩ := hg.ok q v hv
      exact ⟨a, by omega, c⟩
  · intro q
    by_cases hq : q.1 + q.2 = k + 1
    · have hq' : (swp q).1 + (swp q).2 = k + 1 := by simp only [swp]; omega
      rw [hrow q hq, hrow _ hq']
      obtain ⟨A, hA⟩ : ∃ A, A = if loA k + 1 ≤ q.1 ∧ q.1 ≤ loA k + cntA k then con t (q.1 - 1, q.2) else none := ⟨_, rfl⟩
      obtain ⟨B, hB⟩ : ∃ B, B = if loA k ≤ q.1 ∧ q.1 < loA k + cntA k then con t (q.1, q.2 - 1) else none := ⟨_, rfl⟩
      have hA' : (if loA k ≤ (swp q).1 ∧ (swp q).1 < loA k + cntA k then con t ((swp q).1, (swp q).2 - 1) else none) = A := by
        rw [hA, show ((swp q).1, (swp q).2 - 1) = swp (q.1 - 1, q.2) from rfl, sy_con hy]
        have : (loA k ≤ (swp q).1 ∧ (swp q).1 < loA k + cntA k) ↔ (loA k + 1 ≤ q.1 ∧ q.1 ≤ loA k + cntA k) := by simp only [swp]; omega
        simp only [this]
      have hB' : (if loA k + 1 ≤ (swp q).1 ∧ (swp q).1 ≤ loA k + cntA k then con t ((swp q).1 - 1, (swp q).2) else none) = B := by
        rw [hB, show ((swp q).1 - 1, (swp q).2) = swp (q.1, q.2 - 1) from rfl, sy_con hy]
        have : (loA k + 1 ≤ (swp q).1 ∧ (swp q).1 ≤ loA k + cntA k) ↔ (loA k ≤ q.1 ∧ q.1 < loA k + cntA k) := by simp only [swp]; omega
        simp only [this]
      rw [hA', hB', ← hA, ← hB]
      have hAc : ∀ c, A = some c → con t (q.1 - 1, q.2) = some c := fun c hc => by
        rw [hA] at hc
        split at hc
        · exact hc
        · cases hc
      have hBc : ∀ c, B = some c → con t (q.1, q.2 - 1) = some c := fun c hc => by
        rw [hB] at hc
        split at hc
        · exact hc
        · cases hc
      have e1 : brksV s ((swp q).1, (swp q).2 - 1) = brksV s (q.1 - 1, q.2) := brks_swp s (q.1 - 1, q.2)
      have e2 : brksV s ((swp q).1 - 1, (swp q).2) = brksV s (q.1, q.2 - 1) := brks_swp s (q.1, q.2 - 1)
      have e3 := leads_swp (p := q) (l := f.games) (b := 2) (by omega)
      cases A with
      | none =>
        cases B with
        | none => rfl
        | some c => simp only [giv, e2, e3]
      | some a =>
        cases B with
        | none => simp only [giv, e1, e3]
        | some c =>
          have ca := con_some hg (hAc a rfl)
          have cb := con_some hg (hBc c rfl)
          have b1 : brksV s (q.1 - 1, q.2) = false := by
            cases hb : brksV s (q.1 - 1, q.2)
            · rfl
            · exfalso
              simp only [brksV, Bool.and_eq_true, decide_eq_true_eq] at hb
              have hx : (q.1, q.2 - 1) = (s.1 + 1, s.1 - 1) := Prod.ext (by dsimp only; omega) (by dsimp only; omega)
              rw [hx] at cb
              simp only at cb ca
              exact cb.2.2 (lead2 (by omega))
          have b2 : brksV s (q.1, q.2 - 1) = false := by
            cases hb : brksV s (q.1, q.2 - 1)
            · rfl
            · exfalso
              simp only [brksV, Bool.and_eq_true, decide_eq_true_eq] at hb
              have hx : (q.1 - 1, q.2) = (s.1 - 1, s.1 + 1) := Prod.ext (by dsimp only; omega) (by dsimp only; omega)
              rw [hx] at ca
              simp only at cb ca
              exact ca.2.2 (lead2' (by omega))
          have hm : min M (min M ((0 : Int) + c) + a) = min M (min M ((0 : Int) + a) + c) := by
            have := ca.2.1
            have := cb.2.1
            omega
          simp only [giv, e1, e2, e3, b1, b2, Option.getD_some, Option.getD_none, hm]
    · have hq' : ¬ (swp q).1 + (swp q).2 = k + 1 := by simp only [swp]; omega
      rw [row_else hq, row_else hq']
      exact hy q
theorem tbl_sym {f : Fmt} {s : Pr} (hg0 : 1 ≤ f.games) (hs : s.1 = -1 ∨ s.1 = 0 ∨ s.1 = f.games - 1 ∨ s.1 = f.games) : ∀ k : Nat, k ≤ 82 → Good f (tblTo f s k) (k : Int) ∧ Sy (tblTo f s k)
  | 0, _ => by
    have h0 : ∀ p : Pr, tget (tblTo f s 0) p = if p = (0, 0) then some (1, false) else none := fun p => rfl
    constructor
    · refine ⟨fun p v hv => ?_⟩
      rw [h0] at hv
      split at hv
      · next hp =>
        injection hv with hv
        subst hp hv
        refine ⟨by simp, by simp, by decide, fun hl => ?_⟩
        exfalso
        have : leadsV (0, 0) f.games 2 = -1 := by
          unfold leadsV
          have e : decide (f.games ≤ 0) = false := decide_eq_false (by omega)
          simp [e]
        omega
      · cases hv
    · intro p
      rw [h0, h0]
      have : (swp p = (0, 0)) ↔ (p = (0, 0)) := by
        simp only [swp, Prod.ext_iff]
        exact ⟨fun ⟨a, b⟩ => ⟨b, a⟩, fun ⟨a, b⟩ => ⟨b, a⟩⟩
      simp only [this]
  | k + 1, h => by
    have ih := tbl_sym hg0 hs k (by omega)
    exact next_sum hg0 hs (by omega) ih.1 ih.2
theorem table_sym {f : Fmt} (hf : f.Ok) (won : Pr) (p : Pr) : tget (tableV f (setV f won)) (swp p) = tget (tableV f (setV f won)) p := by
  have hs : (setV f won).1 = -1 ∨ (setV f won).1 = 0 ∨ (setV f won).1 = f.games - 1 ∨ (setV f won).1 = f.games := by
    have h1 := hf.t
    have h2 := hf.lt
    unfold setV
    cases decide (won.1 = f.sets - 1) && decide (won.2 = f.sets - 1)
    · exact h1
    · exact h2
  exact (tbl_sym hf.g0 hs 82 (Nat.le_refl _)).2 p
end Go.Proofs.Ytebhkghgifiahaa
