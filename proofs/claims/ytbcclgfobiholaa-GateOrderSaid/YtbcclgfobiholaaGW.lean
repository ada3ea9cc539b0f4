/- All rates: the ends of what is sure, and of how many are inside. Plain. -/
import Derived.Test.YtbcclgfobiholaaGX
import Derived.Test.YtbcclgfobiholaaOG
namespace Go.Proofs.Ytbcclgfobiholaa
open Go Go.RowKit

def orTo (p : Nat → Bool) : Nat → Bool
  | 0 => false
  | k + 1 => orTo p k || p k
theorem orTo_iff {p : Nat → Bool} : ∀ {k : Nat}, orTo p k = true ↔ ∃ j, j < k ∧ p j = true
  | 0 => by simp [orTo]
  | k + 1 => by
    rw [orTo, Bool.or_eq_true, orTo_iff]
    constructor
    · rintro (⟨j, h1, h2⟩ | h)
      · exact ⟨j, by omega, h2⟩
      · exact ⟨k, by omega, h⟩
    · rintro ⟨j, h1, h2⟩
      by_cases e : j = k
      · subst e; exact .inr h2
      · exact .inl ⟨j, by omega, h2⟩
theorem orTo_no {p : Nat → Bool} {k : Nat} (h : orTo p k = false) : ∀ j, j < k → p j = false := fun j hj => by
  cases hp : p j
  · rfl
  · rw [orTo_iff.2 ⟨j, hj, hp⟩] at h; cases h
/-- The group is met among the first j. -/
def dnV (i : Int) (j : Nat) : Bool := decide (0 ≤ i) && decide (i < (j : Int))
def pN (q : Qu) (i : Int) (j : Nat) : Bool := decide (0 ≤ i) && decide (inI q 0 j i < 0)
def pE (q : Qu) (i c : Int) (j : Nat) : Bool := decide (0 ≤ i) && decide (inI q 0 j i = c)
def pK (i : Int) (_ : Nat) : Bool := decide (0 ≤ i)
def pP (q : Qu) (m c : Int) (j : Nat) : Bool := decide (insN q m (runV q (q.lo + j) 0) = c)
theorem dn_step {e e' A c c' : Bool} {i : Int} {j : Nat} (h : e = (A || (dnV i j && c))) (hi : i = (j : Int)) (hc : c = c') (hn : e' = (e || c')) : e' = (A || (dnV i (j + 1) && c)) := by
  have h1 : dnV i j = false := by unfold dnV; rw [decide_eq_false (p := i < (j : Int)) (by omega), Bool.and_false]
  have h2 : dnV i (j + 1) = true := by unfold dnV; rw [decide_eq_true (by omega), decide_eq_true (by omega)]; rfl
  rw [h1, Bool.false_and, Bool.or_false] at h
  rw [h2, Bool.true_and, hn, h, hc]
theorem dn_skip {e A c : Bool} {i : Int} {j : Nat} (h : e = (A || (dnV i j && c))) (hi : i ≠ (j : Int)) : e = (A || (dnV i (j + 1) && c)) := by
  have h1 : dnV i (j + 1) = dnV i j := by
    unfold dnV
    rw [Bool.eq_iff_iff]
    simp only [Bool.and_eq_true, decide_eq_true_eq]
    omega
  rw [h1]; exact h
theorem dn_end {e A c : Bool} {i : Int} {n : Nat} (h : e = (A || (dnV i n && c))) (hi : i < n) : e = (A || (decide (0 ≤ i) && c)) := by
  have h1 : dnV i n = decide (0 ≤ i) := by unfold dnV; rw [decide_eq_true hi, Bool.and_true]
  rw [h1] at h; exact h
theorem grp_uniq {q : Qu} (hq : q.Ok) {j : Nat} {g : Pt} (hg : q.gs[j]? = some g) (id : Int) : decide (g.id = id) = decide (grpI q.gs id = (j : Int)) := by
  have hs := idxF_spec (pAt q.gs fun g => decide (g.id = id)) q.gs.length
  have hj := (List.getElem?_eq_some_iff.1 hg).1
  rw [Bool.eq_iff_iff, decide_eq_true_eq, decide_eq_true_eq]
  constructor
  · intro e
    rcases hs with ⟨k, hk, he, hp, hb⟩ | ⟨he, hb⟩
    · show idxF _ _ = _
      rw [he]
      obtain ⟨g2, hg2⟩ : ∃ g, q.gs[k]? = some g := ⟨_, List.getElem?_eq_getElem hk⟩
      rw [pAt_eq hg2] at hp
      have hp := of_decide_eq_true hp
      rcases Nat.lt_trichotomy k j with h | h | h
      · exact absurd (hp.trans e.symm) (hq.nd _ _ _ _ h hg2 hg)
      · omega
      · exact absurd (e.trans hp.symm) (hq.nd _ _ _ _ h hg hg2)
    · have := hb j hj
      rw [pAt_eq hg, decide_eq_false_iff_not] at this
      exact absurd e this
  · intro e
    rcases hs with ⟨k, hk, he, hp, hb⟩ | ⟨he, hb⟩
    · have : (k : Int) = j := by rw [← he]; exact e
      obtain rfl : k = j := by omega
      rw [pAt_eq hg] at hp
      exact of_decide_eq_true hp
    · have : (-1 : Int) = j := by rw [← he]; exact e
      omega
theorem inI_rng {q : Qu} (hq : q.Ok) {j : Nat} (hj : j < nR q) {i : Int} (hi : 0 ≤ i ∧ i < q.gs.length) : -1 ≤ inI q 0 j i ∧ inI q 0 j i ≤ 1440 := by
  have hr := hq.r
  have h := (seats_law hq (rate := q.lo + j) (by omega)).1 i hi
  have ho := hq.o
  show -1 ≤ inAt _ i ∧ inAt _ i ≤ 1440
  rcases h with h | ⟨h1, _, h2⟩ <;> omega
theorem sureTo_spec {q : Qu} (hq : q.Ok) {i : Int} (hi : 0 ≤ i ∧ i < q.gs.length) : ∀ K, K ≤ nR q →
    (∃ z, sureTo q i 0 K = some z ∧ (∀ j, j < K → 0 ≤ inI q 0 j i ∧ z.1 ≤ inI q 0 j i ∧ inI q 0 j i ≤ z.2) ∧ (K = 0 → z = (1440, -1)) ∧ (0 < K → (∃ j, j < K ∧ inI q 0 j i = z.1) ∧ (∃ j, j < K ∧ inI q 0 j i = z.2))) ∨ (sureTo q i 0 K = none ∧ ∃ j, j < K ∧ inI q 0 j i < 0)
  | 0, _ => .inl ⟨_, rfl, fun j hj => by omega, fun _ => rfl, fun h => by omega⟩
  | K + 1, hK => by
    rcases sureTo_spec hq hi K (by omega) with ⟨z, h1, h2, h3, h4⟩ | ⟨h1, j, h2, h3⟩
    · have hx := inI_rng hq (j := K) (by omega) hi
      by_cases e : inI q 0 K i < 0
      · right
        refine ⟨?_, K, by omega, e⟩
        rw [sureTo, h1]; simp only; rw [decide_eq_true e]; rfl
      · left
        refine ⟨(min z.1 (inI q 0 K i), max z.2 (inI q 0 K i)), ?_, fun j hj => ?_, fun h => by omega, fun _ => ?_⟩
        · rw [sureTo, h1]; simp only; rw [decide_eq_false e]; rfl
        · show 0 ≤ inI q 0 j i ∧ min z.1 (inI q 0 K i) ≤ inI q 0 j i ∧ inI q 0 j i ≤ max z.2 (inI q 0 K i)
          by_cases ej : j = K
          · subst ej; omega
          · have := h2 j (by omega); omega
        · show (∃ j, j < K + 1 ∧ inI q 0 j i = min z.1 (inI q 0 K i)) ∧ ∃ j, j < K + 1 ∧ inI q 0 j i = max z.2 (inI q 0 K i)
          by_cases e0 : K = 0
          · subst e0
            have := h3 rfl
            subst this
            exact ⟨⟨0, by omega, by omega⟩, ⟨0, by omega, by omega⟩⟩
          · obtain ⟨⟨a, a1, a2⟩, b, b1, b2⟩ := h4 (by omega)
            constructor
            · by_cases e1 : z.1 ≤ inI q 0 K i
              · exact ⟨a, by omega, by omega⟩
              · exact ⟨K, by omega, by omega⟩
            · by_cases e1 : inI q 0 K i ≤ z.2
              · exact ⟨b, by omega, by omega⟩
              · exact ⟨K, by omega, by omega⟩
    · exact .inr ⟨by rw [sureTo, h1], j, by omega, h3⟩
theorem insTo_spec {q : Qu} (m : Int) : ∀ K, (∀ j, j < K → (insTo q m K).1 ≤ insN q m (runV q (q.lo + j) 0) ∧ insN q m (runV q (q.lo + j) 0) ≤ (insTo q m K).2) ∧ (0 < K → (∃ j, j < K ∧ insN q m (runV q (q.lo + j) 0) = (insTo q m K).1) ∧ (∃ j, j < K ∧ insN q m (runV q (q.lo + j) 0) = (insTo q m K).2))
  | 0 => ⟨fun j hj => by omega, fun h => by omega⟩
  | K + 1 => by
    obtain ⟨h1, h2⟩ := insTo_spec (q := q) m K
    rw [insTo]
    generalize hN : insN q m (runV q (q.lo + K) 0) = N
    by_cases e0 : K = 0
    · subst e0
      rw [decide_eq_true rfl]
      simp only [cond_true]
      refine ⟨fun j hj => ?_, fun _ => ⟨⟨0, by omega, hN⟩, ⟨0, by omega, hN⟩⟩⟩
      obtain rfl : j = 0 := by omega
      omega
    · rw [decide_eq_false e0]
      simp only [cond_false]
      refine ⟨fun j hj => ?_, fun _ => ?_⟩
      · by_cases ej : j = K
        · subst ej; omega
        · have := h1 j (by omega); omega
      · obtain ⟨⟨a, a1, a2⟩, b, b1, b2⟩ := h2 (by omega)
        constructor
        · by_cases e1 : (insTo q m K).1 ≤ N
          · exact ⟨a, by omega, by omega⟩
          · exact ⟨K, by omega, by omega⟩
        · by_cases e1 : N ≤ (insTo q m K).2
          · exact ⟨b, by omega, by omega⟩
          · exact ⟨K, by omega, by omega⟩
/-- What the law of all rates says of Sure. -/
structure SrOk (q : Qu) (id : Int) (P : SpE) : Prop where
  none : grpI q.gs id < 0 → P.err = 1
  never : 0 ≤ grpI q.gs id → orTo (pN q (grpI q.gs id)) (nR q) = true → P.err = 3
  ok : 0 ≤ grpI q.gs id → orTo (pN q (grpI q.gs id)) (nR q) = false → P.err = 0 ∧ orTo (pE q (grpI q.gs id) P.low) (nR q) = true ∧ orTo (pE q (grpI q.gs id) P.high) (nR q) = true
  rng : 0 ≤ grpI q.gs id → P.err = 0 → ∀ j, j < nR q → P.low ≤ inI q 0 j (grpI q.gs id) ∧ inI q 0 j (grpI q.gs id) ≤ P.high
theorem sure_ok {q : Qu} (hb : qOk q = true) (id : Int) : SrOk q id (sureP q id) := by
  have hq := q_ok hb
  have hr := hq.r
  have hn : 0 < nR q := by unfold nR; omega
  have hgr := grp_rng q.gs id
  by_cases h0 : grpI q.gs id < 0
  · have hE : grpE q id = 1 := by rw [grpE, hb, decide_eq_true h0]; rfl
    have hP : sureP q id = ⟨0, 0, 1⟩ := by rw [sureP, hE]; rfl
    rw [hP]
    exact ⟨fun _ => rfl, fun h => by omega, fun h => by omega, fun h => by omega⟩
  · have hE : grpE q id = 0 := by rw [grpE, hb, decide_eq_false h0]; rfl
    have hi : 0 ≤ grpI q.gs id ∧ grpI q.gs id < q.gs.length := by omega
    rcases sureTo_spec hq hi (nR q) (Nat.le_refl _) with ⟨z, h1, h2, h3, h4⟩ | ⟨h1, j, h2, h3⟩
    · have hP : sureP q id = ⟨z.1, z.2, 0⟩ := by rw [sureP, hE, sureV, h1]; rfl
      rw [hP]
      have hnv : orTo (pN q (grpI q.gs id)) (nR q) = false := by
        rw [← Bool.not_eq_true, orTo_iff]
        rintro ⟨j, hj, hp⟩
        have := h2 j hj
        simp only [pN, Bool.and_eq_true, decide_eq_true_eq] at hp
        omega
      obtain ⟨⟨a, a1, a2⟩, b, b1, b2⟩ := h4 hn
      refine ⟨fun h => by omega, fun _ h => (by rw [hnv] at h; cases h), fun _ _ => ⟨rfl, orTo_iff.2 ⟨a, a1, ?_⟩, orTo_iff.2 ⟨b, b1, ?_⟩⟩, fun _ _ j hj => (h2 j hj).2⟩
      · simp only [pE, Bool.and_eq_true, decide_eq_true_eq]; exact ⟨by omega, a2⟩
      · simp only [pE, Bool.and_eq_true, decide_eq_true_eq]; exact ⟨by omega, b2⟩
    · have hP : sureP q id = ⟨0, 0, 3⟩ := by rw [sureP, hE, sureV, h1]; rfl
      rw [hP]
      have hnv : orTo (pN q (grpI q.gs id)) (nR q) = true := orTo_iff.2 ⟨j, h2, by simp only [pN, Bool.and_eq_true, decide_eq_true_eq]; omega⟩
      exact ⟨fun h => by omega, fun _ _ => rfl, fun _ h => (by rw [hnv] at h; cases h), fun _ h => (by cases h)⟩
end Go.Proofs.Ytbcclgfobiholaa
