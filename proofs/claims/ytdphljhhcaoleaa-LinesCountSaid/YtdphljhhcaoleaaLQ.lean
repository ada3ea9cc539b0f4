/- Plain laws on truths and calls. -/
import Derived.Test.YtdphljhhcaoleaaL8
namespace Go.Proofs.Ytdphljhhcaoleaa
open Go

theorem axis_mono {A B P P' Q : Int} (hA : 0 ≤ A) (hP : 0 < P) (hPP : P ≤ P') (hQ : 0 ≤ Q) (h : A * Q + B * P ≤ P * Q) : A * Q + B * P' ≤ P' * Q := by
  have h1 : 0 ≤ A * Q := Int.mul_nonneg hA hQ
  have e1 : P * (Q - B) = P * Q - B * P := by rw [Int.mul_sub, Int.mul_comm P B]
  have e2 : P' * (Q - B) = P' * Q - B * P' := by rw [Int.mul_sub, Int.mul_comm P' B]
  have h2 : 0 ≤ Q - B := by
    apply Int.not_lt.1
    intro hn
    have := Int.mul_neg_of_pos_of_neg hP hn
    omega
  have h3 := Int.mul_le_mul_of_nonneg_right hPP h2
  omega
theorem tch_form (m : Mark) (b : Box) : tch m b = decide (bey m.x b.l b.r * bey m.x b.l b.r * (m.hy * m.hy) + bey m.y b.b b.t * bey m.y b.b b.t * (m.hx * m.hx) ≤ m.hx * m.hx * (m.hy * m.hy)) := by
  unfold tch
  have k1 : bey m.x b.l b.r * m.hy * (bey m.x b.l b.r * m.hy) = bey m.x b.l b.r * bey m.x b.l b.r * (m.hy * m.hy) := by ac_rfl
  have k2 : bey m.y b.b b.t * m.hx * (bey m.y b.b b.t * m.hx) = bey m.y b.b b.t * bey m.y b.b b.t * (m.hx * m.hx) := by ac_rfl
  have k3 : m.hx * m.hy * (m.hx * m.hy) = m.hx * m.hx * (m.hy * m.hy) := by ac_rfl
  rw [k1, k2, k3]
/-- A greater mark touches too. -/
theorem tch_grow {m m' : Mark} {b : Box} (ex : m'.x = m.x) (ey : m'.y = m.y) (h1 : 1 ≤ m.hx) (h2 : m.hx ≤ m'.hx) (h3 : 1 ≤ m.hy) (h4 : m.hy ≤ m'.hy) (h : tch m b = true) : tch m' b = true := by
  rw [tch_form, decide_eq_true_eq] at *
  rw [ex, ey]
  have a1 : 0 ≤ bey m.x b.l b.r * bey m.x b.l b.r := Int.mul_nonneg (bey_nonneg ..) (bey_nonneg ..)
  have a2 : 0 ≤ bey m.y b.b b.t * bey m.y b.b b.t := Int.mul_nonneg (bey_nonneg ..) (bey_nonneg ..)
  have p1 : 0 < m.hx * m.hx := Int.mul_pos (by omega) (by omega)
  have p2 : m.hx * m.hx ≤ m'.hx * m'.hx := sq_mono (by omega) h2
  have q1 : 0 < m.hy * m.hy := Int.mul_pos (by omega) (by omega)
  have q2 : m.hy * m.hy ≤ m'.hy * m'.hy := sq_mono (by omega) h4
  have s1 := axis_mono a1 p1 p2 (by omega) h
  have s2 := axis_mono (A := bey m.y b.b b.t * bey m.y b.b b.t) (B := bey m.x b.l b.r * bey m.x b.l b.r) (P := m.hy * m.hy) (P' := m'.hy * m'.hy) (Q := m'.hx * m'.hx) a2 q1 q2 (by omega) (by rw [Int.add_comm, Int.mul_comm (m.hy * m.hy)]; exact s1)
  rw [Int.add_comm, Int.mul_comm (m'.hx * m'.hx)]
  exact s2

theorem truTo_sub {v : View} {p : Int × Int} {j : Nat} (hp : p = ctr v j) (ht : tru v p = true) : ∀ {k : Nat}, j < k → p ∈ truTo v k
  | 0, h => by omega
  | k + 1, h => by
    rw [truTo]
    by_cases e : j = k
    · subst e
      rw [← hp, ht]
      exact List.mem_append_right _ (by simp)
    · have := truTo_sub hp ht (k := k) (by omega)
      cases tru v (ctr v k)
      · exact this
      · exact List.mem_append_left _ this
theorem trus_mem {v : View} (hv : v.Near) {x y : Int} (hx : 0 ≤ x ∧ x ≤ v.size) (hy : 0 ≤ y ∧ y ≤ v.size) (ht : tru v (x, y) = true) : (x, y) ∈ trus v := by
  have hm := m_int hv
  obtain ⟨i, rfl⟩ := Int.eq_ofNat_of_zero_le hx.1
  obtain ⟨j, rfl⟩ := Int.eq_ofNat_of_zero_le hy.1
  exact truTo_sub (ctr_eq (by omega)).symm ht (ctr_in (by omega) (by omega))
theorem trus_size {v : View} (hv : v.Near) {p : Int × Int} (h : p ∈ trus v) : (0 ≤ p.1 ∧ p.1 ≤ v.size) ∧ (0 ≤ p.2 ∧ p.2 ≤ v.size) ∧ tru v p = true := by
  obtain ⟨j, hj, rfl, ht⟩ := truTo_mem h
  have hm := m_int hv
  have h1 : j / v.m < v.m := Nat.div_lt_of_lt_mul hj
  have h2 : j % v.m < v.m := Nat.mod_lt _ (by unfold View.m; omega)
  refine ⟨?_, ?_, ht⟩
  · simp only [ctr]
    generalize j / v.m = q at *
    omega
  · simp only [ctr]
    generalize j % v.m = r at *
    omega
theorem isM_iff {v : View} {m : Mark} : isM v m = true ↔ (0 ≤ m.x ∧ m.x ≤ v.size) ∧ (0 ≤ m.y ∧ m.y ≤ v.size) ∧ (v.hxl ≤ m.hx ∧ m.hx ≤ v.hxh) ∧ (v.hyl ≤ m.hy ∧ m.hy ≤ v.hyh) := by
  simp only [isM, Bool.and_eq_true, wi_iff]
  constructor
  · rintro ⟨⟨⟨h1, h2⟩, h3⟩, h4⟩; exact ⟨h1, h2, h3, h4⟩
  · rintro ⟨h1, h2, h3, h4⟩; exact ⟨⟨⟨h1, h2⟩, h3⟩, h4⟩
theorem isT_iff {v : View} {m : Mark} : isT v m = true ↔ isM v m = true ∧ tru v (m.x, m.y) = true := by simp only [isT, Bool.and_eq_true]; rfl
theorem isM_ok {v : View} {m : Mark} (hv : v.Near) (h : isM v m = true) : m.Ok := by
  obtain ⟨h1, h2, h3, h4⟩ := isM_iff.1 h
  obtain ⟨a1, a2, a3, a4, a5, a6, a7, a8, _, _⟩ := hv
  constructor <;> omega
theorem isT_ok {v : View} {m : Mark} (hv : v.Near) (h : isT v m = true) : m.Ok := isM_ok hv (isT_iff.1 h).1
theorem isT_mem {v : View} {m : Mark} (hv : v.Near) (h : isT v m = true) : (m.x, m.y) ∈ trus v := by
  obtain ⟨h1, h2⟩ := isT_iff.1 h
  obtain ⟨k1, k2, _⟩ := isM_iff.1 h1
  exact trus_mem hv k1 k2 h2
theorem isT_large {v : View} (hv : v.Near) {p : Int × Int} (h : p ∈ trus v) : isT v (largeM v p) = true := by
  obtain ⟨h1, h2, h3⟩ := trus_size hv h
  exact isT_iff.2 ⟨isM_iff.2 ⟨h1, h2, ⟨hv.hx, Int.le_refl _⟩, hv.hy, Int.le_refl _⟩, h3⟩
theorem isT_small {v : View} (hv : v.Near) {p : Int × Int} (h : p ∈ trus v) : isT v (smallM v p) = true := by
  obtain ⟨h1, h2, h3⟩ := trus_size hv h
  exact isT_iff.2 ⟨isM_iff.2 ⟨h1, h2, ⟨Int.le_refl _, hv.hx⟩, Int.le_refl _, hv.hy⟩, h3⟩
theorem small_m {v : View} {m : Mark} {b : Box} (hv : v.Near) (hm : isM v m = true) (h : tch (smallM v (m.x, m.y)) b = true) : tch m b = true := by
  obtain ⟨_, _, h3, h4⟩ := isM_iff.1 hm
  exact tch_grow (m := smallM v (m.x, m.y)) rfl rfl hv.hx0 h3.1 hv.hy0 h4.1 h
theorem m_large {v : View} {m : Mark} {b : Box} (hv : v.Near) (hm : isM v m = true) (h : tch m b = true) : tch (largeM v (m.x, m.y)) b = true := by
  obtain ⟨_, _, h3, h4⟩ := isM_iff.1 hm
  have := hv.hx0; have := hv.hy0
  exact tch_grow (m := m) rfl rfl (by omega) h3.2 (by omega) h4.2 h

/-- The call, said with truths. -/
theorem call_cases {v : View} {b : Box} : (none0 v = true ∧ callV v b = 0) ∨ (none0 v = false ∧ callV v b = 1 ∧ ∀ p ∈ trus v, tch (smallM v p) b = true) ∨
    (none0 v = false ∧ callV v b = 2 ∧ (∃ p ∈ trus v, tch (smallM v p) b = false) ∧ ∀ p ∈ trus v, tch (largeM v p) b = false) ∨
    (none0 v = false ∧ callV v b = 3 ∧ (∃ p ∈ trus v, tch (smallM v p) b = false) ∧ ∃ p ∈ trus v, tch (largeM v p) b = true) := by
  unfold callV
  cases h0 : none0 v
  · right
    cases h1 : (trus v).any (fun p => !tch (smallM v p) b)
    · left
      refine ⟨rfl, rfl, fun p hp => ?_⟩
      have := List.any_eq_false.1 h1 p hp
      simpa using this
    · right
      obtain ⟨p, hp, h2⟩ := List.any_eq_true.1 h1
      have h2 : tch (smallM v p) b = false := by simpa using h2
      cases h3 : (trus v).any (fun p => tch (largeM v p) b)
      · left
        refine ⟨rfl, rfl, ⟨p, hp, h2⟩, fun q hq => ?_⟩
        have := List.any_eq_false.1 h3 q hq
        simpa using this
      · right
        obtain ⟨q, hq, h4⟩ := List.any_eq_true.1 h3
        exact ⟨rfl, rfl, ⟨p, hp, h2⟩, q, hq, h4⟩
  · exact .inl ⟨rfl, rfl⟩
theorem trus_some {v : View} (h : none0 v = false) : ∃ p, p ∈ trus v := by
  cases ht : trus v with
  | nil => simp [none0, ht] at h
  | cons p _ => exact ⟨p, by simp⟩
theorem none_mem {v : View} (h : none0 v = true) {p : Int × Int} : p ∉ trus v := by
  have : trus v = [] := by simpa [none0] using h
  rw [this]; simp
theorem small_large {v : View} {b : Box} (hv : v.Near) {p : Int × Int} (hp : p ∈ trus v) (h : tch (smallM v p) b = true) : tch (largeM v p) b = true :=
  m_large (m := smallM v p) hv (isT_iff.1 (isT_small hv hp)).1 h

theorem show_in {v : View} {b : Box} {m : Mark} {e : Int} (hv : v.Near) (h0 : chkVB v b = 0) (hn : none0 v = false) (h : ShowR v b 1 m e) : (e = 0 ↔ callV v b ≠ 2) ∧ (e = 0 → isT v m = true ∧ tch m b = true) := by
  rcases h with ⟨h, _⟩ | ⟨_, h, _⟩ | ⟨_, _, rfl, p, hp, h⟩ | ⟨_, _, rfl, rfl, h⟩
  · exact absurd h0 h
  · cases h
  · rcases h with ⟨_, rfl, ht⟩ | ⟨h, _⟩
    · refine ⟨⟨fun _ hc => ?_, fun _ => rfl⟩, fun _ => ⟨isT_large hv hp, ht⟩⟩
      rcases call_cases (v := v) (b := b) with ⟨h, _⟩ | ⟨_, h, _⟩ | ⟨_, _, _, h⟩ | ⟨_, h, _⟩
      · rw [hn] at h; cases h
      · omega
      · rw [h p hp] at ht; cases ht
      · omega
    · omega
  · refine ⟨⟨fun h => by omega, fun hc => ?_⟩, fun h => by omega⟩
    exfalso
    have hno : ∀ p ∈ trus v, tch (largeM v p) b = false := fun p hp => by simpa using (h p hp).1
    rcases call_cases (v := v) (b := b) with ⟨h, _⟩ | ⟨_, _, h⟩ | ⟨_, h, _⟩ | ⟨_, _, _, p, hp, h⟩
    · rw [hn] at h; cases h
    · obtain ⟨p, hp⟩ := trus_some hn
      have h1 := small_large hv hp (h p hp)
      rw [hno p hp] at h1; cases h1
    · exact hc h
    · rw [hno p hp] at h; cases h
theorem show_out {v : View} {b : Box} {m : Mark} {e : Int} (hv : v.Near) (h0 : chkVB v b = 0) (hn : none0 v = false) (h : ShowR v b 2 m e) : (e = 0 ↔ callV v b ≠ 1) ∧ (e = 0 → isT v m = true ∧ tch m b = false) := by
  rcases h with ⟨h, _⟩ | ⟨_, h, _⟩ | ⟨_, _, rfl, p, hp, h⟩ | ⟨_, _, rfl, rfl, h⟩
  · exact absurd h0 h
  · cases h
  · rcases h with ⟨h, _⟩ | ⟨_, rfl, ht⟩
    · omega
    · refine ⟨⟨fun _ hc => ?_, fun _ => rfl⟩, fun _ => ⟨isT_small hv hp, ht⟩⟩
      rcases call_cases (v := v) (b := b) with ⟨h, _⟩ | ⟨_, _, h⟩ | ⟨_, h, _⟩ | ⟨_, h, _⟩
      · rw [hn] at h; cases h
      · rw [h p hp] at ht; cases ht
      · omega
      · omega
  · refine ⟨⟨fun h => by omega, fun hc => ?_⟩, fun h => by omega⟩
    exfalso
    have hno : ∀ p ∈ trus v, tch (smallM v p) b = true := fun p hp => by simpa using (h p hp).2
    rcases call_cases (v := v) (b := b) with ⟨h, _⟩ | ⟨_, h, _⟩ | ⟨_, _, ⟨p, hp, h⟩, _⟩ | ⟨_, _, ⟨p, hp, h⟩, _⟩
    · rw [hn] at h; cases h
    · exact hc h
    · rw [hno p hp] at h; cases h
    · rw [hno p hp] at h; cases h
end Go.Proofs.Ytdphljhhcaoleaa
