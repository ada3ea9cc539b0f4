/- The plain law of a match whose points one side wins. -/
import Derived.Test.YtebhkghgifiahaaSY
namespace Go.Proofs.Ytebhkghgifiahaa
open Go Go.RowKit

def setP (f : Fmt) : Int := bif decide (f.sets = 1) then (lastE f).pts else (eachE f).pts
theorem range_pts (f : Fmt) : (rangeE f).pts = f.sets * setP f := by
  unfold setP
  by_cases h : f.sets = 1
  · rw [range_one h, decide_eq_true h, h]; simp
  · rw [(range_more h).2.1, decide_eq_false h]; rfl
theorem set_zero {f : Fmt} {j : Int} (hj : j < f.sets ∧ 0 ≤ j) : (extV f (setV f (j, 0))).pts = setP f := by
  unfold setV setP
  by_cases h : f.sets = 1
  · rw [decide_eq_true h, decide_eq_true (by simp only; omega : (j, (0 : Int)).1 = f.sets - 1), decide_eq_true (by simp only; omega : (j, (0 : Int)).2 = f.sets - 1)]; rfl
  · rw [decide_eq_false h, decide_eq_false (by simp only; omega : ¬ (j, (0 : Int)).2 = f.sets - 1), Bool.and_false]; rfl
structure ZI (f : Fmt) (k : Int) (m : MS) (j a b : Int) : Prop where
  won : m.won = (j, 0)
  g : m.g = (a, 0)
  p : m.p = (b, 0)
  k : k = j * setP f + 4 * a + b
  j0 : 0 ≤ j ∧ j ≤ f.sets
  a0 : 0 ≤ a
  b0 : 0 ≤ b
  dn : m.Done → j = f.sets ∧ a = 0 ∧ b = 0 ∧ m.winner = 0
/-- In play: how far a straight match is from its end. -/
theorem zi_lt {f : Fmt} (hf : f.Ok) {k j a b : Int} {m : MS} (hmf : m.f = f) (hi : m.Inv) (hb : BI f k m) (h : ZI f k m j a b) :
    4 * a + b + 1 ≤ setP f ∧ j < f.sets ∧ (m.tie = true → a = 0 ∧ setP f = max (setV f m.won).2 2 ∧ gameV f (setV f m.won) true (b, 0) = -1) ∧ (m.tie = false → setP f = 4 * max f.games 2 ∧ a + 1 ≤ max f.games 2 ∧ b ≤ 3) := by
  have hws := hi.ws
  rw [hmf, h.won] at hws
  have hj : j < f.sets := hws.1
  have hp := set_zero (f := f) (j := j) ⟨hj, h.j0.1⟩
  rw [← h.won] at hp
  have hgt := hb.gt hi.w
  rw [h.g] at hgt
  have hta := hi.ta
  rw [hmf, h.g] at hta
  have hr := set_ok hf m.won
  have hgo := hi.go
  rw [hmf, h.p] at hgo
  have hld := hi.ld
  rw [hmf, h.g] at hld
  have ha0 := h.a0
  have hb0 := h.b0
  have ht := hr.t
  have ho := hr.o
  have hga := hf.g0
  generalize hS : setV f m.won = S at *
  rw [leads_n] at hld
  simp only at hld hgt
  cases htt : m.tie
  · rw [htt] at hta hgo
    have hnz : ¬ S.1 = 0 := by
      intro hz
      have := hgt (by omega)
      unfold brksV at hta
      rw [decide_eq_true (by simp only; omega : (a, (0 : Int)).1 = S.1), decide_eq_true (by simp only; omega : (a, (0 : Int)).2 = S.1)] at hta
      cases hta
    have hb3 : b ≤ 3 := by
      unfold gameV at hgo
      simp only [cond_false] at hgo
      cases hn : f.noAd <;> rw [hn] at hgo <;> simp only [cond_true, cond_false] at hgo <;> rw [leads_n] at hgo <;> simp only at hgo <;> omega
    have hP : setP f = 4 * max f.games 2 := by
      rw [← hp]
      by_cases hb1 : S.1 = -1
      · rw [ext_none hb1]
      · rw [ext_some hnz hb1]
    exact ⟨by omega, hj, ⟨(fun h => by cases h), (fun _ => ⟨hP, by omega, hb3⟩)⟩⟩
  · rw [htt] at hta hgo
    have hbr := hta.symm
    simp only [brksV, Bool.and_eq_true, decide_eq_true_eq] at hbr
    have hz : S.1 = 0 := by omega
    have hP : setP f = max S.2 2 := by rw [← hp, ext_zero hz]
    have hb3 : b + 1 ≤ max S.2 2 := by
      have hgo' := hgo
      unfold gameV at hgo'
      simp only [cond_true] at hgo'
      rw [leads_n] at hgo'
      simp only at hgo'
      omega
    exact ⟨by omega, hj, ⟨(fun _ => ⟨by omega, hP, hgo⟩), (fun h => by cases h)⟩⟩
theorem zi_step {f : Fmt} (hf : f.Ok) {k j a b : Int} {m m' : MS} (hmf : m.f = f) (hi : m.Inv) (hb : BI f k m) (h : ZI f k m j a b) (hst : Stp m 0 m') : ∃ j' a' b', ZI f (k + 1) m' j' a' b' := by
  obtain ⟨z1, z2, z3, z4⟩ := zi_lt hf hmf hi hb h
  obtain ⟨hwon, hg, hp, hk, hj0, ha0, hb0, hdn⟩ := h
  have hnk : ∀ m0 : MS, m0.winner = -1 → (nextV m0).g = m0.g ∧ (nextV m0).p = m0.p ∧ (nextV m0).won = m0.won ∧ (nextV m0).winner = -1 := fun m0 h => by
    have hw : decide (0 ≤ m0.winner) = false := by rw [h]; rfl
    unfold nextV; rw [hw]; exact ⟨rfl, rfl, rfl, h⟩
  have hga : addV m.g 0 = (a + 1, 0) := by rw [hg]; rfl
  have hpa : addV m.p 0 = (b + 1, 0) := by rw [hp]; rfl
  have hwa : addV m.won 0 = (j + 1, 0) := by rw [hwon]; rfl
  have hjp : (j + 1) * setP f = j * setP f + setP f := by rw [Int.add_mul]; omega
  have notd : ∀ m0 : MS, m0.winner = -1 → ¬ m0.Done := fun m0 h hd => by have := hd.w; omega
  have hwin : m.w 0 = gameV f (setV f m.won) m.tie (b + 1, 0) := by
    show gameV m.f (setV m.f m.won) m.tie (addV m.p 0) = _
    rw [hpa, hmf]
  -- a game that is over has as many points as it takes
  have hend : m.w 0 = 0 → (m.tie = false → b + 1 = 4) ∧ (m.tie = true → b + 1 = setP f) := fun hw => by
    rw [hwin] at hw
    constructor
    · intro ht
      have := (z4 ht).2.2
      rw [ht] at hw
      unfold gameV at hw
      simp only [cond_false] at hw
      cases hn : f.noAd <;> rw [hn] at hw <;> simp only [cond_true, cond_false] at hw <;> rw [leads_0] at hw <;> simp only at hw <;> omega
    · intro ht
      obtain ⟨q1, q2, q3⟩ := z3 ht
      rw [ht] at hw
      unfold gameV at hw q3
      simp only [cond_true] at hw q3
      rw [leads_0] at hw
      rw [leads_n] at q3
      simp only at hw q3
      omega
  cases hst with
  | no hw hi' =>
    exact ⟨j, a, b + 1, hwon, hg, hpa, by omega, hj0, ha0, by omega, fun hd => absurd hd (notd _ hi.w)⟩
  | game hw he hpp hi' =>
    obtain ⟨k1, k2, k3, k4⟩ := hnk (gameOver m 0) hi.w
    have hnt : m.tie = false := by
      unfold setEnds at he
      rw [Bool.or_eq_false_iff] at he
      exact he.1
    have := (hend hw).1 hnt
    exact ⟨j, a + 1, 0, by rw [k3]; exact hwon, by rw [k1]; exact hga, by rw [k2]; rfl, by omega, hj0, by omega, Int.le_refl _, fun hd => absurd hd (notd _ k4)⟩
  | set hw he hl ho hpp hi' =>
    obtain ⟨k1, k2, k3, k4⟩ := hnk (setOver m 0) hi.w
    have hfull : 4 * a + b + 1 = setP f := by
      cases htt : m.tie
      · have q := (hend hw).1 htt
        obtain ⟨q1, q2, q3⟩ := z4 htt
        have hld : leadsV (addV m.g 0) f.games 2 = 0 := by
          unfold setEnds at he
          rw [htt, Bool.false_or, decide_eq_true_eq, hmf] at he
          rcases leads_add (b := 2) (by omega) (.inl rfl) hi.ld with h1 | h1
          · rw [hmf] at h1; omega
          · rw [← hmf]; exact h1
        rw [hga, leads_0] at hld
        simp only at hld
        omega
      · have q := (hend hw).2 htt
        obtain ⟨q1, q2, q3⟩ := z3 htt
        omega
    exact ⟨j + 1, 0, 0, by rw [k3]; exact hwa, by rw [k1]; rfl, by rw [k2]; rfl, by omega, by omega, Int.le_refl _, Int.le_refl _, fun hd => absurd hd (notd _ k4)⟩
  | over hw he hl ho =>
    rw [hwa, hmf] at ho
    simp only at ho
    have hfull : 4 * a + b + 1 = setP f := by
      cases htt : m.tie
      · have q := (hend hw).1 htt
        obtain ⟨q1, q2, q3⟩ := z4 htt
        have hld : leadsV (addV m.g 0) f.games 2 = 0 := by
          unfold setEnds at he
          rw [htt, Bool.false_or, decide_eq_true_eq, hmf] at he
          rcases leads_add (b := 2) (by omega) (.inl rfl) hi.ld with h1 | h1
          · rw [hmf] at h1; omega
          · rw [← hmf]; exact h1
        rw [hga, leads_0] at hld
        simp only at hld
        omega
      · have q := (hend hw).2 htt
        obtain ⟨q1, q2, q3⟩ := z3 htt
        omega
    exact ⟨j + 1, 0, 0, hwa, rfl, rfl, by omega, by omega, Int.le_refl _, Int.le_refl _, fun _ => ⟨by omega, rfl, rfl, rfl⟩⟩
theorem zi_all {f : Fmt} {first : Int} {N : Nat} (hf : f.Ok) : ∀ {k : Nat} {m : MS}, playTo f first (List.replicate N 0) k = some m → ∃ j a b, ZI f k m j a b
  | 0, m, h => by
    simp only [playTo, Option.some.injEq] at h
    subst h
    have h1 := hf.s0
    exact ⟨0, 0, 0, rfl, rfl, rfl, by simp, ⟨Int.le_refl _, by omega⟩, Int.le_refl _, Int.le_refl _, fun hd => by
      have h2 := (begin_inv hf first).w
      have h3 := hd.w
      omega⟩
  | k + 1, m, h => by
    obtain ⟨m0, s, h1, h2, hs, hin, e1, e2, hm, hst⟩ := stp_of hf h
    obtain ⟨j, a, b, hz⟩ := zi_all hf h1
    have hs0 : s = 0 := by
      have := List.mem_of_getElem? h2
      exact (List.mem_replicate.1 this).2
    subst hs0
    obtain ⟨j', a', b', hz'⟩ := zi_step hf e1 hin (bi_all hf h1) hz hst
    exact ⟨j', a', b', by simpa using hz'⟩
theorem zi_some {f : Fmt} {first : Int} {N : Nat} (hf : f.Ok) (hN : (N : Int) ≤ (rangeE f).pts) : ∀ k : Nat, k ≤ N → ∃ m, playTo f first (List.replicate N 0) k = some m
  | 0, _ => ⟨_, rfl⟩
  | k + 1, hk => by
    obtain ⟨m, hm⟩ := zi_some (first := first) hf hN k (by omega)
    obtain ⟨j, a, b, hz⟩ := zi_all hf hm
    have hx : (List.replicate N (0 : Int))[k]? = some 0 := by rw [List.getElem?_replicate, if_pos (by omega)]
    obtain ⟨e1, e2, hi⟩ := playTo_inv hf hm
    have hin : m.Inv := by
      rcases hi with hi | hd
      · exact hi
      · exfalso
        obtain ⟨d1, d2, d3, -⟩ := hz.dn hd
        have := hz.k
        rw [d1, d2, d3, ← range_pts] at this
        omega
    have hb2 : decide (0 ≤ m.winner) = false := by rw [hin.w]; rfl
    refine ⟨pointV m 0, ?_⟩
    rw [playTo_succ hm hx, hb2]
    rfl
/-- The side that wins all points has won with the last one of so many as Range says. -/
theorem straight {f : Fmt} {first : Int} (hf : f.Ok) (hc : chkF f = 0) (hfs : first = 0 ∨ first = 1) {N : Nat} (hN : (N : Int) = (rangeE f).pts) : ∃ m, playO f first (List.replicate N 0) = some m ∧ m.winner = 0 := by
  obtain ⟨m, hm⟩ := zi_some (first := first) hf (by omega : (N : Int) ≤ (rangeE f).pts) N (Nat.le_refl _)
  have hr := range_bd hf
  have hlen : (List.replicate N (0 : Int)).length = N := List.length_replicate
  refine ⟨m, plays_O hf hfs (by rw [hlen]; omega) (by rw [hlen]; exact hm) hc, ?_⟩
  obtain ⟨j, a, b, hz⟩ := zi_all hf hm
  obtain ⟨e1, e2, hi⟩ := playTo_inv hf hm
  rcases hi with hi | hd
  · exfalso
    obtain ⟨z1, z2, -, -⟩ := zi_lt hf e1 hi (bi_all hf hm) hz
    have hk := hz.k
    rw [hN, range_pts] at hk
    have hj : (j + 1) * setP f ≤ f.sets * setP f := Int.mul_le_mul_of_nonneg_right (by omega) (by have := hz.a0; have := hz.b0; omega)
    rw [Int.add_mul] at hj
    omega
  · exact (hz.dn hd).2.2.2
theorem stp_done_g {m m' : MS} {side : Int} (h : Stp m side m') (hd : m'.Done) : m'.g = (0, 0) := by
  have hw := hd.w
  cases h with
  | no _ hi => have := hi.w; omega
  | game _ _ _ hi => have := hi.w; omega
  | set _ _ _ _ _ hi => have := hi.w; omega
  | over => rfl
theorem done_g {f : Fmt} {first : Int} {xs : List Int} {m : MS} (h : playO f first xs = some m) (hd : m.Done) : m.g = (0, 0) := by
  have hp := play_some h
  have hto := hp.to
  cases hk : xs.length with
  | zero =>
    rw [hk] at hto
    simp only [playTo, Option.some.injEq] at hto
    subst hto
    rfl
  | succ k =>
    rw [hk] at hto
    obtain ⟨m0, s, h1, h2, hs, hin, e1, e2, hm, hst⟩ := stp_of hp.ok hto
    exact stp_done_g hst hd
end Go.Proofs.Ytebhkghgifiahaa
