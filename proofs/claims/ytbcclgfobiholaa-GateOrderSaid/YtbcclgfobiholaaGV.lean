/- Who is in before whom; who began to pass before giving up; seats and people. Plain. -/
import Derived.Test.YtbcclgfobiholaaGT
namespace Go.Proofs.Ytbcclgfobiholaa
open Go Go.RowKit

/-- Of two groups, the first of which stands before the second, and the second has begun to pass. -/
def TurnOk (q : Qu) (m : Int) (s : Cr) (i j : Int) : Prop :=
  (0 ≤ inAt s.inn i ∧ (0 ≤ inAt s.inn j → inAt s.inn i ≤ inAt s.inn j)) ∨ (inAt s.inn i = -1 ∧ leftV s i = false ∧ 0 ≤ quitV q.gs i ∧ quitV q.gs i ≤ m ∧ (0 ≤ inAt s.inn j → quitV q.gs i ≤ inAt s.inn j))
structure Tn (q : Qu) (m : Int) (s : Cr) : Prop where
  w : Wt q m s
  t : ∀ i j : Int, 0 ≤ i ∧ i < q.gs.length → 0 ≤ j ∧ j < q.gs.length → keyV q.gs i < keyV q.gs j → leftV s j = true → TurnOk q m s i j
theorem adv_cases (m r i : Int) (t : List Int) (s : Cr) : (s.passing - min r s.passing = 0 ∧ advS m r i t s = ⟨s.free, 0, t, s.inn.set i.toNat m⟩) ∨ (s.passing - min r s.passing ≠ 0 ∧ advS m r i t s = ⟨s.free, s.passing - min r s.passing, s.ws, s.inn⟩) := by
  unfold advS
  by_cases e : s.passing - min r s.passing = 0
  · left; rw [decide_eq_true e]; exact ⟨e, by simp only [cond_true]; rw [e]⟩
  · right; rw [decide_eq_false e]; exact ⟨e, rfl⟩
theorem pas_zero {s : Cr} (h : s.passing = 0) : pasV s = -1 := by unfold pasV; rw [h]; rfl
theorem pas_pos {s : Cr} {i : Int} {t : List Int} (h : 0 < s.passing) (hw : s.ws = i :: t) : pasV s = i := by unfold pasV; rw [decide_eq_true h, hw]; rfl
theorem head_eq {q : Qu} {m : Int} {s : Cr} (h : Wt q m s) {i : Int} {t : List Int} (hp : 0 < s.passing) (hw : s.ws = i :: t) : (0 ≤ i ∧ i < q.gs.length) ∧ atV q.gs i ≤ m ∧ inAt s.inn i = -1 := by
  obtain ⟨i', t', hw', h2, h3, h4⟩ := h.hd hp
  rw [hw] at hw'
  obtain ⟨rfl, rfl⟩ := List.cons.inj hw'
  exact ⟨h2, h3, h4⟩
theorem in_neg {q : Qu} (hq : q.Ok) {m : Int} {s : Cr} (h : Wt q m s) {i : Int} (hi : 0 ≤ i ∧ i < q.gs.length) (hn : ¬ 0 ≤ inAt s.inn i) : inAt s.inn i = -1 := by
  have := hq.o
  rcases h.rng i hi with e | ⟨e, _⟩
  · exact e
  · omega
theorem join_pas {q : Qu} {m : Int} {s : Cr} (h : Wt q m s) : pasV (joinV q.gs (ordV q) (m + 1) (freedV q (m + 1) s)) = pasV s := by
  unfold pasV
  show (bif decide (0 < s.passing) then (keptV q.gs (m + 1) (freedV q (m + 1) s) ++ _).headD (-1) else -1) = _
  by_cases hp : 0 < s.passing
  · obtain ⟨i, t, hw, -⟩ := h.hd hp
    have hf : firstN s = 1 := by unfold firstN; rw [decide_eq_true hp]; rfl
    have hkept : keptV q.gs (m + 1) (freedV q (m + 1) s) = s.ws.take (firstN s) ++ (s.ws.drop (firstN s)).filter fun i => !goneV q.gs (m + 1) i := rfl
    rw [decide_eq_true hp, hkept, hf, hw]; rfl
  · rw [decide_eq_false hp]; rfl
theorem join_left {q : Qu} {m : Int} {s : Cr} (h : Wt q m s) (i : Int) : leftV (joinV q.gs (ordV q) (m + 1) (freedV q (m + 1) s)) i = leftV s i := by unfold leftV; rw [join_pas h]; rfl
theorem tn_beg {q : Qu} (hq : q.Ok) {m : Int} {s : Cr} {i0 : Int} {t : List Int} (h : Tn q m s) (hw : s.ws = i0 :: t) (hp : s.passing = 0) : Tn q m (begS q.gs i0 s) := by
  obtain ⟨hW, hpos⟩ := wt_beg hq h.w hw hp
  obtain ⟨hf, h2, h3, h4⟩ := h.w.first hw hp
  have hpas : pasV (begS q.gs i0 s) = i0 := pas_pos (t := t) hpos hw
  have hps : pasV s = -1 := pas_zero hp
  have hw0 := wait_at h4
  refine ⟨hW, fun i j hi hj hk hl => ?_⟩
  have hinb : (begS q.gs i0 s).inn = s.inn := rfl
  by_cases e : j = i0
  · subst e
    have hin : inAt s.inn j = -1 := by
      have := (left_no h3).1
      exact in_neg hq h.w hj (by omega)
    have hFi : (!leftV s i && waitV q.gs m i) = false := by
      rw [← Bool.not_eq_true]
      intro hc
      have hm : i ∈ (ordV q).filter (fun i => !leftV s i && waitV q.gs m i) := List.mem_filter.2 ⟨ordV_mem.2 hi, hc⟩
      rw [← hf] at hm
      have hs : Srt (keyV q.gs) (j :: t) := by rw [hf]; exact (ordV_srt hq).filter _
      rcases List.mem_cons.1 hm with e | e
      · subst e; omega
      · have := (List.pairwise_cons.1 hs).1 i e
        omega
    by_cases hn : 0 ≤ inAt s.inn i
    · exact .inl ⟨hn, fun h0 => by rw [hinb] at h0; omega⟩
    · have hn1 := in_neg hq h.w hi hn
      have hli : leftV s i = false := by
        unfold leftV
        rw [hps, decide_eq_false hn, decide_eq_false (by omega)]; rfl
      rw [hli] at hFi
      have hwi : waitV q.gs m i = false := by simpa using hFi
      have hai := key_at hq hi hj hk
      obtain ⟨g, hg, g1, g2, g3, g4⟩ := pt_at hq hi
      unfold waitV at hwi
      rw [Bool.and_eq_false_iff, Bool.or_eq_false_iff, decide_eq_false_iff_not, decide_eq_false_iff_not, decide_eq_false_iff_not] at hwi
      have hqe := quit_eq hg
      right
      refine ⟨hn1, ?_, by omega, by omega, fun h0 => by rw [hinb] at h0; omega⟩
      unfold leftV
      rw [hpas, hinb, decide_eq_false hn, decide_eq_false (by rintro rfl; omega)]; rfl
  · have hlj : leftV s j = true := by
      unfold leftV at hl ⊢
      rw [hpas, decide_eq_false e, Bool.or_false] at hl
      rw [show decide (0 ≤ inAt s.inn j) = true from hl]; rfl
    rcases h.t i j hi hj hk hlj with ⟨a1, a2⟩ | ⟨a1, a2, a3, a4, a5⟩
    · exact .inl ⟨a1, a2⟩
    · refine .inr ⟨a1, ?_, a3, a4, a5⟩
      have hne : i ≠ i0 := by rintro rfl; omega
      unfold leftV
      rw [hpas, hinb, decide_eq_false hne, decide_eq_false (by omega)]; rfl
theorem tn_adv {q : Qu} (hq : q.Ok) {m r : Int} {s : Cr} {i0 : Int} {t : List Int} (h : Tn q m s) (ho : q.opn ≤ m) (hr : 0 < r) (hw : s.ws = i0 :: t) (hp : 0 < s.passing) : Tn q m (advS m r i0 t s) := by
  have hW := wt_adv hq h.w ho hr hw hp
  obtain ⟨h2, h3, h4⟩ := head_eq h.w hp hw
  have hps : pasV s = i0 := pas_pos hp hw
  have hlen := h.w.len
  have hopn := hq.o
  refine ⟨hW, fun i j hi hj hk hl => ?_⟩
  rcases adv_cases m r i0 t s with ⟨e0, e1⟩ | ⟨e0, e1⟩
  · rw [e1] at hl ⊢
    have hps' : pasV ⟨s.free, 0, t, s.inn.set i0.toNat m⟩ = -1 := pas_zero rfl
    have hset : ∀ k : Int, 0 ≤ k ∧ k < q.gs.length → inAt (s.inn.set i0.toNat m) k = bif decide (k = i0) then m else inAt s.inn k := fun k hk => inAt_set (by omega) (by omega)
    have hij : i ≠ j := by rintro rfl; omega
    by_cases e : j = i0
    · subst e
      have hlj : leftV s j = true := by
        unfold leftV; rw [hps, decide_eq_true (p := j = j) rfl, Bool.or_true]
      have hei : inAt (s.inn.set j.toNat m) i = inAt s.inn i := by rw [hset i hi, decide_eq_false hij]; rfl
      have hej : inAt (s.inn.set j.toNat m) j = m := by rw [hset j hj, decide_eq_true rfl]; rfl
      rcases h.t i j hi hj hk hlj with ⟨a1, a2⟩ | ⟨a1, a2, a3, a4, a5⟩
      · refine .inl ⟨by show 0 ≤ inAt (s.inn.set j.toNat m) i; omega, fun _ => ?_⟩
        show inAt (s.inn.set j.toNat m) i ≤ inAt (s.inn.set j.toNat m) j
        rcases h.w.rng i hi with e | ⟨_, _, e⟩ <;> omega
      · refine .inr ⟨by show inAt (s.inn.set j.toNat m) i = -1; omega, ?_, a3, a4, fun _ => by show _ ≤ inAt (s.inn.set j.toNat m) j; omega⟩
        unfold leftV
        rw [hps']
        show (decide (0 ≤ inAt (s.inn.set j.toNat m) i) || _) = false
        rw [decide_eq_false (by omega), decide_eq_false (by omega)]; rfl
    · have hej : inAt (s.inn.set i0.toNat m) j = inAt s.inn j := by rw [hset j hj, decide_eq_false e]; rfl
      have hlj : leftV s j = true := by
        unfold leftV at hl ⊢
        rw [hps'] at hl
        have hl' : (decide (0 ≤ inAt (s.inn.set i0.toNat m) j) || decide (j = -1)) = true := hl
        rw [hej, decide_eq_false (p := j = -1) (by omega), Bool.or_false] at hl'
        rw [hl']; rfl
      rcases h.t i j hi hj hk hlj with ⟨a1, a2⟩ | ⟨a1, a2, a3, a4, a5⟩
      · have hne : i ≠ i0 := by rintro rfl; omega
        have hei : inAt (s.inn.set i0.toNat m) i = inAt s.inn i := by rw [hset i hi, decide_eq_false hne]; rfl
        exact .inl ⟨by show 0 ≤ inAt (s.inn.set i0.toNat m) i; omega, fun h0 => by
          show inAt (s.inn.set i0.toNat m) i ≤ inAt (s.inn.set i0.toNat m) j
          have h0' : 0 ≤ inAt (s.inn.set i0.toNat m) j := h0
          rw [hei, hej] at *; exact a2 h0'⟩
      · have hne : i ≠ i0 := by
          rintro rfl
          unfold leftV at a2
          rw [hps, decide_eq_true (p := i = i) rfl, Bool.or_true] at a2; cases a2
        have hei : inAt (s.inn.set i0.toNat m) i = inAt s.inn i := by rw [hset i hi, decide_eq_false hne]; rfl
        refine .inr ⟨by show inAt (s.inn.set i0.toNat m) i = -1; omega, ?_, a3, a4, fun h0 => ?_⟩
        · unfold leftV
          rw [hps']
          show (decide (0 ≤ inAt (s.inn.set i0.toNat m) i) || _) = false
          rw [decide_eq_false (by omega), decide_eq_false (by omega)]; rfl
        · have h0' : 0 ≤ inAt (s.inn.set i0.toNat m) j := h0
          show _ ≤ inAt (s.inn.set i0.toNat m) j
          rw [hej] at *; exact a5 h0'
  · rw [e1] at hl ⊢
    have hps' : pasV ⟨s.free, s.passing - min r s.passing, s.ws, s.inn⟩ = i0 := pas_pos (t := t) (by show 0 < s.passing - min r s.passing; omega) hw
    have hle : ∀ k, leftV ⟨s.free, s.passing - min r s.passing, s.ws, s.inn⟩ k = leftV s k := fun k => by unfold leftV; rw [hps, hps']
    rw [hle] at hl
    rcases h.t i j hi hj hk hl with a | ⟨a1, a2, a3⟩
    · exact .inl a
    · exact .inr ⟨a1, by rw [hle]; exact a2, a3⟩
theorem run_tn {q : Qu} (hq : q.Ok) {rate more : Int} (hr : 0 ≤ rate) (k : Nat) : Tn q ((k : Int) - 1) (runTo q rate more k) :=
  run_ind hr (I := fun m _ s => Tn q m s) (fun _ _ _ h => h.w.p) ⟨wt_open hq more, fun i j hi hj _ hl => by
      exfalso
      have hW := wt_open hq more
      have hn := in_neg hq hW hj (fun h0 => by
        rcases hW.rng j hj with e | ⟨_, _, e⟩
        · omega
        · have := hq.o; omega)
      unfold leftV at hl
      rw [hn, pas_zero (by rfl), decide_eq_false (p := j = -1) (by omega)] at hl
      cases hl⟩
    (fun m s hm h => ⟨wt_join hq hm h.w, fun i j hi hj hk hl => by
      rw [join_left h.w] at hl
      rcases h.t i j hi hj hk hl with a | ⟨a1, a2, a3, a4, a5⟩
      · exact .inl a
      · exact .inr ⟨a1, by rw [join_left h.w]; exact a2, a3, by omega, a5⟩⟩)
    (fun m r s i t h _ hr hw hp _ => ⟨tn_beg hq h hw hp, (wt_beg hq h.w hw hp).2⟩) (fun m r s i t h ho hr hw hp => tn_adv hq h ho hr hw hp) (fun _ _ _ h _ _ => h) k

/-! #### began before giving up -/
structure Gv (q : Qu) (rate m r : Int) (s : Cr) : Prop where
  w : Wt q m s
  rr : 0 ≤ r ∧ r ≤ rate
  st : 0 < s.passing → ∃ i t, s.ws = i :: t ∧ ∃ u, q.opn ≤ u ∧ u ≤ m ∧ (quitV q.gs i = -1 ∨ u < quitV q.gs i) ∧ 1 + (m - u) * rate ≤ szV q.gs i - s.passing + r
  gv : ∀ i : Int, 0 ≤ i ∧ i < q.gs.length → 0 ≤ inAt s.inn i → 0 ≤ quitV q.gs i → inAt s.inn i - (szV q.gs i + rate - 1) / rate < quitV q.gs i
theorem gv_beg {q : Qu} (hq : q.Ok) {rate m r : Int} {s : Cr} {i0 : Int} {t : List Int} (h : Gv q rate m r s) (ho : q.opn ≤ m) (hr : 0 < r) (hw : s.ws = i0 :: t) (hp : s.passing = 0) : Gv q rate m r (begS q.gs i0 s) := by
  obtain ⟨hW, hpos⟩ := wt_beg hq h.w hw hp
  obtain ⟨hf, h2, h3, h4⟩ := h.w.first hw hp
  refine ⟨hW, h.rr, fun _ => ⟨i0, t, hw, m, ho, Int.le_refl _, (wait_at h4).2, ?_⟩, h.gv⟩
  show 1 + (m - m) * rate ≤ szV q.gs i0 - szV q.gs i0 + r
  rw [Int.sub_self, Int.zero_mul]; omega
theorem gv_adv {q : Qu} (hq : q.Ok) {rate m r : Int} {s : Cr} {i0 : Int} {t : List Int} (hrate : 1 ≤ rate) (h : Gv q rate m r s) (ho : q.opn ≤ m) (hr : 0 < r) (hw : s.ws = i0 :: t) (hp : 0 < s.passing) : Gv q rate m (r - min r s.passing) (advS m r i0 t s) := by
  have hW := wt_adv hq h.w ho hr hw hp
  obtain ⟨h2, h3, h4⟩ := head_eq h.w hp hw
  obtain ⟨i, t', hw', u, u1, u2, u3, u4⟩ := h.st hp
  rw [hw] at hw'
  obtain ⟨rfl, rfl⟩ := List.cons.inj hw'
  have hrr := h.rr
  have hlen := h.w.len
  refine ⟨hW, by omega, ?_, ?_⟩
  · rcases adv_cases m r i0 t s with ⟨e0, e1⟩ | ⟨e0, e1⟩
    · rw [e1]; intro hc; exact absurd hc (by simp)
    · rw [e1]; intro _
      refine ⟨i0, t, hw, u, u1, u2, u3, ?_⟩
      show _ ≤ szV q.gs i0 - (s.passing - min r s.passing) + (r - min r s.passing)
      omega
  · rcases adv_cases m r i0 t s with ⟨e0, e1⟩ | ⟨e0, e1⟩
    · rw [e1]
      intro j hj h0 h1
      show inAt (s.inn.set i0.toNat m) j - _ < _
      have h0' : 0 ≤ inAt (s.inn.set i0.toNat m) j := h0
      rw [inAt_set (by omega) (by omega)] at h0' ⊢
      by_cases e : j = i0
      · subst e
        rw [decide_eq_true rfl]
        simp only [cond_true]
        have hle : (m - u) ≤ (szV q.gs j + rate - 1) / rate := Int.le_ediv_of_mul_le (by omega) (by omega)
        omega
      · rw [decide_eq_false e] at h0' ⊢
        exact h.gv j hj h0' h1
    · rw [e1]; exact h.gv
theorem run_gv {q : Qu} (hq : q.Ok) {rate more : Int} (hr : 1 ≤ rate) (k : Nat) : Gv q rate ((k : Int) - 1) 0 (runTo q rate more k) :=
  run_ind (by omega) (I := fun m r s => Gv q rate m r s) (fun _ _ _ h => h.w.p) ⟨wt_open hq more, by omega, fun hc => absurd hc (by simp [open0]), fun i hi h0 _ => by
      exfalso
      rcases (wt_open hq more).rng i hi with e | ⟨_, _, e⟩
      · omega
      · have := hq.o; omega⟩
    (fun m s hm h => ⟨wt_join hq hm h.w, by cases decide (q.opn ≤ m + 1) <;> simp <;> omega, fun hp => by
      obtain ⟨i, t, hw, u, u1, u2, u3, u4⟩ := h.st hp
      have hf : firstN s = 1 := by unfold firstN; rw [decide_eq_true (show 0 < s.passing from hp)]; rfl
      refine ⟨i, (t.filter fun i => !goneV q.gs (m + 1) i) ++ (ordV q).filter (arrV q.gs (m + 1)), ?_, u, u1, by omega, u3, ?_⟩
      · show keptV q.gs (m + 1) (freedV q (m + 1) s) ++ _ = _
        have hkept : keptV q.gs (m + 1) (freedV q (m + 1) s) = s.ws.take (firstN s) ++ (s.ws.drop (firstN s)).filter fun i => !goneV q.gs (m + 1) i := rfl
        rw [hkept, hf, hw]; rfl
      · rw [decide_eq_true (by omega)]
        show 1 + (m + 1 - u) * rate ≤ szV q.gs i - s.passing + rate
        rw [show m + 1 - u = (m - u) + 1 by omega, Int.add_mul, Int.one_mul]
        omega, h.gv⟩)
    (fun m r s i t h ho hr hw hp _ => ⟨gv_beg hq h ho hr hw hp, (wt_beg hq h.w hw hp).2⟩) (fun m r s i t h ho hr' hw hp => gv_adv hq hr h ho hr' hw hp)
    (fun m r s h h0 hh => ⟨h.w, by have := h.rr; omega, fun hp => by
      obtain ⟨i, t, hw, u, u1, u2, u3, u4⟩ := h.st hp
      rcases hh with e | e | ⟨_, _, _, e, _⟩
      · subst e; exact ⟨i, t, hw, u, u1, u2, u3, u4⟩
      · rw [hw] at e; cases e
      · omega, h.gv⟩) k
end Go.Proofs.Ytbcclgfobiholaa
