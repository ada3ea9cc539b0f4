/- Plain law: the orders of the first sets divide those of all; the last set mirrored. -/
import Derived.Test.YtebhkghgifiahaaSG
import Derived.Test.YtebhkghgifiahaaSF
namespace Go.Proofs.Ytebhkghgifiahaa
open Go Go.RowKit

def waysE (f : Fmt) (l : List Pr) : Int := bif !decide (chkF f = 0) then chkF f else bif !brdOk ⟨l, (0, 0), (0, 0)⟩ then 12 else bif !(setsV f l).ok then 12 else bif decide (1000000000000 < (setsV f l).ord) then 2 else 0
def waysN (f : Fmt) (l : List Pr) : Int := bif !decide (chkF f = 0) then 0 else bif !brdOk ⟨l, (0, 0), (0, 0)⟩ then 0 else bif !(setsV f l).ok then 0 else bif decide (1000000000000 < (setsV f l).ord) then 0 else (setsV f l).ord
theorem waysR_eq (f : Fmt) (l : List Pr) : waysR f l = [.int .i64 (waysN f l), .int .i64 (waysE f l)] := by
  unfold waysR waysN waysE
  cases !decide (chkF f = 0)
  · cases !brdOk ⟨l, (0, 0), (0, 0)⟩
    · cases !(setsV f l).ok
      · cases decide (1000000000000 < (setsV f l).ord) <;> rfl
      · rfl
    · rfl
  · rfl
theorem ways_err {f : Fmt} {l : List Pr} (hc : chkF f = 0) : waysE f l = 0 ∨ waysE f l = 12 ∨ waysE f l = 2 := by
  unfold waysE
  rw [hc]
  cases !brdOk ⟨l, (0, 0), (0, 0)⟩
  · cases !(setsV f l).ok
    · cases decide (1000000000000 < (setsV f l).ord) <;> simp
    · simp
  · simp
theorem ways_ok {f : Fmt} {l : List Pr} (hc : chkF f = 0) (he : waysE f l = 0) : brdOk ⟨l, (0, 0), (0, 0)⟩ = true ∧ (setsV f l).ok = true ∧ (setsV f l).ord ≤ 1000000000000 ∧ waysN f l = (setsV f l).ord := by
  unfold waysE at he
  unfold waysN
  rw [hc] at he ⊢
  cases hb : brdOk ⟨l, (0, 0), (0, 0)⟩
  · rw [hb] at he; simp at he
  · rw [hb] at he
    cases ho : (setsV f l).ok
    · rw [ho] at he; simp at he
    · rw [ho] at he
      cases hd : decide (1000000000000 < (setsV f l).ord)
      · exact ⟨rfl, rfl, by simpa using hd, by simp⟩
      · rw [hd] at he; simp at he
theorem ways_of {f : Fmt} {l : List Pr} (hc : chkF f = 0) (hb : brdOk ⟨l, (0, 0), (0, 0)⟩ = true) (ho : (setsV f l).ok = true) (hd : (setsV f l).ord ≤ 1000000000000) : waysE f l = 0 ∧ waysN f l = (setsV f l).ord := by
  have hd' : decide (1000000000000 < (setsV f l).ord) = false := decide_eq_false (by omega)
  unfold waysE waysN
  rw [hc, hb, ho, hd']
  simp

section
variable {tb : Pr → Tb} {f : Fmt} {l : List Pr}
theorem ok_prev {k : Nat} (h : (setsTo tb f l (k + 1)).ok = true) : (setsTo tb f l k).ok = true := by
  cases ho : (setsTo tb f l k).ok
  · have := setsTo_stop ho (k := k + 1) (by omega)
    rw [this, ho] at h; cases h
  · rfl
theorem step_ok {r : SR} {p : Pr} (h : (setStep tb f r p).ok = true) : (tget (tb (setV f r.won)) p).isSome = true ∧ (setStep tb f r p).ord = bif decide (1000000000001 / r.ord < (tat (tb (setV f r.won)) p).1) then 1000000000001 else r.ord * (tat (tb (setV f r.won)) p).1 := by
  unfold setStep at h ⊢
  cases hb : !(tget (tb (setV f r.won)) p).isSome || !(tat (tb (setV f r.won)) p).2 || overV f r.won
  · simp only [Bool.or_eq_false_iff, Bool.not_eq_false'] at hb
    exact ⟨hb.1.1, rfl⟩
  · rw [hb] at h; cases h
theorem ord_bd (h1 : ∀ s, tOk (tb s)) (h2 : ∀ s, tPos (tb s)) : ∀ k, k ≤ l.length → (setsTo tb f l k).ok = true → 1 ≤ (setsTo tb f l k).ord ∧ (setsTo tb f l k).ord ≤ 1000000000001
  | 0, _, _ => by simp [setsTo]
  | k + 1, hk, ho => by
    have hp : l[k]? = some (l[k]'(by omega)) := List.getElem?_eq_getElem (by omega)
    have ho' := ok_prev ho
    have ih := ord_bd h1 h2 k (by omega) ho'
    have hs := setsTo_succ (tb := tb) (f := f) hp ho'
    rw [hs] at ho ⊢
    obtain ⟨hsome, hord⟩ := step_ok ho
    have hpos := tPos_get (h2 _) hsome
    rw [hord]
    cases hd : decide (1000000000001 / (setsTo tb f l k).ord < (tat (tb (setV f (setsTo tb f l k).won)) (l[k]'(by omega))).1)
    · have h3 : (tat (tb (setV f (setsTo tb f l k).won)) (l[k]'(by omega))).1 ≤ 1000000000001 / (setsTo tb f l k).ord := by simpa using hd
      have h4 := (Int.le_ediv_iff_mul_le (by omega : (0 : Int) < (setsTo tb f l k).ord)).1 h3
      rw [Int.mul_comm] at h4
      exact ⟨Int.mul_pos (by omega) (by omega), h4⟩
    · simp
theorem ord_step (h1 : ∀ s, tOk (tb s)) (h2 : ∀ s, tPos (tb s)) {k : Nat} (hk : k < l.length) (ho : (setsTo tb f l (k + 1)).ok = true) (hm : (setsTo tb f l (k + 1)).ord ≤ 1000000000000) : (setsTo tb f l k).ok = true ∧ ∃ c : Int, 1 ≤ c ∧ (setsTo tb f l (k + 1)).ord = (setsTo tb f l k).ord * c := by
  have hp : l[k]? = some (l[k]'hk) := List.getElem?_eq_getElem hk
  have ho' := ok_prev ho
  have hs := setsTo_succ (tb := tb) (f := f) hp ho'
  refine ⟨ho', (tat (tb (setV f (setsTo tb f l k).won)) (l[k]'hk)).1, ?_, ?_⟩
  · rw [hs] at ho
    exact tPos_get (h2 _) (step_ok ho).1
  · rw [hs] at ho hm ⊢
    have hord := (step_ok ho).2
    rw [hord] at hm ⊢
    cases hd : decide (1000000000001 / (setsTo tb f l k).ord < (tat (tb (setV f (setsTo tb f l k).won)) (l[k]'hk)).1)
    · rfl
    · rw [hd] at hm
      simp only [cond_true] at hm
      omega
theorem ord_chain (h1 : ∀ s, tOk (tb s)) (h2 : ∀ s, tPos (tb s)) {k : Nat} : ∀ d, k + d ≤ l.length → (setsTo tb f l (k + d)).ok = true → (setsTo tb f l (k + d)).ord ≤ 1000000000000 → (setsTo tb f l k).ok = true ∧ (setsTo tb f l k).ord ≤ 1000000000000 ∧ ∃ c : Int, 1 ≤ c ∧ (setsTo tb f l (k + d)).ord = (setsTo tb f l k).ord * c
  | 0, _, ho, hm => ⟨ho, hm, 1, by omega, by simp⟩
  | d + 1, hk, ho, hm => by
    have ho1 : (setsTo tb f l ((k + d) + 1)).ok = true := ho
    have hm1 : (setsTo tb f l ((k + d) + 1)).ord ≤ 1000000000000 := hm
    obtain ⟨o1, c, hc, e⟩ := ord_step h1 h2 (by omega) ho1 hm1
    have hb := ord_bd h1 h2 (k + d) (by omega) o1
    have hle : (setsTo tb f l (k + d)).ord ≤ (setsTo tb f l ((k + d) + 1)).ord := by
      rw [e]
      have := Int.mul_le_mul_of_nonneg_left (c := (setsTo tb f l (k + d)).ord) hc (by omega)
      rwa [Int.mul_one] at this
    obtain ⟨o2, m2, c', hc', e'⟩ := ord_chain h1 h2 d (by omega) o1 (Int.le_trans hle hm1)
    refine ⟨o2, m2, c' * c, Int.mul_pos (by omega) (by omega), ?_⟩
    show (setsTo tb f l ((k + d) + 1)).ord = _
    rw [e, e', Int.mul_assoc]
theorem sets_pre {l' : List Pr} {m : Nat} (h : ∀ i, i < m → l'[i]? = l[i]?) : ∀ k, k ≤ m → setsTo tb f l' k = setsTo tb f l k
  | 0, _ => rfl
  | k + 1, hk => by rw [setsTo, setsTo, h k (by omega), sets_pre h k (by omega)]
theorem step_swp {r : SR} {p : Pr} (h : tget (tb (setV f r.won)) (swp p) = tget (tb (setV f r.won)) p) : (setStep tb f r (swp p)).ok = (setStep tb f r p).ok ∧ (setStep tb f r (swp p)).ord = (setStep tb f r p).ord := by
  have ht : tat (tb (setV f r.won)) (swp p) = tat (tb (setV f r.won)) p := by unfold tat; rw [h]
  unfold setStep
  rw [h, ht]
  cases !(tget (tb (setV f r.won)) p).isSome || !(tat (tb (setV f r.won)) p).2 || overV f r.won <;> exact ⟨rfl, rfl⟩
end
theorem brd_sub {l l' : List Pr} (h : brdOk ⟨l, (0, 0), (0, 0)⟩ = true) (hl : l'.length ≤ l.length) (hm : ∀ p ∈ l', fitP p = true) : brdOk ⟨l', (0, 0), (0, 0)⟩ = true := by
  have h5 := brd_len h
  simp only [brdOk, Bool.and_eq_true, decide_eq_true_eq, Bool.not_eq_true', List.any_eq_false]
  refine ⟨by simp only at h5 ⊢; omega, fun p hp => ?_⟩
  simp only [Brd.all, List.mem_append] at hp
  rcases hp with hp | hp
  · simp [hm p hp]
  · have : p = (0, 0) := by simpa using hp
    subst this; decide
theorem brd_mem {l : List Pr} (h : brdOk ⟨l, (0, 0), (0, 0)⟩ = true) {p : Pr} (hp : p ∈ l) : fitP p = true := by
  simp only [brdOk, Bool.and_eq_true, Bool.not_eq_true', List.any_eq_false] at h
  have := h.2 p (by simp [Brd.all, hp])
  simpa using this
theorem orders_law {f : Fmt} {l : List Pr} (hc : chkF f = 0) {c : Nat} (hcl : c < l.length) (he : waysE f l = 0) :
    waysE f (l.take (c + 1)) = 0 ∧ waysE f (l.take c) = 0 ∧ 1 ≤ waysN f (l.take c) ∧ waysN f (l.take c) ≤ waysN f (l.take (c + 1)) ∧ waysN f (l.take (c + 1)) % waysN f (l.take c) = 0 ∧ waysN f (l.take (c + 1)) ≤ waysN f l ∧ waysN f l % waysN f (l.take (c + 1)) = 0 ∧ ∀ p, l[c]? = some p → waysE f (l.take c ++ [swp p]) = 0 ∧ waysN f (l.take c ++ [swp p]) = waysN f (l.take (c + 1)) := by
  have hf : f.Ok := chkF_ok (by simp [hc])
  obtain ⟨hb, ho, hm, hn⟩ := ways_ok hc he
  have hT1 := tOk_table f
  have hT2 := tPos_table f
  have hsym := fun won p => table_sym hf won p
  obtain ⟨tb, htb⟩ : ∃ tb, tb = tableV f := ⟨_, rfl⟩
  have hV : ∀ l : List Pr, setsV f l = setsTo tb f l l.length := fun l => by rw [htb]; rfl
  rw [← htb] at hT1 hT2
  have hsym' : ∀ won p, tget (tb (setV f won)) (swp p) = tget (tb (setV f won)) p := by rw [htb]; exact hsym
  rw [hV] at ho hm hn
  have hpre : ∀ m, m ≤ l.length → setsTo tb f (l.take m) (l.take m).length = setsTo tb f l m := fun m hm => by
    rw [List.length_take, Nat.min_eq_left hm]
    exact sets_pre (m := m) (fun i hi => by rw [List.getElem?_take_of_lt hi]) m (Nat.le_refl _)
  obtain ⟨o1, m1, c1, hc1, e1⟩ := ord_chain hT1 hT2 (tb := tb) (f := f) (l := l) (k := c + 1) (l.length - (c + 1)) (by omega) (by rw [show c + 1 + (l.length - (c + 1)) = l.length by omega]; exact ho) (by rw [show c + 1 + (l.length - (c + 1)) = l.length by omega]; exact hm)
  rw [show c + 1 + (l.length - (c + 1)) = l.length by omega] at e1
  obtain ⟨o0, m0, c0, hc0, e0⟩ := ord_chain hT1 hT2 (tb := tb) (f := f) (l := l) (k := c) 1 (by omega) o1 m1
  have b0 := ord_bd hT1 hT2 c (by omega) o0
  have b1 := ord_bd hT1 hT2 (c + 1) (by omega) o1
  have hfit : ∀ m, ∀ p ∈ l.take m, fitP p = true := fun m p hp => brd_mem hb (List.mem_of_mem_take hp)
  have w1 := ways_of hc (brd_sub hb (l' := l.take (c + 1)) (by rw [List.length_take]; omega) (hfit (c + 1))) (by rw [hV, hpre _ (by omega)]; exact o1) (by rw [hV, hpre _ (by omega)]; exact m1)
  have w0 := ways_of hc (brd_sub hb (l' := l.take c) (by rw [List.length_take]; omega) (hfit c)) (by rw [hV, hpre _ (by omega)]; exact o0) (by rw [hV, hpre _ (by omega)]; exact m0)
  rw [hV, hpre _ (by omega)] at w1 w0
  refine ⟨w1.1, w0.1, by rw [w0.2]; exact b0.1, ?_, ?_, ?_, ?_, fun p hp => ?_⟩
  · rw [w0.2, w1.2, e0]
    have := Int.mul_le_mul_of_nonneg_left (c := (setsTo tb f l c).ord) hc0 (by omega)
    rwa [Int.mul_one] at this
  · rw [w0.2, w1.2, e0]; exact Int.mul_emod_right _ _
  · rw [w1.2, hn, e1]
    have := Int.mul_le_mul_of_nonneg_left (c := (setsTo tb f l (c + 1)).ord) hc1 (by omega)
    rwa [Int.mul_one] at this
  · rw [w1.2, hn, e1]; exact Int.mul_emod_right _ _
  · have hlen : (l.take c ++ [swp p]).length = c + 1 := by simp; omega
    have hs0 : setsTo tb f (l.take c ++ [swp p]) c = setsTo tb f l c := sets_pre (m := c) (fun i hi => by rw [List.getElem?_append_left (by simp; omega), List.getElem?_take_of_lt hi]) c (Nat.le_refl _)
    have hg : (l.take c ++ [swp p])[c]? = some (swp p) := by rw [List.getElem?_append_right (by simp; omega)]; simp [Nat.min_eq_left (Nat.le_of_lt hcl)]
    have hs1 : setsTo tb f (l.take c ++ [swp p]) (c + 1) = setStep tb f (setsTo tb f l c) (swp p) := by rw [setsTo_succ hg (by rw [hs0]; exact o0), hs0]
    have hs2 : setsTo tb f l (c + 1) = setStep tb f (setsTo tb f l c) p := setsTo_succ hp o0
    obtain ⟨q1, q2⟩ := step_swp (tb := tb) (f := f) (r := setsTo tb f l c) (hsym' (setsTo tb f l c).won p)
    have hfp := brd_mem hb (List.mem_of_getElem? hp)
    have w2 := ways_of hc (brd_sub hb (l' := l.take c ++ [swp p]) (by omega) (fun q hq => by
      rcases List.mem_append.1 hq with hq | hq
      · exact hfit c q hq
      · simp only [List.mem_singleton] at hq
        subst hq
        simp only [fitP, Bool.and_eq_true] at hfp ⊢
        exact ⟨hfp.2, hfp.1⟩)) (by rw [hV, hlen, hs1, q1, ← hs2]; exact o1) (by rw [hV, hlen, hs1, q2, ← hs2]; exact m1)
    rw [hV, hlen, hs1, q2, ← hs2] at w2
    exact ⟨w2.1, by rw [w2.2, w1.2]⟩
end Go.Proofs.Ytebhkghgifiahaa
