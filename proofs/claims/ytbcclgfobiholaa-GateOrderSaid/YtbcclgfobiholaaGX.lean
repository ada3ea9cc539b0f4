/- Seats, people and the rate. Plain. -/
import Derived.Test.YtbcclgfobiholaaGV
namespace Go.Proofs.Ytbcclgfobiholaa
open Go Go.RowKit

def frsTo (fs : List Fe) (minute : Int) : Nat → Int
  | 0 => 0
  | k + 1 => match fs[k]? with
    | some f => frsTo fs minute k + (bif decide (f.1 ≤ minute) then f.2 else 0)
    | none => frsTo fs minute k
def frsV (q : Qu) (minute : Int) : Int := frsTo q.fs minute q.fs.length
theorem frsTo_succ {fs : List Fe} {m : Int} {k : Nat} {f : Fe} (h : fs[k]? = some f) : frsTo fs m (k + 1) = frsTo fs m k + (bif decide (f.1 ≤ m) then f.2 else 0) := by rw [frsTo, h]
theorem freeTo_succ {fs : List Fe} {m : Int} {k : Nat} {f : Fe} (h : fs[k]? = some f) : freeTo fs m (k + 1) = freeTo fs m k + (bif decide (f.1 = m) then f.2 else 0) := by rw [freeTo, h]
theorem frsTo_next {q : Qu} (m : Int) : ∀ k, k ≤ q.fs.length → frsTo q.fs (m + 1) k = frsTo q.fs m k + freeTo q.fs (m + 1) k
  | 0, _ => rfl
  | k + 1, hk => by
    have hf : q.fs[k]? = some q.fs[k] := List.getElem?_eq_getElem (by omega)
    have ih := frsTo_next (q := q) m k (by omega)
    rw [frsTo_succ hf, frsTo_succ hf, freeTo_succ hf, ih]
    by_cases e : q.fs[k].1 ≤ m
    · rw [decide_eq_true e, decide_eq_true (by omega), decide_eq_false (by omega)]; simp only [cond_true, cond_false]; omega
    · rw [decide_eq_false e]
      by_cases e' : q.fs[k].1 = m + 1
      · rw [decide_eq_true e', decide_eq_true (by omega)]; simp only [cond_true, cond_false]; omega
      · rw [decide_eq_false e', decide_eq_false (by omega)]; simp only [cond_false]; omega
theorem frsV_next (q : Qu) (m : Int) : frsV q (m + 1) = frsV q m + freeAll q.fs (m + 1) := frsTo_next m _ (Nat.le_refl _)
theorem frsV_neg {q : Qu} (hq : q.Ok) : frsV q (-1) = 0 := by
  suffices h : ∀ k, k ≤ q.fs.length → frsTo q.fs (-1) k = 0 from h _ (Nat.le_refl _)
  intro k hk
  induction k with
  | zero => rfl
  | succ k ih =>
    have hf : q.fs[k]? = some q.fs[k] := List.getElem?_eq_getElem (by omega)
    have hfo := hq.fe _ (List.mem_of_getElem? hf)
    simp only [feOk, isT, Bool.and_eq_true, win_iff] at hfo
    rw [frsTo_succ hf, ih (by omega), decide_eq_false (by omega)]; rfl
theorem frsTo_rng {q : Qu} (hq : q.Ok) (minute : Int) : ∀ k, k ≤ q.fs.length → 0 ≤ frsTo q.fs minute k ∧ frsTo q.fs minute k ≤ 9999 * k
  | 0, _ => by simp [frsTo]
  | k + 1, hk => by
    have ih := frsTo_rng hq minute k (by omega)
    have hf : q.fs[k]? = some q.fs[k] := List.getElem?_eq_getElem (by omega)
    have hfe := hq.fe _ (List.mem_of_getElem? hf)
    simp only [feOk, isT, Bool.and_eq_true, win_iff] at hfe
    rw [frsTo_succ hf]
    cases decide (q.fs[k].1 ≤ minute) <;> simp only [cond_true, cond_false] <;> omega
/-! #### people -/
theorem insNTo_succ {gs : List Pt} {u : Int} {inn : List Int} {k : Nat} {x : Int} (h : inn[k]? = some x) : insNTo gs u inn (k + 1) = insNTo gs u inn k + (bif win x 0 u then szV gs k else 0) := by rw [insNTo, h]
theorem insNTo_set {gs : List Pt} {u v : Int} {inn : List Int} {i : Nat} (hi : inn[i]? = some (-1)) : ∀ k, k ≤ inn.length → insNTo gs u (inn.set i v) k = insNTo gs u inn k + (if i < k then (bif win v 0 u then szV gs i else 0) else 0)
  | 0, _ => by simp [insNTo]
  | k + 1, hk => by
    have hx : inn[k]? = some inn[k] := List.getElem?_eq_getElem (by omega)
    have ih := insNTo_set (gs := gs) (u := u) (v := v) hi k (by omega)
    by_cases e : i = k
    · subst e
      have hs : (inn.set i v)[i]? = some v := List.getElem?_set_self (by omega)
      rw [insNTo_succ hs, insNTo_succ hi, ih, if_neg (by omega), if_pos (by omega)]
      have : win (-1) 0 u = false := by rw [← Bool.not_eq_true, win_iff]; omega
      rw [this]; simp
    · have hs : (inn.set i v)[k]? = some inn[k] := by rw [List.getElem?_set_ne e]; exact hx
      rw [insNTo_succ hs, insNTo_succ hx, ih]
      by_cases e' : i < k
      · rw [if_pos e', if_pos (by omega)]; omega
      · rw [if_neg e', if_neg (by omega)]; omega
theorem insN_set {q : Qu} {u v i : Int} {inn : List Int} (hl : inn.length = q.gs.length) (hi : 0 ≤ i ∧ i < q.gs.length) (hn : inAt inn i = -1) : insN q u (inn.set i.toNat v) = insN q u inn + (bif win v 0 u then szV q.gs i else 0) := by
  have h1 : inn[i.toNat]? = some (-1) := by
    unfold inAt at hn
    rw [List.getD_eq_getElem?_getD, List.getElem?_eq_getElem (by omega)] at hn
    rw [List.getElem?_eq_getElem (by omega)]
    exact congrArg some hn
  unfold insN
  rw [List.length_set, insNTo_set h1 _ (Nat.le_refl _), if_pos (by omega), Int.toNat_of_nonneg hi.1]
theorem insNTo_congr {gs : List Pt} {u u' : Int} {inn : List Int} : ∀ k, k ≤ inn.length → (∀ i : Nat, i < k → win (inAt inn i) 0 u = win (inAt inn i) 0 u') → insNTo gs u inn k = insNTo gs u' inn k
  | 0, _, _ => rfl
  | k + 1, hk, h => by
    have hx : inn[k]? = some inn[k] := List.getElem?_eq_getElem (by omega)
    have := h k (by omega)
    unfold inAt at this
    rw [List.getD_eq_getElem?_getD, Int.toNat_natCast, hx] at this
    rw [insNTo_succ hx, insNTo_succ hx, insNTo_congr k (by omega) (fun i hi => h i (by omega))]
    rw [show win inn[k] 0 u = win inn[k] 0 u' from this]
def holdV (q : Qu) (s : Cr) : Int := bif decide (0 < s.passing) then szV q.gs (pasV s) else 0
/-- The account of a day. -/
structure Ac (q : Qu) (rate more m r : Int) (s : Cr) : Prop where
  w : Wt q m s
  r0 : 0 ≤ r
  fr : 0 ≤ s.free
  p : 0 < s.passing → s.passing ≤ szV q.gs (pasV s)
  seats : s.free + insN q m s.inn + holdV q s = q.seats + more + frsV q m
  bud : insN q m s.inn + (holdV q s - s.passing) + r ≤ rate * max 0 (m - q.opn + 1)
  hist : ∀ u : Int, 0 ≤ u → u < m → insN q u s.inn ≤ q.seats + more + frsV q u ∧ insN q u s.inn ≤ rate * max 0 (u - q.opn + 1)
theorem Ac.now {q : Qu} (hq : q.Ok) {rate more m r : Int} {s : Cr} (h : Ac q rate more m r s) (hr : 0 ≤ r) : insN q m s.inn ≤ q.seats + more + frsV q m ∧ insN q m s.inn ≤ rate * max 0 (m - q.opn + 1) := by
  have h1 := h.fr
  have h2 := h.seats
  have h3 := h.bud
  have h5 := h.w.p
  have h6 : 0 ≤ holdV q s ∧ s.passing ≤ holdV q s := by
    unfold holdV
    by_cases hp : 0 < s.passing
    · have h4 := h.p hp
      rw [decide_eq_true hp]; simp only [cond_true]; omega
    · rw [decide_eq_false hp]; simp only [cond_false]; omega
  omega
theorem hold_zero {q : Qu} {s : Cr} (h : s.passing = 0) : holdV q s = 0 := by unfold holdV; rw [h]; rfl
theorem hold_pos {q : Qu} {s : Cr} {i : Int} {t : List Int} (h : 0 < s.passing) (hw : s.ws = i :: t) : holdV q s = szV q.gs i := by unfold holdV; rw [pas_pos h hw, decide_eq_true h]; rfl
theorem ac_beg {q : Qu} (hq : q.Ok) {rate more m r : Int} {s : Cr} {i0 : Int} {t : List Int} (h : Ac q rate more m r s) (hw : s.ws = i0 :: t) (hp : s.passing = 0) (hf : szV q.gs i0 ≤ s.free) : Ac q rate more m r (begS q.gs i0 s) := by
  obtain ⟨hW, hpos⟩ := wt_beg hq h.w hw hp
  have hho : holdV q (begS q.gs i0 s) = szV q.gs i0 := hold_pos (t := t) hpos hw
  have hps : pasV (begS q.gs i0 s) = i0 := pas_pos (t := t) hpos hw
  have h1 := h.seats
  have h2 := h.bud
  rw [hold_zero hp] at h1 h2
  refine ⟨hW, h.r0, by show 0 ≤ s.free - szV q.gs i0; omega, fun _ => by rw [hps]; exact Int.le_refl _, ?_, ?_, h.hist⟩
  · rw [hho]; show s.free - szV q.gs i0 + insN q m s.inn + szV q.gs i0 = _; omega
  · rw [hho]; show insN q m s.inn + (szV q.gs i0 - szV q.gs i0) + r ≤ _; omega
theorem ac_adv {q : Qu} (hq : q.Ok) {rate more m r : Int} {s : Cr} {i0 : Int} {t : List Int} (h : Ac q rate more m r s) (ho : q.opn ≤ m) (hr : 0 < r) (hw : s.ws = i0 :: t) (hp : 0 < s.passing) : Ac q rate more m (r - min r s.passing) (advS m r i0 t s) := by
  have hW := wt_adv hq h.w ho hr hw hp
  obtain ⟨h2, h3, h4⟩ := head_eq h.w hp hw
  have hho : holdV q s = szV q.gs i0 := hold_pos hp hw
  have hps : pasV s = i0 := pas_pos hp hw
  have hp1 := h.p hp
  have h1 := h.seats
  have h5 := h.bud
  rw [hho] at h1 h5
  rw [hps] at hp1
  have hopn := hq.o
  have hr0 := h.r0
  rcases adv_cases m r i0 t s with ⟨e0, e1⟩ | ⟨e0, e1⟩
  · rw [e1] at hW ⊢
    have hset : ∀ u, insN q u (s.inn.set i0.toNat m) = insN q u s.inn + (bif win m 0 u then szV q.gs i0 else 0) := fun u => insN_set h.w.len h2 h4
    have hm : insN q m (s.inn.set i0.toNat m) = insN q m s.inn + szV q.gs i0 := by rw [hset, win_iff.2 ⟨by omega, Int.le_refl _⟩]; rfl
    have hz : holdV q ⟨s.free, 0, t, s.inn.set i0.toNat m⟩ = 0 := hold_zero rfl
    refine ⟨hW, by omega, h.fr, fun hc => absurd hc (by simp), ?_, ?_, fun u hu0 hu => ?_⟩
    · rw [hz]; show s.free + insN q m (s.inn.set i0.toNat m) + 0 = _; omega
    · rw [hz]; show insN q m (s.inn.set i0.toNat m) + (0 - 0) + _ ≤ _; omega
    · have hu' : win m 0 u = false := by rw [← Bool.not_eq_true, win_iff]; omega
      have : insN q u (s.inn.set i0.toNat m) = insN q u s.inn := by rw [hset, hu']; simp
      show insN q u (s.inn.set i0.toNat m) ≤ _ ∧ insN q u (s.inn.set i0.toNat m) ≤ _
      rw [this]; exact h.hist u hu0 hu
  · rw [e1] at hW ⊢
    have hpp : 0 < s.passing - min r s.passing := by omega
    have hz : holdV q ⟨s.free, s.passing - min r s.passing, s.ws, s.inn⟩ = szV q.gs i0 := hold_pos (t := t) hpp hw
    have hps' : pasV ⟨s.free, s.passing - min r s.passing, s.ws, s.inn⟩ = i0 := pas_pos (t := t) hpp hw
    refine ⟨hW, by omega, h.fr, fun _ => by rw [hps']; show s.passing - min r s.passing ≤ _; omega, ?_, ?_, h.hist⟩
    · rw [hz]; exact h1
    · rw [hz]; show insN q m s.inn + (szV q.gs i0 - (s.passing - min r s.passing)) + _ ≤ _; omega
theorem insN_next {q : Qu} {m : Int} {s : Cr} (h : Wt q m s) : insN q (m + 1) s.inn = insN q m s.inn := by
  refine insNTo_congr _ (Nat.le_refl _) fun i hi => ?_
  rw [Bool.eq_iff_iff, win_iff, win_iff]
  have := h.rng i (by have := h.len; omega)
  omega
theorem ac_join {q : Qu} (hq : q.Ok) {rate more m : Int} (hrate : 0 ≤ rate) (hm : -1 ≤ m) {s : Cr} (h : Ac q rate more m 0 s) : Ac q rate more (m + 1) (bif decide (q.opn ≤ m + 1) then rate else 0) (joinV q.gs (ordV q) (m + 1) (freedV q (m + 1) s)) := by
  have hW := wt_join hq hm h.w
  have hps := join_pas h.w
  have hho : holdV q (joinV q.gs (ordV q) (m + 1) (freedV q (m + 1) s)) = holdV q s := by unfold holdV; rw [hps]; rfl
  have hfa := freeAll_rng hq (m + 1)
  have h1 := h.seats
  have h2 := h.bud
  have h3 := h.fr
  have hnx := insN_next h.w
  refine ⟨hW, by cases decide (q.opn ≤ m + 1) <;> simp [hrate], by show 0 ≤ s.free + freeAll q.fs (m + 1); omega, fun hp => by rw [hps]; exact h.p hp, ?_, ?_, fun u hu0 hu => ?_⟩
  · rw [hho, frsV_next]
    show s.free + freeAll q.fs (m + 1) + insN q (m + 1) s.inn + _ = _
    omega
  · rw [hho]
    show insN q (m + 1) s.inn + (holdV q s - s.passing) + _ ≤ _
    by_cases e : q.opn ≤ m + 1
    · rw [decide_eq_true e]
      simp only [cond_true]
      have e1 : max 0 (m + 1 - q.opn + 1) = max 0 (m - q.opn + 1) + 1 := by omega
      rw [e1, Int.mul_add, Int.mul_one]
      omega
    · rw [decide_eq_false e]
      simp only [cond_false]
      have e1 : max 0 (m + 1 - q.opn + 1) = max 0 (m - q.opn + 1) := by omega
      rw [e1]
      omega
  · show insN q u s.inn ≤ _ ∧ insN q u s.inn ≤ _
    by_cases e : u = m
    · subst e; exact h.now hq (Int.le_refl _)
    · exact h.hist u hu0 (by omega)
theorem run_ac {q : Qu} (hq : q.Ok) {rate more : Int} (hr : 0 ≤ rate) (hm : 0 ≤ more) (k : Nat) : Ac q rate more ((k : Int) - 1) 0 (runTo q rate more k) :=
  run_ind hr (I := fun m r s => Ac q rate more m r s) (fun _ _ _ h => h.w.p) (by
      have hs := hq.s
      have hin : insN q (-1) (open0 q more).inn = 0 := by
        suffices h : ∀ k, insNTo q.gs (-1) (List.replicate q.gs.length (-1)) k = 0 from h _
        intro k
        induction k with
        | zero => rfl
        | succ k ih =>
          rw [insNTo]
          cases hx : (List.replicate q.gs.length (-1 : Int))[k]? with
          | none => exact ih
          | some x =>
            have : win x 0 (-1) = false := by rw [← Bool.not_eq_true, win_iff]; omega
            simp only [this, ih]; rfl
      have hh : holdV q (open0 q more) = 0 := hold_zero rfl
      refine ⟨wt_open hq more, Int.le_refl _, by show 0 ≤ q.seats + more; omega, fun hc => absurd hc (by simp [open0]), ?_, ?_, fun u hu0 hu => by omega⟩
      · rw [hin, hh, frsV_neg hq]; show q.seats + more + 0 + 0 = _; omega
      · rw [hin, hh]
        show 0 + (0 - 0) + 0 ≤ _
        have : max 0 (-1 - q.opn + 1) = 0 := by have := hq.o; omega
        rw [this, Int.mul_zero]; omega)
    (fun m s hm h => ac_join hq hr hm h) (fun m r s i t h ho hr hw hp hf => ⟨ac_beg hq h hw hp hf, (wt_beg hq h.w hw hp).2⟩) (fun m r s i t h ho hr hw hp => ac_adv hq h ho hr hw hp)
    (fun m r s h h0 hh => ⟨h.w, Int.le_refl _, h.fr, h.p, h.seats, by have := h.bud; omega, h.hist⟩) k
/-- What the law of the seats says. -/
theorem seats_law {q : Qu} (hq : q.Ok) {rate : Int} (hr : 1 ≤ rate) : (∀ i : Int, 0 ≤ i ∧ i < q.gs.length → inAt (runV q rate 0) i = -1 ∨ (q.opn ≤ inAt (runV q rate 0) i ∧ atV q.gs i ≤ inAt (runV q rate 0) i ∧ inAt (runV q rate 0) i ≤ 1440)) ∧
    (∀ i : Int, 0 ≤ i ∧ i < q.gs.length → 0 ≤ inAt (runV q rate 0) i → 0 ≤ quitV q.gs i → inAt (runV q rate 0) i - (szV q.gs i + rate - 1) / rate < quitV q.gs i) ∧
    (∀ u : Int, 0 ≤ u ∧ u ≤ 1440 → insN q u (runV q rate 0) ≤ q.seats + frsV q u ∧ insN q u (runV q rate 0) ≤ rate * max 0 (u - q.opn + 1)) := by
  have h1 := run_gv hq (more := 0) hr 1441
  have h2 := run_ac hq (more := 0) (rate := rate) (by omega) (Int.le_refl _) 1441
  rw [show (((1441 : Nat) : Int) - 1) = 1440 by rfl] at h1 h2
  refine ⟨h1.w.rng, h1.gv, fun u hu => ?_⟩
  have h3 := h2.now hq (Int.le_refl _)
  have h4 := h2.hist u hu.1
  rw [Int.add_zero] at h3 h4
  by_cases e : u = 1440
  · subst e; exact h3
  · exact h4 (by omega)
end Go.Proofs.Ytbcclgfobiholaa
