/- The moves of a crowd, one by one, and what holds all day. -/
import Derived.Test.YtbcclgfobiholaaGS
namespace Go.Proofs.Ytbcclgfobiholaa
open Go Go.RowKit

/-- The first group of the queue begins to pass. -/
def begS (gs : List Pt) (i : Int) (s : Cr) : Cr := ⟨s.free - szV gs i, szV gs i, s.ws, s.inn⟩
/-- People of the first group pass. -/
def advS (minute rate i : Int) (t : List Int) (s : Cr) : Cr :=
  bif decide (s.passing - min rate s.passing = 0) then ⟨s.free, s.passing - min rate s.passing, t, s.inn.set i.toNat minute⟩ else { s with passing := s.passing - min rate s.passing }
theorem passOne_beg {gs : List Pt} {minute rate i : Int} {t : List Int} {s : Cr} (h : s.passing = 0) : passOne gs minute rate i t s = advS minute rate i t (begS gs i s) ∧ ppV gs i s = (begS gs i s).passing := by
  have hp : ppV gs i s = szV gs i := by rw [ppV, decide_eq_true h]; rfl
  have hf : frV gs i s = s.free - szV gs i := by rw [frV, decide_eq_true h]; rfl
  refine ⟨?_, hp⟩
  rw [passOne, hp, hf]
  rfl
theorem passOne_adv {gs : List Pt} {minute rate i : Int} {t : List Int} {s : Cr} (h : s.passing ≠ 0) : passOne gs minute rate i t s = advS minute rate i t s ∧ ppV gs i s = s.passing := by
  have hp : ppV gs i s = s.passing := by rw [ppV, decide_eq_false h]; rfl
  have hf : frV gs i s = s.free := by rw [frV, decide_eq_false h]; rfl
  refine ⟨?_, hp⟩
  rw [passOne, hp, hf]
  rfl
/-- Where a minute ends. -/
def Halt (gs : List Pt) (r : Int) (s : Cr) : Prop := r = 0 ∨ s.ws = [] ∨ ∃ i t, s.ws = i :: t ∧ s.passing = 0 ∧ s.free < szV gs i
theorem pass_ind {gs : List Pt} {minute : Int} {I : Int → Cr → Prop} (h0 : ∀ r s, I r s → 0 ≤ s.passing)
    (hb : ∀ r s i t, I r s → 0 < r → s.ws = i :: t → s.passing = 0 → szV gs i ≤ s.free → I r (begS gs i s) ∧ 0 < szV gs i)
    (ha : ∀ r s i t, I r s → 0 < r → s.ws = i :: t → 0 < s.passing → I (r - min r s.passing) (advS minute r i t s)) :
    ∀ (f : Nat) (r : Int) (s : Cr), I r s → 0 ≤ r → r ≤ f → ∃ r', I r' (passV gs minute f r s) ∧ 0 ≤ r' ∧ r' ≤ r ∧ Halt gs r' (passV gs minute f r s)
  | 0, r, s, h, h1, h2 => ⟨r, by rw [passV_stop (.inl (by omega))]; exact h, h1, by omega, .inl (by omega)⟩
  | f + 1, r, s, h, h1, h2 => by
    cases hw : s.ws with
    | nil => exact ⟨r, by rw [passV_stop (.inr hw)]; exact h, h1, by omega, by rw [passV_stop (.inr hw)]; exact .inr (.inl hw)⟩
    | cons i t =>
      by_cases hr : 0 < r
      · have hp0 := h0 r s h
        cases hst : stopV gs i s
        · rw [passV_go hw hr hst]
          by_cases hp : s.passing = 0
          · have hsz : szV gs i ≤ s.free := by
              unfold stopV at hst
              rw [decide_eq_true hp, Bool.true_and, decide_eq_false_iff_not] at hst
              omega
            obtain ⟨hI, hpos⟩ := hb r s i t h hr hw hp hsz
            obtain ⟨e1, e2⟩ := passOne_beg (minute := minute) (rate := r) (t := t) (gs := gs) (i := i) hp
            have hpos' : 0 < (begS gs i s).passing := hpos
            have := ha r (begS gs i s) i t hI hr hw hpos'
            rw [e1, e2]
            obtain ⟨r', q1, q2, q3, q4⟩ := pass_ind h0 hb ha f _ _ this (by omega) (by omega)
            exact ⟨r', q1, q2, by omega, q4⟩
          · obtain ⟨e1, e2⟩ := passOne_adv (minute := minute) (rate := r) (t := t) (gs := gs) (i := i) hp
            have := ha r s i t h hr hw (by omega)
            rw [e1, e2]
            obtain ⟨r', q1, q2, q3, q4⟩ := pass_ind h0 hb ha f _ _ this (by omega) (by omega)
            exact ⟨r', q1, q2, by omega, q4⟩
        · rw [passV_halt hw hst]
          refine ⟨r, h, h1, Int.le_refl _, .inr (.inr ⟨i, t, hw, ?_⟩)⟩
          unfold stopV at hst
          rw [Bool.and_eq_true, decide_eq_true_eq, decide_eq_true_eq] at hst
          exact hst
      · exact ⟨r, by rw [passV_stop (.inl (by omega))]; exact h, h1, by omega, by rw [passV_stop (.inl (by omega))]; exact .inl (by omega)⟩
/-- What holds at the start, through joins, moves and ends of minutes holds after each minute. -/
theorem run_ind {q : Qu} {rate more : Int} (hr : 0 ≤ rate) {I : Int → Int → Cr → Prop} (h0 : ∀ m r s, I m r s → 0 ≤ s.passing) (hs : I (-1) 0 (open0 q more))
    (hj : ∀ (m : Int) s, -1 ≤ m → I m 0 s → I (m + 1) (bif decide (q.opn ≤ m + 1) then rate else 0) (joinV q.gs (ordV q) (m + 1) (freedV q (m + 1) s)))
    (hb : ∀ m r s i t, I m r s → q.opn ≤ m → 0 < r → s.ws = i :: t → s.passing = 0 → szV q.gs i ≤ s.free → I m r (begS q.gs i s) ∧ 0 < szV q.gs i)
    (ha : ∀ m r s i t, I m r s → q.opn ≤ m → 0 < r → s.ws = i :: t → 0 < s.passing → I m (r - min r s.passing) (advS m r i t s))
    (he : ∀ m r s, I m r s → 0 ≤ r → Halt q.gs r s → I m 0 s) : ∀ k : Nat, I ((k : Int) - 1) 0 (runTo q rate more k)
  | 0 => hs
  | k + 1 => by
    have ih := run_ind hr h0 hs hj hb ha he k
    have hj' := hj _ _ (by omega) ih
    rw [show ((k : Int) - 1 + 1) = k by omega] at hj'
    have e : (((k + 1 : Nat) : Int) - 1) = k := by omega
    rw [e, runTo, minuteV]
    cases ho : decide (q.opn ≤ (k : Int))
    · rw [ho] at hj'; exact hj'
    · rw [ho] at hj'
      simp only [cond_true] at hj' ⊢
      have ho' := of_decide_eq_true ho
      obtain ⟨r', q1, q2, q3, q4⟩ := pass_ind (gs := q.gs) (minute := (k : Int)) (I := I k) (fun r s h => h0 _ r s h) (fun r s i t h h1 h2 h3 h4 => hb _ r s i t h ho' h1 h2 h3 h4) (fun r s i t h h1 h2 h3 => ha _ r s i t h ho' h1 h2 h3) rate.toNat rate _ hj' (by omega) (by omega)
      exact he _ _ _ q1 q2 q4

/-! #### who waits -/
def inAt (l : List Int) (i : Int) : Int := l.getD i.toNat 0
theorem inAt_set {l : List Int} {i j v : Int} (hi : 0 ≤ i ∧ i < l.length) (hj : 0 ≤ j ∧ j < l.length) : inAt (l.set i.toNat v) j = bif decide (j = i) then v else inAt l j := by
  unfold inAt
  rw [List.getD_eq_getElem?_getD, List.getElem?_set]
  by_cases e : j = i
  · subst e
    rw [if_pos rfl, if_pos (by omega), decide_eq_true rfl]; rfl
  · rw [if_neg (by omega), decide_eq_false e, List.getD_eq_getElem?_getD]; rfl
def pasV (s : Cr) : Int := bif decide (0 < s.passing) then s.ws.headD (-1) else -1
def leftV (s : Cr) (i : Int) : Bool := decide (0 ≤ inAt s.inn i) || decide (i = pasV s)
def waitV (gs : List Pt) (m i : Int) : Bool := decide (atV gs i ≤ m) && (decide (quitV gs i = -1) || decide (m < quitV gs i))
/-- A crowd in a minute, and the part of the rate that is left. -/
structure Wt (q : Qu) (m : Int) (s : Cr) : Prop where
  p : 0 ≤ s.passing
  len : s.inn.length = q.gs.length
  rng : ∀ i : Int, 0 ≤ i ∧ i < q.gs.length → inAt s.inn i = -1 ∨ (q.opn ≤ inAt s.inn i ∧ atV q.gs i ≤ inAt s.inn i ∧ inAt s.inn i ≤ m)
  hd : 0 < s.passing → ∃ i t, s.ws = i :: t ∧ (0 ≤ i ∧ i < q.gs.length) ∧ atV q.gs i ≤ m ∧ inAt s.inn i = -1
  rest : s.ws.drop (firstN s) = (ordV q).filter fun i => !leftV s i && waitV q.gs m i
theorem Wt.first {q : Qu} {m : Int} {s : Cr} (h : Wt q m s) {i : Int} {t : List Int} (hw : s.ws = i :: t) (hp : s.passing = 0) : i :: t = (ordV q).filter (fun i => !leftV s i && waitV q.gs m i) ∧ (0 ≤ i ∧ i < q.gs.length) ∧ leftV s i = false ∧ waitV q.gs m i = true := by
  have hr := h.rest
  have hf : firstN s = 0 := by unfold firstN; rw [hp]; rfl
  rw [hf, List.drop_zero, hw] at hr
  have hm : i ∈ (ordV q).filter (fun i => !leftV s i && waitV q.gs m i) := by rw [← hr]; exact List.mem_cons_self
  obtain ⟨h1, h2⟩ := List.mem_filter.1 hm
  simp only [Bool.and_eq_true, Bool.not_eq_true'] at h2
  exact ⟨hr, ordV_mem.1 h1, h2.1, h2.2⟩
theorem left_no {s : Cr} {i : Int} (h : leftV s i = false) : inAt s.inn i < 0 ∧ i ≠ pasV s := by
  simp only [leftV, Bool.or_eq_false_iff, decide_eq_false_iff_not] at h
  exact ⟨by omega, h.2⟩
theorem filter_tail {α : Type} [DecidableEq α] {l : List α} {p p' : α → Bool} {i : α} {t : List α} (hn : l.Pairwise (fun a b => a ≠ b)) (h : i :: t = l.filter p) (hp : ∀ x ∈ l, p' x = (p x && !decide (x = i))) : t = l.filter p' := by
  have h1 : l.filter p' = (l.filter p).filter (fun x => !decide (x = i)) := by
    rw [List.filter_filter]
    exact List.filter_congr fun x hx => by rw [hp x hx, Bool.and_comm]
  have h2 : (i :: t).Pairwise (fun a b => a ≠ b) := by rw [h]; exact hn.filter p
  rw [h1, ← h, List.filter_cons]
  simp only [decide_true, Bool.not_true, Bool.false_eq_true, if_false]
  refine (List.filter_eq_self.2 fun x hx => ?_).symm
  have := (List.pairwise_cons.1 h2).1 x hx
  simp [Ne.symm this]
theorem wait_at {gs : List Pt} {m i : Int} (h : waitV gs m i = true) : atV gs i ≤ m ∧ (quitV gs i = -1 ∨ m < quitV gs i) := by
  simp only [waitV, Bool.and_eq_true, Bool.or_eq_true, decide_eq_true_eq] at h
  exact h
theorem wt_beg {q : Qu} (hq : q.Ok) {m : Int} {s : Cr} {i : Int} {t : List Int} (h : Wt q m s) (hw : s.ws = i :: t) (hp : s.passing = 0) : Wt q m (begS q.gs i s) ∧ 0 < szV q.gs i := by
  obtain ⟨h1, h2, h3, h4⟩ := h.first hw hp
  obtain ⟨h5, h6⟩ := left_no h3
  have hsz := szV_rng hq h2
  have hin : inAt s.inn i = -1 := by
    rcases h.rng i h2 with e | e
    · exact e
    · have := hq.o; omega
  have hpas : pasV (begS q.gs i s) = i := by
    show (bif decide (0 < szV q.gs i) then s.ws.headD (-1) else -1) = i
    rw [decide_eq_true (by omega), hw]; rfl
  refine ⟨⟨by show 0 ≤ szV q.gs i; omega, h.len, h.rng, fun _ => ⟨i, t, hw, h2, (wait_at h4).1, hin⟩, ?_⟩, by omega⟩
  have hf : firstN (begS q.gs i s) = 1 := by
    show (bif decide (0 < szV q.gs i) then 1 else 0) = 1
    rw [decide_eq_true (by omega)]; rfl
  have hps : pasV s = -1 := by unfold pasV; rw [hp]; rfl
  rw [hf]
  show s.ws.drop 1 = _
  rw [hw]
  refine filter_tail (p' := fun j => !leftV (begS q.gs i s) j && waitV q.gs m j) (srt_nodup (ordV_srt hq)) h1 fun x hx => ?_
  have hx0 := ordV_mem.1 hx
  unfold leftV
  rw [hpas, hps]
  show (!(decide (0 ≤ inAt s.inn x) || decide (x = i)) && waitV q.gs m x) = ((!(decide (0 ≤ inAt s.inn x) || decide (x = -1)) && waitV q.gs m x) && !decide (x = i))
  rw [decide_eq_false (p := x = -1) (by omega)]
  cases decide (0 ≤ inAt s.inn x) <;> cases decide (x = i) <;> cases waitV q.gs m x <;> rfl
theorem wt_adv {q : Qu} (hq : q.Ok) {m r : Int} {s : Cr} {i : Int} {t : List Int} (h : Wt q m s) (ho : q.opn ≤ m) (hr : 0 < r) (hw : s.ws = i :: t) (hp : 0 < s.passing) : Wt q m (advS m r i t s) := by
  obtain ⟨i', t', hw', h2, h3, h4⟩ := h.hd hp
  rw [hw] at hw'
  obtain ⟨rfl, rfl⟩ := List.cons.inj hw'
  have hf : firstN s = 1 := by unfold firstN; rw [decide_eq_true hp]; rfl
  have hps : pasV s = i := by unfold pasV; rw [decide_eq_true hp, hw]; rfl
  have hrest := h.rest
  rw [hf, hw] at hrest
  have hlen := h.len
  have hopn := hq.o
  unfold advS
  cases hz : decide (s.passing - min r s.passing = 0)
  · have hz' := of_decide_eq_false hz
    have hpp : 0 < s.passing - min r s.passing := by omega
    have hf' : firstN { s with passing := s.passing - min r s.passing } = 1 := by
      unfold firstN; rw [decide_eq_true hpp]; rfl
    have hps' : pasV { s with passing := s.passing - min r s.passing } = i := by
      unfold pasV; rw [decide_eq_true hpp]; show s.ws.headD (-1) = i; rw [hw]; rfl
    refine ⟨by show 0 ≤ s.passing - min r s.passing; omega, hlen, h.rng, fun _ => ⟨i, t, hw, h2, h3, h4⟩, ?_⟩
    simp only [cond_false]
    rw [hf']
    show s.ws.drop 1 = _
    rw [show s.ws.drop 1 = t by rw [hw]; rfl]
    refine hrest.trans (List.filter_congr fun x hx => ?_)
    unfold leftV
    rw [hps, hps']
  · have hz' := of_decide_eq_true hz
    simp only [cond_true]
    have hps' : pasV ⟨s.free, s.passing - min r s.passing, t, s.inn.set i.toNat m⟩ = -1 := by
      unfold pasV; rw [decide_eq_false (by show ¬ (0 < s.passing - min r s.passing); omega)]; rfl
    have hf' : firstN ⟨s.free, s.passing - min r s.passing, t, s.inn.set i.toNat m⟩ = 0 := by
      unfold firstN; rw [decide_eq_false (by show ¬ (0 < s.passing - min r s.passing); omega)]; rfl
    refine ⟨by show 0 ≤ s.passing - min r s.passing; omega, by simp [hlen], fun j hj => ?_, fun hpp => ?_, ?_⟩
    · rw [inAt_set (by omega) (by omega)]
      by_cases e : j = i
      · subst e
        rw [decide_eq_true rfl]; right; simp only [cond_true]; omega
      · rw [decide_eq_false e]; exact h.rng j hj
    · have : 0 < s.passing - min r s.passing := hpp
      omega
    · rw [hf', List.drop_zero]
      show t = _
      refine hrest.trans (List.filter_congr fun x hx => ?_)
      have hx0 := ordV_mem.1 hx
      unfold leftV
      rw [hps, hps']
      show (!(decide (0 ≤ inAt s.inn x) || decide (x = i)) && _) = (!(decide (0 ≤ inAt (s.inn.set i.toNat m) x) || decide (x = -1)) && _)
      rw [inAt_set (by omega) (by omega), decide_eq_false (p := x = -1) (by omega)]
      by_cases e : x = i
      · subst e
        rw [decide_eq_true rfl]
        simp only [cond_true]
        rw [decide_eq_true (p := 0 ≤ m) (by omega)]
        simp
      · rw [decide_eq_false e]; rfl
theorem at_eq {gs : List Pt} {i : Int} {g : Pt} (h : gs[i.toNat]? = some g) : atV gs i = g.at_ := by rw [atV, h]
theorem quit_eq {gs : List Pt} {i : Int} {g : Pt} (h : gs[i.toNat]? = some g) : quitV gs i = g.quits := by rw [quitV, h]
theorem gone_wait {q : Qu} (hq : q.Ok) {m i : Int} (hm : -1 ≤ m) (hi : 0 ≤ i ∧ i < q.gs.length) : (waitV q.gs m i && !goneV q.gs (m + 1) i) = (waitV q.gs (m + 1) i && decide (atV q.gs i ≤ m)) ∧ arrV q.gs (m + 1) i = (waitV q.gs (m + 1) i && !decide (atV q.gs i ≤ m)) := by
  obtain ⟨g, hg, h1, h2, h3, h4⟩ := pt_at hq hi
  unfold waitV arrV goneV
  rw [at_eq hg, quit_eq hg, hg]
  simp only
  have e1 : win g.quits 0 (m + 1) = decide (0 ≤ g.quits ∧ g.quits ≤ m + 1) := by simp [win]
  rw [e1]
  constructor <;> (rw [Bool.eq_iff_iff]; simp only [Bool.and_eq_true, Bool.or_eq_true, Bool.not_eq_true', decide_eq_true_eq, decide_eq_false_iff_not]; omega)
theorem wt_join {q : Qu} (hq : q.Ok) {m : Int} (hm : -1 ≤ m) {s : Cr} (h : Wt q m s) : Wt q (m + 1) (joinV q.gs (ordV q) (m + 1) (freedV q (m + 1) s)) := by
  have hfr : firstN (freedV q (m + 1) s) = firstN s := rfl
  have hkept : keptV q.gs (m + 1) (freedV q (m + 1) s) = s.ws.take (firstN s) ++ (s.ws.drop (firstN s)).filter fun i => !goneV q.gs (m + 1) i := rfl
  have hlenf : (s.ws.take (firstN s)).length = firstN s := by
    rw [List.length_take]
    have : firstN s ≤ s.ws.length := by
      unfold firstN
      by_cases hp : 0 < s.passing
      · obtain ⟨i, t, hw, -⟩ := h.hd hp
        rw [decide_eq_true hp, hw]; simp
      · rw [decide_eq_false hp]; exact Nat.zero_le _
    omega
  have hpas : pasV (joinV q.gs (ordV q) (m + 1) (freedV q (m + 1) s)) = pasV s := by
    unfold pasV
    show (bif decide (0 < s.passing) then (keptV q.gs (m + 1) (freedV q (m + 1) s) ++ _).headD (-1) else -1) = _
    by_cases hp : 0 < s.passing
    · obtain ⟨i, t, hw, -⟩ := h.hd hp
      have hf : firstN s = 1 := by unfold firstN; rw [decide_eq_true hp]; rfl
      rw [decide_eq_true hp, hkept, hf, hw]; rfl
    · rw [decide_eq_false hp]; rfl
  refine ⟨h.p, h.len, fun i hi => ?_, fun hp => ?_, ?_⟩
  · rcases h.rng i hi with e | ⟨e1, e2, e3⟩
    · exact .inl e
    · right
      refine ⟨e1, e2, ?_⟩
      show inAt s.inn i ≤ m + 1
      omega
  · obtain ⟨i, t, hw, h2, h3, h4⟩ := h.hd hp
    have hf : firstN s = 1 := by unfold firstN; rw [decide_eq_true (show 0 < s.passing from hp)]; rfl
    refine ⟨i, (t.filter fun i => !goneV q.gs (m + 1) i) ++ (ordV q).filter (arrV q.gs (m + 1)), ?_, h2, by omega, h4⟩
    show keptV q.gs (m + 1) (freedV q (m + 1) s) ++ _ = _
    rw [hkept, hf, hw]; rfl
  · show (keptV q.gs (m + 1) (freedV q (m + 1) s) ++ (ordV q).filter (arrV q.gs (m + 1))).drop (firstN s) = _
    rw [hkept, List.append_assoc, List.drop_append_of_le_length (by omega), List.drop_of_length_le (by omega), List.nil_append, h.rest, List.filter_filter]
    have hsp := filter_split (fun i => !leftV (joinV q.gs (ordV q) (m + 1) (freedV q (m + 1) s)) i && waitV q.gs (m + 1) i) (fun i => decide (atV q.gs i ≤ m)) (l := ordV q) (by
      refine List.Pairwise.imp_of_mem ?_ (ordV_srt hq)
      intro a b ha hb hab hqb
      have := key_at hq (ordV_mem.1 ha) (ordV_mem.1 hb) hab
      have := of_decide_eq_true hqb
      exact decide_eq_true (by omega))
    rw [hsp]
    congr 1
    · refine List.filter_congr fun x hx => ?_
      have hx0 := ordV_mem.1 hx
      obtain ⟨g1, g2⟩ := gone_wait hq hm hx0
      have hl : leftV (joinV q.gs (ordV q) (m + 1) (freedV q (m + 1) s)) x = leftV s x := by unfold leftV; rw [hpas]; rfl
      rw [hl]
      have : (!leftV s x && waitV q.gs (m + 1) x && decide (atV q.gs x ≤ m)) = (!leftV s x && (waitV q.gs (m + 1) x && decide (atV q.gs x ≤ m))) := Bool.and_assoc ..
      rw [this, ← g1]
      cases !leftV s x <;> cases waitV q.gs m x <;> cases goneV q.gs (m + 1) x <;> rfl
    · refine List.filter_congr fun x hx => ?_
      have hx0 := ordV_mem.1 hx
      obtain ⟨g1, g2⟩ := gone_wait hq hm hx0
      have hl : leftV (joinV q.gs (ordV q) (m + 1) (freedV q (m + 1) s)) x = leftV s x := by unfold leftV; rw [hpas]; rfl
      rw [hl, g2]
      by_cases ha : atV q.gs x ≤ m
      · rw [decide_eq_true ha]; simp
      · have hn : leftV s x = false := by
          unfold leftV
          rw [Bool.or_eq_false_iff]
          constructor
          · refine decide_eq_false fun hc => ?_
            rcases h.rng x hx0 with e | ⟨e1, e2, e3⟩ <;> omega
          · refine decide_eq_false fun hc => ?_
            unfold pasV at hc
            by_cases hp : 0 < s.passing
            · obtain ⟨i, t, hw, h2, h3, h4⟩ := h.hd hp
              rw [decide_eq_true hp, hw] at hc
              obtain rfl : x = i := hc
              omega
            · rw [decide_eq_false hp] at hc
              have : x = -1 := hc
              omega
        rw [hn]; rfl
theorem wt_open {q : Qu} (hq : q.Ok) (more : Int) : Wt q (-1) (open0 q more) := by
  refine ⟨Int.le_refl _, by simp [open0], fun i hi => .inl ?_, fun hp => absurd hp (by simp [open0]), ?_⟩
  · show (List.replicate q.gs.length (-1)).getD i.toNat 0 = -1
    rw [List.getD_eq_getElem?_getD, List.getElem?_replicate, if_pos (by omega)]; rfl
  · show ([] : List Int).drop _ = _
    rw [List.drop_nil]
    refine (List.filter_eq_nil_iff.2 fun x hx => ?_).symm
    have hx0 := ordV_mem.1 hx
    obtain ⟨g, hg, h1, h2, -⟩ := pt_at hq hx0
    have : waitV q.gs (-1) x = false := by
      unfold waitV
      rw [at_eq hg, decide_eq_false (by omega)]; rfl
    rw [this]; simp
theorem run_wt {q : Qu} (hq : q.Ok) {rate more : Int} (hr : 0 ≤ rate) (k : Nat) : Wt q ((k : Int) - 1) (runTo q rate more k) :=
  run_ind hr (I := fun m _ s => Wt q m s) (fun _ _ _ h => h.p) (wt_open hq more) (fun m s hm h => wt_join hq hm h) (fun m r s i t h _ hr hw hp _ => wt_beg hq h hw hp) (fun m r s i t h ho hr hw hp => wt_adv hq h ho hr hw hp) (fun _ _ _ h _ _ => h) k
end Go.Proofs.Ytbcclgfobiholaa
