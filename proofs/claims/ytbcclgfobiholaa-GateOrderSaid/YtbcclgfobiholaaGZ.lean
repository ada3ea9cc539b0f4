/- Seats that are enough. Plain; and the walks of Copy and last. -/
import Derived.Test.YtbcclgfobiholaaGW
import Derived.Test.YtbcclgfobiholaaGT
namespace Go.Proofs.Ytbcclgfobiholaa
open Go Go.RowKit

def moreQ (q : Qu) (n : Int) : Qu := ⟨q.opn, q.lo, q.hi, q.seats + n, q.gs, q.fs⟩
theorem more_run (q : Qu) (rate n : Int) : ∀ k, runTo (moreQ q n) rate 0 k = runTo q rate n k
  | 0 => by
    show open0 (moreQ q n) 0 = open0 q n
    unfold open0
    congr 1
    show q.seats + n + 0 = _
    omega
  | k + 1 => by
    rw [runTo, runTo, more_run q rate n k]; rfl
theorem more_sureTo (q : Qu) (i n : Int) : ∀ K, sureTo (moreQ q n) i 0 K = sureTo q i n K
  | 0 => rfl
  | K + 1 => by
    have h : inI (moreQ q n) 0 K i = inI q n K i := by
      unfold inI runV
      rw [show (moreQ q n).lo = q.lo from rfl, more_run]
    rw [sureTo, sureTo, more_sureTo q i n K, h]
theorem more_sure (q : Qu) (i n : Int) : sureV (moreQ q n) i 0 = sureV q i n := more_sureTo q i n _
theorem more_ok {q : Qu} (h : qOk q = true) {n : Int} (hn : 0 ≤ q.seats + n ∧ q.seats + n ≤ 9999) : qOk (moreQ q n) = true := by
  unfold qOk headOk at h ⊢
  simp only [Bool.and_eq_true] at h ⊢
  refine ⟨⟨⟨⟨⟨h.1.1.1.1.1, win_iff.2 hn⟩, h.1.1.1.2⟩, h.1.1.2⟩, h.1.2⟩, h.2⟩
theorem insNTo_le {q : Qu} (hq : q.Ok) (m : Int) (inn : List Int) (hl : inn.length = q.gs.length) : ∀ k, k ≤ inn.length → insNTo q.gs m inn k ≤ pplTo q.gs k
  | 0, _ => by simp [insNTo, pplTo]
  | k + 1, hk => by
    have hx : inn[k]? = some inn[k] := List.getElem?_eq_getElem (by omega)
    have hg : q.gs[k]? = some (q.gs[k]'(by omega)) := List.getElem?_eq_getElem (by omega)
    have hsz : szV q.gs k = (q.gs[k]'(by omega)).size := by rw [szV, Int.toNat_natCast, hg]
    have hgr := pt_rng (hq.pt _ (List.mem_of_getElem? hg))
    have ih := insNTo_le hq m inn hl k (by omega)
    rw [insNTo_succ hx, pplTo_succ hg, hsz]
    cases win inn[k] 0 m <;> simp only [cond_true, cond_false] <;> omega
/-- Who is not in fits beside those who are. -/
theorem ins_room {q : Qu} (hq : q.Ok) {m : Int} (hm : 0 ≤ m) {inn : List Int} (hl : inn.length = q.gs.length) {i : Int} (hi : 0 ≤ i ∧ i < q.gs.length) (hn : inAt inn i = -1) : insN q m inn + szV q.gs i ≤ pplV q.gs := by
  have h1 := insN_set (u := m) (v := m) hl hi hn
  rw [win_iff.2 ⟨hm, Int.le_refl _⟩, cond_true] at h1
  rw [← h1]
  have := insNTo_le hq m (inn.set i.toNat m) (by simp [hl]) _ (Nat.le_refl _)
  unfold insN pplV
  rw [List.length_set, hl] at this ⊢
  exact this
theorem ac_fits {q : Qu} (hq : q.Ok) {rate more m r : Int} {s : Cr} {i : Int} {t : List Int} (h : Ac q rate more m r s) (ho : q.opn ≤ m) (he : pplV q.gs ≤ q.seats + more) (hw : s.ws = i :: t) (hp : s.passing = 0) : szV q.gs i ≤ s.free := by
  obtain ⟨hf, h2, h3, h4⟩ := h.w.first hw hp
  have hn := in_neg hq h.w h2 (by have := (left_no h3).1; omega)
  have hqo := hq.o
  have h5 := ins_room hq (m := m) (by omega) h.w.len h2 hn
  have h6 := h.seats
  rw [hold_zero hp] at h6
  have h7 := (frsTo_rng hq m q.fs.length (Nat.le_refl _)).1
  unfold frsV at h6
  omega
/-- A crowd with more free seats. -/
def upS (s : Cr) (d : Int) : Cr := { s with free := s.free + d }
theorem pass_up {q : Qu} (hq : q.Ok) {rate more m : Int} (ho : q.opn ≤ m) (he : pplV q.gs ≤ q.seats + more) {d : Int} (hd : 0 ≤ d) : ∀ (f : Nat) (r : Int) (s : Cr), Ac q rate more m r s → passV q.gs m f r (upS s d) = upS (passV q.gs m f r s) d
  | 0, r, s, _ => rfl
  | f + 1, r, s, h => by
    cases hw : s.ws with
    | nil => rw [passV_stop (.inr hw), passV_stop (.inr (show (upS s d).ws = [] from hw))]
    | cons i t =>
      have hw' : (upS s d).ws = i :: t := hw
      by_cases hr : 0 < r
      · have hp0 := h.w.p
        by_cases hp : s.passing = 0
        · have hfit := ac_fits hq h ho he hw hp
          have hst : stopV q.gs i s = false := by unfold stopV; rw [decide_eq_false (p := s.free < szV q.gs i) (by omega), Bool.and_false]
          have hst' : stopV q.gs i (upS s d) = false := by
            unfold stopV
            rw [decide_eq_false (p := (upS s d).free < szV q.gs i) (by show ¬ (s.free + d < szV q.gs i); omega), Bool.and_false]
          have hA := ac_beg hq h hw hp hfit
          obtain ⟨-, hpos⟩ := wt_beg hq h.w hw hp
          have hA2 := ac_adv hq hA ho hr hw hpos
          obtain ⟨e1, e2⟩ := passOne_beg (minute := m) (rate := r) (t := t) (gs := q.gs) (i := i) hp
          obtain ⟨e1', e2'⟩ := passOne_beg (minute := m) (rate := r) (t := t) (gs := q.gs) (i := i) (s := upS s d) hp
          rw [passV_go hw hr hst, passV_go hw' hr hst', e1, e2, e1', e2']
          have hb : begS q.gs i (upS s d) = upS (begS q.gs i s) d := by
            unfold begS upS
            congr 1
            show s.free + d - szV q.gs i = s.free - szV q.gs i + d
            omega
          have ha : advS m r i t (upS (begS q.gs i s) d) = upS (advS m r i t (begS q.gs i s)) d := by
            unfold advS upS
            dsimp only
            cases decide ((begS q.gs i s).passing - min r (begS q.gs i s).passing = 0) <;> rfl
          rw [hb, ha]
          exact pass_up hq ho he hd f _ _ hA2
        · have hst : stopV q.gs i s = false := by unfold stopV; rw [decide_eq_false hp]; rfl
          have hst' : stopV q.gs i (upS s d) = false := by unfold stopV; rw [decide_eq_false (p := (upS s d).passing = 0) hp]; rfl
          have hA2 := ac_adv hq h ho hr hw (by omega)
          obtain ⟨e1, e2⟩ := passOne_adv (minute := m) (rate := r) (t := t) (gs := q.gs) (i := i) hp
          obtain ⟨e1', e2'⟩ := passOne_adv (minute := m) (rate := r) (t := t) (gs := q.gs) (i := i) (s := upS s d) hp
          rw [passV_go hw hr hst, passV_go hw' hr hst', e1, e2, e1', e2']
          have ha : advS m r i t (upS s d) = upS (advS m r i t s) d := by
            unfold advS upS
            dsimp only
            cases decide (s.passing - min r s.passing = 0) <;> rfl
          rw [ha]
          exact pass_up hq ho he hd f _ _ hA2
      · rw [passV_stop (.inl (by omega)), passV_stop (.inl (by omega))]
theorem run_up {q : Qu} (hq : q.Ok) {rate more d : Int} (hr : 0 ≤ rate) (hm : 0 ≤ more) (hd : 0 ≤ d) (he : pplV q.gs ≤ q.seats + more) : ∀ k : Nat, runTo q rate (more + d) k = upS (runTo q rate more k) d
  | 0 => by
    show open0 q (more + d) = upS (open0 q more) d
    unfold open0 upS
    congr 1
    show q.seats + (more + d) = q.seats + more + d
    omega
  | k + 1 => by
    have ih := run_up hq hr hm hd he k
    have hac := run_ac hq hr hm k (more := more)
    have hj := ac_join hq hr (by omega) hac
    rw [show ((k : Int) - 1 + 1) = k by omega] at hj
    rw [runTo, runTo, ih]
    have hup : joinV q.gs (ordV q) k (freedV q k (upS (runTo q rate more k) d)) = upS (joinV q.gs (ordV q) k (freedV q k (runTo q rate more k))) d := by
      unfold joinV freedV upS keptV firstN
      dsimp only
      congr 1
      omega
    unfold minuteV
    rw [hup]
    cases ho : decide (q.opn ≤ (k : Int))
    · rfl
    · rw [ho] at hj
      exact pass_up hq (of_decide_eq_true ho) he hd _ _ _ hj
theorem sure_up {q : Qu} (hq : q.Ok) {i more d : Int} (hm : 0 ≤ more) (hd : 0 ≤ d) (he : pplV q.gs ≤ q.seats + more) : sureV q i (more + d) = sureV q i more := by
  have hr := hq.r
  unfold sureV
  suffices h : ∀ K, sureTo q i (more + d) K = sureTo q i more K from h _
  intro K
  induction K with
  | zero => rfl
  | succ K ih =>
    have hI : inI q (more + d) K i = inI q more K i := by
      unfold inI runV
      rw [run_up hq (by omega) hm hd he]; rfl
    rw [sureTo, sureTo, ih, hI]
/-! #### everyone gets in -/
def lastTo (q : Qu) : Nat → Int
  | 0 => q.opn
  | k + 1 => match q.gs[k]? with
    | some g => max (lastTo q k) g.at_
    | none => lastTo q k
def lastV (q : Qu) : Int := lastTo q q.gs.length
theorem lastTo_succ {q : Qu} {k : Nat} {g : Pt} (h : q.gs[k]? = some g) : lastTo q (k + 1) = max (lastTo q k) g.at_ := by rw [lastTo, h]
theorem lastTo_ge {q : Qu} : ∀ k, k ≤ q.gs.length → q.opn ≤ lastTo q k ∧ ∀ j : Nat, j < k → atV q.gs j ≤ lastTo q k
  | 0, _ => ⟨Int.le_refl _, fun j hj => by omega⟩
  | k + 1, hk => by
    have hg : q.gs[k]? = some q.gs[k] := List.getElem?_eq_getElem (by omega)
    obtain ⟨h1, h2⟩ := lastTo_ge (q := q) k (by omega)
    rw [lastTo_succ hg]
    refine ⟨by omega, fun j hj => ?_⟩
    by_cases e : j = k
    · subst e
      rw [at_eq (g := q.gs[j]) (by rw [Int.toNat_natCast]; exact hg)]; omega
    · have := h2 j (by omega); omega
theorem lastTo_rng {q : Qu} (hq : q.Ok) : ∀ k, k ≤ q.gs.length → 0 ≤ lastTo q k ∧ lastTo q k ≤ 1440
  | 0, _ => hq.o
  | k + 1, hk => by
    have hg : q.gs[k]? = some q.gs[k] := List.getElem?_eq_getElem (by omega)
    have ih := lastTo_rng hq k (by omega)
    have hgr := pt_rng (hq.pt _ (List.mem_of_getElem? hg))
    rw [lastTo_succ hg]; omega
/-- How many have passed. -/
def doneV (q : Qu) (m : Int) (s : Cr) : Int := insN q m s.inn + (holdV q s - s.passing)
structure Dn (q : Qu) (rate more m r : Int) (s : Cr) : Prop where
  ac : Ac q rate more m r s
  d : lastV q ≤ m → s.ws = [] ∨ m - lastV q + 1 ≤ doneV q m s + r
theorem dn_adv {q : Qu} (hq : q.Ok) {rate more m r : Int} {s : Cr} {i0 : Int} {t : List Int} (h : Dn q rate more m r s) (ho : q.opn ≤ m) (hr : 0 < r) (hw : s.ws = i0 :: t) (hp : 0 < s.passing) : Dn q rate more m (r - min r s.passing) (advS m r i0 t s) := by
  refine ⟨ac_adv hq h.ac ho hr hw hp, fun hl => ?_⟩
  obtain ⟨h2, h3, h4⟩ := head_eq h.ac.w hp hw
  have hho : holdV q s = szV q.gs i0 := hold_pos hp hw
  have hqo := hq.o
  rcases h.d hl with e | e
  · rw [hw] at e; cases e
  · right
    unfold doneV at e ⊢
    rw [hho] at e
    rcases adv_cases m r i0 t s with ⟨e0, e1⟩ | ⟨e0, e1⟩
    · rw [e1]
      have hz : holdV q ⟨s.free, 0, t, s.inn.set i0.toNat m⟩ = 0 := hold_zero rfl
      have hm : insN q m (s.inn.set i0.toNat m) = insN q m s.inn + szV q.gs i0 := by rw [insN_set h.ac.w.len h2 h4, win_iff.2 ⟨by omega, Int.le_refl _⟩]; rfl
      rw [hz]
      show _ ≤ insN q m (s.inn.set i0.toNat m) + (0 - 0) + _
      omega
    · rw [e1]
      have hpp : 0 < s.passing - min r s.passing := by omega
      have hz : holdV q ⟨s.free, s.passing - min r s.passing, s.ws, s.inn⟩ = szV q.gs i0 := hold_pos (t := t) hpp hw
      rw [hz]
      show _ ≤ insN q m s.inn + (szV q.gs i0 - (s.passing - min r s.passing)) + _
      omega
theorem arr_none {q : Qu} {m : Int} (hm : lastV q ≤ m) : (ordV q).filter (arrV q.gs (m + 1)) = [] := by
  refine List.filter_eq_nil_iff.2 fun x hx => ?_
  have hx0 := ordV_mem.1 hx
  have h := (lastTo_ge (q := q) q.gs.length (Nat.le_refl _)).2 x.toNat (by omega)
  rw [Int.toNat_of_nonneg hx0.1] at h
  unfold lastV at hm
  unfold arrV
  unfold atV at h
  cases hg : q.gs[x.toNat]? with
  | none => simp
  | some g =>
    rw [hg] at h
    simp only at h ⊢
    rw [decide_eq_false (by omega)]; simp
theorem run_dn {q : Qu} (hq : q.Ok) {rate more : Int} (hr : 1 ≤ rate) (hm : 0 ≤ more) (he : pplV q.gs ≤ q.seats + more) (k : Nat) : Dn q rate more ((k : Int) - 1) 0 (runTo q rate more k) := by
  have hlo := (lastTo_ge (q := q) q.gs.length (Nat.le_refl _)).1
  have hlo' : q.opn ≤ lastV q := hlo
  have hqo := hq.o
  refine And.left (b := -1 ≤ (k : Int) - 1) (run_ind (more := more) (by omega) (I := fun m r s => Dn q rate more m r s ∧ -1 ≤ m) (fun _ _ _ h => h.1.ac.w.p) ⟨⟨?_, fun hl => by omega⟩, by omega⟩ (fun m s hm1 h => ⟨⟨ac_join hq (by omega) hm1 h.1.ac, fun hl => ?_⟩, by omega⟩)
    (fun m r s i t h ho hr hw hp hf => ?_) (fun m r s i t h ho hr hw hp => ⟨dn_adv hq h.1 ho hr hw hp, h.2⟩) (fun m r s h h0 hh => ⟨⟨?_, fun hl => ?_⟩, h.2⟩) k)
  · have := run_ac hq (rate := rate) (by omega) hm 0
    exact this
  · rw [decide_eq_true (by omega)]
    have hdone : doneV q (m + 1) (joinV q.gs (ordV q) (m + 1) (freedV q (m + 1) s)) = doneV q m s := by
      unfold doneV holdV
      rw [join_pas h.1.ac.w]
      show insN q (m + 1) s.inn + _ = _
      rw [insN_next h.1.ac.w]; rfl
    rw [hdone]
    have hd0 : 0 ≤ doneV q m s := by
      unfold doneV
      have h5 : 0 ≤ holdV q s - s.passing := by
        unfold holdV
        by_cases hp : 0 < s.passing
        · have := h.1.ac.p hp; rw [decide_eq_true hp]; simp only [cond_true]; omega
        · have := h.1.ac.w.p; rw [decide_eq_false hp]; simp only [cond_false]; omega
      have h6 : 0 ≤ insN q m s.inn := (insNTo_rng hq m s.inn (by have := h.1.ac.w.len; omega) _ (Nat.le_refl _)).1
      omega
    by_cases e : lastV q ≤ m
    · rcases h.1.d e with e1 | e1
      · left
        show keptV q.gs (m + 1) (freedV q (m + 1) s) ++ (ordV q).filter (arrV q.gs (m + 1)) = []
        rw [arr_none e, List.append_nil]
        show s.ws.take (firstN s) ++ (s.ws.drop (firstN s)).filter (fun i => !goneV q.gs (m + 1) i) = []
        rw [e1]; simp
      · right; show _ ≤ _ + rate; omega
    · right; show _ ≤ _ + rate; omega
  · obtain ⟨hW, hpos⟩ := wt_beg hq h.1.ac.w hw hp
    refine ⟨⟨⟨ac_beg hq h.1.ac hw hp hf, fun hl => ?_⟩, h.2⟩, hpos⟩
    rcases h.1.d hl with e | e
    · rw [hw] at e; cases e
    · right
      unfold doneV at e ⊢
      have hho : holdV q (begS q.gs i s) = szV q.gs i := hold_pos (t := t) hpos hw
      rw [hho]
      rw [hold_zero hp] at e
      show _ ≤ insN q m s.inn + (szV q.gs i - szV q.gs i) + r
      omega
  · exact ⟨h.1.ac.w, Int.le_refl _, h.1.ac.fr, h.1.ac.p, h.1.ac.seats, by have := h.1.ac.bud; omega, h.1.ac.hist⟩
  · rcases h.1.d hl with e | e
    · exact .inl e
    · rcases hh with e0 | e0 | ⟨i, t, hw, hp, hlt⟩
      · subst e0; exact .inr e
      · exact .inl e0
      · have := ac_fits hq h.1.ac (by omega) he hw hp
        omega
theorem all_in {q : Qu} (hq : q.Ok) {rate more : Int} (hr : 1 ≤ rate) (hm : 0 ≤ more) (he : pplV q.gs ≤ q.seats + more) (ht : pplV q.gs ≤ 1440 - lastV q + 1) {i : Int} (hi : 0 ≤ i ∧ i < q.gs.length) (hqt : quitV q.gs i = -1) : 0 ≤ inAt (runV q rate more) i := by
  have h := run_dn hq hr hm he 1441
  rw [show (((1441 : Nat) : Int) - 1) = 1440 by rfl] at h
  have hl : lastV q ≤ 1440 := (lastTo_rng hq _ (Nat.le_refl _)).2
  have hW := h.ac.w
  have hws : (runTo q rate more 1441).ws = [] := by
    rcases h.d hl with e | e
    · exact e
    · cases hw : (runTo q rate more 1441).ws with
      | nil => rfl
      | cons j t =>
        exfalso
        unfold doneV at e
        by_cases hp0 : 0 < (runTo q rate more 1441).passing
        · obtain ⟨h2, h3, h4⟩ := head_eq hW hp0 hw
          have := ins_room hq (m := 1440) (by omega) hW.len h2 h4
          rw [hold_pos hp0 hw] at e
          omega
        · have hp1 : (runTo q rate more 1441).passing = 0 := by have := hW.p; omega
          obtain ⟨hf, h2, h3, h4⟩ := hW.first hw hp1
          have hn := in_neg hq hW h2 (by have := (left_no h3).1; omega)
          have := ins_room hq (m := 1440) (by omega) hW.len h2 hn
          have hsz := szV_rng hq h2
          rw [hold_zero hp1] at e
          omega
  have hrest := hW.rest
  rw [hws, List.drop_nil] at hrest
  have hmem := List.filter_eq_nil_iff.1 hrest.symm i (ordV_mem.2 hi)
  obtain ⟨g, hg, g1, g2, -⟩ := pt_at hq hi
  have hwt : waitV q.gs 1440 i = true := by
    unfold waitV
    rw [hqt, at_eq hg, decide_eq_true (by omega)]; rfl
  rw [hwt, Bool.and_true] at hmem
  have hlf : leftV (runTo q rate more 1441) i = true := by
    cases hb : leftV (runTo q rate more 1441) i
    · rw [hb] at hmem; exact absurd rfl hmem
    · rfl
  have hps : pasV (runTo q rate more 1441) = -1 := by
    by_cases hp0 : 0 < (runTo q rate more 1441).passing
    · obtain ⟨i', t', hw', _⟩ := hW.hd hp0
      rw [hws] at hw'; cases hw'
    · unfold pasV; rw [decide_eq_false hp0]; rfl
  unfold leftV at hlf
  rw [hps, decide_eq_false (p := i = -1) (by omega), Bool.or_false] at hlf
  exact of_decide_eq_true hlf
end Go.Proofs.Ytbcclgfobiholaa
