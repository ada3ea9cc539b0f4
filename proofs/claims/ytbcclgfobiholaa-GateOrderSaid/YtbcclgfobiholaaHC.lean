/- The order in which groups and frees are given changes nothing. Plain. -/
import Derived.Test.YtbcclgfobiholaaGX
namespace Go.Proofs.Ytbcclgfobiholaa
open Go Go.RowKit

/-! #### frees -/
def frL (m : Int) : List Fe → Int
  | [] => 0
  | f :: t => (bif decide (f.1 = m) then f.2 else 0) + frL m t
theorem frL_app (m : Int) (xs ys : List Fe) : frL m (xs ++ ys) = frL m xs + frL m ys := by
  induction xs with
  | nil => simp [frL]
  | cons x xs ih => rw [List.cons_append, frL, frL, ih]; omega
theorem freeTo_frL (fs : List Fe) (m : Int) : ∀ k, k ≤ fs.length → freeTo fs m k = frL m (fs.take k)
  | 0, _ => by simp [freeTo, frL]
  | k + 1, hk => by
    have hf : fs[k]? = some fs[k] := List.getElem?_eq_getElem (by omega)
    rw [freeTo_succ hf, freeTo_frL fs m k (by omega), List.take_add_one, hf, frL_app]
    show _ = _ + ((bif decide (fs[k].1 = m) then fs[k].2 else 0) + 0)
    omega
theorem freeAll_frL (fs : List Fe) (m : Int) : freeAll fs m = frL m fs := by
  rw [freeAll, freeTo_frL fs m _ (Nat.le_refl _), List.take_length]
theorem frL_rev (m : Int) : ∀ xs : List Fe, frL m xs.reverse = frL m xs
  | [] => rfl
  | x :: xs => by
    rw [List.reverse_cons, frL_app, frL_rev m xs, frL, frL, frL]; omega
/-- The last one divided. -/
def splitV (fs : List Fe) : List Fe := match fs.getLast? with
  | none => fs
  | some f => bif decide (0 < f.2) then fs.dropLast ++ [(f.1, f.2 - 1), (f.1, 1)] else fs
theorem frL_split (m : Int) (fs : List Fe) : frL m (splitV fs) = frL m fs := by
  unfold splitV
  cases h : fs.getLast? with
  | none => rfl
  | some f =>
    have hd : fs = fs.dropLast ++ [f] := by
      obtain ⟨ys, rfl⟩ := List.getLast?_eq_some_iff.1 h
      simp
    dsimp only
    cases decide (0 < f.2)
    · rfl
    · show frL m (fs.dropLast ++ [(f.1, f.2 - 1), (f.1, 1)]) = _
      conv => rhs; rw [hd]
      rw [frL_app, frL_app, frL, frL, frL, frL, frL]
      cases decide (f.1 = m) <;> simp only [cond_true, cond_false] <;> omega
/-! #### groups -/
def rotV (gs : List Pt) (k : Nat) : List Pt := gs.drop k ++ gs.take k
theorem rot_len {gs : List Pt} {k : Nat} (hk : k ≤ gs.length) : (rotV gs k).length = gs.length := by simp [rotV]; omega
def sgV (n k : Nat) (j : Int) : Int := (((j.toNat + k) % n : Nat) : Int)
theorem rot_at {gs : List Pt} {k : Nat} (hk : k < gs.length) {j : Nat} (hj : j < gs.length) : (rotV gs k)[j]? = gs[(j + k) % gs.length]? := by
  unfold rotV
  by_cases h : j < gs.length - k
  · rw [List.getElem?_append_left (by simp; omega), List.getElem?_drop, Nat.mod_eq_of_lt (by omega), Nat.add_comm]
  · rw [List.getElem?_append_right (by simp; omega), List.length_drop, List.getElem?_take, if_pos (by omega)]
    have : (j + k) % gs.length = j - (gs.length - k) := by
      rw [Nat.mod_eq_sub_mod (by omega), Nat.mod_eq_of_lt (by omega)]; omega
    rw [this]
theorem sg_rng {n k : Nat} (hn : 0 < n) (j : Int) : 0 ≤ sgV n k j ∧ sgV n k j < n := by
  unfold sgV
  have := Nat.mod_lt (j.toNat + k) hn
  omega
theorem sg_inj {n k : Nat} (hk : k < n) {i j : Int} (hi : 0 ≤ i ∧ i < n) (hj : 0 ≤ j ∧ j < n) (h : sgV n k i = sgV n k j) : i = j := by
  unfold sgV at h
  have h' : (i.toNat + k) % n = (j.toNat + k) % n := by omega
  have e : ∀ a : Nat, a < n → (a + k) % n = if a + k < n then a + k else a + k - n := fun a ha => by
    by_cases hc : a + k < n
    · rw [if_pos hc, Nat.mod_eq_of_lt hc]
    · rw [if_neg hc, Nat.mod_eq_sub_mod (by omega), Nat.mod_eq_of_lt (by omega)]
  rw [e _ (by omega), e _ (by omega)] at h'
  split at h' <;> split at h' <;> omega
theorem sg_surj {n k : Nat} (hk : k < n) {i : Int} (hi : 0 ≤ i ∧ i < n) : ∃ j : Int, (0 ≤ j ∧ j < n) ∧ sgV n k j = i := by
  by_cases h : k ≤ i.toNat
  · refine ⟨i - k, by omega, ?_⟩
    unfold sgV
    rw [show (i - (k : Int)).toNat + k = i.toNat by omega, Nat.mod_eq_of_lt (by omega)]; omega
  · refine ⟨i + n - k, by omega, ?_⟩
    unfold sgV
    rw [show (i + (n : Int) - (k : Int)).toNat + k = i.toNat + n by omega, Nat.add_mod_right, Nat.mod_eq_of_lt (by omega)]; omega
/-- Two queues, the second with the groups of the first one turned, and frees that say the same. -/
structure Tw (q p : Qu) (k : Nat) : Prop where
  o : p.opn = q.opn
  s : p.seats = q.seats
  kl : k < q.gs.length
  g : p.gs = rotV q.gs k
  f : ∀ m, freeAll p.fs m = freeAll q.fs m
section
variable {q p : Qu} {k : Nat}
theorem Tw.len (h : Tw q p k) : p.gs.length = q.gs.length := by rw [h.g, rot_len (by have := h.kl; omega)]
theorem Tw.at_ (h : Tw q p k) {j : Int} (hj : 0 ≤ j ∧ j < q.gs.length) : p.gs[j.toNat]? = q.gs[(sgV q.gs.length k j).toNat]? := by
  rw [h.g, rot_at h.kl (by omega)]
  unfold sgV
  rw [Int.toNat_natCast]
structure Rl (q : Qu) (k : Nat) (s s' : Cr) : Prop where
  f : s'.free = s.free
  p : s'.passing = s.passing
  w : s.ws = s'.ws.map (sgV q.gs.length k)
  r : ∀ i ∈ s'.ws, 0 ≤ i ∧ i < q.gs.length
  l : s.inn.length = q.gs.length ∧ s'.inn.length = q.gs.length
  i : ∀ j : Int, 0 ≤ j ∧ j < q.gs.length → inAt s'.inn j = inAt s.inn (sgV q.gs.length k j)
theorem tw_sz (h : Tw q p k) {j : Int} (hj : 0 ≤ j ∧ j < q.gs.length) : szV p.gs j = szV q.gs (sgV q.gs.length k j) := by
  unfold szV; rw [h.at_ hj]
theorem tw_gone (h : Tw q p k) (m : Int) {j : Int} (hj : 0 ≤ j ∧ j < q.gs.length) : goneV p.gs m j = goneV q.gs m (sgV q.gs.length k j) := by
  unfold goneV; rw [h.at_ hj]
theorem tw_arr (h : Tw q p k) (m : Int) {j : Int} (hj : 0 ≤ j ∧ j < q.gs.length) : arrV p.gs m j = arrV q.gs m (sgV q.gs.length k j) := by
  unfold arrV; rw [tw_gone h m hj, h.at_ hj]
theorem tw_key (h : Tw q p k) {j : Int} (hj : 0 ≤ j ∧ j < q.gs.length) : keyV p.gs j = keyV q.gs (sgV q.gs.length k j) := by
  unfold keyV; rw [h.at_ hj]
theorem tw_ord (h : Tw q p k) (hq : q.Ok) (hp : p.Ok) : ordV q = (ordV p).map (sgV q.gs.length k) := by
  have hn : 0 < q.gs.length := by have := h.kl; omega
  have hlen := h.len
  refine srt_uniq (ordV_srt hq) ?_ fun x => ?_
  · show ((ordV p).map _).Pairwise _
    rw [List.pairwise_map]
    refine List.Pairwise.imp_of_mem ?_ (ordV_srt hp)
    intro a b ha hb hab
    have ha' := ordV_mem.1 ha
    have hb' := ordV_mem.1 hb
    rw [← tw_key h (by omega), ← tw_key h (by omega)]
    exact hab
  · rw [ordV_mem, List.mem_map]
    constructor
    · intro hx
      obtain ⟨j, hj, e⟩ := sg_surj (k := k) h.kl hx
      exact ⟨j, ordV_mem.2 (by omega), e⟩
    · rintro ⟨j, hj, rfl⟩
      exact sg_rng hn j
theorem filter_map_eq {f : Int → Int} {P P' : Int → Bool} {l : List Int} (h : ∀ x ∈ l, P (f x) = P' x) : (l.map f).filter P = (l.filter P').map f := by
  rw [List.filter_map]
  congr 1
  exact List.filter_congr fun x hx => h x hx
theorem rl_join (h : Tw q p k) (hq : q.Ok) (hp : p.Ok) (m : Int) {s s' : Cr} (hr : Rl q k s s') : Rl q k (joinV q.gs (ordV q) m (freedV q m s)) (joinV p.gs (ordV p) m (freedV p m s')) := by
  have hlen := h.len
  have hf : firstN (freedV p m s') = firstN (freedV q m s) := by
    unfold firstN
    show (bif decide (0 < s'.passing) then 1 else 0) = (bif decide (0 < s.passing) then 1 else 0)
    rw [hr.p]
  refine ⟨?_, hr.p, ?_, ?_, hr.l, hr.i⟩
  · show s'.free + freeAll p.fs m = s.free + freeAll q.fs m
    rw [hr.f, h.f]
  · show keptV q.gs m (freedV q m s) ++ (ordV q).filter (arrV q.gs m) = (keptV p.gs m (freedV p m s') ++ (ordV p).filter (arrV p.gs m)).map _
    rw [List.map_append]
    congr 1
    · unfold keptV
      rw [hf]
      show s.ws.take _ ++ (s.ws.drop _).filter _ = ((s'.ws.take _) ++ (s'.ws.drop _).filter _).map _
      rw [List.map_append, hr.w, List.map_take, ← List.map_drop]
      congr 1
      exact filter_map_eq fun x hx => by rw [tw_gone h m (hr.r x (List.mem_of_mem_drop hx))]
    · rw [tw_ord h hq hp]
      exact filter_map_eq fun x hx => by
        have := ordV_mem.1 hx
        rw [tw_arr h m (by omega)]
  · intro i hi
    rcases List.mem_append.1 hi with hi | hi
    · rcases List.mem_append.1 hi with hi | hi
      · exact hr.r i (List.mem_of_mem_take hi)
      · exact hr.r i (List.mem_of_mem_drop (List.mem_filter.1 hi).1)
    · have := ordV_mem.1 (List.mem_filter.1 hi).1
      omega
theorem rl_pass (h : Tw q p k) (m : Int) : ∀ (f : Nat) (r : Int) (s s' : Cr), Rl q k s s' → Rl q k (passV q.gs m f r s) (passV p.gs m f r s')
  | 0, r, s, s', hr => hr
  | f + 1, r, s, s', hr => by
    cases hw : s'.ws with
    | nil =>
      have hw2 : s.ws = [] := by rw [hr.w, hw]; rfl
      rw [passV_stop (.inr hw), passV_stop (.inr hw2)]; exact hr
    | cons i t =>
      have hw2 : s.ws = sgV q.gs.length k i :: t.map (sgV q.gs.length k) := by rw [hr.w, hw]; rfl
      have hi := hr.r i (by rw [hw]; simp)
      have hs := sg_rng (n := q.gs.length) (k := k) (by have := h.kl; omega) i
      have hsz := tw_sz h hi
      have hpp : ppV p.gs i s' = ppV q.gs (sgV q.gs.length k i) s := by unfold ppV; rw [hr.p, hsz]
      have hfr : frV p.gs i s' = frV q.gs (sgV q.gs.length k i) s := by unfold frV; rw [hr.p, hr.f, hsz]
      have hst : stopV p.gs i s' = stopV q.gs (sgV q.gs.length k i) s := by unfold stopV; rw [hr.p, hr.f, hsz]
      by_cases hr0 : 0 < r
      · cases hsv : stopV p.gs i s'
        · rw [passV_go hw hr0 hsv, passV_go hw2 hr0 (hst ▸ hsv), hpp]
          refine rl_pass h m f _ _ _ ?_
          unfold passOne
          rw [hpp, hfr]
          cases decide (ppV q.gs (sgV q.gs.length k i) s - min r (ppV q.gs (sgV q.gs.length k i) s) = 0)
          · exact ⟨rfl, rfl, hr.w, hr.r, hr.l, hr.i⟩
          · refine ⟨rfl, rfl, rfl, fun x hx => hr.r x (by rw [hw]; exact List.mem_cons_of_mem _ hx), ⟨by simp [hr.l.1], by simp [hr.l.2]⟩, fun j hj => ?_⟩
            show inAt (s'.inn.set i.toNat m) j = inAt (s.inn.set (sgV q.gs.length k i).toNat m) (sgV q.gs.length k j)
            have hsj := sg_rng (n := q.gs.length) (k := k) (by have := h.kl; omega) j
            rw [inAt_set (by have := hr.l.2; omega) (by have := hr.l.2; omega), inAt_set (by have := hr.l.1; omega) (by have := hr.l.1; omega), hr.i j hj]
            by_cases e : j = i
            · subst e; rw [decide_eq_true rfl, decide_eq_true rfl]
            · rw [decide_eq_false e, decide_eq_false (fun e' => e (sg_inj h.kl hj hi e'))]
        · rw [passV_halt hw hsv, passV_halt hw2 (hst ▸ hsv)]; exact hr
      · rw [passV_stop (.inl (by omega)), passV_stop (.inl (by omega))]; exact hr
theorem rl_run (h : Tw q p k) (hq : q.Ok) (hp : p.Ok) (rate : Int) : ∀ n : Nat, Rl q k (runTo q rate 0 n) (runTo p rate 0 n)
  | 0 => by
    have hlen := h.len
    refine ⟨by show p.seats + 0 = q.seats + 0; rw [h.s], rfl, rfl, (fun i hi => by cases hi), ⟨by simp [runTo, open0], by simp [runTo, open0, hlen]⟩, fun j hj => ?_⟩
    have hs := sg_rng (n := q.gs.length) (k := k) (by omega) j
    show (List.replicate p.gs.length (-1)).getD j.toNat 0 = (List.replicate q.gs.length (-1)).getD (sgV q.gs.length k j).toNat 0
    rw [List.getD_eq_getElem?_getD, List.getElem?_replicate, if_pos (by omega), List.getD_eq_getElem?_getD, List.getElem?_replicate, if_pos (by omega)]
  | n + 1 => by
    have ih := rl_join h hq hp (n : Int) (rl_run h hq hp rate n)
    rw [runTo, runTo]
    unfold minuteV
    rw [h.o]
    cases decide (q.opn ≤ (n : Int))
    · exact ih
    · exact rl_pass h n _ _ _ _ ih
end
/-- The turned queue is valid. -/
theorem rot_ok {q : Qu} (hb : qOk q = true) {k : Nat} (hk : k < q.gs.length) (hf : q.fs.length < 40) : ∀ p : Qu, p = ⟨q.opn, q.lo, q.hi, q.seats, rotV q.gs k, splitV q.fs.reverse⟩ → qOk p = true ∧ Tw q p k ∧ p.fs.length ≤ 40 := by
  rintro p rfl
  have hq := q_ok hb
  have hlen := rot_len (gs := q.gs) (k := k) (by omega)
  have hT : Tw q ⟨q.opn, q.lo, q.hi, q.seats, rotV q.gs k, splitV q.fs.reverse⟩ k := ⟨rfl, rfl, hk, rfl, fun m => by
    show freeAll (splitV q.fs.reverse) m = _
    rw [freeAll_frL, frL_split, frL_rev, freeAll_frL]⟩
  have hfl : (splitV q.fs.reverse).length ≤ 40 := by
    unfold splitV
    cases q.fs.reverse.getLast? with
    | none => simp; omega
    | some f =>
      dsimp only
      cases decide (0 < f.2)
      · show q.fs.reverse.length ≤ 40; simp; omega
      · show (q.fs.reverse.dropLast ++ _).length ≤ 40; simp; omega
  have hfe : ∀ f ∈ splitV q.fs.reverse, feOk f = true := by
    intro f hfm
    unfold splitV at hfm
    cases hgl : q.fs.reverse.getLast? with
    | none => rw [hgl] at hfm; exact hq.fe f (List.mem_reverse.1 hfm)
    | some g =>
      rw [hgl] at hfm
      have hgm : g ∈ q.fs := List.mem_reverse.1 (List.mem_of_getLast? hgl)
      have hgo := hq.fe g hgm
      simp only [feOk, isT, Bool.and_eq_true, win_iff] at hgo
      simp only at hfm
      cases hd : decide (0 < g.2)
      · rw [hd] at hfm; exact hq.fe f (List.mem_reverse.1 hfm)
      · rw [hd] at hfm
        have hd' := of_decide_eq_true hd
        rcases List.mem_append.1 hfm with h | h
        · exact hq.fe f (List.mem_reverse.1 ((List.dropLast_sublist _).subset h))
        · simp only [List.mem_cons, List.not_mem_nil, or_false] at h
          rcases h with rfl | rfl <;> (simp only [feOk, isT, Bool.and_eq_true, win_iff]; omega)
  have hgs : gsOk (rotV q.gs k) (rotV q.gs k).length = true := by
    have hall : ∀ j, j ≤ q.gs.length → gsOk (rotV q.gs k) j = true := by
      intro j
      induction j with
      | zero => intro _; rfl
      | succ j ih =>
        intro hj
        have hat := rot_at hk (j := j) (by omega)
        have hm := Nat.mod_lt (j + k) (show 0 < q.gs.length by omega)
        have hg : q.gs[(j + k) % q.gs.length]? = some q.gs[(j + k) % q.gs.length] := List.getElem?_eq_getElem hm
        rw [hg] at hat
        rw [gsOk_succ hat, ih (by omega), hq.pt _ (List.getElem_mem hm)]
        have hd : dup (rotV q.gs k) j (q.gs[(j + k) % q.gs.length]).id = false := by
          unfold dup
          rw [List.any_eq_false]
          intro x hx hc
          obtain ⟨i, hi, rfl⟩ := List.getElem_of_mem hx
          rw [List.length_take] at hi
          rw [List.getElem_take] at hc
          have hc := of_decide_eq_true hc
          have hai := rot_at hk (j := i) (by omega)
          have hmi := Nat.mod_lt (i + k) (show 0 < q.gs.length by omega)
          have hgi : q.gs[(i + k) % q.gs.length]? = some q.gs[(i + k) % q.gs.length] := List.getElem?_eq_getElem hmi
          rw [hgi, List.getElem?_eq_getElem (by omega)] at hai
          rw [Option.some.inj hai] at hc
          rcases Nat.lt_trichotomy ((i + k) % q.gs.length) ((j + k) % q.gs.length) with h | h | h
          · exact hq.nd _ _ _ _ h hgi hg hc
          · have := sg_inj (n := q.gs.length) hk (i := (i : Int)) (j := (j : Int)) (by omega) (by omega) (by unfold sgV; rw [Int.toNat_natCast, Int.toNat_natCast, h])
            omega
          · exact hq.nd _ _ _ _ h hg hgi hc.symm
        rw [hd]; rfl
    rw [hlen]; exact hall _ (Nat.le_refl _)
  refine ⟨?_, hT, hfl⟩
  unfold qOk headOk at hb ⊢
  simp only [Bool.and_eq_true, decide_eq_true_eq] at hb ⊢
  refine ⟨⟨⟨⟨hb.1.1.1.1, by rw [hlen]; exact hb.1.1.1.2⟩, by omega⟩, hgs⟩, List.all_eq_true.2 hfe⟩
theorem order_law {q p : Qu} {k : Nat} (h : Tw q p k) (hq : q.Ok) (hp : p.Ok) (rate : Int) {j : Int} (hj : 0 ≤ j ∧ j < q.gs.length) : inAt (runV p rate 0) j = inAt (runV q rate 0) (sgV q.gs.length k j) := (rl_run h hq hp rate 1441).i j hj
end Go.Proofs.Ytbcclgfobiholaa
