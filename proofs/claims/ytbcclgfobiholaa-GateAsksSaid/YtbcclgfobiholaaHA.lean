/- The document's answer on a day at a rate: walked, it is what the program finds. -/
import Derived.Test.YtbcclgfobiholaaGY
import Derived.Test.YtbcclgfobiholaaWJ
namespace Go.Proofs.Ytbcclgfobiholaa
open Go Go.RowKit

def encB (bs : List Bool) : List (List Value) := bs.map fun b => [.bool b]
theorem encB_len (bs : List Bool) : (encB bs).length = bs.length := by simp [encB]
theorem encB_at {bs : List Bool} {k : Nat} {b : Bool} (h : bs[k]? = some b) : (encB bs)[k]? = some [.bool b] := by simp [encB, h]
def lfV (q : Qu) (s : Cr) : List Bool := (List.range q.gs.length).map fun i : Nat => leftV s (i : Int)
theorem lfV_len (q : Qu) (s : Cr) : (lfV q s).length = q.gs.length := by simp [lfV]
theorem lfV_at {q : Qu} {s : Cr} {c : Int} (hc : 0 ≤ c ∧ c < q.gs.length) : (lfV q s)[c.toNat]? = some (leftV s c) := by
  unfold lfV
  rw [List.getElem?_map, List.getElem?_range (by omega), Option.map_some, Int.toNat_of_nonneg hc.1]
theorem lfV_congr {q : Qu} {s s' : Cr} (h : ∀ i : Int, 0 ≤ i ∧ i < q.gs.length → leftV s' i = leftV s i) : lfV q s' = lfV q s := by
  unfold lfV
  refine List.map_congr_left fun i hi => ?_
  have := List.mem_range.1 hi
  exact h i (by omega)
theorem left_adv {q : Qu} (hq : q.Ok) {m r : Int} {s : Cr} {i : Int} {t : List Int} (h : Wt q m s) (ho : q.opn ≤ m) (hw : s.ws = i :: t) (hp : 0 < s.passing) (j : Int) (hj : 0 ≤ j ∧ j < q.gs.length) : leftV (advS m r i t s) j = leftV s j := by
  obtain ⟨h2, h3, h4⟩ := head_eq h hp hw
  have hps := pas_pos hp hw
  have hlen := h.len
  have hqo := hq.o
  rcases adv_cases m r i t s with ⟨e0, e1⟩ | ⟨e0, e1⟩
  · rw [e1]
    unfold leftV
    rw [hps, pas_zero (s := ⟨s.free, 0, t, s.inn.set i.toNat m⟩) rfl]
    show (decide (0 ≤ inAt (s.inn.set i.toNat m) j) || decide (j = -1)) = _
    rw [inAt_set (by omega) (by omega), decide_eq_false (p := j = -1) (by omega)]
    by_cases e : j = i
    · subst e
      rw [decide_eq_true (p := j = j) rfl]
      simp only [cond_true]
      rw [decide_eq_true (p := 0 ≤ m) (by omega), Bool.or_true]; rfl
    · rw [decide_eq_false e]; rfl
  · rw [e1]
    have hpp : 0 < s.passing - min r s.passing := by have := h.p; omega
    unfold leftV
    rw [hps, pas_pos (s := ⟨s.free, s.passing - min r s.passing, s.ws, s.inn⟩) (t := t) hpp hw]
theorem lf_beg {q : Qu} (hq : q.Ok) {m : Int} {s : Cr} {i : Int} {t : List Int} (h : Wt q m s) (hw : s.ws = i :: t) (hp : s.passing = 0) : (encB (lfV q s)).set i.toNat ([Value.bool (leftV s i)].set 0 (.bool true)) = encB (lfV q (begS q.gs i s)) := by
  obtain ⟨hf, h2, h3, h4⟩ := h.first hw hp
  have hsz := szV_rng hq h2
  have hpb : 0 < (begS q.gs i s).passing := by show 0 < szV q.gs i; omega
  refine List.ext_getElem? fun k => ?_
  show ((encB (lfV q s)).set i.toNat [Value.bool true])[k]? = _
  rw [List.getElem?_set]
  by_cases hk : k < q.gs.length
  · have e1 : (encB (lfV q (begS q.gs i s)))[k]? = some [.bool (leftV (begS q.gs i s) k)] := encB_at (by have := lfV_at (q := q) (s := begS q.gs i s) (c := (k : Int)) (by omega); rwa [Int.toNat_natCast] at this)
    rw [e1]
    unfold leftV
    rw [pas_pos (s := begS q.gs i s) (t := t) hpb hw]
    by_cases e : i.toNat = k
    · rw [if_pos e, if_pos (by rw [encB_len, lfV_len]; omega)]
      have : (k : Int) = i := by omega
      rw [this, decide_eq_true (p := i = i) rfl, Bool.or_true]
    · rw [if_neg e]
      have e2 : (encB (lfV q s))[k]? = some [.bool (leftV s k)] := encB_at (by have := lfV_at (q := q) (s := s) (c := (k : Int)) (by omega); rwa [Int.toNat_natCast] at this)
      rw [e2]
      unfold leftV
      rw [pas_zero hp, decide_eq_false (p := (k : Int) = -1) (by omega), decide_eq_false (p := (k : Int) = i) (by omega)]
      rfl
  · rw [if_neg (by omega), List.getElem?_eq_none (by rw [encB_len, lfV_len]; omega), List.getElem?_eq_none (by rw [encB_len, lfV_len]; omega)]
theorem pas_ge {q : Qu} {m : Int} {s : Cr} (h : Wt q m s) : (0 ≤ pasV s → ∃ i t, s.ws = i :: t ∧ 0 < s.passing ∧ pasV s = i ∧ (0 ≤ i ∧ i < q.gs.length) ∧ inAt s.inn i = -1) ∧ (¬ 0 ≤ pasV s → s.passing = 0) := by
  by_cases hp : 0 < s.passing
  · obtain ⟨i, t, hw, h2, h3, h4⟩ := h.hd hp
    have := pas_pos hp hw
    exact ⟨fun _ => ⟨i, t, hw, hp, this, h2, h4⟩, fun hn => by omega⟩
  · have hp0 : s.passing = 0 := by have := h.p; omega
    have := pas_zero hp0
    exact ⟨fun hn => by omega, fun _ => hp0⟩
theorem beg_ok {q : Qu} (hq : q.Ok) {m : Int} {s : Cr} {i : Int} {t : List Int} (h : Wt q m s) (hk : s.Ok q) (hw : s.ws = i :: t) (hp : s.passing = 0) (hf : szV q.gs i ≤ s.free) : (begS q.gs i s).Ok q := by
  obtain ⟨_, h2, _, _⟩ := h.first hw hp
  have hsz := szV_rng hq h2
  obtain ⟨k1, k2, k3, k4⟩ := hk
  exact ⟨k1, k2, by show 0 ≤ szV q.gs i ∧ szV q.gs i ≤ 20; omega, by show 0 ≤ s.free - szV q.gs i ∧ s.free - szV q.gs i ≤ _; omega⟩
theorem passV_beg {gs : List Pt} {minute r i : Int} {t : List Int} {s : Cr} (hw : s.ws = i :: t) (hr : 0 < r) (hp : s.passing = 0) (hf : szV gs i ≤ s.free) (hpos : 0 < szV gs i) : passV gs minute r.toNat r (begS gs i s) = passV gs minute r.toNat r s := by
  obtain ⟨f, hf'⟩ : ∃ f, r.toNat = f + 1 := ⟨r.toNat - 1, by omega⟩
  have hst : stopV gs i s = false := by unfold stopV; rw [decide_eq_false (p := s.free < szV gs i) (by omega), Bool.and_false]
  have hp' : (begS gs i s).passing ≠ 0 := by show szV gs i ≠ 0; omega
  have hst' : stopV gs i (begS gs i s) = false := by unfold stopV; rw [decide_eq_false hp']; rfl
  obtain ⟨e1, e2⟩ := passOne_beg (minute := minute) (rate := r) (t := t) (gs := gs) (i := i) hp
  obtain ⟨e1', e2'⟩ := passOne_adv (minute := minute) (rate := r) (t := t) (gs := gs) (i := i) (s := begS gs i s) hp'
  rw [hf', passV_go hw hr hst, passV_go (s := begS gs i s) hw hr hst', e1, e2, e1', e2']
theorem passV_adv {q : Qu} (hq : q.Ok) {minute r i : Int} {t : List Int} {s : Cr} (hk : s.Ok q) (hw : s.ws = i :: t) (hr : 0 < r) (hp : 0 < s.passing) : passV q.gs minute (r - min r s.passing).toNat (r - min r s.passing) (advS minute r i t s) = passV q.gs minute r.toNat r s ∧ (advS minute r i t s).Ok q := by
  obtain ⟨f, hf'⟩ : ∃ f, r.toNat = f + 1 := ⟨r.toNat - 1, by omega⟩
  have hst : stopV q.gs i s = false := by unfold stopV; rw [decide_eq_false (by omega)]; rfl
  obtain ⟨e1, e2⟩ := passOne_adv (minute := minute) (rate := r) (t := t) (gs := q.gs) (i := i) (s := s) (by omega)
  have hok := (passOne_ok (minute := minute) hq hk hw hr hst).1
  rw [e1] at hok
  refine ⟨?_, hok⟩
  rw [hf', passV_go hw hr hst, e1, e2]
  exact (passV_fuel hq hok f (r - min r s.passing) (by omega) (by omega)).symm
theorem first_eq {q : Qu} {m : Int} {s : Cr} (h : Wt q m s) (hp : s.passing = 0) : s.ws = (ordV q).filter fun i => !leftV s i && waitV q.gs m i := by
  have hr := h.rest
  have hf : firstN s = 0 := by unfold firstN; rw [hp]; rfl
  rwa [hf, List.drop_zero] at hr
def waitP (g : Pt) (m : Int) : Bool := decide (g.at_ ≤ m) && (decide (g.quits = -1) || decide (m < g.quits))
theorem waitP_eq {gs : List Pt} {i m : Int} {g : Pt} (h : gs[i.toNat]? = some g) : waitP g m = waitV gs m i := by
  unfold waitP waitV; rw [at_eq h, quit_eq h]
theorem C_ref11_waits (g : Pt) (m : Int) (w : World) : C0 Try.prog 59 [g.val, .int .i64 m] w (.bool (waitP g m)) := by
  refine ⟨en Try.func59 Try.ntmps59 (St.init w) (h := fun F => ?_)⟩
  refine sq (h := ?_)
  refine rg (h := ?_)
  refine bxA (h := fun b0 => ?_)
  refine WL.y (hy := asg) (h := ?_)
  refine nl (h := ?_)
  refine q_seq (h := ?_)
  refine sq (h := ?_)
  refine rg (h := ?_)
  refine WL.y (hy := (by first | exact fa | exact faE)) (h := ?_)
  refine WL.y (hy := (by first | exact ld | exact ldE)) (h := ?_)
  refine WL.y (hy := mv) (h := ?_)
  refine WL.y (hy := leq) (h := ?_)
  refine WL.y (hy := mv) (h := ?_)
  apply brAnd 10 9 19 (by exact rfl)
  · intro hb0
    refine un (h := ?_)
    refine WL.y (hy := (by first | exact fa | exact faE)) (h := ?_)
    refine un (h := ?_)
    refine WL.y (hy := (by first | exact ld | exact ldE)) (h := ?_)
    refine un (h := ?_)
    refine WL.y (hy := eql) (h := ?_)
    refine un (h := ?_)
    refine WL.y (hy := mv) (h := ?_)
    apply brOr 5 13 18 (by exact rfl)
    · intro hb1
      refine un (h := ?_)
      refine WL.y (hy := (by first | exact fa | exact faE)) (h := ?_)
      refine un (h := ?_)
      refine WL.y (hy := (by first | exact ld | exact ldE)) (h := ?_)
      refine un (h := ?_)
      refine WL.y (hy := mv) (h := ?_)
      refine un (h := ?_)
      refine WL.y (hy := gtr) (h := ?_)
      refine un (h := ?_)
      refine WL.y (hy := (by first | exact pkT | exact pkF)) (h := ?_)
      exact mg (by repeat (first | exact trivial | refine ⟨rfl, ?_⟩ | refine ⟨by rw [hb1]; rfl, ?_⟩ | refine ⟨by rw [hb0]; rfl, ?_⟩)) (by repeat (first | exact SubL.nil | (apply SubL.cons; (repeat (first | exact At.here | apply At.there))) | exact SubL.refl _ | apply SubL.skip))
    · intro hb1
      repeat (first | refine un (h := ?_) | refine sk (h := ?_) | refine WL.y (hy := pkF) (h := ?_) | refine WL.y (hy := pkT) (h := ?_))
      exact mg (by repeat (first | exact trivial | refine ⟨rfl, ?_⟩ | refine ⟨by rw [hb1]; rfl, ?_⟩ | refine ⟨by rw [hb0]; rfl, ?_⟩)) (by repeat (first | exact SubL.nil | (apply SubL.cons; (repeat (first | exact At.here | apply At.there))) | exact SubL.refl _ | apply SubL.skip))
    refine WL.y (hy := (by first | exact pkT | exact pkF)) (h := ?_)
    exact mg (by repeat (first | exact trivial | refine ⟨rfl, ?_⟩ | refine ⟨by rw [hb0]; rfl, ?_⟩)) (by repeat (first | exact SubL.nil | (apply SubL.cons; (repeat (first | exact At.here | apply At.there))) | exact SubL.refl _ | apply SubL.skip))
  · intro hb0
    repeat (first | refine un (h := ?_) | refine sk (h := ?_) | refine WL.y (hy := pkF) (h := ?_) | refine WL.y (hy := pkT) (h := ?_))
    exact mg (by repeat (first | exact trivial | refine ⟨rfl, ?_⟩ | refine ⟨by rw [hb0]; rfl, ?_⟩)) (by repeat (first | exact SubL.nil | (apply SubL.cons; (repeat (first | exact At.here | apply At.there))) | exact SubL.refl _ | apply SubL.skip))
  refine WL.y (hy := asg) (h := ?_)
  refine nl (h := ?_)
  refine q_seq (h := ?_)
  refine rtn (h := ?_)
  refine q_ret (hR := ?_)
  exact fun w hS => ⟨rfl, hS.sub (by repeat (first | exact SubL.nil | (apply SubL.cons; (repeat (first | exact At.here | apply At.there))) | exact SubL.refl _ | apply SubL.skip))⟩
structure PZ where
  (can : Int) (s : Cr)
structure MM0 where
  (k : Nat)
structure M0 where
  (k : Nat)
abbrev eL (q : Qu) (a : QA) (b0 bi bl : Nat) (x1 : Option Addr × Nat) (s : Cr) : List Ent := [.own (some ⟨bi, 0, none⟩) q.gs.length 3 1 q.gs.length (enI s.inn), .own (some ⟨bl, 0, none⟩) q.gs.length 4 1 q.gs.length (encB (lfV q s)), .own x1.1 x1.2 3 1 q.gs.length (enI (ordV q)), .blk b0 27 (q.cells a), .ro a.gA 4 q.gs.length (encPt q.gs), .ro a.fA 2 q.fs.length (encF q.fs)]
abbrev eV (q : Qu) (rate : Int) (b0 bi bl : Nat) (x1 : Option Addr × Nat) (s : Cr) (k : Nat) : Env := [(1, .int .i64 rate), (2, .pointer (some ⟨b0, 0, none⟩)), (5, .slice (some ⟨bi, 0, none⟩) q.gs.length q.gs.length), (6, .slice (some ⟨bl, 0, none⟩) q.gs.length q.gs.length), (8, .slice x1.1 q.gs.length x1.2), (9, .int .i64 s.free), (10, .int .i64 (pasV s)), (11, .int .i64 s.passing), (12, .int .i64 k)]
set_option maxRecDepth 100000 in
set_option maxHeartbeats 8000000 in
theorem C_ref11_enter (q : Qu) (a : QA) (rate : Int) (hq : q.Ok) (hr : 0 ≤ rate ∧ rate ≤ 100) (w : World) (h : QRd w q a) : CR Try.prog 49 [q.val a, .int .i64 rate] w (fun _ : Option Addr × Nat => True) (fun p => .slice p.1 q.gs.length p.2) (fun p => [.own p.1 p.2 3 1 q.gs.length (enI (runV q rate 0))]) := by
  obtain ⟨hg, hf, hgn, hfn⟩ := h
  have hgl := hq.g
  have hfl := hq.f
  have hqo := hq.o
  refine ⟨en Try.func49 Try.ntmps49 (((St.init w).share (e := .ro a.gA 4 q.gs.length (encPt q.gs)) hg rfl rfl rfl).share (e := .ro a.fA 2 q.fs.length (encF q.fs)) hf rfl rfl rfl) (h := fun F => ?_)⟩
  refine sq (h := ?_)
  refine rg (h := ?_)
  refine bxA (h := fun b0 => ?_)
  refine WL.y (hy := asg) (h := ?_)
  refine nl (h := ?_)
  refine q_seq (h := ?_)
  refine sq (h := ?_)
  refine rg (h := ?_)
  refine WL.y (hy := (by first | exact fa | exact faE)) (h := ?_)
  refine WL.y (hy := (by first | exact ld | exact ldE)) (h := ?_)
  refine WL.y (hy := lenS) (h := ?_)
  refine mks q.gs.length (h := fun bi => ?_)
  refine WL.y (hy := asg) (h := ?_)
  refine nl (h := ?_)
  refine q_seq (h := ?_)
  refine sq (h := ?_)
  refine rg (h := ?_)
  refine WL.y (hy := (by first | exact fa | exact faE)) (h := ?_)
  refine WL.y (hy := (by first | exact ld | exact ldE)) (h := ?_)
  refine WL.y (hy := lenS) (h := ?_)
  refine mks q.gs.length (h := fun bl => ?_)
  refine WL.y (hy := asg) (h := ?_)
  refine nl (h := ?_)
  refine q_seq (h := ?_)
  refine sq (h := ?_)
  refine sq (h := ?_)
  refine rg (h := ?_)
  refine WL.y (hy := asg) (h := ?_)
  refine nl (h := ?_)
  refine q_seq (h := ?_)
  refine bk (h := ?_)
  refine lp (X := IZ) (I := fun z => z.k ≤ q.gs.length) (le := fun z => [(1, .int .i64 rate), (2, .pointer (some ⟨b0, 0, none⟩)), (5, .slice (some ⟨bi, 0, none⟩) q.gs.length q.gs.length), (6, .slice (some ⟨bl, 0, none⟩) q.gs.length q.gs.length), (7, .int .i64 z.k)]) (Le := fun z => .own (some ⟨bi, 0, none⟩) q.gs.length 3 1 q.gs.length (enI (List.replicate z.k (-1) ++ List.replicate (q.gs.length - z.k) 0)) :: .own (some ⟨bl, 0, none⟩) q.gs.length 4 1 q.gs.length (encB (lfV q (open0 q 0))) :: quL q a b0) (μ := fun z => q.gs.length - z.k) ⟨0⟩ (Nat.zero_le _) (by repeat (first | exact trivial | refine ⟨rfl, ?_⟩)) (by
    have e1 : enI (List.replicate 0 (-1) ++ List.replicate (q.gs.length - 0) 0) = List.replicate q.gs.length [Value.int .i64 0] := by simp [enI]; exact .inr rfl
    have e2 : encB (lfV q (open0 q 0)) = List.replicate q.gs.length [Value.bool false] := by
      refine List.eq_replicate_iff.2 ⟨by rw [encB_len, lfV_len], fun b hb => ?_⟩
      unfold encB lfV at hb
      rw [List.map_map] at hb
      obtain ⟨i, hi, rfl⟩ := List.mem_map.1 hb
      have hi' := List.mem_range.1 hi
      have hWo := wt_open hq 0
      show [Value.bool (leftV (open0 q 0) i)] = _
      unfold leftV
      rw [in_neg hq hWo (i := (i : Int)) (by omega) (fun h0 => by rcases hWo.rng (i : Int) (by omega) with e | e <;> omega), pas_zero rfl, decide_eq_false (p := (i : Int) = -1) (by omega)]
      rfl
    dsimp only
    rw [e1, e2]
    repeat (first | exact SubL.nil | (apply SubL.cons; (repeat (first | exact At.here | apply At.there))) | exact SubL.refl _ | apply SubL.skip)) (fun z hz => ?_)
  refine sq (h := ?_)
  refine sq (h := ?_)
  refine rg (h := ?_)
  refine WL.y (hy := mv) (h := ?_)
  refine WL.y (hy := mv) (h := ?_)
  refine WL.y (hy := lenS) (h := ?_)
  refine WL.y (hy := lss) (h := ?_)
  refine nl (h := ?_)
  refine q_seq (h := ?_)
  refine cd (by exact rfl) (fun h0 => ?_) (fun h0 => ?_)
  · skip
    have hkn : z.k < q.gs.length := by simp only [decide_eq_true_eq] at h0; omega
    have hz0 : (enI (List.replicate z.k (-1) ++ List.replicate (q.gs.length - z.k) 0))[z.k]? = some [.int .i64 0] := enI_at (by rw [List.getElem?_append_right (by simp), List.length_replicate, Nat.sub_self, List.getElem?_replicate, if_pos (by omega)])
    have hzs : (enI (List.replicate z.k (-1) ++ List.replicate (q.gs.length - z.k) 0)).set z.k ([Value.int .i64 0].set 0 (.int .i64 (-1))) = enI (List.replicate (z.k + 1) (-1) ++ List.replicate (q.gs.length - (z.k + 1)) 0) := by
      show (enI _).set z.k [.int .i64 (-1)] = _
      rw [enI_set, List.set_append_right _ _ (by simp), List.length_replicate, Nat.sub_self, show q.gs.length - z.k = (q.gs.length - (z.k + 1)) + 1 by omega, List.replicate_succ, List.set_cons_zero, List.replicate_succ']
      simp
    refine skp (h := ?_)
    refine q_seq (h := ?_)
    refine sq (h := ?_)
    refine bk (h := ?_)
    refine rg (h := ?_)
    refine WL.y (hy := mv) (h := ?_)
    refine WL.y (hy := mv) (h := ?_)
    refine WL.y (hy := ix (A := some ⟨bi, 0, none⟩)) (h := ?_)
    refine stE (A := some ⟨bi, 0, none⟩) (hk := hz0) (h := ?_)
    rw [hzs]
    refine nl (h := ?_)
    refine q_blk_norm (h := ?_)
    refine q_seq (h := ?_)
    refine rg (h := ?_)
    refine WL.y (hy := mv) (h := ?_)
    refine WL.y (hy := addI) (h := ?_)
    refine WL.y (hy := asg) (h := ?_)
    refine nl (h := ?_)
    refine rn (x := z) ⟨z.k + 1⟩ (by dsimp only; omega) (by dsimp only; omega) (by repeat (first | exact trivial | refine ⟨rfl, ?_⟩)) (by repeat (first | exact SubL.nil | (apply SubL.cons; (repeat (first | exact At.here | apply At.there))) | exact SubL.refl _ | apply SubL.skip))
  · skip
    have hkn : z.k = q.gs.length := by simp only [decide_eq_false_iff_not] at h0; omega
    have hin : enI (List.replicate z.k (-1) ++ List.replicate (q.gs.length - z.k) 0) = enI (open0 q 0).inn := by rw [hkn, Nat.sub_self]; simp [open0]
    rw [hin]
    refine et (h := ?_)
    refine q_then_exit (h := ?_)
    refine q_then_exit (h := ?_)
    refine q_blk_hit (h := ?_)
    refine q_seq (h := ?_)
    refine sq (h := ?_)
    refine rg (h := ?_)
    refine WL.y (hy := (by first | exact ldA | exact ldEA)) (h := ?_)
    refine cl (hc := fun w hS => C_ref11_Order q a hq w ⟨hS.get, hS.get, hgn, hfn⟩) (h := fun x1 _ => ?_)
    refine WL.y (hy := asg) (h := ?_)
    refine nl (h := ?_)
    refine q_seq (h := ?_)
    refine sq (h := ?_)
    refine rg (h := ?_)
    refine WL.y (hy := (by first | exact fa | exact faE)) (h := ?_)
    refine WL.y (hy := (by first | exact ld | exact ldE)) (h := ?_)
    refine WL.y (hy := asg) (h := ?_)
    refine WL.y (hy := asg) (h := ?_)
    refine WL.y (hy := asg) (h := ?_)
    refine nl (h := ?_)
    refine q_seq (h := ?_)
    refine sq (h := ?_)
    refine sq (h := ?_)
    refine rg (h := ?_)
    refine WL.y (hy := asg) (h := ?_)
    refine nl (h := ?_)
    refine q_seq (h := ?_)
    refine bk (h := ?_)
    refine lp (X := M0) (I := fun u => u.k ≤ 1441) (le := fun u => eV q rate b0 bi bl x1 (runTo q rate 0 u.k) u.k) (Le := fun u => eL q a b0 bi bl x1 (runTo q rate 0 u.k)) (μ := fun u => 1441 - u.k) ⟨0⟩ (Nat.zero_le _) (by
      have e1 : (runTo q rate 0 0).free = q.seats := by show q.seats + 0 = _; omega
      have e2 : pasV (runTo q rate 0 0) = -1 := pas_zero rfl
      dsimp only [eV]
      rw [e1, e2]
      repeat (first | exact trivial | refine ⟨rfl, ?_⟩)) (by repeat (first | exact SubL.nil | (apply SubL.cons; (repeat (first | exact At.here | apply At.there))) | exact SubL.refl _ | apply SubL.skip)) (fun u hu => ?_)
    refine sq (h := ?_)
    refine sq (h := ?_)
    refine rg (h := ?_)
    refine WL.y (hy := mv) (h := ?_)
    refine WL.y (hy := leq) (h := ?_)
    refine nl (h := ?_)
    refine q_seq (h := ?_)
    refine cd (by exact rfl) (fun h1 => ?_) (fun h1 => ?_)
    · skip
      have hkm : u.k < 1441 := by simp only [decide_eq_true_eq] at h1; omega
      have hW := run_wt hq (rate := rate) (more := 0) hr.1 u.k
      have hRI := run_ri hq (rate := rate) (more := 0) (by omega) u.k (by omega)
      have hfr := freed_ri hq (by omega) hRI
      have hjr := join_ri hq (by omega) hRI
      have hWj := wt_join hq (by omega) hW
      have hpj := join_pas hW
      have hlj := join_left hW
      rw [show ((u.k : Int) - 1 + 1) = u.k by omega] at hWj hpj hlj
      have hlfj : lfV q (joinV q.gs (ordV q) u.k (freedV q u.k (runTo q rate 0 u.k))) = lfV q (runTo q rate 0 u.k) := lfV_congr fun i _ => hlj i
      have hfx := hRI.ok.f
      have hfree : (joinV q.gs (ordV q) u.k (freedV q u.k (runTo q rate 0 u.k))).free = (runTo q rate 0 u.k).free + freeTo q.fs u.k q.fs.length := rfl
      have hnx : runTo q rate 0 (u.k + 1) = bif decide (q.opn ≤ (u.k : Int)) then passV q.gs u.k rate.toNat rate (joinV q.gs (ordV q) u.k (freedV q u.k (runTo q rate 0 u.k))) else joinV q.gs (ordV q) u.k (freedV q u.k (runTo q rate 0 u.k)) := rfl
      refine skp (h := ?_)
      refine q_seq (h := ?_)
      refine sq (h := ?_)
      refine bk (h := ?_)
      refine sq (h := ?_)
      refine sq (h := ?_)
      refine rg (h := ?_)
      refine WL.y (hy := asg) (h := ?_)
      refine nl (h := ?_)
      refine q_seq (h := ?_)
      refine bk (h := ?_)
      refine lp (X := MM0) (I := fun y => y.k ≤ q.fs.length) (le := fun y => [(1, .int .i64 rate), (2, .pointer (some ⟨b0, 0, none⟩)), (5, .slice (some ⟨bi, 0, none⟩) q.gs.length q.gs.length), (6, .slice (some ⟨bl, 0, none⟩) q.gs.length q.gs.length), (8, .slice x1.1 q.gs.length x1.2), (9, .int .i64 ((runTo q rate 0 u.k).free + freeTo q.fs u.k y.k)), (10, .int .i64 (pasV (runTo q rate 0 u.k))), (11, .int .i64 (runTo q rate 0 u.k).passing), (12, .int .i64 u.k), (13, .int .i64 y.k)]) (Le := fun _ => eL q a b0 bi bl x1 (runTo q rate 0 u.k)) (μ := fun y => q.fs.length - y.k) ⟨0⟩ (Nat.zero_le _) (by repeat (first | exact trivial | refine ⟨rfl, ?_⟩ | refine ⟨by show some (Value.int .i64 (runTo q rate 0 u.k).free) = some (Value.int .i64 ((runTo q rate 0 u.k).free + 0)); rw [Int.add_zero], ?_⟩)) (SubL.refl _) (fun y hy => ?_)
      refine sq (h := ?_)
      refine sq (h := ?_)
      refine rg (h := ?_)
      refine WL.y (hy := mv) (h := ?_)
      refine WL.y (hy := (by first | exact fa | exact faE)) (h := ?_)
      refine WL.y (hy := (by first | exact ld | exact ldE)) (h := ?_)
      refine WL.y (hy := lenS) (h := ?_)
      refine WL.y (hy := lss) (h := ?_)
      refine nl (h := ?_)
      refine q_seq (h := ?_)
      refine cd (by exact rfl) (fun h2 => ?_) (fun h2 => ?_)
      · skip
        have hjn : y.k < q.fs.length := by simp only [decide_eq_true_eq] at h2; omega
        obtain ⟨f, hf1⟩ : ∃ f, q.fs[y.k]? = some f := ⟨_, List.getElem?_eq_getElem hjn⟩
        have hfe := encF_at hf1
        have hfo := hq.fe f (List.mem_of_getElem? hf1)
        simp only [feOk, isT, Bool.and_eq_true, win_iff] at hfo
        have hft := freeTo_rng hq u.k y.k (by omega)
        have hfs1 := freeTo_succ (m := (u.k : Int)) hf1
        refine skp (h := ?_)
        refine q_seq (h := ?_)
        refine sq (h := ?_)
        refine bk (h := ?_)
        refine sq (h := ?_)
        refine rg (h := ?_)
        refine WL.y (hy := (by first | exact fa | exact faE)) (h := ?_)
        refine WL.y (hy := (by first | exact ld | exact ldE)) (h := ?_)
        refine WL.y (hy := mv) (h := ?_)
        refine WL.y (hy := ix (A := a.fA)) (h := ?_)
        refine WL.y (hy := (by first | exact fa | exact faE)) (h := ?_)
        refine WL.y (hy := ldE (A := a.fA) (hk := hfe)) (h := ?_)
        refine WL.y (hy := mv) (h := ?_)
        refine WL.y (hy := eql) (h := ?_)
        refine nl (h := ?_)
        refine q_seq (h := ?_)
        refine cd (by exact rfl) (fun h3 => ?_) (fun h3 => ?_)
        · skip
          have hfs2 : (runTo q rate 0 u.k).free + freeTo q.fs u.k (y.k + 1) = (runTo q rate 0 u.k).free + freeTo q.fs u.k y.k + f.2 := by rw [hfs1, h3]; simp only [cond_true]; omega
          refine rg (h := ?_)
          refine WL.y (hy := mv) (h := ?_)
          refine WL.y (hy := (by first | exact fa | exact faE)) (h := ?_)
          refine WL.y (hy := (by first | exact ld | exact ldE)) (h := ?_)
          refine WL.y (hy := mv) (h := ?_)
          refine WL.y (hy := ix (A := a.fA)) (h := ?_)
          refine WL.y (hy := (by first | exact fa | exact faE)) (h := ?_)
          refine WL.y (hy := ldE (A := a.fA) (hk := hfe)) (h := ?_)
          refine WL.y (hy := addI) (h := ?_)
          refine WL.y (hy := asg) (h := ?_)
          refine nl (h := ?_)
          refine q_blk_norm (h := ?_)
          refine q_seq (h := ?_)
          refine rg (h := ?_)
          refine WL.y (hy := mv) (h := ?_)
          refine WL.y (hy := addI) (h := ?_)
          refine WL.y (hy := asg) (h := ?_)
          refine nl (h := ?_)
          refine rn (x := y) ⟨y.k + 1⟩ (by dsimp only; omega) (by dsimp only; omega) (by dsimp only; rw [hfs2]; repeat (first | exact trivial | refine ⟨rfl, ?_⟩)) (SubL.refl _)
        · skip
          have hfs2 : (runTo q rate 0 u.k).free + freeTo q.fs u.k (y.k + 1) = (runTo q rate 0 u.k).free + freeTo q.fs u.k y.k := by rw [hfs1, h3]; simp only [cond_false]; omega
          refine skp (h := ?_)
          refine q_blk_norm (h := ?_)
          refine q_seq (h := ?_)
          refine rg (h := ?_)
          refine WL.y (hy := mv) (h := ?_)
          refine WL.y (hy := addI) (h := ?_)
          refine WL.y (hy := asg) (h := ?_)
          refine nl (h := ?_)
          refine rn (x := y) ⟨y.k + 1⟩ (by dsimp only; omega) (by dsimp only; omega) (by dsimp only; rw [hfs2]; repeat (first | exact trivial | refine ⟨rfl, ?_⟩)) (SubL.refl _)
      · skip
        have hjn : y.k = q.fs.length := by simp only [decide_eq_false_iff_not] at h2; omega
        rw [hjn]
        refine et (h := ?_)
        refine q_then_exit (h := ?_)
        refine q_then_exit (h := ?_)
        refine q_blk_hit (h := ?_)
        refine q_seq (h := ?_)
        refine sq (h := ?_)
        refine rg (h := ?_)
        refine WL.y (hy := mv) (h := ?_)
        refine WL.y (hy := asg) (h := ?_)
        refine nl (h := ?_)
        refine q_seq (h := ?_)
        refine bk (h := ?_)
        refine lp (X := PZ) (I := fun v => (0 ≤ v.can ∧ v.can ≤ rate) ∧ Wt q u.k v.s ∧ v.s.Ok q ∧ (q.opn ≤ (u.k : Int) → passV q.gs u.k v.can.toNat v.can v.s = runTo q rate 0 (u.k + 1)) ∧ (¬ q.opn ≤ (u.k : Int) → v.s = runTo q rate 0 (u.k + 1))) (le := fun v => (14, .int .i64 v.can) :: eV q rate b0 bi bl x1 v.s u.k) (Le := fun v => eL q a b0 bi bl x1 v.s) (μ := fun v => 2 * v.can.toNat + (if 0 < v.s.passing then 0 else 1)) ⟨rate, joinV q.gs (ordV q) u.k (freedV q u.k (runTo q rate 0 u.k))⟩ ⟨⟨hr.1, Int.le_refl _⟩, hWj, hjr.ok, fun ho => by rw [hnx, decide_eq_true ho]; rfl, fun ho => by rw [hnx, decide_eq_false ho]; rfl⟩ (by
          dsimp only [eV]
          rw [hfree, hpj]
          repeat (first | exact trivial | refine ⟨rfl, ?_⟩)) (by
          dsimp only [eL]
          rw [hlfj]
          exact SubL.refl _) (fun v hv => ?_)
        obtain ⟨hv1, hv2, hv3, hv4, hv6⟩ := hv
        dsimp only [eV]
        refine sq (h := ?_)
        refine sq (h := ?_)
        refine rg (h := ?_)
        refine WL.y (hy := mv) (h := ?_)
        refine WL.y (hy := gtr) (h := ?_)
        refine WL.y (hy := mv) (h := ?_)
        apply brAnd 5 70 75 (by exact rfl)
        · intro hb4
          refine un (h := ?_)
          refine WL.y (hy := mv) (h := ?_)
          refine un (h := ?_)
          refine WL.y (hy := (by first | exact fa | exact faE)) (h := ?_)
          refine un (h := ?_)
          refine WL.y (hy := (by first | exact ld | exact ldE)) (h := ?_)
          refine un (h := ?_)
          refine WL.y (hy := geq) (h := ?_)
          refine WL.y (hy := (by first | exact pkT | exact pkF)) (h := ?_)
          exact mg (by repeat (first | exact trivial | refine ⟨rfl, ?_⟩ | refine ⟨by rw [hb4]; rfl, ?_⟩)) (by repeat (first | exact SubL.nil | (apply SubL.cons; (repeat (first | exact At.here | apply At.there))) | exact SubL.refl _ | apply SubL.skip))
        · intro hb4
          repeat (first | refine un (h := ?_) | refine sk (h := ?_) | refine WL.y (hy := pkF) (h := ?_) | refine WL.y (hy := pkT) (h := ?_))
          exact mg (by repeat (first | exact trivial | refine ⟨rfl, ?_⟩ | refine ⟨by rw [hb4]; rfl, ?_⟩)) (by repeat (first | exact SubL.nil | (apply SubL.cons; (repeat (first | exact At.here | apply At.there))) | exact SubL.refl _ | apply SubL.skip))
        refine nl (h := ?_)
        refine q_seq (h := ?_)
        refine cd (by exact rfl) (fun h5 => ?_) (fun h5 => ?_)
        · skip
          obtain ⟨hc0, hop⟩ : 0 < v.can ∧ q.opn ≤ (u.k : Int) := by simpa only [Bool.and_eq_true, decide_eq_true_eq] using h5
          have hv5 := hv4 hop
          obtain ⟨hpg1, hpg2⟩ := pas_ge hv2
          have hvp := hv3.p
          have hvf := hv3.f
          refine skp (h := ?_)
          refine q_seq (h := ?_)
          refine bk (h := ?_)
          refine sq (h := ?_)
          refine sq (h := ?_)
          refine rg (h := ?_)
          refine WL.y (hy := mv) (h := ?_)
          refine WL.y (hy := geq) (h := ?_)
          refine nl (h := ?_)
          refine q_seq (h := ?_)
          refine cd (by exact rfl) (fun h6 => ?_) (fun h6 => ?_)
          · skip
            obtain ⟨i, t, hws, hpp, hpi, hir, hini⟩ := hpg1 (of_decide_eq_true h6)
            obtain ⟨hpa, hok'⟩ := passV_adv (minute := (u.k : Int)) hq hv3 hws hc0 hpp
            have hWa := wt_adv hq hv2 hop hc0 hws hpp
            have hla : lfV q (advS u.k v.can i t v.s) = lfV q v.s := lfV_congr fun j hj => left_adv hq hv2 hop hws hpp j hj
            have hadv := adv_cases (u.k : Int) v.can i t v.s
            have hil : v.s.inn.length = q.gs.length := hv3.inn
            have hine : (enI v.s.inn)[i.toNat]? = some [.int .i64 (-1)] := enI_at (by
              unfold inAt at hini
              rw [List.getD_eq_getElem?_getD, List.getElem?_eq_getElem (by omega)] at hini
              rw [List.getElem?_eq_getElem (by omega)]; exact congrArg some hini)
            have hins : (enI v.s.inn).set i.toNat ([Value.int .i64 (-1)].set 0 (.int .i64 (u.k : Int))) = enI (v.s.inn.set i.toNat u.k) := enI_set _ _ _
            rw [hpi]
            refine sq (h := ?_)
            refine rg (h := ?_)
            refine WL.y (hy := mv) (h := ?_)
            refine WL.y (hy := mv) (h := ?_)
            refine WL.y (hy := minI) (h := ?_)
            refine WL.y (hy := asg) (h := ?_)
            refine nl (h := ?_)
            refine q_seq (h := ?_)
            refine sq (h := ?_)
            refine rg (h := ?_)
            refine WL.y (hy := mv) (h := ?_)
            refine WL.y (hy := mv) (h := ?_)
            refine WL.y (hy := subI) (h := ?_)
            refine WL.y (hy := asg) (h := ?_)
            refine nl (h := ?_)
            refine q_seq (h := ?_)
            refine sq (h := ?_)
            refine rg (h := ?_)
            refine WL.y (hy := mv) (h := ?_)
            refine WL.y (hy := mv) (h := ?_)
            refine WL.y (hy := subI) (h := ?_)
            refine WL.y (hy := asg) (h := ?_)
            refine nl (h := ?_)
            refine q_seq (h := ?_)
            refine sq (h := ?_)
            refine sq (h := ?_)
            refine rg (h := ?_)
            refine WL.y (hy := mv) (h := ?_)
            refine WL.y (hy := eql) (h := ?_)
            refine nl (h := ?_)
            refine q_seq (h := ?_)
            refine cd (by exact rfl) (fun h7 => ?_) (fun h7 => ?_)
            · skip
              obtain ⟨e0, e1⟩ : v.s.passing - min v.can v.s.passing = 0 ∧ advS u.k v.can i t v.s = ⟨v.s.free, 0, t, v.s.inn.set i.toNat u.k⟩ := by
                have e0 := of_decide_eq_true h7
                rcases hadv with h | h
                · exact h
                · exact absurd e0 h.1
              have e2 : pasV (advS u.k v.can i t v.s) = -1 := by rw [e1]; exact pas_zero rfl
              refine sq (h := ?_)
              refine rg (h := ?_)
              refine WL.y (hy := mv) (h := ?_)
              refine WL.y (hy := mv) (h := ?_)
              refine WL.y (hy := mv) (h := ?_)
              refine WL.y (hy := ix (A := some ⟨bi, 0, none⟩)) (h := ?_)
              refine stE (A := some ⟨bi, 0, none⟩) (hk := hine) (h := ?_)
              rw [hins]
              refine nl (h := ?_)
              refine q_seq (h := ?_)
              refine rg (h := ?_)
              refine WL.y (hy := asg) (h := ?_)
              refine nl (h := ?_)
              refine q_seq (h := ?_)
              refine et (h := ?_)
              refine q_then_exit (h := ?_)
              refine q_blk_hit (h := ?_)
              first
                | (refine rn (x := v) ⟨v.can - min v.can v.s.passing, advS u.k v.can i t v.s⟩ ⟨by dsimp only; omega, hWa, hok', fun _ => by rw [← hv5]; exact hpa, fun ho => absurd hop ho⟩ (by dsimp only; rw [if_pos hpp]; split <;> omega) (by dsimp only [eV]; rw [e2, e1]; repeat (first | exact trivial | refine ⟨rfl, ?_⟩ | refine ⟨by show some (Value.int .i64 (v.s.passing - min v.can v.s.passing)) = some (Value.int .i64 0); rw [e0], ?_⟩)) (by dsimp only [eL]; rw [hla, e1]; repeat (first | exact SubL.nil | (apply SubL.cons; (repeat (first | exact At.here | apply At.there))) | exact SubL.refl _ | apply SubL.skip)))
                | (refine rn (x := v) ⟨v.can, begS q.gs c v.s⟩ ⟨hv1, hWb, hkb, fun _ => by rw [← hv5]; exact hpb, fun ho => absurd hop ho⟩ (by dsimp only; rw [if_pos (by omega), if_neg (by omega)]; omega) (by dsimp only [eV]; rw [hpas, hbf, hbp]; repeat (first | exact trivial | refine ⟨rfl, ?_⟩)) (by repeat (first | exact SubL.nil | (apply SubL.cons; (repeat (first | exact At.here | apply At.there))) | exact SubL.refl _ | apply SubL.skip)))
            · skip
              obtain ⟨e0, e1⟩ : v.s.passing - min v.can v.s.passing ≠ 0 ∧ advS u.k v.can i t v.s = ⟨v.s.free, v.s.passing - min v.can v.s.passing, v.s.ws, v.s.inn⟩ := by
                have e0 := of_decide_eq_false h7
                rcases hadv with h | h
                · exact absurd h.1 e0
                · exact h
              have e2 : pasV (advS u.k v.can i t v.s) = i := by rw [e1]; exact pas_pos (t := t) (by show 0 < v.s.passing - min v.can v.s.passing; omega) hws
              refine skp (h := ?_)
              refine q_seq (h := ?_)
              refine et (h := ?_)
              refine q_then_exit (h := ?_)
              refine q_blk_hit (h := ?_)
              first
                | (refine rn (x := v) ⟨v.can - min v.can v.s.passing, advS u.k v.can i t v.s⟩ ⟨by dsimp only; omega, hWa, hok', fun _ => by rw [← hv5]; exact hpa, fun ho => absurd hop ho⟩ (by dsimp only; rw [if_pos hpp]; split <;> omega) (by dsimp only [eV]; rw [e2, e1]; repeat (first | exact trivial | refine ⟨rfl, ?_⟩ | refine ⟨by show some (Value.int .i64 (v.s.passing - min v.can v.s.passing)) = some (Value.int .i64 0); rw [e0], ?_⟩)) (by dsimp only [eL]; rw [hla, e1]; repeat (first | exact SubL.nil | (apply SubL.cons; (repeat (first | exact At.here | apply At.there))) | exact SubL.refl _ | apply SubL.skip)))
                | (refine rn (x := v) ⟨v.can, begS q.gs c v.s⟩ ⟨hv1, hWb, hkb, fun _ => by rw [← hv5]; exact hpb, fun ho => absurd hop ho⟩ (by dsimp only; rw [if_pos (by omega), if_neg (by omega)]; omega) (by dsimp only [eV]; rw [hpas, hbf, hbp]; repeat (first | exact trivial | refine ⟨rfl, ?_⟩)) (by repeat (first | exact SubL.nil | (apply SubL.cons; (repeat (first | exact At.here | apply At.there))) | exact SubL.refl _ | apply SubL.skip)))
          · skip
            have hp0 : v.s.passing = 0 := hpg2 (of_decide_eq_false h6)
            have hfst := first_eq hv2 hp0
            have hol := ordV_len q
            refine skp (h := ?_)
            refine q_seq (h := ?_)
            refine sq (h := ?_)
            refine rg (h := ?_)
            refine WL.y (hy := asg) (h := ?_)
            refine nl (h := ?_)
            refine q_seq (h := ?_)
            refine sq (h := ?_)
            refine sq (h := ?_)
            refine rg (h := ?_)
            refine WL.y (hy := mv) (h := ?_)
            refine WL.y (hy := lenS) (h := ?_)
            refine WL.y (hy := subI) (h := ?_)
            refine WL.y (hy := asg) (h := ?_)
            refine nl (h := ?_)
            refine q_seq (h := ?_)
            refine bk (h := ?_)
            refine lpC (X := Nat) (I := fun g => g ≤ q.gs.length) (le := fun g => [(1, .int .i64 rate), (2, .pointer (some ⟨b0, 0, none⟩)), (5, .slice (some ⟨bi, 0, none⟩) q.gs.length q.gs.length), (6, .slice (some ⟨bl, 0, none⟩) q.gs.length q.gs.length), (8, .slice x1.1 q.gs.length x1.2), (9, .int .i64 v.s.free), (10, .int .i64 (pasV v.s)), (11, .int .i64 v.s.passing), (12, .int .i64 u.k), (14, .int .i64 v.can), (16, .int .i64 ((((ordV q).drop g).filter (fun i => !leftV v.s i && waitV q.gs u.k i)).headD (-1))), (17, .int .i64 ((g : Int) - 1))]) (μ := fun g => g) q.gs.length (Nat.le_refl _) (by
              rw [List.drop_of_length_le (by omega)]
              repeat (first | exact trivial | refine ⟨rfl, ?_⟩)) (fun g hg' => ?_)
            refine sq (h := ?_)
            refine sq (h := ?_)
            refine rg (h := ?_)
            refine WL.y (hy := mv) (h := ?_)
            refine WL.y (hy := geq) (h := ?_)
            refine nl (h := ?_)
            refine q_seq (h := ?_)
            refine cd (by exact rfl) (fun h8 => ?_) (fun h8 => ?_)
            · skip
              obtain ⟨m, rfl⟩ : ∃ m, g = m + 1 := ⟨g - 1, by have := of_decide_eq_true h8; omega⟩
              obtain ⟨c, hc⟩ : ∃ c, (ordV q)[m]? = some c := ⟨_, List.getElem?_eq_getElem (by omega)⟩
              have hcr := ordV_mem.1 (List.mem_of_getElem? hc)
              have hce := enI_at hc
              have hm1 : (((m + 1 : Nat) : Int) - 1).toNat = m := by omega
              rw [← hm1] at hce
              have hlc := encB_at (lfV_at (s := v.s) hcr)
              obtain ⟨gp, hgp⟩ : ∃ g, q.gs[c.toNat]? = some g := ⟨_, List.getElem?_eq_getElem (by omega)⟩
              have hgpe := encPt_at hgp
              have hwp := waitP_eq (m := (u.k : Int)) hgp
              have hdr : (ordV q).drop m = c :: (ordV q).drop (m + 1) := by
                rw [List.drop_eq_getElem_cons (by omega)]
                congr 1
                rw [List.getElem?_eq_getElem (by omega)] at hc
                injection hc
              refine skp (h := ?_)
              refine q_seq (h := ?_)
              refine sq (h := ?_)
              refine bk (h := ?_)
              refine sq (h := ?_)
              refine rg (h := ?_)
              refine WL.y (hy := mv) (h := ?_)
              refine WL.y (hy := mv) (h := ?_)
              refine WL.y (hy := ix (A := x1.1)) (h := ?_)
              refine WL.y (hy := ldE (A := x1.1) (hk := hce)) (h := ?_)
              refine WL.y (hy := asg) (h := ?_)
              refine nl (h := ?_)
              refine q_seq (h := ?_)
              refine sq (h := ?_)
              refine rg (h := ?_)
              refine WL.y (hy := mv) (h := ?_)
              refine WL.y (hy := mv) (h := ?_)
              refine WL.y (hy := ix (A := some ⟨bl, 0, none⟩)) (h := ?_)
              refine WL.y (hy := ldE (A := some ⟨bl, 0, none⟩) (hk := hlc)) (h := ?_)
              refine WL.y (hy := notB) (h := ?_)
              refine WL.y (hy := mv) (h := ?_)
              apply brAnd 8 109 117 (by exact rfl)
              · intro hb9
                refine un (h := ?_)
                refine WL.y (hy := (by first | exact fa | exact faE)) (h := ?_)
                refine un (h := ?_)
                refine WL.y (hy := (by first | exact ld | exact ldE)) (h := ?_)
                refine un (h := ?_)
                refine WL.y (hy := mv) (h := ?_)
                refine un (h := ?_)
                refine WL.y (hy := ix (A := a.gA)) (h := ?_)
                refine un (h := ?_)
                refine WL.y (hy := ldEA (A := a.gA) (hk := hgpe)) (h := ?_)
                refine un (h := ?_)
                refine WL.y (hy := mv) (h := ?_)
                refine un (h := ?_)
                refine cl0 (hc := fun w hS => C_ref11_waits gp u.k w) (h := ?_)
                refine WL.y (hy := (by first | exact pkT | exact pkF)) (h := ?_)
                exact mg (by repeat (first | exact trivial | refine ⟨rfl, ?_⟩ | refine ⟨by rw [hb9]; rfl, ?_⟩)) (by repeat (first | exact SubL.nil | (apply SubL.cons; (repeat (first | exact At.here | apply At.there))) | exact SubL.refl _ | apply SubL.skip))
              · intro hb9
                repeat (first | refine un (h := ?_) | refine sk (h := ?_) | refine WL.y (hy := pkF) (h := ?_) | refine WL.y (hy := pkT) (h := ?_))
                exact mg (by repeat (first | exact trivial | refine ⟨rfl, ?_⟩ | refine ⟨by rw [hb9]; rfl, ?_⟩)) (by repeat (first | exact SubL.nil | (apply SubL.cons; (repeat (first | exact At.here | apply At.there))) | exact SubL.refl _ | apply SubL.skip))
              refine nl (h := ?_)
              refine q_seq (h := ?_)
              refine cd (by exact rfl) (fun h10 => ?_) (fun h10 => ?_)
              · skip
                have hnf : ((ordV q).drop m).filter (fun i => !leftV v.s i && waitV q.gs u.k i) = c :: ((ordV q).drop (m + 1)).filter (fun i => !leftV v.s i && waitV q.gs u.k i) := by rw [hwp] at h10; rw [hdr, List.filter_cons, if_pos h10]
                have hnh : (((ordV q).drop m).filter (fun i => !leftV v.s i && waitV q.gs u.k i)).headD (-1) = c := by rw [hnf]; rfl
                refine rg (h := ?_)
                refine WL.y (hy := mv) (h := ?_)
                refine WL.y (hy := asg) (h := ?_)
                refine nl (h := ?_)
                refine q_blk_norm (h := ?_)
                refine q_seq (h := ?_)
                refine rg (h := ?_)
                refine WL.y (hy := mv) (h := ?_)
                refine WL.y (hy := subI) (h := ?_)
                refine WL.y (hy := asg) (h := ?_)
                refine nl (h := ?_)
                refine rn (x := m + 1) m (by omega) (by omega) (by rw [hnh]; repeat (first | exact trivial | refine ⟨rfl, ?_⟩ | refine ⟨by show some (Value.int .i64 (((m + 1 : Nat) : Int) - 1 - 1)) = some (Value.int .i64 ((m : Int) - 1)); congr 2; omega, ?_⟩)) (SubL.refl _)
              · skip
                have hnf : ((ordV q).drop m).filter (fun i => !leftV v.s i && waitV q.gs u.k i) = ((ordV q).drop (m + 1)).filter (fun i => !leftV v.s i && waitV q.gs u.k i) := by rw [hwp] at h10; rw [hdr, List.filter_cons, if_neg (by rw [h10]; decide)]
                have hnh : (((ordV q).drop m).filter (fun i => !leftV v.s i && waitV q.gs u.k i)).headD (-1) = (((ordV q).drop (m + 1)).filter (fun i => !leftV v.s i && waitV q.gs u.k i)).headD (-1) := by rw [hnf]
                refine skp (h := ?_)
                refine q_blk_norm (h := ?_)
                refine q_seq (h := ?_)
                refine rg (h := ?_)
                refine WL.y (hy := mv) (h := ?_)
                refine WL.y (hy := subI) (h := ?_)
                refine WL.y (hy := asg) (h := ?_)
                refine nl (h := ?_)
                refine rn (x := m + 1) m (by omega) (by omega) (by rw [hnh]; repeat (first | exact trivial | refine ⟨rfl, ?_⟩ | refine ⟨by show some (Value.int .i64 (((m + 1 : Nat) : Int) - 1 - 1)) = some (Value.int .i64 ((m : Int) - 1)); congr 2; omega, ?_⟩)) (SubL.refl _)
            · skip
              obtain rfl : g = 0 := by have := of_decide_eq_false h8; omega
              obtain ⟨c, hc⟩ : ∃ c, c = v.s.ws.headD (-1) := ⟨_, rfl⟩
              rw [List.drop_zero, ← hfst, ← hc]
              obtain ⟨G, hG⟩ : ∃ G : Pt, G = (q.gs[c.toNat]?).getD ⟨0, 0, 0, 0⟩ := ⟨_, rfl⟩
              have hcc : c < 0 ∨ ∃ t, v.s.ws = c :: t ∧ (0 ≤ c ∧ c < q.gs.length) := by
                cases hws : v.s.ws with
                | nil => left; rw [hc, hws]; decide
                | cons i t =>
                  right
                  have : c = i := by rw [hc, hws]; rfl
                  subst this
                  exact ⟨t, rfl, (hv2.first hws hp0).2.1⟩
              refine et (h := ?_)
              refine q_then_exit (h := ?_)
              refine q_then_exit (h := ?_)
              refine q_blk_hit (h := ?_)
              refine q_seq (h := ?_)
              refine sq (h := ?_)
              refine sq (h := ?_)
              refine rg (h := ?_)
              refine WL.y (hy := mv) (h := ?_)
              refine WL.y (hy := lss) (h := ?_)
              refine WL.y (hy := mv) (h := ?_)
              apply brOr 9 121 130 (by exact rfl)
              · intro hb11
                obtain ⟨t, hws, hcr⟩ : ∃ t, v.s.ws = c :: t ∧ (0 ≤ c ∧ c < q.gs.length) := by
                  rcases hcc with hc0' | h
                  · exact absurd hc0' (of_decide_eq_false hb11)
                  · exact h
                have hGe : (encPt q.gs)[c.toNat]? = some G.enc := encPt_at (by rw [hG, List.getElem?_eq_getElem (by omega)]; rfl)
                refine un (h := ?_)
                refine WL.y (hy := (by first | exact fa | exact faE)) (h := ?_)
                refine un (h := ?_)
                refine WL.y (hy := (by first | exact ld | exact ldE)) (h := ?_)
                refine un (h := ?_)
                refine WL.y (hy := mv) (h := ?_)
                refine un (h := ?_)
                refine WL.y (hy := ix (A := a.gA)) (h := ?_)
                refine un (h := ?_)
                refine WL.y (hy := (by first | exact fa | exact faE)) (h := ?_)
                refine un (h := ?_)
                refine WL.y (hy := ldE (A := a.gA) (hk := hGe)) (h := ?_)
                refine un (h := ?_)
                refine WL.y (hy := mv) (h := ?_)
                refine un (h := ?_)
                refine WL.y (hy := gtr) (h := ?_)
                refine WL.y (hy := (by first | exact pkT | exact pkF)) (h := ?_)
                exact mg (by repeat (first | exact trivial | refine ⟨rfl, ?_⟩ | refine ⟨by rw [hb11]; rfl, ?_⟩)) (by repeat (first | exact SubL.nil | (apply SubL.cons; (repeat (first | exact At.here | apply At.there))) | exact SubL.refl _ | apply SubL.skip))
              · intro hb11
                repeat (first | refine un (h := ?_) | refine sk (h := ?_) | refine WL.y (hy := pkF) (h := ?_) | refine WL.y (hy := pkT) (h := ?_))
                exact mg (by repeat (first | exact trivial | refine ⟨rfl, ?_⟩ | refine ⟨by rw [hb11]; rfl, ?_⟩)) (by repeat (first | exact SubL.nil | (apply SubL.cons; (repeat (first | exact At.here | apply At.there))) | exact SubL.refl _ | apply SubL.skip))
              refine nl (h := ?_)
              refine q_seq (h := ?_)
              refine cd (by exact rfl) (fun h12 => ?_) (fun h12 => ?_)
              · skip
                have hF : v.s = runTo q rate 0 (u.k + 1) := by
                  rw [← hv5]
                  simp only [Bool.or_eq_true, decide_eq_true_eq] at h12
                  rcases hcc with hc0' | ⟨t, hws, hcr⟩
                  · rw [passV_stop (.inr ?_)]
                    cases hws : v.s.ws with
                    | nil => rfl
                    | cons i t =>
                      exfalso
                      have : c = i := by rw [hc, hws]; rfl
                      have := (hv2.first hws hp0).2.1
                      omega
                  · have hsz : szV q.gs c = G.size := by rw [szV, hG, List.getElem?_eq_getElem (by omega)]; rfl
                    rw [passV_halt hws]
                    unfold stopV
                    rw [decide_eq_true hp0, hsz, decide_eq_true (by omega)]; rfl
                refine et (h := ?_)
                refine q_then_exit (h := ?_)
                refine q_blk_miss (h := ?_)
                refine q_then_exit (h := ?_)
                refine q_blk_hit (h := ?_)
                refine q_blk_norm (h := ?_)
                refine q_seq (h := ?_)
                refine rg (h := ?_)
                refine WL.y (hy := mv) (h := ?_)
                refine WL.y (hy := addI) (h := ?_)
                refine WL.y (hy := asg) (h := ?_)
                refine nl (h := ?_)
                refine rn (x := u) ⟨u.k + 1⟩ (by dsimp only; omega) (by dsimp only; omega) (by dsimp only [eV]; rw [← hF]; repeat (first | exact trivial | refine ⟨rfl, ?_⟩)) (by dsimp only [eL]; rw [← hF]; repeat (first | exact SubL.nil | (apply SubL.cons; (repeat (first | exact At.here | apply At.there))) | exact SubL.refl _ | apply SubL.skip))
              · skip
                obtain ⟨hc1, hc2⟩ : ¬ c < 0 ∧ ¬ v.s.free < G.size := by simpa only [Bool.or_eq_false_iff, decide_eq_false_iff_not] using h12
                obtain ⟨t, hws, hcr⟩ : ∃ t, v.s.ws = c :: t ∧ (0 ≤ c ∧ c < q.gs.length) := by
                  rcases hcc with hc0' | h
                  · exact absurd hc0' hc1
                  · exact h
                have hGe : (encPt q.gs)[c.toNat]? = some G.enc := encPt_at (by rw [hG, List.getElem?_eq_getElem (by omega)]; rfl)
                have hsz : szV q.gs c = G.size := by rw [szV, hG, List.getElem?_eq_getElem (by omega)]; rfl
                have hszr := szV_rng hq hcr
                rw [hsz] at hszr
                have hlc := encB_at (lfV_at (s := v.s) hcr)
                have hls := lf_beg hq hv2 hws hp0
                obtain ⟨hWb, hpos⟩ := wt_beg hq hv2 hws hp0
                have hkb := beg_ok hq hv2 hv3 hws hp0 (by omega)
                have hpb := passV_beg (minute := (u.k : Int)) hws hc0 hp0 (by omega) hpos
                have hpas : pasV (begS q.gs c v.s) = c := pas_pos (t := t) hpos hws
                have hbf : (begS q.gs c v.s).free = v.s.free - G.size := by show v.s.free - szV q.gs c = _; rw [hsz]
                have hbp : (begS q.gs c v.s).passing = G.size := hsz
                refine skp (h := ?_)
                refine q_seq (h := ?_)
                refine sq (h := ?_)
                refine rg (h := ?_)
                refine WL.y (hy := mv) (h := ?_)
                refine WL.y (hy := mv) (h := ?_)
                refine WL.y (hy := ix (A := some ⟨bl, 0, none⟩)) (h := ?_)
                refine stE (A := some ⟨bl, 0, none⟩) (hk := hlc) (h := ?_)
                rw [hls]
                refine nl (h := ?_)
                refine q_seq (h := ?_)
                refine sq (h := ?_)
                refine rg (h := ?_)
                refine WL.y (hy := mv) (h := ?_)
                refine WL.y (hy := (by first | exact fa | exact faE)) (h := ?_)
                refine WL.y (hy := (by first | exact ld | exact ldE)) (h := ?_)
                refine WL.y (hy := mv) (h := ?_)
                refine WL.y (hy := ix (A := a.gA)) (h := ?_)
                refine WL.y (hy := (by first | exact fa | exact faE)) (h := ?_)
                refine WL.y (hy := ldE (A := a.gA) (hk := hGe)) (h := ?_)
                refine WL.y (hy := subI) (h := ?_)
                refine WL.y (hy := asg) (h := ?_)
                refine nl (h := ?_)
                refine q_seq (h := ?_)
                refine rgD0 (by kernel_rfl) (h := ?_)
                refine tk 0 (hy := mv) (h := ?_)
                refine tk 1 (hy := (by first | exact fa | exact faE)) (h := ?_)
                refine tk 2 (hy := (by first | exact ld | exact ldE)) (h := ?_)
                refine tk 3 (hy := mv) (h := ?_)
                refine tk 4 (hy := ix (A := a.gA)) (h := ?_)
                refine tk 5 (hy := (by first | exact fa | exact faE)) (h := ?_)
                refine tk 6 (hy := ldE (A := a.gA) (hk := hGe)) (h := ?_)
                refine tk 7 (hy := asg) (h := ?_)
                refine tk 8 (hy := asg) (h := ?_)
                refine dn (h := ?_)
                refine q_blk_norm (h := ?_)
                first
                  | (refine rn (x := v) ⟨v.can - min v.can v.s.passing, advS u.k v.can i t v.s⟩ ⟨by dsimp only; omega, hWa, hok', fun _ => by rw [← hv5]; exact hpa, fun ho => absurd hop ho⟩ (by dsimp only; rw [if_pos hpp]; split <;> omega) (by dsimp only [eV]; rw [e2, e1]; repeat (first | exact trivial | refine ⟨rfl, ?_⟩ | refine ⟨by show some (Value.int .i64 (v.s.passing - min v.can v.s.passing)) = some (Value.int .i64 0); rw [e0], ?_⟩)) (by dsimp only [eL]; rw [hla, e1]; repeat (first | exact SubL.nil | (apply SubL.cons; (repeat (first | exact At.here | apply At.there))) | exact SubL.refl _ | apply SubL.skip)))
                  | (refine rn (x := v) ⟨v.can, begS q.gs c v.s⟩ ⟨hv1, hWb, hkb, fun _ => by rw [← hv5]; exact hpb, fun ho => absurd hop ho⟩ (by dsimp only; rw [if_pos (by omega), if_neg (by omega)]; omega) (by dsimp only [eV]; rw [hpas, hbf, hbp]; repeat (first | exact trivial | refine ⟨rfl, ?_⟩)) (by repeat (first | exact SubL.nil | (apply SubL.cons; (repeat (first | exact At.here | apply At.there))) | exact SubL.refl _ | apply SubL.skip)))
        · skip
          have hF : v.s = runTo q rate 0 (u.k + 1) := by
            by_cases hop : q.opn ≤ (u.k : Int)
            · rw [← hv4 hop]
              have : ¬ 0 < v.can := by
                intro hc
                rw [decide_eq_true hc, decide_eq_true hop] at h5; cases h5
              rw [passV_stop (.inl (by omega))]
            · exact hv6 hop
          refine et (h := ?_)
          refine q_then_exit (h := ?_)
          refine q_then_exit (h := ?_)
          refine q_blk_hit (h := ?_)
          refine q_blk_norm (h := ?_)
          refine q_seq (h := ?_)
          refine rg (h := ?_)
          refine WL.y (hy := mv) (h := ?_)
          refine WL.y (hy := addI) (h := ?_)
          refine WL.y (hy := asg) (h := ?_)
          refine nl (h := ?_)
          refine rn (x := u) ⟨u.k + 1⟩ (by dsimp only; omega) (by dsimp only; omega) (by dsimp only [eV]; rw [← hF]; repeat (first | exact trivial | refine ⟨rfl, ?_⟩)) (by dsimp only [eL]; rw [← hF]; repeat (first | exact SubL.nil | (apply SubL.cons; (repeat (first | exact At.here | apply At.there))) | exact SubL.refl _ | apply SubL.skip))
    · skip
      have hkm : u.k = 1441 := by simp only [decide_eq_false_iff_not] at h1; omega
      have hfin : (runTo q rate 0 u.k).inn = runV q rate 0 := by rw [hkm]; rfl
      dsimp only [eL]
      rw [hfin]
      refine et (h := ?_)
      refine q_then_exit (h := ?_)
      refine q_then_exit (h := ?_)
      refine q_blk_hit (h := ?_)
      refine q_seq (h := ?_)
      refine sq (h := ?_)
      refine rg (h := ?_)
      refine WL.y (hy := mv) (h := ?_)
      refine WL.y (hy := asg) (h := ?_)
      refine nl (h := ?_)
      refine q_seq (h := ?_)
      refine rtn (h := ?_)
      refine q_ret (hR := ?_)
      exact fun w hS => ⟨(some ⟨bi, 0, none⟩, q.gs.length), trivial, rfl, hS.sub (by repeat (first | exact SubL.nil | (apply SubL.cons; (repeat (first | exact At.here | apply At.there))) | exact SubL.refl _ | apply SubL.skip))⟩
end Go.Proofs.Ytbcclgfobiholaa
