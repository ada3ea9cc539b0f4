/- Least of the document, walked: it is the program's. -/
import Derived.Test.YtacaojifempclaaUJ
namespace Go.Proofs.Ytacaojifempclaa
open Go Go.RowKit

section
variable {f : Fmt} {b : Brd}
theorem sets_won {tb : Pr → Tb} (htb : TbOk f tb) (hf : f.Ok) (hb : brdOk b = true) (hok : (setsTo tb f b.st b.st.length).ok = true) : ∀ k, k ≤ b.st.length → (setsTo tb f b.st k).won = wonTo b.st k
  | 0, _ => rfl
  | k + 1, hk => by
    have ih := sets_won htb hf hb hok k (by omega)
    have ho : ∀ j, j ≤ b.st.length → (setsTo tb f b.st j).ok = true := fun j hj => by
      cases e : (setsTo tb f b.st j).ok
      · rw [setsTo_stop e hj, e] at hok; cases hok
      · rfl
    have hp : b.st[k]? = some b.st[k] := List.getElem?_eq_getElem (by omega)
    have hpf := brd_fit hb b.st[k] (by simp only [Brd.all]; exact List.mem_append_left _ (List.getElem_mem _))
    exact (step_is htb hf hp (by omega) (ho k (by omega)) ih).2 (ho (k + 1) hk)
theorem arises_ok {tb : Pr → Tb} (h : (arisesT tb f b).2 = true) : (setsTo tb f b.st b.st.length).ok = true := by
  cases e : (setsTo tb f b.st b.st.length).ok
  · rw [arises_no e (Nat.le_refl _)] at h; cases h
  · rfl
/-- What a board that arises says. -/
theorem arises_facts' {tb : Pr → Tb} (htb : TbOk f tb) (hf : f.Ok) (hb : brdOk b = true) (h : (arisesT tb f b).2 = true) : (arisesT tb f b).1 = wonV b.st ∧ WonOk f (wonV b.st) ∧ (overV f (wonV b.st) = true ∨ (overV f (wonV b.st) = false ∧ OpenP f (setV f (wonV b.st)) b.g.1 b.g.2 ∧ arePts f (tiedV f b.st b.g) (setV f (wonV b.st)).2 b.p = true)) := by
  have hok := arises_ok h
  have hw := sets_won htb hf hb hok b.st.length (Nat.le_refl _)
  have h1 : (arisesT tb f b).1 = wonV b.st := by rw [arises_won]; exact hw
  have hs0 := hf.s0
  have h2 : WonOk f (wonV b.st) := by rw [← show _ = wonV b.st from hw]; exact setsTo_won (by omega) _
  refine ⟨h1, h2, ?_⟩
  cases hov : overV f (wonV b.st)
  · have hbp := brd_fit hb b.p (by simp [Brd.all])
    have hbg := brd_fit hb b.g (by simp [Brd.all])
    have hE := arises_pts htb hf hbg (by omega) hok hw hov
    rw [h] at hE
    have hE' := hE.symm
    rw [Bool.and_eq_true, decide_eq_true_eq] at hE'
    exact .inr ⟨rfl, (exp_open (tie_ok hf _) _ _).1 hE'.1, hE'.2⟩
  · exact .inl rfl
theorem arises_facts (hf : f.Ok) (hb : brdOk b = true) (h : (arisesV f b).2 = true) : (arisesV f b).1 = wonV b.st ∧ WonOk f (wonV b.st) ∧ (overV f (wonV b.st) = true ∨ (overV f (wonV b.st) = false ∧ OpenP f (setV f (wonV b.st)) b.g.1 b.g.2 ∧ arePts f (tiedV f b.st b.g) (setV f (wonV b.st)).2 b.p = true)) :=
  arises_facts' (tbOk_table f) hf hb h
def adV (f : Fmt) (tie : Bool) : Bool := tie || !f.noAd
theorem pts_need {tie : Bool} {s p : Pr} {side : Int} (hs : side = 0 ∨ side = 1) (h : arePts f tie s.2 p = true) : needV (ownP side p).1 (ownP side p).2 (lst s tie) (adV f tie) = ptsC (lst s tie) (byG f tie) (ownP side p).1 (ownP side p).2 ∧ needV (ownP side p).2 (ownP side p).1 (lst s tie) (adV f tie) = ptsC (lst s tie) (byG f tie) (ownP side p).2 (ownP side p).1 := by
  have hown : ((ownP side p).1 = p.1 ∧ (ownP side p).2 = p.2) ∨ ((ownP side p).1 = p.2 ∧ (ownP side p).2 = p.1) := by
    rcases hs with rfl | rfl
    · exact .inl ⟨rfl, rfl⟩
    · exact .inr ⟨rfl, rfl⟩
  unfold arePts at h
  unfold needV ptsC lst byG adV
  cases tie
  · cases hn : f.noAd
    · rw [hn] at h
      simp only [Bool.not_false, Bool.true_and, cond_false, Bool.or_eq_true, decide_eq_true_eq] at h
      simp only [Bool.not_false, Bool.false_or, Bool.not_true, cond_false]
      omega
    · rw [hn] at h
      simp only [Bool.not_false, Bool.true_and, cond_true, Bool.and_eq_true, decide_eq_true_eq] at h
      simp only [Bool.not_true, Bool.false_or, Bool.not_false, cond_true, cond_false]
      omega
  · simp only [Bool.not_true, Bool.false_and, cond_false, cond_true, Bool.or_eq_true, decide_eq_true_eq] at h
    simp only [Bool.true_or, Bool.not_true, cond_false, cond_true]
    omega
theorem own_pair (side : Int) (p : Pr) : ownP side p = ((ownP side p).1, (ownP side p).2) := rfl
theorem brks_own {side : Int} (hs : side = 0 ∨ side = 1) (s g : Pr) : brksV s (ownP side g) = brksV s g := by
  rcases hs with rfl | rfl
  · rfl
  · show (decide (g.2 = s.1) && decide (g.1 = s.1)) = (decide (g.1 = s.1) && decide (g.2 = s.1))
    rw [Bool.and_comm]
theorem open_own {side : Int} (hs : side = 0 ∨ side = 1) {s g : Pr} (h : OpenP f s g.1 g.2) : OpenP f s (ownP side g).1 (ownP side g).2 := by
  rcases hs with rfl | rfl
  · exact h
  · exact open_swap h
theorem own_rng {side : Int} (hs : side = 0 ∨ side = 1) {p : Pr} {a b : Int} (h : (a ≤ p.1 ∧ p.1 ≤ b) ∧ a ≤ p.2 ∧ p.2 ≤ b) : (a ≤ (ownP side p).1 ∧ (ownP side p).1 ≤ b) ∧ a ≤ (ownP side p).2 ∧ (ownP side p).2 ≤ b := by
  rcases hs with rfl | rfl
  · exact h
  · exact ⟨h.2, h.1⟩
theorem win_tb (hf : f.Ok) {s : Pr} (ht : TieOk f s) (hs : s.2 ≤ 15) {m th : Int} (hm : 0 ≤ m ∧ m < f.sets) (hth : 0 ≤ th ∧ th < f.sets) {a b : Nat} (hab : a ≤ 40 ∧ b ≤ 40) (ho : OpenP f s a b) (he : EO f s a b = false) : tbV f s (D1 f (m + 1) th) (D1 f m (th + 1)) (a + 1) b = winC f 1000000 s m th a b := by
  have hW : D1 f (m + 1) th = En f 1000000 (m + 1) th := d1_en hf (by omega) (by omega)
  have hL : D1 f m (th + 1) = En f 1000000 m (th + 1) := d1_en hf (by omega) (by omega)
  have hb := en_bd hf (far := 1000000) (by omega) (m := m + 1) (th := th) (by omega) (by omega)
  have ho' : OpenP f s ((a : Int) + 1) b := open_next ht ho ((eo_is ht ho).symm.trans he)
  have hg1 := hf.g1
  have h1 := tab_cc hf ht hs (W := En f 1000000 (m + 1) th) (L := En f 1000000 m (th + 1)) hb ho' (by omega) (by omega) (by unfold OpenP at ho'; omega)
  rw [winC, he, cond_false, ← h1, tbV, hW, hL]
  have e : ((89 : Int) - (↑a + 1) - ↑b).toNat = 89 - (a + 1) - b := by omega
  rw [e]; rfl
theorem los_tb (hf : f.Ok) {s : Pr} (ht : TieOk f s) (hs : s.2 ≤ 15) {m th : Int} (hm : 0 ≤ m ∧ m < f.sets) (hth : 0 ≤ th ∧ th < f.sets) {a b : Nat} (hab : a ≤ 40 ∧ b ≤ 40) (ho : OpenP f s a b) (he : EO f s b a = false) : tbV f s (D1 f (m + 1) th) (D1 f m (th + 1)) a (b + 1) = losC f 1000000 s m th a b := by
  have hW : D1 f (m + 1) th = En f 1000000 (m + 1) th := d1_en hf (by omega) (by omega)
  have hL : D1 f m (th + 1) = En f 1000000 m (th + 1) := d1_en hf (by omega) (by omega)
  have hb := en_bd hf (far := 1000000) (by omega) (m := m + 1) (th := th) (by omega) (by omega)
  have ho' : OpenP f s a ((b : Int) + 1) := open_next' ht ho ((eo_is' ht ho).symm.trans he)
  have hg1 := hf.g1
  have h1 := tab_cc hf ht hs (W := En f 1000000 (m + 1) th) (L := En f 1000000 m (th + 1)) hb ho' (by omega) (by omega) (by unfold OpenP at ho'; omega)
  rw [losC, he, cond_false, ← h1, tbV, hW, hL]
  have e : ((89 : Int) - ↑a - (↑b + 1)).toNat = 89 - a - (b + 1) := by omega
  rw [e]; rfl
theorem win_end (hf : f.Ok) {s : Pr} {m th a b : Int} (hm : 0 ≤ m ∧ m < f.sets) (hth : 0 ≤ th ∧ th < f.sets) (he : EO f s a b = true) : D1 f (m + 1) th = winC f 1000000 s m th a b := by
  rw [winC, he, cond_true, d1_en hf (by omega) (by omega)]
theorem los_end (hf : f.Ok) {s : Pr} {m th a b : Int} (hm : 0 ≤ m ∧ m < f.sets) (hth : 0 ≤ th ∧ th < f.sets) (he : EO f s b a = true) : D1 f m (th + 1) = losC f 1000000 s m th a b := by
  rw [losC, he, cond_true, d1_en hf (by omega) (by omega)]
theorem en_rng (hf : f.Ok) {m th : Int} (hm : 0 ≤ m ∧ m ≤ f.sets) (hth : 0 ≤ th ∧ th ≤ f.sets) : 0 ≤ En f 1000000 m th ∧ En f 1000000 m th ≤ 1000000 := by rw [← d1_en hf hm hth]; exact d1_rng hf _ _
end
/-- Least of a board that arises, in a match that is not over. -/
theorem least_own {f : Fmt} (hf : f.Ok) {b : Brd} {side : Int} (hs : side = 0 ∨ side = 1) (hb : brdOk b = true) (h : (arisesV f b).2 = true) (hov : overV f (wonV b.st) = false) : leastV f b side = finC f 1000000 (setV f (ownP side (wonV b.st))) (lst (setV f (ownP side (wonV b.st))) (tiedV f b.st b.g)) (byG f (tiedV f b.st b.g)) (ownP side (wonV b.st)).1 (ownP side (wonV b.st)).2 (ownP side b.g).1 (ownP side b.g).2 (ownP side b.p).1 (ownP side b.p).2 := by
  obtain ⟨h1, h2, h3⟩ := arises_facts hf hb h
  have hbp := brd_fit hb b.p (by simp [Brd.all])
  have hbg := brd_fit hb b.g (by simp [Brd.all])
  rcases h3 with h3 | ⟨_, h4, _⟩
  · rw [h3] at hov; cases hov
  · rw [over_won h2, Bool.or_eq_false_iff, decide_eq_false_iff_not, decide_eq_false_iff_not] at hov
    unfold WonOk at h2
    have := least_fin hf hs hbp (by omega) (b := b) (by rw [h1]; omega) (by rw [h1]; omega) (by rw [h1]; exact h4)
    rw [this, h1, set_own, tied_is hbg.1.1]
theorem won_not_both {f : Fmt} {b : Brd} (hf : f.Ok) (hb : brdOk b = true) (h : (arisesV f b).2 = true) : ¬ ((wonV b.st).1 = f.sets ∧ (wonV b.st).2 = f.sets) := by
  have hok := arises_ok (tb := tableV f) h
  have hs0 := hf.s0
  have ho : ∀ j, j ≤ b.st.length → (setsTo (tableV f) f b.st j).ok = true := fun j hj => by
    cases e : (setsTo (tableV f) f b.st j).ok
    · rw [setsTo_stop e hj, e] at hok; cases hok
    · rfl
  unfold wonV
  cases hl : b.st.length with
  | zero => show ¬ ((0 : Int) = f.sets ∧ (0 : Int) = f.sets); omega
  | succ k =>
    have hp : b.st[k]? = some (b.st[k]'(by omega)) := List.getElem?_eq_getElem (by omega)
    have hpf := brd_fit hb (b.st[k]'(by omega)) (by simp only [Brd.all]; exact List.mem_append_left _ (List.getElem_mem _))
    have hw := sets_won (tbOk_table f) hf hb hok k (by omega)
    have h1 := (step_is (tbOk_table f) hf hp (by omega) (ho k (by omega)) hw).1
    rw [ho (k + 1) (by omega)] at h1
    have h2 := h1.symm
    rw [Bool.and_eq_true, Bool.not_eq_true'] at h2
    have hwo : WonOk f (wonTo b.st k) := by rw [← hw]; exact setsTo_won (by omega) _
    rw [over_won hwo, Bool.or_eq_false_iff, decide_eq_false_iff_not, decide_eq_false_iff_not] at h2
    unfold WonOk at hwo
    rw [wonTo_succ hp, addV]
    cases decide (wside (b.st[k]'(by omega)) = 0)
    · simp only [cond_false]; omega
    · simp only [cond_true]; omega
theorem least_over {f : Fmt} {b : Brd} {side : Int} (h : overV f (arisesV f b).1 = true) (hl : leadsV (arisesV f b).1 f.sets 1 = side) : leastV f b side = 0 := by
  unfold leastV
  rw [show (300 : Nat) = 299 + 1 from rfl, leastF, h, decide_eq_true hl]
  rfl
theorem least_form (f : Fmt) (b : Brd) (side : Int) : ∃ (is : Bool) (e : Int), arisesR f b = [.bool is, .int .i64 e] ∧ leastR f b side = (bif !decide (e = 0) then [.int .i64 0, .int .i64 e] else bif !is then [.int .i64 0, .int .i64 12] else bif sideBad side then [.int .i64 0, .int .i64 1]
    else bif overV f (arisesV f b).1 && !decide (leadsV (arisesV f b).1 f.sets 1 = side) then [.int .i64 0, .int .i64 3] else [.int .i64 (leastV f b side), .int .i64 0]) ∧ (e = 0 → (!decide (chkF f = 0)) = false ∧ brdOk b = true ∧ (arisesV f b).2 = is) := by
  unfold arisesR leastR
  cases hc : !decide (chkF f = 0)
  · cases hb : brdOk b
    · exact ⟨false, 12, rfl, rfl, fun e => by cases e⟩
    · exact ⟨_, 0, rfl, rfl, fun _ => ⟨rfl, rfl, rfl⟩⟩
  · have h10 := chk_bad hc
    refine ⟨false, chkF f, rfl, by rw [h10]; rfl, fun e => by rw [h10] at e; cases e⟩
theorem side_wi (side : Int) : wi side 0 1 = !sideBad side := by
  unfold sideBad wi
  rw [Bool.eq_iff_iff]
  simp only [Bool.not_eq_true', Bool.and_eq_false_iff, decide_eq_false_iff_not, Bool.and_eq_true, decide_eq_true_eq, Bool.not_eq_false', Decidable.not_not]; omega
set_option maxRecDepth 100000 in
set_option maxHeartbeats 8000000 in
theorem C_ref1_Least (f : Fmt) (b : Brd) (side : Int) (A : Option Addr) (n c : Nat) (hc : n ≤ c) (w : World) (h : Rd w A 2 n (encP b.st)) (hn : n ≤ 1000) : C0 Try.prog 14 [f.val, b.val A n c, .int .i64 side] w (.tuple (leastR f b side).toArray) := by
  have hlen : b.st.length = n := by have := h.len; simpa [encP] using this
  obtain ⟨is, e, hA, hL, hfa⟩ := least_form f b side
  refine ⟨en Try.func14 Try.ntmps14 ((St.init w).share (e := .ro A 2 n (encP b.st)) h rfl rfl rfl) (h := fun F => ?_)⟩
  refine sq (h := ?_)
  refine rg (h := ?_)
  refine bxA (h := fun b0 => ?_)
  refine bxA (h := fun b1 => ?_)
  refine WL.y (hy := asg) (h := ?_)
  refine WL.y (hy := asg) (h := ?_)
  refine nl (h := ?_)
  refine q_seq (h := ?_)
  refine sq (h := ?_)
  refine rg (h := ?_)
  refine WL.y (hy := (by first | exact ldA | exact ldEA)) (h := ?_)
  refine WL.y (hy := (by first | exact ldA | exact ldEA)) (h := ?_)
  refine cl0 (hc := fun w hS => C_ref1_Arises f b A n c hc w (hS.get (by repeat (first | exact Rds.ro | exact Rds.own | apply Rds.there))) hn) (h := ?_)
  rw [hA]
  refine WL.y (hy := mv) (h := ?_)
  refine WL.y (hy := ex) (h := ?_)
  refine WL.y (hy := ex) (h := ?_)
  refine WL.y (hy := asg) (h := ?_)
  refine WL.y (hy := asg) (h := ?_)
  refine nl (h := ?_)
  refine q_seq (h := ?_)
  refine sq (h := ?_)
  refine sq (h := ?_)
  refine rg (h := ?_)
  refine WL.y (hy := mv) (h := ?_)
  refine WL.y (hy := neq) (h := ?_)
  refine nl (h := ?_)
  refine q_seq (h := ?_)
  refine cd (by exact rfl) (fun h0 => ?_) (fun h0 => ?_)
  · skip
    have hE : leastR f b side = [.int .i64 0, .int .i64 e] := by rw [hL, h0]; rfl
    refine sq (h := ?_)
    refine rg (h := ?_)
    refine WL.y (hy := mv) (h := ?_)
    refine WL.y (hy := asg) (h := ?_)
    refine WL.y (hy := asg) (h := ?_)
    refine nl (h := ?_)
    refine q_seq (h := ?_)
    refine rtn (h := ?_)
    refine q_then_ret (h := ?_)
    refine q_ret (hR := ?_)
    rw [hE]
    exact fun w hS => ⟨rfl, hS.sub (by repeat (first | exact SubL.nil | (apply SubL.cons; (repeat (first | exact At.here | apply At.there))) | exact SubL.refl _ | apply SubL.skip))⟩
  · skip
    have he0 : e = 0 := by simpa using h0
    obtain ⟨hck, hbo, hari⟩ := hfa he0
    have hf := chkF_ok hck
    have hbl := brd_len hbo
    have hbp := brd_fit hbo b.p (by simp [Brd.all])
    have hbg := brd_fit hbo b.g (by simp [Brd.all])
    rw [h0, cond_false] at hL
    refine skp (h := ?_)
    refine q_seq (h := ?_)
    refine sq (h := ?_)
    refine sq (h := ?_)
    refine rg (h := ?_)
    refine WL.y (hy := mv) (h := ?_)
    refine WL.y (hy := notB) (h := ?_)
    refine nl (h := ?_)
    refine q_seq (h := ?_)
    refine cd (by exact rfl) (fun h1 => ?_) (fun h1 => ?_)
    · skip
      have hE : leastR f b side = [.int .i64 0, .int .i64 12] := by rw [hL, h1]; rfl
      refine sq (h := ?_)
      refine rg (h := ?_)
      refine WL.y (hy := asg) (h := ?_)
      refine WL.y (hy := asg) (h := ?_)
      refine nl (h := ?_)
      refine q_seq (h := ?_)
      refine rtn (h := ?_)
      refine q_then_ret (h := ?_)
      refine q_ret (hR := ?_)
      rw [hE]
      exact fun w hS => ⟨rfl, hS.sub (by repeat (first | exact SubL.nil | (apply SubL.cons; (repeat (first | exact At.here | apply At.there))) | exact SubL.refl _ | apply SubL.skip))⟩
    · skip
      have hist : is = true := by simpa using h1
      rw [hist] at hari
      rw [h1, cond_false] at hL
      refine skp (h := ?_)
      refine q_seq (h := ?_)
      refine sq (h := ?_)
      refine sq (h := ?_)
      refine rg (h := ?_)
      refine WL.y (hy := mv) (h := ?_)
      refine cl0 (hc := fun w hS => C_ref1_within _ _ _ w) (h := ?_)
      rw [side_wi]
      refine WL.y (hy := notB) (h := ?_)
      refine nl (h := ?_)
      refine q_seq (h := ?_)
      refine cd (by exact rfl) (fun h2 => ?_) (fun h2 => ?_)
      · skip
        rw [Bool.not_not] at h2
        have hE : leastR f b side = [.int .i64 0, .int .i64 1] := by rw [hL, h2]; rfl
        refine sq (h := ?_)
        refine rg (h := ?_)
        refine WL.y (hy := asg) (h := ?_)
        refine WL.y (hy := asg) (h := ?_)
        refine nl (h := ?_)
        refine q_seq (h := ?_)
        refine rtn (h := ?_)
        refine q_then_ret (h := ?_)
        refine q_ret (hR := ?_)
        rw [hE]
        exact fun w hS => ⟨rfl, hS.sub (by repeat (first | exact SubL.nil | (apply SubL.cons; (repeat (first | exact At.here | apply At.there))) | exact SubL.refl _ | apply SubL.skip))⟩
      · skip
        rw [Bool.not_not] at h2
        have hs := side_ok h2
        rw [h2, cond_false] at hL
        obtain ⟨hw1, hw2, hw3⟩ := arises_facts hf hbo hari
        have hnb := won_not_both hf hbo hari
        refine skp (h := ?_)
        refine q_seq (h := ?_)
        refine ct (X := Nat × Nat × Nat) (fun _ => True) (fun x => [(2, .int .i64 side), (3, .pointer (some ⟨b0, 0, none⟩)), (4, .pointer (some ⟨b1, 0, none⟩)), (10, .pointer (some ⟨x.1, 0, none⟩)), (11, .pointer (some ⟨x.2.1, 0, none⟩)), (12, .pointer (some ⟨x.2.2, 0, none⟩))]) (fun x => [.blk x.1 26 [.int .i64 (wonV b.st).1, .int .i64 (wonV b.st).2], .blk x.2.1 26 [.int .i64 b.g.1, .int .i64 b.g.2], .blk x.2.2 26 [.int .i64 b.p.1, .int .i64 b.p.2], .blk b0 23 f.cells, .blk b1 28 (b.cells A n c), .ro A 2 n (encP b.st)]) (h1 := ?_) (h2 := ?_)
        · skip
          refine rgD0 (by kernel_rfl) (h := ?_)
          refine tk 0 (hy := (by first | exact fa | exact faE)) (h := ?_)
          refine tk 1 (hy := (by first | exact ld | exact ldE)) (h := ?_)
          refine tk 3 (hy := (by first | exact fa | exact faE)) (h := ?_)
          refine tk 4 (hy := (by first | exact ldA | exact ldEA)) (h := ?_)
          refine tk 5 (hy := (by first | exact fa | exact faE)) (h := ?_)
          refine tk 6 (hy := (by first | exact ldA | exact ldEA)) (h := ?_)
          refine fan [2, 7, 8, 9] (h := ⟨⟨_, by exact rfl, ?_⟩, ⟨_, by exact rfl, ?_⟩, ⟨_, by exact rfl, ?_⟩, ⟨_, by exact rfl, ?_⟩, trivial⟩)
          · skip
            refine cl0 (hc := fun w hS => C_ref1_Won b.st A n c w (hS.get (by repeat (first | exact Rds.ro | exact Rds.own | apply Rds.there))) (by omega)) (h := ?_)
            refine nx (h := ?_)
            refine fan [7, 8, 9] (h := ⟨⟨_, by exact rfl, ?_⟩, ⟨_, by exact rfl, ?_⟩, ⟨_, by exact rfl, ?_⟩, trivial⟩)
            · skip
              refine al (h := fun bA => ?_)
              refine nx (h := ?_)
              refine two 8 9 (h1 := ?_) (h2 := ?_)
              · skip
                refine al (h := fun bB => ?_)
                refine nx (h := ?_)
                refine one 9 (h := ?_)
                refine al (h := fun bC => ?_)
                refine nx (h := ?_)
                refine one 10 (h := ?_)
                first | refine stA (h := ?_) | refine stEA (h := ?_)
                refine nx (h := ?_)
                refine one 11 (h := ?_)
                first | refine stA (h := ?_) | refine stEA (h := ?_)
                refine nx (h := ?_)
                refine one 12 (h := ?_)
                first | refine stA (h := ?_) | refine stEA (h := ?_)
                refine nx (h := ?_)
                refine dn (h := ?_)
                exact ctn (bA, bB, bC) trivial (by repeat (first | exact trivial | refine ⟨rfl, ?_⟩)) (by repeat (first | exact SubL.nil | (apply SubL.cons; (repeat (first | exact At.here | apply At.there))) | exact SubL.refl _ | apply SubL.skip))
              · skip
                refine al (h := fun bC => ?_)
                refine nx (h := ?_)
                refine one 8 (h := ?_)
                refine al (h := fun bB => ?_)
                refine nx (h := ?_)
                refine one 10 (h := ?_)
                first | refine stA (h := ?_) | refine stEA (h := ?_)
                refine nx (h := ?_)
                refine one 11 (h := ?_)
                first | refine stA (h := ?_) | refine stEA (h := ?_)
                refine nx (h := ?_)
                refine one 12 (h := ?_)
                first | refine stA (h := ?_) | refine stEA (h := ?_)
                refine nx (h := ?_)
                refine dn (h := ?_)
                exact ctn (bA, bB, bC) trivial (by repeat (first | exact trivial | refine ⟨rfl, ?_⟩)) (by repeat (first | exact SubL.nil | (apply SubL.cons; (repeat (first | exact At.here | apply At.there))) | exact SubL.refl _ | apply SubL.skip))
            · skip
              refine al (h := fun bB => ?_)
              refine nx (h := ?_)
              refine two 7 9 (h1 := ?_) (h2 := ?_)
              · skip
                refine al (h := fun bA => ?_)
                refine nx (h := ?_)
                refine one 9 (h := ?_)
                refine al (h := fun bC => ?_)
                refine nx (h := ?_)
                refine one 10 (h := ?_)
                first | refine stA (h := ?_) | refine stEA (h := ?_)
                refine nx (h := ?_)
                refine one 11 (h := ?_)
                first | refine stA (h := ?_) | refine stEA (h := ?_)
                refine nx (h := ?_)
                refine one 12 (h := ?_)
                first | refine stA (h := ?_) | refine stEA (h := ?_)
                refine nx (h := ?_)
                refine dn (h := ?_)
                exact ctn (bA, bB, bC) trivial (by repeat (first | exact trivial | refine ⟨rfl, ?_⟩)) (by repeat (first | exact SubL.nil | (apply SubL.cons; (repeat (first | exact At.here | apply At.there))) | exact SubL.refl _ | apply SubL.skip))
              · skip
                refine al (h := fun bC => ?_)
                refine nx (h := ?_)
                refine one 7 (h := ?_)
                refine al (h := fun bA => ?_)
                refine nx (h := ?_)
                refine one 10 (h := ?_)
                first | refine stA (h := ?_) | refine stEA (h := ?_)
                refine nx (h := ?_)
                refine one 11 (h := ?_)
                first | refine stA (h := ?_) | refine stEA (h := ?_)
                refine nx (h := ?_)
                refine one 12 (h := ?_)
                first | refine stA (h := ?_) | refine stEA (h := ?_)
                refine nx (h := ?_)
                refine dn (h := ?_)
                exact ctn (bA, bB, bC) trivial (by repeat (first | exact trivial | refine ⟨rfl, ?_⟩)) (by repeat (first | exact SubL.nil | (apply SubL.cons; (repeat (first | exact At.here | apply At.there))) | exact SubL.refl _ | apply SubL.skip))
            · skip
              refine al (h := fun bC => ?_)
              refine nx (h := ?_)
              refine two 7 8 (h1 := ?_) (h2 := ?_)
              · skip
                refine al (h := fun bA => ?_)
                refine nx (h := ?_)
                refine one 8 (h := ?_)
                refine al (h := fun bB => ?_)
                refine nx (h := ?_)
                refine one 10 (h := ?_)
                first | refine stA (h := ?_) | refine stEA (h := ?_)
                refine nx (h := ?_)
                refine one 11 (h := ?_)
                first | refine stA (h := ?_) | refine stEA (h := ?_)
                refine nx (h := ?_)
                refine one 12 (h := ?_)
                first | refine stA (h := ?_) | refine stEA (h := ?_)
                refine nx (h := ?_)
                refine dn (h := ?_)
                exact ctn (bA, bB, bC) trivial (by repeat (first | exact trivial | refine ⟨rfl, ?_⟩)) (by repeat (first | exact SubL.nil | (apply SubL.cons; (repeat (first | exact At.here | apply At.there))) | exact SubL.refl _ | apply SubL.skip))
              · skip
                refine al (h := fun bB => ?_)
                refine nx (h := ?_)
                refine one 7 (h := ?_)
                refine al (h := fun bA => ?_)
                refine nx (h := ?_)
                refine one 10 (h := ?_)
                first | refine stA (h := ?_) | refine stEA (h := ?_)
                refine nx (h := ?_)
                refine one 11 (h := ?_)
                first | refine stA (h := ?_) | refine stEA (h := ?_)
                refine nx (h := ?_)
                refine one 12 (h := ?_)
                first | refine stA (h := ?_) | refine stEA (h := ?_)
                refine nx (h := ?_)
                refine dn (h := ?_)
                exact ctn (bA, bB, bC) trivial (by repeat (first | exact trivial | refine ⟨rfl, ?_⟩)) (by repeat (first | exact SubL.nil | (apply SubL.cons; (repeat (first | exact At.here | apply At.there))) | exact SubL.refl _ | apply SubL.skip))
          · skip
            refine al (h := fun bA => ?_)
            refine nx (h := ?_)
            refine fan [2, 8, 9] (h := ⟨⟨_, by exact rfl, ?_⟩, ⟨_, by exact rfl, ?_⟩, ⟨_, by exact rfl, ?_⟩, trivial⟩)
            · skip
              refine cl0 (hc := fun w hS => C_ref1_Won b.st A n c w (hS.get (by repeat (first | exact Rds.ro | exact Rds.own | apply Rds.there))) (by omega)) (h := ?_)
              refine nx (h := ?_)
              refine two 8 9 (h1 := ?_) (h2 := ?_)
              · skip
                refine al (h := fun bB => ?_)
                refine nx (h := ?_)
                refine one 9 (h := ?_)
                refine al (h := fun bC => ?_)
                refine nx (h := ?_)
                refine one 10 (h := ?_)
                first | refine stA (h := ?_) | refine stEA (h := ?_)
                refine nx (h := ?_)
                refine one 11 (h := ?_)
                first | refine stA (h := ?_) | refine stEA (h := ?_)
                refine nx (h := ?_)
                refine one 12 (h := ?_)
                first | refine stA (h := ?_) | refine stEA (h := ?_)
                refine nx (h := ?_)
                refine dn (h := ?_)
                exact ctn (bA, bB, bC) trivial (by repeat (first | exact trivial | refine ⟨rfl, ?_⟩)) (by repeat (first | exact SubL.nil | (apply SubL.cons; (repeat (first | exact At.here | apply At.there))) | exact SubL.refl _ | apply SubL.skip))
              · skip
                refine al (h := fun bC => ?_)
                refine nx (h := ?_)
                refine one 8 (h := ?_)
                refine al (h := fun bB => ?_)
                refine nx (h := ?_)
                refine one 10 (h := ?_)
                first | refine stA (h := ?_) | refine stEA (h := ?_)
                refine nx (h := ?_)
                refine one 11 (h := ?_)
                first | refine stA (h := ?_) | refine stEA (h := ?_)
                refine nx (h := ?_)
                refine one 12 (h := ?_)
                first | refine stA (h := ?_) | refine stEA (h := ?_)
                refine nx (h := ?_)
                refine dn (h := ?_)
                exact ctn (bA, bB, bC) trivial (by repeat (first | exact trivial | refine ⟨rfl, ?_⟩)) (by repeat (first | exact SubL.nil | (apply SubL.cons; (repeat (first | exact At.here | apply At.there))) | exact SubL.refl _ | apply SubL.skip))
            · skip
              refine al (h := fun bB => ?_)
              refine nx (h := ?_)
              refine two 2 9 (h1 := ?_) (h2 := ?_)
              · skip
                refine cl0 (hc := fun w hS => C_ref1_Won b.st A n c w (hS.get (by repeat (first | exact Rds.ro | exact Rds.own | apply Rds.there))) (by omega)) (h := ?_)
                refine nx (h := ?_)
                refine one 9 (h := ?_)
                refine al (h := fun bC => ?_)
                refine nx (h := ?_)
                refine one 10 (h := ?_)
                first | refine stA (h := ?_) | refine stEA (h := ?_)
                refine nx (h := ?_)
                refine one 11 (h := ?_)
                first | refine stA (h := ?_) | refine stEA (h := ?_)
                refine nx (h := ?_)
                refine one 12 (h := ?_)
                first | refine stA (h := ?_) | refine stEA (h := ?_)
                refine nx (h := ?_)
                refine dn (h := ?_)
                exact ctn (bA, bB, bC) trivial (by repeat (first | exact trivial | refine ⟨rfl, ?_⟩)) (by repeat (first | exact SubL.nil | (apply SubL.cons; (repeat (first | exact At.here | apply At.there))) | exact SubL.refl _ | apply SubL.skip))
              · skip
                refine al (h := fun bC => ?_)
                refine nx (h := ?_)
                refine one 2 (h := ?_)
                refine cl0 (hc := fun w hS => C_ref1_Won b.st A n c w (hS.get (by repeat (first | exact Rds.ro | exact Rds.own | apply Rds.there))) (by omega)) (h := ?_)
                refine nx (h := ?_)
                refine one 10 (h := ?_)
                first | refine stA (h := ?_) | refine stEA (h := ?_)
                refine nx (h := ?_)
                refine one 11 (h := ?_)
                first | refine stA (h := ?_) | refine stEA (h := ?_)
                refine nx (h := ?_)
                refine one 12 (h := ?_)
                first | refine stA (h := ?_) | refine stEA (h := ?_)
                refine nx (h := ?_)
                refine dn (h := ?_)
                exact ctn (bA, bB, bC) trivial (by repeat (first | exact trivial | refine ⟨rfl, ?_⟩)) (by repeat (first | exact SubL.nil | (apply SubL.cons; (repeat (first | exact At.here | apply At.there))) | exact SubL.refl _ | apply SubL.skip))
            · skip
              refine al (h := fun bC => ?_)
              refine nx (h := ?_)
              refine two 2 8 (h1 := ?_) (h2 := ?_)
              · skip
                refine cl0 (hc := fun w hS => C_ref1_Won b.st A n c w (hS.get (by repeat (first | exact Rds.ro | exact Rds.own | apply Rds.there))) (by omega)) (h := ?_)
                refine nx (h := ?_)
                refine one 8 (h := ?_)
                refine al (h := fun bB => ?_)
                refine nx (h := ?_)
                refine one 10 (h := ?_)
                first | refine stA (h := ?_) | refine stEA (h := ?_)
                refine nx (h := ?_)
                refine one 11 (h := ?_)
                first | refine stA (h := ?_) | refine stEA (h := ?_)
                refine nx (h := ?_)
                refine one 12 (h := ?_)
                first | refine stA (h := ?_) | refine stEA (h := ?_)
                refine nx (h := ?_)
                refine dn (h := ?_)
                exact ctn (bA, bB, bC) trivial (by repeat (first | exact trivial | refine ⟨rfl, ?_⟩)) (by repeat (first | exact SubL.nil | (apply SubL.cons; (repeat (first | exact At.here | apply At.there))) | exact SubL.refl _ | apply SubL.skip))
              · skip
                refine al (h := fun bB => ?_)
                refine nx (h := ?_)
                refine one 2 (h := ?_)
                refine cl0 (hc := fun w hS => C_ref1_Won b.st A n c w (hS.get (by repeat (first | exact Rds.ro | exact Rds.own | apply Rds.there))) (by omega)) (h := ?_)
                refine nx (h := ?_)
                refine one 10 (h := ?_)
                first | refine stA (h := ?_) | refine stEA (h := ?_)
                refine nx (h := ?_)
                refine one 11 (h := ?_)
                first | refine stA (h := ?_) | refine stEA (h := ?_)
                refine nx (h := ?_)
                refine one 12 (h := ?_)
                first | refine stA (h := ?_) | refine stEA (h := ?_)
                refine nx (h := ?_)
                refine dn (h := ?_)
                exact ctn (bA, bB, bC) trivial (by repeat (first | exact trivial | refine ⟨rfl, ?_⟩)) (by repeat (first | exact SubL.nil | (apply SubL.cons; (repeat (first | exact At.here | apply At.there))) | exact SubL.refl _ | apply SubL.skip))
          · skip
            refine al (h := fun bB => ?_)
            refine nx (h := ?_)
            refine fan [2, 7, 9] (h := ⟨⟨_, by exact rfl, ?_⟩, ⟨_, by exact rfl, ?_⟩, ⟨_, by exact rfl, ?_⟩, trivial⟩)
            · skip
              refine cl0 (hc := fun w hS => C_ref1_Won b.st A n c w (hS.get (by repeat (first | exact Rds.ro | exact Rds.own | apply Rds.there))) (by omega)) (h := ?_)
              refine nx (h := ?_)
              refine two 7 9 (h1 := ?_) (h2 := ?_)
              · skip
                refine al (h := fun bA => ?_)
                refine nx (h := ?_)
                refine one 9 (h := ?_)
                refine al (h := fun bC => ?_)
                refine nx (h := ?_)
                refine one 10 (h := ?_)
                first | refine stA (h := ?_) | refine stEA (h := ?_)
                refine nx (h := ?_)
                refine one 11 (h := ?_)
                first | refine stA (h := ?_) | refine stEA (h := ?_)
                refine nx (h := ?_)
                refine one 12 (h := ?_)
                first | refine stA (h := ?_) | refine stEA (h := ?_)
                refine nx (h := ?_)
                refine dn (h := ?_)
                exact ctn (bA, bB, bC) trivial (by repeat (first | exact trivial | refine ⟨rfl, ?_⟩)) (by repeat (first | exact SubL.nil | (apply SubL.cons; (repeat (first | exact At.here | apply At.there))) | exact SubL.refl _ | apply SubL.skip))
              · skip
                refine al (h := fun bC => ?_)
                refine nx (h := ?_)
                refine one 7 (h := ?_)
                refine al (h := fun bA => ?_)
                refine nx (h := ?_)
                refine one 10 (h := ?_)
                first | refine stA (h := ?_) | refine stEA (h := ?_)
                refine nx (h := ?_)
                refine one 11 (h := ?_)
                first | refine stA (h := ?_) | refine stEA (h := ?_)
                refine nx (h := ?_)
                refine one 12 (h := ?_)
                first | refine stA (h := ?_) | refine stEA (h := ?_)
                refine nx (h := ?_)
                refine dn (h := ?_)
                exact ctn (bA, bB, bC) trivial (by repeat (first | exact trivial | refine ⟨rfl, ?_⟩)) (by repeat (first | exact SubL.nil | (apply SubL.cons; (repeat (first | exact At.here | apply At.there))) | exact SubL.refl _ | apply SubL.skip))
            · skip
              refine al (h := fun bA => ?_)
              refine nx (h := ?_)
              refine two 2 9 (h1 := ?_) (h2 := ?_)
              · skip
                refine cl0 (hc := fun w hS => C_ref1_Won b.st A n c w (hS.get (by repeat (first | exact Rds.ro | exact Rds.own | apply Rds.there))) (by omega)) (h := ?_)
                refine nx (h := ?_)
                refine one 9 (h := ?_)
                refine al (h := fun bC => ?_)
                refine nx (h := ?_)
                refine one 10 (h := ?_)
                first | refine stA (h := ?_) | refine stEA (h := ?_)
                refine nx (h := ?_)
                refine one 11 (h := ?_)
                first | refine stA (h := ?_) | refine stEA (h := ?_)
                refine nx (h := ?_)
                refine one 12 (h := ?_)
                first | refine stA (h := ?_) | refine stEA (h := ?_)
                refine nx (h := ?_)
                refine dn (h := ?_)
                exact ctn (bA, bB, bC) trivial (by repeat (first | exact trivial | refine ⟨rfl, ?_⟩)) (by repeat (first | exact SubL.nil | (apply SubL.cons; (repeat (first | exact At.here | apply At.there))) | exact SubL.refl _ | apply SubL.skip))
              · skip
                refine al (h := fun bC => ?_)
                refine nx (h := ?_)
                refine one 2 (h := ?_)
                refine cl0 (hc := fun w hS => C_ref1_Won b.st A n c w (hS.get (by repeat (first | exact Rds.ro | exact Rds.own | apply Rds.there))) (by omega)) (h := ?_)
                refine nx (h := ?_)
                refine one 10 (h := ?_)
                first | refine stA (h := ?_) | refine stEA (h := ?_)
                refine nx (h := ?_)
                refine one 11 (h := ?_)
                first | refine stA (h := ?_) | refine stEA (h := ?_)
                refine nx (h := ?_)
                refine one 12 (h := ?_)
                first | refine stA (h := ?_) | refine stEA (h := ?_)
                refine nx (h := ?_)
                refine dn (h := ?_)
                exact ctn (bA, bB, bC) trivial (by repeat (first | exact trivial | refine ⟨rfl, ?_⟩)) (by repeat (first | exact SubL.nil | (apply SubL.cons; (repeat (first | exact At.here | apply At.there))) | exact SubL.refl _ | apply SubL.skip))
            · skip
              refine al (h := fun bC => ?_)
              refine nx (h := ?_)
              refine two 2 7 (h1 := ?_) (h2 := ?_)
              · skip
                refine cl0 (hc := fun w hS => C_ref1_Won b.st A n c w (hS.get (by repeat (first | exact Rds.ro | exact Rds.own | apply Rds.there))) (by omega)) (h := ?_)
                refine nx (h := ?_)
                refine one 7 (h := ?_)
                refine al (h := fun bA => ?_)
                refine nx (h := ?_)
                refine one 10 (h := ?_)
                first | refine stA (h := ?_) | refine stEA (h := ?_)
                refine nx (h := ?_)
                refine one 11 (h := ?_)
                first | refine stA (h := ?_) | refine stEA (h := ?_)
                refine nx (h := ?_)
                refine one 12 (h := ?_)
                first | refine stA (h := ?_) | refine stEA (h := ?_)
                refine nx (h := ?_)
                refine dn (h := ?_)
                exact ctn (bA, bB, bC) trivial (by repeat (first | exact trivial | refine ⟨rfl, ?_⟩)) (by repeat (first | exact SubL.nil | (apply SubL.cons; (repeat (first | exact At.here | apply At.there))) | exact SubL.refl _ | apply SubL.skip))
              · skip
                refine al (h := fun bA => ?_)
                refine nx (h := ?_)
                refine one 2 (h := ?_)
                refine cl0 (hc := fun w hS => C_ref1_Won b.st A n c w (hS.get (by repeat (first | exact Rds.ro | exact Rds.own | apply Rds.there))) (by omega)) (h := ?_)
                refine nx (h := ?_)
                refine one 10 (h := ?_)
                first | refine stA (h := ?_) | refine stEA (h := ?_)
                refine nx (h := ?_)
                refine one 11 (h := ?_)
                first | refine stA (h := ?_) | refine stEA (h := ?_)
                refine nx (h := ?_)
                refine one 12 (h := ?_)
                first | refine stA (h := ?_) | refine stEA (h := ?_)
                refine nx (h := ?_)
                refine dn (h := ?_)
                exact ctn (bA, bB, bC) trivial (by repeat (first | exact trivial | refine ⟨rfl, ?_⟩)) (by repeat (first | exact SubL.nil | (apply SubL.cons; (repeat (first | exact At.here | apply At.there))) | exact SubL.refl _ | apply SubL.skip))
          · skip
            refine al (h := fun bC => ?_)
            refine nx (h := ?_)
            refine fan [2, 7, 8] (h := ⟨⟨_, by exact rfl, ?_⟩, ⟨_, by exact rfl, ?_⟩, ⟨_, by exact rfl, ?_⟩, trivial⟩)
            · skip
              refine cl0 (hc := fun w hS => C_ref1_Won b.st A n c w (hS.get (by repeat (first | exact Rds.ro | exact Rds.own | apply Rds.there))) (by omega)) (h := ?_)
              refine nx (h := ?_)
              refine two 7 8 (h1 := ?_) (h2 := ?_)
              · skip
                refine al (h := fun bA => ?_)
                refine nx (h := ?_)
                refine one 8 (h := ?_)
                refine al (h := fun bB => ?_)
                refine nx (h := ?_)
                refine one 10 (h := ?_)
                first | refine stA (h := ?_) | refine stEA (h := ?_)
                refine nx (h := ?_)
                refine one 11 (h := ?_)
                first | refine stA (h := ?_) | refine stEA (h := ?_)
                refine nx (h := ?_)
                refine one 12 (h := ?_)
                first | refine stA (h := ?_) | refine stEA (h := ?_)
                refine nx (h := ?_)
                refine dn (h := ?_)
                exact ctn (bA, bB, bC) trivial (by repeat (first | exact trivial | refine ⟨rfl, ?_⟩)) (by repeat (first | exact SubL.nil | (apply SubL.cons; (repeat (first | exact At.here | apply At.there))) | exact SubL.refl _ | apply SubL.skip))
              · skip
                refine al (h := fun bB => ?_)
                refine nx (h := ?_)
                refine one 7 (h := ?_)
                refine al (h := fun bA => ?_)
                refine nx (h := ?_)
                refine one 10 (h := ?_)
                first | refine stA (h := ?_) | refine stEA (h := ?_)
                refine nx (h := ?_)
                refine one 11 (h := ?_)
                first | refine stA (h := ?_) | refine stEA (h := ?_)
                refine nx (h := ?_)
                refine one 12 (h := ?_)
                first | refine stA (h := ?_) | refine stEA (h := ?_)
                refine nx (h := ?_)
                refine dn (h := ?_)
                exact ctn (bA, bB, bC) trivial (by repeat (first | exact trivial | refine ⟨rfl, ?_⟩)) (by repeat (first | exact SubL.nil | (apply SubL.cons; (repeat (first | exact At.here | apply At.there))) | exact SubL.refl _ | apply SubL.skip))
            · skip
              refine al (h := fun bA => ?_)
              refine nx (h := ?_)
              refine two 2 8 (h1 := ?_) (h2 := ?_)
              · skip
                refine cl0 (hc := fun w hS => C_ref1_Won b.st A n c w (hS.get (by repeat (first | exact Rds.ro | exact Rds.own | apply Rds.there))) (by omega)) (h := ?_)
                refine nx (h := ?_)
                refine one 8 (h := ?_)
                refine al (h := fun bB => ?_)
                refine nx (h := ?_)
                refine one 10 (h := ?_)
                first | refine stA (h := ?_) | refine stEA (h := ?_)
                refine nx (h := ?_)
                refine one 11 (h := ?_)
                first | refine stA (h := ?_) | refine stEA (h := ?_)
                refine nx (h := ?_)
                refine one 12 (h := ?_)
                first | refine stA (h := ?_) | refine stEA (h := ?_)
                refine nx (h := ?_)
                refine dn (h := ?_)
                exact ctn (bA, bB, bC) trivial (by repeat (first | exact trivial | refine ⟨rfl, ?_⟩)) (by repeat (first | exact SubL.nil | (apply SubL.cons; (repeat (first | exact At.here | apply At.there))) | exact SubL.refl _ | apply SubL.skip))
              · skip
                refine al (h := fun bB => ?_)
                refine nx (h := ?_)
                refine one 2 (h := ?_)
                refine cl0 (hc := fun w hS => C_ref1_Won b.st A n c w (hS.get (by repeat (first | exact Rds.ro | exact Rds.own | apply Rds.there))) (by omega)) (h := ?_)
                refine nx (h := ?_)
                refine one 10 (h := ?_)
                first | refine stA (h := ?_) | refine stEA (h := ?_)
                refine nx (h := ?_)
                refine one 11 (h := ?_)
                first | refine stA (h := ?_) | refine stEA (h := ?_)
                refine nx (h := ?_)
                refine one 12 (h := ?_)
                first | refine stA (h := ?_) | refine stEA (h := ?_)
                refine nx (h := ?_)
                refine dn (h := ?_)
                exact ctn (bA, bB, bC) trivial (by repeat (first | exact trivial | refine ⟨rfl, ?_⟩)) (by repeat (first | exact SubL.nil | (apply SubL.cons; (repeat (first | exact At.here | apply At.there))) | exact SubL.refl _ | apply SubL.skip))
            · skip
              refine al (h := fun bB => ?_)
              refine nx (h := ?_)
              refine two 2 7 (h1 := ?_) (h2 := ?_)
              · skip
                refine cl0 (hc := fun w hS => C_ref1_Won b.st A n c w (hS.get (by repeat (first | exact Rds.ro | exact Rds.own | apply Rds.there))) (by omega)) (h := ?_)
                refine nx (h := ?_)
                refine one 7 (h := ?_)
                refine al (h := fun bA => ?_)
                refine nx (h := ?_)
                refine one 10 (h := ?_)
                first | refine stA (h := ?_) | refine stEA (h := ?_)
                refine nx (h := ?_)
                refine one 11 (h := ?_)
                first | refine stA (h := ?_) | refine stEA (h := ?_)
                refine nx (h := ?_)
                refine one 12 (h := ?_)
                first | refine stA (h := ?_) | refine stEA (h := ?_)
                refine nx (h := ?_)
                refine dn (h := ?_)
                exact ctn (bA, bB, bC) trivial (by repeat (first | exact trivial | refine ⟨rfl, ?_⟩)) (by repeat (first | exact SubL.nil | (apply SubL.cons; (repeat (first | exact At.here | apply At.there))) | exact SubL.refl _ | apply SubL.skip))
              · skip
                refine al (h := fun bA => ?_)
                refine nx (h := ?_)
                refine one 2 (h := ?_)
                refine cl0 (hc := fun w hS => C_ref1_Won b.st A n c w (hS.get (by repeat (first | exact Rds.ro | exact Rds.own | apply Rds.there))) (by omega)) (h := ?_)
                refine nx (h := ?_)
                refine one 10 (h := ?_)
                first | refine stA (h := ?_) | refine stEA (h := ?_)
                refine nx (h := ?_)
                refine one 11 (h := ?_)
                first | refine stA (h := ?_) | refine stEA (h := ?_)
                refine nx (h := ?_)
                refine one 12 (h := ?_)
                first | refine stA (h := ?_) | refine stEA (h := ?_)
                refine nx (h := ?_)
                refine dn (h := ?_)
                exact ctn (bA, bB, bC) trivial (by repeat (first | exact trivial | refine ⟨rfl, ?_⟩)) (by repeat (first | exact SubL.nil | (apply SubL.cons; (repeat (first | exact At.here | apply At.there))) | exact SubL.refl _ | apply SubL.skip))
        rintro ⟨bA, bB, bC⟩ -
        dsimp only
        refine ct (X := Unit) (fun _ => True) (fun _ => [(2, .int .i64 side), (3, .pointer (some ⟨b0, 0, none⟩)), (4, .pointer (some ⟨b1, 0, none⟩)), (10, .pointer (some ⟨bA, 0, none⟩)), (11, .pointer (some ⟨bB, 0, none⟩)), (12, .pointer (some ⟨bC, 0, none⟩))]) (fun _ => [.blk bA 26 [.int .i64 (ownP side (wonV b.st)).1, .int .i64 (ownP side (wonV b.st)).2], .blk bB 26 [.int .i64 (ownP side b.g).1, .int .i64 (ownP side b.g).2], .blk bC 26 [.int .i64 (ownP side b.p).1, .int .i64 (ownP side b.p).2], .blk b0 23 f.cells, .blk b1 28 (b.cells A n c), .ro A 2 n (encP b.st)]) (h1 := ?_) (h2 := ?_)
        · skip
          refine sq (h := ?_)
          refine rg (h := ?_)
          refine WL.y (hy := mv) (h := ?_)
          refine WL.y (hy := eql) (h := ?_)
          refine nl (h := ?_)
          refine q_seq (h := ?_)
          refine cd (by exact rfl) (fun h3 => ?_) (fun h3 => ?_)
          · skip
            obtain rfl : side = 1 := of_decide_eq_true h3
            refine rgD (by kernel_rfl) [(6, .blk bA 26 [.int .i64 (wonV b.st).1, .int .i64 (wonV b.st).2]), (7, .blk bB 26 [.int .i64 b.g.1, .int .i64 b.g.2]), (8, .blk bC 26 [.int .i64 b.p.1, .int .i64 b.p.2])] (by repeat (first | exact HS.nil | (apply HS.keep; (repeat (first | exact At.here | apply At.there))) | (apply HS.ro; (repeat (first | exact Rds.ro | exact Rds.own | apply Rds.there))))) (h := ?_)
            refine tk 0 (hy := (by first | exact ldA | exact ldEA)) (h := ?_)
            refine tk 2 (hy := (by first | exact ldA | exact ldEA)) (h := ?_)
            refine tk 4 (hy := (by first | exact ldA | exact ldEA)) (h := ?_)
            refine one 1 (h := ?_)
            refine cl0 (hc := fun w hS => C_ref1_swapped _ w) (h := ?_)
            refine nx (h := ?_)
            refine one 3 (h := ?_)
            refine cl0 (hc := fun w hS => C_ref1_swapped _ w) (h := ?_)
            refine nx (h := ?_)
            refine one 5 (h := ?_)
            refine cl0 (hc := fun w hS => C_ref1_swapped _ w) (h := ?_)
            refine nx (h := ?_)
            refine one 6 (h := ?_)
            first | refine stA (h := ?_) | refine stEA (h := ?_)
            refine nx (h := ?_)
            refine one 7 (h := ?_)
            first | refine stA (h := ?_) | refine stEA (h := ?_)
            refine nx (h := ?_)
            refine one 8 (h := ?_)
            first | refine stA (h := ?_) | refine stEA (h := ?_)
            refine nx (h := ?_)
            refine dn (h := ?_)
            exact ctn () trivial (by repeat (first | exact trivial | refine ⟨rfl, ?_⟩)) (by repeat (first | exact SubL.nil | (apply SubL.cons; (repeat (first | exact At.here | apply At.there))) | exact SubL.refl _ | apply SubL.skip))
          · skip
            obtain rfl : side = 0 := by have := of_decide_eq_false h3; omega
            refine skp (h := ?_)
            exact ctn () trivial (by repeat (first | exact trivial | refine ⟨rfl, ?_⟩)) (by repeat (first | exact SubL.nil | (apply SubL.cons; (repeat (first | exact At.here | apply At.there))) | exact SubL.refl _ | apply SubL.skip))
        rintro ⟨⟩ -
        have hown : ((ownP side (wonV b.st)).1 = (wonV b.st).1 ∧ (ownP side (wonV b.st)).2 = (wonV b.st).2) ∨ ((ownP side (wonV b.st)).1 = (wonV b.st).2 ∧ (ownP side (wonV b.st)).2 = (wonV b.st).1) := by
          rcases hs with rfl | rfl
          · exact .inl ⟨rfl, rfl⟩
          · exact .inr ⟨rfl, rfl⟩
        have hwr := own_rng hs hw2
        have hgr := own_rng hs hbg
        have hs1 := hf.s1
        obtain ⟨a, ha⟩ : ∃ a : Nat, (ownP side b.g).1 = a := ⟨_, (Int.toNat_of_nonneg hgr.1.1).symm⟩
        obtain ⟨b', hb'⟩ : ∃ a : Nat, (ownP side b.g).2 = a := ⟨_, (Int.toNat_of_nonneg hgr.2.1).symm⟩
        rw [ha, hb']
        refine sq (h := ?_)
        refine sq (h := ?_)
        refine rg (h := ?_)
        refine WL.y (hy := (by first | exact fa | exact faE)) (h := ?_)
        refine WL.y (hy := (by first | exact ld | exact ldE)) (h := ?_)
        refine WL.y (hy := (by first | exact fa | exact faE)) (h := ?_)
        refine WL.y (hy := (by first | exact ld | exact ldE)) (h := ?_)
        refine WL.y (hy := eql) (h := ?_)
        refine nl (h := ?_)
        refine q_seq (h := ?_)
        refine cd (by exact rfl) (fun h4 => ?_) (fun h4 => ?_)
        · skip
          have hos : (ownP side (wonV b.st)).1 = f.sets := of_decide_eq_true h4
          have hE : leastR f b side = [.int .i64 0, .int .i64 0] := by
            have hle : leadsV (arisesV f b).1 f.sets 1 = side := by rw [hw1]; exact (leads_own (by omega) hs).2 (by omega)
            have hoo : overV f (arisesV f b).1 = true := by rw [hw1, over_won hw2, Bool.or_eq_true, decide_eq_true_eq, decide_eq_true_eq]; rcases hown with h1 | h1 <;> omega
            rw [hL, hoo, decide_eq_true hle, least_over hoo hle]; rfl
          refine sq (h := ?_)
          refine rg (h := ?_)
          refine WL.y (hy := asg) (h := ?_)
          refine WL.y (hy := asg) (h := ?_)
          refine nl (h := ?_)
          refine q_seq (h := ?_)
          refine rtn (h := ?_)
          refine q_then_ret (h := ?_)
          refine q_ret (hR := ?_)
          rw [hE]
          exact fun w hS => ⟨rfl, hS.sub (by repeat (first | exact SubL.nil | (apply SubL.cons; (repeat (first | exact At.here | apply At.there))) | exact SubL.refl _ | apply SubL.skip))⟩
        · skip
          have hos1 : ¬ (ownP side (wonV b.st)).1 = f.sets := of_decide_eq_false h4
          refine skp (h := ?_)
          refine q_seq (h := ?_)
          refine sq (h := ?_)
          refine sq (h := ?_)
          refine rg (h := ?_)
          refine WL.y (hy := (by first | exact fa | exact faE)) (h := ?_)
          refine WL.y (hy := (by first | exact ld | exact ldE)) (h := ?_)
          refine WL.y (hy := (by first | exact fa | exact faE)) (h := ?_)
          refine WL.y (hy := (by first | exact ld | exact ldE)) (h := ?_)
          refine WL.y (hy := eql) (h := ?_)
          refine nl (h := ?_)
          refine q_seq (h := ?_)
          refine cd (by exact rfl) (fun h5 => ?_) (fun h5 => ?_)
          · skip
            have hos : (ownP side (wonV b.st)).2 = f.sets := of_decide_eq_true h5
            have hE : leastR f b side = [.int .i64 0, .int .i64 3] := by
              have hle : ¬ leadsV (arisesV f b).1 f.sets 1 = side := by rw [hw1]; exact fun e => by have := (leads_own (by omega) hs).1 e; omega
              have hoo : overV f (arisesV f b).1 = true := by rw [hw1, over_won hw2, Bool.or_eq_true, decide_eq_true_eq, decide_eq_true_eq]; rcases hown with h1 | h1 <;> omega
              rw [hL, hoo, decide_eq_false hle]; rfl
            refine sq (h := ?_)
            refine rg (h := ?_)
            refine WL.y (hy := asg) (h := ?_)
            refine WL.y (hy := asg) (h := ?_)
            refine nl (h := ?_)
            refine q_seq (h := ?_)
            refine rtn (h := ?_)
            refine q_then_ret (h := ?_)
            refine q_ret (hR := ?_)
            rw [hE]
            exact fun w hS => ⟨rfl, hS.sub (by repeat (first | exact SubL.nil | (apply SubL.cons; (repeat (first | exact At.here | apply At.there))) | exact SubL.refl _ | apply SubL.skip))⟩
          · skip
            have hos2 : ¬ (ownP side (wonV b.st)).2 = f.sets := of_decide_eq_false h5
            have hM : 0 ≤ (ownP side (wonV b.st)).1 ∧ (ownP side (wonV b.st)).1 < f.sets := by omega
            have hT : 0 ≤ (ownP side (wonV b.st)).2 ∧ (ownP side (wonV b.st)).2 < f.sets := by omega
            have hov : overV f (wonV b.st) = false := by rw [over_won hw2, Bool.or_eq_false_iff, decide_eq_false_iff_not, decide_eq_false_iff_not]; rcases hown with h1 | h1 <;> omega
            obtain ⟨hop, hpt⟩ : OpenP f (setV f (wonV b.st)) b.g.1 b.g.2 ∧ arePts f (tiedV f b.st b.g) (setV f (wonV b.st)).2 b.p = true := by
              rcases hw3 with h3 | ⟨_, h4, h5⟩
              · rw [h3] at hov; cases hov
              · exact ⟨h4, h5⟩
            have hlo := least_own hf hs hbo hari hov
            have hov' : overV f (arisesV f b).1 = false := by rw [hw1]; exact hov
            rw [hov', Bool.false_and, cond_false, hlo] at hL
            have hop2 := open_own hs hop
            rw [← set_own f side] at hop2 hpt
            have htie := tie_ok hf (ownP side (wonV b.st))
            have hto := set_to hf (ownP side (wonV b.st))
            have hto1 := set_to1 hf (ownP side (wonV b.st))
            have htd : tiedV f b.st b.g = brksV (setV f (ownP side (wonV b.st))) (ownP side b.g) := by rw [tied_is hbg.1.1, brks_own hs, set_own]
            have hst2 : (setV f (wonV b.st)).2 = (setV f (ownP side (wonV b.st))).2 := by rw [set_own]
            obtain ⟨T, hTT⟩ : ∃ T, T = tiedV f b.st b.g := ⟨_, rfl⟩
            obtain ⟨S, hSS⟩ : ∃ S, S = setV f (ownP side (wonV b.st)) := ⟨_, rfl⟩
            rw [← hTT, ← hSS] at hL
            rw [← hSS] at hop2 htie hto hto1 htd hpt hst2
            rw [← hTT] at htd hpt
            rw [ha, hb'] at hL hop2
            have hgp : ownP side b.g = ((a : Int), (b' : Int)) := Prod.ext ha hb'
            rw [hgp] at htd
            have hEO1 : EO f S a b' = (T || decide (leadsV ((a : Int) + 1, (b' : Int)) f.games 2 = 0)) := by rw [EO, htd, eo_lead]
            have hEO2 : EO f S b' a = (T || decide (leadsV ((a : Int), (b' : Int) + 1) f.games 2 = 1)) := by rw [eo_swap, htd, eo_lead']
            obtain ⟨hpn1, hpn2⟩ := pts_need hs hpt
            have hpo := own_rng hs hbp
            have hlr : 0 ≤ lst S T ∧ lst S T ≤ 15 := by unfold lst; cases T <;> simp only [cond_true, cond_false] <;> omega
            have hSm : Sm ((a : Int), (b' : Int)) := ⟨by dsimp only; omega, by dsimp only; omega⟩
            have hSm1 : Sm ((a : Int) + 1, (b' : Int)) := ⟨by dsimp only; omega, by dsimp only; omega⟩
            have hSm2 : Sm ((a : Int), (b' : Int) + 1) := ⟨by dsimp only; omega, by dsimp only; omega⟩
            refine skp (h := ?_)
            refine q_seq (h := ?_)
            refine sq (h := ?_)
            refine rg (h := ?_)
            refine WL.y (hy := (by first | exact ldA | exact ldEA)) (h := ?_)
            refine WL.y (hy := (by first | exact fa | exact faE)) (h := ?_)
            refine WL.y (hy := (by first | exact ld | exact ldE)) (h := ?_)
            refine WL.y (hy := (by first | exact fa | exact faE)) (h := ?_)
            refine WL.y (hy := (by first | exact ld | exact ldE)) (h := ?_)
            refine cl (hc := fun w hS => C_costs' f hf (ownP side (wonV b.st)).1 (ownP side (wonV b.st)).2 (D1 f ((ownP side (wonV b.st)).1 + 1) (ownP side (wonV b.st)).2) (D1 f (ownP side (wonV b.st)).1 ((ownP side (wonV b.st)).2 + 1)) hM hT ⟨d1_rng hf _ _, d1_rng hf _ _⟩ (C_from f hf _ _ (by omega) (by omega)) (C_from f hf _ _ (by omega) (by omega)) w) (h := fun x hx => ?_)
            rw [← own_pair] at hx
            obtain ⟨XA, Xc, Xx, hxr, hxl, hxv, hxg, hxd⟩ := hx.1.at (a := a + 1) (by omega)
            obtain ⟨YA, Yc, Yx, hyr, hyl, hyv, hyg, hyd⟩ := hx.1.at (a := a) (by omega)
            have hv1 := hx.2 (a + 1) b' (by omega) (by omega)
            have hv2 := hx.2 a (b' + 1) (by omega) (by omega)
            rw [hxg, ← hSS] at hv1
            rw [hyg, ← hSS] at hv2
            refine WL.y (hy := asg) (h := ?_)
            refine nl (h := ?_)
            refine q_seq (h := ?_)
            refine sq (h := ?_)
            refine rg (h := ?_)
            refine WL.y (hy := (by first | exact ldA | exact ldEA)) (h := ?_)
            refine WL.y (hy := (by first | exact ldA | exact ldEA)) (h := ?_)
            refine cl0 (hc := fun w hS => C_ref1_tied f b A n c hf w (hS.get (by repeat (first | exact Rds.ro | exact Rds.own | apply Rds.there))) (by omega)) (h := ?_)
            refine WL.y (hy := mv) (h := ?_)
            refine WL.y (hy := ex) (h := ?_)
            refine WL.y (hy := ex) (h := ?_)
            refine WL.y (hy := asg) (h := ?_)
            refine WL.y (hy := asg) (h := ?_)
            refine nl (h := ?_)
            refine q_seq (h := ?_)
            refine sq (h := ?_)
            refine rgD0 (by kernel_rfl) (h := ?_)
            refine tk 0 (hy := (by first | exact fa | exact faE)) (h := ?_)
            refine tk 1 (hy := (by first | exact ld | exact ldE)) (h := ?_)
            refine tk 2 (hy := notB) (h := ?_)
            refine tk 3 (hy := asg) (h := ?_)
            refine tk 4 (hy := asg) (h := ?_)
            refine dn (h := ?_)
            refine q_seq (h := ?_)
            refine ct (X := Unit) (fun _ => True) (fun _ => [(2, .int .i64 side), (3, .pointer (some ⟨b0, 0, none⟩)), (4, .pointer (some ⟨b1, 0, none⟩)), (10, .pointer (some ⟨bA, 0, none⟩)), (11, .pointer (some ⟨bB, 0, none⟩)), (12, .pointer (some ⟨bC, 0, none⟩)), (13, .slice x.A 45 x.c), (14, .bool (tiedV f b.st b.g)), (16, .int .i64 (lst S T)), (17, .bool (adV f T))]) (fun _ => [.own x.A x.c 45 1 45 (mxV x.T), mxE 3 x.T, .blk bA 26 [.int .i64 (ownP side (wonV b.st)).1, .int .i64 (ownP side (wonV b.st)).2], .blk bB 26 [.int .i64 a, .int .i64 b'], .blk bC 26 [.int .i64 (ownP side b.p).1, .int .i64 (ownP side b.p).2], .blk b0 23 f.cells, .blk b1 28 (b.cells A n c), .ro A 2 n (encP b.st)]) (h1 := ?_) (h2 := ?_)
            · skip
              refine sq (h := ?_)
              refine rg (h := ?_)
              refine WL.y (hy := mv) (h := ?_)
              refine nl (h := ?_)
              refine q_seq (h := ?_)
              refine cd (by exact rfl) (fun h6 => ?_) (fun h6 => ?_)
              · skip
                have hTt : T = true := hTT.trans h6
                refine rg (h := ?_)
                refine WL.y (hy := mv) (h := ?_)
                refine WL.y (hy := asg) (h := ?_)
                refine WL.y (hy := asg) (h := ?_)
                refine nl (h := ?_)
                first | (subst hTt; rw [hst2] at *; exact ctn () trivial (by rw [hst2]; repeat (first | exact trivial | refine ⟨rfl, ?_⟩)) (by repeat (first | exact SubL.nil | (apply SubL.cons; (repeat (first | exact At.here | apply At.there))) | exact SubL.refl _ | apply SubL.skip))) | (rw [hTf]; exact ctn () trivial (by repeat (first | exact trivial | refine ⟨rfl, ?_⟩)) (by repeat (first | exact SubL.nil | (apply SubL.cons; (repeat (first | exact At.here | apply At.there))) | exact SubL.refl _ | apply SubL.skip)))
              · skip
                have hTf : T = false := hTT.trans h6
                refine skp (h := ?_)
                first | (subst hTt; rw [hst2] at *; exact ctn () trivial (by rw [hst2]; repeat (first | exact trivial | refine ⟨rfl, ?_⟩)) (by repeat (first | exact SubL.nil | (apply SubL.cons; (repeat (first | exact At.here | apply At.there))) | exact SubL.refl _ | apply SubL.skip))) | (rw [hTf]; exact ctn () trivial (by repeat (first | exact trivial | refine ⟨rfl, ?_⟩)) (by repeat (first | exact SubL.nil | (apply SubL.cons; (repeat (first | exact At.here | apply At.there))) | exact SubL.refl _ | apply SubL.skip)))
            rintro ⟨⟩ -
            refine sq (h := ?_)
            refine rgD0 (by kernel_rfl) (h := ?_)
            refine tk 0 (hy := mv) (h := ?_)
            refine tk 1 (hy := (by first | exact fa | exact faE)) (h := ?_)
            refine tk 2 (hy := (by first | exact ld | exact ldE)) (h := ?_)
            refine tk 3 (hy := addI) (h := ?_)
            refine tk 4 (hy := ix (A := x.A) (m := 45)) (h := ?_)
            refine tk 5 (hy := ldE (A := x.A) (hk := hxv)) (h := ?_)
            refine tk 6 (hy := (by first | exact fa | exact faE)) (h := ?_)
            refine tk 7 (hy := (by first | exact ld | exact ldE)) (h := ?_)
            refine tk 8 (hy := ix (A := XA) (m := 45) (hr := by repeat (first | exact Rds.any (hxd 3) | apply Rds.there))) (h := ?_)
            refine tk 9 (hy := ldE (A := XA) (hr := by repeat (first | exact Rds.any (hxd 3) | apply Rds.there)) (hk := mI_at (k := b') (by omega))) (h := ?_)
            refine tk 10 (hy := mv) (h := ?_)
            refine tk 11 (hy := (by first | exact fa | exact faE)) (h := ?_)
            refine tk 12 (hy := (by first | exact ld | exact ldE)) (h := ?_)
            refine tk 13 (hy := ix (A := x.A) (m := 45)) (h := ?_)
            refine tk 14 (hy := ldE (A := x.A) (hk := hyv)) (h := ?_)
            refine tk 15 (hy := (by first | exact fa | exact faE)) (h := ?_)
            refine tk 16 (hy := (by first | exact ld | exact ldE)) (h := ?_)
            refine tk 17 (hy := addI) (h := ?_)
            refine tk 18 (hy := ix (A := YA) (m := 45) (hr := by repeat (first | exact Rds.any (hyd 3) | apply Rds.there))) (h := ?_)
            refine tk 19 (hy := ldE (A := YA) (hr := by repeat (first | exact Rds.any (hyd 3) | apply Rds.there)) (hk := mI_at (k := b' + 1) (by omega))) (h := ?_)
            refine tk 20 (hy := asg) (h := ?_)
            refine tk 21 (hy := asg) (h := ?_)
            refine dn (h := ?_)
            refine q_seq (h := ?_)
            refine ct (X := Unit) (fun _ => True) (fun _ => [(2, .int .i64 side), (3, .pointer (some ⟨b0, 0, none⟩)), (4, .pointer (some ⟨b1, 0, none⟩)), (10, .pointer (some ⟨bA, 0, none⟩)), (11, .pointer (some ⟨bB, 0, none⟩)), (12, .pointer (some ⟨bC, 0, none⟩)), (13, .slice x.A 45 x.c), (14, .bool (tiedV f b.st b.g)), (16, .int .i64 (lst S T)), (17, .bool (adV f T)), (18, .int .i64 (winC f 1000000 S (ownP side (wonV b.st)).1 (ownP side (wonV b.st)).2 a b')), (19, .int .i64 (Yx.getD (b' + 1) 0))]) (fun _ => [.own x.A x.c 45 1 45 (mxV x.T), mxE 3 x.T, .blk bA 26 [.int .i64 (ownP side (wonV b.st)).1, .int .i64 (ownP side (wonV b.st)).2], .blk bB 26 [.int .i64 a, .int .i64 b'], .blk bC 26 [.int .i64 (ownP side b.p).1, .int .i64 (ownP side b.p).2], .blk b0 23 f.cells, .blk b1 28 (b.cells A n c), .ro A 2 n (encP b.st)]) (h1 := ?_) (h2 := ?_)
            · skip
              refine ct (X := Unit) (fun _ => True) (fun _ => (104, .bool (EO f S a b')) :: [(2, .int .i64 side), (3, .pointer (some ⟨b0, 0, none⟩)), (4, .pointer (some ⟨b1, 0, none⟩)), (10, .pointer (some ⟨bA, 0, none⟩)), (11, .pointer (some ⟨bB, 0, none⟩)), (12, .pointer (some ⟨bC, 0, none⟩)), (13, .slice x.A 45 x.c), (14, .bool (tiedV f b.st b.g)), (16, .int .i64 (lst S T)), (17, .bool (adV f T)), (18, .int .i64 (Xx.getD b' 0)), (19, .int .i64 (Yx.getD (b' + 1) 0))]) (fun _ => [.own x.A x.c 45 1 45 (mxV x.T), mxE 3 x.T, .blk bA 26 [.int .i64 (ownP side (wonV b.st)).1, .int .i64 (ownP side (wonV b.st)).2], .blk bB 26 [.int .i64 a, .int .i64 b'], .blk bC 26 [.int .i64 (ownP side b.p).1, .int .i64 (ownP side b.p).2], .blk b0 23 f.cells, .blk b1 28 (b.cells A n c), .ro A 2 n (encP b.st)]) (h1 := ?_) (h2 := ?_)
              · skip
                refine rgD0 (by kernel_rfl) (h := ?_)
                refine tk 0 (hy := mv) (h := ?_)
                refine tk 1 (hy := mv) (h := ?_)
                refine brH (g := 97) (by exact rfl) (fun hb7 => ?_) (fun hb7 => ?_)
                · skip
                  refine tkS 2 (h := ?_)
                  refine tkS 4 (h := ?_)
                  refine tkS 5 (h := ?_)
                  refine tkS 3 (h := ?_)
                  refine tkS 6 (h := ?_)
                  refine tkS 7 (h := ?_)
                  refine tk 8 (hy := (by first | exact pkT | exact pkF)) (h := ?_)
                  refine dn (h := ?_)
                  exact ctn () trivial (by repeat (first | exact trivial | refine ⟨rfl, ?_⟩ | refine ⟨by rw [hEO1, hTT]; first | rfl | (rw [‹tiedV f b.st b.g = true›]; rfl) | (rw [‹tiedV f b.st b.g = false›]; rfl), ?_⟩)) (by repeat (first | exact SubL.nil | (apply SubL.cons; (repeat (first | exact At.here | apply At.there))) | exact SubL.refl _ | apply SubL.skip))
                · skip
                  refine tk 2 (hy := (by first | exact ldA | exact ldEA)) (h := ?_)
                  refine tk 4 (hy := (by first | exact fa | exact faE)) (h := ?_)
                  refine tk 5 (hy := (by first | exact ld | exact ldE)) (h := ?_)
                  refine one 3 (h := ?_)
                  refine un (h := ?_)
                  refine cl0 (hc := fun w hS => C_ref1_plus ((a : Int), (b' : Int)) 0 hSm w) (h := ?_)
                  refine nx (h := ?_)
                  refine one 6 (h := ?_)
                  refine un (h := ?_)
                  refine cl0 (hc := fun w hS => C_ref1_leads ((a : Int) + 1, (b' : Int)) f.games hSm1 w) (h := ?_)
                  refine nx (h := ?_)
                  refine tk 7 (hy := eql) (h := ?_)
                  refine tk 8 (hy := (by first | exact pkT | exact pkF)) (h := ?_)
                  refine dn (h := ?_)
                  exact ctn () trivial (by repeat (first | exact trivial | refine ⟨rfl, ?_⟩ | refine ⟨by rw [hEO1, hTT]; first | rfl | (rw [‹tiedV f b.st b.g = true›]; rfl) | (rw [‹tiedV f b.st b.g = false›]; rfl), ?_⟩)) (by repeat (first | exact SubL.nil | (apply SubL.cons; (repeat (first | exact At.here | apply At.there))) | exact SubL.refl _ | apply SubL.skip))
              rintro ⟨⟩ -
              refine cd (by exact rfl) (fun h8 => ?_) (fun h8 => ?_)
              · skip
                have hw := win_end hf hM hT h8
                refine rg (h := ?_)
                refine WL.y (hy := (by first | exact ldA | exact ldEA)) (h := ?_)
                refine WL.y (hy := (by first | exact fa | exact faE)) (h := ?_)
                refine WL.y (hy := (by first | exact ld | exact ldE)) (h := ?_)
                refine WL.y (hy := addI) (h := ?_)
                refine WL.y (hy := (by first | exact fa | exact faE)) (h := ?_)
                refine WL.y (hy := (by first | exact ld | exact ldE)) (h := ?_)
                refine cl0 (hc := fun w hS => C_from f hf ((ownP side (wonV b.st)).1 + 1) (ownP side (wonV b.st)).2 (by omega) (by omega) w) (h := ?_)
                refine WL.y (hy := asg) (h := ?_)
                refine nl (h := ?_)
                exact ctn () trivial (by repeat (first | exact trivial | refine ⟨rfl, ?_⟩ | refine ⟨by rw [← hw]; rfl, ?_⟩)) (by repeat (first | exact SubL.nil | (apply SubL.cons; (repeat (first | exact At.here | apply At.there))) | exact SubL.refl _ | apply SubL.skip))
              · skip
                have hw := hv1.trans (win_tb hf htie hto hM hT ⟨by omega, by omega⟩ hop2 h8)
                refine skp (h := ?_)
                exact ctn () trivial (by repeat (first | exact trivial | refine ⟨rfl, ?_⟩ | refine ⟨by rw [← hw]; rfl, ?_⟩)) (by repeat (first | exact SubL.nil | (apply SubL.cons; (repeat (first | exact At.here | apply At.there))) | exact SubL.refl _ | apply SubL.skip))
            rintro ⟨⟩ -
            refine ct (X := Unit) (fun _ => True) (fun _ => [(2, .int .i64 side), (3, .pointer (some ⟨b0, 0, none⟩)), (4, .pointer (some ⟨b1, 0, none⟩)), (10, .pointer (some ⟨bA, 0, none⟩)), (11, .pointer (some ⟨bB, 0, none⟩)), (12, .pointer (some ⟨bC, 0, none⟩)), (13, .slice x.A 45 x.c), (14, .bool (tiedV f b.st b.g)), (16, .int .i64 (lst S T)), (17, .bool (adV f T)), (18, .int .i64 (winC f 1000000 S (ownP side (wonV b.st)).1 (ownP side (wonV b.st)).2 a b')), (19, .int .i64 (losC f 1000000 S (ownP side (wonV b.st)).1 (ownP side (wonV b.st)).2 a b'))]) (fun _ => [.own x.A x.c 45 1 45 (mxV x.T), mxE 3 x.T, .blk bA 26 [.int .i64 (ownP side (wonV b.st)).1, .int .i64 (ownP side (wonV b.st)).2], .blk bB 26 [.int .i64 a, .int .i64 b'], .blk bC 26 [.int .i64 (ownP side b.p).1, .int .i64 (ownP side b.p).2], .blk b0 23 f.cells, .blk b1 28 (b.cells A n c), .ro A 2 n (encP b.st)]) (h1 := ?_) (h2 := ?_)
            · skip
              refine ct (X := Unit) (fun _ => True) (fun _ => (120, .bool (EO f S b' a)) :: [(2, .int .i64 side), (3, .pointer (some ⟨b0, 0, none⟩)), (4, .pointer (some ⟨b1, 0, none⟩)), (10, .pointer (some ⟨bA, 0, none⟩)), (11, .pointer (some ⟨bB, 0, none⟩)), (12, .pointer (some ⟨bC, 0, none⟩)), (13, .slice x.A 45 x.c), (14, .bool (tiedV f b.st b.g)), (16, .int .i64 (lst S T)), (17, .bool (adV f T)), (18, .int .i64 (winC f 1000000 S (ownP side (wonV b.st)).1 (ownP side (wonV b.st)).2 a b')), (19, .int .i64 (Yx.getD (b' + 1) 0))]) (fun _ => [.own x.A x.c 45 1 45 (mxV x.T), mxE 3 x.T, .blk bA 26 [.int .i64 (ownP side (wonV b.st)).1, .int .i64 (ownP side (wonV b.st)).2], .blk bB 26 [.int .i64 a, .int .i64 b'], .blk bC 26 [.int .i64 (ownP side b.p).1, .int .i64 (ownP side b.p).2], .blk b0 23 f.cells, .blk b1 28 (b.cells A n c), .ro A 2 n (encP b.st)]) (h1 := ?_) (h2 := ?_)
              · skip
                refine rgD0 (by kernel_rfl) (h := ?_)
                refine tk 0 (hy := mv) (h := ?_)
                refine tk 1 (hy := mv) (h := ?_)
                refine brH (g := 113) (by exact rfl) (fun hb9 => ?_) (fun hb9 => ?_)
                · skip
                  refine tkS 2 (h := ?_)
                  refine tkS 4 (h := ?_)
                  refine tkS 5 (h := ?_)
                  refine tkS 3 (h := ?_)
                  refine tkS 6 (h := ?_)
                  refine tkS 7 (h := ?_)
                  refine tk 8 (hy := (by first | exact pkT | exact pkF)) (h := ?_)
                  refine dn (h := ?_)
                  exact ctn () trivial (by repeat (first | exact trivial | refine ⟨rfl, ?_⟩ | refine ⟨by rw [hEO2, hTT]; first | rfl | (rw [‹tiedV f b.st b.g = true›]; rfl) | (rw [‹tiedV f b.st b.g = false›]; rfl), ?_⟩)) (by repeat (first | exact SubL.nil | (apply SubL.cons; (repeat (first | exact At.here | apply At.there))) | exact SubL.refl _ | apply SubL.skip))
                · skip
                  refine tk 2 (hy := (by first | exact ldA | exact ldEA)) (h := ?_)
                  refine tk 4 (hy := (by first | exact fa | exact faE)) (h := ?_)
                  refine tk 5 (hy := (by first | exact ld | exact ldE)) (h := ?_)
                  refine one 3 (h := ?_)
                  refine un (h := ?_)
                  refine cl0 (hc := fun w hS => C_ref1_plus ((a : Int), (b' : Int)) 1 hSm w) (h := ?_)
                  refine nx (h := ?_)
                  refine one 6 (h := ?_)
                  refine un (h := ?_)
                  refine cl0 (hc := fun w hS => C_ref1_leads ((a : Int), (b' : Int) + 1) f.games hSm2 w) (h := ?_)
                  refine nx (h := ?_)
                  refine tk 7 (hy := eql) (h := ?_)
                  refine tk 8 (hy := (by first | exact pkT | exact pkF)) (h := ?_)
                  refine dn (h := ?_)
                  exact ctn () trivial (by repeat (first | exact trivial | refine ⟨rfl, ?_⟩ | refine ⟨by rw [hEO2, hTT]; first | rfl | (rw [‹tiedV f b.st b.g = true›]; rfl) | (rw [‹tiedV f b.st b.g = false›]; rfl), ?_⟩)) (by repeat (first | exact SubL.nil | (apply SubL.cons; (repeat (first | exact At.here | apply At.there))) | exact SubL.refl _ | apply SubL.skip))
              rintro ⟨⟩ -
              refine cd (by exact rfl) (fun h10 => ?_) (fun h10 => ?_)
              · skip
                have hl := los_end hf hM hT h10
                refine rg (h := ?_)
                refine WL.y (hy := (by first | exact ldA | exact ldEA)) (h := ?_)
                refine WL.y (hy := (by first | exact fa | exact faE)) (h := ?_)
                refine WL.y (hy := (by first | exact ld | exact ldE)) (h := ?_)
                refine WL.y (hy := (by first | exact fa | exact faE)) (h := ?_)
                refine WL.y (hy := (by first | exact ld | exact ldE)) (h := ?_)
                refine WL.y (hy := addI) (h := ?_)
                refine cl0 (hc := fun w hS => C_from f hf (ownP side (wonV b.st)).1 ((ownP side (wonV b.st)).2 + 1) (by omega) (by omega) w) (h := ?_)
                refine WL.y (hy := asg) (h := ?_)
                refine nl (h := ?_)
                exact ctn () trivial (by repeat (first | exact trivial | refine ⟨rfl, ?_⟩ | refine ⟨by rw [← hl]; rfl, ?_⟩)) (by repeat (first | exact SubL.nil | (apply SubL.cons; (repeat (first | exact At.here | apply At.there))) | exact SubL.refl _ | apply SubL.skip))
              · skip
                have hl := hv2.trans (los_tb hf htie hto hM hT ⟨by omega, by omega⟩ hop2 h10)
                refine skp (h := ?_)
                exact ctn () trivial (by repeat (first | exact trivial | refine ⟨rfl, ?_⟩ | refine ⟨by rw [← hl]; rfl, ?_⟩)) (by repeat (first | exact SubL.nil | (apply SubL.cons; (repeat (first | exact At.here | apply At.there))) | exact SubL.refl _ | apply SubL.skip))
            rintro ⟨⟩ -
            have hwb : 0 ≤ winC f 1000000 S (ownP side (wonV b.st)).1 (ownP side (wonV b.st)).2 a b' ∧ winC f 1000000 S (ownP side (wonV b.st)).1 (ownP side (wonV b.st)).2 a b' ≤ 1000000 := by
              cases hE1 : EO f S a b'
              · rw [← win_tb hf htie hto hM hT ⟨by omega, by omega⟩ hop2 hE1]; exact tr_rng (d1_rng hf _ _).1 (d1_rng hf _ _).1 (by omega) _ _ _
              · rw [← win_end hf hM hT hE1]; exact d1_rng hf _ _
            have hlb : 0 ≤ losC f 1000000 S (ownP side (wonV b.st)).1 (ownP side (wonV b.st)).2 a b' ∧ losC f 1000000 S (ownP side (wonV b.st)).1 (ownP side (wonV b.st)).2 a b' ≤ 1000000 := by
              cases hE1 : EO f S b' a
              · rw [← los_tb hf htie hto hM hT ⟨by omega, by omega⟩ hop2 hE1]; exact tr_rng (d1_rng hf _ _).1 (d1_rng hf _ _).1 (by omega) _ _ _
              · rw [← los_end hf hM hT hE1]; exact d1_rng hf _ _
            have hn1 : -1000 ≤ needV (ownP side b.p).1 (ownP side b.p).2 (lst S T) (adV f T) ∧ needV (ownP side b.p).1 (ownP side b.p).2 (lst S T) (adV f T) ≤ 1000 := by unfold needV; cases adV f T <;> simp only [Bool.not_true, Bool.not_false, cond_true, cond_false] <;> omega
            have hn2 : -1000 ≤ needV (ownP side b.p).2 (ownP side b.p).1 (lst S T) (adV f T) ∧ needV (ownP side b.p).2 (ownP side b.p).1 (lst S T) (adV f T) ≤ 1000 := by unfold needV; cases adV f T <;> simp only [Bool.not_true, Bool.not_false, cond_true, cond_false] <;> omega
            have hE : leastR f b side = [.int .i64 (min (needV (ownP side b.p).1 (ownP side b.p).2 (lst S T) (adV f T) + winC f 1000000 S (ownP side (wonV b.st)).1 (ownP side (wonV b.st)).2 a b') (needV (ownP side b.p).2 (ownP side b.p).1 (lst S T) (adV f T) + losC f 1000000 S (ownP side (wonV b.st)).1 (ownP side (wonV b.st)).2 a b')), .int .i64 0] := by rw [hL, hpn1, hpn2]; rfl
            refine sq (h := ?_)
            refine rgD0 (by kernel_rfl) (h := ?_)
            refine tk 0 (hy := (by first | exact fa | exact faE)) (h := ?_)
            refine tk 1 (hy := (by first | exact ld | exact ldE)) (h := ?_)
            refine tk 2 (hy := (by first | exact fa | exact faE)) (h := ?_)
            refine tk 3 (hy := (by first | exact ld | exact ldE)) (h := ?_)
            refine tk 4 (hy := mv) (h := ?_)
            refine tk 5 (hy := mv) (h := ?_)
            refine tk 7 (hy := mv) (h := ?_)
            refine tk 9 (hy := (by first | exact fa | exact faE)) (h := ?_)
            refine tk 10 (hy := (by first | exact ld | exact ldE)) (h := ?_)
            refine tk 11 (hy := (by first | exact fa | exact faE)) (h := ?_)
            refine tk 12 (hy := (by first | exact ld | exact ldE)) (h := ?_)
            refine tk 13 (hy := mv) (h := ?_)
            refine tk 14 (hy := mv) (h := ?_)
            refine tk 16 (hy := mv) (h := ?_)
            refine one 6 (h := ?_)
            refine cl0 (hc := fun w hS => C_need (ownP side b.p).1 (ownP side b.p).2 (lst S T) (adV f T) (by omega) (by omega) (by omega) w) (h := ?_)
            refine nx (h := ?_)
            refine tk 8 (hy := addI) (h := ?_)
            refine one 15 (h := ?_)
            refine cl0 (hc := fun w hS => C_need (ownP side b.p).2 (ownP side b.p).1 (lst S T) (adV f T) (by omega) (by omega) (by omega) w) (h := ?_)
            refine nx (h := ?_)
            refine tk 17 (hy := addI) (h := ?_)
            refine tk 18 (hy := minI) (h := ?_)
            refine tk 19 (hy := asg) (h := ?_)
            refine tk 20 (hy := asg) (h := ?_)
            refine dn (h := ?_)
            refine q_seq (h := ?_)
            refine rtn (h := ?_)
            refine q_ret (hR := ?_)
            rw [hE]
            exact fun w hS => ⟨rfl, hS.sub (by repeat (first | exact SubL.nil | (apply SubL.cons; (repeat (first | exact At.here | apply At.there))) | exact SubL.refl _ | apply SubL.skip))⟩
end Go.Proofs.Ytacaojifempclaa
