/- Walks of score, five: play, Play, Games. -/
import Derived.Test.YtacaojifempclaaS4
namespace Go.Proofs.Ytacaojifempclaa
open Go Go.RowKit

def sideBad (s : Int) : Bool := !decide (s = 0) && !decide (s = 1)
def playTo (f : Fmt) (first : Int) (xs : List Int) : Nat → Option MS
  | 0 => some (beginV f first)
  | k + 1 => match playTo f first xs k, xs[k]? with
    | some m, some s => bif sideBad s || decide (0 ≤ m.winner) then none else some (pointV m s)
    | _, _ => none
def preE (f : Fmt) (first : Int) (n : Nat) : Int := bif !decide (chkF f = 0) then chkF f else bif sideBad first then 1 else bif decide ((600 : Int) < n) then 2 else 0
def playO (f : Fmt) (first : Int) (xs : List Int) : Option MS := bif !decide (preE f first xs.length = 0) then none else playTo f first xs xs.length
def playE (f : Fmt) (first : Int) (xs : List Int) : Int := bif !decide (preE f first xs.length = 0) then preE f first xs.length else match playTo f first xs xs.length with | some _ => 0 | none => 11
theorem playTo_succ {f : Fmt} {first : Int} {xs : List Int} {k : Nat} {m : MS} {s : Int} (h : playTo f first xs k = some m) (hs : xs[k]? = some s) : playTo f first xs (k + 1) = bif sideBad s || decide (0 ≤ m.winner) then none else some (pointV m s) := by rw [playTo, h, hs]
theorem playTo_none {f : Fmt} {first : Int} {xs : List Int} {j : Nat} (h : playTo f first xs j = none) : ∀ {k : Nat}, j ≤ k → playTo f first xs k = none
  | 0, hk => by obtain rfl : j = 0 := by omega
                exact h
  | k + 1, hk => by
    by_cases e : j = k + 1
    · subst e; exact h
    · rw [playTo, playTo_none h (k := k) (by omega)]
theorem chkF_ok {f : Fmt} (h : (!decide (chkF f = 0)) = false) : f.Ok := by
  cases hb : fmtOk f
  · simp [chkF, hb] at h
  · exact fmt_ok hb
theorem side_ok {s : Int} (h : sideBad s = false) : s = 0 ∨ s = 1 := by
  simp only [sideBad, Bool.and_eq_false_iff, Bool.not_eq_false', decide_eq_true_eq] at h
  exact h

theorem nextV_bd {m : MS} {K : Int} (hf : m.f.Ok) (hfs : m.first = 0 ∨ m.first = 1) (hk : 0 ≤ K ∧ K ≤ 1000) (ht : (m.ties.length : Int) ≤ K) (ht1 : 0 ≤ m.winner → 1 ≤ (m.ties.length : Int))
    (hg : (0 ≤ m.g.1 ∧ m.g.1 ≤ K) ∧ 0 ≤ m.g.2 ∧ m.g.2 ≤ K) (hp : (0 ≤ m.p.1 ∧ m.p.1 ≤ K) ∧ 0 ≤ m.p.2 ∧ m.p.2 ≤ K) (hw : (0 ≤ m.won.1 ∧ m.won.1 ≤ K) ∧ 0 ≤ m.won.2 ∧ m.won.2 ≤ K) (he : 0 ≤ m.ends ∧ m.ends ≤ K) (hb : 0 ≤ m.balls ∧ m.balls ≤ K) (hs : (m.st.length : Int) ≤ K) (hgs : (m.gs.length : Int) ≤ K) : (nextV m).Bd K := by
  unfold nextV
  cases hd : decide (0 ≤ m.winner)
  · have hl : ((tiesV m).length : Int) = m.ties.length + 1 := by simp [tiesV]
    refine ⟨hf, hfs, hk, ?_, ?_, hg, hp, hw, he, ?_, hs, hgs⟩
    · simp only [cond_false]; omega
    · simp only [cond_false]; omega
    · simp only [cond_false]
      cases freshV m.f (tiesV m) <;> simp only [cond_true, cond_false] <;> omega
  · have h1 := ht1 (by simpa using hd)
    refine ⟨hf, hfs, hk, h1, ?_, hg, hp, hw, he, ?_, hs, hgs⟩
    · simp only [cond_true]; omega
    · simp only [cond_true]; omega
theorem beginV_bd {f : Fmt} {first : Int} (hf : f.Ok) (h1 : first = 0 ∨ first = 1) : (beginV f first).Bd 0 :=
  nextV_bd hf h1 (by omega) (by simp [begin0]) (by simp [begin0]) (by simp [begin0]) (by simp [begin0]) (by simp [begin0]) (by simp [begin0]) (by simp [begin0]) (by simp [begin0]) (by simp [begin0])
theorem pointV_bd {m : MS} {K side : Int} (h : m.Bd K) (hK : K < 1000) : (pointV m side).Bd (K + 1) := by
  obtain ⟨hf, hfs, hk, ht1, ht2, hg, hp, hw, he, hb, hs, hgs⟩ := h
  have hp' := addV_bd (side := side) hp
  have hg' := addV_bd (side := m.w side) hg
  have hw' := addV_bd (side := m.w side) hw
  unfold pointV
  cases hd : decide (m.w side < 0)
  · simp only [cond_false]
    have hz : (0 ≤ (0 : Int) ∧ (0 : Int) ≤ K + 1) ∧ (0 : Int) ≤ 0 ∧ (0 : Int) ≤ K + 1 := by omega
    have hends : ∀ c : Bool, 0 ≤ (bif c then m.ends + 1 else m.ends) ∧ (bif c then m.ends + 1 else m.ends) ≤ K + 1 := fun c => by cases c <;> simp only [cond_true, cond_false] <;> omega
    have hl : ((m.gs ++ [gameG m side]).length : Int) ≤ K + 1 := by simp; omega
    have hl2 : ((m.st ++ [addV m.g (m.w side)]).length : Int) ≤ K + 1 := by simp; omega
    unfold pointE pointG
    cases setEnds m (m.w side)
    · simp only [cond_false]
      exact nextV_bd hf hfs (by omega) (by dsimp only; omega) (fun _ => ht1) hg' hz (by dsimp only; omega) (hends _) (by dsimp only; omega) (by dsimp only; omega) hl
    · simp only [cond_true]
      exact nextV_bd hf hfs (by omega) (by dsimp only; omega) (fun _ => ht1) hz hz hw' (hends _) (by dsimp only; omega) hl2 hl
  · simp only [cond_true, pointN]
    refine ⟨hf, hfs, by omega, ht1, by dsimp only; omega, by dsimp only; omega, hp', by dsimp only; omega, ?_, by dsimp only; omega, by dsimp only; omega, by dsimp only; omega⟩
    dsimp only
    cases m.tie && decide (((addV m.p side).1 + (addV m.p side).2) % 6 = 0) <;> simp only [cond_true, cond_false] <;> omega
structure PZ where
  (k : Nat) (m : MS) (a : MA)

set_option maxRecDepth 100000 in
theorem C_play_none (f : Fmt) (first : Int) (xs : List Int) (A : Option Addr) (n c : Nat) (w : World) (h : Rd w A 1 n (encI xs)) (hn : n ≤ 9223372036854775807) (hO : playO f first xs = none) :
    C0 Try.prog 75 [f.val, .int .i64 first, .slice A n c] w (.tuple #[.pointer none, .int .i64 (playE f first xs)]) := by
  have hlen : xs.length = n := by have := h.len; rwa [encI_len] at this
  refine ⟨en Try.func75 Try.ntmps75 ((St.init w).share (e := .ro A 1 n (encI xs)) h rfl rfl rfl) (h := fun F => ?_)⟩
  refine sq (h := ?_)
  refine rg (h := ?_)
  refine bxA (h := fun b0 => ?_)
  refine WL.y (hy := asg) (h := ?_)
  refine WL.y (hy := asg) (h := ?_)
  refine nl (h := ?_)
  refine q_seq (h := ?_)
  refine sq (h := ?_)
  refine sq (h := ?_)
  refine rg (h := ?_)
  refine WL.y (hy := (by first | exact ldA | exact ldEA)) (h := ?_)
  refine cl0 (hc := fun w hS => C_score_Check _ w) (h := ?_)
  refine WL.y (hy := asg) (h := ?_)
  refine nl (h := ?_)
  refine q_seq (h := ?_)
  refine sq (h := ?_)
  refine rg (h := ?_)
  refine WL.y (hy := mv) (h := ?_)
  refine WL.y (hy := neq) (h := ?_)
  refine nl (h := ?_)
  refine q_seq (h := ?_)
  refine cd (by exact rfl) (fun h0 => ?_) (fun h0 => ?_)
  · skip
    have hE : playE f first xs = chkF f := by simp only [playE, preE, h0, cond_true]
    refine sq (h := ?_)
    refine rg (h := ?_)
    refine WL.y (hy := mv) (h := ?_)
    refine WL.y (hy := asg) (h := ?_)
    refine WL.y (hy := asg) (h := ?_)
    refine nl (h := ?_)
    refine q_seq (h := ?_)
    refine rtn (h := ?_)
    refine q_then_ret (h := ?_)
    refine q_ret (hR := ?_)
    rw [hE]
    exact fun w hS => ⟨rfl, hS.sub (by repeat (first | exact SubL.nil | (apply SubL.cons; (repeat (first | exact At.here | apply At.there))) | exact SubL.refl _ | apply SubL.skip))⟩
  · skip
    have hf := chkF_ok h0
    have hc0 : (!decide (chkF f = 0)) = false := h0
    refine skp (h := ?_)
    refine q_seq (h := ?_)
    refine sq (h := ?_)
    refine sq (h := ?_)
    refine rg (h := ?_)
    refine WL.y (hy := mv) (h := ?_)
    refine WL.y (hy := neq) (h := ?_)
    refine WL.y (hy := mv) (h := ?_)
    apply brAnd 3 19 22 (by exact rfl)
    · intro hb1
      refine un (h := ?_)
      refine WL.y (hy := mv) (h := ?_)
      refine un (h := ?_)
      refine WL.y (hy := neq) (h := ?_)
      refine WL.y (hy := (by first | exact pkT | exact pkF)) (h := ?_)
      exact mg (by repeat (first | exact trivial | refine ⟨rfl, ?_⟩ | refine ⟨by rw [hb1]; rfl, ?_⟩)) (by repeat (first | exact SubL.nil | (apply SubL.cons; (repeat (first | exact At.here | apply At.there))) | exact SubL.refl _ | apply SubL.skip))
    · intro hb1
      repeat (first | refine un (h := ?_) | refine sk (h := ?_) | refine WL.y (hy := pkF) (h := ?_) | refine WL.y (hy := pkT) (h := ?_))
      exact mg (by repeat (first | exact trivial | refine ⟨rfl, ?_⟩ | refine ⟨by rw [hb1]; rfl, ?_⟩)) (by repeat (first | exact SubL.nil | (apply SubL.cons; (repeat (first | exact At.here | apply At.there))) | exact SubL.refl _ | apply SubL.skip))
    refine nl (h := ?_)
    refine q_seq (h := ?_)
    refine cd (by exact rfl) (fun h2 => ?_) (fun h2 => ?_)
    · skip
      have hE : playE f first xs = 1 := by
        have h' : sideBad first = true := h2
        simp only [playE, preE, hc0, h', cond_true, cond_false]; rfl
      refine sq (h := ?_)
      refine rg (h := ?_)
      refine WL.y (hy := asg) (h := ?_)
      refine WL.y (hy := asg) (h := ?_)
      refine nl (h := ?_)
      refine q_seq (h := ?_)
      refine rtn (h := ?_)
      refine q_then_ret (h := ?_)
      refine q_ret (hR := ?_)
      rw [hE]
      exact fun w hS => ⟨rfl, hS.sub (by repeat (first | exact SubL.nil | (apply SubL.cons; (repeat (first | exact At.here | apply At.there))) | exact SubL.refl _ | apply SubL.skip))⟩
    · skip
      have hfs := side_ok (s := first) h2
      have hs0 : sideBad first = false := h2
      refine skp (h := ?_)
      refine q_seq (h := ?_)
      refine sq (h := ?_)
      refine sq (h := ?_)
      refine rg (h := ?_)
      refine WL.y (hy := mv) (h := ?_)
      refine WL.y (hy := lenS) (h := ?_)
      refine WL.y (hy := gtr) (h := ?_)
      refine nl (h := ?_)
      refine q_seq (h := ?_)
      refine cd (by exact rfl) (fun h3 => ?_) (fun h3 => ?_)
      · skip
        have hE : playE f first xs = 2 := by
          have h' : decide ((600 : Int) < xs.length) = true := by rw [hlen]; exact h3
          simp only [playE, preE, hc0, hs0, h', cond_true, cond_false]; rfl
        refine sq (h := ?_)
        refine rg (h := ?_)
        refine WL.y (hy := asg) (h := ?_)
        refine WL.y (hy := asg) (h := ?_)
        refine nl (h := ?_)
        refine q_seq (h := ?_)
        refine rtn (h := ?_)
        refine q_then_ret (h := ?_)
        refine q_ret (hR := ?_)
        rw [hE]
        exact fun w hS => ⟨rfl, hS.sub (by repeat (first | exact SubL.nil | (apply SubL.cons; (repeat (first | exact At.here | apply At.there))) | exact SubL.refl _ | apply SubL.skip))⟩
      · skip
        have hn6 : n ≤ 600 := by simp only [decide_eq_false_iff_not] at h3; omega
        have hp0 : preE f first xs.length = 0 := by
          have h' : decide ((600 : Int) < xs.length) = false := by rw [hlen]; exact h3
          simp only [preE, hc0, hs0, h', cond_false]
        refine skp (h := ?_)
        refine q_seq (h := ?_)
        refine sq (h := ?_)
        refine rg (h := ?_)
        refine WL.y (hy := (by first | exact ldA | exact ldEA)) (h := ?_)
        refine WL.y (hy := bd) (h := ?_)
        refine WL.y (hy := mv) (h := ?_)
        refine cl (hc := fun w hS => C_score_begin f first hf (by omega) w) (h := fun x1 _ => ?_)
        refine WL.y (hy := asg) (h := ?_)
        refine nl (h := ?_)
        refine q_seq (h := ?_)
        refine sq (h := ?_)
        refine sq (h := ?_)
        refine rg (h := ?_)
        refine WL.y (hy := mv) (h := ?_)
        refine WL.y (hy := lenS) (h := ?_)
        refine WL.y (hy := mv) (h := ?_)
        refine nl (h := ?_)
        refine q_seq (h := ?_)
        refine bk (h := ?_)
        refine lp (X := PZ) (I := fun z => z.k ≤ n ∧ playTo f first xs z.k = some z.m ∧ z.m.Bd z.k) (le := fun z => [(9, .pointer (some ⟨x1.1, 0, none⟩)), (30, .slice A n c), (31, .int .i64 n), (32, .int .i64 z.k)]) (Le := fun z => z.m.ents z.a x1.1 ++ [.ro A 1 n (encI xs)]) (μ := fun z => n - z.k) ⟨0, beginV f first, x1.2⟩ ⟨Nat.zero_le _, rfl, beginV_bd hf hfs⟩ (by repeat (first | exact trivial | refine ⟨rfl, ?_⟩)) (by repeat (first | exact SubL.nil | (apply SubL.cons; (repeat (first | exact At.here | apply At.there))) | exact SubL.refl _ | apply SubL.skip)) (fun z hz => ?_)
        obtain ⟨hzk, hzr, hzb⟩ := hz
        refine sq (h := ?_)
        refine rg (h := ?_)
        refine WL.y (hy := lss) (h := ?_)
        refine nl (h := ?_)
        refine q_seq (h := ?_)
        refine sq (h := ?_)
        refine cd (by exact rfl) (fun h4 => ?_) (fun h4 => ?_)
        · skip
          have hkn : z.k < n := by simp only [decide_eq_true_eq] at h4; omega
          obtain ⟨s, hs⟩ : ∃ s, xs[z.k]? = some s := ⟨_, List.getElem?_eq_getElem (by omega)⟩
          have hse := encI_at hs
          have hstep := playTo_succ hzr hs
          refine skp (h := ?_)
          refine q_seq (h := ?_)
          refine sq (h := ?_)
          refine bk (h := ?_)
          refine sq (h := ?_)
          refine rg (h := ?_)
          refine WL.y (hy := ix (hb := by omega)) (h := ?_)
          refine WL.y (hy := ldE (hk := hse)) (h := ?_)
          refine WL.y (hy := asg) (h := ?_)
          refine nl (h := ?_)
          refine q_seq (h := ?_)
          refine sq (h := ?_)
          refine sq (h := ?_)
          refine rg (h := ?_)
          refine WL.y (hy := mv) (h := ?_)
          refine WL.y (hy := neq) (h := ?_)
          refine WL.y (hy := mv) (h := ?_)
          apply brAnd 3 38 41 (by exact rfl)
          · intro hb5
            refine un (h := ?_)
            refine WL.y (hy := mv) (h := ?_)
            refine un (h := ?_)
            refine WL.y (hy := neq) (h := ?_)
            refine WL.y (hy := (by first | exact pkT | exact pkF)) (h := ?_)
            exact mg (by repeat (first | exact trivial | refine ⟨rfl, ?_⟩ | refine ⟨by rw [hb5]; rfl, ?_⟩)) (by repeat (first | exact SubL.nil | (apply SubL.cons; (repeat (first | exact At.here | apply At.there))) | exact SubL.refl _ | apply SubL.skip))
          · intro hb5
            repeat (first | refine un (h := ?_) | refine sk (h := ?_) | refine WL.y (hy := pkF) (h := ?_) | refine WL.y (hy := pkT) (h := ?_))
            exact mg (by repeat (first | exact trivial | refine ⟨rfl, ?_⟩ | refine ⟨by rw [hb5]; rfl, ?_⟩)) (by repeat (first | exact SubL.nil | (apply SubL.cons; (repeat (first | exact At.here | apply At.there))) | exact SubL.refl _ | apply SubL.skip))
          refine WL.y (hy := mv) (h := ?_)
          apply brOr 7 42 49 (by exact rfl)
          · intro hb6
            refine un (h := ?_)
            refine WL.y (hy := mv) (h := ?_)
            refine un (h := ?_)
            refine WL.y (hy := nck) (h := ?_)
            refine un (h := ?_)
            refine WL.y (hy := (by first | exact fa | exact faE)) (h := ?_)
            refine un (h := ?_)
            refine WL.y (hy := (by first | exact fa | exact faE)) (h := ?_)
            refine un (h := ?_)
            refine WL.y (hy := (by first | exact ld | exact ldE)) (h := ?_)
            refine un (h := ?_)
            refine WL.y (hy := geq) (h := ?_)
            refine WL.y (hy := (by first | exact pkT | exact pkF)) (h := ?_)
            exact mg (by repeat (first | exact trivial | refine ⟨rfl, ?_⟩ | refine ⟨by rw [hb6]; rfl, ?_⟩)) (by repeat (first | exact SubL.nil | (apply SubL.cons; (repeat (first | exact At.here | apply At.there))) | exact SubL.refl _ | apply SubL.skip))
          · intro hb6
            repeat (first | refine un (h := ?_) | refine sk (h := ?_) | refine WL.y (hy := pkF) (h := ?_) | refine WL.y (hy := pkT) (h := ?_))
            exact mg (by repeat (first | exact trivial | refine ⟨rfl, ?_⟩ | refine ⟨by rw [hb6]; rfl, ?_⟩)) (by repeat (first | exact SubL.nil | (apply SubL.cons; (repeat (first | exact At.here | apply At.there))) | exact SubL.refl _ | apply SubL.skip))
          refine nl (h := ?_)
          refine q_seq (h := ?_)
          refine cd (by exact rfl) (fun h7 => ?_) (fun h7 => ?_)
          · skip
            have hE : playE f first xs = 11 := by
              have h' : (sideBad s || decide (0 ≤ z.m.winner)) = true := h7
              rw [h'] at hstep
              have := playTo_none (k := xs.length) hstep (by omega)
              rw [playE, hp0, this]; rfl
            refine sq (h := ?_)
            refine rg (h := ?_)
            refine WL.y (hy := asg) (h := ?_)
            refine WL.y (hy := asg) (h := ?_)
            refine nl (h := ?_)
            refine q_seq (h := ?_)
            refine rtn (h := ?_)
            refine q_then_ret (h := ?_)
            refine q_blk_ret (h := ?_)
            refine q_then_ret (h := ?_)
            refine q_then_ret (h := ?_)
            refine q_blk_ret (h := ?_)
            refine q_then_ret (h := ?_)
            refine q_ret (hR := ?_)
            rw [hE]
            exact fun w hS => ⟨rfl, hS.sub (by repeat (first | exact SubL.nil | (apply SubL.cons; (repeat (first | exact At.here | apply At.there))) | exact SubL.refl _ | apply SubL.skip))⟩
          · skip
            have hnx : playTo f first xs (z.k + 1) = some (pointV z.m s) := by
              have h' : (sideBad s || decide (0 ≤ z.m.winner)) = false := h7
              rw [hstep, h']; rfl
            refine skp (h := ?_)
            refine q_seq (h := ?_)
            refine rg (h := ?_)
            refine WL.y (hy := mv) (h := ?_)
            refine WL.y (hy := mv) (h := ?_)
            refine clT (hc := T_point z.m z.a x1.1 s z.k hzb) (h := fun x2 _ => ?_)
            refine nl (h := ?_)
            refine q_blk_norm (h := ?_)
            refine q_seq (h := ?_)
            refine rg (h := ?_)
            refine WL.y (hy := addI) (h := ?_)
            refine WL.y (hy := mv) (h := ?_)
            refine nl (h := ?_)
            refine rn (x := z) ⟨z.k + 1, pointV z.m s, x2⟩ ⟨by dsimp only; omega, hnx, by have := pointV_bd (side := s) hzb (by omega); simpa using this⟩ (by dsimp only; omega) (by repeat (first | exact trivial | refine ⟨rfl, ?_⟩)) (by repeat (first | exact SubL.nil | (apply SubL.cons; (repeat (first | exact At.here | apply At.there))) | exact SubL.refl _ | apply SubL.skip))
        · skip
          exfalso
          have hkn : z.k = n := by simp only [decide_eq_false_iff_not] at h4; omega
          rw [playO, hp0, hlen, ← hkn, hzr] at hO
          cases hO
set_option maxRecDepth 100000 in
theorem C_play_some (f : Fmt) (first : Int) (xs : List Int) (A : Option Addr) (n c : Nat) (w : World) (h : Rd w A 1 n (encI xs)) (hn : n ≤ 9223372036854775807) {m : MS} (hO : playO f first xs = some m) :
    CR Try.prog 75 [f.val, .int .i64 first, .slice A n c] w (fun _ : Nat × MA => True) (fun x => .tuple #[.pointer (some ⟨x.1, 0, none⟩), .int .i64 0]) (fun x => m.ents x.2 x.1) := by
  have hlen : xs.length = n := by have := h.len; rwa [encI_len] at this
  refine ⟨en Try.func75 Try.ntmps75 ((St.init w).share (e := .ro A 1 n (encI xs)) h rfl rfl rfl) (h := fun F => ?_)⟩
  refine sq (h := ?_)
  refine rg (h := ?_)
  refine bxA (h := fun b0 => ?_)
  refine WL.y (hy := asg) (h := ?_)
  refine WL.y (hy := asg) (h := ?_)
  refine nl (h := ?_)
  refine q_seq (h := ?_)
  refine sq (h := ?_)
  refine sq (h := ?_)
  refine rg (h := ?_)
  refine WL.y (hy := (by first | exact ldA | exact ldEA)) (h := ?_)
  refine cl0 (hc := fun w hS => C_score_Check _ w) (h := ?_)
  refine WL.y (hy := asg) (h := ?_)
  refine nl (h := ?_)
  refine q_seq (h := ?_)
  refine sq (h := ?_)
  refine rg (h := ?_)
  refine WL.y (hy := mv) (h := ?_)
  refine WL.y (hy := neq) (h := ?_)
  refine nl (h := ?_)
  refine q_seq (h := ?_)
  refine cd (by exact rfl) (fun h0 => ?_) (fun h0 => ?_)
  · skip
    exfalso
    have hp : (!decide (preE f first xs.length = 0)) = true := by
      have h' : (!decide (chkF f = 0)) = true := h0
      simp only [preE, h', cond_true]
    rw [playO, hp] at hO
    cases hO
  · skip
    have hf := chkF_ok h0
    have hc0 : (!decide (chkF f = 0)) = false := h0
    refine skp (h := ?_)
    refine q_seq (h := ?_)
    refine sq (h := ?_)
    refine sq (h := ?_)
    refine rg (h := ?_)
    refine WL.y (hy := mv) (h := ?_)
    refine WL.y (hy := neq) (h := ?_)
    refine WL.y (hy := mv) (h := ?_)
    apply brAnd 3 19 22 (by exact rfl)
    · intro hb1
      refine un (h := ?_)
      refine WL.y (hy := mv) (h := ?_)
      refine un (h := ?_)
      refine WL.y (hy := neq) (h := ?_)
      refine WL.y (hy := (by first | exact pkT | exact pkF)) (h := ?_)
      exact mg (by repeat (first | exact trivial | refine ⟨rfl, ?_⟩ | refine ⟨by rw [hb1]; rfl, ?_⟩)) (by repeat (first | exact SubL.nil | (apply SubL.cons; (repeat (first | exact At.here | apply At.there))) | exact SubL.refl _ | apply SubL.skip))
    · intro hb1
      repeat (first | refine un (h := ?_) | refine sk (h := ?_) | refine WL.y (hy := pkF) (h := ?_) | refine WL.y (hy := pkT) (h := ?_))
      exact mg (by repeat (first | exact trivial | refine ⟨rfl, ?_⟩ | refine ⟨by rw [hb1]; rfl, ?_⟩)) (by repeat (first | exact SubL.nil | (apply SubL.cons; (repeat (first | exact At.here | apply At.there))) | exact SubL.refl _ | apply SubL.skip))
    refine nl (h := ?_)
    refine q_seq (h := ?_)
    refine cd (by exact rfl) (fun h2 => ?_) (fun h2 => ?_)
    · skip
      exfalso
      have hp : (!decide (preE f first xs.length = 0)) = true := by
        have h' : sideBad first = true := h2
        simp only [preE, hc0, h', cond_true, cond_false]; rfl
      rw [playO, hp] at hO
      cases hO
    · skip
      have hfs := side_ok (s := first) h2
      have hs0 : sideBad first = false := h2
      refine skp (h := ?_)
      refine q_seq (h := ?_)
      refine sq (h := ?_)
      refine sq (h := ?_)
      refine rg (h := ?_)
      refine WL.y (hy := mv) (h := ?_)
      refine WL.y (hy := lenS) (h := ?_)
      refine WL.y (hy := gtr) (h := ?_)
      refine nl (h := ?_)
      refine q_seq (h := ?_)
      refine cd (by exact rfl) (fun h3 => ?_) (fun h3 => ?_)
      · skip
        exfalso
        have hp : (!decide (preE f first xs.length = 0)) = true := by
          have h' : decide ((600 : Int) < xs.length) = true := by rw [hlen]; exact h3
          simp only [preE, hc0, hs0, h', cond_true, cond_false]; rfl
        rw [playO, hp] at hO
        cases hO
      · skip
        have hn6 : n ≤ 600 := by simp only [decide_eq_false_iff_not] at h3; omega
        have hp0 : preE f first xs.length = 0 := by
          have h' : decide ((600 : Int) < xs.length) = false := by rw [hlen]; exact h3
          simp only [preE, hc0, hs0, h', cond_false]
        refine skp (h := ?_)
        refine q_seq (h := ?_)
        refine sq (h := ?_)
        refine rg (h := ?_)
        refine WL.y (hy := (by first | exact ldA | exact ldEA)) (h := ?_)
        refine WL.y (hy := bd) (h := ?_)
        refine WL.y (hy := mv) (h := ?_)
        refine cl (hc := fun w hS => C_score_begin f first hf (by omega) w) (h := fun x1 _ => ?_)
        refine WL.y (hy := asg) (h := ?_)
        refine nl (h := ?_)
        refine q_seq (h := ?_)
        refine sq (h := ?_)
        refine sq (h := ?_)
        refine rg (h := ?_)
        refine WL.y (hy := mv) (h := ?_)
        refine WL.y (hy := lenS) (h := ?_)
        refine WL.y (hy := mv) (h := ?_)
        refine nl (h := ?_)
        refine q_seq (h := ?_)
        refine bk (h := ?_)
        refine lp (X := PZ) (I := fun z => z.k ≤ n ∧ playTo f first xs z.k = some z.m ∧ z.m.Bd z.k) (le := fun z => [(9, .pointer (some ⟨x1.1, 0, none⟩)), (30, .slice A n c), (31, .int .i64 n), (32, .int .i64 z.k)]) (Le := fun z => z.m.ents z.a x1.1 ++ [.ro A 1 n (encI xs)]) (μ := fun z => n - z.k) ⟨0, beginV f first, x1.2⟩ ⟨Nat.zero_le _, rfl, beginV_bd hf hfs⟩ (by repeat (first | exact trivial | refine ⟨rfl, ?_⟩)) (by repeat (first | exact SubL.nil | (apply SubL.cons; (repeat (first | exact At.here | apply At.there))) | exact SubL.refl _ | apply SubL.skip)) (fun z hz => ?_)
        obtain ⟨hzk, hzr, hzb⟩ := hz
        refine sq (h := ?_)
        refine rg (h := ?_)
        refine WL.y (hy := lss) (h := ?_)
        refine nl (h := ?_)
        refine q_seq (h := ?_)
        refine sq (h := ?_)
        refine cd (by exact rfl) (fun h4 => ?_) (fun h4 => ?_)
        · skip
          have hkn : z.k < n := by simp only [decide_eq_true_eq] at h4; omega
          obtain ⟨s, hs⟩ : ∃ s, xs[z.k]? = some s := ⟨_, List.getElem?_eq_getElem (by omega)⟩
          have hse := encI_at hs
          have hstep := playTo_succ hzr hs
          refine skp (h := ?_)
          refine q_seq (h := ?_)
          refine sq (h := ?_)
          refine bk (h := ?_)
          refine sq (h := ?_)
          refine rg (h := ?_)
          refine WL.y (hy := ix (hb := by omega)) (h := ?_)
          refine WL.y (hy := ldE (hk := hse)) (h := ?_)
          refine WL.y (hy := asg) (h := ?_)
          refine nl (h := ?_)
          refine q_seq (h := ?_)
          refine sq (h := ?_)
          refine sq (h := ?_)
          refine rg (h := ?_)
          refine WL.y (hy := mv) (h := ?_)
          refine WL.y (hy := neq) (h := ?_)
          refine WL.y (hy := mv) (h := ?_)
          apply brAnd 3 38 41 (by exact rfl)
          · intro hb5
            refine un (h := ?_)
            refine WL.y (hy := mv) (h := ?_)
            refine un (h := ?_)
            refine WL.y (hy := neq) (h := ?_)
            refine WL.y (hy := (by first | exact pkT | exact pkF)) (h := ?_)
            exact mg (by repeat (first | exact trivial | refine ⟨rfl, ?_⟩ | refine ⟨by rw [hb5]; rfl, ?_⟩)) (by repeat (first | exact SubL.nil | (apply SubL.cons; (repeat (first | exact At.here | apply At.there))) | exact SubL.refl _ | apply SubL.skip))
          · intro hb5
            repeat (first | refine un (h := ?_) | refine sk (h := ?_) | refine WL.y (hy := pkF) (h := ?_) | refine WL.y (hy := pkT) (h := ?_))
            exact mg (by repeat (first | exact trivial | refine ⟨rfl, ?_⟩ | refine ⟨by rw [hb5]; rfl, ?_⟩)) (by repeat (first | exact SubL.nil | (apply SubL.cons; (repeat (first | exact At.here | apply At.there))) | exact SubL.refl _ | apply SubL.skip))
          refine WL.y (hy := mv) (h := ?_)
          apply brOr 7 42 49 (by exact rfl)
          · intro hb6
            refine un (h := ?_)
            refine WL.y (hy := mv) (h := ?_)
            refine un (h := ?_)
            refine WL.y (hy := nck) (h := ?_)
            refine un (h := ?_)
            refine WL.y (hy := (by first | exact fa | exact faE)) (h := ?_)
            refine un (h := ?_)
            refine WL.y (hy := (by first | exact fa | exact faE)) (h := ?_)
            refine un (h := ?_)
            refine WL.y (hy := (by first | exact ld | exact ldE)) (h := ?_)
            refine un (h := ?_)
            refine WL.y (hy := geq) (h := ?_)
            refine WL.y (hy := (by first | exact pkT | exact pkF)) (h := ?_)
            exact mg (by repeat (first | exact trivial | refine ⟨rfl, ?_⟩ | refine ⟨by rw [hb6]; rfl, ?_⟩)) (by repeat (first | exact SubL.nil | (apply SubL.cons; (repeat (first | exact At.here | apply At.there))) | exact SubL.refl _ | apply SubL.skip))
          · intro hb6
            repeat (first | refine un (h := ?_) | refine sk (h := ?_) | refine WL.y (hy := pkF) (h := ?_) | refine WL.y (hy := pkT) (h := ?_))
            exact mg (by repeat (first | exact trivial | refine ⟨rfl, ?_⟩ | refine ⟨by rw [hb6]; rfl, ?_⟩)) (by repeat (first | exact SubL.nil | (apply SubL.cons; (repeat (first | exact At.here | apply At.there))) | exact SubL.refl _ | apply SubL.skip))
          refine nl (h := ?_)
          refine q_seq (h := ?_)
          refine cd (by exact rfl) (fun h7 => ?_) (fun h7 => ?_)
          · skip
            exfalso
            have h' : (sideBad s || decide (0 ≤ z.m.winner)) = true := h7
            rw [h'] at hstep
            have := playTo_none (k := xs.length) hstep (by omega)
            rw [playO, hp0, this] at hO
            cases hO
          · skip
            have hnx : playTo f first xs (z.k + 1) = some (pointV z.m s) := by
              have h' : (sideBad s || decide (0 ≤ z.m.winner)) = false := h7
              rw [hstep, h']; rfl
            refine skp (h := ?_)
            refine q_seq (h := ?_)
            refine rg (h := ?_)
            refine WL.y (hy := mv) (h := ?_)
            refine WL.y (hy := mv) (h := ?_)
            refine clT (hc := T_point z.m z.a x1.1 s z.k hzb) (h := fun x2 _ => ?_)
            refine nl (h := ?_)
            refine q_blk_norm (h := ?_)
            refine q_seq (h := ?_)
            refine rg (h := ?_)
            refine WL.y (hy := addI) (h := ?_)
            refine WL.y (hy := mv) (h := ?_)
            refine nl (h := ?_)
            refine rn (x := z) ⟨z.k + 1, pointV z.m s, x2⟩ ⟨by dsimp only; omega, hnx, by have := pointV_bd (side := s) hzb (by omega); simpa using this⟩ (by dsimp only; omega) (by repeat (first | exact trivial | refine ⟨rfl, ?_⟩)) (by repeat (first | exact SubL.nil | (apply SubL.cons; (repeat (first | exact At.here | apply At.there))) | exact SubL.refl _ | apply SubL.skip))
        · skip
          have hkn : z.k = n := by simp only [decide_eq_false_iff_not] at h4; omega
          rw [playO, hp0, hlen, ← hkn, hzr] at hO
          obtain rfl : z.m = m := by simpa using hO
          refine et (h := ?_)
          refine q_then_exit (h := ?_)
          refine q_then_exit (h := ?_)
          refine q_blk_hit (h := ?_)
          refine q_seq (h := ?_)
          refine sq (h := ?_)
          refine rg (h := ?_)
          refine WL.y (hy := mv) (h := ?_)
          refine WL.y (hy := asg) (h := ?_)
          refine WL.y (hy := asg) (h := ?_)
          refine nl (h := ?_)
          refine q_seq (h := ?_)
          refine rtn (h := ?_)
          refine q_ret (hR := ?_)
          exact fun w hS => ⟨(x1.1, z.a), trivial, rfl, hS.sub (by repeat (first | exact SubL.nil | (apply SubL.cons; (repeat (first | exact At.here | apply At.there))) | exact SubL.refl _ | apply SubL.skip))⟩

/-! #### Play and Games -/
structure Sc where
  (st : List Pr) (g p : Pr) (server ends balls winner : Int)
def MS.sc (m : MS) : Sc := ⟨m.st, m.g, m.p, m.server, m.ends, m.balls, m.winner⟩
def scO (o : Option MS) : Sc := match o with | some m => m.sc | none => ⟨[], (0, 0), (0, 0), 0, 0, 0, 0⟩
def gsO (o : Option MS) : List Gm := match o with | some m => m.gs | none => []
abbrev Sc.cells (s : Sc) (A : Option Addr) (c : Nat) : List Value := [.slice A s.st.length c, .int .i64 s.g.1, .int .i64 s.g.2, .int .i64 s.p.1, .int .i64 s.p.2, .int .i64 s.server, .int .i64 s.ends, .int .i64 s.balls, .int .i64 s.winner]
abbrev Sc.val (s : Sc) (A : Option Addr) (c : Nat) : Value := .agg #[.slice A s.st.length c, .int .i64 s.g.1, .int .i64 s.g.2, .int .i64 s.p.1, .int .i64 s.p.2, .int .i64 s.server, .int .i64 s.ends, .int .i64 s.balls, .int .i64 s.winner]
theorem playE_none {f : Fmt} {first : Int} {xs : List Int} (h : playO f first xs = none) : ¬ playE f first xs = 0 := by
  unfold playO at h
  unfold playE
  cases hp : !decide (preE f first xs.length = 0)
  · rw [hp] at h
    simp only [cond_false] at h ⊢
    rw [h]; decide
  · simp only [cond_true]
    simpa using hp
theorem playE_some {f : Fmt} {first : Int} {xs : List Int} {m : MS} (h : playO f first xs = some m) : playE f first xs = 0 := by
  unfold playO at h
  unfold playE
  cases hp : !decide (preE f first xs.length = 0)
  · rw [hp] at h
    simp only [cond_false] at h ⊢
    rw [h]
  · rw [hp] at h; cases h

set_option maxRecDepth 100000 in
theorem C_score_Play_n (f : Fmt) (first : Int) (xs : List Int) (A : Option Addr) (n c : Nat) (w : World) (h : Rd w A 1 n (encI xs)) (hn : n ≤ 9223372036854775807) (hO : playO f first xs = none) :
    CR Try.prog 36 [f.val, .int .i64 first, .slice A n c] w (fun _ : Option Addr × Nat => True) (fun x => .tuple #[(scO (playO f first xs)).val x.1 x.2, .int .i64 (playE f first xs)]) (fun x => [.own x.1 x.2 26 2 (scO (playO f first xs)).st.length (encP (scO (playO f first xs)).st)]) := by
  have hE := playE_none hO
  rw [hO]
  refine ⟨en Try.func36 Try.ntmps36 ((St.init w).share (e := .ro A 1 n (encI xs)) h rfl rfl rfl) (h := fun F => ?_)⟩
  refine sq (h := ?_)
  refine rg (h := ?_)
  refine bxA (h := fun b0 => ?_)
  refine al (h := fun b1 => ?_)
  refine WL.y (hy := asg) (h := ?_)
  refine nl (h := ?_)
  refine q_seq (h := ?_)
  refine sq (h := ?_)
  refine rg (h := ?_)
  refine WL.y (hy := (by first | exact ldA | exact ldEA)) (h := ?_)
  refine WL.y (hy := mv) (h := ?_)
  refine WL.y (hy := mv) (h := ?_)
  refine cl0 (hc := fun w hS => C_play_none f first xs A n c w (hS.get (by repeat (first | exact Rds.ro | exact Rds.own | apply Rds.there))) hn hO) (h := ?_)
  refine WL.y (hy := mv) (h := ?_)
  refine WL.y (hy := ex) (h := ?_)
  refine WL.y (hy := ex) (h := ?_)
  refine WL.y (hy := asg) (h := ?_)
  refine WL.y (hy := asg) (h := ?_)
  refine nl (h := ?_)
  refine q_seq (h := ?_)
  refine sq (h := ?_)
  refine sq (h := ?_)
  refine WC.nilOwn 26 2 (h := ?_)
  refine rg (h := ?_)
  refine WL.y (hy := mv) (h := ?_)
  refine WL.y (hy := neq) (h := ?_)
  refine nl (h := ?_)
  refine q_seq (h := ?_)
  refine cd (by exact rfl) (fun h0 => ?_) (fun h0 => ?_)
  · skip
    refine sq (h := ?_)
    refine rg (h := ?_)
    refine WL.y (hy := bd) (h := ?_)
    refine WL.y (hy := mv) (h := ?_)
    first | refine stA (h := ?_) | refine stEA (h := ?_)
    refine WL.y (hy := asg) (h := ?_)
    refine nl (h := ?_)
    refine q_seq (h := ?_)
    refine rtn (h := ?_)
    refine q_then_ret (h := ?_)
    refine q_ret (hR := ?_)
    exact fun w hS => ⟨(none, 0), trivial, rfl, hS.sub (by repeat (first | exact SubL.nil | (apply SubL.cons; (repeat (first | exact At.here | apply At.there))) | exact SubL.refl _ | apply SubL.skip))⟩
  · skip
    exfalso
    simp at h0
    exact hE h0

set_option maxRecDepth 100000 in
theorem C_score_Play_s (f : Fmt) (first : Int) (xs : List Int) (A : Option Addr) (n c : Nat) (w : World) (h : Rd w A 1 n (encI xs)) (hn : n ≤ 9223372036854775807) {m : MS} (hO : playO f first xs = some m) :
    CR Try.prog 36 [f.val, .int .i64 first, .slice A n c] w (fun _ : Option Addr × Nat => True) (fun x => .tuple #[(scO (playO f first xs)).val x.1 x.2, .int .i64 (playE f first xs)]) (fun x => [.own x.1 x.2 26 2 (scO (playO f first xs)).st.length (encP (scO (playO f first xs)).st)]) := by
  have hE := playE_some hO
  rw [hE, hO]
  refine ⟨en Try.func36 Try.ntmps36 ((St.init w).share (e := .ro A 1 n (encI xs)) h rfl rfl rfl) (h := fun F => ?_)⟩
  refine sq (h := ?_)
  refine rg (h := ?_)
  refine bxA (h := fun b0 => ?_)
  refine al (h := fun b1 => ?_)
  refine WL.y (hy := asg) (h := ?_)
  refine nl (h := ?_)
  refine q_seq (h := ?_)
  refine sq (h := ?_)
  refine rg (h := ?_)
  refine WL.y (hy := (by first | exact ldA | exact ldEA)) (h := ?_)
  refine WL.y (hy := mv) (h := ?_)
  refine WL.y (hy := mv) (h := ?_)
  refine cl (hc := fun w hS => C_play_some f first xs A n c w (hS.get (by repeat (first | exact Rds.ro | exact Rds.own | apply Rds.there))) hn hO) (h := fun x _ => ?_)
  refine WL.y (hy := mv) (h := ?_)
  refine WL.y (hy := ex) (h := ?_)
  refine WL.y (hy := ex) (h := ?_)
  refine WL.y (hy := asg) (h := ?_)
  refine WL.y (hy := asg) (h := ?_)
  refine nl (h := ?_)
  refine q_seq (h := ?_)
  refine sq (h := ?_)
  refine sq (h := ?_)
  refine rg (h := ?_)
  refine WL.y (hy := mv) (h := ?_)
  refine WL.y (hy := neq) (h := ?_)
  refine nl (h := ?_)
  refine q_seq (h := ?_)
  refine cd (by exact rfl) (fun h0 => ?_) (fun h0 => ?_)
  · skip
    exact absurd h0 (by decide)
  · skip
    refine skp (h := ?_)
    refine q_seq (h := ?_)
    refine sq (h := ?_)
    refine rg (h := ?_)
    refine WL.y (hy := mv) (h := ?_)
    refine WL.y (hy := nck) (h := ?_)
    refine WL.y (hy := (by first | exact fa | exact faE)) (h := ?_)
    refine WL.y (hy := (by first | exact ldA | exact ldEA)) (h := ?_)
    first | refine stA (h := ?_) | refine stEA (h := ?_)
    refine WL.y (hy := asg) (h := ?_)
    refine nl (h := ?_)
    refine q_seq (h := ?_)
    refine rtn (h := ?_)
    refine q_ret (hR := ?_)
    exact fun w hS => ⟨(x.2.sA, x.2.sc), trivial, rfl, hS.sub (by repeat (first | exact SubL.nil | (apply SubL.cons; (repeat (first | exact At.here | apply At.there))) | exact SubL.refl _ | apply SubL.skip))⟩

theorem C_score_Play (f : Fmt) (first : Int) (xs : List Int) (A : Option Addr) (n c : Nat) (w : World) (h : Rd w A 1 n (encI xs)) (hn : n ≤ 9223372036854775807) :
    CR Try.prog 36 [f.val, .int .i64 first, .slice A n c] w (fun _ : Option Addr × Nat => True) (fun x => .tuple #[(scO (playO f first xs)).val x.1 x.2, .int .i64 (playE f first xs)]) (fun x => [.own x.1 x.2 26 2 (scO (playO f first xs)).st.length (encP (scO (playO f first xs)).st)]) := by
  cases hO : playO f first xs with
  | none => have := C_score_Play_n f first xs A n c w h hn hO; rwa [hO] at this
  | some m => have := C_score_Play_s f first xs A n c w h hn hO; rwa [hO] at this

end Go.Proofs.Ytacaojifempclaa
