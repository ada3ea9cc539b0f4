/- Walks of the reference package of score, four: whole matches. -/
import Derived.Test.YtebhkghgifiahaaSK
namespace Go.Proofs.Ytebhkghgifiahaa
open Go Go.RowKit

theorem C_ref1_Next (f : Fmt) (m : MS) (hmf : m.f = f) (sA : Option Addr) (sc : Nat) (gA : Option Addr) (gc : Nat) (hf : f.Ok) (hfs : 0 ≤ m.first ∧ m.first ≤ 1) (hm : m.Inv ∨ m.Done) {K : Int} (hB : m.Bd K) (w : World) (h : Rd w sA 2 m.st.length (encP m.st)) :
    C0 Try.prog 69 [f.val, (refOf m).val sA sc gA gc] w (.int .i64 m.server) := by
  subst hmf
  obtain ⟨-, -, hk, -, -, hg, hp, -, -, -, hsl, hgl⟩ := hB
  refine ⟨en Try.func69 Try.ntmps69 ((St.init w).share (e := .ro sA 2 m.st.length (encP m.st)) h rfl rfl rfl) (h := fun F => ?_)⟩
  refine sq (h := ?_)
  refine rg (h := ?_)
  refine bxA (h := fun b0 => ?_)
  refine bxA (h := fun b1 => ?_)
  refine WL.y (hy := asg) (h := ?_)
  refine nl (h := ?_)
  refine q_seq (h := ?_)
  refine sq (h := ?_)
  refine sq (h := ?_)
  refine rg (h := ?_)
  refine WL.y (hy := (by first | exact fa | exact faE)) (h := ?_)
  refine WL.y (hy := (by first | exact fa | exact faE)) (h := ?_)
  refine WL.y (hy := (by first | exact ld | exact ldE)) (h := ?_)
  refine WL.y (hy := geq) (h := ?_)
  refine nl (h := ?_)
  refine q_seq (h := ?_)
  refine cd (by exact rfl) (fun h0 => ?_) (fun h0 => ?_)
  · skip
    have hsv : m.server = -1 := by
      rcases hm with hi | hd
      · have h1 := hi.w
        have h2 : 0 ≤ m.winner := of_decide_eq_true h0
        omega
      · exact hd.sv
    refine sq (h := ?_)
    refine rg (h := ?_)
    refine WL.y (hy := asg) (h := ?_)
    refine nl (h := ?_)
    refine q_seq (h := ?_)
    refine rtn (h := ?_)
    refine q_then_ret (h := ?_)
    refine q_ret (hR := ?_)
    rw [hsv]
    exact fun w hS => ⟨rfl, hS.sub (by repeat (first | exact SubL.nil | (apply SubL.cons; (repeat (first | exact At.here | apply At.there))) | exact SubL.refl _ | apply SubL.skip))⟩
  · skip
    have hi : m.Inv := by
      rcases hm with hi | hd
      · exact hi
      · have h1 := hd.w
        have h2 : ¬ 0 ≤ m.winner := of_decide_eq_false h0
        omega
    have hsv : m.server = servR m.f m.first m.gs.length (tiedV m.f m.st m.g) (m.p.1 + m.p.2) := by
      have hp0 := hi.p0
      rw [hi.sv, tied_eq hi.won hi.g0.1, ← hi.ta, serv_eq (tie := m.tie) hfs hi.tl rfl (by omega)]
    have hgl' : (refOf m).gs.length = m.gs.length := rfl
    refine skp (h := ?_)
    refine q_seq (h := ?_)
    refine sq (h := ?_)
    refine rg (h := ?_)
    refine WL.y (hy := (by first | exact ldA | exact ldEA)) (h := ?_)
    refine WL.y (hy := (by first | exact fa | exact faE)) (h := ?_)
    refine WL.y (hy := (by first | exact fa | exact faE)) (h := ?_)
    refine WL.y (hy := (by first | exact ldA | exact ldEA)) (h := ?_)
    refine cl0 (hc := fun w hS => C_ref1_tied m.f ⟨m.st, m.g, m.p⟩ sA m.st.length sc hf w (hS.get (by repeat (first | exact Rds.ro | exact Rds.own | apply Rds.there))) (by omega)) (h := ?_)
    refine WL.y (hy := mv) (h := ?_)
    refine WL.y (hy := ex) (h := ?_)
    refine WL.y (hy := ex) (h := ?_)
    refine WL.y (hy := asg) (h := ?_)
    refine WL.y (hy := asg) (h := ?_)
    refine nl (h := ?_)
    refine q_seq (h := ?_)
    refine sq (h := ?_)
    refine rg (h := ?_)
    refine WL.y (hy := (by first | exact ldA | exact ldEA)) (h := ?_)
    refine WL.y (hy := (by first | exact fa | exact faE)) (h := ?_)
    refine WL.y (hy := (by first | exact ld | exact ldE)) (h := ?_)
    refine WL.y (hy := (by first | exact fa | exact faE)) (h := ?_)
    refine WL.y (hy := (by first | exact ld | exact ldE)) (h := ?_)
    refine WL.y (hy := lenS) (h := ?_)
    refine WL.y (hy := mv) (h := ?_)
    refine WL.y (hy := (by first | exact fa | exact faE)) (h := ?_)
    refine WL.y (hy := (by first | exact fa | exact faE)) (h := ?_)
    refine WL.y (hy := (by first | exact fa | exact faE)) (h := ?_)
    refine WL.y (hy := (by first | exact fa | exact faE)) (h := ?_)
    refine WL.y (hy := (by first | exact ld | exact ldE)) (h := ?_)
    refine WL.y (hy := (by first | exact fa | exact faE)) (h := ?_)
    refine WL.y (hy := (by first | exact fa | exact faE)) (h := ?_)
    refine WL.y (hy := (by first | exact fa | exact faE)) (h := ?_)
    refine WL.y (hy := (by first | exact fa | exact faE)) (h := ?_)
    refine WL.y (hy := (by first | exact ld | exact ldE)) (h := ?_)
    refine WL.y (hy := addI (a := m.p.1) (b := m.p.2) (hb := by omega)) (h := ?_)
    refine cl0 (hc := fun w hS => C_ref1_Server m.f m.first m.gs.length (tiedV m.f m.st m.g) (m.p.1 + m.p.2) hfs (by omega) (by omega) w) (h := ?_)
    refine WL.y (hy := asg) (h := ?_)
    refine nl (h := ?_)
    refine q_seq (h := ?_)
    refine rtn (h := ?_)
    refine q_ret (hR := ?_)
    rw [hsv]
    exact fun w hS => ⟨rfl, hS.sub (by repeat (first | exact SubL.nil | (apply SubL.cons; (repeat (first | exact At.here | apply At.there))) | exact SubL.refl _ | apply SubL.skip))⟩

theorem C_ref1_Begin (f : Fmt) (first : Int) (hf : f.Ok) (w : World) : C0 Try.prog 67 [f.val, .int .i64 first] w ((refOf (beginV f first)).val none 0 none 0) := by
  have e : rBegin f ⟨[], (0, 0), (0, 0), 0, 0, 0, -1, first, [], false⟩ = refOf (beginV f first) := begin_eq (begin_pre f first) false
  refine ⟨en Try.func67 Try.ntmps67 (St.init w) (h := fun F => ?_)⟩
  refine sq (h := ?_)
  refine rg (h := ?_)
  refine bxA (h := fun b0 => ?_)
  refine al (h := fun b1 => ?_)
  refine nl (h := ?_)
  refine q_seq (h := ?_)
  refine sq (h := ?_)
  refine rg (h := ?_)
  refine WL.y (hy := (by first | exact ldA | exact ldEA)) (h := ?_)
  refine WL.y (hy := bd) (h := ?_)
  refine WL.y (hy := mv) (h := ?_)
  refine WL.y (hy := bd) (h := ?_)
  refine cl0 (hc := fun w hS => C_ref1_begin f ⟨[], (0, 0), (0, 0), 0, 0, 0, -1, first, [], false⟩ none 0 none 0 0 0 hf w (Rd.nil ..) (Rd.nil ..) (by omega) (by omega) (by simp)) (h := ?_)
  rw [e]
  first | refine stA (h := ?_) | refine stEA (h := ?_)
  refine nl (h := ?_)
  refine q_seq (h := ?_)
  refine rtn (h := ?_)
  refine q_ret (hR := ?_)
  exact fun w hS => ⟨rfl, hS.sub (by repeat (first | exact SubL.nil | (apply SubL.cons; (repeat (first | exact At.here | apply At.there))) | exact SubL.refl _ | apply SubL.skip))⟩

theorem refBd {m : MS} {K : Int} (h : m.Bd K) (hK : K ≤ 990) : (refOf m).Bd K :=
  ⟨⟨h.k.1, hK⟩, by have := h.fst; show 0 ≤ m.first ∧ m.first ≤ 1; omega, h.g, h.p, h.e, h.b, h.s, h.gs⟩
theorem T_ref1_Point' (f : Fmt) (m : MS) (hmf : m.f = f) (side K : Int) (sA : Option Addr) (sc : Nat) (gA : Option Addr) (gc : Nat) (hf : f.Ok) (hB : m.Bd K) (hK : K ≤ 990) (hi : m.Inv) (hs : side = 0 ∨ side = 1) :
    Tr Try.prog 68 [f.val, (refOf m).val sA sc gA gc, .int .i64 side] [.own sA sc 31 2 (refOf m).st.length (encP (refOf m).st), .own gA gc 48 7 (refOf m).gs.length (encG (refOf m).gs)] (fun _ : RA => True) (fun x => (refOf (pointV m side)).val x.sA x.sc x.gA x.gc)
      (fun x => [.own x.sA x.sc 31 2 (refOf (pointV m side)).st.length (encP (refOf (pointV m side)).st), .own x.gA x.gc 48 7 (refOf (pointV m side)).gs.length (encG (refOf (pointV m side)).gs)]) := by
  subst hmf
  have h := T_ref1_Point m.f (refOf m) side K sA sc gA gc hf (refBd hB hK)
  rw [sim_point hf (by have := hB.fst; omega) hi hs] at h
  exact h

def runO (o : Option MS) : RS := match o with
  | some m => { refOf m with server := m.server }
  | none => ⟨[], (0, 0), (0, 0), 0, 0, 0, 0, 0, [], false⟩
theorem side_wi (s : Int) : (!wi s 0 1) = sideBad s := by
  unfold sideBad wi
  by_cases h0 : s = 0
  · subst h0; rfl
  · by_cases h1 : s = 1
    · subst h1; rfl
    · have : ¬ (0 ≤ s ∧ s ≤ 1) := by omega
      simp only [decide_eq_false h0, decide_eq_false h1, Bool.not_false, Bool.and_self, Bool.not_eq_true', Bool.and_eq_false_iff, decide_eq_false_iff_not]
      omega
structure RZ where
  (k : Nat) (m : MS) (a : RA)

set_option maxRecDepth 100000 in
set_option maxHeartbeats 1000000 in
theorem C_ref1_Run (f : Fmt) (first : Int) (xs : List Int) (A : Option Addr) (n c : Nat) (w : World) (h : Rd w A 1 n (encI xs)) (hn : n ≤ 9223372036854775807) :
    CR Try.prog 42 [f.val, .int .i64 first, .slice A n c] w (fun _ : RA => True) (fun x => .tuple #[(runO (playO f first xs)).val x.sA x.sc x.gA x.gc, .int .i64 (playE f first xs)])
      (fun x => [.own x.sA x.sc 31 2 (runO (playO f first xs)).st.length (encP (runO (playO f first xs)).st), .own x.gA x.gc 48 7 (runO (playO f first xs)).gs.length (encG (runO (playO f first xs)).gs)]) := by
  have hlen : xs.length = n := by have := h.len; rwa [encI_len] at this
  refine ⟨en Try.func42 Try.ntmps42 ((St.init w).share (e := .ro A 1 n (encI xs)) h rfl rfl rfl) (h := fun F => ?_)⟩
  refine sq (h := ?_)
  refine rg (h := ?_)
  refine bxA (h := fun b0 => ?_)
  refine al (h := fun b1 => ?_)
  refine WL.y (hy := asg) (h := ?_)
  refine nl (h := ?_)
  refine q_seq (h := ?_)
  refine sq (h := ?_)
  refine sq (h := ?_)
  refine rg (h := ?_)
  refine WL.y (hy := (by first | exact ldA | exact ldEA)) (h := ?_)
  refine cl0 (hc := fun w hS => C_ref1_Check _ w) (h := ?_)
  refine WL.y (hy := neq) (h := ?_)
  refine nl (h := ?_)
  refine q_seq (h := ?_)
  refine cd (by exact rfl) (fun h0 => ?_) (fun h0 => ?_)
  · skip
    have hc1 : (!decide (chkF f = 0)) = true := h0
    have hE : playE f first xs = 10 := by
      have : chkF f = 10 := by
        unfold chkF at hc1 ⊢
        cases hb : fmtOk f
        · rfl
        · rw [hb] at hc1; cases hc1
      simp only [playE, preE, hc1, cond_true]; exact this
    have hO : playO f first xs = none := by
      have : (!decide (preE f first xs.length = 0)) = true := by simp only [preE, hc1, cond_true]
      rw [playO, this]; rfl
    refine sq (h := ?_)
    refine WC.nilOwn 31 2 (h := ?_)
    refine WC.nilOwn 48 7 (h := ?_)
    refine rg (h := ?_)
    refine WL.y (hy := bd) (h := ?_)
    first | refine stA (h := ?_) | refine stEA (h := ?_)
    refine WL.y (hy := asg) (h := ?_)
    refine nl (h := ?_)
    refine q_seq (h := ?_)
    refine rtn (h := ?_)
    refine q_then_ret (h := ?_)
    refine q_ret (hR := ?_)
    rw [hE, hO]
    exact fun w hS => ⟨⟨none, none, 0, 0⟩, trivial, rfl, hS.sub (by repeat (first | exact SubL.nil | (apply SubL.cons; (repeat (first | exact At.here | apply At.there))) | exact SubL.refl _ | apply SubL.skip))⟩
  · skip
    have hf := chkF_ok h0
    have hc0 : (!decide (chkF f = 0)) = false := h0
    refine skp (h := ?_)
    refine q_seq (h := ?_)
    refine sq (h := ?_)
    refine sq (h := ?_)
    refine rg (h := ?_)
    refine WL.y (hy := mv) (h := ?_)
    refine cl0 (hc := fun w hS => C_ref1_within ..) (h := ?_)
    refine WL.y (hy := notB) (h := ?_)
    refine nl (h := ?_)
    refine q_seq (h := ?_)
    refine cd (by exact rfl) (fun h1 => ?_) (fun h1 => ?_)
    · skip
      have hs1 : sideBad first = true := by rw [← side_wi]; exact h1
      have hE : playE f first xs = 1 := by
        simp only [playE, preE, hc0, hs1, cond_true, cond_false]; rfl
      have hO : playO f first xs = none := by
        simp only [playO, preE, hc0, hs1, cond_true, cond_false]; rfl
      refine sq (h := ?_)
      refine WC.nilOwn 31 2 (h := ?_)
      refine WC.nilOwn 48 7 (h := ?_)
      refine rg (h := ?_)
      refine WL.y (hy := bd) (h := ?_)
      first | refine stA (h := ?_) | refine stEA (h := ?_)
      refine WL.y (hy := asg) (h := ?_)
      refine nl (h := ?_)
      refine q_seq (h := ?_)
      refine rtn (h := ?_)
      refine q_then_ret (h := ?_)
      refine q_ret (hR := ?_)
      rw [hE, hO]
      exact fun w hS => ⟨⟨none, none, 0, 0⟩, trivial, rfl, hS.sub (by repeat (first | exact SubL.nil | (apply SubL.cons; (repeat (first | exact At.here | apply At.there))) | exact SubL.refl _ | apply SubL.skip))⟩
    · skip
      have hs0 : sideBad first = false := by rw [← side_wi]; exact h1
      have hfs := side_ok (s := first) hs0
      refine skp (h := ?_)
      refine q_seq (h := ?_)
      refine sq (h := ?_)
      refine sq (h := ?_)
      refine rg (h := ?_)
      refine WL.y (hy := mv) (h := ?_)
      refine WL.y (hy := lenS) (h := ?_)
      refine WL.y (hy := gtr) (h := ?_)
      refine nl (h := ?_)
      refine q_seq (h := ?_)
      refine cd (by exact rfl) (fun h2 => ?_) (fun h2 => ?_)
      · skip
        have h' : decide ((600 : Int) < xs.length) = true := by rw [hlen]; exact h2
        have hE : playE f first xs = 2 := by
          simp only [playE, preE, hc0, hs0, h', cond_true, cond_false]; rfl
        have hO : playO f first xs = none := by
          simp only [playO, preE, hc0, hs0, h', cond_true, cond_false]; rfl
        refine sq (h := ?_)
        refine WC.nilOwn 31 2 (h := ?_)
        refine WC.nilOwn 48 7 (h := ?_)
        refine rg (h := ?_)
        refine WL.y (hy := bd) (h := ?_)
        first | refine stA (h := ?_) | refine stEA (h := ?_)
        refine WL.y (hy := asg) (h := ?_)
        refine nl (h := ?_)
        refine q_seq (h := ?_)
        refine rtn (h := ?_)
        refine q_then_ret (h := ?_)
        refine q_ret (hR := ?_)
        rw [hE, hO]
        exact fun w hS => ⟨⟨none, none, 0, 0⟩, trivial, rfl, hS.sub (by repeat (first | exact SubL.nil | (apply SubL.cons; (repeat (first | exact At.here | apply At.there))) | exact SubL.refl _ | apply SubL.skip))⟩
      · skip
        have hn6 : n ≤ 600 := by simp only [decide_eq_false_iff_not] at h2; omega
        have hp0 : preE f first xs.length = 0 := by
          have h' : decide ((600 : Int) < xs.length) = false := by rw [hlen]; exact h2
          simp only [preE, hc0, hs0, h', cond_false]
        refine skp (h := ?_)
        refine q_seq (h := ?_)
        refine sq (h := ?_)
        refine WC.nilOwn 31 2 (h := ?_)
        refine WC.nilOwn 48 7 (h := ?_)
        refine rg (h := ?_)
        refine WL.y (hy := (by first | exact ldA | exact ldEA)) (h := ?_)
        refine WL.y (hy := mv) (h := ?_)
        refine cl0 (hc := fun w hS => C_ref1_Begin _ _ (by assumption) w) (h := ?_)
        refine al (h := fun b2 => ?_)
        first | refine stA (h := ?_) | refine stEA (h := ?_)
        refine nl (h := ?_)
        refine q_seq (h := ?_)
        refine sq (h := ?_)
        refine sq (h := ?_)
        refine rg (h := ?_)
        refine WL.y (hy := asg) (h := ?_)
        refine nl (h := ?_)
        refine q_seq (h := ?_)
        refine bk (h := ?_)
        refine lp (X := RZ) (I := fun z => z.k ≤ n ∧ playTo f first xs z.k = some z.m ∧ z.m.Bd z.k) (le := fun z => [(0, f.val), (1, .int .i64 first), (2, .slice A n c), (3, .pointer (some ⟨b0, 0, none⟩)), (6, .pointer (some ⟨b1, 0, none⟩)), (8, .pointer (some ⟨b2, 0, none⟩)), (9, .int .i64 z.k)]) (Le := fun z => [.blk b0 23 f.cells, .blk b1 86 [.slice none 0 0, .int .i64 0, .int .i64 0, .int .i64 0, .int .i64 0, .int .i64 0, .int .i64 0, .int .i64 0, .int .i64 0, .int .i64 0, .slice none 0 0, .bool false], .blk b2 86 ((refOf z.m).cells z.a.sA z.a.sc z.a.gA z.a.gc), .own z.a.sA z.a.sc 31 2 (refOf z.m).st.length (encP (refOf z.m).st), .own z.a.gA z.a.gc 48 7 (refOf z.m).gs.length (encG (refOf z.m).gs), .ro A 1 n (encI xs)]) (μ := fun z => n - z.k) ⟨0, beginV f first, ⟨none, none, 0, 0⟩⟩ ⟨Nat.zero_le _, rfl, beginV_bd hf hfs⟩ (by repeat (first | exact trivial | refine ⟨rfl, ?_⟩)) (by repeat (first | exact SubL.nil | (apply SubL.cons; (repeat (first | exact At.here | apply At.there))) | exact SubL.refl _ | apply SubL.skip)) (fun z hz => ?_)
        obtain ⟨hzk, hzr, hzb⟩ := hz
        obtain ⟨hzf, hz1, hzi⟩ := playTo_inv hf hzr
        refine sq (h := ?_)
        refine sq (h := ?_)
        refine rg (h := ?_)
        refine WL.y (hy := mv) (h := ?_)
        refine WL.y (hy := mv) (h := ?_)
        refine WL.y (hy := lenS) (h := ?_)
        refine WL.y (hy := lss) (h := ?_)
        refine nl (h := ?_)
        refine q_seq (h := ?_)
        refine cd (by exact rfl) (fun h3 => ?_) (fun h3 => ?_)
        · skip
          have hkn : z.k < n := by simp only [decide_eq_true_eq] at h3; omega
          obtain ⟨s, hs⟩ : ∃ s, xs[z.k]? = some s := ⟨_, List.getElem?_eq_getElem (by omega)⟩
          have hse := encI_at hs
          have hstep := playTo_succ hzr hs
          refine skp (h := ?_)
          refine q_seq (h := ?_)
          refine sq (h := ?_)
          refine bk (h := ?_)
          refine sq (h := ?_)
          refine sq (h := ?_)
          refine rg (h := ?_)
          refine WL.y (hy := mv) (h := ?_)
          refine WL.y (hy := mv) (h := ?_)
          refine WL.y (hy := ix (hb := by omega)) (h := ?_)
          refine WL.y (hy := ldE (hk := hse)) (h := ?_)
          refine cl0 (hc := fun w hS => C_ref1_within ..) (h := ?_)
          refine WL.y (hy := notB) (h := ?_)
          refine WL.y (hy := mv) (h := ?_)
          apply brOr 5 37 42 (by exact rfl)
          · intro hb4
            refine un (h := ?_)
            refine WL.y (hy := (by first | exact fa | exact faE)) (h := ?_)
            refine un (h := ?_)
            refine WL.y (hy := (by first | exact fa | exact faE)) (h := ?_)
            refine un (h := ?_)
            refine WL.y (hy := (by first | exact ld | exact ldE)) (h := ?_)
            refine un (h := ?_)
            refine WL.y (hy := geq) (h := ?_)
            refine WL.y (hy := (by first | exact pkT | exact pkF)) (h := ?_)
            exact mg (by repeat (first | exact trivial | refine ⟨rfl, ?_⟩ | refine ⟨by rw [hb4]; rfl, ?_⟩)) (by repeat (first | exact SubL.nil | (apply SubL.cons; (repeat (first | exact At.here | apply At.there))) | exact SubL.refl _ | apply SubL.skip))
          · intro hb4
            repeat (first | refine un (h := ?_) | refine sk (h := ?_) | refine WL.y (hy := pkF) (h := ?_) | refine WL.y (hy := pkT) (h := ?_))
            exact mg (by repeat (first | exact trivial | refine ⟨rfl, ?_⟩ | refine ⟨by rw [hb4]; rfl, ?_⟩)) (by repeat (first | exact SubL.nil | (apply SubL.cons; (repeat (first | exact At.here | apply At.there))) | exact SubL.refl _ | apply SubL.skip))
          refine nl (h := ?_)
          refine q_seq (h := ?_)
          refine cd (by exact rfl) (fun h5 => ?_) (fun h5 => ?_)
          · skip
            have h' : (sideBad s || decide (0 ≤ z.m.winner)) = true := by rw [← side_wi]; exact h5
            rw [h'] at hstep
            have hpn := playTo_none (k := xs.length) hstep (by omega)
            have hE : playE f first xs = 11 := by rw [playE, hp0, hpn]; rfl
            have hO : playO f first xs = none := by rw [playO, hp0]; exact hpn
            refine sq (h := ?_)
            refine WC.nilOwn 31 2 (h := ?_)
            refine WC.nilOwn 48 7 (h := ?_)
            refine rg (h := ?_)
            refine WL.y (hy := bd) (h := ?_)
            first | refine stA (h := ?_) | refine stEA (h := ?_)
            refine WL.y (hy := asg) (h := ?_)
            refine nl (h := ?_)
            refine q_seq (h := ?_)
            refine rtn (h := ?_)
            refine q_then_ret (h := ?_)
            refine q_blk_ret (h := ?_)
            refine q_then_ret (h := ?_)
            refine q_then_ret (h := ?_)
            refine q_blk_ret (h := ?_)
            refine q_then_ret (h := ?_)
            refine q_ret (hR := ?_)
            rw [hE, hO]
            exact fun w hS => ⟨⟨none, none, 0, 0⟩, trivial, rfl, hS.sub (by repeat (first | exact SubL.nil | (apply SubL.cons; (repeat (first | exact At.here | apply At.there))) | exact SubL.refl _ | apply SubL.skip))⟩
          · skip
            have h' : (sideBad s || decide (0 ≤ z.m.winner)) = false := by rw [← side_wi]; exact h5
            have hnx : playTo f first xs (z.k + 1) = some (pointV z.m s) := by rw [hstep, h']; rfl
            have h2' := Bool.or_eq_false_iff.1 h'
            have hsd := side_ok h2'.1
            have hin : z.m.Inv := by
              rcases hzi with hi | hd
              · exact hi
              · have h1 := hd.w
                have h2 := h2'.2
                rw [decide_eq_false_iff_not] at h2
                omega
            refine skp (h := ?_)
            refine q_seq (h := ?_)
            refine rgD (by kernel_rfl) [(7, .blk b2 86 ((refOf z.m).cells z.a.sA z.a.sc z.a.gA z.a.gc)), (1000000, .blk b0 23 f.cells), (1000000, .ro A 1 n (encI xs))] (by repeat (first | exact HS.nil | (apply HS.keep; (repeat (first | exact At.here | apply At.there))) | (apply HS.ro; (repeat (first | exact Rds.ro | exact Rds.own | apply Rds.there))))) (h := ?_)
            refine tk 0 (hy := (by first | exact ldA | exact ldEA)) (h := ?_)
            refine tk 1 (hy := (by first | exact ldA | exact ldEA)) (h := ?_)
            refine tk 2 (hy := mv) (h := ?_)
            refine tk 3 (hy := mv) (h := ?_)
            refine tk 4 (hy := ix (hb := by omega)) (h := ?_)
            refine tk 5 (hy := ldE (hk := hse)) (h := ?_)
            refine one 6 (h := ?_)
            refine clT (hc := T_ref1_Point' f z.m hzf s z.k z.a.sA z.a.sc z.a.gA z.a.gc hf hzb (by omega) hin hsd) (h := fun x2 _ => ?_)
            refine nx (h := ?_)
            refine one 7 (h := ?_)
            first | refine stA (h := ?_) | refine stEA (h := ?_)
            refine nx (h := ?_)
            refine dn (h := ?_)
            refine q_blk_norm (h := ?_)
            refine q_seq (h := ?_)
            refine rg (h := ?_)
            refine WL.y (hy := mv) (h := ?_)
            refine WL.y (hy := addI) (h := ?_)
            refine WL.y (hy := asg) (h := ?_)
            refine nl (h := ?_)
            refine rn (x := z) ⟨z.k + 1, pointV z.m s, x2⟩ ⟨by dsimp only; omega, hnx, by have := pointV_bd (side := s) hzb (by omega); simpa using this⟩ (by dsimp only; omega) (by repeat (first | exact trivial | refine ⟨rfl, ?_⟩)) (by repeat (first | exact SubL.nil | (apply SubL.cons; (repeat (first | exact At.here | apply At.there))) | exact SubL.refl _ | apply SubL.skip))
        · skip
          have hkn : z.k = n := by simp only [decide_eq_false_iff_not] at h3; omega
          have hO : playO f first xs = some z.m := by rw [playO, hp0, hlen, ← hkn]; exact hzr
          have hE := playE_some hO
          refine et (h := ?_)
          refine q_then_exit (h := ?_)
          refine q_then_exit (h := ?_)
          refine q_blk_hit (h := ?_)
          refine q_seq (h := ?_)
          refine sq (h := ?_)
          refine rg (h := ?_)
          refine WL.y (hy := (by first | exact ldA | exact ldEA)) (h := ?_)
          refine WL.y (hy := (by first | exact ldA | exact ldEA)) (h := ?_)
          refine cl0 (hc := fun w hS => C_ref1_Next f z.m hzf z.a.sA z.a.sc z.a.gA z.a.gc hf (by rw [hz1]; omega) hzi hzb w (hS.get (by repeat (first | exact Rds.ro | exact Rds.own | apply Rds.there)))) (h := ?_)
          refine WL.y (hy := (by first | exact fa | exact faE)) (h := ?_)
          refine WL.y (hy := (by first | exact fa | exact faE)) (h := ?_)
          first | refine st (h := ?_) | refine stE (h := ?_)
          refine nl (h := ?_)
          refine q_seq (h := ?_)
          refine sq (h := ?_)
          refine rg (h := ?_)
          refine WL.y (hy := (by first | exact ldA | exact ldEA)) (h := ?_)
          first | refine stA (h := ?_) | refine stEA (h := ?_)
          refine WL.y (hy := asg) (h := ?_)
          refine nl (h := ?_)
          refine q_seq (h := ?_)
          refine rtn (h := ?_)
          refine q_ret (hR := ?_)
          rw [hE, hO]
          exact fun w hS => ⟨z.a, trivial, rfl, hS.sub (by repeat (first | exact SubL.nil | (apply SubL.cons; (repeat (first | exact At.here | apply At.there))) | exact SubL.refl _ | apply SubL.skip))⟩

theorem runO_sc (o : Option MS) : (runO o).st = (scO o).st ∧ (runO o).g = (scO o).g ∧ (runO o).p = (scO o).p ∧ (runO o).server = (scO o).server ∧ (runO o).ends = (scO o).ends ∧ (runO o).balls = (scO o).balls ∧ (runO o).winner = (scO o).winner ∧ (runO o).gs = gsO o := by
  cases o <;> exact ⟨rfl, rfl, rfl, rfl, rfl, rfl, rfl, rfl⟩
set_option maxRecDepth 100000 in
theorem C_ref1_Play (f : Fmt) (first : Int) (xs : List Int) (A : Option Addr) (n c : Nat) (w : World) (h : Rd w A 1 n (encI xs)) (hn : n ≤ 9223372036854775807) :
    CR Try.prog 16 [f.val, .int .i64 first, .slice A n c] w (fun _ : Option Addr × Nat => True) (fun x => .tuple #[(scO (playO f first xs)).val x.1 x.2, .int .i64 (playE f first xs)]) (fun x => [.own x.1 x.2 31 2 (scO (playO f first xs)).st.length (encP (scO (playO f first xs)).st)]) := by
  obtain ⟨e1, e2, e3, e4, e5, e6, e7, e8⟩ := runO_sc (playO f first xs)
  refine ⟨en Try.func16 Try.ntmps16 ((St.init w).share (e := .ro A 1 n (encI xs)) h rfl rfl rfl) (h := fun F => ?_)⟩
  refine sq (h := ?_)
  refine rg (h := ?_)
  refine bxA (h := fun b0 => ?_)
  refine al (h := fun b1 => ?_)
  refine WL.y (hy := asg) (h := ?_)
  refine nl (h := ?_)
  refine q_seq (h := ?_)
  refine sq (h := ?_)
  refine rg (h := ?_)
  refine WL.y (hy := (by first | exact ldA | exact ldEA)) (h := ?_)
  refine WL.y (hy := mv) (h := ?_)
  refine WL.y (hy := mv) (h := ?_)
  refine cl (hc := fun w hS => C_ref1_Run _ _ _ _ _ _ w (hS.get (by repeat (first | exact Rds.ro | exact Rds.own | apply Rds.there))) (by omega)) (h := fun x0 _ => ?_)
  refine WL.y (hy := mv) (h := ?_)
  refine WL.y (hy := ex) (h := ?_)
  refine WL.y (hy := ex) (h := ?_)
  refine al (h := fun b2 => ?_)
  first | refine stA (h := ?_) | refine stEA (h := ?_)
  refine WL.y (hy := asg) (h := ?_)
  refine nl (h := ?_)
  refine q_seq (h := ?_)
  refine sq (h := ?_)
  refine rg (h := ?_)
  refine WL.y (hy := (by first | exact fa | exact faE)) (h := ?_)
  refine WL.y (hy := (by first | exact ldA | exact ldEA)) (h := ?_)
  refine WL.y (hy := mv) (h := ?_)
  first | refine stA (h := ?_) | refine stEA (h := ?_)
  refine WL.y (hy := asg) (h := ?_)
  refine nl (h := ?_)
  refine q_seq (h := ?_)
  refine rtn (h := ?_)
  refine q_ret (hR := ?_)
  rw [e1, e2, e3, e4, e5, e6, e7]
  exact fun w hS => ⟨(x0.sA, x0.sc), trivial, rfl, hS.sub (by repeat (first | exact SubL.nil | (apply SubL.cons; (repeat (first | exact At.here | apply At.there))) | exact SubL.refl _ | apply SubL.skip))⟩
set_option maxRecDepth 100000 in
theorem C_ref1_Games (f : Fmt) (first : Int) (xs : List Int) (A : Option Addr) (n c : Nat) (w : World) (h : Rd w A 1 n (encI xs)) (hn : n ≤ 9223372036854775807) :
    CR Try.prog 18 [f.val, .int .i64 first, .slice A n c] w (fun _ : Option Addr × Nat => True) (fun x => .tuple #[.slice x.1 (gsO (playO f first xs)).length x.2, .int .i64 (playE f first xs)]) (fun x => [.own x.1 x.2 48 7 (gsO (playO f first xs)).length (encG (gsO (playO f first xs)))]) := by
  obtain ⟨e1, e2, e3, e4, e5, e6, e7, e8⟩ := runO_sc (playO f first xs)
  refine ⟨en Try.func18 Try.ntmps18 ((St.init w).share (e := .ro A 1 n (encI xs)) h rfl rfl rfl) (h := fun F => ?_)⟩
  refine sq (h := ?_)
  refine rg (h := ?_)
  refine bxA (h := fun b0 => ?_)
  refine WL.y (hy := asg) (h := ?_)
  refine WL.y (hy := asg) (h := ?_)
  refine nl (h := ?_)
  refine q_seq (h := ?_)
  refine sq (h := ?_)
  refine rg (h := ?_)
  refine WL.y (hy := (by first | exact ldA | exact ldEA)) (h := ?_)
  refine WL.y (hy := mv) (h := ?_)
  refine WL.y (hy := mv) (h := ?_)
  refine cl (hc := fun w hS => C_ref1_Run _ _ _ _ _ _ w (hS.get (by repeat (first | exact Rds.ro | exact Rds.own | apply Rds.there))) (by omega)) (h := fun x0 _ => ?_)
  refine WL.y (hy := mv) (h := ?_)
  refine WL.y (hy := ex) (h := ?_)
  refine WL.y (hy := ex) (h := ?_)
  refine al (h := fun b1 => ?_)
  first | refine stA (h := ?_) | refine stEA (h := ?_)
  refine WL.y (hy := asg) (h := ?_)
  refine nl (h := ?_)
  refine q_seq (h := ?_)
  refine sq (h := ?_)
  refine rg (h := ?_)
  refine WL.y (hy := (by first | exact fa | exact faE)) (h := ?_)
  refine WL.y (hy := (by first | exact ld | exact ldE)) (h := ?_)
  refine WL.y (hy := mv) (h := ?_)
  refine WL.y (hy := asg) (h := ?_)
  refine WL.y (hy := asg) (h := ?_)
  refine nl (h := ?_)
  refine q_seq (h := ?_)
  refine rtn (h := ?_)
  refine q_ret (hR := ?_)
  rw [e8]
  exact fun w hS => ⟨(x0.gA, x0.gc), trivial, rfl, hS.sub (by repeat (first | exact SubL.nil | (apply SubL.cons; (repeat (first | exact At.here | apply At.there))) | exact SubL.refl _ | apply SubL.skip))⟩
end Go.Proofs.Ytebhkghgifiahaa
