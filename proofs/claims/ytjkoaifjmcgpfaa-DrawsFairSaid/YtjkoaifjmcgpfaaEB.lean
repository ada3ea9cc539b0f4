/- Walks of the document's answers on draws: Far, Count, Draw, Pick, Index. -/
import Derived.Test.YtjkoaifjmcgpfaaEA
namespace Go.Proofs.Ytjkoaifjmcgpfaa
open Go Go.RowKit

theorem sheets_all (p : Pl) (hq : p.Ok) : ∀ f, ShC p f
  | 0 => sheets_zero p hq
  | f + 1 => sheets_succ p hq f (sheets_all p hq f)
theorem C_sheets (p : Pl) (a : PA) (hb : pOk p = true) (most : Int) (h0 : 0 ≤ most) (h1 : most ≤ 1000000) (w : World) (h : PRd w p a) :
    CR Try.prog 47 [p.val a, .slice none 0 0, .int .i64 most] w (fun x : SX => x.hs.map (·.2.2) = (refAll p).take (most + 1).toNat) (fun x => .slice x.R x.hs.length x.rc) (fun x => [.own x.R x.rc 23 1 x.hs.length (rowsV x.hs), manyE true (rowsE x.hs)]) := by
  have hq := p_ok hb
  have hz := hq.z
  have hne : decide (p.size.toNat = 0) = false := decide_eq_false (by omega)
  have := (sheets_all p hq p.size.toNat a [] none 0 0 most rfl (by omega) h0 h1 (fun y hy => nomatch hy) w h (Rd.nil w none 1)).out
  refine ⟨Calls.mono this fun e w' ⟨x, hx, he, hs⟩ => ⟨x, ?_, he, ?_⟩⟩
  · rw [hx.1, sh_all hb h0]
  · rw [hne] at hs; exact hs
theorem C_ref06_all (p : Pl) (a : PA) (hb : pOk p = true) (hN : (drawsV p).length ≤ 300) (w : World) (h : PRd w p a) :
    CR Try.prog 52 [p.val a] w (fun x : SX => x.hs.map (·.2.2) = refAll p) (fun x => .slice x.R x.hs.length x.rc) (fun x => [.own x.R x.rc 23 1 x.hs.length (rowsV x.hs), manyE true (rowsE x.hs)]) := by
  obtain ⟨hp, hl, hpn, hln, hpc⟩ := h
  refine ⟨en Try.func52 Try.ntmps52 (((St.init w).share (e := .ro a.pA 3 p.ps.length (encPs p.ps)) hp rfl rfl rfl).share (e := .ro a.lA 1 p.lots.length (enI p.lots)) hl rfl rfl rfl) (h := fun F => ?_)⟩
  refine sq (h := ?_)
  refine rg (h := ?_)
  refine bxA (h := fun b0 => ?_)
  refine WL.y (hy := asg) (h := ?_)
  refine nl (h := ?_)
  refine q_seq (h := ?_)
  refine sq (h := ?_)
  refine rg (h := ?_)
  refine WL.y (hy := (by first | exact ldA | exact ldEA)) (h := ?_)
  refine cl (hc := fun w hS => C_sheets p a hb 1000000 (by omega) (by omega) w ⟨hS.get, hS.get, hpn, hln, hpc⟩) (h := fun x hx => ?_)
  rw [take_all (by rw [refAll, List.length_map]; omega)] at hx
  refine WL.y (hy := asg) (h := ?_)
  refine nl (h := ?_)
  refine q_seq (h := ?_)
  refine rtn (h := ?_)
  refine q_ret (hR := ?_)
  exact fun w hS => ⟨x, hx, rfl, hS.sub (by repeat (first | exact SubL.nil | (apply SubL.cons; (repeat (first | exact At.here | apply At.there))) | exact SubL.refl _ | apply SubL.skip))⟩
def farV (p : Pl) : Bool := decide ((40 : Int) < p.ps.length) || decide ((40 : Int) < p.lots.length) || (decide (chkP p = 0) && decide ((300 : Int) < ((min 301 (drawsV p).length : Nat) : Int)))
theorem far_no {p : Pl} (h : farV p = false) : p.ps.length ≤ 40 ∧ p.lots.length ≤ 40 ∧ (pOk p = true → (drawsV p).length ≤ 300) := by
  simp only [farV, Bool.or_eq_false_iff, Bool.and_eq_false_iff, decide_eq_false_iff_not] at h
  refine ⟨by omega, by omega, fun hb => ?_⟩
  have : chkP p = 0 := by rw [chkP, hb]; rfl
  omega
theorem C_law06_Far (p : Pl) (a : PA) (hz0 : -9223372036854775808 ≤ p.size ∧ p.size ≤ 9223372036854775807) (w : World) (h : PRd w p a) : C0 Try.prog 17 [p.val a] w (.bool (farV p)) := by
  obtain ⟨hp, hl, hpn, hln, hpc⟩ := h
  refine ⟨en Try.func17 Try.ntmps17 (((St.init w).share (e := .ro a.pA 3 p.ps.length (encPs p.ps)) hp rfl rfl rfl).share (e := .ro a.lA 1 p.lots.length (enI p.lots)) hl rfl rfl rfl) (h := fun F => ?_)⟩
  refine sq (h := ?_)
  refine rg (h := ?_)
  refine bxA (h := fun b0 => ?_)
  refine WL.y (hy := asg) (h := ?_)
  refine nl (h := ?_)
  refine q_seq (h := ?_)
  refine sq (h := ?_)
  refine rg (h := ?_)
  refine WL.y (hy := (by first | exact fa | exact faE)) (h := ?_)
  refine WL.y (hy := (by first | exact ld | exact ldE)) (h := ?_)
  refine WL.y (hy := lenS) (h := ?_)
  refine WL.y (hy := gtr) (h := ?_)
  refine WL.y (hy := mv) (h := ?_)
  apply brOr 5 7 12 (by exact rfl)
  · intro hb0
    refine un (h := ?_)
    refine WL.y (hy := (by first | exact fa | exact faE)) (h := ?_)
    refine un (h := ?_)
    refine WL.y (hy := (by first | exact ld | exact ldE)) (h := ?_)
    refine un (h := ?_)
    refine WL.y (hy := lenS) (h := ?_)
    refine un (h := ?_)
    refine WL.y (hy := gtr) (h := ?_)
    refine WL.y (hy := (by first | exact pkT | exact pkF)) (h := ?_)
    exact mg (by repeat (first | exact trivial | refine ⟨rfl, ?_⟩ | refine ⟨by rw [hb0]; rfl, ?_⟩)) (by repeat (first | exact SubL.nil | (apply SubL.cons; (repeat (first | exact At.here | apply At.there))) | exact SubL.refl _ | apply SubL.skip))
  · intro hb0
    repeat (first | refine un (h := ?_) | refine sk (h := ?_) | refine WL.y (hy := pkF) (h := ?_) | refine WL.y (hy := pkT) (h := ?_))
    exact mg (by repeat (first | exact trivial | refine ⟨rfl, ?_⟩ | refine ⟨by rw [hb0]; rfl, ?_⟩)) (by repeat (first | exact SubL.nil | (apply SubL.cons; (repeat (first | exact At.here | apply At.there))) | exact SubL.refl _ | apply SubL.skip))
  refine WL.y (hy := mv) (h := ?_)
  apply brOr 10 13 23 (by exact rfl)
  · intro hb1
    refine un (h := ?_)
    refine WL.y (hy := (by first | exact ldA | exact ldEA)) (h := ?_)
    refine un (h := ?_)
    refine cl0 (hc := fun w hS => C_ref06_Check p a hz0 w ⟨hS.get, hS.get, hpn, hln, hpc⟩) (h := ?_)
    refine un (h := ?_)
    refine WL.y (hy := eql) (h := ?_)
    refine un (h := ?_)
    refine WL.y (hy := mv) (h := ?_)
    apply brAnd 5 17 22 (by exact rfl)
    · intro hb2
      have hb : pOk p = true := (chkP_ok (p := p) (by rw [hb2]; rfl)).2
      refine un (h := ?_)
      refine WL.y (hy := (by first | exact ldA | exact ldEA)) (h := ?_)
      refine un (h := ?_)
      refine cl (hc := fun w hS => C_sheets p a hb 300 (by omega) (by omega) w ⟨hS.get, hS.get, hpn, hln, hpc⟩) (h := fun x hx => ?_)
      have hxl : x.hs.length = min 301 (drawsV p).length := by rw [← List.length_map (f := fun h : Option Addr × Nat × List Int => h.2.2), hx, List.length_take, refAll, List.length_map]; rfl
      rw [hxl]
      refine un (h := ?_)
      refine WL.y (hy := lenS) (h := ?_)
      refine un (h := ?_)
      refine WL.y (hy := gtr) (h := ?_)
      refine un (h := ?_)
      refine WL.y (hy := (by first | exact pkT | exact pkF)) (h := ?_)
      exact mg (by repeat (first | exact trivial | refine ⟨rfl, ?_⟩ | refine ⟨by rw [hb2]; rfl, ?_⟩ | refine ⟨by rw [hb1]; rfl, ?_⟩)) (by repeat (first | exact SubL.nil | (apply SubL.cons; (repeat (first | exact At.here | apply At.there))) | exact SubL.refl _ | apply SubL.skip))
    · intro hb2
      repeat (first | refine un (h := ?_) | refine sk (h := ?_) | refine WL.y (hy := pkF) (h := ?_) | refine WL.y (hy := pkT) (h := ?_))
      exact mg (by repeat (first | exact trivial | refine ⟨rfl, ?_⟩ | refine ⟨by rw [hb2]; rfl, ?_⟩ | refine ⟨by rw [hb1]; rfl, ?_⟩)) (by repeat (first | exact SubL.nil | (apply SubL.cons; (repeat (first | exact At.here | apply At.there))) | exact SubL.refl _ | apply SubL.skip))
    refine WL.y (hy := (by first | exact pkT | exact pkF)) (h := ?_)
    exact mg (by repeat (first | exact trivial | refine ⟨rfl, ?_⟩ | refine ⟨by rw [hb1]; rfl, ?_⟩)) (by repeat (first | exact SubL.nil | (apply SubL.cons; (repeat (first | exact At.here | apply At.there))) | exact SubL.refl _ | apply SubL.skip))
  · intro hb1
    repeat (first | refine un (h := ?_) | refine sk (h := ?_) | refine WL.y (hy := pkF) (h := ?_) | refine WL.y (hy := pkT) (h := ?_))
    exact mg (by repeat (first | exact trivial | refine ⟨rfl, ?_⟩ | refine ⟨by rw [hb1]; rfl, ?_⟩)) (by repeat (first | exact SubL.nil | (apply SubL.cons; (repeat (first | exact At.here | apply At.there))) | exact SubL.refl _ | apply SubL.skip))
  refine WL.y (hy := asg) (h := ?_)
  refine nl (h := ?_)
  refine q_seq (h := ?_)
  refine rtn (h := ?_)
  refine q_ret (hR := ?_)
  exact fun w hS => ⟨rfl, hS.sub (by repeat (first | exact SubL.nil | (apply SubL.cons; (repeat (first | exact At.here | apply At.there))) | exact SubL.refl _ | apply SubL.skip))⟩
def validV (p : Pl) : Bool := !farV p && decide (chkP p = 0)
theorem C_law06_valid (p : Pl) (a : PA) (hz0 : -9223372036854775808 ≤ p.size ∧ p.size ≤ 9223372036854775807) (w : World) (h : PRd w p a) : C0 Try.prog 12 [p.val a] w (.bool (validV p)) := by
  obtain ⟨hp, hl, hpn, hln, hpc⟩ := h
  refine ⟨en Try.func12 Try.ntmps12 (((St.init w).share (e := .ro a.pA 3 p.ps.length (encPs p.ps)) hp rfl rfl rfl).share (e := .ro a.lA 1 p.lots.length (enI p.lots)) hl rfl rfl rfl) (h := fun F => ?_)⟩
  refine sq (h := ?_)
  refine rg (h := ?_)
  refine bxA (h := fun b0 => ?_)
  refine WL.y (hy := asg) (h := ?_)
  refine nl (h := ?_)
  refine q_seq (h := ?_)
  refine sq (h := ?_)
  refine rg (h := ?_)
  refine WL.y (hy := (by first | exact ldA | exact ldEA)) (h := ?_)
  refine cl0 (hc := fun w hS => C_law06_Far p a hz0 w ⟨hS.get, hS.get, hpn, hln, hpc⟩) (h := ?_)
  refine WL.y (hy := notB) (h := ?_)
  refine WL.y (hy := mv) (h := ?_)
  apply brAnd 4 6 10 (by exact rfl)
  · intro hb0
    refine un (h := ?_)
    refine WL.y (hy := (by first | exact ldA | exact ldEA)) (h := ?_)
    refine un (h := ?_)
    refine cl0 (hc := fun w hS => C_ref06_Check p a hz0 w ⟨hS.get, hS.get, hpn, hln, hpc⟩) (h := ?_)
    refine un (h := ?_)
    refine WL.y (hy := eql) (h := ?_)
    refine WL.y (hy := (by first | exact pkT | exact pkF)) (h := ?_)
    exact mg (by repeat (first | exact trivial | refine ⟨rfl, ?_⟩ | refine ⟨by rw [hb0]; rfl, ?_⟩)) (by repeat (first | exact SubL.nil | (apply SubL.cons; (repeat (first | exact At.here | apply At.there))) | exact SubL.refl _ | apply SubL.skip))
  · intro hb0
    repeat (first | refine un (h := ?_) | refine sk (h := ?_) | refine WL.y (hy := pkF) (h := ?_) | refine WL.y (hy := pkT) (h := ?_))
    exact mg (by repeat (first | exact trivial | refine ⟨rfl, ?_⟩ | refine ⟨by rw [hb0]; rfl, ?_⟩)) (by repeat (first | exact SubL.nil | (apply SubL.cons; (repeat (first | exact At.here | apply At.there))) | exact SubL.refl _ | apply SubL.skip))
  refine WL.y (hy := asg) (h := ?_)
  refine nl (h := ?_)
  refine q_seq (h := ?_)
  refine rtn (h := ?_)
  refine q_ret (hR := ?_)
  exact fun w hS => ⟨rfl, hS.sub (by repeat (first | exact SubL.nil | (apply SubL.cons; (repeat (first | exact At.here | apply At.there))) | exact SubL.refl _ | apply SubL.skip))⟩
theorem val_ok {p : Pl} (h : validV p = true) : pOk p = true ∧ p.ps.length ≤ 40 ∧ p.lots.length ≤ 40 ∧ (drawsV p).length ≤ 300 := by
  simp only [validV, Bool.and_eq_true, Bool.not_eq_true'] at h
  have hb : pOk p = true := (chkP_ok (p := p) (by rw [h.2]; rfl)).2
  have := far_no h.1
  exact ⟨hb, this.1, this.2.1, this.2.2 hb⟩
theorem C_ref06_Count (p : Pl) (a : PA) (hz0 : -9223372036854775808 ≤ p.size ∧ p.size ≤ 9223372036854775807) (hN : pOk p = true → (drawsV p).length ≤ 300) (w : World) (h : PRd w p a) : C0 Try.prog 29 [p.val a] w (.tuple #[.int .i64 (cntN p), .int .i64 (chkP p)]) := by
  obtain ⟨hp, hl, hpn, hln, hpc⟩ := h
  refine ⟨en Try.func29 Try.ntmps29 (((St.init w).share (e := .ro a.pA 3 p.ps.length (encPs p.ps)) hp rfl rfl rfl).share (e := .ro a.lA 1 p.lots.length (enI p.lots)) hl rfl rfl rfl) (h := fun F => ?_)⟩
  refine sq (h := ?_)
  refine rg (h := ?_)
  refine bxA (h := fun b0 => ?_)
  refine WL.y (hy := asg) (h := ?_)
  refine WL.y (hy := asg) (h := ?_)
  refine nl (h := ?_)
  refine q_seq (h := ?_)
  refine sq (h := ?_)
  refine sq (h := ?_)
  refine rg (h := ?_)
  refine WL.y (hy := (by first | exact ldA | exact ldEA)) (h := ?_)
  refine cl0 (hc := fun w hS => C_ref06_Check p a hz0 w ⟨hS.get, hS.get, hpn, hln, hpc⟩) (h := ?_)
  refine WL.y (hy := neq) (h := ?_)
  refine nl (h := ?_)
  refine q_seq (h := ?_)
  refine cd (by exact rfl) (fun h0 => ?_) (fun h0 => ?_)
  · skip
    have hb := chkP_no h0
    have hE : cntN p = 0 := by rw [cntN, hb]; rfl
    have hE2 : chkP p = 60 := by rw [chkP, hb]; rfl
    refine sq (h := ?_)
    refine rg (h := ?_)
    refine WL.y (hy := asg) (h := ?_)
    refine WL.y (hy := asg) (h := ?_)
    refine nl (h := ?_)
    refine q_seq (h := ?_)
    refine rtn (h := ?_)
    refine q_then_ret (h := ?_)
    refine q_ret (hR := ?_)
    rw [hE, hE2]
    exact fun w hS => ⟨rfl, hS.sub (by repeat (first | exact SubL.nil | (apply SubL.cons; (repeat (first | exact At.here | apply At.there))) | exact SubL.refl _ | apply SubL.skip))⟩
  · skip
    obtain ⟨hq, hb⟩ := chkP_ok h0
    have hE : cntN p = (drawsV p).length := by rw [cntN, hb]; rfl
    have hE2 : chkP p = 0 := by rw [chkP, hb]; rfl
    refine skp (h := ?_)
    refine q_seq (h := ?_)
    refine sq (h := ?_)
    refine rg (h := ?_)
    refine WL.y (hy := (by first | exact ldA | exact ldEA)) (h := ?_)
    refine cl (hc := fun w hS => C_ref06_all p a hb (hN hb) w ⟨hS.get, hS.get, hpn, hln, hpc⟩) (h := fun x hx => ?_)
    have hxl : x.hs.length = (drawsV p).length := by rw [← List.length_map (f := fun h : Option Addr × Nat × List Int => h.2.2), hx, refAll, List.length_map]
    rw [hxl]
    refine WL.y (hy := lenS) (h := ?_)
    refine WL.y (hy := asg) (h := ?_)
    refine WL.y (hy := asg) (h := ?_)
    refine nl (h := ?_)
    refine q_seq (h := ?_)
    refine rtn (h := ?_)
    refine q_ret (hR := ?_)
    rw [hE, hE2]
    exact fun w hS => ⟨rfl, hS.sub (by repeat (first | exact SubL.nil | (apply SubL.cons; (repeat (first | exact At.here | apply At.there))) | exact SubL.refl _ | apply SubL.skip))⟩
/-! #### one of the draws -/
theorem many_one {w0 w : World} {L : List Ent} {rs : List Row} (h : St w0 w (manyE true rs :: L)) {r : Row} (hr : r ∈ rs) : St w0 w (manyE true [r] :: L) := by
  have hp := List.pairwise_cons.1 h.sep
  refine ⟨h.below, fun x hx => ?_, fun x hx hf b hb => ?_, List.pairwise_cons.2 ⟨fun x hx hor b hb hb' => ?_, hp.2⟩⟩
  · rcases List.mem_cons.1 hx with rfl | hx
    · intro r' hr'
      simp only [List.mem_singleton] at hr'; subst hr'
      exact h.ok (manyE true rs) (by simp) _ hr
    · exact h.ok x (by simp [hx])
  · rcases List.mem_cons.1 hx with rfl | hx
    · obtain ⟨r', hr', hb⟩ := hb
      simp only [List.mem_singleton] at hr'; subst hr'
      exact h.new (manyE true rs) (by simp) rfl b ⟨_, hr, hb⟩
    · exact h.new x (by simp [hx]) hf b hb
  · obtain ⟨r', hr', hb⟩ := hb
    simp only [List.mem_singleton] at hr'; subst hr'
    exact hp.1 x hx hor b ⟨_, hr, hb⟩ hb'
theorem many_nil {w0 w : World} {L : List Ent} (h : St w0 w L) : St w0 w (manyE true [⟨none, 1, 0, []⟩] :: L) := by
  have h0 : ∀ b, ¬ (manyE true [⟨none, 1, 0, []⟩]).fp b := fun b ⟨r, hr, hb⟩ => by
    simp only [List.mem_singleton] at hr; subst hr
    obtain ⟨ad, ha, _⟩ := hb
    cases ha
  refine ⟨h.below, fun x hx => ?_, fun x hx hf b hb => ?_, List.pairwise_cons.2 ⟨fun x hx hor b hb hb' => (h0 b hb).elim, h.sep⟩⟩
  · rcases List.mem_cons.1 hx with rfl | hx
    · intro r hr
      simp only [List.mem_singleton] at hr; subst hr
      exact Rd.nil w none 1
    · exact h.ok x hx
  · rcases List.mem_cons.1 hx with rfl | hx
    · exact (h0 b hb).elim
    · exact h.new x hx hf b hb
theorem row_at {hs : List (Option Addr × Nat × List Int)} {k : Nat} {h : Option Addr × Nat × List Int} (hk : hs[k]? = some h) : (rowsV hs)[k]? = some [.slice h.1 h.2.2.length h.2.1] := by
  rw [rowsV, List.getElem?_map, hk]; rfl
theorem row_mem {hs : List (Option Addr × Nat × List Int)} {k : Nat} {h : Option Addr × Nat × List Int} (hk : hs[k]? = some h) : (⟨h.1, 1, h.2.2.length, enI h.2.2⟩ : Row) ∈ rowsE hs := List.mem_map.2 ⟨h, List.mem_of_getElem? hk, rfl⟩
theorem pick_at {p : Pl} {hs : List (Option Addr × Nat × List Int)} (hx : hs.map (·.2.2) = refAll p) {k : Nat} (hk : k < (drawsV p).length) : ∃ h, hs[k]? = some h ∧ pickL p k = (h.2.2, true) := by
  have hl : hs.length = (drawsV p).length := by rw [← List.length_map (f := fun h : Option Addr × Nat × List Int => h.2.2), hx, refAll, List.length_map]
  have e : hs[k]? = some (hs[k]'(by omega)) := List.getElem?_eq_getElem (by omega)
  refine ⟨_, e, ?_⟩
  have h1 : (hs.map (·.2.2))[k]? = some (hs[k]'(by omega)).2.2 := by rw [List.getElem?_map, e]; rfl
  rw [hx, refAll, List.getElem?_map, List.getElem?_eq_getElem hk] at h1
  rw [pickL, Int.toNat_natCast, List.getElem?_eq_getElem hk]
  simp only [Option.map_some, Option.some.injEq] at h1
  simp only [h1]
set_option maxHeartbeats 2000000 in
theorem C_ref06_Pick (p : Pl) (a : PA) (n : Int) (hz0 : -9223372036854775808 ≤ p.size ∧ p.size ≤ 9223372036854775807) (hN : pOk p = true → (drawsV p).length ≤ 300) (w : World) (h : PRd w p a) :
    CR Try.prog 31 [p.val a, .int .i64 n] w (fun _ : Option Addr × Nat => True) (fun x => .tuple #[.slice x.1 (pikP p n).1.length x.2, .int .i64 (pikP p n).2]) (fun x => [manyE true [⟨x.1, 1, (pikP p n).1.length, enI (pikP p n).1⟩]]) := by
  obtain ⟨hp, hl, hpn, hln, hpc⟩ := h
  refine ⟨en Try.func31 Try.ntmps31 (((St.init w).share (e := .ro a.pA 3 p.ps.length (encPs p.ps)) hp rfl rfl rfl).share (e := .ro a.lA 1 p.lots.length (enI p.lots)) hl rfl rfl rfl) (h := fun F => ?_)⟩
  refine sq (h := ?_)
  refine rg (h := ?_)
  refine bxA (h := fun b0 => ?_)
  refine WL.y (hy := asg) (h := ?_)
  refine WL.y (hy := asg) (h := ?_)
  refine nl (h := ?_)
  refine q_seq (h := ?_)
  refine sq (h := ?_)
  refine sq (h := ?_)
  refine rg (h := ?_)
  refine WL.y (hy := (by first | exact ldA | exact ldEA)) (h := ?_)
  refine cl0 (hc := fun w hS => C_ref06_Check p a hz0 w ⟨hS.get, hS.get, hpn, hln, hpc⟩) (h := ?_)
  refine WL.y (hy := neq) (h := ?_)
  refine nl (h := ?_)
  refine q_seq (h := ?_)
  refine cd (by exact rfl) (fun h0 => ?_) (fun h0 => ?_)
  · skip
    have hb := chkP_no h0
    have hE : pikP p n = ([], 60) := by rw [pikP, hb]; rfl
    refine sq (h := ?_)
    refine rg (h := ?_)
    refine WL.y (hy := asg) (h := ?_)
    refine WL.y (hy := asg) (h := ?_)
    refine nl (h := ?_)
    refine q_seq (h := ?_)
    refine rtn (h := ?_)
    refine q_then_ret (h := ?_)
    refine q_ret (hR := ?_)
    rw [hE]
    exact fun w hS => ⟨(none, 0), trivial, rfl, many_nil (hS.sub (by repeat (first | exact SubL.nil | (apply SubL.cons; (repeat (first | exact At.here | apply At.there))) | exact SubL.refl _ | apply SubL.skip)))⟩
  · skip
    obtain ⟨hq, hb⟩ := chkP_ok h0
    refine skp (h := ?_)
    refine q_seq (h := ?_)
    refine sq (h := ?_)
    refine rg (h := ?_)
    refine WL.y (hy := (by first | exact ldA | exact ldEA)) (h := ?_)
    refine cl (hc := fun w hS => C_ref06_all p a hb (hN hb) w ⟨hS.get, hS.get, hpn, hln, hpc⟩) (h := fun x hx => ?_)
    have hxl : x.hs.length = (drawsV p).length := by rw [← List.length_map (f := fun h : Option Addr × Nat × List Int => h.2.2), hx, refAll, List.length_map]
    have hNb := hN hb
    rw [hxl]
    refine WL.y (hy := asg) (h := ?_)
    refine nl (h := ?_)
    refine q_seq (h := ?_)
    refine sq (h := ?_)
    refine sq (h := ?_)
    refine rg (h := ?_)
    refine WL.y (hy := mv) (h := ?_)
    refine WL.y (hy := mv) (h := ?_)
    refine WL.y (hy := lenS) (h := ?_)
    refine WL.y (hy := subI) (h := ?_)
    refine cl0 (hc := fun w hS => C_ref06_within _ _ _ w) (h := ?_)
    refine WL.y (hy := notB) (h := ?_)
    refine nl (h := ?_)
    refine q_seq (h := ?_)
    refine cd (by exact rfl) (fun h1 => ?_) (fun h1 => ?_)
    · skip
      have hE : pikP p n = ([], 1) := by
        have hw : win n 0 (((drawsV p).length : Int) - 1) = false := by simpa using h1
        have hw2 : ¬ (0 ≤ n ∧ n ≤ ((drawsV p).length : Int) - 1) := fun h => by rw [win_iff.2 h] at hw; cases hw
        rw [pikP, hb]
        by_cases h0 : n < 0
        · rw [decide_eq_true h0]; rfl
        · rw [decide_eq_false h0, pickL, List.getElem?_eq_none (by omega)]; rfl
      refine sq (h := ?_)
      refine rg (h := ?_)
      refine WL.y (hy := asg) (h := ?_)
      refine WL.y (hy := asg) (h := ?_)
      refine nl (h := ?_)
      refine q_seq (h := ?_)
      refine rtn (h := ?_)
      refine q_then_ret (h := ?_)
      refine q_ret (hR := ?_)
      rw [hE]
      exact fun w hS => ⟨(none, 0), trivial, rfl, many_nil (hS.sub (by repeat (first | exact SubL.nil | (apply SubL.cons; (repeat (first | exact At.here | apply At.there))) | exact SubL.refl _ | apply SubL.skip)))⟩
    · skip
      have hw := win_iff.1 (show win n 0 (((drawsV p).length : Int) - 1) = true by simpa using h1)
      obtain ⟨k, rfl⟩ : ∃ k : Nat, n = k := ⟨n.toNat, by omega⟩
      obtain ⟨g, hg, hgp⟩ := pick_at hx (k := k) (by omega)
      have hE : pikP p k = (g.2.2, 0) := by rw [pikP, hb, decide_eq_false (by omega), hgp]; rfl
      have hge := row_at hg
      refine skp (h := ?_)
      refine q_seq (h := ?_)
      refine sq (h := ?_)
      refine rg (h := ?_)
      refine WL.y (hy := mv) (h := ?_)
      refine WL.y (hy := mv) (h := ?_)
      refine WL.y (hy := ix (A := x.R) (m := (drawsV p).length)) (h := ?_)
      refine WL.y (hy := ldE (A := x.R) (hk := hge)) (h := ?_)
      refine WL.y (hy := asg) (h := ?_)
      refine WL.y (hy := asg) (h := ?_)
      refine nl (h := ?_)
      refine q_seq (h := ?_)
      refine rtn (h := ?_)
      refine q_ret (hR := ?_)
      rw [hE]
      exact fun w hS => ⟨(g.1, g.2.1), trivial, rfl, many_one (hS.sub (by repeat (first | exact SubL.nil | (apply SubL.cons; (repeat (first | exact At.here | apply At.there))) | exact SubL.refl _ | apply SubL.skip))) (row_mem hg)⟩
set_option maxRecDepth 100000 in
set_option maxHeartbeats 2000000 in
theorem C_ref06_Draw (p : Pl) (a : PA) (hz0 : -9223372036854775808 ≤ p.size ∧ p.size ≤ 9223372036854775807) (hN : pOk p = true → (drawsV p).length ≤ 300) (w : World) (h : PRd w p a) :
    CR Try.prog 30 [p.val a] w (fun _ : Option Addr × Nat => True) (fun x => .tuple #[.slice x.1 (drwP p).1.length x.2, .int .i64 (drwP p).2]) (fun x => [manyE true [⟨x.1, 1, (drwP p).1.length, enI (drwP p).1⟩]]) := by
  obtain ⟨hp, hl, hpn, hln, hpc⟩ := h
  refine ⟨en Try.func30 Try.ntmps30 (((St.init w).share (e := .ro a.pA 3 p.ps.length (encPs p.ps)) hp rfl rfl rfl).share (e := .ro a.lA 1 p.lots.length (enI p.lots)) hl rfl rfl rfl) (h := fun F => ?_)⟩
  refine sq (h := ?_)
  refine rg (h := ?_)
  refine bxA (h := fun b0 => ?_)
  refine WL.y (hy := asg) (h := ?_)
  refine WL.y (hy := asg) (h := ?_)
  refine nl (h := ?_)
  refine q_seq (h := ?_)
  refine sq (h := ?_)
  refine sq (h := ?_)
  refine rg (h := ?_)
  refine WL.y (hy := (by first | exact ldA | exact ldEA)) (h := ?_)
  refine cl0 (hc := fun w hS => C_ref06_Check p a hz0 w ⟨hS.get, hS.get, hpn, hln, hpc⟩) (h := ?_)
  refine WL.y (hy := neq) (h := ?_)
  refine nl (h := ?_)
  refine q_seq (h := ?_)
  refine cd (by exact rfl) (fun h0 => ?_) (fun h0 => ?_)
  · skip
    have hb := chkP_no h0
    have hE : drwP p = ([], 60) := by rw [drwP, hb]; rfl
    refine sq (h := ?_)
    refine rg (h := ?_)
    refine WL.y (hy := asg) (h := ?_)
    refine WL.y (hy := asg) (h := ?_)
    refine nl (h := ?_)
    refine q_seq (h := ?_)
    refine rtn (h := ?_)
    refine q_then_ret (h := ?_)
    refine q_ret (hR := ?_)
    rw [hE]
    exact fun w hS => ⟨(none, 0), trivial, rfl, many_nil (hS.sub (by repeat (first | exact SubL.nil | (apply SubL.cons; (repeat (first | exact At.here | apply At.there))) | exact SubL.refl _ | apply SubL.skip)))⟩
  · skip
    obtain ⟨hq, hb⟩ := chkP_ok h0
    have hll := hq.l
    have hlt := hq.lt
    have hsr := sumI_rng hlt
    refine skp (h := ?_)
    refine q_seq (h := ?_)
    refine sq (h := ?_)
    refine rg (h := ?_)
    refine WL.y (hy := (by first | exact ldA | exact ldEA)) (h := ?_)
    refine cl (hc := fun w hS => C_ref06_all p a hb (hN hb) w ⟨hS.get, hS.get, hpn, hln, hpc⟩) (h := fun x hx => ?_)
    have hxl : x.hs.length = (drawsV p).length := by rw [← List.length_map (f := fun h : Option Addr × Nat × List Int => h.2.2), hx, refAll, List.length_map]
    have hNb := hN hb
    rw [hxl]
    refine WL.y (hy := asg) (h := ?_)
    refine nl (h := ?_)
    refine q_seq (h := ?_)
    refine sq (h := ?_)
    refine sq (h := ?_)
    refine rg (h := ?_)
    refine WL.y (hy := mv) (h := ?_)
    refine WL.y (hy := lenS) (h := ?_)
    refine WL.y (hy := eql) (h := ?_)
    refine nl (h := ?_)
    refine q_seq (h := ?_)
    refine cd (by exact rfl) (fun h1 => ?_) (fun h1 => ?_)
    · skip
      have hE : drwP p = ([], 3) := by rw [drwP, hb, h1]; rfl
      refine sq (h := ?_)
      refine rg (h := ?_)
      refine WL.y (hy := asg) (h := ?_)
      refine WL.y (hy := asg) (h := ?_)
      refine nl (h := ?_)
      refine q_seq (h := ?_)
      refine rtn (h := ?_)
      refine q_then_ret (h := ?_)
      refine q_ret (hR := ?_)
      rw [hE]
      exact fun w hS => ⟨(none, 0), trivial, rfl, many_nil (hS.sub (by repeat (first | exact SubL.nil | (apply SubL.cons; (repeat (first | exact At.here | apply At.there))) | exact SubL.refl _ | apply SubL.skip)))⟩
    · skip
      have hN0 : 0 < (drawsV p).length := by have := of_decide_eq_false h1; omega
      have hnz : decide (((drawsV p).length : Int) = 0) = false := h1
      have hmd : 0 ≤ sumI p.lots % ((drawsV p).length : Int) ∧ sumI p.lots % ((drawsV p).length : Int) < (drawsV p).length := ⟨Int.emod_nonneg _ (by omega), Int.emod_lt_of_pos _ (by omega)⟩
      obtain ⟨k, hk⟩ : ∃ k : Nat, sumI p.lots % ((drawsV p).length : Int) = k := ⟨(sumI p.lots % ((drawsV p).length : Int)).toNat, by omega⟩
      obtain ⟨g, hg, hgp⟩ := pick_at hx (k := k) (by omega)
      have hE : drwP p = (g.2.2, 0) := by rw [drwP, hb, hnz, hk, hgp]; rfl
      have hge : (rowsV x.hs)[(sumI p.lots % ((drawsV p).length : Int)).toNat]? = some [.slice g.1 g.2.2.length g.2.1] := by rw [hk, Int.toNat_natCast]; exact row_at hg
      refine skp (h := ?_)
      refine q_seq (h := ?_)
      refine sq (h := ?_)
      refine rg (h := ?_)
      refine WL.y (hy := asg) (h := ?_)
      refine nl (h := ?_)
      refine q_seq (h := ?_)
      refine sq (h := ?_)
      refine sq (h := ?_)
      refine rg (h := ?_)
      refine WL.y (hy := asg) (h := ?_)
      refine nl (h := ?_)
      refine q_seq (h := ?_)
      refine bk (h := ?_)
      refine lp (X := IZA) (I := fun z => z.k ≤ p.lots.length) (le := fun z => [(1, .pointer (some ⟨b0, 0, none⟩)), (4, .slice x.R (drawsV p).length x.rc), (5, .int .i64 (sumI (p.lots.take z.k))), (6, .int .i64 z.k)]) (Le := fun _ => .own x.R x.rc 23 1 (drawsV p).length (rowsV x.hs) :: manyE true (rowsE x.hs) :: plL p a b0) (μ := fun z => p.lots.length - z.k) ⟨0⟩ (Nat.zero_le _) (by repeat (first | exact trivial | refine ⟨rfl, ?_⟩)) (by repeat (first | exact SubL.nil | (apply SubL.cons; (repeat (first | exact At.here | apply At.there))) | exact SubL.refl _ | apply SubL.skip)) (fun z hz => ?_)
      refine sq (h := ?_)
      refine sq (h := ?_)
      refine rg (h := ?_)
      refine WL.y (hy := mv) (h := ?_)
      refine WL.y (hy := (by first | exact fa | exact faE)) (h := ?_)
      refine WL.y (hy := (by first | exact ld | exact ldE)) (h := ?_)
      refine WL.y (hy := lenS) (h := ?_)
      refine WL.y (hy := lss) (h := ?_)
      refine nl (h := ?_)
      refine q_seq (h := ?_)
      refine cd (by exact rfl) (fun h2 => ?_) (fun h2 => ?_)
      · skip
        have hkn : z.k < p.lots.length := by simp only [decide_eq_true_eq] at h2; omega
        obtain ⟨v, hv⟩ : ∃ v, p.lots[z.k]? = some v := ⟨_, List.getElem?_eq_getElem hkn⟩
        have hve := enI_at hv
        have hst := sumI_take hv
        have hvr := hlt v (List.mem_of_getElem? hv)
        have hsk := sumI_rng (xs := p.lots.take z.k) (fun n hn => hlt n (List.mem_of_mem_take hn))
        rw [List.length_take] at hsk
        refine skp (h := ?_)
        refine q_seq (h := ?_)
        refine sq (h := ?_)
        refine bk (h := ?_)
        refine rg (h := ?_)
        refine WL.y (hy := mv) (h := ?_)
        refine WL.y (hy := (by first | exact fa | exact faE)) (h := ?_)
        refine WL.y (hy := (by first | exact ld | exact ldE)) (h := ?_)
        refine WL.y (hy := mv) (h := ?_)
        refine WL.y (hy := ix (A := a.lA) (m := p.lots.length)) (h := ?_)
        refine WL.y (hy := ldE (A := a.lA) (hk := hve)) (h := ?_)
        refine WL.y (hy := addI) (h := ?_)
        refine WL.y (hy := asg) (h := ?_)
        refine nl (h := ?_)
        refine q_blk_norm (h := ?_)
        refine q_seq (h := ?_)
        refine rg (h := ?_)
        refine WL.y (hy := mv) (h := ?_)
        refine WL.y (hy := addI) (h := ?_)
        refine WL.y (hy := asg) (h := ?_)
        refine nl (h := ?_)
        refine rn (x := z) ⟨z.k + 1⟩ (by dsimp only; omega) (by dsimp only; omega) (by dsimp only; rw [hst]; repeat (first | exact trivial | refine ⟨rfl, ?_⟩)) (by repeat (first | exact SubL.nil | (apply SubL.cons; (repeat (first | exact At.here | apply At.there))) | exact SubL.refl _ | apply SubL.skip))
      · skip
        have hkn : z.k = p.lots.length := by simp only [decide_eq_false_iff_not] at h2; omega
        rw [hkn, List.take_length]
        refine et (h := ?_)
        refine q_then_exit (h := ?_)
        refine q_then_exit (h := ?_)
        refine q_blk_hit (h := ?_)
        refine q_seq (h := ?_)
        refine sq (h := ?_)
        refine rg (h := ?_)
        refine WL.y (hy := mv) (h := ?_)
        refine WL.y (hy := mv) (h := ?_)
        refine WL.y (hy := mv) (h := ?_)
        refine WL.y (hy := lenS) (h := ?_)
        refine WL.y (hy := remI) (h := ?_)
        refine WL.y (hy := ix (A := x.R) (m := (drawsV p).length)) (h := ?_)
        refine WL.y (hy := ldE (A := x.R) (hk := hge)) (h := ?_)
        refine WL.y (hy := asg) (h := ?_)
        refine WL.y (hy := asg) (h := ?_)
        refine nl (h := ?_)
        refine q_seq (h := ?_)
        refine rtn (h := ?_)
        refine q_ret (hR := ?_)
        rw [hE]
        exact fun w hS => ⟨(g.1, g.2.1), trivial, rfl, many_one (hS.sub (by repeat (first | exact SubL.nil | (apply SubL.cons; (repeat (first | exact At.here | apply At.there))) | exact SubL.refl _ | apply SubL.skip))) (row_mem hg)⟩
theorem C_ref06_same (xs ys : List Int) (A B : Option Addr) (n c m d : Nat) (w : World) (h : Rd w A 1 n (enI xs)) (h' : Rd w B 1 m (enI ys)) (hn : n ≤ 9223372036854775807) (hm : m ≤ 9223372036854775807) :
    C0 Try.prog 53 [.slice A n c, .slice B m d] w (.bool (decide (xs = ys))) := by
  have hlx : xs.length = n := by have := h.len; rwa [enI_len] at this
  have hly : ys.length = m := by have := h'.len; rwa [enI_len] at this
  refine ⟨en Try.func53 Try.ntmps53 (((St.init w).share (e := .ro A 1 n (enI xs)) h rfl rfl rfl).share (e := .ro B 1 m (enI ys)) h' rfl rfl rfl) (h := fun F => ?_)⟩
  refine sq (h := ?_)
  refine rg (h := ?_)
  refine WL.y (hy := asg) (h := ?_)
  refine nl (h := ?_)
  refine q_seq (h := ?_)
  refine sq (h := ?_)
  refine sq (h := ?_)
  refine rg (h := ?_)
  refine WL.y (hy := asg) (h := ?_)
  refine nl (h := ?_)
  refine q_seq (h := ?_)
  refine bk (h := ?_)
  refine lp (X := IZA) (I := fun z => (z.k ≤ n ∧ z.k ≤ m) ∧ xs.take z.k = ys.take z.k) (le := fun z => [(0, .slice A n c), (1, .slice B m d), (5, .int .i64 z.k)]) (Le := fun _ => [.ro A 1 n (enI xs), .ro B 1 m (enI ys)]) (μ := fun z => n - z.k) ⟨0⟩ ⟨⟨Nat.zero_le _, Nat.zero_le _⟩, rfl⟩ (by repeat (first | exact trivial | refine ⟨rfl, ?_⟩)) (by repeat (first | exact SubL.nil | (apply SubL.cons; (repeat (first | exact At.here | apply At.there))) | exact SubL.refl _ | apply SubL.skip)) (fun z hz => ?_)
  obtain ⟨hz1, hz2⟩ := hz
  refine sq (h := ?_)
  refine sq (h := ?_)
  refine rg (h := ?_)
  refine WL.y (hy := mv) (h := ?_)
  refine WL.y (hy := mv) (h := ?_)
  refine WL.y (hy := lenS) (h := ?_)
  refine WL.y (hy := lss) (h := ?_)
  refine WL.y (hy := mv) (h := ?_)
  apply brAnd 5 10 15 (by exact rfl)
  · intro hb0
    refine un (h := ?_)
    refine WL.y (hy := mv) (h := ?_)
    refine un (h := ?_)
    refine WL.y (hy := mv) (h := ?_)
    refine un (h := ?_)
    refine WL.y (hy := lenS) (h := ?_)
    refine un (h := ?_)
    refine WL.y (hy := lss) (h := ?_)
    refine WL.y (hy := (by first | exact pkT | exact pkF)) (h := ?_)
    exact mg (by repeat (first | exact trivial | refine ⟨rfl, ?_⟩ | refine ⟨by rw [hb0]; rfl, ?_⟩)) (by repeat (first | exact SubL.nil | (apply SubL.cons; (repeat (first | exact At.here | apply At.there))) | exact SubL.refl _ | apply SubL.skip))
  · intro hb0
    repeat (first | refine un (h := ?_) | refine sk (h := ?_) | refine WL.y (hy := pkF) (h := ?_) | refine WL.y (hy := pkT) (h := ?_))
    exact mg (by repeat (first | exact trivial | refine ⟨rfl, ?_⟩ | refine ⟨by rw [hb0]; rfl, ?_⟩)) (by repeat (first | exact SubL.nil | (apply SubL.cons; (repeat (first | exact At.here | apply At.there))) | exact SubL.refl _ | apply SubL.skip))
  refine nl (h := ?_)
  refine q_seq (h := ?_)
  refine cd (by exact rfl) (fun h1 => ?_) (fun h1 => ?_)
  · skip
    have hg := h1
    simp only [Bool.and_eq_true, decide_eq_true_eq] at hg
    have hkn : z.k < n ∧ z.k < m := by omega
    have hx1 := getD_some (l := xs) (k := z.k) (by omega)
    have hy1 := getD_some (l := ys) (k := z.k) (by omega)
    have hxe := enI_at hx1
    have hye := enI_at hy1
    refine skp (h := ?_)
    refine q_seq (h := ?_)
    refine sq (h := ?_)
    refine bk (h := ?_)
    refine sq (h := ?_)
    refine rgD0 (by kernel_rfl) (h := ?_)
    refine tk 0 (hy := mv) (h := ?_)
    refine tk 1 (hy := mv) (h := ?_)
    refine tk 2 (hy := ix (A := A) (m := n)) (h := ?_)
    refine tk 3 (hy := ldE (A := A) (hk := hxe)) (h := ?_)
    refine tk 4 (hy := mv) (h := ?_)
    refine tk 5 (hy := mv) (h := ?_)
    refine tk 6 (hy := ix (A := B) (m := m)) (h := ?_)
    refine tk 7 (hy := ldE (A := B) (hk := hye)) (h := ?_)
    refine tk 8 (hy := neq) (h := ?_)
    refine dn (h := ?_)
    refine q_seq (h := ?_)
    refine cd (by exact rfl) (fun h2 => ?_) (fun h2 => ?_)
    · skip
      have hne : xs.getD z.k 0 ≠ ys.getD z.k 0 := by simpa using h2
      have hE : decide (xs = ys) = false := decide_eq_false (by rintro rfl; exact hne rfl)
      refine sq (h := ?_)
      refine rg (h := ?_)
      refine WL.y (hy := asg) (h := ?_)
      refine nl (h := ?_)
      refine q_seq (h := ?_)
      refine rtn (h := ?_)
      refine q_blk_ret (h := ?_)
      refine q_then_ret (h := ?_)
      refine q_then_ret (h := ?_)
      refine q_blk_ret (h := ?_)
      refine q_then_ret (h := ?_)
      refine q_ret (hR := ?_)
      rw [hE]
      exact fun w hS => ⟨rfl, hS.sub (by repeat (first | exact SubL.nil | (apply SubL.cons; (repeat (first | exact At.here | apply At.there))) | exact SubL.refl _ | apply SubL.skip))⟩
    · skip
      have hxy : xs.getD z.k 0 = ys.getD z.k 0 := by simpa using h2
      refine skp (h := ?_)
      refine q_blk_norm (h := ?_)
      refine q_seq (h := ?_)
      refine rg (h := ?_)
      refine WL.y (hy := mv) (h := ?_)
      refine WL.y (hy := addI) (h := ?_)
      refine WL.y (hy := asg) (h := ?_)
      refine nl (h := ?_)
      refine rn (x := z) ⟨z.k + 1⟩ ⟨by dsimp only; omega, by dsimp only; rw [List.take_add_one, List.take_add_one, hx1, hy1, hz2, hxy]⟩ (by dsimp only; omega) (by repeat (first | exact trivial | refine ⟨rfl, ?_⟩)) (by repeat (first | exact SubL.nil | (apply SubL.cons; (repeat (first | exact At.here | apply At.there))) | exact SubL.refl _ | apply SubL.skip))
  · skip
    have hfin : ¬ (z.k < n ∧ z.k < m) := by
      have hg := h1
      simp only [Bool.and_eq_false_iff, decide_eq_false_iff_not] at hg
      omega
    have hE : decide (xs = ys) = decide ((n : Int) = m) := by
      refine decide_eq_decide.2 ⟨fun e => ?_, fun e => ?_⟩
      · subst e; omega
      · have hmn : n = m := by omega
        subst hmn
        rwa [List.take_of_length_le (by omega), List.take_of_length_le (by omega)] at hz2
    refine et (h := ?_)
    refine q_then_exit (h := ?_)
    refine q_then_exit (h := ?_)
    refine q_blk_hit (h := ?_)
    refine q_seq (h := ?_)
    refine sq (h := ?_)
    refine rg (h := ?_)
    refine WL.y (hy := mv) (h := ?_)
    refine WL.y (hy := lenS) (h := ?_)
    refine WL.y (hy := mv) (h := ?_)
    refine WL.y (hy := lenS) (h := ?_)
    refine WL.y (hy := eql) (h := ?_)
    refine WL.y (hy := asg) (h := ?_)
    refine nl (h := ?_)
    refine q_seq (h := ?_)
    refine rtn (h := ?_)
    refine q_ret (hR := ?_)
    rw [hE]
    exact fun w hS => ⟨rfl, hS.sub (by repeat (first | exact SubL.nil | (apply SubL.cons; (repeat (first | exact At.here | apply At.there))) | exact SubL.refl _ | apply SubL.skip))⟩
/-! #### Index -/
theorem num_ply {p : Pl} {y : Int} (h : ShP p y) : plyV p (numV p y) = y := by
  rcases h with rfl | ⟨h1, h2⟩
  · rfl
  · obtain ⟨x, hx, hxe⟩ := per_player h2
    have hn : perI p y ≠ -1 := by omega
    rw [numV, decide_eq_false h1]
    simp only [cond_false]
    rw [plyV, decide_eq_false hn]
    simp only [cond_false, psAt, hx]
    exact hxe
theorem idx_ref {p : Pl} {sheet : List Int} (hb : pOk p = true) (hs : isShV p sheet = true) {hs' : List (Option Addr × Nat × List Int)} (hx : hs'.map (·.2.2) = refAll p) {k : Nat} {h : Option Addr × Nat × List Int} (hk : hs'[k]? = some h) : pAt (drawsV p) (fun l => decide (l = sheet.map (numV p))) k = decide (h.2.2 = sheet) := by
  have hq := p_ok hb
  have hsh := sh_ok hb hs
  have h1 : (hs'.map (·.2.2))[k]? = some h.2.2 := by rw [List.getElem?_map, hk]; rfl
  rw [hx, refAll, List.getElem?_map] at h1
  obtain ⟨v, hv, hve⟩ := Option.map_eq_some_iff.1 h1
  rw [pAt_eq hv]
  have hvm := draws_mem hq (List.mem_of_getElem? hv)
  refine decide_eq_decide.2 ⟨fun e => ?_, fun e => ?_⟩
  · rw [← hve, e, List.map_map]
    conv => rhs; rw [← List.map_id sheet]
    exact List.map_congr_left fun y hy => num_ply (hsh.sh y hy)
  · rw [← e, ← hve, map_num hq hvm.2]
set_option maxHeartbeats 2000000 in
theorem C_ref06_Index (p : Pl) (a : PA) (hz0 : -9223372036854775808 ≤ p.size ∧ p.size ≤ 9223372036854775807) (hN : pOk p = true → (drawsV p).length ≤ 300) (sheet : List Int) (sA : Option Addr) (sc : Nat) (hsn : sheet.length ≤ 1000) (hsc : sheet.length ≤ sc) (w : World) (h : PRd w p a) (hs : Rd w sA 1 sheet.length (enI sheet)) :
    C0 Try.prog 20 [p.val a, .slice sA sheet.length sc] w (.tuple #[.int .i64 (idxP p sheet).1, .int .i64 (idxP p sheet).2]) := by
  obtain ⟨hp, hl, hpn, hln, hpc⟩ := h
  refine ⟨en Try.func20 Try.ntmps20 ((((St.init w).share (e := .ro a.pA 3 p.ps.length (encPs p.ps)) hp rfl rfl rfl).share (e := .ro a.lA 1 p.lots.length (enI p.lots)) hl rfl rfl rfl).share (e := .ro sA 1 sheet.length (enI sheet)) hs rfl rfl rfl) (h := fun F => ?_)⟩
  refine sq (h := ?_)
  refine rg (h := ?_)
  refine bxA (h := fun b0 => ?_)
  refine WL.y (hy := asg) (h := ?_)
  refine WL.y (hy := asg) (h := ?_)
  refine nl (h := ?_)
  refine q_seq (h := ?_)
  refine sq (h := ?_)
  refine sq (h := ?_)
  refine rg (h := ?_)
  refine WL.y (hy := (by first | exact ldA | exact ldEA)) (h := ?_)
  refine WL.y (hy := mv) (h := ?_)
  refine cl0 (hc := fun w hS => C_CheckSheet p a hz0 sheet sA sc hsn hsc w ⟨hS.get, hS.get, hpn, hln, hpc⟩ hS.get) (h := ?_)
  refine WL.y (hy := asg) (h := ?_)
  refine nl (h := ?_)
  refine q_seq (h := ?_)
  refine sq (h := ?_)
  refine rg (h := ?_)
  refine WL.y (hy := mv) (h := ?_)
  refine WL.y (hy := neq) (h := ?_)
  refine nl (h := ?_)
  refine q_seq (h := ?_)
  refine cd (by exact rfl) (fun h0 => ?_) (fun h0 => ?_)
  · skip
    have hc : ¬ chS p sheet = 0 := by simpa using h0
    have hE : idxP p sheet = (0, chS p sheet) := by rw [idxP, chV_snd, decide_eq_false hc]; rfl
    refine sq (h := ?_)
    refine rg (h := ?_)
    refine WL.y (hy := mv) (h := ?_)
    refine WL.y (hy := asg) (h := ?_)
    refine WL.y (hy := asg) (h := ?_)
    refine nl (h := ?_)
    refine q_seq (h := ?_)
    refine rtn (h := ?_)
    refine q_then_ret (h := ?_)
    refine q_ret (hR := ?_)
    rw [hE]
    exact fun w hS => ⟨rfl, hS.sub (by repeat (first | exact SubL.nil | (apply SubL.cons; (repeat (first | exact At.here | apply At.there))) | exact SubL.refl _ | apply SubL.skip))⟩
  · skip
    have hc : chS p sheet = 0 := by simpa using h0
    obtain ⟨hb, hs2, hcv⟩ := chS_ok hc
    refine skp (h := ?_)
    refine q_seq (h := ?_)
    refine sq (h := ?_)
    refine rg (h := ?_)
    refine WL.y (hy := (by first | exact ldA | exact ldEA)) (h := ?_)
    refine cl (hc := fun w hS => C_ref06_all p a hb (hN hb) w ⟨hS.get, hS.get, hpn, hln, hpc⟩) (h := fun x hx => ?_)
    have hxl : x.hs.length = (drawsV p).length := by rw [← List.length_map (f := fun h : Option Addr × Nat × List Int => h.2.2), hx, refAll, List.length_map]
    have hNb := hN hb
    rw [hxl]
    refine WL.y (hy := asg) (h := ?_)
    refine nl (h := ?_)
    refine q_seq (h := ?_)
    refine sq (h := ?_)
    refine sq (h := ?_)
    refine rg (h := ?_)
    refine WL.y (hy := asg) (h := ?_)
    refine nl (h := ?_)
    refine q_seq (h := ?_)
    refine bk (h := ?_)
    refine lp (X := IZA) (I := fun z => z.k ≤ (drawsV p).length ∧ ∀ i, i < z.k → pAt (drawsV p) (fun l => decide (l = sheet.map (numV p))) i = false) (le := fun z => [(1, .slice sA sheet.length sc), (7, .slice x.R (drawsV p).length x.rc), (8, .int .i64 z.k)]) (Le := fun _ => [.own x.R x.rc 23 1 (drawsV p).length (rowsV x.hs), manyE true (rowsE x.hs), .ro sA 1 sheet.length (enI sheet)]) (μ := fun z => (drawsV p).length - z.k) ⟨0⟩ ⟨Nat.zero_le _, fun i hi => by cases hi⟩ (by repeat (first | exact trivial | refine ⟨rfl, ?_⟩)) (by repeat (first | exact SubL.nil | (apply SubL.cons; (repeat (first | exact At.here | apply At.there))) | exact SubL.refl _ | apply SubL.skip)) (fun z hz => ?_)
    obtain ⟨hz1, hz2⟩ := hz
    refine sq (h := ?_)
    refine sq (h := ?_)
    refine rg (h := ?_)
    refine WL.y (hy := mv) (h := ?_)
    refine WL.y (hy := mv) (h := ?_)
    refine WL.y (hy := lenS) (h := ?_)
    refine WL.y (hy := lss) (h := ?_)
    refine nl (h := ?_)
    refine q_seq (h := ?_)
    refine cd (by exact rfl) (fun h1 => ?_) (fun h1 => ?_)
    · skip
      have hkn : z.k < (drawsV p).length := by simp only [decide_eq_true_eq] at h1; omega
      obtain ⟨g, hg⟩ : ∃ g, x.hs[z.k]? = some g := ⟨_, List.getElem?_eq_getElem (by omega)⟩
      have hge := row_at hg
      have hir := idx_ref hb hs2 hx hg
      have hgl : g.2.2.length = p.size.toNat := by
        have h1 : (x.hs.map (·.2.2))[z.k]? = some g.2.2 := by rw [List.getElem?_map, hg]; rfl
        rw [hx, refAll, List.getElem?_map] at h1
        obtain ⟨v, hv, hve⟩ := Option.map_eq_some_iff.1 h1
        rw [← hve, List.length_map]
        exact (draws_mem (p_ok hb) (List.mem_of_getElem? hv)).1
      have hz := (p_ok hb).z
      refine skp (h := ?_)
      refine q_seq (h := ?_)
      refine sq (h := ?_)
      refine bk (h := ?_)
      refine sq (h := ?_)
      refine rg (h := ?_)
      refine WL.y (hy := mv) (h := ?_)
      refine WL.y (hy := mv) (h := ?_)
      refine WL.y (hy := ix (A := x.R) (m := (drawsV p).length)) (h := ?_)
      refine WL.y (hy := ldE (A := x.R) (hk := hge)) (h := ?_)
      refine WL.y (hy := mv) (h := ?_)
      refine cl0 (hc := fun w hS => C_ref06_same g.2.2 sheet g.1 sA g.2.2.length g.2.1 sheet.length sc w (hS.many (by repeat (first | exact At.here | apply At.there)) (row_mem hg)) (hS.get (by repeat (first | exact Rds.ro | apply Rds.there))) (by omega) (by omega)) (h := ?_)
      refine nl (h := ?_)
      refine q_seq (h := ?_)
      refine cd (by exact rfl) (fun h2 => ?_) (fun h2 => ?_)
      · skip
        have hix : idxL p (chV p sheet).1 = z.k := by rw [hcv]; exact (idxF_spec _ _).uniq (.inl ⟨z.k, hkn, rfl, by rw [hir]; exact h2, hz2⟩)
        have hE : idxP p sheet = ((z.k : Int), 0) := by rw [idxP, chV_snd, hc, hix, decide_eq_true (p := (0 : Int) ≤ z.k) (by omega)]; rfl
        refine sq (h := ?_)
        refine rg (h := ?_)
        refine WL.y (hy := mv) (h := ?_)
        refine WL.y (hy := asg) (h := ?_)
        refine WL.y (hy := asg) (h := ?_)
        refine nl (h := ?_)
        refine q_seq (h := ?_)
        refine rtn (h := ?_)
        refine q_blk_ret (h := ?_)
        refine q_then_ret (h := ?_)
        refine q_then_ret (h := ?_)
        refine q_blk_ret (h := ?_)
        refine q_then_ret (h := ?_)
        refine q_ret (hR := ?_)
        rw [hE]
        exact fun w hS => ⟨rfl, hS.sub (by repeat (first | exact SubL.nil | (apply SubL.cons; (repeat (first | exact At.here | apply At.there))) | exact SubL.refl _ | apply SubL.skip))⟩
      · skip
        have hno : pAt (drawsV p) (fun l => decide (l = sheet.map (numV p))) z.k = false := by rw [hir]; exact h2
        refine skp (h := ?_)
        refine q_blk_norm (h := ?_)
        refine q_seq (h := ?_)
        refine rg (h := ?_)
        refine WL.y (hy := mv) (h := ?_)
        refine WL.y (hy := addI) (h := ?_)
        refine WL.y (hy := asg) (h := ?_)
        refine nl (h := ?_)
        refine rn (x := z) ⟨z.k + 1⟩ ⟨by dsimp only; omega, fun i hi => by
          rcases Nat.lt_succ_iff_lt_or_eq.1 hi with h | rfl
          · exact hz2 i h
          · exact hno⟩ (by dsimp only; omega) (by repeat (first | exact trivial | refine ⟨rfl, ?_⟩)) (by repeat (first | exact SubL.nil | (apply SubL.cons; (repeat (first | exact At.here | apply At.there))) | exact SubL.refl _ | apply SubL.skip))
    · skip
      have hkn : z.k = (drawsV p).length := by simp only [decide_eq_false_iff_not] at h1; omega
      have hix : idxL p (chV p sheet).1 = -1 := by rw [hcv]; exact (idxF_spec _ _).uniq (.inr ⟨rfl, by rw [← hkn]; exact hz2⟩)
      have hE : idxP p sheet = (0, 3) := by rw [idxP, chV_snd, hc, hix]; rfl
      refine et (h := ?_)
      refine q_then_exit (h := ?_)
      refine q_then_exit (h := ?_)
      refine q_blk_hit (h := ?_)
      refine q_seq (h := ?_)
      refine sq (h := ?_)
      refine rg (h := ?_)
      refine WL.y (hy := asg) (h := ?_)
      refine WL.y (hy := asg) (h := ?_)
      refine nl (h := ?_)
      refine q_seq (h := ?_)
      refine rtn (h := ?_)
      refine q_ret (hR := ?_)
      rw [hE]
      exact fun w hS => ⟨rfl, hS.sub (by repeat (first | exact SubL.nil | (apply SubL.cons; (repeat (first | exact At.here | apply At.there))) | exact SubL.refl _ | apply SubL.skip))⟩
end Go.Proofs.Ytjkoaifjmcgpfaa
