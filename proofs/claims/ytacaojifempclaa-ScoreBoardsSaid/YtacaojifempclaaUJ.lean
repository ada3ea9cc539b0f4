/- Walks of score: Arises of both; from of the document. -/
import Derived.Test.YtacaojifempclaaUI
namespace Go.Proofs.Ytacaojifempclaa
open Go Go.RowKit

def arisesR (f : Fmt) (b : Brd) : List Value := bif !decide (chkF f = 0) then [.bool false, .int .i64 (chkF f)] else bif !brdOk b then [.bool false, .int .i64 12] else [.bool (arisesV f b).2, .int .i64 0]
set_option maxRecDepth 100000 in
theorem C_score_Arises (f : Fmt) (b : Brd) (A : Option Addr) (n c : Nat) (w : World) (h : Rd w A 2 n (encP b.st)) (hn : n ≤ 9223372036854775807) : C0 Try.prog 11 [f.val, b.val A n c] w (.tuple (arisesR f b).toArray) := by
  have hlen : b.st.length = n := by have := h.len; simpa [encP] using this
  refine ⟨en Try.func11 Try.ntmps11 ((St.init w).share (e := .ro A 2 n (encP b.st)) h rfl rfl rfl) (h := fun F => ?_)⟩
  refine sq (h := ?_)
  refine rg (h := ?_)
  refine bxA (h := fun b0 => ?_)
  refine bxA (h := fun b1 => ?_)
  refine WL.y (hy := asg) (h := ?_)
  refine WL.y (hy := asg) (h := ?_)
  refine nl (h := ?_)
  refine q_seq (h := ?_)
  refine sq (h := ?_)
  refine sq (h := ?_)
  refine rg (h := ?_)
  refine WL.y (hy := (by first | exact ldA | exact ldEA)) (h := ?_)
  refine cl0 (hc := fun w hS => C_score_Check _ w) (h := ?_)
  refine WL.y (hy := asg) (h := ?_)
  refine nl (h := ?_)
  refine q_seq (h := ?_)
  refine sq (h := ?_)
  refine rg (h := ?_)
  refine WL.y (hy := mv) (h := ?_)
  refine WL.y (hy := neq) (h := ?_)
  refine nl (h := ?_)
  refine q_seq (h := ?_)
  refine cd (by exact rfl) (fun h0 => ?_) (fun h0 => ?_)
  · skip
    refine sq (h := ?_)
    refine rg (h := ?_)
    refine WL.y (hy := mv) (h := ?_)
    refine WL.y (hy := asg) (h := ?_)
    refine WL.y (hy := asg) (h := ?_)
    refine nl (h := ?_)
    refine q_seq (h := ?_)
    refine rtn (h := ?_)
    refine q_then_ret (h := ?_)
    refine q_ret (hR := ?_)
    exact fun w hS => ⟨cdT' (fun x : List Value => Ending.returned (Value.tuple x.toArray)) h0, hS.sub (by repeat (first | exact SubL.nil | (apply SubL.cons; (repeat (first | exact At.here | apply At.there))) | exact SubL.refl _ | apply SubL.skip))⟩
  · skip
    have hf := chkF_ok h0
    refine skp (h := ?_)
    refine q_seq (h := ?_)
    refine sq (h := ?_)
    refine sq (h := ?_)
    refine rg (h := ?_)
    refine WL.y (hy := (by first | exact ldA | exact ldEA)) (h := ?_)
    refine cl0 (hc := fun w hS => C_isBoard _ _ _ _ w (hS.get (by repeat (first | exact Rds.ro | exact Rds.own | apply Rds.there))) (by omega)) (h := ?_)
    refine WL.y (hy := notB) (h := ?_)
    refine nl (h := ?_)
    refine q_seq (h := ?_)
    refine cd (by exact rfl) (fun h1 => ?_) (fun h1 => ?_)
    · skip
      refine sq (h := ?_)
      refine rg (h := ?_)
      refine WL.y (hy := asg) (h := ?_)
      refine WL.y (hy := asg) (h := ?_)
      refine nl (h := ?_)
      refine q_seq (h := ?_)
      refine rtn (h := ?_)
      refine q_then_ret (h := ?_)
      refine q_ret (hR := ?_)
      exact fun w hS => ⟨(cdT' (fun x : List Value => Ending.returned (Value.tuple x.toArray)) h1).trans (cdF' (fun x : List Value => Ending.returned (Value.tuple x.toArray)) h0), hS.sub (by repeat (first | exact SubL.nil | (apply SubL.cons; (repeat (first | exact At.here | apply At.there))) | exact SubL.refl _ | apply SubL.skip))⟩
    · skip
      have hbo : brdOk b = true := by simpa using h1
      have hbl := brd_len hbo
      have hbp := brd_fit hbo b.p (by simp [Brd.all])
      refine skp (h := ?_)
      refine q_seq (h := ?_)
      refine sq (h := ?_)
      refine rg (h := ?_)
      refine WL.y (hy := (by first | exact ldA | exact ldEA)) (h := ?_)
      refine WL.y (hy := bd) (h := ?_)
      refine WL.y (hy := (by first | exact ldA | exact ldEA)) (h := ?_)
      refine cl0 (hc := fun w hS => C_rules_arises f b hf (by omega) A n c w (hS.get (by repeat (first | exact Rds.ro | exact Rds.own | apply Rds.there))) (by omega)) (h := ?_)
      refine WL.y (hy := mv) (h := ?_)
      refine WL.y (hy := ex) (h := ?_)
      refine WL.y (hy := ex) (h := ?_)
      refine al (h := fun b2 => ?_)
      first | refine stA (h := ?_) | refine stEA (h := ?_)
      refine WL.y (hy := asg) (h := ?_)
      refine nl (h := ?_)
      refine q_seq (h := ?_)
      refine sq (h := ?_)
      refine rg (h := ?_)
      refine WL.y (hy := mv) (h := ?_)
      refine WL.y (hy := asg) (h := ?_)
      refine WL.y (hy := asg) (h := ?_)
      refine nl (h := ?_)
      refine q_seq (h := ?_)
      refine rtn (h := ?_)
      refine q_ret (hR := ?_)
      exact fun w hS => ⟨(cdF' (fun x : List Value => Ending.returned (Value.tuple x.toArray)) h1).trans (cdF' (fun x : List Value => Ending.returned (Value.tuple x.toArray)) h0), hS.sub (by repeat (first | exact SubL.nil | (apply SubL.cons; (repeat (first | exact At.here | apply At.there))) | exact SubL.refl _ | apply SubL.skip))⟩
theorem chk_val (f : Fmt) : chkF f = 0 ∨ chkF f = 10 := by
  unfold chkF
  cases fmtOk f
  · exact .inr rfl
  · exact .inl rfl
theorem chk_bad {f : Fmt} (h : (!decide (chkF f = 0)) = true) : chkF f = 10 := by
  rcases chk_val f with e | e
  · rw [e] at h; cases h
  · exact e
set_option maxRecDepth 100000 in
theorem C_ref1_Arises' (f : Fmt) (b : Brd) (A : Option Addr) (n c : Nat) (hc : n ≤ c) (w : World) (h : Rd w A 2 n (encP b.st)) (hn : n ≤ 1000) (r : Bool) (hr : (arisesV f b).2 = r) : C0 Try.prog 12 [f.val, b.val A n c] w (.tuple (bif !decide (chkF f = 0) then [.bool false, .int .i64 (chkF f)] else bif !brdOk b then [.bool false, .int .i64 12] else [.bool r, .int .i64 0] : List Value).toArray) := by
  have hlen : b.st.length = n := by have := h.len; simpa [encP] using this
  refine ⟨en Try.func12 Try.ntmps12 ((St.init w).share (e := .ro A 2 n (encP b.st)) h rfl rfl rfl) (h := fun F => ?_)⟩
  refine sq (h := ?_)
  refine rg (h := ?_)
  refine bxA (h := fun b0 => ?_)
  refine bxA (h := fun b1 => ?_)
  refine WL.y (hy := asg) (h := ?_)
  refine WL.y (hy := asg) (h := ?_)
  refine nl (h := ?_)
  refine q_seq (h := ?_)
  refine sq (h := ?_)
  refine sq (h := ?_)
  refine rg (h := ?_)
  refine WL.y (hy := (by first | exact ldA | exact ldEA)) (h := ?_)
  refine cl0 (hc := fun w hS => C_ref1_Check _ w) (h := ?_)
  refine WL.y (hy := neq) (h := ?_)
  refine nl (h := ?_)
  refine q_seq (h := ?_)
  refine cd (by exact rfl) (fun h0 => ?_) (fun h0 => ?_)
  · skip
    have hck := h0
    refine sq (h := ?_)
    refine rg (h := ?_)
    refine WL.y (hy := asg) (h := ?_)
    refine WL.y (hy := asg) (h := ?_)
    refine nl (h := ?_)
    refine q_seq (h := ?_)
    refine rtn (h := ?_)
    refine q_then_ret (h := ?_)
    refine q_ret (hR := ?_)
    exact fun w hS => ⟨by rw [chk_bad hck]; rfl, hS.sub (by repeat (first | exact SubL.nil | (apply SubL.cons; (repeat (first | exact At.here | apply At.there))) | exact SubL.refl _ | apply SubL.skip))⟩
  · skip
    have hf := chkF_ok h0
    refine skp (h := ?_)
    refine q_seq (h := ?_)
    refine sq (h := ?_)
    refine sq (h := ?_)
    refine rg (h := ?_)
    refine WL.y (hy := (by first | exact ldA | exact ldEA)) (h := ?_)
    refine cl0 (hc := fun w hS => C_ref1_isBoard b A n c w (hS.get (by repeat (first | exact Rds.ro | exact Rds.own | apply Rds.there))) hn) (h := ?_)
    refine WL.y (hy := notB) (h := ?_)
    refine nl (h := ?_)
    refine q_seq (h := ?_)
    refine cd (by exact rfl) (fun h1 => ?_) (fun h1 => ?_)
    · skip
      refine sq (h := ?_)
      refine rg (h := ?_)
      refine WL.y (hy := asg) (h := ?_)
      refine WL.y (hy := asg) (h := ?_)
      refine nl (h := ?_)
      refine q_seq (h := ?_)
      refine rtn (h := ?_)
      refine q_then_ret (h := ?_)
      refine q_ret (hR := ?_)
      exact fun w hS => ⟨(cdT' (fun x : List Value => Ending.returned (Value.tuple x.toArray)) h1).trans (cdF' (fun x : List Value => Ending.returned (Value.tuple x.toArray)) h0), hS.sub (by repeat (first | exact SubL.nil | (apply SubL.cons; (repeat (first | exact At.here | apply At.there))) | exact SubL.refl _ | apply SubL.skip))⟩
    · skip
      have hbo : brdOk b = true := by simpa using h1
      have hbl := brd_len hbo
      refine skp (h := ?_)
      refine q_seq (h := ?_)
      refine sq (h := ?_)
      refine rg (h := ?_)
      refine WL.y (hy := (by first | exact ldA | exact ldEA)) (h := ?_)
      refine WL.y (hy := (by first | exact ldA | exact ldEA)) (h := ?_)
      refine cl0 (hc := fun w hS => C_ref1_arises' (tableV f) f b (tbOk_table f) hf hbo A n c hc w (hS.get (by repeat (first | exact Rds.ro | exact Rds.own | apply Rds.there)))) (h := ?_)
      rw [show (arisesT (tableV f) f b).2 = r from hr]
      refine WL.y (hy := asg) (h := ?_)
      refine WL.y (hy := asg) (h := ?_)
      refine nl (h := ?_)
      refine q_seq (h := ?_)
      refine rtn (h := ?_)
      refine q_ret (hR := ?_)
      exact fun w hS => ⟨(cdF' (fun x : List Value => Ending.returned (Value.tuple x.toArray)) h1).trans (cdF' (fun x : List Value => Ending.returned (Value.tuple x.toArray)) h0), hS.sub (by repeat (first | exact SubL.nil | (apply SubL.cons; (repeat (first | exact At.here | apply At.there))) | exact SubL.refl _ | apply SubL.skip))⟩
theorem C_ref1_Arises (f : Fmt) (b : Brd) (A : Option Addr) (n c : Nat) (hc : n ≤ c) (w : World) (h : Rd w A 2 n (encP b.st)) (hn : n ≤ 1000) : C0 Try.prog 12 [f.val, b.val A n c] w (.tuple (arisesR f b).toArray) := C_ref1_Arises' f b A n c hc w h hn _ rfl

/-! #### from -/
def D1 (f : Fmt) (m th : Int) : Int := Dn f 1000000 44 89 m th
theorem d1_eq (f : Fmt) {m th : Int} (hm : m ≤ f.sets) (ht : th ≤ f.sets) : D1 f m th = if m = f.sets then 0 else if th = f.sets then 1000000 else tbV f (setV f (m, th)) (D1 f (m + 1) th) (D1 f m (th + 1)) 0 0 := dn_eq f 1000000 44 89 hm ht
theorem dd_rng {f : Fmt} (hf : f.Ok) : ∀ (k : Nat) (m th : Int), 0 ≤ Dd f 1000000 44 89 k m th ∧ Dd f 1000000 44 89 k m th ≤ 1000000
  | 0, m, th => by rw [Dd]; omega
  | k + 1, m, th => by
    have h1 := dd_rng hf k (m + 1) th
    have h2 := dd_rng hf k m (th + 1)
    have h3 := set_to1 hf (m, th)
    rw [Dd]
    by_cases e1 : m = f.sets
    · rw [if_pos e1]; omega
    · rw [if_neg e1]
      by_cases e2 : th = f.sets
      · rw [if_pos e2]; omega
      · rw [if_neg e2]
        exact tr_rng h1.1 h2.1 (by omega) _ _ _
theorem d1_rng {f : Fmt} (hf : f.Ok) (m th : Int) : 0 ≤ D1 f m th ∧ D1 f m th ≤ 1000000 := dd_rng hf _ m th
theorem d1_en {f : Fmt} (hf : f.Ok) {m th : Int} (hm : 0 ≤ m ∧ m ≤ f.sets) (hth : 0 ≤ th ∧ th ≤ f.sets) : D1 f m th = En f 1000000 m th := dn_en hf (by omega) (by have := hf.g1; omega) (by omega) hm hth
def FromOk (f : Fmt) (k : Nat) : Prop := ∀ (m th : Int), (0 ≤ m ∧ m ≤ f.sets) → (0 ≤ th ∧ th ≤ f.sets) → 2 * f.sets - m - th < k → ∀ w, C0 Try.prog 55 [f.val, .int .i64 m, .int .i64 th] w (.int .i64 (D1 f m th))
set_option maxRecDepth 100000 in
theorem from_step (f : Fmt) (hf : f.Ok) (k : Nat) (ih : FromOk f k) : FromOk f (k + 1) := by
  intro m th hm hth hk w
  have hE0 := d1_eq f hm.2 hth.2
  refine ⟨en Try.func55 Try.ntmps55 (St.init w) (h := fun F => ?_)⟩
  refine sq (h := ?_)
  refine rg (h := ?_)
  refine bxA (h := fun b0 => ?_)
  refine WL.y (hy := asg) (h := ?_)
  refine nl (h := ?_)
  refine q_seq (h := ?_)
  refine sq (h := ?_)
  refine sq (h := ?_)
  refine rg (h := ?_)
  refine WL.y (hy := mv) (h := ?_)
  refine WL.y (hy := (by first | exact fa | exact faE)) (h := ?_)
  refine WL.y (hy := (by first | exact ld | exact ldE)) (h := ?_)
  refine WL.y (hy := eql) (h := ?_)
  refine nl (h := ?_)
  refine q_seq (h := ?_)
  refine cd (by exact rfl) (fun h0 => ?_) (fun h0 => ?_)
  · skip
    have hE : D1 f m th = 0 := by rw [hE0, if_pos (of_decide_eq_true h0)]
    refine sq (h := ?_)
    refine rg (h := ?_)
    refine WL.y (hy := asg) (h := ?_)
    refine nl (h := ?_)
    refine q_seq (h := ?_)
    refine rtn (h := ?_)
    refine q_then_ret (h := ?_)
    refine q_ret (hR := ?_)
    rw [hE]
    exact fun w hS => ⟨rfl, hS.sub (by repeat (first | exact SubL.nil | (apply SubL.cons; (repeat (first | exact At.here | apply At.there))) | exact SubL.refl _ | apply SubL.skip))⟩
  · skip
    have hmn : m ≠ f.sets := of_decide_eq_false h0
    rw [if_neg hmn] at hE0
    refine skp (h := ?_)
    refine q_seq (h := ?_)
    refine sq (h := ?_)
    refine sq (h := ?_)
    refine rg (h := ?_)
    refine WL.y (hy := mv) (h := ?_)
    refine WL.y (hy := (by first | exact fa | exact faE)) (h := ?_)
    refine WL.y (hy := (by first | exact ld | exact ldE)) (h := ?_)
    refine WL.y (hy := eql) (h := ?_)
    refine nl (h := ?_)
    refine q_seq (h := ?_)
    refine cd (by exact rfl) (fun h1 => ?_) (fun h1 => ?_)
    · skip
      have hE : D1 f m th = 1000000 := by rw [hE0, if_pos (of_decide_eq_true h1)]
      refine sq (h := ?_)
      refine rg (h := ?_)
      refine WL.y (hy := asg) (h := ?_)
      refine nl (h := ?_)
      refine q_seq (h := ?_)
      refine rtn (h := ?_)
      refine q_then_ret (h := ?_)
      refine q_ret (hR := ?_)
      rw [hE]
      exact fun w hS => ⟨rfl, hS.sub (by repeat (first | exact SubL.nil | (apply SubL.cons; (repeat (first | exact At.here | apply At.there))) | exact SubL.refl _ | apply SubL.skip))⟩
    · skip
      have htn : th ≠ f.sets := of_decide_eq_false h1
      rw [if_neg htn] at hE0
      refine skp (h := ?_)
      refine q_seq (h := ?_)
      refine sq (h := ?_)
      refine rg (h := ?_)
      refine WL.y (hy := (by first | exact ldA | exact ldEA)) (h := ?_)
      refine WL.y (hy := mv) (h := ?_)
      refine WL.y (hy := mv) (h := ?_)
      refine cl (hc := fun w hS => C_costs' f hf m th (D1 f (m + 1) th) (D1 f m (th + 1)) (by omega) (by omega) ⟨d1_rng hf _ _, d1_rng hf _ _⟩ (ih (m + 1) th (by omega) (by omega) (by omega)) (ih m (th + 1) (by omega) (by omega) (by omega)) w) (h := fun x hx => ?_)
      obtain ⟨RA, Rc, Rx, hrr, hrl, hrv, hrg, hrd⟩ := hx.1.at (a := 0) (by omega)
      have hE : D1 f m th = Rx.getD 0 0 := by rw [← hrg, hx.2 0 0 (by omega) (by omega), hE0]
      refine WL.y (hy := ix (A := x.A) (m := 45)) (h := ?_)
      refine WL.y (hy := ldE (A := x.A) (hk := hrv)) (h := ?_)
      refine WL.y (hy := ix (A := RA) (m := 45) (hr := by repeat (first | exact Rds.any (hrd 3) | apply Rds.there))) (h := ?_)
      refine WL.y (hy := ldE (A := RA) (hr := by repeat (first | exact Rds.any (hrd 3) | apply Rds.there)) (hk := mI_at (k := 0) (by omega))) (h := ?_)
      refine WL.y (hy := asg) (h := ?_)
      refine nl (h := ?_)
      refine q_seq (h := ?_)
      refine rtn (h := ?_)
      refine q_ret (hR := ?_)
      rw [hE]
      exact fun w hS => ⟨rfl, hS.sub (by repeat (first | exact SubL.nil | (apply SubL.cons; (repeat (first | exact At.here | apply At.there))) | exact SubL.refl _ | apply SubL.skip))⟩
theorem from_all (f : Fmt) (hf : f.Ok) : ∀ k, FromOk f k
  | 0 => fun m th hm hth hk => by omega
  | k + 1 => from_step f hf k (from_all f hf k)
theorem C_from (f : Fmt) (hf : f.Ok) (m th : Int) (hm : 0 ≤ m ∧ m ≤ f.sets) (hth : 0 ≤ th ∧ th ≤ f.sets) (w : World) : C0 Try.prog 55 [f.val, .int .i64 m, .int .i64 th] w (.int .i64 (D1 f m th)) := from_all f hf (2 * f.sets - m - th + 1).toNat m th hm hth (by omega) w
end Go.Proofs.Ytacaojifempclaa
