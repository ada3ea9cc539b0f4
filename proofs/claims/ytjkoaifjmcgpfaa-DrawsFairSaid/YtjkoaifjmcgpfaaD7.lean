/- Walks of draws, seven: Count, Pick, Draw, Index. -/
import Derived.Test.YtjkoaifjmcgpfaaD6
namespace Go.Proofs.Ytjkoaifjmcgpfaa
open Go Go.RowKit

theorem flatMap_len {α : Type} (xs : List α) (G : α → List (List Int)) (B : Nat) (h : ∀ x ∈ xs, (G x).length ≤ B) : (xs.flatMap G).length ≤ xs.length * B := by
  induction xs with
  | nil => simp
  | cons x xs ih =>
    rw [List.flatMap_cons, List.length_append, List.length_cons, Nat.succ_mul]
    have := h x (by simp)
    have := ih fun y hy => h y (List.mem_cons_of_mem _ hy)
    omega
theorem more_len (p : Pl) : ∀ (f : Nat) (l : List Int) (byes : Int), (moreV p (rkV p) f l byes).length ≤ (rkV p).length ^ f
  | 0, _, _ => by simp [moreV]
  | f + 1, l, byes => by
    rw [moreV, Nat.pow_succ, Nat.mul_comm]
    refine flatMap_len _ _ _ fun n _ => ?_
    cases skipV p l byes n
    · exact more_len p f _ _
    · simp
theorem draws_len {p : Pl} (hq : p.Ok) : (drawsV p).length ≤ 43046721 := by
  have h := more_len p p.size.toNat [] (byesV p)
  have hz := hq.z
  have hn := hq.n
  rw [rk_len] at h
  refine Nat.le_trans h (Nat.le_trans (Nat.pow_le_pow_left (show p.ps.length + 1 ≤ 9 by omega) _) (Nat.le_trans (Nat.pow_le_pow_right (by omega) (show p.size.toNat ≤ 8 by omega)) ?_))
  decide
theorem more_mem {p : Pl} : ∀ (f : Nat) (l : List Int) (byes : Int), (∀ x ∈ l, InP p x) → ∀ v ∈ moreV p (rkV p) f l byes, v.length = l.length + f ∧ ∀ x ∈ v, InP p x
  | 0, l, _, hl, v, hv => by
    rw [moreV, List.mem_singleton] at hv
    subst hv; exact ⟨rfl, hl⟩
  | f + 1, l, byes, hl, v, hv => by
    rw [moreV, List.mem_flatMap] at hv
    obtain ⟨n, hn, hv⟩ := hv
    cases hs : skipV p l byes n
    · rw [hs] at hv
      have := more_mem f (l ++ [n]) (leftB byes n) (fun x hx => by
        rcases List.mem_append.1 hx with hx | hx
        · exact hl x hx
        · simp only [List.mem_singleton] at hx; subst hx; exact rk_mem.1 hn) v hv
      rw [List.length_append] at this
      exact ⟨by have := this.1; simp at this; omega, this.2⟩
    · rw [hs] at hv; cases hv
theorem draws_mem {p : Pl} (hq : p.Ok) {v : List Int} (hv : v ∈ drawsV p) : v.length = p.size.toNat ∧ ∀ x ∈ v, InP p x := by
  have := more_mem p.size.toNat [] (byesV p) (fun x hx => by cases hx) v hv
  simpa using this
def cntN (p : Pl) : Int := bif pOk p then (drawsV p).length else 0
set_option maxHeartbeats 1000000 in
theorem C_dr_Count (p : Pl) (a : PA) (hz0 : -9223372036854775808 ≤ p.size ∧ p.size ≤ 9223372036854775807) (w : World) (h : PRd w p a) : C0 Try.prog 21 [p.val a] w (.tuple #[.int .i64 (cntN p), .int .i64 (chkP p)]) := by
  obtain ⟨hp, hl, hpn, hln, hpc⟩ := h
  refine ⟨enM Try.func21 Try.ntmps21 (((St.init w).share (e := .ro a.pA 3 p.ps.length (encPs p.ps)) hp rfl rfl rfl).share (e := .ro a.lA 1 p.lots.length (enI p.lots)) hl rfl rfl rfl) (h := ?_)⟩
  refine sq (h := ?_)
  refine rg (h := ?_)
  refine bxA (h := fun b0 => ?_)
  refine WL.y (hy := asg) (h := ?_)
  refine WL.y (hy := asg) (h := ?_)
  refine nl (h := ?_)
  refine q_seq (h := ?_)
  refine sq (h := ?_)
  refine sq (h := ?_)
  refine rg (h := ?_)
  refine WL.y (hy := (by first | exact ldA | exact ldEA)) (h := ?_)
  refine cl0 (hc := fun w hS => C_dr_Check p a hz0 w ⟨hS.get, hS.get, hpn, hln, hpc⟩) (h := ?_)
  refine WL.y (hy := asg) (h := ?_)
  refine nl (h := ?_)
  refine q_seq (h := ?_)
  refine sq (h := ?_)
  refine rg (h := ?_)
  refine WL.y (hy := mv) (h := ?_)
  refine WL.y (hy := neq) (h := ?_)
  refine nl (h := ?_)
  refine q_seq (h := ?_)
  refine cd (by exact rfl) (fun h0 => ?_) (fun h0 => ?_)
  · skip
    have hb := chkP_no h0
    have hE : cntN p = 0 := by rw [cntN, hb]; rfl
    refine sq (h := ?_)
    refine rg (h := ?_)
    refine WL.y (hy := mv) (h := ?_)
    refine WL.y (hy := asg) (h := ?_)
    refine WL.y (hy := asg) (h := ?_)
    refine nl (h := ?_)
    refine q_seq (h := ?_)
    refine rtn (h := ?_)
    refine q_then_ret (h := ?_)
    refine q_retM0 (hR := ?_)
    rw [hE]
    exact fun w hS => ⟨rfl, hS.sub (by repeat (first | exact SubL.nil | (apply SubL.cons; (repeat (first | exact At.here | apply At.there))) | exact SubL.refl _ | apply SubL.skip))⟩
  · skip
    obtain ⟨hq, hb⟩ := chkP_ok h0
    have hE : cntN p = (drawsV p).length := by rw [cntN, hb]; rfl
    have hE2 : chkP p = 0 := by rw [chkP, hb]; rfl
    have hN := draws_len hq
    refine skp (h := ?_)
    refine q_seq (h := ?_)
    refine sq (h := ?_)
    refine rg (h := ?_)
    refine al (h := fun b1 => ?_)
    first | refine st (h := ?_) | refine stE (h := ?_)
    refine nl (h := ?_)
    refine q_seq (h := ?_)
    refine sq (h := ?_)
    refine sq (h := ?_)
    refine rg (h := ?_)
    refine WL.y (hy := (by first | exact ldA | exact ldEA)) (h := ?_)
    refine cl (hc := fun w hS => C_draws p a hq w ⟨hS.get, hS.get, hpn, hln, hpc⟩) (h := fun x0 _ => ?_)
    refine nl (h := ?_)
    refine q_seq (h := ?_)
    refine bk (h := ?_)
    refine rf2 (f := 84) inferInstance (fun k (_ : Unit) => True) (fun k _ => [.blk b1 3 [.int .i64 k], .blk b0 25 (p.cells a)]) (fun _ => False) (fun _ => .skip) (fun _ => []) () (It_draws p a hq hpn hln hpc x0.bp x0.br x0.rA x0.rc) (by exact rfl) (fun _ _ => rfl) (by rfl) trivial (by repeat (first | exact SubL.nil | (apply SubL.cons; (repeat (first | exact At.here | apply At.there))) | exact SubL.refl _ | apply SubL.skip)) (fun R fn tmps lb rb k x y hk hφ hy => ?_) (fun rb y hy => ?_) (fun _ _ h => h.elim)
    · skip
      refine skp (h := ?_)
      refine bgn (h := ?_)
      refine bk (h := ?_)
      refine rg (h := ?_)
      refine WL.y (hy := (by first | exact ld | exact ldE)) (h := ?_)
      refine WL.y (hy := addI) (h := ?_)
      first | refine st (h := ?_) | refine stE (h := ?_)
      refine nl (h := ?_)
      refine q_blk_norm (h := ?_)
      refine rdN (y := ()) trivial (hs := (by repeat (first | exact SubL.nil | (apply SubL.cons; (repeat (first | exact At.here | apply At.there))) | exact SubL.refl _ | apply SubL.skip)))
    refine q_blk_norm (h := ?_)
    refine q_seq (h := ?_)
    refine sq (h := ?_)
    refine rg (h := ?_)
    refine WL.y (hy := (by first | exact ld | exact ldE)) (h := ?_)
    refine WL.y (hy := asg) (h := ?_)
    refine WL.y (hy := asg) (h := ?_)
    refine nl (h := ?_)
    refine q_seq (h := ?_)
    refine rtn (h := ?_)
    refine q_retM (hR := ?_)
    rw [hE, hE2]
    exact fun w hS => ⟨rfl, hS.sub (by repeat (first | exact SubL.nil | (apply SubL.cons; (repeat (first | exact At.here | apply At.there))) | exact SubL.refl _ | apply SubL.skip))⟩
def pickL (p : Pl) (n : Int) : List Int × Bool := match (drawsV p)[n.toNat]? with
  | some l => (l.map (plyV p), true)
  | none => ([], false)
set_option maxHeartbeats 2000000 in
theorem C_pick (p : Pl) (a : PA) (n : Int) (hq : p.Ok) (hn : 0 ≤ n ∧ n ≤ 9223372036854775807) (w : World) (h : PRd w p a) : CR Try.prog 46 [p.val a, .int .i64 n] w (fun _ : Option Addr × Nat => True) (fun x => .tuple #[.slice x.1 (pickL p n).1.length x.2, .bool (pickL p n).2]) (fun x => [.own x.1 x.2 3 1 (pickL p n).1.length (enI (pickL p n).1)]) := by
  obtain ⟨hp, hl, hpn, hln, hpc⟩ := h
  have hz := hq.z
  have hN := draws_len hq
  refine ⟨enM Try.func46 Try.ntmps46 (((St.init w).share (e := .ro a.pA 3 p.ps.length (encPs p.ps)) hp rfl rfl rfl).share (e := .ro a.lA 1 p.lots.length (enI p.lots)) hl rfl rfl rfl) (h := ?_)⟩
  refine sq (h := ?_)
  refine rg (h := ?_)
  refine bxA (h := fun b0 => ?_)
  refine bx (h := fun b1 => ?_)
  refine al (h := fun b2 => ?_)
  refine al (h := fun b3 => ?_)
  refine nl (h := ?_)
  refine q_seq (h := ?_)
  refine sq (h := ?_)
  refine sq (h := ?_)
  refine rg (h := ?_)
  refine WL.y (hy := (by first | exact ldA | exact ldEA)) (h := ?_)
  refine cl (hc := fun w hS => C_draws p a hq w ⟨hS.get, hS.get, hpn, hln, hpc⟩) (h := fun x0 _ => ?_)
  refine nl (h := ?_)
  refine q_seq (h := ?_)
  refine bk (h := ?_)
  refine rf2 (f := 84) inferInstance (fun k (_ : Option Addr × Nat) => (k : Int) ≤ n) (fun k _ => [.blk b1 3 [.int .i64 (n - (k : Int))], .blk b2 23 [.slice none 0 0], .blk b3 4 [.bool false], .blk b0 25 (p.cells a)]) (fun _ => n.toNat < (drawsV p).length) (fun _ => .ret) (fun y => [.blk b2 23 [.slice y.1 p.size.toNat y.2], .blk b3 4 [.bool true], .own y.1 y.2 3 1 p.size.toNat (enI (((drawsV p).getD n.toNat []).map (plyV p)))]) (none, 0) (It_draws p a hq hpn hln hpc x0.bp x0.br x0.rA x0.rc) (by exact rfl) (fun _ _ => rfl) (by rfl) (by omega) (by rw [show n - ((0 : Nat) : Int) = n by omega]; repeat (first | exact SubL.nil | (apply SubL.cons; (repeat (first | exact At.here | apply At.there))) | exact SubL.refl _ | apply SubL.skip)) (fun R fn tmps lb rb k x y hk hφ hy => ?_) (fun rb y hy => ?_) (fun rb y hy => ?_)
  · skip
    obtain ⟨v, hv⟩ : ∃ v, (drawsV p)[k]? = some v := ⟨_, List.getElem?_eq_getElem hk⟩
    have hvm := draws_mem hq (List.mem_of_getElem? hv)
    have hvd : (drawsV p).getD k [] = v := by rw [List.getD_eq_getElem?_getD, hv]; rfl
    rw [hvd]
    refine rg (h := ?_)
    refine WL.y (hy := asg) (h := ?_)
    refine nl (h := ?_)
    refine bgn (h := ?_)
    refine bk (h := ?_)
    refine sq (h := ?_)
    refine sq (h := ?_)
    refine rg (h := ?_)
    refine WL.y (hy := (by first | exact ld | exact ldE)) (h := ?_)
    refine WL.y (hy := eql) (h := ?_)
    refine nl (h := ?_)
    refine q_seq (h := ?_)
    refine cd (by exact rfl) (fun h0 => ?_) (fun h0 => ?_)
    · skip
      have hkn : n.toNat = k := by have := of_decide_eq_true h0; omega
      refine sq (h := ?_)
      refine rg (h := ?_)
      refine WL.y (hy := (by first | exact ldA | exact ldEA)) (h := ?_)
      refine WL.y (hy := mv) (h := ?_)
      refine cl (hc := fun w hS => C_sheet p a v x.1 p.size.toNat x.2 hvm.1 (by omega) hvm.2 w ⟨hS.get (by repeat (first | exact Rds.ro | apply Rds.there)), hS.get (by repeat (first | exact Rds.ro | apply Rds.there)), hpn, hln, hpc⟩ (hS.get (by repeat (first | exact Rds.own | apply Rds.there)))) (h := fun x1 _ => ?_)
      first | refine st (h := ?_) | refine stE (h := ?_)
      first | refine st (h := ?_) | refine stE (h := ?_)
      refine nl (h := ?_)
      refine q_seq (h := ?_)
      refine rtn (h := ?_)
      refine q_then_ret (h := ?_)
      refine q_blk_ret (h := ?_)
      refine rdRet (y := x1) (by omega) (hs := by rw [hkn, hvd]; repeat (first | exact SubL.nil | (apply SubL.cons; (repeat (first | exact At.here | apply At.there))) | exact SubL.refl _ | apply SubL.skip))
    · skip
      have hkn : (k : Int) < n := by have := of_decide_eq_false h0; omega
      refine skp (h := ?_)
      refine q_seq (h := ?_)
      refine rg (h := ?_)
      refine WL.y (hy := (by first | exact ld | exact ldE)) (h := ?_)
      refine WL.y (hy := subI) (h := ?_)
      first | refine st (h := ?_) | refine stE (h := ?_)
      refine nl (h := ?_)
      refine q_blk_norm (h := ?_)
      refine rdN (y := (none, 0)) (by omega) (hs := by rw [show n - (((k + 1 : Nat)) : Int) = n - (k : Int) - 1 by omega]; repeat (first | exact SubL.nil | (apply SubL.cons; (repeat (first | exact At.here | apply At.there))) | exact SubL.refl _ | apply SubL.skip))
  · skip
    have hE : pickL p n = ([], false) := by rw [pickL, List.getElem?_eq_none (by omega)]
    refine q_blk_norm (h := ?_)
    refine q_seq (h := ?_)
    refine sq (h := ?_)
    refine WC.nilOwn 3 1 (h := ?_)
    refine rg (h := ?_)
    first | refine st (h := ?_) | refine stE (h := ?_)
    first | refine st (h := ?_) | refine stE (h := ?_)
    refine nl (h := ?_)
    refine q_seq (h := ?_)
    refine rtn (h := ?_)
    refine q_retM (hR := ?_)
    rw [hE]
    exact fun w hS => ⟨(none, 0), trivial, rfl, hS.sub (by repeat (first | exact SubL.nil | (apply SubL.cons; (repeat (first | exact At.here | apply At.there))) | exact SubL.refl _ | apply SubL.skip))⟩
  · skip
    have hE : pickL p n = (((drawsV p).getD n.toNat []).map (plyV p), true) := by rw [pickL, List.getElem?_eq_getElem hy, List.getD_eq_getElem?_getD, List.getElem?_eq_getElem hy]; rfl
    have hlen : (((drawsV p).getD n.toNat []).map (plyV p)).length = p.size.toNat := by
      rw [List.length_map, List.getD_eq_getElem?_getD, List.getElem?_eq_getElem hy]
      exact (draws_mem hq (List.getElem_mem hy)).1
    refine rtn (h := ?_)
    refine q_blk_ret (h := ?_)
    refine q_then_ret (h := ?_)
    refine q_retM (hR := ?_)
    rw [hE]
    dsimp only
    rw [hlen]
    exact fun w hS => ⟨y, trivial, rfl, hS.sub (by repeat (first | exact SubL.nil | (apply SubL.cons; (repeat (first | exact At.here | apply At.there))) | exact SubL.refl _ | apply SubL.skip))⟩
def pikP (p : Pl) (n : Int) : List Int × Int := bif !pOk p then ([], 60) else bif decide (n < 0) then ([], 1) else bif !(pickL p n).2 then ([], 1) else ((pickL p n).1, 0)
theorem C_dr_Pick (p : Pl) (a : PA) (n : Int) (hz0 : -9223372036854775808 ≤ p.size ∧ p.size ≤ 9223372036854775807) (hn : n ≤ 9223372036854775807) (w : World) (h : PRd w p a) : CR Try.prog 22 [p.val a, .int .i64 n] w (fun _ : Option Addr × Nat => True) (fun x => .tuple #[.slice x.1 (pikP p n).1.length x.2, .int .i64 (pikP p n).2]) (fun x => [.own x.1 x.2 3 1 (pikP p n).1.length (enI (pikP p n).1)]) := by
  obtain ⟨hp, hl, hpn, hln, hpc⟩ := h
  refine ⟨en Try.func22 Try.ntmps22 (((St.init w).share (e := .ro a.pA 3 p.ps.length (encPs p.ps)) hp rfl rfl rfl).share (e := .ro a.lA 1 p.lots.length (enI p.lots)) hl rfl rfl rfl) (h := fun F => ?_)⟩
  refine sq (h := ?_)
  refine rg (h := ?_)
  refine bxA (h := fun b0 => ?_)
  refine WL.y (hy := asg) (h := ?_)
  refine WL.y (hy := asg) (h := ?_)
  refine nl (h := ?_)
  refine q_seq (h := ?_)
  refine sq (h := ?_)
  refine sq (h := ?_)
  refine rg (h := ?_)
  refine WL.y (hy := (by first | exact ldA | exact ldEA)) (h := ?_)
  refine cl0 (hc := fun w hS => C_dr_Check p a hz0 w ⟨hS.get, hS.get, hpn, hln, hpc⟩) (h := ?_)
  refine WL.y (hy := asg) (h := ?_)
  refine nl (h := ?_)
  refine q_seq (h := ?_)
  refine sq (h := ?_)
  refine rg (h := ?_)
  refine WL.y (hy := mv) (h := ?_)
  refine WL.y (hy := neq) (h := ?_)
  refine nl (h := ?_)
  refine q_seq (h := ?_)
  refine cd (by exact rfl) (fun h0 => ?_) (fun h0 => ?_)
  · skip
    have hb := chkP_no h0
    have hE : pikP p n = ([], chkP p) := by rw [pikP, chkP, hb]; rfl
    refine WC.nilOwn 3 1 (h := ?_)
    refine sq (h := ?_)
    refine rg (h := ?_)
    refine WL.y (hy := mv) (h := ?_)
    refine WL.y (hy := asg) (h := ?_)
    refine WL.y (hy := asg) (h := ?_)
    refine nl (h := ?_)
    refine q_seq (h := ?_)
    refine rtn (h := ?_)
    refine q_then_ret (h := ?_)
    refine q_ret (hR := ?_)
    rw [hE]
    exact fun w hS => ⟨(none, 0), trivial, rfl, hS.sub (by repeat (first | exact SubL.nil | (apply SubL.cons; (repeat (first | exact At.here | apply At.there))) | exact SubL.refl _ | apply SubL.skip))⟩
  · skip
    obtain ⟨hq, hb⟩ := chkP_ok h0
    refine skp (h := ?_)
    refine q_seq (h := ?_)
    refine sq (h := ?_)
    refine sq (h := ?_)
    refine rg (h := ?_)
    refine WL.y (hy := mv) (h := ?_)
    refine WL.y (hy := lss) (h := ?_)
    refine nl (h := ?_)
    refine q_seq (h := ?_)
    refine cd (by exact rfl) (fun h1 => ?_) (fun h1 => ?_)
    · skip
      have hE : pikP p n = ([], 1) := by rw [pikP, hb, h1]; rfl
      refine WC.nilOwn 3 1 (h := ?_)
      refine sq (h := ?_)
      refine rg (h := ?_)
      refine WL.y (hy := asg) (h := ?_)
      refine WL.y (hy := asg) (h := ?_)
      refine nl (h := ?_)
      refine q_seq (h := ?_)
      refine rtn (h := ?_)
      refine q_then_ret (h := ?_)
      refine q_ret (hR := ?_)
      rw [hE]
      exact fun w hS => ⟨(none, 0), trivial, rfl, hS.sub (by repeat (first | exact SubL.nil | (apply SubL.cons; (repeat (first | exact At.here | apply At.there))) | exact SubL.refl _ | apply SubL.skip))⟩
    · skip
      have hn0 : 0 ≤ n := by have := of_decide_eq_false h1; omega
      have hnd : decide (n < 0) = false := h1
      refine skp (h := ?_)
      refine q_seq (h := ?_)
      refine sq (h := ?_)
      refine rg (h := ?_)
      refine WL.y (hy := (by first | exact ldA | exact ldEA)) (h := ?_)
      refine WL.y (hy := mv) (h := ?_)
      refine cl (hc := fun w hS => C_pick p a n hq ⟨hn0, hn⟩ w ⟨hS.get, hS.get, hpn, hln, hpc⟩) (h := fun x0 _ => ?_)
      refine WL.y (hy := mv) (h := ?_)
      refine WL.y (hy := ex) (h := ?_)
      refine WL.y (hy := ex) (h := ?_)
      refine WL.y (hy := asg) (h := ?_)
      refine WL.y (hy := asg) (h := ?_)
      refine nl (h := ?_)
      refine q_seq (h := ?_)
      refine sq (h := ?_)
      refine sq (h := ?_)
      refine rg (h := ?_)
      refine WL.y (hy := mv) (h := ?_)
      refine WL.y (hy := notB) (h := ?_)
      refine nl (h := ?_)
      refine q_seq (h := ?_)
      refine cd (by exact rfl) (fun h2 => ?_) (fun h2 => ?_)
      · skip
        have hE : pikP p n = ([], 1) := by rw [pikP, hb, hnd, show (!(pickL p n).2) = true from h2]; rfl
        refine WC.nilOwn 3 1 (h := ?_)
        refine sq (h := ?_)
        refine rg (h := ?_)
        refine WL.y (hy := asg) (h := ?_)
        refine WL.y (hy := asg) (h := ?_)
        refine nl (h := ?_)
        refine q_seq (h := ?_)
        refine rtn (h := ?_)
        refine q_then_ret (h := ?_)
        refine q_ret (hR := ?_)
        rw [hE]
        exact fun w hS => ⟨(none, 0), trivial, rfl, hS.sub (by repeat (first | exact SubL.nil | (apply SubL.cons; (repeat (first | exact At.here | apply At.there))) | exact SubL.refl _ | apply SubL.skip))⟩
      · skip
        have hE : pikP p n = ((pickL p n).1, 0) := by rw [pikP, hb, hnd, show (!(pickL p n).2) = false from h2]; rfl
        refine skp (h := ?_)
        refine q_seq (h := ?_)
        refine sq (h := ?_)
        refine rg (h := ?_)
        refine WL.y (hy := mv) (h := ?_)
        refine WL.y (hy := asg) (h := ?_)
        refine WL.y (hy := asg) (h := ?_)
        refine nl (h := ?_)
        refine q_seq (h := ?_)
        refine rtn (h := ?_)
        refine q_ret (hR := ?_)
        rw [hE]
        exact fun w hS => ⟨x0, trivial, rfl, hS.sub (by repeat (first | exact SubL.nil | (apply SubL.cons; (repeat (first | exact At.here | apply At.there))) | exact SubL.refl _ | apply SubL.skip))⟩
def sumI : List Int → Int
  | [] => 0
  | x :: xs => x + sumI xs
theorem sumI_take {xs : List Int} : ∀ {k : Nat} {x : Int}, xs[k]? = some x → sumI (xs.take (k + 1)) = sumI (xs.take k) + x := by
  induction xs with
  | nil => intro k x h; simp at h
  | cons y ys ih =>
    intro k x h
    cases k with
    | zero => simp at h; subst h; simp [sumI]
    | succ k =>
      simp only [List.take_succ_cons, sumI]
      rw [ih (by simpa using h)]; omega
theorem sumI_rng {xs : List Int} (h : ∀ n ∈ xs, 0 ≤ n ∧ n ≤ 999999) : 0 ≤ sumI xs ∧ sumI xs ≤ 999999 * xs.length := by
  induction xs with
  | nil => simp [sumI]
  | cons y ys ih =>
    have h1 := h y (by simp)
    have h2 := ih fun n hn => h n (List.mem_cons_of_mem _ hn)
    simp only [sumI, List.length_cons]
    omega
def drwP (p : Pl) : List Int × Int := bif !pOk p then ([], 60) else bif decide (((drawsV p).length : Int) = 0) then ([], 3) else ((pickL p (sumI p.lots % (drawsV p).length)).1, 0)
structure IZA where
  (k : Nat)
set_option maxHeartbeats 1000000 in
theorem C_dr_Draw (p : Pl) (a : PA) (hz0 : -9223372036854775808 ≤ p.size ∧ p.size ≤ 9223372036854775807) (w : World) (h : PRd w p a) : CR Try.prog 14 [p.val a] w (fun _ : Option Addr × Nat => True) (fun x => .tuple #[.slice x.1 (drwP p).1.length x.2, .int .i64 (drwP p).2]) (fun x => [.own x.1 x.2 3 1 (drwP p).1.length (enI (drwP p).1)]) := by
  obtain ⟨hp, hl, hpn, hln, hpc⟩ := h
  refine ⟨en Try.func14 Try.ntmps14 (((St.init w).share (e := .ro a.pA 3 p.ps.length (encPs p.ps)) hp rfl rfl rfl).share (e := .ro a.lA 1 p.lots.length (enI p.lots)) hl rfl rfl rfl) (h := fun F => ?_)⟩
  refine sq (h := ?_)
  refine rg (h := ?_)
  refine bxA (h := fun b0 => ?_)
  refine WL.y (hy := asg) (h := ?_)
  refine WL.y (hy := asg) (h := ?_)
  refine nl (h := ?_)
  refine q_seq (h := ?_)
  refine sq (h := ?_)
  refine rg (h := ?_)
  refine WL.y (hy := (by first | exact ldA | exact ldEA)) (h := ?_)
  refine cl0 (hc := fun w hS => C_dr_Count p a hz0 w ⟨hS.get, hS.get, hpn, hln, hpc⟩) (h := ?_)
  refine WL.y (hy := mv) (h := ?_)
  refine WL.y (hy := ex) (h := ?_)
  refine WL.y (hy := ex) (h := ?_)
  refine WL.y (hy := asg) (h := ?_)
  refine WL.y (hy := asg) (h := ?_)
  refine nl (h := ?_)
  refine q_seq (h := ?_)
  refine sq (h := ?_)
  refine sq (h := ?_)
  refine rg (h := ?_)
  refine WL.y (hy := mv) (h := ?_)
  refine WL.y (hy := neq) (h := ?_)
  refine nl (h := ?_)
  refine q_seq (h := ?_)
  refine cd (by exact rfl) (fun h0 => ?_) (fun h0 => ?_)
  · skip
    have hb := chkP_no h0
    have hE : drwP p = ([], chkP p) := by rw [drwP, chkP, hb]; rfl
    refine WC.nilOwn 3 1 (h := ?_)
    refine sq (h := ?_)
    refine rg (h := ?_)
    refine WL.y (hy := mv) (h := ?_)
    refine WL.y (hy := asg) (h := ?_)
    refine WL.y (hy := asg) (h := ?_)
    refine nl (h := ?_)
    refine q_seq (h := ?_)
    refine rtn (h := ?_)
    refine q_then_ret (h := ?_)
    refine q_ret (hR := ?_)
    rw [hE]
    exact fun w hS => ⟨(none, 0), trivial, rfl, hS.sub (by repeat (first | exact SubL.nil | (apply SubL.cons; (repeat (first | exact At.here | apply At.there))) | exact SubL.refl _ | apply SubL.skip))⟩
  · skip
    obtain ⟨hq, hb⟩ := chkP_ok h0
    have hcn : cntN p = (drawsV p).length := by rw [cntN, hb]; rfl
    rw [hcn]
    have hN := draws_len hq
    have hll := hq.l
    have hlt := hq.lt
    have hsr := sumI_rng hlt
    refine skp (h := ?_)
    refine q_seq (h := ?_)
    refine sq (h := ?_)
    refine sq (h := ?_)
    refine rg (h := ?_)
    refine WL.y (hy := mv) (h := ?_)
    refine WL.y (hy := eql) (h := ?_)
    refine nl (h := ?_)
    refine q_seq (h := ?_)
    refine cd (by exact rfl) (fun h1 => ?_) (fun h1 => ?_)
    · skip
      have hE : drwP p = ([], 3) := by rw [drwP, hb, h1]; rfl
      refine WC.nilOwn 3 1 (h := ?_)
      refine sq (h := ?_)
      refine rg (h := ?_)
      refine WL.y (hy := asg) (h := ?_)
      refine WL.y (hy := asg) (h := ?_)
      refine nl (h := ?_)
      refine q_seq (h := ?_)
      refine rtn (h := ?_)
      refine q_then_ret (h := ?_)
      refine q_ret (hR := ?_)
      rw [hE]
      exact fun w hS => ⟨(none, 0), trivial, rfl, hS.sub (by repeat (first | exact SubL.nil | (apply SubL.cons; (repeat (first | exact At.here | apply At.there))) | exact SubL.refl _ | apply SubL.skip))⟩
    · skip
      have hE : drwP p = ((pickL p (sumI p.lots % (drawsV p).length)).1, 0) := by rw [drwP, hb, h1]; rfl
      have hN0 : 0 < (drawsV p).length := by have := of_decide_eq_false h1; omega
      have hmd : 0 ≤ sumI p.lots % ((drawsV p).length : Int) ∧ sumI p.lots % ((drawsV p).length : Int) < (drawsV p).length := ⟨Int.emod_nonneg _ (by omega), Int.emod_lt_of_pos _ (by omega)⟩
      refine skp (h := ?_)
      refine q_seq (h := ?_)
      refine sq (h := ?_)
      refine rg (h := ?_)
      refine WL.y (hy := asg) (h := ?_)
      refine nl (h := ?_)
      refine q_seq (h := ?_)
      refine sq (h := ?_)
      refine sq (h := ?_)
      refine rg (h := ?_)
      refine WL.y (hy := (by first | exact fa | exact faE)) (h := ?_)
      refine WL.y (hy := (by first | exact ld | exact ldE)) (h := ?_)
      refine WL.y (hy := lenS) (h := ?_)
      refine WL.y (hy := mv) (h := ?_)
      refine nl (h := ?_)
      refine q_seq (h := ?_)
      refine bk (h := ?_)
      refine lp (X := IZA) (I := fun z => z.k ≤ p.lots.length) (le := fun z => [(1, .pointer (some ⟨b0, 0, none⟩)), (4, .int .i64 (drawsV p).length), (6, .int .i64 (sumI (p.lots.take z.k))), (22, .slice a.lA p.lots.length a.lc), (23, .int .i64 p.lots.length), (24, .int .i64 z.k)]) (Le := fun _ => plL p a b0) (μ := fun z => p.lots.length - z.k) ⟨0⟩ (Nat.zero_le _) (by repeat (first | exact trivial | refine ⟨rfl, ?_⟩)) (by repeat (first | exact SubL.nil | (apply SubL.cons; (repeat (first | exact At.here | apply At.there))) | exact SubL.refl _ | apply SubL.skip)) (fun z hz => ?_)
      refine sq (h := ?_)
      refine rg (h := ?_)
      refine WL.y (hy := lss) (h := ?_)
      refine nl (h := ?_)
      refine q_seq (h := ?_)
      refine sq (h := ?_)
      refine cd (by exact rfl) (fun h2 => ?_) (fun h2 => ?_)
      · skip
        have hkn : z.k < p.lots.length := by simp only [decide_eq_true_eq] at h2; omega
        obtain ⟨v, hv⟩ : ∃ v, p.lots[z.k]? = some v := ⟨_, List.getElem?_eq_getElem hkn⟩
        have hve := enI_at hv
        have hst := sumI_take hv
        have hvr := hlt v (List.mem_of_getElem? hv)
        have hsk := sumI_rng (xs := p.lots.take z.k) (fun n hn => hlt n (List.mem_of_mem_take hn))
        rw [List.length_take] at hsk
        refine skp (h := ?_)
        refine q_seq (h := ?_)
        refine sq (h := ?_)
        refine bk (h := ?_)
        refine sq (h := ?_)
        refine rg (h := ?_)
        refine WL.y (hy := ix (A := a.lA) (m := p.lots.length)) (h := ?_)
        refine WL.y (hy := ldE (A := a.lA) (hk := hve)) (h := ?_)
        refine WL.y (hy := asg) (h := ?_)
        refine nl (h := ?_)
        refine q_seq (h := ?_)
        refine rg (h := ?_)
        refine WL.y (hy := mv) (h := ?_)
        refine WL.y (hy := mv) (h := ?_)
        refine WL.y (hy := addI) (h := ?_)
        refine WL.y (hy := asg) (h := ?_)
        refine nl (h := ?_)
        refine q_blk_norm (h := ?_)
        refine q_seq (h := ?_)
        refine rg (h := ?_)
        refine WL.y (hy := addI) (h := ?_)
        refine WL.y (hy := mv) (h := ?_)
        refine nl (h := ?_)
        refine rn (x := z) ⟨z.k + 1⟩ (by dsimp only; omega) (by dsimp only; omega) (by dsimp only; rw [hst]; repeat (first | exact trivial | refine ⟨rfl, ?_⟩)) (by repeat (first | exact SubL.nil | (apply SubL.cons; (repeat (first | exact At.here | apply At.there))) | exact SubL.refl _ | apply SubL.skip))
      · skip
        have hkn : z.k = p.lots.length := by simp only [decide_eq_false_iff_not] at h2; omega
        rw [hkn, List.take_length]
        refine et (h := ?_)
        refine q_then_exit (h := ?_)
        refine q_then_exit (h := ?_)
        refine q_blk_hit (h := ?_)
        refine q_seq (h := ?_)
        refine sq (h := ?_)
        refine rgD0 (by kernel_rfl) (h := ?_)
        refine tk 0 (hy := (by first | exact ldA | exact ldEA)) (h := ?_)
        refine tk 1 (hy := mv) (h := ?_)
        refine tk 2 (hy := mv) (h := ?_)
        refine tk 3 (hy := remI) (h := ?_)
        refine one 4 (h := ?_)
        refine cl (hc := fun w hS => C_pick p a (sumI p.lots % (drawsV p).length) hq (by omega) w ⟨hS.get (by repeat (first | exact Rds.ro | apply Rds.there)), hS.get (by repeat (first | exact Rds.ro | apply Rds.there)), hpn, hln, hpc⟩) (h := fun x0 _ => ?_)
        refine nx (h := ?_)
        refine tk 5 (hy := mv) (h := ?_)
        refine tk 6 (hy := ex) (h := ?_)
        refine tk 7 (hy := ex) (h := ?_)
        refine tk 8 (hy := asg) (h := ?_)
        refine tk 9 (hy := asg) (h := ?_)
        refine dn (h := ?_)
        refine q_seq (h := ?_)
        refine sq (h := ?_)
        refine rg (h := ?_)
        refine WL.y (hy := mv) (h := ?_)
        refine WL.y (hy := asg) (h := ?_)
        refine WL.y (hy := asg) (h := ?_)
        refine nl (h := ?_)
        refine q_seq (h := ?_)
        refine rtn (h := ?_)
        refine q_ret (hR := ?_)
        rw [hE]
        exact fun w hS => ⟨x0, trivial, rfl, hS.sub (by repeat (first | exact SubL.nil | (apply SubL.cons; (repeat (first | exact At.here | apply At.there))) | exact SubL.refl _ | apply SubL.skip))⟩
/-! #### index -/
def idxL (p : Pl) (own : List Int) : Int := idxF (pAt (drawsV p) fun l => decide (l = own)) (drawsV p).length
def idxP (p : Pl) (sheet : List Int) : Int × Int := bif !decide ((chV p sheet).2 = 0) then (0, (chV p sheet).2) else bif decide (0 ≤ idxL p (chV p sheet).1) then (idxL p (chV p sheet).1, 0) else (0, 3)
theorem ch_ok {p : Pl} {sheet : List Int} (h : (chV p sheet).2 = 0) : pOk p = true ∧ (chV p sheet).1 = (persV p sheet).1 ∧ (persV p sheet).2 = true := by
  unfold chV at h ⊢
  cases hb : pOk p
  · rw [hb] at h; cases h
  · cases hs : (persV p sheet).2
    · rw [hb, hs] at h; cases h
    · exact ⟨rfl, rfl, rfl⟩
set_option maxHeartbeats 2000000 in
theorem C_dr_Index (p : Pl) (a : PA) (hz0 : -9223372036854775808 ≤ p.size ∧ p.size ≤ 9223372036854775807) (sheet : List Int) (sA : Option Addr) (sc : Nat) (hsn : sheet.length ≤ 1000) (w : World) (h : PRd w p a) (hs : Rd w sA 1 sheet.length (enI sheet)) : C0 Try.prog 18 [p.val a, .slice sA sheet.length sc] w (.tuple #[.int .i64 (idxP p sheet).1, .int .i64 (idxP p sheet).2]) := by
  obtain ⟨hp, hl, hpn, hln, hpc⟩ := h
  refine ⟨enM Try.func18 Try.ntmps18 ((((St.init w).share (e := .ro a.pA 3 p.ps.length (encPs p.ps)) hp rfl rfl rfl).share (e := .ro a.lA 1 p.lots.length (enI p.lots)) hl rfl rfl rfl).share (e := .ro sA 1 sheet.length (enI sheet)) hs rfl rfl rfl) (h := ?_)⟩
  refine sq (h := ?_)
  refine rg (h := ?_)
  refine bxA (h := fun b0 => ?_)
  refine al (h := fun b1 => ?_)
  refine al (h := fun b2 => ?_)
  refine nl (h := ?_)
  refine q_seq (h := ?_)
  refine sq (h := ?_)
  refine rg (h := ?_)
  refine WL.y (hy := (by first | exact ldA | exact ldEA)) (h := ?_)
  refine WL.y (hy := mv) (h := ?_)
  refine cl (hc := fun w hS => C_dr_check p a hz0 sheet sA sc hsn w ⟨hS.get, hS.get, hpn, hln, hpc⟩ hS.get) (h := fun x0 _ => ?_)
  refine WL.y (hy := mv) (h := ?_)
  refine WL.y (hy := ex) (h := ?_)
  refine WL.y (hy := ex) (h := ?_)
  refine al (h := fun b3 => ?_)
  first | refine st (h := ?_) | refine stE (h := ?_)
  refine WL.y (hy := asg) (h := ?_)
  refine nl (h := ?_)
  refine q_seq (h := ?_)
  refine sq (h := ?_)
  refine sq (h := ?_)
  refine rg (h := ?_)
  refine WL.y (hy := mv) (h := ?_)
  refine WL.y (hy := neq) (h := ?_)
  refine nl (h := ?_)
  refine q_seq (h := ?_)
  refine cd (by exact rfl) (fun h0 => ?_) (fun h0 => ?_)
  · skip
    have hE : idxP p sheet = (0, (chV p sheet).2) := by rw [idxP, h0]; rfl
    refine sq (h := ?_)
    refine rg (h := ?_)
    refine WL.y (hy := mv) (h := ?_)
    first | refine st (h := ?_) | refine stE (h := ?_)
    first | refine st (h := ?_) | refine stE (h := ?_)
    refine nl (h := ?_)
    refine q_seq (h := ?_)
    refine rtn (h := ?_)
    refine q_then_ret (h := ?_)
    refine q_retM0 (hR := ?_)
    rw [hE]
    exact fun w hS => ⟨rfl, hS.sub (by repeat (first | exact SubL.nil | (apply SubL.cons; (repeat (first | exact At.here | apply At.there))) | exact SubL.refl _ | apply SubL.skip))⟩
  · skip
    have hc0 : (chV p sheet).2 = 0 := by simpa using h0
    obtain ⟨hb, hc1, hc2⟩ := ch_ok hc0
    have hq := p_ok hb
    have hN := draws_len hq
    have hz := hq.z
    refine skp (h := ?_)
    refine q_seq (h := ?_)
    refine sq (h := ?_)
    refine rg (h := ?_)
    refine al (h := fun b4 => ?_)
    first | refine st (h := ?_) | refine stE (h := ?_)
    refine nl (h := ?_)
    refine q_seq (h := ?_)
    refine sq (h := ?_)
    refine sq (h := ?_)
    refine rg (h := ?_)
    refine WL.y (hy := (by first | exact ldA | exact ldEA)) (h := ?_)
    refine cl (hc := fun w hS => C_draws p a hq w ⟨hS.get, hS.get, hpn, hln, hpc⟩) (h := fun x1 _ => ?_)
    refine nl (h := ?_)
    refine q_seq (h := ?_)
    refine bk (h := ?_)
    refine rf2 (f := 84) inferInstance (fun k (_ : Unit) => ∀ i, i < k → pAt (drawsV p) (fun l => decide (l = (chV p sheet).1)) i = false) (fun k _ => [.blk b4 3 [.int .i64 k], .blk b1 3 [.int .i64 0], .blk b2 28 [.int .i64 0], .blk b3 23 [.slice x0.1 (chV p sheet).1.length x0.2], .own x0.1 x0.2 3 1 (chV p sheet).1.length (enI (chV p sheet).1)]) (fun _ => idxP p sheet = (idxL p (chV p sheet).1, 0)) (fun _ => .ret) (fun _ => [.blk b1 3 [.int .i64 (idxL p (chV p sheet).1)], .blk b2 28 [.int .i64 0]]) () (It_draws p a hq hpn hln hpc x1.bp x1.br x1.rA x1.rc) (by exact rfl) (fun _ _ => rfl) (by rfl) (fun i hi => by cases hi) (by repeat (first | exact SubL.nil | (apply SubL.cons; (repeat (first | exact At.here | apply At.there))) | exact SubL.refl _ | apply SubL.skip)) (fun R fn tmps lb rb k x y hk hφ hy => ?_) (fun rb y hy => ?_) (fun rb y hy => ?_)
    · skip
      obtain ⟨v, hv⟩ : ∃ v, (drawsV p)[k]? = some v := ⟨_, List.getElem?_eq_getElem hk⟩
      have hvm := draws_mem hq (List.mem_of_getElem? hv)
      have hvd : (drawsV p).getD k [] = v := by rw [List.getD_eq_getElem?_getD, hv]; rfl
      rw [hvd]
      refine rg (h := ?_)
      refine WL.y (hy := asg) (h := ?_)
      refine nl (h := ?_)
      refine bgn (h := ?_)
      refine bk (h := ?_)
      refine sq (h := ?_)
      refine sq (h := ?_)
      refine rg (h := ?_)
      refine WL.y (hy := mv) (h := ?_)
      refine WL.y (hy := (by first | exact ld | exact ldE)) (h := ?_)
      refine cl0 (hc := fun w hS => C_EqualInts v (chV p sheet).1 x.1 x0.1 p.size.toNat x.2 (chV p sheet).1.length x0.2 w (hS.get (by repeat (first | exact Rds.own | apply Rds.there))) (hS.get (by repeat (first | exact Rds.own | apply Rds.there))) (by omega)) (h := ?_)
      refine nl (h := ?_)
      refine q_seq (h := ?_)
      refine cd (by exact rfl) (fun h1 => ?_) (fun h1 => ?_)
      · skip
        have hix : idxL p (chV p sheet).1 = k := (idxF_spec _ _).uniq (.inl ⟨k, hk, rfl, by rw [pAt_eq hv]; exact h1, hy⟩)
        have hjp : idxP p sheet = (idxL p (chV p sheet).1, 0) := by rw [idxP, hc0, hix, decide_eq_true (by omega)]; rfl
        refine sq (h := ?_)
        refine rg (h := ?_)
        refine WL.y (hy := (by first | exact ld | exact ldE)) (h := ?_)
        first | refine st (h := ?_) | refine stE (h := ?_)
        first | refine st (h := ?_) | refine stE (h := ?_)
        refine nl (h := ?_)
        refine q_seq (h := ?_)
        refine rtn (h := ?_)
        refine q_then_ret (h := ?_)
        refine q_blk_ret (h := ?_)
        refine rdRet (y := ()) hjp (hs := by rw [hix]; repeat (first | exact SubL.nil | (apply SubL.cons; (repeat (first | exact At.here | apply At.there))) | exact SubL.refl _ | apply SubL.skip))
      · skip
        have hnx : ∀ i, i < k + 1 → pAt (drawsV p) (fun l => decide (l = (chV p sheet).1)) i = false := fun i hi => by
          rcases Nat.lt_succ_iff_lt_or_eq.1 hi with h | rfl
          · exact hy i h
          · rw [pAt_eq hv]; exact h1
        refine skp (h := ?_)
        refine q_seq (h := ?_)
        refine rg (h := ?_)
        refine WL.y (hy := (by first | exact ld | exact ldE)) (h := ?_)
        refine WL.y (hy := addI) (h := ?_)
        first | refine st (h := ?_) | refine stE (h := ?_)
        refine nl (h := ?_)
        refine q_blk_norm (h := ?_)
        refine rdN (y := ()) hnx (hs := (by repeat (first | exact SubL.nil | (apply SubL.cons; (repeat (first | exact At.here | apply At.there))) | exact SubL.refl _ | apply SubL.skip)))
    · skip
      have hix : idxL p (chV p sheet).1 = -1 := (idxF_spec _ _).uniq (.inr ⟨rfl, hy⟩)
      have hE : idxP p sheet = (0, 3) := by rw [idxP, hc0, hix]; rfl
      refine q_blk_norm (h := ?_)
      refine q_seq (h := ?_)
      refine sq (h := ?_)
      refine rg (h := ?_)
      first | refine st (h := ?_) | refine stE (h := ?_)
      first | refine st (h := ?_) | refine stE (h := ?_)
      refine nl (h := ?_)
      refine q_seq (h := ?_)
      refine rtn (h := ?_)
      refine q_retM (hR := ?_)
      rw [hE]
      exact fun w hS => ⟨rfl, hS.sub (by repeat (first | exact SubL.nil | (apply SubL.cons; (repeat (first | exact At.here | apply At.there))) | exact SubL.refl _ | apply SubL.skip))⟩
    · skip
      have hE : idxP p sheet = (idxL p (chV p sheet).1, 0) := hy
      refine rtn (h := ?_)
      refine q_blk_ret (h := ?_)
      refine q_then_ret (h := ?_)
      refine q_retM (hR := ?_)
      rw [hE]
      exact fun w hS => ⟨rfl, hS.sub (by repeat (first | exact SubL.nil | (apply SubL.cons; (repeat (first | exact At.here | apply At.there))) | exact SubL.refl _ | apply SubL.skip))⟩
end Go.Proofs.Ytjkoaifjmcgpfaa
