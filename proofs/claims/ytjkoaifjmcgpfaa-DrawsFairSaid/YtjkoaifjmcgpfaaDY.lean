/- Walks of draws, thirteen: Without of the program and of the document. -/
import Derived.Test.YtjkoaifjmcgpfaaDX
namespace Go.Proofs.Ytjkoaifjmcgpfaa
open Go Go.RowKit

theorem wth_len (p : Pl) (players : List Int) : (wthP p players).ps.length ≤ p.ps.length := List.length_filter_le _ _
theorem wthR_len (p : Pl) (players : List Int) : (wthR p players).1.ps.length ≤ p.ps.length ∧ (wthR p players).1.lots.length ≤ p.lots.length := by
  unfold wthR
  cases pOk p
  · exact ⟨Nat.zero_le _, Nat.zero_le _⟩
  · cases players.any fun n => decide (perI p n < 0)
    · cases pOk (wthP p players)
      · exact ⟨Nat.zero_le _, Nat.zero_le _⟩
      · exact ⟨wth_len p players, Nat.le_refl _⟩
    · exact ⟨Nat.zero_le _, Nat.zero_le _⟩
set_option maxHeartbeats 2000000 in
theorem C_dr_Without (p : Pl) (a : PA) (hz0 : -9223372036854775808 ≤ p.size ∧ p.size ≤ 9223372036854775807) (l : List Int) (lA : Option Addr) (n c : Nat) (hn : l.length = n) (hn2 : n ≤ 9223372036854775807) (hpm : p.ps.length ≤ 1000 ∧ p.lots.length ≤ 1000) (w : World) (h : PRd w p a) (hL : Rd w lA 1 n (enI l)) :
    CR Try.prog 40 [p.val a, .slice lA n c] w (fun b : PA => (wthR p l).1.ps.length ≤ b.pc) (fun b => .tuple #[(wthR p l).1.val b, .int .i64 (wthR p l).2]) (fun b => [.own b.pA b.pc 42 3 (wthR p l).1.ps.length (encPs (wthR p l).1.ps), .own b.lA b.lc 3 1 (wthR p l).1.lots.length (enI (wthR p l).1.lots)]) := by
  obtain ⟨hp, hl, hpn, hln, hpc⟩ := h
  refine ⟨en Try.func40 Try.ntmps40 ((((St.init w).share (e := .ro a.pA 3 p.ps.length (encPs p.ps)) hp rfl rfl rfl).share (e := .ro a.lA 1 p.lots.length (enI p.lots)) hl rfl rfl rfl).share (e := .ro lA 1 n (enI l)) hL rfl rfl rfl) (h := fun F => ?_)⟩
  refine sq (h := ?_)
  refine rg (h := ?_)
  refine bxA (h := fun b0 => ?_)
  refine bx (h := fun b1 => ?_)
  refine al (h := fun b2 => ?_)
  refine WL.y (hy := asg) (h := ?_)
  refine nl (h := ?_)
  refine q_seq (h := ?_)
  refine sq (h := ?_)
  refine sq (h := ?_)
  refine rg (h := ?_)
  refine WL.y (hy := (by first | exact ldA | exact ldEA)) (h := ?_)
  refine cl0 (hc := fun w hS => C_dr_Check p a hz0 w ⟨hS.get (by repeat (first | exact Rds.ro | apply Rds.there)), hS.get (by repeat (first | exact Rds.ro | apply Rds.there)), hpn, hln, hpc⟩) (h := ?_)
  refine WL.y (hy := asg) (h := ?_)
  refine nl (h := ?_)
  refine q_seq (h := ?_)
  refine sq (h := ?_)
  refine rg (h := ?_)
  refine WL.y (hy := mv) (h := ?_)
  refine WL.y (hy := neq) (h := ?_)
  refine nl (h := ?_)
  refine q_seq (h := ?_)
  refine cd (by exact rfl) (fun h0 => ?_) (fun h0 => ?_)
  · skip
    have hb := chkP_no h0
    have hE : wthR p l = (Pl0, chkP p) := by rw [wthR, chkP, hb]; rfl
    refine WC.nilOwn 42 3 (h := ?_)
    refine WC.nilOwn 3 1 (h := ?_)
    refine sq (h := ?_)
    refine rg (h := ?_)
    refine WL.y (hy := bd) (h := ?_)
    refine WL.y (hy := mv) (h := ?_)
    first | refine stA (h := ?_) | refine stEA (h := ?_)
    refine WL.y (hy := asg) (h := ?_)
    refine nl (h := ?_)
    refine q_seq (h := ?_)
    refine rtn (h := ?_)
    refine q_then_ret (h := ?_)
    refine q_ret (hR := ?_)
    rw [hE]
    exact fun w hS => ⟨⟨none, none, 0, 0⟩, Nat.zero_le _, rfl, hS.sub (by repeat (first | exact SubL.nil | (apply SubL.cons; (repeat (first | exact At.here | apply At.there))) | exact SubL.refl _ | apply SubL.skip))⟩
  · skip
    obtain ⟨hq, hb⟩ := chkP_ok h0
    refine skp (h := ?_)
    refine q_seq (h := ?_)
    refine sq (h := ?_)
    refine sq (h := ?_)
    refine rg (h := ?_)
    refine WL.y (hy := (by first | exact ld | exact ldE)) (h := ?_)
    refine WL.y (hy := mkf) (h := ?_)
    refine clT (hc := T_ContainsInt (E := .ro lA 1 n (enI l)) (A := lA) (c := c) (ws := l) (fun w h => h) (g := 70) inferInstance [] [.pointer (some ⟨b0, 0, none⟩)] [.blk b0 25 (p.cells a), .ro a.pA 3 p.ps.length (encPs p.ps), .ro a.lA 1 p.lots.length (enI p.lots)] (fun n => decide (perI p n < 0)) hn2 hn (fun x _ => T_without1 p a hpn hln hpc b0 x)) (hs := (by repeat (first | exact Spl.nil | (apply Spl.cons; (repeat (first | exact At.here | apply At.there)))))) (h := fun _ _ => ?_)
    refine nl (h := ?_)
    refine q_seq (h := ?_)
    refine cd (by exact rfl) (fun h1 => ?_) (fun h1 => ?_)
    · skip
      have hno : (l.any fun n => decide (perI p n < 0)) = true := by rw [← hn, pAt_any] at h1; exact h1
      have hE : wthR p l = (Pl0, 1) := by rw [wthR, hb, hno]; rfl
      refine WC.nilOwn 42 3 (h := ?_)
      refine WC.nilOwn 3 1 (h := ?_)
      refine sq (h := ?_)
      refine rg (h := ?_)
      refine WL.y (hy := bd) (h := ?_)
      first | refine stA (h := ?_) | refine stEA (h := ?_)
      refine WL.y (hy := asg) (h := ?_)
      refine nl (h := ?_)
      refine q_seq (h := ?_)
      refine rtn (h := ?_)
      refine q_then_ret (h := ?_)
      refine q_ret (hR := ?_)
      rw [hE]
      exact fun w hS => ⟨⟨none, none, 0, 0⟩, Nat.zero_le _, rfl, hS.sub (by repeat (first | exact SubL.nil | (apply SubL.cons; (repeat (first | exact At.here | apply At.there))) | exact SubL.refl _ | apply SubL.skip))⟩
    · skip
      have hno : (l.any fun n => decide (perI p n < 0)) = false := by rw [← hn, pAt_any] at h1; exact h1
      refine skp (h := ?_)
      refine q_seq (h := ?_)
      refine sq (h := ?_)
      refine rg (h := ?_)
      refine WL.y (hy := (by first | exact fa | exact faE)) (h := ?_)
      refine WL.y (hy := (by first | exact ld | exact ldE)) (h := ?_)
      refine cl (hc := fun w hS => C_CloneInts a.lA p.lots.length a.lc (enI p.lots) w (hS.get (by repeat (first | exact Rds.ro | apply Rds.there))) (by omega)) (h := fun x1 _ => ?_)
      refine WL.y (hy := (by first | exact fa | exact faE)) (h := ?_)
      first | refine st (h := ?_) | refine stE (h := ?_)
      refine nl (h := ?_)
      refine q_seq (h := ?_)
      refine sq (h := ?_)
      refine rg (h := ?_)
      refine WL.y (hy := (by first | exact fa | exact faE)) (h := ?_)
      refine WL.y (hy := (by first | exact ld | exact ldE)) (h := ?_)
      refine cl (hc := fun w hS => C_ClonePs a.pA p.ps.length a.pc (encPs p.ps) w (hS.get (by repeat (first | exact Rds.ro | apply Rds.there))) (by omega)) (h := fun x2 _ => ?_)
      refine WL.y (hy := mkf) (h := ?_)
      refine clT (hc := T_DeletePs (A := x2.1) (c := x2.2) (xs := p.ps) (g := 74) inferInstance [] [.pointer (some ⟨b1, 0, none⟩)] [.blk b1 23 [.slice lA n c], .ro lA 1 n (enI l)] (fun x => inV l x.player) (by omega) rfl (fun x _ => T_without2 l lA n c hn2 b1 x)) (hs := (by repeat (first | exact Spl.nil | (apply Spl.cons; (repeat (first | exact At.here | apply At.there)))))) (h := fun _ _ => ?_)
      refine WL.y (hy := (by first | exact fa | exact faE)) (h := ?_)
      first | refine st (h := ?_) | refine stE (h := ?_)
      refine nl (h := ?_)
      refine q_seq (h := ?_)
      refine sq (h := ?_)
      refine sq (h := ?_)
      have hwl := wth_len p l
      refine WC.room (A := x2.1) (k := (wthP p l).ps.length) (by repeat (first | exact At.here | apply At.there)) (h := fun hrm => ?_)
      refine rg (h := ?_)
      refine WL.y (hy := (by first | exact ldA | exact ldEA)) (h := ?_)
      refine cl0 (hc := fun w hS => C_dr_Check (wthP p l) ⟨x2.1, x1.1, x2.2, x1.2⟩ hz0 w ⟨hS.get (by repeat (first | exact Rds.own | apply Rds.there)), hS.get (by repeat (first | exact Rds.own | apply Rds.there)), by omega, hln, hrm.1⟩) (h := ?_)
      refine WL.y (hy := neq) (h := ?_)
      refine nl (h := ?_)
      refine q_seq (h := ?_)
      refine cd (by exact rfl) (fun h2 => ?_) (fun h2 => ?_)
      · skip
        have hE : wthR p l = (Pl0, 3) := by rw [wthR, hb, hno, chkP_no h2]; rfl
        refine WC.nilOwn 42 3 (h := ?_)
        refine WC.nilOwn 3 1 (h := ?_)
        refine sq (h := ?_)
        refine rg (h := ?_)
        refine WL.y (hy := bd) (h := ?_)
        first | refine stA (h := ?_) | refine stEA (h := ?_)
        refine WL.y (hy := asg) (h := ?_)
        refine nl (h := ?_)
        refine q_seq (h := ?_)
        refine rtn (h := ?_)
        refine q_then_ret (h := ?_)
        refine q_ret (hR := ?_)
        rw [hE]
        exact fun w hS => ⟨⟨none, none, 0, 0⟩, Nat.zero_le _, rfl, hS.sub (by repeat (first | exact SubL.nil | (apply SubL.cons; (repeat (first | exact At.here | apply At.there))) | exact SubL.refl _ | apply SubL.skip))⟩
      · skip
        obtain ⟨hq2, hb2⟩ := chkP_ok h2
        have hE : wthR p l = (wthP p l, 0) := by rw [wthR, hb, hno, hb2]; rfl
        refine skp (h := ?_)
        refine q_seq (h := ?_)
        refine sq (h := ?_)
        refine rg (h := ?_)
        refine WL.y (hy := (by first | exact ldA | exact ldEA)) (h := ?_)
        first | refine stA (h := ?_) | refine stEA (h := ?_)
        refine WL.y (hy := asg) (h := ?_)
        refine nl (h := ?_)
        refine q_seq (h := ?_)
        refine rtn (h := ?_)
        refine q_ret (hR := ?_)
        rw [hE]
        exact fun w hS => ⟨⟨x2.1, x1.1, x2.2, x1.2⟩, hrm.1, rfl, hS.sub (by repeat (first | exact SubL.nil | (apply SubL.cons; (repeat (first | exact At.here | apply At.there))) | exact SubL.refl _ | apply SubL.skip))⟩
def fltP (p : Pl) (l : List Int) (k : Nat) : List Ps := (p.ps.take k).filter fun x => !inV l x.player
theorem flt_len (p : Pl) (l : List Int) (k : Nat) : (fltP p l k).length ≤ k := Nat.le_trans (List.length_filter_le _ _) (by rw [List.length_take]; omega)
theorem flt_succ {p : Pl} {l : List Int} {k : Nat} {x : Ps} (h : p.ps[k]? = some x) : fltP p l (k + 1) = fltP p l k ++ (bif inV l x.player then [] else [x]) := by
  unfold fltP
  rw [List.take_add_one, h, List.filter_append]
  cases hi : inV l x.player <;> simp [hi]
theorem encPs_app (xs : List Ps) (x : Ps) : encPs (xs ++ [x]) = encPs xs ++ [x.enc] := by simp [encPs]
structure WZ where
  (k : Nat) (A : Option Addr) (c : Nat)
set_option maxRecDepth 100000 in
set_option maxHeartbeats 2000000 in
theorem C_ref06_Without (p : Pl) (a : PA) (hz0 : -9223372036854775808 ≤ p.size ∧ p.size ≤ 9223372036854775807) (l : List Int) (lA : Option Addr) (n c : Nat) (hn : l.length = n) (hn2 : n ≤ 9223372036854775807) (hpm : p.ps.length ≤ 1000 ∧ p.lots.length ≤ 1000) (w : World) (h : PRd w p a) (hL : Rd w lA 1 n (enI l)) :
    CR Try.prog 43 [p.val a, .slice lA n c] w (fun b : PA => (wthR p l).1.ps.length ≤ b.pc) (fun b => .tuple #[(wthR p l).1.val b, .int .i64 (wthR p l).2]) (fun b => [.own b.pA b.pc 42 3 (wthR p l).1.ps.length (encPs (wthR p l).1.ps), .own b.lA b.lc 3 1 (wthR p l).1.lots.length (enI (wthR p l).1.lots)]) := by
  obtain ⟨hp, hl, hpn, hln, hpc⟩ := h
  refine ⟨en Try.func43 Try.ntmps43 ((((St.init w).share (e := .ro a.pA 3 p.ps.length (encPs p.ps)) hp rfl rfl rfl).share (e := .ro a.lA 1 p.lots.length (enI p.lots)) hl rfl rfl rfl).share (e := .ro lA 1 n (enI l)) hL rfl rfl rfl) (h := fun F => ?_)⟩
  refine sq (h := ?_)
  refine rg (h := ?_)
  refine bxA (h := fun b0 => ?_)
  refine al (h := fun b1 => ?_)
  refine WL.y (hy := asg) (h := ?_)
  refine nl (h := ?_)
  refine q_seq (h := ?_)
  refine sq (h := ?_)
  refine sq (h := ?_)
  refine rg (h := ?_)
  refine WL.y (hy := (by first | exact ldA | exact ldEA)) (h := ?_)
  refine cl0 (hc := fun w hS => C_ref06_Check p a hz0 w ⟨hS.get (by repeat (first | exact Rds.ro | apply Rds.there)), hS.get (by repeat (first | exact Rds.ro | apply Rds.there)), hpn, hln, hpc⟩) (h := ?_)
  refine WL.y (hy := neq) (h := ?_)
  refine nl (h := ?_)
  refine q_seq (h := ?_)
  refine cd (by exact rfl) (fun h0 => ?_) (fun h0 => ?_)
  · skip
    have hb := chkP_no h0
    have hE : wthR p l = (Pl0, 60) := by rw [wthR, hb]; rfl
    refine WC.nilOwn 42 3 (h := ?_)
    refine WC.nilOwn 3 1 (h := ?_)
    refine sq (h := ?_)
    refine rg (h := ?_)
    refine WL.y (hy := bd) (h := ?_)
    first | refine stA (h := ?_) | refine stEA (h := ?_)
    refine WL.y (hy := asg) (h := ?_)
    refine nl (h := ?_)
    refine q_seq (h := ?_)
    refine rtn (h := ?_)
    refine q_then_ret (h := ?_)
    refine q_ret (hR := ?_)
    rw [hE]
    exact fun w hS => ⟨⟨none, none, 0, 0⟩, Nat.zero_le _, rfl, hS.sub (by repeat (first | exact SubL.nil | (apply SubL.cons; (repeat (first | exact At.here | apply At.there))) | exact SubL.refl _ | apply SubL.skip))⟩
  · skip
    obtain ⟨hq, hb⟩ := chkP_ok h0
    refine skp (h := ?_)
    refine q_seq (h := ?_)
    refine sq (h := ?_)
    refine sq (h := ?_)
    refine rg (h := ?_)
    refine WL.y (hy := asg) (h := ?_)
    refine nl (h := ?_)
    refine q_seq (h := ?_)
    refine bk (h := ?_)
    refine lp (X := IZ) (I := fun z => z.k ≤ n ∧ ((l.take z.k).any fun n => decide (perI p n < 0)) = false) (le := fun z => [(1, .slice lA n c), (2, .pointer (some ⟨b0, 0, none⟩)), (4, .pointer (some ⟨b1, 0, none⟩)), (6, .int .i64 z.k)]) (Le := fun _ => .blk b1 25 (Pl0.cells ⟨none, none, 0, 0⟩) :: .ro lA 1 n (enI l) :: plL p a b0) (μ := fun z => n - z.k) ⟨0⟩ ⟨Nat.zero_le _, rfl⟩ (by repeat (first | exact trivial | refine ⟨rfl, ?_⟩)) (by repeat (first | exact SubL.nil | (apply SubL.cons; (repeat (first | exact At.here | apply At.there))) | exact SubL.refl _ | apply SubL.skip)) (fun z hz => ?_)
    obtain ⟨hz1, hz2⟩ := hz
    refine sq (h := ?_)
    refine sq (h := ?_)
    refine rg (h := ?_)
    refine WL.y (hy := mv) (h := ?_)
    refine WL.y (hy := mv) (h := ?_)
    refine WL.y (hy := lenS) (h := ?_)
    refine WL.y (hy := lss) (h := ?_)
    refine nl (h := ?_)
    refine q_seq (h := ?_)
    refine cd (by exact rfl) (fun h1 => ?_) (fun h1 => ?_)
    · skip
      have hkn : z.k < n := by simp only [decide_eq_true_eq] at h1; omega
      obtain ⟨x, hx1⟩ : ∃ x, l[z.k]? = some x := ⟨_, List.getElem?_eq_getElem (by omega)⟩
      have hxe := enI_at hx1
      refine skp (h := ?_)
      refine q_seq (h := ?_)
      refine sq (h := ?_)
      refine bk (h := ?_)
      refine sq (h := ?_)
      refine rgD0 (by kernel_rfl) (h := ?_)
      refine tk 0 (hy := (by first | exact ldA | exact ldEA)) (h := ?_)
      refine tk 1 (hy := mv) (h := ?_)
      refine tk 2 (hy := mv) (h := ?_)
      refine tk 3 (hy := ix (A := lA) (m := n)) (h := ?_)
      refine tk 4 (hy := ldE (A := lA) (hk := hxe)) (h := ?_)
      refine one 5 (h := ?_)
      refine cl0 (hc := fun w hS => C_Number p a x w ⟨hS.get (by repeat (first | exact Rds.ro | apply Rds.there)), hS.get (by repeat (first | exact Rds.ro | apply Rds.there)), hpn, hln, hpc⟩) (h := ?_)
      refine nx (h := ?_)
      refine tk 6 (hy := lss) (h := ?_)
      refine dn (h := ?_)
      refine q_seq (h := ?_)
      refine cd (by exact rfl) (fun h2 => ?_) (fun h2 => ?_)
      · skip
        have hno : (l.any fun n => decide (perI p n < 0)) = true := List.any_eq_true.2 ⟨x, List.mem_of_getElem? hx1, h2⟩
        have hE : wthR p l = (Pl0, 1) := by rw [wthR, hb, hno]; rfl
        refine WC.nilOwn 42 3 (h := ?_)
        refine WC.nilOwn 3 1 (h := ?_)
        refine sq (h := ?_)
        refine rg (h := ?_)
        refine WL.y (hy := bd) (h := ?_)
        first | refine stA (h := ?_) | refine stEA (h := ?_)
        refine WL.y (hy := asg) (h := ?_)
        refine nl (h := ?_)
        refine q_seq (h := ?_)
        refine rtn (h := ?_)
        refine q_blk_ret (h := ?_)
        refine q_then_ret (h := ?_)
        refine q_then_ret (h := ?_)
        refine q_blk_ret (h := ?_)
        refine q_then_ret (h := ?_)
        refine q_ret (hR := ?_)
        rw [hE]
        exact fun w hS => ⟨⟨none, none, 0, 0⟩, Nat.zero_le _, rfl, hS.sub (by repeat (first | exact SubL.nil | (apply SubL.cons; (repeat (first | exact At.here | apply At.there))) | exact SubL.refl _ | apply SubL.skip))⟩
      · skip
        have hgo : ((l.take (z.k + 1)).any fun n => decide (perI p n < 0)) = false := by rw [List.take_add_one, hx1, List.any_append, hz2]; simpa using h2
        refine skp (h := ?_)
        refine q_blk_norm (h := ?_)
        refine q_seq (h := ?_)
        refine rg (h := ?_)
        refine WL.y (hy := mv) (h := ?_)
        refine WL.y (hy := addI) (h := ?_)
        refine WL.y (hy := asg) (h := ?_)
        refine nl (h := ?_)
        refine rn (x := z) ⟨z.k + 1⟩ ⟨by dsimp only; omega, hgo⟩ (by dsimp only; omega) (by repeat (first | exact trivial | refine ⟨rfl, ?_⟩)) (by repeat (first | exact SubL.nil | (apply SubL.cons; (repeat (first | exact At.here | apply At.there))) | exact SubL.refl _ | apply SubL.skip))
    · skip
      have hkn : z.k = n := by simp only [decide_eq_false_iff_not] at h1; omega
      have hno : (l.any fun n => decide (perI p n < 0)) = false := by rw [hkn, List.take_of_length_le (by omega)] at hz2; exact hz2
      refine et (h := ?_)
      refine q_then_exit (h := ?_)
      refine q_then_exit (h := ?_)
      refine q_blk_hit (h := ?_)
      refine q_seq (h := ?_)
      refine sq (h := ?_)
      refine rg (h := ?_)
      refine WL.y (hy := (by first | exact ldA | exact ldEA)) (h := ?_)
      refine cl (hc := fun w hS => C_ref06_Copy p a ⟨by omega, by omega⟩ w ⟨hS.get (by repeat (first | exact Rds.ro | apply Rds.there)), hS.get (by repeat (first | exact Rds.ro | apply Rds.there)), hpn, hln, hpc⟩) (h := fun x0 hx0 => ?_)
      refine al (h := fun b2 => ?_)
      first | refine stA (h := ?_) | refine stEA (h := ?_)
      refine nl (h := ?_)
      refine q_seq (h := ?_)
      refine sq (h := ?_)
      refine rg (h := ?_)
      refine WL.y (hy := (by first | exact fa | exact faE)) (h := ?_)
      first | refine st (h := ?_) | refine stE (h := ?_)
      refine nl (h := ?_)
      refine q_seq (h := ?_)
      refine sq (h := ?_)
      refine sq (h := ?_)
      refine WC.nilOwn 42 3 (h := ?_)
      refine rg (h := ?_)
      refine WL.y (hy := asg) (h := ?_)
      refine nl (h := ?_)
      refine q_seq (h := ?_)
      refine bk (h := ?_)
      refine lp (X := WZ) (I := fun u => u.k ≤ p.ps.length) (le := fun u => [(1, .slice lA n c), (2, .pointer (some ⟨b0, 0, none⟩)), (4, .pointer (some ⟨b1, 0, none⟩)), (7, .pointer (some ⟨b2, 0, none⟩)), (8, .int .i64 u.k)]) (Le := fun u => .own u.A u.c 42 3 (fltP p l u.k).length (encPs (fltP p l u.k)) :: .blk b2 25 [.int .i64 p.size, .int .i64 p.seeds, .slice u.A (fltP p l u.k).length u.c, .slice x0.lA p.lots.length x0.lc] :: .own x0.lA x0.lc 3 1 p.lots.length (enI p.lots) :: .blk b1 25 (Pl0.cells ⟨none, none, 0, 0⟩) :: .ro lA 1 n (enI l) :: plL p a b0) (μ := fun u => p.ps.length - u.k) ⟨0, none, 0⟩ (Nat.zero_le _) (by repeat (first | exact trivial | refine ⟨rfl, ?_⟩)) (by repeat (first | exact SubL.nil | (apply SubL.cons; (repeat (first | exact At.here | apply At.there))) | exact SubL.refl _ | apply SubL.skip)) (fun u hu => ?_)
      refine sq (h := ?_)
      refine sq (h := ?_)
      refine rg (h := ?_)
      refine WL.y (hy := mv) (h := ?_)
      refine WL.y (hy := (by first | exact fa | exact faE)) (h := ?_)
      refine WL.y (hy := (by first | exact ld | exact ldE)) (h := ?_)
      refine WL.y (hy := lenS) (h := ?_)
      refine WL.y (hy := lss) (h := ?_)
      refine nl (h := ?_)
      refine q_seq (h := ?_)
      refine cd (by exact rfl) (fun h3 => ?_) (fun h3 => ?_)
      · skip
        have hkn2 : u.k < p.ps.length := by simp only [decide_eq_true_eq] at h3; omega
        obtain ⟨x, hx1⟩ : ∃ x, p.ps[u.k]? = some x := ⟨_, List.getElem?_eq_getElem hkn2⟩
        have hxe := encPs_at hx1
        have hst := flt_succ (l := l) hx1
        have hfl := flt_len p l u.k
        refine skp (h := ?_)
        refine q_seq (h := ?_)
        refine sq (h := ?_)
        refine bk (h := ?_)
        refine sq (h := ?_)
        refine rg (h := ?_)
        refine WL.y (hy := mv) (h := ?_)
        refine WL.y (hy := (by first | exact fa | exact faE)) (h := ?_)
        refine WL.y (hy := (by first | exact ld | exact ldE)) (h := ?_)
        refine WL.y (hy := mv) (h := ?_)
        refine WL.y (hy := ix (A := a.pA) (m := p.ps.length)) (h := ?_)
        refine WL.y (hy := (by first | exact fa | exact faE)) (h := ?_)
        refine WL.y (hy := ldE (A := a.pA) (hk := hxe)) (h := ?_)
        refine cl0 (hc := fun w hS => C_In l x.player lA n c hn2 w (hS.get (by repeat (first | exact Rds.ro | apply Rds.there)))) (h := ?_)
        refine WL.y (hy := notB) (h := ?_)
        refine nl (h := ?_)
        refine q_seq (h := ?_)
        refine cd (by exact rfl) (fun h4 => ?_) (fun h4 => ?_)
        · skip
          have hst2 : fltP p l (u.k + 1) = fltP p l u.k ++ [x] := by rw [hst, (by simpa using h4 : inV l x.player = false)]; rfl
          refine rgD (by kernel_rfl) [(8, .own u.A u.c 42 3 (fltP p l u.k).length (encPs (fltP p l u.k))), (10, .blk b2 25 [.int .i64 p.size, .int .i64 p.seeds, .slice u.A (fltP p l u.k).length u.c, .slice x0.lA p.lots.length x0.lc]), (1000000, .blk b0 25 (p.cells a)), (1000000, .ro a.pA 3 p.ps.length (encPs p.ps))] (by repeat (first | exact HS.nil | (apply HS.keep; (repeat (first | exact At.here | apply At.there))) | (apply HS.ro; (repeat (first | exact Rds.ro | exact Rds.own | apply Rds.there))))) (h := ?_)
          refine tk 0 (hy := (by first | exact fa | exact faE)) (h := ?_)
          refine tk 1 (hy := (by first | exact ld | exact ldE)) (h := ?_)
          refine tk 2 (hy := (by first | exact fa | exact faE)) (h := ?_)
          refine tk 3 (hy := (by first | exact ld | exact ldE)) (h := ?_)
          refine tk 4 (hy := mv) (h := ?_)
          refine tk 5 (hy := ix (A := a.pA) (m := p.ps.length)) (h := ?_)
          refine tk 6 (hy := ldEA (A := a.pA) (hk := hxe)) (h := ?_)
          refine one 7 (h := ?_)
          refine bs (h := fun b3 => ?_)
          refine nx (h := ?_)
          refine one 8 (h := ?_)
          first | refine ap (h := fun A1 c1 => ?_) | refine ap0 (h := fun A1 c1 => ?_)
          refine nx (h := ?_)
          refine one 9 (h := ?_)
          refine WL.y (hy := by first | exact fa | exact faE) (h := ?_)
          refine nx (h := ?_)
          refine one 10 (h := ?_)
          first | refine st (h := ?_) | refine stE (h := ?_)
          refine nx (h := ?_)
          refine dn (h := ?_)
          refine q_blk_norm (h := ?_)
          refine q_seq (h := ?_)
          refine rg (h := ?_)
          refine WL.y (hy := mv) (h := ?_)
          refine WL.y (hy := addI) (h := ?_)
          refine WL.y (hy := asg) (h := ?_)
          refine nl (h := ?_)
          refine rn (x := u) ⟨u.k + 1, _, _⟩ (by dsimp only; omega) (by dsimp only; omega) (by repeat (first | exact trivial | refine ⟨rfl, ?_⟩)) (by dsimp only; rw [hst2]; (try rw [encPs_app, List.length_append]); repeat (first | exact SubL.nil | (apply SubL.cons; (repeat (first | exact At.here | apply At.there))) | exact SubL.refl _ | apply SubL.skip))
        · skip
          have hst2 : fltP p l (u.k + 1) = fltP p l u.k := by rw [hst, (by simpa using h4 : inV l x.player = true)]; simp
          refine skp (h := ?_)
          refine q_blk_norm (h := ?_)
          refine q_seq (h := ?_)
          refine rg (h := ?_)
          refine WL.y (hy := mv) (h := ?_)
          refine WL.y (hy := addI) (h := ?_)
          refine WL.y (hy := asg) (h := ?_)
          refine nl (h := ?_)
          refine rn (x := u) ⟨u.k + 1, _, _⟩ (by dsimp only; omega) (by dsimp only; omega) (by repeat (first | exact trivial | refine ⟨rfl, ?_⟩)) (by dsimp only; rw [hst2]; (try rw [encPs_app, List.length_append]); repeat (first | exact SubL.nil | (apply SubL.cons; (repeat (first | exact At.here | apply At.there))) | exact SubL.refl _ | apply SubL.skip))
      · skip
        have hkn2 : u.k = p.ps.length := by simp only [decide_eq_false_iff_not] at h3; omega
        have hfl : fltP p l u.k = (wthP p l).ps := by rw [hkn2, fltP, List.take_length]; rfl
        rw [hfl]
        refine et (h := ?_)
        refine q_then_exit (h := ?_)
        refine q_then_exit (h := ?_)
        refine q_blk_hit (h := ?_)
        refine q_seq (h := ?_)
        refine sq (h := ?_)
        refine sq (h := ?_)
        have hwl := wth_len p l
        refine WC.room (A := u.A) (k := (wthP p l).ps.length) (by repeat (first | exact At.here | apply At.there)) (h := fun hrm => ?_)
        refine rg (h := ?_)
        refine WL.y (hy := (by first | exact ldA | exact ldEA)) (h := ?_)
        refine cl0 (hc := fun w hS => C_ref06_Check (wthP p l) ⟨u.A, x0.lA, u.c, x0.lc⟩ hz0 w ⟨hS.get (by repeat (first | exact Rds.own | apply Rds.there)), hS.get (by repeat (first | exact Rds.own | apply Rds.there)), by omega, hln, hrm.1⟩) (h := ?_)
        refine WL.y (hy := neq) (h := ?_)
        refine nl (h := ?_)
        refine q_seq (h := ?_)
        refine cd (by exact rfl) (fun h5 => ?_) (fun h5 => ?_)
        · skip
          have hE : wthR p l = (Pl0, 3) := by rw [wthR, hb, hno, chkP_no h5]; rfl
          refine WC.nilOwn 42 3 (h := ?_)
          refine WC.nilOwn 3 1 (h := ?_)
          refine sq (h := ?_)
          refine rg (h := ?_)
          refine WL.y (hy := bd) (h := ?_)
          first | refine stA (h := ?_) | refine stEA (h := ?_)
          refine WL.y (hy := asg) (h := ?_)
          refine nl (h := ?_)
          refine q_seq (h := ?_)
          refine rtn (h := ?_)
          refine q_then_ret (h := ?_)
          refine q_ret (hR := ?_)
          rw [hE]
          exact fun w hS => ⟨⟨none, none, 0, 0⟩, Nat.zero_le _, rfl, hS.sub (by repeat (first | exact SubL.nil | (apply SubL.cons; (repeat (first | exact At.here | apply At.there))) | exact SubL.refl _ | apply SubL.skip))⟩
        · skip
          obtain ⟨hq2, hb2⟩ := chkP_ok h5
          have hE : wthR p l = (wthP p l, 0) := by rw [wthR, hb, hno, hb2]; rfl
          refine skp (h := ?_)
          refine q_seq (h := ?_)
          refine sq (h := ?_)
          refine rg (h := ?_)
          refine WL.y (hy := (by first | exact ldA | exact ldEA)) (h := ?_)
          first | refine stA (h := ?_) | refine stEA (h := ?_)
          refine WL.y (hy := asg) (h := ?_)
          refine nl (h := ?_)
          refine q_seq (h := ?_)
          refine rtn (h := ?_)
          refine q_ret (hR := ?_)
          rw [hE]
          exact fun w hS => ⟨⟨u.A, x0.lA, u.c, x0.lc⟩, hrm.1, rfl, hS.sub (by repeat (first | exact SubL.nil | (apply SubL.cons; (repeat (first | exact At.here | apply At.there))) | exact SubL.refl _ | apply SubL.skip))⟩
end Go.Proofs.Ytjkoaifjmcgpfaa
