/- The texts of the walk, part 6. -/
import Derived.Test.YtacaojifempclaaJ5
namespace Go.Proofs.Ytacaojifempclaa
open Go Go.RowKit

theorem C_ref9_check (d : Dp) (a : DA) (item day : Int) (w : World) (h : DpR w d a) (hsm : ∀ x ∈ d.fx, x.b.st.length ≤ 1000) : C0 Try.prog 72 [d.val a, .int .i64 item, .int .i64 day] w (.int .i64 (askE d item day)) := by
  refine ⟨en Try.func72 Try.ntmps72 ((St.init w).share (e := .ro a.sA 1 d.st.length (encI d.st)) h.s rfl rfl rfl) (h := fun F => ?_)⟩
  refine sq (h := ?_)
  refine rg (h := ?_)
  refine bxA (h := fun b0 => ?_)
  refine WL.y (hy := asg) (h := ?_)
  refine nl (h := ?_)
  refine q_seq (h := ?_)
  refine sq (h := ?_)
  refine sq (h := ?_)
  refine rg (h := ?_)
  refine WL.y (hy := (by first | exact ldA | exact ldEA)) (h := ?_)
  refine cl0 (hc := fun w hS => C_ref9_Check d a w (h.old hS) hsm) (h := ?_)
  refine WL.y (hy := neq) (h := ?_)
  refine nl (h := ?_)
  refine q_seq (h := ?_)
  refine cd (by exact rfl) (fun h0 => ?_) (fun h0 => ?_)
  · skip
    have hne : ¬ depE d = 0 := by simpa using h0
    have hE : askE d item day = 90 := by rw [askE, h0, cond_true]; rcases dep_val d with e | e; exact absurd e hne; exact e
    refine sq (h := ?_)
    refine rg (h := ?_)
    refine WL.y (hy := asg) (h := ?_)
    refine nl (h := ?_)
    refine q_seq (h := ?_)
    refine rtn (h := ?_)
    refine q_then_ret (h := ?_)
    refine q_ret (hR := ?_)
    rw [hE]
    exact fun w hS => ⟨rfl, hS.sub (by repeat (first | exact SubL.nil | (apply SubL.cons; (repeat (first | exact At.here | apply At.there))) | exact SubL.refl _ | apply SubL.skip))⟩
  · skip
    have hd := h0
    refine skp (h := ?_)
    refine q_seq (h := ?_)
    refine sq (h := ?_)
    refine sq (h := ?_)
    refine rg (h := ?_)
    refine WL.y (hy := mv) (h := ?_)
    refine cl0 (hc := fun w hS => C_ref9_within _ _ _ w) (h := ?_)
    refine WL.y (hy := notB) (h := ?_)
    refine WL.y (hy := mv) (h := ?_)
    apply brOr 4 13 17 (by exact rfl)
    · intro hb1
      refine un (h := ?_)
      refine WL.y (hy := mv) (h := ?_)
      refine un (h := ?_)
      refine cl0 (hc := fun w hS => C_ref9_within _ _ _ w) (h := ?_)
      refine un (h := ?_)
      refine WL.y (hy := notB) (h := ?_)
      refine WL.y (hy := (by first | exact pkT | exact pkF)) (h := ?_)
      exact mg (by repeat (first | exact trivial | refine ⟨rfl, ?_⟩ | refine ⟨by rw [hb1]; rfl, ?_⟩)) (by repeat (first | exact SubL.nil | (apply SubL.cons; (repeat (first | exact At.here | apply At.there))) | exact SubL.refl _ | apply SubL.skip))
    · intro hb1
      repeat (first | refine un (h := ?_) | refine sk (h := ?_) | refine WL.y (hy := pkF) (h := ?_) | refine WL.y (hy := pkT) (h := ?_))
      exact mg (by repeat (first | exact trivial | refine ⟨rfl, ?_⟩ | refine ⟨by rw [hb1]; rfl, ?_⟩)) (by repeat (first | exact SubL.nil | (apply SubL.cons; (repeat (first | exact At.here | apply At.there))) | exact SubL.refl _ | apply SubL.skip))
    refine nl (h := ?_)
    refine q_seq (h := ?_)
    refine cd (by exact rfl) (fun h2 => ?_) (fun h2 => ?_)
    · skip
      have hE : askE d item day = 1 := by rw [askE, hd, h2]; rfl
      refine sq (h := ?_)
      refine rg (h := ?_)
      refine WL.y (hy := asg) (h := ?_)
      refine nl (h := ?_)
      refine q_seq (h := ?_)
      refine rtn (h := ?_)
      refine q_then_ret (h := ?_)
      refine q_ret (hR := ?_)
      rw [hE]
      exact fun w hS => ⟨rfl, hS.sub (by repeat (first | exact SubL.nil | (apply SubL.cons; (repeat (first | exact At.here | apply At.there))) | exact SubL.refl _ | apply SubL.skip))⟩
    · skip
      have hE : askE d item day = 0 := by rw [askE, hd, h2]; rfl
      refine skp (h := ?_)
      refine q_seq (h := ?_)
      refine sq (h := ?_)
      refine rg (h := ?_)
      refine WL.y (hy := asg) (h := ?_)
      refine nl (h := ?_)
      refine q_seq (h := ?_)
      refine rtn (h := ?_)
      refine q_ret (hR := ?_)
      rw [hE]
      exact fun w hS => ⟨rfl, hS.sub (by repeat (first | exact SubL.nil | (apply SubL.cons; (repeat (first | exact At.here | apply At.there))) | exact SubL.refl _ | apply SubL.skip))⟩
theorem accN_succ {d : Dp} {item : Int} {dd k : Nat} {x : Fx} (h : d.fx[k]? = some x) : accN d item (k + 1) dd = bif decide (x.day = (dd : Int)) then ((accN d item k dd).1 + (ndV d.each d.tow d.fra x item).1, (accN d item k dd).2 + (ndV d.each d.tow d.fra x item).2) else accN d item k dd := by rw [accN, h]
set_option maxRecDepth 100000 in
theorem C_ref9_need (d : Dp) (a : DA) (item : Int) (dd : Nat) (hG : DepG d) (w : World) (h : DpR w d a) : C0 Try.prog 73 [d.val a, .int .i64 item, .int .i64 dd] w (pv (needD d item dd)) := by
  have hfl := hG.fl
  refine ⟨en Try.func73 Try.ntmps73 ((((St.init w).share (e := .ro a.sA 1 d.st.length (encI d.st)) h.s rfl rfl rfl).share (e := .ro a.fA 16 d.fx.length (d.fx.map Fx.enc)) h.f rfl rfl rfl).share (e := .ro a.cA 3 d.cr.length (d.cr.map Cx.enc)) h.c rfl rfl rfl) (h := fun F => ?_)⟩
  refine sq (h := ?_)
  refine rg (h := ?_)
  refine bxA (h := fun b0 => ?_)
  refine al (h := fun b1 => ?_)
  refine nl (h := ?_)
  refine q_seq (h := ?_)
  refine sq (h := ?_)
  refine rg (h := ?_)
  refine al (h := fun b2 => ?_)
  refine nl (h := ?_)
  refine q_seq (h := ?_)
  refine sq (h := ?_)
  refine sq (h := ?_)
  refine rg (h := ?_)
  refine WL.y (hy := asg) (h := ?_)
  refine nl (h := ?_)
  refine q_seq (h := ?_)
  refine bk (h := ?_)
  refine lp (X := Nat) (I := fun k => k ≤ d.fx.length) (le := fun k => [(1, .int .i64 item), (2, .int .i64 dd), (3, .pointer (some ⟨b0, 0, none⟩)), (6, .pointer (some ⟨b1, 0, none⟩)), (7, .pointer (some ⟨b2, 0, none⟩)), (8, .int .i64 k)]) (Le := fun k => [.blk b2 39 [.int .i64 (accN d item k dd).1, .int .i64 (accN d item k dd).2], .blk b1 39 [.int .i64 0, .int .i64 0], .blk b0 49 (d.cells a), .ro a.sA 1 d.st.length (encI d.st), .ro a.fA 16 d.fx.length (d.fx.map Fx.enc), .ro a.cA 3 d.cr.length (d.cr.map Cx.enc)]) (μ := fun k => d.fx.length - k) 0 (Nat.zero_le _) (by repeat (first | exact trivial | refine ⟨rfl, ?_⟩)) (by repeat (first | exact SubL.nil | (apply SubL.cons; (repeat (first | exact At.here | apply At.there))) | exact SubL.refl _ | apply SubL.skip)) (fun k hk => ?_)
  refine sq (h := ?_)
  refine sq (h := ?_)
  refine rg (h := ?_)
  refine WL.y (hy := mv) (h := ?_)
  refine WL.y (hy := (by first | exact fa | exact faE)) (h := ?_)
  refine WL.y (hy := (by first | exact ld | exact ldE)) (h := ?_)
  refine WL.y (hy := lenS) (h := ?_)
  refine WL.y (hy := lss) (h := ?_)
  refine nl (h := ?_)
  refine q_seq (h := ?_)
  refine cd (by exact rfl) (fun h0 => ?_) (fun h0 => ?_)
  · skip
    have hkn : k < d.fx.length := by have := of_decide_eq_true h0; omega
    obtain ⟨x, hx⟩ : ∃ x, d.fx[k]? = some x := ⟨_, List.getElem?_eq_getElem hkn⟩
    have hxg := hG.fx x (List.mem_of_getElem? hx)
    have hnr := nd_rng (item := item) ⟨hG.k1, hG.k2, hG.k3⟩ hxg.2
    have har := acc_rng hG item dd k
    have hac := accN_succ (item := item) (dd := dd) hx
    refine skp (h := ?_)
    refine q_seq (h := ?_)
    refine sq (h := ?_)
    refine bk (h := ?_)
    refine sq (h := ?_)
    refine rg (h := ?_)
    refine WL.y (hy := (by first | exact fa | exact faE)) (h := ?_)
    refine WL.y (hy := (by first | exact ld | exact ldE)) (h := ?_)
    refine WL.y (hy := mv) (h := ?_)
    refine WL.y (hy := ix (A := a.fA) (m := d.fx.length)) (h := ?_)
    refine WL.y (hy := (by first | exact fa | exact faE)) (h := ?_)
    refine WL.y (hy := ldE (A := a.fA) (hk := map_at hx)) (h := ?_)
    refine WL.y (hy := mv) (h := ?_)
    refine WL.y (hy := eql) (h := ?_)
    refine nl (h := ?_)
    refine q_seq (h := ?_)
    refine cd (by exact rfl) (fun h1 => ?_) (fun h1 => ?_)
    · skip
      rw [h1, cond_true] at hac
      refine sq (h := ?_)
      refine rgD0 (by kernel_rfl) (h := ?_)
      refine tk 0 (hy := (by first | exact ldA | exact ldEA)) (h := ?_)
      refine tk 1 (hy := (by first | exact fa | exact faE)) (h := ?_)
      refine tk 2 (hy := (by first | exact ld | exact ldE)) (h := ?_)
      refine tk 3 (hy := mv) (h := ?_)
      refine tk 4 (hy := ix (A := a.fA) (m := d.fx.length)) (h := ?_)
      refine tk 5 (hy := ldEW (A := a.fA) (hk := map_at hx)) (h := ?_)
      refine tk 6 (hy := mv) (h := ?_)
      refine two 7 8 (h1 := ?_) (h2 := ?_)
      · skip
        refine cl0 (hc := fun w hS => C_ref9_Needs d a x item ⟨hG.k1, hG.k2, hG.k3⟩ hxg.2 (check_chk hxg.2) (h.x x (List.mem_of_getElem? hx)).n w ((hS.old (h.x x (List.mem_of_getElem? hx)).r).get)) (h := ?_)
        refine nx (h := ?_)
        refine one 8 (h := ?_)
        refine al (h := fun bn => ?_)
        refine nx (h := ?_)
        refine one 9 (h := ?_)
        first | refine stA (h := ?_) | refine stEA (h := ?_)
        refine nx (h := ?_)
        refine dn (h := ?_)
        refine q_seq (h := ?_)
        refine rg (h := ?_)
        refine WL.y (hy := (by first | exact fa | exact faE)) (h := ?_)
        refine WL.y (hy := (by first | exact ld | exact ldE)) (h := ?_)
        refine WL.y (hy := (by first | exact fa | exact faE)) (h := ?_)
        refine WL.y (hy := (by first | exact ld | exact ldE)) (h := ?_)
        refine WL.y (hy := addI) (h := ?_)
        refine WL.y (hy := (by first | exact fa | exact faE)) (h := ?_)
        refine WL.y (hy := (by first | exact ld | exact ldE)) (h := ?_)
        refine WL.y (hy := (by first | exact fa | exact faE)) (h := ?_)
        refine WL.y (hy := (by first | exact ld | exact ldE)) (h := ?_)
        refine WL.y (hy := addI) (h := ?_)
        refine WL.y (hy := bd) (h := ?_)
        first | refine stA (h := ?_) | refine stEA (h := ?_)
        refine nl (h := ?_)
        refine q_blk_norm (h := ?_)
        refine q_seq (h := ?_)
        refine rg (h := ?_)
        refine WL.y (hy := mv) (h := ?_)
        refine WL.y (hy := addI) (h := ?_)
        refine WL.y (hy := asg) (h := ?_)
        refine nl (h := ?_)
        refine rn (x := k) (k + 1) hkn (by omega) (by repeat (first | exact trivial | refine ⟨rfl, ?_⟩)) (by rw [hac]; repeat (first | exact SubL.nil | (apply SubL.cons; (repeat (first | exact At.here | apply At.there))) | exact SubL.refl _ | apply SubL.skip))
      · skip
        refine al (h := fun bn => ?_)
        refine nx (h := ?_)
        refine one 7 (h := ?_)
        refine cl0 (hc := fun w hS => C_ref9_Needs d a x item ⟨hG.k1, hG.k2, hG.k3⟩ hxg.2 (check_chk hxg.2) (h.x x (List.mem_of_getElem? hx)).n w ((hS.old (h.x x (List.mem_of_getElem? hx)).r).get)) (h := ?_)
        refine nx (h := ?_)
        refine one 9 (h := ?_)
        first | refine stA (h := ?_) | refine stEA (h := ?_)
        refine nx (h := ?_)
        refine dn (h := ?_)
        refine q_seq (h := ?_)
        refine rg (h := ?_)
        refine WL.y (hy := (by first | exact fa | exact faE)) (h := ?_)
        refine WL.y (hy := (by first | exact ld | exact ldE)) (h := ?_)
        refine WL.y (hy := (by first | exact fa | exact faE)) (h := ?_)
        refine WL.y (hy := (by first | exact ld | exact ldE)) (h := ?_)
        refine WL.y (hy := addI) (h := ?_)
        refine WL.y (hy := (by first | exact fa | exact faE)) (h := ?_)
        refine WL.y (hy := (by first | exact ld | exact ldE)) (h := ?_)
        refine WL.y (hy := (by first | exact fa | exact faE)) (h := ?_)
        refine WL.y (hy := (by first | exact ld | exact ldE)) (h := ?_)
        refine WL.y (hy := addI) (h := ?_)
        refine WL.y (hy := bd) (h := ?_)
        first | refine stA (h := ?_) | refine stEA (h := ?_)
        refine nl (h := ?_)
        refine q_blk_norm (h := ?_)
        refine q_seq (h := ?_)
        refine rg (h := ?_)
        refine WL.y (hy := mv) (h := ?_)
        refine WL.y (hy := addI) (h := ?_)
        refine WL.y (hy := asg) (h := ?_)
        refine nl (h := ?_)
        refine rn (x := k) (k + 1) hkn (by omega) (by repeat (first | exact trivial | refine ⟨rfl, ?_⟩)) (by rw [hac]; repeat (first | exact SubL.nil | (apply SubL.cons; (repeat (first | exact At.here | apply At.there))) | exact SubL.refl _ | apply SubL.skip))
    · skip
      rw [h1, cond_false] at hac
      refine skp (h := ?_)
      refine q_blk_norm (h := ?_)
      refine q_seq (h := ?_)
      refine rg (h := ?_)
      refine WL.y (hy := mv) (h := ?_)
      refine WL.y (hy := addI) (h := ?_)
      refine WL.y (hy := asg) (h := ?_)
      refine nl (h := ?_)
      refine rn (x := k) (k + 1) hkn (by omega) (by repeat (first | exact trivial | refine ⟨rfl, ?_⟩)) (by rw [hac]; repeat (first | exact SubL.nil | (apply SubL.cons; (repeat (first | exact At.here | apply At.there))) | exact SubL.refl _ | apply SubL.skip))
  · skip
    have hkn : k = d.fx.length := by have := of_decide_eq_false h0; omega
    rw [hkn, show accN d item d.fx.length dd = needD d item dd from rfl]
    refine et (h := ?_)
    refine q_then_exit (h := ?_)
    refine q_then_exit (h := ?_)
    refine q_blk_hit (h := ?_)
    refine q_seq (h := ?_)
    refine sq (h := ?_)
    refine rg (h := ?_)
    refine WL.y (hy := (by first | exact ldA | exact ldEA)) (h := ?_)
    first | refine stA (h := ?_) | refine stEA (h := ?_)
    refine nl (h := ?_)
    refine q_seq (h := ?_)
    refine rtn (h := ?_)
    refine q_ret (hR := ?_)
    exact fun w hS => ⟨rfl, hS.sub (by repeat (first | exact SubL.nil | (apply SubL.cons; (repeat (first | exact At.here | apply At.there))) | exact SubL.refl _ | apply SubL.skip))⟩
theorem spanE_succ (L : Nat → Pr) (k : Nat) : spanE L (k + 1) = spanE L k ++ [[.int .i64 (L k).1, .int .i64 (L k).2]] := by
  unfold spanE; rw [List.range_succ, List.map_append]; rfl
structure ZL where
  (k : Nat) (A : Option Addr) (c : Nat)
set_option maxRecDepth 100000 in
set_option maxHeartbeats 2000000 in
theorem C_ref9_lefts (d : Dp) (a : DA) (item : Int) (hG : DepG d) (hi : 0 ≤ item ∧ item ≤ 2) (w : World) (h : DpR w d a) : CR Try.prog 74 [d.val a, .int .i64 item] w (fun _ : Option Addr × Nat => True) (fun x => .slice x.1 61 x.2) (fun x => [.own x.1 x.2 39 2 61 (spanE (fun j => lefD d item (j + 1)) 61)]) := by
  have hcl := hG.cl
  have hsl := hG.sl
  refine ⟨en Try.func74 Try.ntmps74 ((((St.init w).share (e := .ro a.sA 1 d.st.length (encI d.st)) h.s rfl rfl rfl).share (e := .ro a.fA 16 d.fx.length (d.fx.map Fx.enc)) h.f rfl rfl rfl).share (e := .ro a.cA 3 d.cr.length (d.cr.map Cx.enc)) h.c rfl rfl rfl) (h := fun F => ?_)⟩
  refine sq (h := ?_)
  refine rg (h := ?_)
  refine bxA (h := fun b0 => ?_)
  refine WL.y (hy := asg) (h := ?_)
  refine nl (h := ?_)
  refine q_seq (h := ?_)
  refine sq (h := ?_)
  refine rg (h := ?_)
  refine WL.y (hy := asg) (h := ?_)
  refine nl (h := ?_)
  refine q_seq (h := ?_)
  refine sq (h := ?_)
  refine rgD0 (by kernel_rfl) (h := ?_)
  refine tk 0 (hy := (by first | exact fa | exact faE)) (h := ?_)
  refine tk 1 (hy := (by first | exact ld | exact ldE)) (h := ?_)
  refine tk 2 (hy := mv) (h := ?_)
  refine tk 3 (hy := ix (A := a.sA) (m := d.st.length)) (h := ?_)
  refine tk 4 (hy := ldE (A := a.sA) (hk := st_at hG hi)) (h := ?_)
  refine tk 5 (hy := (by first | exact fa | exact faE)) (h := ?_)
  refine tk 6 (hy := (by first | exact ld | exact ldE)) (h := ?_)
  refine tk 7 (hy := mv) (h := ?_)
  refine tk 8 (hy := ix (A := a.sA) (m := d.st.length)) (h := ?_)
  refine tk 9 (hy := ldE (A := a.sA) (hk := st_at hG hi)) (h := ?_)
  refine tk 10 (hy := bd) (h := ?_)
  refine one 11 (h := ?_)
  refine al (h := fun bl => ?_)
  refine nx (h := ?_)
  refine one 12 (h := ?_)
  first | refine stA (h := ?_) | refine stEA (h := ?_)
  refine nx (h := ?_)
  refine dn (h := ?_)
  refine q_seq (h := ?_)
  refine sq (h := ?_)
  refine sq (h := ?_)
  refine WC.nilOwn 39 2 (h := ?_)
  refine rg (h := ?_)
  refine WL.y (hy := asg) (h := ?_)
  refine nl (h := ?_)
  refine q_seq (h := ?_)
  refine bk (h := ?_)
  refine lp (X := ZL) (I := fun z => z.k ≤ 61) (le := fun z => [(1, .int .i64 item), (2, .pointer (some ⟨b0, 0, none⟩)), (5, .slice z.A z.k z.c), (6, .pointer (some ⟨bl, 0, none⟩)), (7, .int .i64 z.k)]) (Le := fun z => [.own z.A z.c 39 2 z.k (spanE (fun j => lefD d item (j + 1)) z.k), .blk bl 39 [.int .i64 (lefD d item z.k).1, .int .i64 (lefD d item z.k).2], .blk b0 49 (d.cells a), .ro a.sA 1 d.st.length (encI d.st), .ro a.fA 16 d.fx.length (d.fx.map Fx.enc), .ro a.cA 3 d.cr.length (d.cr.map Cx.enc)]) (μ := fun z => 61 - z.k) ⟨0, none, 0⟩ (Nat.zero_le _) (by repeat (first | exact trivial | refine ⟨rfl, ?_⟩)) (by repeat (first | exact SubL.nil | (apply SubL.cons; (repeat (first | exact At.here | apply At.there))) | exact SubL.refl _ | apply SubL.skip)) (fun z hz => ?_)
  refine sq (h := ?_)
  refine sq (h := ?_)
  refine rg (h := ?_)
  refine WL.y (hy := mv) (h := ?_)
  refine WL.y (hy := leq) (h := ?_)
  refine nl (h := ?_)
  refine q_seq (h := ?_)
  refine cd (by exact rfl) (fun h0 => ?_) (fun h0 => ?_)
  · skip
    have hz61 : z.k < 61 := by have := of_decide_eq_true h0; omega
    have hlr := lef_rng hG item z.k
    have hnr := need_rng hG item z.k
    refine skp (h := ?_)
    refine q_seq (h := ?_)
    refine sq (h := ?_)
    refine bk (h := ?_)
    refine sq (h := ?_)
    refine rg (h := ?_)
    refine WL.y (hy := (by first | exact ldA | exact ldEA)) (h := ?_)
    refine WL.y (hy := mv) (h := ?_)
    refine WL.y (hy := mv) (h := ?_)
    refine cl0 (hc := fun w hS => C_ref9_need d a item z.k hG w (h.old hS)) (h := ?_)
    refine al (h := fun bn => ?_)
    first | refine stA (h := ?_) | refine stEA (h := ?_)
    refine nl (h := ?_)
    refine q_seq (h := ?_)
    refine sq (h := ?_)
    refine rg (h := ?_)
    refine WL.y (hy := (by first | exact fa | exact faE)) (h := ?_)
    refine WL.y (hy := (by first | exact ld | exact ldE)) (h := ?_)
    refine WL.y (hy := (by first | exact fa | exact faE)) (h := ?_)
    refine WL.y (hy := (by first | exact ld | exact ldE)) (h := ?_)
    refine WL.y (hy := subI) (h := ?_)
    refine WL.y (hy := (by first | exact fa | exact faE)) (h := ?_)
    refine WL.y (hy := (by first | exact ld | exact ldE)) (h := ?_)
    refine WL.y (hy := (by first | exact fa | exact faE)) (h := ?_)
    refine WL.y (hy := (by first | exact ld | exact ldE)) (h := ?_)
    refine WL.y (hy := subI) (h := ?_)
    refine WL.y (hy := bd) (h := ?_)
    first | refine stA (h := ?_) | refine stEA (h := ?_)
    refine nl (h := ?_)
    refine q_seq (h := ?_)
    refine sq (h := ?_)
    refine sq (h := ?_)
    refine rg (h := ?_)
    refine WL.y (hy := asg) (h := ?_)
    refine nl (h := ?_)
    refine q_seq (h := ?_)
    refine bk (h := ?_)
    refine lp (X := Nat) (I := fun j => j ≤ d.cr.length) (le := fun j => [(1, .int .i64 item), (2, .pointer (some ⟨b0, 0, none⟩)), (5, .slice z.A z.k z.c), (6, .pointer (some ⟨bl, 0, none⟩)), (7, .int .i64 z.k), (9, .int .i64 j)]) (Le := fun j => [.own z.A z.c 39 2 z.k (spanE (fun j => lefD d item (j + 1)) z.k), .blk bl 39 [.int .i64 ((lefD d item z.k).1 - (needD d item z.k).2 + crT d item z.k j), .int .i64 ((lefD d item z.k).2 - (needD d item z.k).1 + crT d item z.k j)], .blk b0 49 (d.cells a), .ro a.sA 1 d.st.length (encI d.st), .ro a.fA 16 d.fx.length (d.fx.map Fx.enc), .ro a.cA 3 d.cr.length (d.cr.map Cx.enc)]) (μ := fun j => d.cr.length - j) 0 (Nat.zero_le _) (by repeat (first | exact trivial | refine ⟨rfl, ?_⟩)) (by rw [show (lefD d item z.k).1 - (needD d item z.k).2 + crT d item z.k 0 = (lefD d item z.k).1 - (needD d item z.k).2 from Int.add_zero _, show (lefD d item z.k).2 - (needD d item z.k).1 + crT d item z.k 0 = (lefD d item z.k).2 - (needD d item z.k).1 from Int.add_zero _]; repeat (first | exact SubL.nil | (apply SubL.cons; (repeat (first | exact At.here | apply At.there))) | exact SubL.refl _ | apply SubL.skip)) (fun j hj => ?_)
    refine sq (h := ?_)
    refine sq (h := ?_)
    refine rg (h := ?_)
    refine WL.y (hy := mv) (h := ?_)
    refine WL.y (hy := (by first | exact fa | exact faE)) (h := ?_)
    refine WL.y (hy := (by first | exact ld | exact ldE)) (h := ?_)
    refine WL.y (hy := lenS) (h := ?_)
    refine WL.y (hy := lss) (h := ?_)
    refine nl (h := ?_)
    refine q_seq (h := ?_)
    refine cd (by exact rfl) (fun h1 => ?_) (fun h1 => ?_)
    · skip
      have hjn : j < d.cr.length := by have := of_decide_eq_true h1; omega
      obtain ⟨y, hc⟩ : ∃ y, d.cr[j]? = some y := ⟨_, List.getElem?_eq_getElem hjn⟩
      have hyr := (hG.cr y (List.mem_of_getElem? hc)).2.2
      have hcr := cr_rng hG item z.k j
      have hcs := crT_succ (item := item) (dd := z.k) hc
      refine skp (h := ?_)
      refine q_seq (h := ?_)
      refine sq (h := ?_)
      refine bk (h := ?_)
      refine sq (h := ?_)
      refine rg (h := ?_)
      refine WL.y (hy := (by first | exact fa | exact faE)) (h := ?_)
      refine WL.y (hy := (by first | exact ld | exact ldE)) (h := ?_)
      refine WL.y (hy := mv) (h := ?_)
      refine WL.y (hy := ix (A := a.cA) (m := d.cr.length)) (h := ?_)
      refine WL.y (hy := (by first | exact fa | exact faE)) (h := ?_)
      refine WL.y (hy := ldE (A := a.cA) (hk := map_at hc)) (h := ?_)
      refine WL.y (hy := mv) (h := ?_)
      refine WL.y (hy := eql) (h := ?_)
      refine WL.y (hy := mv) (h := ?_)
      apply brAnd 9 55 64 (by exact rfl)
      · intro hb2
        refine un (h := ?_)
        refine WL.y (hy := (by first | exact fa | exact faE)) (h := ?_)
        refine un (h := ?_)
        refine WL.y (hy := (by first | exact ld | exact ldE)) (h := ?_)
        refine un (h := ?_)
        refine WL.y (hy := mv) (h := ?_)
        refine un (h := ?_)
        refine WL.y (hy := ix (A := a.cA) (m := d.cr.length)) (h := ?_)
        refine un (h := ?_)
        refine WL.y (hy := (by first | exact fa | exact faE)) (h := ?_)
        refine un (h := ?_)
        refine WL.y (hy := ldE (A := a.cA) (hk := map_at hc)) (h := ?_)
        refine un (h := ?_)
        refine WL.y (hy := mv) (h := ?_)
        refine un (h := ?_)
        refine WL.y (hy := eql) (h := ?_)
        refine WL.y (hy := (by first | exact pkT | exact pkF)) (h := ?_)
        exact mg (by repeat (first | exact trivial | refine ⟨rfl, ?_⟩ | refine ⟨by rw [hb2]; rfl, ?_⟩)) (by repeat (first | exact SubL.nil | (apply SubL.cons; (repeat (first | exact At.here | apply At.there))) | exact SubL.refl _ | apply SubL.skip))
      · intro hb2
        repeat (first | refine un (h := ?_) | refine sk (h := ?_) | refine WL.y (hy := pkF) (h := ?_) | refine WL.y (hy := pkT) (h := ?_))
        exact mg (by repeat (first | exact trivial | refine ⟨rfl, ?_⟩ | refine ⟨by rw [hb2]; rfl, ?_⟩)) (by repeat (first | exact SubL.nil | (apply SubL.cons; (repeat (first | exact At.here | apply At.there))) | exact SubL.refl _ | apply SubL.skip))
      refine nl (h := ?_)
      refine q_seq (h := ?_)
      refine cd (by exact rfl) (fun h3 => ?_) (fun h3 => ?_)
      · skip
        rw [h3, cond_true] at hcs
        have hc1 : (lefD d item z.k).1 - (needD d item z.k).2 + crT d item z.k (j + 1) = (lefD d item z.k).1 - (needD d item z.k).2 + crT d item z.k j + y.count := by rw [hcs]; omega
        have hc2 : (lefD d item z.k).2 - (needD d item z.k).1 + crT d item z.k (j + 1) = (lefD d item z.k).2 - (needD d item z.k).1 + crT d item z.k j + y.count := by rw [hcs]; omega
        refine sq (h := ?_)
        refine rgD (by kernel_rfl) [(10, .blk bl 39 _), (1000000, .ro a.cA 3 d.cr.length (d.cr.map Cx.enc)), (1000000, .blk b0 49 (d.cells a))] (by repeat (first | exact HS.nil | (apply HS.keep; (repeat (first | exact At.here | apply At.there))) | (apply HS.ro; (repeat (first | exact Rds.ro | exact Rds.own | apply Rds.there))))) (h := ?_)
        refine tk 0 (hy := (by first | exact fa | exact faE)) (h := ?_)
        refine tk 1 (hy := (by first | exact ld | exact ldE)) (h := ?_)
        refine tk 2 (hy := (by first | exact fa | exact faE)) (h := ?_)
        refine tk 3 (hy := (by first | exact ld | exact ldE)) (h := ?_)
        refine tk 4 (hy := mv) (h := ?_)
        refine tk 5 (hy := ix (A := a.cA) (m := d.cr.length)) (h := ?_)
        refine tk 6 (hy := (by first | exact fa | exact faE)) (h := ?_)
        refine tk 7 (hy := ldE (A := a.cA) (hk := map_at hc)) (h := ?_)
        refine tk 8 (hy := addI) (h := ?_)
        refine tk 9 (hy := (by first | exact fa | exact faE)) (h := ?_)
        refine one 10 (h := ?_)
        first | refine st (h := ?_) | refine stE (h := ?_)
        refine nx (h := ?_)
        refine dn (h := ?_)
        refine q_seq (h := ?_)
        refine rgD (by kernel_rfl) [(10, .blk bl 39 _), (1000000, .ro a.cA 3 d.cr.length (d.cr.map Cx.enc)), (1000000, .blk b0 49 (d.cells a))] (by repeat (first | exact HS.nil | (apply HS.keep; (repeat (first | exact At.here | apply At.there))) | (apply HS.ro; (repeat (first | exact Rds.ro | exact Rds.own | apply Rds.there))))) (h := ?_)
        refine tk 0 (hy := (by first | exact fa | exact faE)) (h := ?_)
        refine tk 1 (hy := (by first | exact ld | exact ldE)) (h := ?_)
        refine tk 2 (hy := (by first | exact fa | exact faE)) (h := ?_)
        refine tk 3 (hy := (by first | exact ld | exact ldE)) (h := ?_)
        refine tk 4 (hy := mv) (h := ?_)
        refine tk 5 (hy := ix (A := a.cA) (m := d.cr.length)) (h := ?_)
        refine tk 6 (hy := (by first | exact fa | exact faE)) (h := ?_)
        refine tk 7 (hy := ldE (A := a.cA) (hk := map_at hc)) (h := ?_)
        refine tk 8 (hy := addI) (h := ?_)
        refine tk 9 (hy := (by first | exact fa | exact faE)) (h := ?_)
        refine one 10 (h := ?_)
        first | refine st (h := ?_) | refine stE (h := ?_)
        refine nx (h := ?_)
        refine dn (h := ?_)
        refine q_blk_norm (h := ?_)
        refine q_seq (h := ?_)
        refine rg (h := ?_)
        refine WL.y (hy := mv) (h := ?_)
        refine WL.y (hy := addI) (h := ?_)
        refine WL.y (hy := asg) (h := ?_)
        refine nl (h := ?_)
        refine rn (x := j) (j + 1) hjn (by omega) (by repeat (first | exact trivial | refine ⟨rfl, ?_⟩)) (by rw [hc1, hc2]; repeat (first | exact SubL.nil | (apply SubL.cons; (repeat (first | exact At.here | apply At.there))) | exact SubL.refl _ | apply SubL.skip))
      · skip
        rw [h3, cond_false] at hcs
        have hc1 : (lefD d item z.k).1 - (needD d item z.k).2 + crT d item z.k (j + 1) = (lefD d item z.k).1 - (needD d item z.k).2 + crT d item z.k j := by rw [hcs]
        have hc2 : (lefD d item z.k).2 - (needD d item z.k).1 + crT d item z.k (j + 1) = (lefD d item z.k).2 - (needD d item z.k).1 + crT d item z.k j := by rw [hcs]
        refine skp (h := ?_)
        refine q_blk_norm (h := ?_)
        refine q_seq (h := ?_)
        refine rg (h := ?_)
        refine WL.y (hy := mv) (h := ?_)
        refine WL.y (hy := addI) (h := ?_)
        refine WL.y (hy := asg) (h := ?_)
        refine nl (h := ?_)
        refine rn (x := j) (j + 1) hjn (by omega) (by repeat (first | exact trivial | refine ⟨rfl, ?_⟩)) (by rw [hc1, hc2]; repeat (first | exact SubL.nil | (apply SubL.cons; (repeat (first | exact At.here | apply At.there))) | exact SubL.refl _ | apply SubL.skip))
    · skip
      have hjn : j = d.cr.length := by have := of_decide_eq_false h1; omega
      rw [hjn, show (lefD d item z.k).1 - (needD d item z.k).2 + crT d item z.k d.cr.length = (lefD d item (z.k + 1)).1 by rw [lefD]; dsimp only; omega, show (lefD d item z.k).2 - (needD d item z.k).1 + crT d item z.k d.cr.length = (lefD d item (z.k + 1)).2 by rw [lefD]; dsimp only; omega]
      refine et (h := ?_)
      refine q_then_exit (h := ?_)
      refine q_then_exit (h := ?_)
      refine q_blk_hit (h := ?_)
      refine q_seq (h := ?_)
      refine rg (h := ?_)
      refine WL.y (hy := mv) (h := ?_)
      refine WL.y (hy := (by first | exact ldA | exact ldEA)) (h := ?_)
      refine bs (h := fun b1 => ?_)
      refine ap (A := z.A) (h := fun A9 c9 => ?_)
      refine WL.y (hy := asg) (h := ?_)
      rw [← spanE_succ (fun j => lefD d item (j + 1)) z.k]
      refine nl (h := ?_)
      refine q_blk_norm (h := ?_)
      refine q_seq (h := ?_)
      refine rg (h := ?_)
      refine WL.y (hy := mv) (h := ?_)
      refine WL.y (hy := addI) (h := ?_)
      refine WL.y (hy := asg) (h := ?_)
      refine nl (h := ?_)
      refine rn (x := z) ⟨z.k + 1, A9, c9⟩ hz61 (by dsimp only; omega) (by repeat (first | exact trivial | refine ⟨rfl, ?_⟩)) (by repeat (first | exact SubL.nil | (apply SubL.cons; (repeat (first | exact At.here | apply At.there))) | exact SubL.refl _ | apply SubL.skip))
  · skip
    have hz61 : z.k = 61 := by have := of_decide_eq_false h0; omega
    rw [hz61]
    refine et (h := ?_)
    refine q_then_exit (h := ?_)
    refine q_then_exit (h := ?_)
    refine q_blk_hit (h := ?_)
    refine q_seq (h := ?_)
    refine sq (h := ?_)
    refine rg (h := ?_)
    refine WL.y (hy := mv) (h := ?_)
    refine WL.y (hy := asg) (h := ?_)
    refine nl (h := ?_)
    refine q_seq (h := ?_)
    refine rtn (h := ?_)
    refine q_ret (hR := ?_)
    exact fun w hS => ⟨(z.A, z.c), trivial, rfl, hS.sub (by repeat (first | exact SubL.nil | (apply SubL.cons; (repeat (first | exact At.here | apply At.there))) | exact SubL.refl _ | apply SubL.skip))⟩
theorem C_ref9_Need (d : Dp) (a : DA) (item day : Int) (w : World) (h : DpR w d a) (hsm : ∀ x ∈ d.fx, x.b.st.length ≤ 1000) : C0 Try.prog 31 [d.val a, .int .i64 item, .int .i64 day] w (.tuple (needR d item day).toArray) := by
  refine ⟨en Try.func31 Try.ntmps31 ((St.init w).share (e := .ro a.sA 1 d.st.length (encI d.st)) h.s rfl rfl rfl) (h := fun F => ?_)⟩
  refine sq (h := ?_)
  refine rg (h := ?_)
  refine bxA (h := fun b0 => ?_)
  refine al (h := fun b1 => ?_)
  refine WL.y (hy := asg) (h := ?_)
  refine nl (h := ?_)
  refine q_seq (h := ?_)
  refine sq (h := ?_)
  refine sq (h := ?_)
  refine rg (h := ?_)
  refine WL.y (hy := (by first | exact ldA | exact ldEA)) (h := ?_)
  refine WL.y (hy := mv) (h := ?_)
  refine WL.y (hy := mv) (h := ?_)
  refine cl0 (hc := fun w hS => C_ref9_check d a item day w (h.old hS) hsm) (h := ?_)
  refine WL.y (hy := asg) (h := ?_)
  refine nl (h := ?_)
  refine q_seq (h := ?_)
  refine sq (h := ?_)
  refine rg (h := ?_)
  refine WL.y (hy := mv) (h := ?_)
  refine WL.y (hy := neq) (h := ?_)
  refine nl (h := ?_)
  refine q_seq (h := ?_)
  refine cd (by exact rfl) (fun h0 => ?_) (fun h0 => ?_)
  · skip
    have hE : needR d item day = [pv (0, 0), .int .i64 (askE d item day)] := by rw [needR, show decide (askE d item day = 0) = false by simpa using h0]; rfl
    refine sq (h := ?_)
    refine rg (h := ?_)
    refine WL.y (hy := bd) (h := ?_)
    refine WL.y (hy := mv) (h := ?_)
    first | refine stA (h := ?_) | refine stEA (h := ?_)
    refine WL.y (hy := asg) (h := ?_)
    refine nl (h := ?_)
    refine q_seq (h := ?_)
    refine rtn (h := ?_)
    refine q_then_ret (h := ?_)
    refine q_ret (hR := ?_)
    rw [hE]
    exact fun w hS => ⟨rfl, hS.sub (by repeat (first | exact SubL.nil | (apply SubL.cons; (repeat (first | exact At.here | apply At.there))) | exact SubL.refl _ | apply SubL.skip))⟩
  · skip
    have hE0 : askE d item day = 0 := by simpa using h0
    have hE : needR d item day = [pv (needD d item day.toNat), .int .i64 0] := by rw [needR, decide_eq_true hE0]; rfl
    obtain ⟨hG, hi, hd⟩ := ask_ok hE0
    obtain ⟨dn, hdn⟩ : ∃ dn : Nat, day = (dn : Int) := ⟨day.toNat, by omega⟩
    subst hdn
    refine skp (h := ?_)
    refine q_seq (h := ?_)
    refine sq (h := ?_)
    refine rg (h := ?_)
    refine WL.y (hy := (by first | exact ldA | exact ldEA)) (h := ?_)
    refine WL.y (hy := mv) (h := ?_)
    refine WL.y (hy := mv) (h := ?_)
    refine cl0 (hc := fun w hS => C_ref9_need d a item dn hG w (h.old hS)) (h := ?_)
    first | refine stA (h := ?_) | refine stEA (h := ?_)
    refine WL.y (hy := asg) (h := ?_)
    refine nl (h := ?_)
    refine q_seq (h := ?_)
    refine rtn (h := ?_)
    refine q_ret (hR := ?_)
    rw [hE]
    exact fun w hS => ⟨rfl, hS.sub (by repeat (first | exact SubL.nil | (apply SubL.cons; (repeat (first | exact At.here | apply At.there))) | exact SubL.refl _ | apply SubL.skip))⟩
theorem C_ref9_Left (d : Dp) (a : DA) (item day : Int) (w : World) (h : DpR w d a) (hsm : ∀ x ∈ d.fx, x.b.st.length ≤ 1000) : C0 Try.prog 32 [d.val a, .int .i64 item, .int .i64 day] w (.tuple (leftR d item day).toArray) := by
  refine ⟨en Try.func32 Try.ntmps32 ((St.init w).share (e := .ro a.sA 1 d.st.length (encI d.st)) h.s rfl rfl rfl) (h := fun F => ?_)⟩
  refine sq (h := ?_)
  refine rg (h := ?_)
  refine bxA (h := fun b0 => ?_)
  refine al (h := fun b1 => ?_)
  refine WL.y (hy := asg) (h := ?_)
  refine nl (h := ?_)
  refine q_seq (h := ?_)
  refine sq (h := ?_)
  refine sq (h := ?_)
  refine rg (h := ?_)
  refine WL.y (hy := (by first | exact ldA | exact ldEA)) (h := ?_)
  refine WL.y (hy := mv) (h := ?_)
  refine WL.y (hy := mv) (h := ?_)
  refine cl0 (hc := fun w hS => C_ref9_check d a item day w (h.old hS) hsm) (h := ?_)
  refine WL.y (hy := asg) (h := ?_)
  refine nl (h := ?_)
  refine q_seq (h := ?_)
  refine sq (h := ?_)
  refine rg (h := ?_)
  refine WL.y (hy := mv) (h := ?_)
  refine WL.y (hy := neq) (h := ?_)
  refine nl (h := ?_)
  refine q_seq (h := ?_)
  refine cd (by exact rfl) (fun h0 => ?_) (fun h0 => ?_)
  · skip
    have hE : leftR d item day = [pv (0, 0), .int .i64 (askE d item day)] := by rw [leftR, show decide (askE d item day = 0) = false by simpa using h0]; rfl
    refine sq (h := ?_)
    refine rg (h := ?_)
    refine WL.y (hy := bd) (h := ?_)
    refine WL.y (hy := mv) (h := ?_)
    first | refine stA (h := ?_) | refine stEA (h := ?_)
    refine WL.y (hy := asg) (h := ?_)
    refine nl (h := ?_)
    refine q_seq (h := ?_)
    refine rtn (h := ?_)
    refine q_then_ret (h := ?_)
    refine q_ret (hR := ?_)
    rw [hE]
    exact fun w hS => ⟨rfl, hS.sub (by repeat (first | exact SubL.nil | (apply SubL.cons; (repeat (first | exact At.here | apply At.there))) | exact SubL.refl _ | apply SubL.skip))⟩
  · skip
    have hE0 : askE d item day = 0 := by simpa using h0
    have hE : leftR d item day = [pv (lefD d item (day.toNat + 1)), .int .i64 0] := by rw [leftR, decide_eq_true hE0]; rfl
    obtain ⟨hG, hi, hd⟩ := ask_ok hE0
    refine skp (h := ?_)
    refine q_seq (h := ?_)
    refine sq (h := ?_)
    refine rg (h := ?_)
    refine WL.y (hy := (by first | exact ldA | exact ldEA)) (h := ?_)
    refine WL.y (hy := mv) (h := ?_)
    refine cl (hc := fun w hS => C_ref9_lefts d a item hG hi w (h.old hS)) (h := fun x _ => ?_)
    refine WL.y (hy := mv) (h := ?_)
    refine WL.y (hy := ix (A := x.1) (m := 61)) (h := ?_)
    refine WL.y (hy := ldEW (A := x.1) (hk := spanE_at _ (show day.toNat < 61 by omega))) (h := ?_)
    first | refine stA (h := ?_) | refine stEA (h := ?_)
    refine WL.y (hy := asg) (h := ?_)
    refine nl (h := ?_)
    refine q_seq (h := ?_)
    refine rtn (h := ?_)
    refine q_ret (hR := ?_)
    rw [hE]
    exact fun w hS => ⟨rfl, hS.sub (by repeat (first | exact SubL.nil | (apply SubL.cons; (repeat (first | exact At.here | apply At.there))) | exact SubL.refl _ | apply SubL.skip))⟩
def bckV (p : Nat → Bool) : Nat → Int
  | 0 => -1
  | j + 1 => bif p (60 - j) then ((60 - j : Nat) : Int) else bckV p j
theorem bck_ok (p : Nat → Bool) : ∀ j, j ≤ 61 → (∃ k : Nat, (61 - j ≤ k ∧ k < 61) ∧ bckV p j = k ∧ p k = true ∧ ∀ i, 61 - j ≤ i → i < k → p i = false) ∨ (bckV p j = -1 ∧ ∀ i, 61 - j ≤ i → i < 61 → p i = false)
  | 0, _ => .inr ⟨rfl, fun i h1 h2 => by omega⟩
  | j + 1, hj => by
    have ih := bck_ok p j (by omega)
    rw [bckV]
    cases hp : p (60 - j)
    · rw [cond_false]
      have hall : ∀ (m i : Nat), (∀ i, 61 - j ≤ i → i < m → p i = false) → 61 - (j + 1) ≤ i → i < m → p i = false := fun m i h h1 h2 => by
        by_cases e : i = 60 - j
        · rw [e]; exact hp
        · exact h i (by omega) h2
      rcases ih with ⟨k, hk, he, h1, h2⟩ | ⟨he, h2⟩
      · exact .inl ⟨k, by omega, he, h1, fun i a b => hall k i h2 a b⟩
      · exact .inr ⟨he, fun i a b => hall 61 i h2 a b⟩
    · rw [cond_true]
      exact .inl ⟨60 - j, by omega, rfl, hp, fun i a b => by omega⟩
theorem bck_fst (p : Nat → Bool) : bckV p 61 = fstV p 61 := fst_eq (by
  rcases bck_ok p 61 (Nat.le_refl _) with ⟨k, hk, he, h1, h2⟩ | ⟨he, h2⟩
  · exact .inl ⟨k, hk.2, he, h1, fun i hi => h2 i (by omega) hi⟩
  · exact .inr ⟨he, fun i hi => h2 i (by omega) hi⟩)
theorem C_ref9_Short (d : Dp) (a : DA) (item : Int) (w : World) (h : DpR w d a) (hsm : ∀ x ∈ d.fx, x.b.st.length ≤ 1000) : C0 Try.prog 33 [d.val a, .int .i64 item] w (.tuple (shortR d item).toArray) := by
  refine ⟨en Try.func33 Try.ntmps33 ((St.init w).share (e := .ro a.sA 1 d.st.length (encI d.st)) h.s rfl rfl rfl) (h := fun F => ?_)⟩
  refine sq (h := ?_)
  refine rg (h := ?_)
  refine bxA (h := fun b0 => ?_)
  refine WL.y (hy := asg) (h := ?_)
  refine WL.y (hy := asg) (h := ?_)
  refine WL.y (hy := asg) (h := ?_)
  refine nl (h := ?_)
  refine q_seq (h := ?_)
  refine sq (h := ?_)
  refine sq (h := ?_)
  refine rg (h := ?_)
  refine WL.y (hy := (by first | exact ldA | exact ldEA)) (h := ?_)
  refine WL.y (hy := mv) (h := ?_)
  refine cl0 (hc := fun w hS => C_ref9_check d a item 0 w (h.old hS) hsm) (h := ?_)
  refine WL.y (hy := asg) (h := ?_)
  refine nl (h := ?_)
  refine q_seq (h := ?_)
  refine sq (h := ?_)
  refine rg (h := ?_)
  refine WL.y (hy := mv) (h := ?_)
  refine WL.y (hy := neq) (h := ?_)
  refine nl (h := ?_)
  refine q_seq (h := ?_)
  refine cd (by exact rfl) (fun h0 => ?_) (fun h0 => ?_)
  · skip
    have hE : shortR d item = [.int .i64 0, .int .i64 0, .int .i64 (askE d item 0)] := by rw [shortR, show decide (askE d item 0 = 0) = false by simpa using h0]; rfl
    refine sq (h := ?_)
    refine rg (h := ?_)
    refine WL.y (hy := mv) (h := ?_)
    refine WL.y (hy := asg) (h := ?_)
    refine WL.y (hy := asg) (h := ?_)
    refine WL.y (hy := asg) (h := ?_)
    refine nl (h := ?_)
    refine q_seq (h := ?_)
    refine rtn (h := ?_)
    refine q_then_ret (h := ?_)
    refine q_ret (hR := ?_)
    rw [hE]
    exact fun w hS => ⟨rfl, hS.sub (by repeat (first | exact SubL.nil | (apply SubL.cons; (repeat (first | exact At.here | apply At.there))) | exact SubL.refl _ | apply SubL.skip))⟩
  · skip
    have hE0 : askE d item 0 = 0 := by simpa using h0
    have hE : shortR d item = [.int .i64 (mayV d item), .int .i64 (sureV d item), .int .i64 0] := by rw [shortR, decide_eq_true hE0]; rfl
    obtain ⟨hG, hi, hd⟩ := ask_ok hE0
    refine skp (h := ?_)
    refine q_seq (h := ?_)
    refine sq (h := ?_)
    refine rg (h := ?_)
    refine WL.y (hy := (by first | exact ldA | exact ldEA)) (h := ?_)
    refine WL.y (hy := mv) (h := ?_)
    refine cl (hc := fun w hS => C_ref9_lefts d a item hG hi w (h.old hS)) (h := fun x _ => ?_)
    refine WL.y (hy := asg) (h := ?_)
    refine nl (h := ?_)
    refine q_seq (h := ?_)
    refine sq (h := ?_)
    refine rg (h := ?_)
    refine WL.y (hy := asg) (h := ?_)
    refine WL.y (hy := asg) (h := ?_)
    refine nl (h := ?_)
    refine q_seq (h := ?_)
    refine sq (h := ?_)
    refine sq (h := ?_)
    refine rg (h := ?_)
    refine WL.y (hy := mv) (h := ?_)
    refine WL.y (hy := lenS) (h := ?_)
    refine WL.y (hy := subI) (h := ?_)
    refine WL.y (hy := asg) (h := ?_)
    refine nl (h := ?_)
    refine q_seq (h := ?_)
    refine bk (h := ?_)
    refine lp (X := Nat) (I := fun j => j ≤ 61) (le := fun j => [(4, .int .i64 (bckV (fun k => decide ((lefD d item (k + 1)).1 < 0)) j)), (5, .int .i64 (bckV (fun k => decide ((lefD d item (k + 1)).2 < 0)) j)), (6, .int .i64 0), (8, .slice x.1 61 x.2), (9, .int .i64 (60 - (j : Int)))]) (Le := fun _ => [.own x.1 x.2 39 2 61 (spanE (fun j => lefD d item (j + 1)) 61)]) (μ := fun j => 61 - j) 0 (Nat.zero_le _) (by repeat (first | exact trivial | refine ⟨rfl, ?_⟩)) (by repeat (first | exact SubL.nil | (apply SubL.cons; (repeat (first | exact At.here | apply At.there))) | exact SubL.refl _ | apply SubL.skip)) (fun j hj => ?_)
    refine sq (h := ?_)
    refine sq (h := ?_)
    refine rg (h := ?_)
    refine WL.y (hy := mv) (h := ?_)
    refine WL.y (hy := geq) (h := ?_)
    refine nl (h := ?_)
    refine q_seq (h := ?_)
    refine cd (by exact rfl) (fun h1 => ?_) (fun h1 => ?_)
    · skip
      have hjn : j < 61 := by have := of_decide_eq_true h1; omega
      obtain ⟨m, hm⟩ : ∃ m : Nat, m = 60 - j := ⟨_, rfl⟩
      have hmi : (60 : Int) - (j : Int) = (m : Int) := by omega
      rw [hmi]
      have hk9 := spanE_at (fun j => lefD d item (j + 1)) (show m < 61 by omega)
      have hnxi : (m : Int) - 1 = 60 - ((j + 1 : Nat) : Int) := by omega
      refine skp (h := ?_)
      refine q_seq (h := ?_)
      refine sq (h := ?_)
      refine bk (h := ?_)
      refine sq (h := ?_)
      refine sq (h := ?_)
      refine rg (h := ?_)
      refine WL.y (hy := mv) (h := ?_)
      refine WL.y (hy := mv) (h := ?_)
      refine WL.y (hy := ix (A := x.1) (m := 61)) (h := ?_)
      refine WL.y (hy := (by first | exact fa | exact faE)) (h := ?_)
      refine WL.y (hy := ldE (A := x.1) (hk := hk9)) (h := ?_)
      refine WL.y (hy := lss) (h := ?_)
      refine nl (h := ?_)
      refine q_seq (h := ?_)
      refine cd (by exact rfl) (fun h2 => ?_) (fun h2 => ?_)
      · skip
        have hp1 : bckV (fun k => decide ((lefD d item (k + 1)).1 < 0)) (j + 1) = (m : Int) := by
          have h' : decide ((lefD d item (m + 1)).1 < 0) = true := h2
          rw [bckV, ← hm]; (try dsimp only); rw [h']; rfl
        refine rg (h := ?_)
        refine WL.y (hy := mv) (h := ?_)
        refine WL.y (hy := asg) (h := ?_)
        refine nl (h := ?_)
        refine q_seq (h := ?_)
        refine sq (h := ?_)
        refine rg (h := ?_)
        refine WL.y (hy := mv) (h := ?_)
        refine WL.y (hy := mv) (h := ?_)
        refine WL.y (hy := ix (A := x.1) (m := 61)) (h := ?_)
        refine WL.y (hy := (by first | exact fa | exact faE)) (h := ?_)
        refine WL.y (hy := ldE (A := x.1) (hk := hk9)) (h := ?_)
        refine WL.y (hy := lss) (h := ?_)
        refine nl (h := ?_)
        refine q_seq (h := ?_)
        refine cd (by exact rfl) (fun h3 => ?_) (fun h3 => ?_)
        · skip
          have hp2 : bckV (fun k => decide ((lefD d item (k + 1)).2 < 0)) (j + 1) = (m : Int) := by
            have h' : decide ((lefD d item (m + 1)).2 < 0) = true := h3
            rw [bckV, ← hm]; (try dsimp only); rw [h']; rfl
          refine rg (h := ?_)
          refine WL.y (hy := mv) (h := ?_)
          refine WL.y (hy := asg) (h := ?_)
          refine nl (h := ?_)
          refine q_blk_norm (h := ?_)
          refine q_seq (h := ?_)
          refine rg (h := ?_)
          refine WL.y (hy := mv) (h := ?_)
          refine WL.y (hy := subI) (h := ?_)
          refine WL.y (hy := asg) (h := ?_)
          refine nl (h := ?_)
          refine rn (x := j) (j + 1) hjn (by omega) (by rw [hp1, hp2, ← hnxi]; repeat (first | exact trivial | refine ⟨rfl, ?_⟩)) (by repeat (first | exact SubL.nil | (apply SubL.cons; (repeat (first | exact At.here | apply At.there))) | exact SubL.refl _ | apply SubL.skip))
        · skip
          have hp2 : bckV (fun k => decide ((lefD d item (k + 1)).2 < 0)) (j + 1) = bckV (fun k => decide ((lefD d item (k + 1)).2 < 0)) j := by
            have h' : decide ((lefD d item (m + 1)).2 < 0) = false := h3
            rw [bckV, ← hm]; (try dsimp only); rw [h']; rfl
          refine skp (h := ?_)
          refine q_blk_norm (h := ?_)
          refine q_seq (h := ?_)
          refine rg (h := ?_)
          refine WL.y (hy := mv) (h := ?_)
          refine WL.y (hy := subI) (h := ?_)
          refine WL.y (hy := asg) (h := ?_)
          refine nl (h := ?_)
          refine rn (x := j) (j + 1) hjn (by omega) (by rw [hp1, hp2, ← hnxi]; repeat (first | exact trivial | refine ⟨rfl, ?_⟩)) (by repeat (first | exact SubL.nil | (apply SubL.cons; (repeat (first | exact At.here | apply At.there))) | exact SubL.refl _ | apply SubL.skip))
      · skip
        have hp1 : bckV (fun k => decide ((lefD d item (k + 1)).1 < 0)) (j + 1) = bckV (fun k => decide ((lefD d item (k + 1)).1 < 0)) j := by
          have h' : decide ((lefD d item (m + 1)).1 < 0) = false := h2
          rw [bckV, ← hm]; (try dsimp only); rw [h']; rfl
        refine skp (h := ?_)
        refine q_seq (h := ?_)
        refine sq (h := ?_)
        refine rg (h := ?_)
        refine WL.y (hy := mv) (h := ?_)
        refine WL.y (hy := mv) (h := ?_)
        refine WL.y (hy := ix (A := x.1) (m := 61)) (h := ?_)
        refine WL.y (hy := (by first | exact fa | exact faE)) (h := ?_)
        refine WL.y (hy := ldE (A := x.1) (hk := hk9)) (h := ?_)
        refine WL.y (hy := lss) (h := ?_)
        refine nl (h := ?_)
        refine q_seq (h := ?_)
        refine cd (by exact rfl) (fun h4 => ?_) (fun h4 => ?_)
        · skip
          have hp2 : bckV (fun k => decide ((lefD d item (k + 1)).2 < 0)) (j + 1) = (m : Int) := by
            have h' : decide ((lefD d item (m + 1)).2 < 0) = true := h4
            rw [bckV, ← hm]; (try dsimp only); rw [h']; rfl
          refine rg (h := ?_)
          refine WL.y (hy := mv) (h := ?_)
          refine WL.y (hy := asg) (h := ?_)
          refine nl (h := ?_)
          refine q_blk_norm (h := ?_)
          refine q_seq (h := ?_)
          refine rg (h := ?_)
          refine WL.y (hy := mv) (h := ?_)
          refine WL.y (hy := subI) (h := ?_)
          refine WL.y (hy := asg) (h := ?_)
          refine nl (h := ?_)
          refine rn (x := j) (j + 1) hjn (by omega) (by rw [hp1, hp2, ← hnxi]; repeat (first | exact trivial | refine ⟨rfl, ?_⟩)) (by repeat (first | exact SubL.nil | (apply SubL.cons; (repeat (first | exact At.here | apply At.there))) | exact SubL.refl _ | apply SubL.skip))
        · skip
          have hp2 : bckV (fun k => decide ((lefD d item (k + 1)).2 < 0)) (j + 1) = bckV (fun k => decide ((lefD d item (k + 1)).2 < 0)) j := by
            have h' : decide ((lefD d item (m + 1)).2 < 0) = false := h4
            rw [bckV, ← hm]; (try dsimp only); rw [h']; rfl
          refine skp (h := ?_)
          refine q_blk_norm (h := ?_)
          refine q_seq (h := ?_)
          refine rg (h := ?_)
          refine WL.y (hy := mv) (h := ?_)
          refine WL.y (hy := subI) (h := ?_)
          refine WL.y (hy := asg) (h := ?_)
          refine nl (h := ?_)
          refine rn (x := j) (j + 1) hjn (by omega) (by rw [hp1, hp2, ← hnxi]; repeat (first | exact trivial | refine ⟨rfl, ?_⟩)) (by repeat (first | exact SubL.nil | (apply SubL.cons; (repeat (first | exact At.here | apply At.there))) | exact SubL.refl _ | apply SubL.skip))
    · skip
      have hjn : j = 61 := by have := of_decide_eq_false h1; omega
      rw [hjn, bck_fst, bck_fst]
      refine et (h := ?_)
      refine q_then_exit (h := ?_)
      refine q_then_exit (h := ?_)
      refine q_blk_hit (h := ?_)
      refine q_seq (h := ?_)
      refine sq (h := ?_)
      refine rg (h := ?_)
      refine WL.y (hy := mv) (h := ?_)
      refine WL.y (hy := mv) (h := ?_)
      refine WL.y (hy := asg) (h := ?_)
      refine WL.y (hy := asg) (h := ?_)
      refine WL.y (hy := asg) (h := ?_)
      refine nl (h := ?_)
      refine q_seq (h := ?_)
      refine rtn (h := ?_)
      refine q_ret (hR := ?_)
      rw [hE]
      exact fun w hS => ⟨rfl, hS.sub (by repeat (first | exact SubL.nil | (apply SubL.cons; (repeat (first | exact At.here | apply At.there))) | exact SubL.refl _ | apply SubL.skip))⟩
theorem C_ref9_Order (d : Dp) (a : DA) (item day : Int) (w : World) (h : DpR w d a) (hsm : ∀ x ∈ d.fx, x.b.st.length ≤ 1000) : C0 Try.prog 34 [d.val a, .int .i64 item, .int .i64 day] w (.tuple (ordR d item day).toArray) := by
  refine ⟨en Try.func34 Try.ntmps34 ((St.init w).share (e := .ro a.sA 1 d.st.length (encI d.st)) h.s rfl rfl rfl) (h := fun F => ?_)⟩
  refine sq (h := ?_)
  refine rg (h := ?_)
  refine bxA (h := fun b0 => ?_)
  refine WL.y (hy := asg) (h := ?_)
  refine WL.y (hy := asg) (h := ?_)
  refine nl (h := ?_)
  refine q_seq (h := ?_)
  refine sq (h := ?_)
  refine sq (h := ?_)
  refine rg (h := ?_)
  refine WL.y (hy := (by first | exact ldA | exact ldEA)) (h := ?_)
  refine WL.y (hy := mv) (h := ?_)
  refine WL.y (hy := mv) (h := ?_)
  refine cl0 (hc := fun w hS => C_ref9_check d a item day w (h.old hS) hsm) (h := ?_)
  refine WL.y (hy := asg) (h := ?_)
  refine nl (h := ?_)
  refine q_seq (h := ?_)
  refine sq (h := ?_)
  refine rg (h := ?_)
  refine WL.y (hy := mv) (h := ?_)
  refine WL.y (hy := neq) (h := ?_)
  refine nl (h := ?_)
  refine q_seq (h := ?_)
  refine cd (by exact rfl) (fun h0 => ?_) (fun h0 => ?_)
  · skip
    have hE : ordR d item day = [.int .i64 0, .int .i64 (askE d item day)] := by rw [ordR, show decide (askE d item day = 0) = false by simpa using h0]; rfl
    refine sq (h := ?_)
    refine rg (h := ?_)
    refine WL.y (hy := mv) (h := ?_)
    refine WL.y (hy := asg) (h := ?_)
    refine WL.y (hy := asg) (h := ?_)
    refine nl (h := ?_)
    refine q_seq (h := ?_)
    refine rtn (h := ?_)
    refine q_then_ret (h := ?_)
    refine q_ret (hR := ?_)
    rw [hE]
    exact fun w hS => ⟨rfl, hS.sub (by repeat (first | exact SubL.nil | (apply SubL.cons; (repeat (first | exact At.here | apply At.there))) | exact SubL.refl _ | apply SubL.skip))⟩
  · skip
    have hE0 : askE d item day = 0 := by simpa using h0
    have hE : ordR d item day = [.int .i64 (ordV d item day.toNat), .int .i64 0] := by rw [ordR, decide_eq_true hE0]; rfl
    obtain ⟨hG, hi, hd⟩ := ask_ok hE0
    obtain ⟨dn, hdn⟩ : ∃ dn : Nat, day = (dn : Int) := ⟨day.toNat, by omega⟩
    subst hdn
    refine skp (h := ?_)
    refine q_seq (h := ?_)
    refine sq (h := ?_)
    refine rg (h := ?_)
    refine WL.y (hy := (by first | exact ldA | exact ldEA)) (h := ?_)
    refine WL.y (hy := mv) (h := ?_)
    refine cl (hc := fun w hS => C_ref9_lefts d a item hG hi w (h.old hS)) (h := fun x _ => ?_)
    refine WL.y (hy := asg) (h := ?_)
    refine nl (h := ?_)
    refine q_seq (h := ?_)
    refine sq (h := ?_)
    refine rg (h := ?_)
    refine WL.y (hy := asg) (h := ?_)
    refine nl (h := ?_)
    refine q_seq (h := ?_)
    refine sq (h := ?_)
    refine sq (h := ?_)
    refine rg (h := ?_)
    refine WL.y (hy := mv) (h := ?_)
    refine WL.y (hy := asg) (h := ?_)
    refine nl (h := ?_)
    refine q_seq (h := ?_)
    refine bk (h := ?_)
    refine lp (X := Nat) (I := fun k => dn + k ≤ 61) (le := fun k => [(9, .slice x.1 61 x.2), (10, .int .i64 (ordT d item dn k)), (11, .int .i64 ((dn : Int) + (k : Int)))]) (Le := fun _ => [.own x.1 x.2 39 2 61 (spanE (fun j => lefD d item (j + 1)) 61)]) (μ := fun k => 61 - dn - k) 0 (by omega) (by rw [show (dn : Int) + ((0 : Nat) : Int) = (dn : Int) from Int.add_zero _]; repeat (first | exact trivial | refine ⟨rfl, ?_⟩)) (by repeat (first | exact SubL.nil | (apply SubL.cons; (repeat (first | exact At.here | apply At.there))) | exact SubL.refl _ | apply SubL.skip)) (fun k hk => ?_)
    refine sq (h := ?_)
    refine sq (h := ?_)
    refine rg (h := ?_)
    refine WL.y (hy := mv) (h := ?_)
    refine WL.y (hy := mv) (h := ?_)
    refine WL.y (hy := lenS) (h := ?_)
    refine WL.y (hy := lss) (h := ?_)
    refine nl (h := ?_)
    refine q_seq (h := ?_)
    refine cd (by exact rfl) (fun h1 => ?_) (fun h1 => ?_)
    · skip
      have hkn : dn + k < 61 := by have := of_decide_eq_true h1; omega
      have hk9 := spanE_at (fun j => lefD d item (j + 1)) hkn
      rw [show (dn : Int) + (k : Int) = ((dn + k : Nat) : Int) by omega]
      have hlr := lef_rng hG item (dn + k + 1)
      have hnx : (((dn + k : Nat) : Int)) + 1 = (dn : Int) + ((k + 1 : Nat) : Int) := by omega
      refine skp (h := ?_)
      refine q_seq (h := ?_)
      refine sq (h := ?_)
      refine bk (h := ?_)
      refine rg (h := ?_)
      refine WL.y (hy := mv) (h := ?_)
      refine WL.y (hy := mv) (h := ?_)
      refine WL.y (hy := mv) (h := ?_)
      refine WL.y (hy := ix (A := x.1) (m := 61)) (h := ?_)
      refine WL.y (hy := (by first | exact fa | exact faE)) (h := ?_)
      refine WL.y (hy := ldE (A := x.1) (hk := hk9)) (h := ?_)
      refine WL.y (hy := negI) (h := ?_)
      refine WL.y (hy := maxI) (h := ?_)
      refine WL.y (hy := asg) (h := ?_)
      refine nl (h := ?_)
      refine q_blk_norm (h := ?_)
      refine q_seq (h := ?_)
      refine rg (h := ?_)
      refine WL.y (hy := mv) (h := ?_)
      refine WL.y (hy := addI) (h := ?_)
      refine WL.y (hy := asg) (h := ?_)
      refine nl (h := ?_)
      refine rn (x := k) (k + 1) (by omega) (by omega) (by rw [← hnx]; repeat (first | exact trivial | refine ⟨rfl, ?_⟩)) (by repeat (first | exact SubL.nil | (apply SubL.cons; (repeat (first | exact At.here | apply At.there))) | exact SubL.refl _ | apply SubL.skip))
    · skip
      have hkn : k = 61 - dn := by have := of_decide_eq_false h1; omega
      rw [hkn, show ordT d item dn (61 - dn) = ordV d item dn from rfl]
      refine et (h := ?_)
      refine q_then_exit (h := ?_)
      refine q_then_exit (h := ?_)
      refine q_blk_hit (h := ?_)
      refine q_seq (h := ?_)
      refine sq (h := ?_)
      refine rg (h := ?_)
      refine WL.y (hy := mv) (h := ?_)
      refine WL.y (hy := asg) (h := ?_)
      refine WL.y (hy := asg) (h := ?_)
      refine nl (h := ?_)
      refine q_seq (h := ?_)
      refine rtn (h := ?_)
      refine q_ret (hR := ?_)
      rw [hE]
      exact fun w hS => ⟨rfl, hS.sub (by repeat (first | exact SubL.nil | (apply SubL.cons; (repeat (first | exact At.here | apply At.there))) | exact SubL.refl _ | apply SubL.skip))⟩
end Go.Proofs.Ytacaojifempclaa

namespace Go.Proofs.Ytacaojifempclaa
open Go Go.RowKit

structure CE where
  (won g : Pr) (n t : Int) (v : Cs)
def fndC (l : List CE) (won g : Pr) (n t : Int) : Option CE := l.find? fun e => decide (e.won = won) && decide (e.g = g) && decide (e.n = n) && decide (e.t = t)
def lkC2 (l : List CE) : Pr → Pr → Int → Int → Cs := fun won g n t => match fndC l won g n t with
  | some e => e.v
  | none => zC
def sideOk (f : Fmt) (l : List CE) (e : CE) (side : Int) : Bool := overS f e.won e.g side || (fndC l (wonS f e.won e.g side) (gamS f e.won e.g side) (e.n + 1) (tieN f e.won e.g)).isSome
def okC (f : Fmt) (l : List CE) : Bool := l.all fun e => decide (e.v = orV (courV (lkC2 l) f e.won e.g e.n e.t 0) (courV (lkC2 l) f e.won e.g e.n e.t 1)) && sideOk f l e 0 && sideOk f l e 1
theorem fnd_is {l : List CE} {won g : Pr} {n t : Int} {e : CE} (h : fndC l won g n t = some e) : e ∈ l ∧ e.won = won ∧ e.g = g ∧ e.n = n ∧ e.t = t := by
  have h1 := List.mem_of_find?_eq_some h
  have h2 := List.find?_some h
  simp only [Bool.and_eq_true, decide_eq_true_eq] at h2
  exact ⟨h1, h2.1.1.1, h2.1.1.2, h2.1.2, h2.2⟩
theorem cert_ok {f : Fmt} (hf : f.Ok) (hb : Bdd f) {l : List CE} (h : okC f l = true) : ∀ (k : Nat) (won g : Pr) (n t : Int), Vs f won g → remV f won g ≤ k → (fndC l won g n t).isSome = true → fromP f won g n t = lkC2 l won g n t
  | 0, won, g, n, t, hV, hr, _ => by have := rem_pos hf hb hV; omega
  | k + 1, won, g, n, t, hV, hr, hs => by
    obtain ⟨e, he⟩ := Option.isSome_iff_exists.1 hs
    obtain ⟨hm, rfl, rfl, rfl, rfl⟩ := fnd_is he
    have hok := List.all_eq_true.1 h e hm
    simp only [Bool.and_eq_true, decide_eq_true_eq] at hok
    obtain ⟨⟨hv, h0⟩, h1⟩ := hok
    have hl : lkC2 l e.won e.g e.n e.t = e.v := by unfold lkC2; rw [he]
    have hc : ∀ side : Int, side = 0 ∨ side = 1 → sideOk f l e side = true → courV (fromP f) f e.won e.g e.n e.t side = courV (lkC2 l) f e.won e.g e.n e.t side := fun side hsd hso => by
      unfold courV
      cases ho : overS f e.won e.g side
      · obtain ⟨hV', hr'⟩ := step_ok' hf hb hsd hV ho
        rw [sideOk, ho, Bool.false_or] at hso
        rw [cert_ok hf hb h k _ _ _ _ hV' (by omega) hso]
      · rfl
    rw [from_eq hf hb hV, hl, hv, hc 0 (.inl rfl) h0, hc 1 (.inr rfl) h1]
def exC : List CE := [⟨(0, 0), (0, 0), 0, 0, ((1, 3), (1, 2))⟩, ⟨(0, 0), (0, 1), 1, 0, ((1, 3), (1, 2))⟩, ⟨(0, 0), (1, 0), 1, 0, ((1, 3), (1, 2))⟩, ⟨(0, 0), (1, 1), 2, 0, ((1, 2), (1, 2))⟩, ⟨(0, 0), (1, 2), 3, 0, ((1, 2), (1, 2))⟩, ⟨(0, 0), (2, 1), 3, 0, ((1, 2), (1, 2))⟩, ⟨(0, 0), (2, 2), 4, 0, ((1, 2), (1, 2))⟩, ⟨(0, 1), (0, 0), 2, 0, ((0, 1), (0, 1))⟩, ⟨(0, 1), (0, 0), 4, 0, ((0, 1), (0, 1))⟩, ⟨(0, 1), (0, 0), 5, 1, ((1, 2), (0, 1))⟩, ⟨(0, 1), (0, 1), 3, 0, ((0, 1), (0, 1))⟩, ⟨(0, 1), (0, 1), 5, 0, ((0, 1), (0, 1))⟩, ⟨(0, 1), (0, 1), 6, 0, ((0, 1), (0, 1))⟩, ⟨(0, 1), (1, 0), 3, 0, ((0, 1), (0, 1))⟩, ⟨(0, 1), (1, 0), 5, 0, ((0, 1), (0, 1))⟩, ⟨(0, 1), (1, 0), 6, 0, ((0, 1), (0, 1))⟩, ⟨(0, 1), (1, 1), 4, 0, ((0, 0), (0, 1))⟩, ⟨(0, 1), (1, 1), 6, 0, ((0, 0), (0, 1))⟩, ⟨(0, 1), (1, 1), 7, 0, ((1, 1), (0, 1))⟩, ⟨(0, 1), (1, 2), 5, 0, ((0, 0), (0, 1))⟩, ⟨(0, 1), (1, 2), 7, 0, ((0, 0), (0, 1))⟩, ⟨(0, 1), (1, 2), 8, 0, ((0, 0), (0, 1))⟩, ⟨(0, 1), (2, 1), 5, 0, ((0, 0), (0, 1))⟩, ⟨(0, 1), (2, 1), 7, 0, ((0, 0), (0, 1))⟩, ⟨(0, 1), (2, 1), 8, 0, ((0, 0), (0, 1))⟩, ⟨(0, 1), (2, 2), 6, 0, ((0, 0), (0, 1))⟩, ⟨(0, 1), (2, 2), 8, 0, ((0, 0), (0, 1))⟩, ⟨(0, 1), (2, 2), 9, 0, ((0, 0), (0, 1))⟩, ⟨(1, 0), (0, 0), 2, 0, ((0, 1), (0, 1))⟩, ⟨(1, 0), (0, 0), 4, 0, ((0, 1), (0, 1))⟩, ⟨(1, 0), (0, 0), 5, 1, ((1, 2), (0, 1))⟩, ⟨(1, 0), (0, 1), 3, 0, ((0, 1), (0, 1))⟩, ⟨(1, 0), (0, 1), 5, 0, ((0, 1), (0, 1))⟩, ⟨(1, 0), (0, 1), 6, 0, ((0, 1), (0, 1))⟩, ⟨(1, 0), (1, 0), 3, 0, ((0, 1), (0, 1))⟩, ⟨(1, 0), (1, 0), 5, 0, ((0, 1), (0, 1))⟩, ⟨(1, 0), (1, 0), 6, 0, ((0, 1), (0, 1))⟩, ⟨(1, 0), (1, 1), 4, 0, ((0, 0), (0, 1))⟩, ⟨(1, 0), (1, 1), 6, 0, ((0, 0), (0, 1))⟩, ⟨(1, 0), (1, 1), 7, 0, ((1, 1), (0, 1))⟩, ⟨(1, 0), (1, 2), 5, 0, ((0, 0), (0, 1))⟩, ⟨(1, 0), (1, 2), 7, 0, ((0, 0), (0, 1))⟩, ⟨(1, 0), (1, 2), 8, 0, ((0, 0), (0, 1))⟩, ⟨(1, 0), (2, 1), 5, 0, ((0, 0), (0, 1))⟩, ⟨(1, 0), (2, 1), 7, 0, ((0, 0), (0, 1))⟩, ⟨(1, 0), (2, 1), 8, 0, ((0, 0), (0, 1))⟩, ⟨(1, 0), (2, 2), 6, 0, ((0, 0), (0, 1))⟩, ⟨(1, 0), (2, 2), 8, 0, ((0, 0), (0, 1))⟩, ⟨(1, 0), (2, 2), 9, 0, ((0, 0), (0, 1))⟩, ⟨(1, 1), (0, 0), 4, 0, ((0, 0), (0, 0))⟩, ⟨(1, 1), (0, 0), 6, 0, ((0, 0), (0, 0))⟩, ⟨(1, 1), (0, 0), 7, 0, ((0, 0), (0, 0))⟩, ⟨(1, 1), (0, 0), 7, 1, ((0, 0), (0, 0))⟩, ⟨(1, 1), (0, 0), 8, 0, ((0, 0), (0, 0))⟩, ⟨(1, 1), (0, 0), 9, 0, ((0, 0), (0, 0))⟩, ⟨(1, 1), (0, 0), 9, 1, ((0, 0), (0, 0))⟩, ⟨(1, 1), (0, 0), 10, 1, ((0, 0), (0, 0))⟩]
theorem exC_ok : okC exF exC = true := by kernel_rfl
theorem exF_ok : exF.Ok := fmt_ok (by decide)
theorem exF_bdd : Bdd exF := by unfold Bdd exF; decide
theorem ex_rest1 : restC exF ⟨[], (0, 0), (0, 0)⟩ = ((1, 3), (2, 3)) := by
  have hV : Vs exF (0, 0) (0, 0) := ⟨by decide, by decide⟩
  have h1 := cert_ok exF_ok exF_bdd exC_ok 15 (0, 0) (0, 0) 0 0 hV (by decide) (by kernel_rfl)
  have h2 : lkC2 exC (0, 0) (0, 0) 0 0 = ((1, 3), (1, 2)) := by kernel_rfl
  show bumpC (fromP exF (0, 0) (0, 0) 0 0) false true = _
  rw [h1, h2]; rfl
theorem ex_rest2 : restC exF ⟨[(3, 1)], (0, 1), (0, 0)⟩ = ((0, 1), (0, 1)) := by
  have hV : Vs exF (1, 0) (0, 1) := ⟨by decide, by decide⟩
  have h1 := cert_ok exF_ok exF_bdd exC_ok 15 (1, 0) (0, 1) 5 0 hV (by decide) (by kernel_rfl)
  have h2 : lkC2 exC (1, 0) (0, 1) 5 0 = ((0, 1), (0, 1)) := by kernel_rfl
  show bumpC (fromP exF (1, 0) (0, 1) 5 0) false false = _
  rw [h1, h2]; rfl
theorem ex_arises2 : arisesV exF ⟨[(3, 1)], (0, 1), (0, 0)⟩ = ((1, 0), true) := by
  have h0 : setsTo (tableV exF) exF [((3 : Int), (1 : Int))] 0 = ⟨(0, 0), 1, true⟩ := rfl
  have h1 : setsTo (tableV exF) exF [((3 : Int), (1 : Int))] (0 + 1) = setStep (tableV exF) exF (setsTo (tableV exF) exF [((3 : Int), (1 : Int))] 0) (3, 1) := setsTo_succ rfl (by rw [h0])
  have h2 : setV exF (0, 0) = (2, 3) := by decide
  have h3 : setsTo (tableV exF) exF (Brd.mk [(3, 1)] (0, 1) (0, 0)).st (Brd.mk [(3, 1)] (0, 1) (0, 0)).st.length = ⟨(1, 0), 2, true⟩ := by
    show setsTo (tableV exF) exF [((3 : Int), (1 : Int))] (0 + 1) = _
    rw [h1, h0, setStep]
    dsimp only
    rw [h2, ex_table]
    kernel_rfl
  have h4 : setV exF (1, 0) = (2, 3) := by decide
  rw [arisesV, arisesT, h3]
  dsimp only
  rw [h4, ex_table]
  exact (by kernel_rfl : ((bif !true then (((1 : Int), (0 : Int)), false) else bif overV exF (1, 0) then ((1, 0), isZ (0, 1) && isZ (0, 0)) else bif !(tget exT (0, 1)).isSome || (tat exT (0, 1)).2 then ((1, 0), false) else bif isZ (0, 0) then ((1, 0), true) else ((1, 0), (befV exF (2, 3) (brksV (2, 3) (0, 1)) (0 - 1, 0) || befV exF (2, 3) (brksV (2, 3) (0, 1)) (0, 0 - 1)) && befV exF (2, 3) (brksV (2, 3) (0, 1)) (0, 0))) = (((1 : Int), (0 : Int)), true)))
theorem ex_check1 : checkE exF ⟨[], (0, 0), (0, 0)⟩ = 0 := by
  unfold checkE
  rw [ex_arises]
  kernel_rfl
theorem ex_check2 : checkE exF ⟨[(3, 1)], (0, 1), (0, 0)⟩ = 0 := by
  unfold checkE
  rw [ex_arises2]
  kernel_rfl
def exD (A : Option Addr) (c : Nat) : Dp := ⟨2, 3, 1, [10, 30, 9], [⟨1, exF, ⟨[], (0, 0), (0, 0)⟩, none, 0⟩, ⟨1, exF, ⟨[(3, 1)], (0, 1), (0, 0)⟩, A, c⟩, ⟨2, exF, ⟨[], (0, 0), (0, 0)⟩, none, 0⟩], [⟨2, 0, 3⟩]⟩
section
variable {A : Option Addr} {c : Nat}
theorem ex_dep : depE (exD A c) = 0 := by
  have h1 : fxOk ⟨1, exF, ⟨[], (0, 0), (0, 0)⟩, none, 0⟩ = true := by unfold fxOk; dsimp only; rw [ex_check1]; rfl
  have h2 : fxOk ⟨1, exF, ⟨[(3, 1)], (0, 1), (0, 0)⟩, A, c⟩ = true := by unfold fxOk; dsimp only; rw [ex_check2]; rfl
  have h3 : fxOk ⟨2, exF, ⟨[], (0, 0), (0, 0)⟩, none, 0⟩ = true := by unfold fxOk; dsimp only; rw [ex_check1]; rfl
  exact dep_yes (by rfl) (by rfl) (by rfl) (by unfold fxB exD; simp only [List.all_cons, List.all_nil, h1, h2, h3, Bool.and_self]) (by rfl)
theorem ex_nd1 (d : Int) (B : Option Addr) (k : Nat) : ndV 2 3 1 ⟨d, exF, ⟨[], (0, 0), (0, 0)⟩, B, k⟩ 0 = (4, 8) := by
  unfold ndV; dsimp only; rw [ex_rest1]; rfl
theorem ex_nd2 (d : Int) (B : Option Addr) (k : Nat) : ndV 2 3 1 ⟨d, exF, ⟨[(3, 1)], (0, 1), (0, 0)⟩, B, k⟩ 0 = (0, 2) := by
  unfold ndV; dsimp only; rw [ex_rest2]; rfl
theorem ex_need (dd : Nat) : needD (exD A c) 0 dd = if dd = 1 then (4, 10) else if dd = 2 then (4, 8) else (0, 0) := by
  show accN (exD A c) 0 3 dd = _
  rw [accN_succ (k := 2) rfl, accN_succ (k := 1) rfl, accN_succ (k := 0) rfl]
  simp only [exD, ex_nd1, ex_nd2, accN]
  by_cases h1 : dd = 1
  · subst h1; rfl
  · by_cases h2 : dd = 2
    · subst h2; rfl
    · rw [if_neg h1, if_neg h2, decide_eq_false (show ¬ (1 : Int) = (dd : Int) by omega), decide_eq_false (show ¬ (2 : Int) = (dd : Int) by omega)]; rfl
theorem ex_cr (dd : Nat) : crT (exD A c) 0 dd 1 = if dd = 2 then 3 else 0 := by
  rw [crT_succ (k := 0) rfl]
  by_cases h2 : dd = 2
  · subst h2; rfl
  · rw [if_neg h2]
    dsimp only
    rw [decide_eq_false (show ¬ (2 : Int) = (dd : Int) by omega)]; rfl
theorem ex_lef_succ (k : Nat) : lefD (exD A c) 0 (k + 1) = ((lefD (exD A c) 0 k).1 + (if k = 2 then 3 else 0) - (if k = 1 then ((4 : Int), (10 : Int)) else if k = 2 then (4, 8) else (0, 0)).2, (lefD (exD A c) 0 k).2 + (if k = 2 then 3 else 0) - (if k = 1 then ((4 : Int), (10 : Int)) else if k = 2 then (4, 8) else (0, 0)).1) := by
  rw [lefD, ex_need, show (exD A c).cr.length = 1 from rfl, ex_cr]
theorem ex_lef : ∀ k : Nat, lefD (exD A c) 0 (k + 3) = (-5, 5)
  | 0 => by
    rw [ex_lef_succ, ex_lef_succ, ex_lef_succ]; rfl
  | k + 1 => by
    rw [show k + 1 + 3 = (k + 3) + 1 by omega, ex_lef_succ, ex_lef k, if_neg (by omega), if_neg (by omega), if_neg (by omega)]; rfl
theorem ex_ord : ∀ k : Nat, ordT (exD A c) 0 2 (k + 1) = 5
  | 0 => by
    rw [ordT, show 2 + 0 + 1 = 0 + 3 by omega, ex_lef]; rfl
  | k + 1 => by
    rw [ordT, ex_ord k, show 2 + (k + 1) + 1 = (k + 1) + 3 by omega, ex_lef]; rfl
theorem ex_askE : askE (exD A c) 0 2 = 0 := by
  unfold askE; rw [ex_dep]; rfl
theorem ex_left : leftR (exD A c) 0 2 = [pv (-5, 5), .int .i64 0] := by
  rw [leftR, decide_eq_true ex_askE, cond_true, show ((2 : Int).toNat + 1) = 0 + 3 from rfl, ex_lef]
theorem ex_ordR : ordR (exD A c) 0 2 = [.int .i64 5, .int .i64 0] := by
  rw [ordR, decide_eq_true ex_askE, cond_true, ordV, show 61 - (2 : Int).toNat = 58 + 1 from rfl, show (2 : Int).toNat = 2 from rfl, ex_ord]
theorem ex_restR : restR exF ⟨[], (0, 0), (0, 0)⟩ = [pv (1, 3), pv (2, 3), .int .i64 0] := by
  rw [restR, ex_check1, ex_rest1]; rfl
end
end Go.Proofs.Ytacaojifempclaa

namespace Go.Proofs.Ytacaojifempclaa
open Go Go.RowKit

def farF (f : Fmt) : Bool := decide (4 < f.games) && decide (f.games ≤ 8)
theorem C_law9_far (f : Fmt) (w : World) : C0 Try.prog 16 [f.val] w (.bool (farF f)) := by
  refine ⟨en Try.func16 Try.ntmps16 (St.init w) (h := fun F => ?_)⟩
  refine sq (h := ?_)
  refine rg (h := ?_)
  refine bxA (h := fun b0 => ?_)
  refine WL.y (hy := asg) (h := ?_)
  refine nl (h := ?_)
  refine q_seq (h := ?_)
  refine sq (h := ?_)
  refine rg (h := ?_)
  refine WL.y (hy := (by first | exact fa | exact faE)) (h := ?_)
  refine WL.y (hy := (by first | exact ld | exact ldE)) (h := ?_)
  refine WL.y (hy := gtr) (h := ?_)
  refine WL.y (hy := mv) (h := ?_)
  apply brAnd 4 6 10 (by exact rfl)
  · intro hb0
    refine un (h := ?_)
    refine WL.y (hy := (by first | exact fa | exact faE)) (h := ?_)
    refine un (h := ?_)
    refine WL.y (hy := (by first | exact ld | exact ldE)) (h := ?_)
    refine un (h := ?_)
    refine WL.y (hy := leq) (h := ?_)
    refine WL.y (hy := (by first | exact pkT | exact pkF)) (h := ?_)
    exact mg (by repeat (first | exact trivial | refine ⟨rfl, ?_⟩ | refine ⟨by rw [hb0]; rfl, ?_⟩)) (by repeat (first | exact SubL.nil | (apply SubL.cons; (repeat (first | exact At.here | apply At.there))) | exact SubL.refl _ | apply SubL.skip))
  · intro hb0
    repeat (first | refine un (h := ?_) | refine sk (h := ?_) | refine WL.y (hy := pkF) (h := ?_) | refine WL.y (hy := pkT) (h := ?_))
    exact mg (by repeat (first | exact trivial | refine ⟨rfl, ?_⟩ | refine ⟨by rw [hb0]; rfl, ?_⟩)) (by repeat (first | exact SubL.nil | (apply SubL.cons; (repeat (first | exact At.here | apply At.there))) | exact SubL.refl _ | apply SubL.skip))
  refine WL.y (hy := asg) (h := ?_)
  refine nl (h := ?_)
  refine q_seq (h := ?_)
  refine rtn (h := ?_)
  refine q_ret (hR := ?_)
  exact fun w hS => ⟨rfl, hS.sub (by repeat (first | exact SubL.nil | (apply SubL.cons; (repeat (first | exact At.here | apply At.there))) | exact SubL.refl _ | apply SubL.skip))⟩
def farX (x : Fx) : Bool := farF x.f || decide (40 < (x.b.st.length : Int))
def farN (d : Dp) : Bool := decide (40 < (d.st.length : Int)) || decide (60 < (d.cr.length : Int)) || (decide (4 < (d.fx.length : Int)) && decide ((d.fx.length : Int) ≤ 30)) || decide (60 < (d.fx.length : Int))
def farD (d : Dp) : Bool := farN d || d.fx.any farX
theorem any_no {α : Type} {l : List α} {p : α → Bool} (h : ∀ i x, i < l.length → l[i]? = some x → p x = false) : l.any p = false :=
  List.any_eq_false.2 fun x hx => by
    obtain ⟨i, hi, e⟩ := List.getElem_of_mem hx
    rw [h i x hi (by rw [List.getElem?_eq_getElem hi, e])]; decide
theorem far_sm {d : Dp} (h : farD d = false) : (d.st.length ≤ 40 ∧ d.cr.length ≤ 60 ∧ d.fx.length ≤ 60) ∧ ∀ x ∈ d.fx, x.b.st.length ≤ 40 := by
  unfold farD farN at h
  simp only [Bool.or_eq_false_iff, decide_eq_false_iff_not] at h
  refine ⟨by omega, fun x hx => ?_⟩
  have := List.any_eq_false.1 h.2 x hx
  unfold farX at this
  simp only [Bool.or_eq_true, decide_eq_true_eq, not_or] at this
  omega
set_option maxRecDepth 100000 in
theorem C_law9_Far (d : Dp) (a : DA) (w : World) (h : DpR w d a) : C0 Try.prog 28 [d.val a] w (.bool (farD d)) := by
  have hfc := h.fc
  refine ⟨en Try.func28 Try.ntmps28 ((St.init w).share (e := .ro a.fA 16 d.fx.length (d.fx.map Fx.enc)) h.f rfl rfl rfl) (h := fun F => ?_)⟩
  refine sq (h := ?_)
  refine rg (h := ?_)
  refine bxA (h := fun b0 => ?_)
  refine WL.y (hy := asg) (h := ?_)
  refine nl (h := ?_)
  refine q_seq (h := ?_)
  refine sq (h := ?_)
  refine sq (h := ?_)
  refine rg (h := ?_)
  refine WL.y (hy := (by first | exact fa | exact faE)) (h := ?_)
  refine WL.y (hy := (by first | exact ld | exact ldE)) (h := ?_)
  refine WL.y (hy := lenS) (h := ?_)
  refine WL.y (hy := gtr) (h := ?_)
  refine WL.y (hy := mv) (h := ?_)
  apply brOr 5 8 13 (by exact rfl)
  · intro hb0
    refine un (h := ?_)
    refine WL.y (hy := (by first | exact fa | exact faE)) (h := ?_)
    refine un (h := ?_)
    refine WL.y (hy := (by first | exact ld | exact ldE)) (h := ?_)
    refine un (h := ?_)
    refine WL.y (hy := lenS) (h := ?_)
    refine un (h := ?_)
    refine WL.y (hy := gtr) (h := ?_)
    refine WL.y (hy := (by first | exact pkT | exact pkF)) (h := ?_)
    exact mg (by repeat (first | exact trivial | refine ⟨rfl, ?_⟩ | refine ⟨by rw [hb0]; rfl, ?_⟩)) (by repeat (first | exact SubL.nil | (apply SubL.cons; (repeat (first | exact At.here | apply At.there))) | exact SubL.refl _ | apply SubL.skip))
  · intro hb0
    repeat (first | refine un (h := ?_) | refine sk (h := ?_) | refine WL.y (hy := pkF) (h := ?_) | refine WL.y (hy := pkT) (h := ?_))
    exact mg (by repeat (first | exact trivial | refine ⟨rfl, ?_⟩ | refine ⟨by rw [hb0]; rfl, ?_⟩)) (by repeat (first | exact SubL.nil | (apply SubL.cons; (repeat (first | exact At.here | apply At.there))) | exact SubL.refl _ | apply SubL.skip))
  refine WL.y (hy := mv) (h := ?_)
  apply brOr 11 14 25 (by exact rfl)
  · intro hb1
    refine un (h := ?_)
    refine WL.y (hy := (by first | exact fa | exact faE)) (h := ?_)
    refine un (h := ?_)
    refine WL.y (hy := (by first | exact ld | exact ldE)) (h := ?_)
    refine un (h := ?_)
    refine WL.y (hy := lenS) (h := ?_)
    refine un (h := ?_)
    refine WL.y (hy := gtr) (h := ?_)
    refine un (h := ?_)
    refine WL.y (hy := mv) (h := ?_)
    apply brAnd 5 19 24 (by exact rfl)
    · intro hb2
      refine un (h := ?_)
      refine WL.y (hy := (by first | exact fa | exact faE)) (h := ?_)
      refine un (h := ?_)
      refine WL.y (hy := (by first | exact ld | exact ldE)) (h := ?_)
      refine un (h := ?_)
      refine WL.y (hy := lenS) (h := ?_)
      refine un (h := ?_)
      refine WL.y (hy := leq) (h := ?_)
      refine un (h := ?_)
      refine WL.y (hy := (by first | exact pkT | exact pkF)) (h := ?_)
      exact mg (by repeat (first | exact trivial | refine ⟨rfl, ?_⟩ | refine ⟨by rw [hb2]; rfl, ?_⟩ | refine ⟨by rw [hb1]; rfl, ?_⟩)) (by repeat (first | exact SubL.nil | (apply SubL.cons; (repeat (first | exact At.here | apply At.there))) | exact SubL.refl _ | apply SubL.skip))
    · intro hb2
      repeat (first | refine un (h := ?_) | refine sk (h := ?_) | refine WL.y (hy := pkF) (h := ?_) | refine WL.y (hy := pkT) (h := ?_))
      exact mg (by repeat (first | exact trivial | refine ⟨rfl, ?_⟩ | refine ⟨by rw [hb2]; rfl, ?_⟩ | refine ⟨by rw [hb1]; rfl, ?_⟩)) (by repeat (first | exact SubL.nil | (apply SubL.cons; (repeat (first | exact At.here | apply At.there))) | exact SubL.refl _ | apply SubL.skip))
    refine WL.y (hy := (by first | exact pkT | exact pkF)) (h := ?_)
    exact mg (by repeat (first | exact trivial | refine ⟨rfl, ?_⟩ | refine ⟨by rw [hb1]; rfl, ?_⟩)) (by repeat (first | exact SubL.nil | (apply SubL.cons; (repeat (first | exact At.here | apply At.there))) | exact SubL.refl _ | apply SubL.skip))
  · intro hb1
    repeat (first | refine un (h := ?_) | refine sk (h := ?_) | refine WL.y (hy := pkF) (h := ?_) | refine WL.y (hy := pkT) (h := ?_))
    exact mg (by repeat (first | exact trivial | refine ⟨rfl, ?_⟩ | refine ⟨by rw [hb1]; rfl, ?_⟩)) (by repeat (first | exact SubL.nil | (apply SubL.cons; (repeat (first | exact At.here | apply At.there))) | exact SubL.refl _ | apply SubL.skip))
  refine WL.y (hy := mv) (h := ?_)
  apply brOr 5 26 31 (by exact rfl)
  · intro hb3
    refine un (h := ?_)
    refine WL.y (hy := (by first | exact fa | exact faE)) (h := ?_)
    refine un (h := ?_)
    refine WL.y (hy := (by first | exact ld | exact ldE)) (h := ?_)
    refine un (h := ?_)
    refine WL.y (hy := lenS) (h := ?_)
    refine un (h := ?_)
    refine WL.y (hy := gtr) (h := ?_)
    refine WL.y (hy := (by first | exact pkT | exact pkF)) (h := ?_)
    exact mg (by repeat (first | exact trivial | refine ⟨rfl, ?_⟩ | refine ⟨by rw [hb3]; rfl, ?_⟩)) (by repeat (first | exact SubL.nil | (apply SubL.cons; (repeat (first | exact At.here | apply At.there))) | exact SubL.refl _ | apply SubL.skip))
  · intro hb3
    repeat (first | refine un (h := ?_) | refine sk (h := ?_) | refine WL.y (hy := pkF) (h := ?_) | refine WL.y (hy := pkT) (h := ?_))
    exact mg (by repeat (first | exact trivial | refine ⟨rfl, ?_⟩ | refine ⟨by rw [hb3]; rfl, ?_⟩)) (by repeat (first | exact SubL.nil | (apply SubL.cons; (repeat (first | exact At.here | apply At.there))) | exact SubL.refl _ | apply SubL.skip))
  refine nl (h := ?_)
  refine q_seq (h := ?_)
  refine cd (by exact rfl) (fun h4 => ?_) (fun h4 => ?_)
  · skip
    have hN : farN d = true := h4
    have hE : farD d = true := by rw [farD, hN]; rfl
    refine sq (h := ?_)
    refine rg (h := ?_)
    refine WL.y (hy := asg) (h := ?_)
    refine nl (h := ?_)
    refine q_seq (h := ?_)
    refine rtn (h := ?_)
    refine q_then_ret (h := ?_)
    refine q_ret (hR := ?_)
    rw [hE]
    exact fun w hS => ⟨rfl, hS.sub (by repeat (first | exact SubL.nil | (apply SubL.cons; (repeat (first | exact At.here | apply At.there))) | exact SubL.refl _ | apply SubL.skip))⟩
  · skip
    have hN : farN d = false := h4
    refine skp (h := ?_)
    refine q_seq (h := ?_)
    refine sq (h := ?_)
    refine sq (h := ?_)
    refine rg (h := ?_)
    refine WL.y (hy := asg) (h := ?_)
    refine nl (h := ?_)
    refine q_seq (h := ?_)
    refine bk (h := ?_)
    refine lp (X := Nat) (I := fun k => k ≤ d.fx.length ∧ ∀ i x, i < k → d.fx[i]? = some x → farX x = false) (le := fun k => [(1, .pointer (some ⟨b0, 0, none⟩)), (3, .int .i64 k)]) (Le := fun _ => [.blk b0 49 (d.cells a), .ro a.fA 16 d.fx.length (d.fx.map Fx.enc)]) (μ := fun k => d.fx.length - k) 0 ⟨Nat.zero_le _, fun i x hi => by omega⟩ (by repeat (first | exact trivial | refine ⟨rfl, ?_⟩)) (by repeat (first | exact SubL.nil | (apply SubL.cons; (repeat (first | exact At.here | apply At.there))) | exact SubL.refl _ | apply SubL.skip)) (fun k hk => ?_)
    obtain ⟨hk0, hku⟩ := hk
    refine sq (h := ?_)
    refine sq (h := ?_)
    refine rg (h := ?_)
    refine WL.y (hy := mv) (h := ?_)
    refine WL.y (hy := (by first | exact fa | exact faE)) (h := ?_)
    refine WL.y (hy := (by first | exact ld | exact ldE)) (h := ?_)
    refine WL.y (hy := lenS) (h := ?_)
    refine WL.y (hy := lss) (h := ?_)
    refine nl (h := ?_)
    refine q_seq (h := ?_)
    refine cd (by exact rfl) (fun h5 => ?_) (fun h5 => ?_)
    · skip
      have hkn : k < d.fx.length := by have := of_decide_eq_true h5; omega
      obtain ⟨x, hx⟩ : ∃ x, d.fx[k]? = some x := ⟨_, List.getElem?_eq_getElem hkn⟩
      refine skp (h := ?_)
      refine q_seq (h := ?_)
      refine sq (h := ?_)
      refine bk (h := ?_)
      refine sq (h := ?_)
      refine rg (h := ?_)
      refine WL.y (hy := (by first | exact fa | exact faE)) (h := ?_)
      refine WL.y (hy := (by first | exact ld | exact ldE)) (h := ?_)
      refine WL.y (hy := mv) (h := ?_)
      refine WL.y (hy := ix (A := a.fA) (m := d.fx.length)) (h := ?_)
      refine WL.y (hy := (by first | exact fa | exact faE)) (h := ?_)
      refine WL.y (hy := ldEA (A := a.fA) (hk := map_at hx) (j := 1) (vs := x.f.cells) (hc := .skip (Tk.cons (.cons (.cons (.cons (.cons (.cons (.cons (.cons (.cons (.cons .nil)))))))))))) (h := ?_)
      refine cl0 (hc := fun w hS => C_law9_far _ w) (h := ?_)
      refine WL.y (hy := mv) (h := ?_)
      apply brOr 10 46 56 (by exact rfl)
      · intro hb6
        refine un (h := ?_)
        refine WL.y (hy := (by first | exact fa | exact faE)) (h := ?_)
        refine un (h := ?_)
        refine WL.y (hy := (by first | exact ld | exact ldE)) (h := ?_)
        refine un (h := ?_)
        refine WL.y (hy := mv) (h := ?_)
        refine un (h := ?_)
        refine WL.y (hy := ix (A := a.fA) (m := d.fx.length)) (h := ?_)
        refine un (h := ?_)
        refine WL.y (hy := (by first | exact fa | exact faE)) (h := ?_)
        refine un (h := ?_)
        refine WL.y (hy := faE (A := a.fA) (i := k) (j := 11)) (h := ?_)
        refine un (h := ?_)
        refine WL.y (hy := ldE (A := a.fA) (hk := map_at hx)) (h := ?_)
        refine un (h := ?_)
        refine WL.y (hy := lenS) (h := ?_)
        refine un (h := ?_)
        refine WL.y (hy := gtr) (h := ?_)
        refine WL.y (hy := (by first | exact pkT | exact pkF)) (h := ?_)
        exact mg (by repeat (first | exact trivial | refine ⟨rfl, ?_⟩ | refine ⟨by rw [hb6]; rfl, ?_⟩)) (by repeat (first | exact SubL.nil | (apply SubL.cons; (repeat (first | exact At.here | apply At.there))) | exact SubL.refl _ | apply SubL.skip))
      · intro hb6
        repeat (first | refine un (h := ?_) | refine sk (h := ?_) | refine WL.y (hy := pkF) (h := ?_) | refine WL.y (hy := pkT) (h := ?_))
        exact mg (by repeat (first | exact trivial | refine ⟨rfl, ?_⟩ | refine ⟨by rw [hb6]; rfl, ?_⟩)) (by repeat (first | exact SubL.nil | (apply SubL.cons; (repeat (first | exact At.here | apply At.there))) | exact SubL.refl _ | apply SubL.skip))
      refine nl (h := ?_)
      refine q_seq (h := ?_)
      refine cd (by exact rfl) (fun h7 => ?_) (fun h7 => ?_)
      · skip
        have hE : farD d = true := by rw [farD, hN, Bool.false_or]; exact List.any_eq_true.2 ⟨x, List.mem_of_getElem? hx, h7⟩
        refine sq (h := ?_)
        refine rg (h := ?_)
        refine WL.y (hy := asg) (h := ?_)
        refine nl (h := ?_)
        refine q_seq (h := ?_)
        refine rtn (h := ?_)
        refine q_blk_ret (h := ?_)
        refine q_then_ret (h := ?_)
        refine q_then_ret (h := ?_)
        refine q_blk_ret (h := ?_)
        refine q_then_ret (h := ?_)
        refine q_ret (hR := ?_)
        rw [hE]
        exact fun w hS => ⟨rfl, hS.sub (by repeat (first | exact SubL.nil | (apply SubL.cons; (repeat (first | exact At.here | apply At.there))) | exact SubL.refl _ | apply SubL.skip))⟩
      · skip
        have hxn : farX x = false := h7
        have hkn2 : ∀ i y, i < k + 1 → d.fx[i]? = some y → farX y = false := fun i y hi hy => by
          by_cases e : i = k
          · subst e
            rw [hx] at hy
            rw [← Option.some.inj hy]; exact hxn
          · exact hku i y (by omega) hy
        refine skp (h := ?_)
        refine q_blk_norm (h := ?_)
        refine q_seq (h := ?_)
        refine rg (h := ?_)
        refine WL.y (hy := mv) (h := ?_)
        refine WL.y (hy := addI) (h := ?_)
        refine WL.y (hy := asg) (h := ?_)
        refine nl (h := ?_)
        refine rn (x := k) (k + 1) ⟨hkn, hkn2⟩ (by omega) (by repeat (first | exact trivial | refine ⟨rfl, ?_⟩)) (by repeat (first | exact SubL.nil | (apply SubL.cons; (repeat (first | exact At.here | apply At.there))) | exact SubL.refl _ | apply SubL.skip))
    · skip
      have hkn : k = d.fx.length := by have := of_decide_eq_false h5; omega
      have hE : farD d = false := by rw [farD, hN, any_no fun i x hi hx => hku i x (by omega) hx]; rfl
      refine et (h := ?_)
      refine q_then_exit (h := ?_)
      refine q_then_exit (h := ?_)
      refine q_blk_hit (h := ?_)
      refine q_seq (h := ?_)
      refine sq (h := ?_)
      refine rg (h := ?_)
      refine WL.y (hy := asg) (h := ?_)
      refine nl (h := ?_)
      refine q_seq (h := ?_)
      refine rtn (h := ?_)
      refine q_ret (hR := ?_)
      rw [hE]
      exact fun w hS => ⟨rfl, hS.sub (by repeat (first | exact SubL.nil | (apply SubL.cons; (repeat (first | exact At.here | apply At.there))) | exact SubL.refl _ | apply SubL.skip))⟩
def Fx.core (x : Fx) : Fx := { x with A := none, c := 0 }
def Dp.core (d : Dp) : Dp := { d with fx := d.fx.map Fx.core }
section
variable {d : Dp}
theorem core_dep (d : Dp) : depE d.core = depE d := by
  unfold depE depOk lenB fxB
  simp only [Dp.core, List.length_map, List.all_map]
  rfl
theorem core_acc (d : Dp) (item : Int) (dd : Nat) : ∀ k, accN d.core item k dd = accN d item k dd
  | 0 => rfl
  | k + 1 => by
    rw [accN, accN, core_acc d item dd k]
    show (match (d.fx.map Fx.core)[k]? with | some x => _ | none => _) = _
    rw [List.getElem?_map]
    cases d.fx[k]? with
    | none => rfl
    | some x => rfl
theorem core_need (d : Dp) (item : Int) (dd : Nat) : needD d.core item dd = needD d item dd := by
  unfold needD
  rw [core_acc]
  simp only [Dp.core, List.length_map]
theorem core_cr (d : Dp) (item : Int) (dd : Nat) : ∀ k, crT d.core item dd k = crT d item dd k
  | 0 => rfl
  | k + 1 => by
    rw [crT, crT, core_cr d item dd k]; rfl
theorem core_lef (d : Dp) (item : Int) : ∀ k, lefD d.core item k = lefD d item k
  | 0 => rfl
  | k + 1 => by
    rw [lefD, lefD, core_lef d item k, core_need, core_cr]; rfl
theorem core_ask (d : Dp) (item day : Int) : askE d.core item day = askE d item day := by unfold askE; rw [core_dep]
theorem core_ord (d : Dp) (item : Int) (day : Nat) : ∀ k, ordT d.core item day k = ordT d item day k
  | 0 => rfl
  | k + 1 => by rw [ordT, ordT, core_ord d item day k, core_lef]
theorem core_needR (d : Dp) (item day : Int) : needR d.core item day = needR d item day := by unfold needR; rw [core_ask, core_need]
theorem core_leftR (d : Dp) (item day : Int) : leftR d.core item day = leftR d item day := by unfold leftR; rw [core_ask, core_lef]
theorem core_shortR (d : Dp) (item : Int) : shortR d.core item = shortR d item := by
  unfold shortR mayV sureV
  rw [core_ask]
  simp only [core_lef]
theorem core_ordR (d : Dp) (item day : Int) : ordR d.core item day = ordR d item day := by unfold ordR ordV; rw [core_ask, core_ord]
end
structure CoX where
  (fx : List Fx) (a : DA)
def Fx.row (x : Fx) : Row := ⟨x.A, 2, x.b.st.length, encP x.b.st⟩
def FxB (l : List Fx) : Prop := ∀ x ∈ l, x.b.st.length ≤ x.c ∧ x.c ≤ 9223372036854775807
theorem dpr_of {w0 w : World} {L : List Ent} (hS : St w0 w L) {o : Dp} {a : DA} (hb : FxB o.fx) (hl : (o.st.length ≤ 1000000 ∧ o.fx.length ≤ 1000000) ∧ o.cr.length ≤ 1000000)
    (h1 : Rds L a.sA 1 o.st.length (encI o.st)) (h2 : Rds L a.fA 16 o.fx.length (o.fx.map Fx.enc)) (h3 : Rds L a.cA 3 o.cr.length (o.cr.map Cx.enc)) {M : List Ent} (hm : At L (manyE true (o.fx.map Fx.row)) M) : DpR w o a :=
  ⟨h1.at_ hS.ok, h2.at_ hS.ok, h3.at_ hS.ok, fun y hy => ⟨hS.many hm (r := y.row) (List.mem_map.2 ⟨y, hy, rfl⟩), (hb y hy).1, (hb y hy).2⟩, by omega, by omega, by omega⟩
structure YX where
  (k : Nat) (bs : List Fx)
theorem fx_set (bs : List Fx) (l : List Fx) {k : Nat} {x : Fx} (hk : bs.length = k) (hx : l[k]? = some x) (A : Option Addr) (c : Nat) : (((bs ++ l.drop k).map Fx.enc).set k (x.enc.set 11 (.slice A x.b.st.length c))) = ((bs ++ [{ x with A := A, c := c }]) ++ l.drop (k + 1)).map Fx.enc := by
  have hkl : k < l.length := (List.getElem?_eq_some_iff.1 hx).1
  have hxe : l[k] = x := by rw [List.getElem?_eq_getElem hkl] at hx; exact Option.some.inj hx
  rw [List.drop_eq_getElem_cons hkl, hxe, List.map_append, List.set_append_right _ _ (by rw [List.length_map, hk]; exact Nat.le_refl _), List.length_map, hk, Nat.sub_self, List.map_cons, List.set_cons_zero, List.append_assoc, List.map_append]
  rfl
end Go.Proofs.Ytacaojifempclaa

namespace Go.Proofs.Ytacaojifempclaa
open Go Go.RowKit

def Fx.at_ (x : Fx) (A : Option Addr) (c : Nat) : Fx := { x with A := A, c := c }
theorem fxB_add {bs : List Fx} (h : FxB bs) {x : Fx} {A : Option Addr} {c : Nat} (hn : x.b.st.length ≤ c ∧ c ≤ 9223372036854775807) : FxB (bs ++ [x.at_ A c]) := fun y hy => by
  rcases List.mem_append.1 hy with hy | hy
  · exact h y hy
  · simp only [List.mem_singleton] at hy; subst hy; exact hn
theorem core_add {bs l : List Fx} {k : Nat} {x : Fx} (hc : bs.map Fx.core = (l.take k).map Fx.core) (hx : l[k]? = some x) (A : Option Addr) (c : Nat) : (bs ++ [x.at_ A c]).map Fx.core = (l.take (k + 1)).map Fx.core := by
  rw [List.take_add_one, hx, List.map_append, List.map_append, hc]; rfl
def SmD (d : Dp) : Prop := (d.st.length ≤ 1000 ∧ d.cr.length ≤ 1000 ∧ d.fx.length ≤ 1000) ∧ ∀ x ∈ d.fx, x.b.st.length ≤ 1000
theorem row_add {bs : List Fx} {x : Fx} {A : Option Addr} {c : Nat} : bs.map Fx.row ++ [⟨A, 2, x.b.st.length, encP x.b.st⟩] = (bs ++ [x.at_ A c]).map Fx.row := by rw [List.map_append]; rfl
theorem cp_at {bs l : List Fx} {k : Nat} {x : Fx} (hk : bs.length = k) (hx : l[k]? = some x) : ((bs ++ l.drop k).map Fx.enc)[k]? = some x.enc := by
  rw [List.getElem?_map, List.getElem?_append_right (by omega), hk, Nat.sub_self, List.getElem?_drop, Nat.add_zero, hx]; rfl
set_option maxRecDepth 100000 in
set_option maxHeartbeats 2000000 in
theorem C_ref9_Copy (d : Dp) (a : DA) (hsm : SmD d) (w : World) (h : DpR w d a) : CR Try.prog 25 [d.val a] w (fun y : CoX => (y.fx.map Fx.core = d.fx.map Fx.core ∧ FxB y.fx) ∧ y.a.fc ≤ 9223372036854775807) (fun y => Dp.val { d with fx := y.fx } y.a)
    (fun y => [.own y.a.sA y.a.sc 3 1 d.st.length (encI d.st), .own y.a.fA y.a.fc 60 16 y.fx.length (y.fx.map Fx.enc), .own y.a.cA y.a.cc 62 3 d.cr.length (d.cr.map Cx.enc), manyE true (y.fx.map Fx.row)]) := by
  obtain ⟨⟨hsn, hcn, hfn⟩, hxs⟩ := hsm
  have hfc := h.fc
  refine ⟨en Try.func25 Try.ntmps25 ((((St.init w).share (e := .ro a.sA 1 d.st.length (encI d.st)) h.s rfl rfl rfl).share (e := .ro a.fA 16 d.fx.length (d.fx.map Fx.enc)) h.f rfl rfl rfl).share (e := .ro a.cA 3 d.cr.length (d.cr.map Cx.enc)) h.c rfl rfl rfl) (h := fun F => ?_)⟩
  refine sq (h := ?_)
  refine rg (h := ?_)
  refine bxA (h := fun b0 => ?_)
  refine al (h := fun b1 => ?_)
  refine nl (h := ?_)
  refine q_seq (h := ?_)
  refine sq (h := ?_)
  refine rg (h := ?_)
  refine WL.y (hy := (by first | exact ldA | exact ldEA)) (h := ?_)
  refine al (h := fun b2 => ?_)
  first | refine stA (h := ?_) | refine stEA (h := ?_)
  refine nl (h := ?_)
  refine q_seq (h := ?_)
  refine sq (h := ?_)
  refine rg (h := ?_)
  refine bs (h := fun b3 => ?_)
  refine WL.y (hy := (by first | exact fa | exact faE)) (h := ?_)
  refine WL.y (hy := (by first | exact ld | exact ldE)) (h := ?_)
  first | refine ap (h := fun A1 c1 => ?_) | refine ap0 (h := fun A1 c1 => ?_)
  refine WL.y (hy := (by first | exact fa | exact faE)) (h := ?_)
  first | refine st (h := ?_) | refine stE (h := ?_)
  simp only [Nat.zero_add, List.nil_append]
  refine nl (h := ?_)
  refine q_seq (h := ?_)
  refine sq (h := ?_)
  refine rg (h := ?_)
  refine bs (h := fun b4 => ?_)
  refine WL.y (hy := (by first | exact fa | exact faE)) (h := ?_)
  refine WL.y (hy := (by first | exact ld | exact ldE)) (h := ?_)
  first | refine ap (h := fun A2 c2 => ?_) | refine ap0 (h := fun A2 c2 => ?_)
  refine WL.y (hy := (by first | exact fa | exact faE)) (h := ?_)
  first | refine st (h := ?_) | refine stE (h := ?_)
  simp only [Nat.zero_add, List.nil_append]
  refine nl (h := ?_)
  refine q_seq (h := ?_)
  refine sq (h := ?_)
  refine sq (h := ?_)
  refine WC.many0 ?_
  refine rg (h := ?_)
  refine WL.y (hy := asg) (h := ?_)
  refine nl (h := ?_)
  refine q_seq (h := ?_)
  refine bk (h := ?_)
  refine lp (X := YX) (I := fun z => z.k ≤ d.fx.length ∧ z.bs.length = z.k ∧ z.bs.map Fx.core = (d.fx.take z.k).map Fx.core ∧ FxB z.bs) (le := fun z => [(1, .pointer (some ⟨b0, 0, none⟩)), (2, .pointer (some ⟨b1, 0, none⟩)), (3, .pointer (some ⟨b2, 0, none⟩)), (4, .int .i64 z.k)]) (Le := fun z => [.own A1 c1 3 1 d.st.length (encI d.st), .own A2 c2 60 16 d.fx.length ((z.bs ++ d.fx.drop z.k).map Fx.enc), manyE true (z.bs.map Fx.row), .blk b0 49 (d.cells a), .blk b1 49 [.int .i64 0, .int .i64 0, .int .i64 0, .slice none 0 0, .slice none 0 0, .slice none 0 0], .blk b2 49 (d.cells ⟨A1, A2, a.cA, c1, c2, a.cc⟩), .ro a.sA 1 d.st.length (encI d.st), .ro a.fA 16 d.fx.length (d.fx.map Fx.enc), .ro a.cA 3 d.cr.length (d.cr.map Cx.enc)]) (μ := fun z => d.fx.length - z.k) ⟨0, []⟩ ⟨Nat.zero_le _, rfl, rfl, fun x hx => by cases hx⟩ (by repeat (first | exact trivial | refine ⟨rfl, ?_⟩)) (by repeat (first | exact SubL.nil | (apply SubL.cons; (repeat (first | exact At.here | apply At.there))) | exact SubL.refl _ | apply SubL.skip)) (fun z hz => ?_)
  obtain ⟨hzk, hzl, hzc, hzb⟩ := hz
  refine sq (h := ?_)
  refine sq (h := ?_)
  refine rg (h := ?_)
  refine WL.y (hy := mv) (h := ?_)
  refine WL.y (hy := (by first | exact fa | exact faE)) (h := ?_)
  refine WL.y (hy := (by first | exact ld | exact ldE)) (h := ?_)
  refine WL.y (hy := lenS) (h := ?_)
  refine WL.y (hy := lss) (h := ?_)
  refine nl (h := ?_)
  refine q_seq (h := ?_)
  refine cd (by exact rfl) (fun h0 => ?_) (fun h0 => ?_)
  · skip
    have hkn : z.k < d.fx.length := by have := of_decide_eq_true h0; omega
    obtain ⟨x, hx⟩ : ∃ x, d.fx[z.k]? = some x := ⟨_, List.getElem?_eq_getElem hkn⟩
    have hxm := List.mem_of_getElem? hx
    have hx1 := hxs x hxm
    refine skp (h := ?_)
    refine q_seq (h := ?_)
    refine sq (h := ?_)
    refine bk (h := ?_)
    refine WC.old (h.x x hxm).1 ?_
    refine rgD (by kernel_rfl) [(15, .own A2 c2 60 16 d.fx.length ((z.bs ++ d.fx.drop z.k).map Fx.enc)), (1000000, .blk b0 49 (d.cells a)), (1000000, .blk b2 49 (d.cells ⟨A1, A2, a.cA, c1, c2, a.cc⟩)), (1000000, .ro a.fA 16 d.fx.length (d.fx.map Fx.enc))] (by repeat (first | exact HS.nil | (apply HS.keep; (repeat (first | exact At.here | apply At.there))) | (apply HS.ro; (repeat (first | exact Rds.ro | exact Rds.own | apply Rds.there))))) (h := ?_)
    refine tk 0 (hy := (by first | exact fa | exact faE)) (h := ?_)
    refine tk 1 (hy := (by first | exact ld | exact ldE)) (h := ?_)
    refine tk 2 (hy := mv) (h := ?_)
    refine tk 4 (hy := (by first | exact fa | exact faE)) (h := ?_)
    refine tk 5 (hy := (by first | exact ld | exact ldE)) (h := ?_)
    refine tk 6 (hy := mv) (h := ?_)
    refine tk 7 (hy := ix (A := a.fA) (m := d.fx.length)) (h := ?_)
    refine tk 8 (hy := (by first | exact fa | exact faE)) (h := ?_)
    refine tk 9 (hy := faE (A := a.fA) (i := z.k) (j := 11)) (h := ?_)
    refine tk 10 (hy := ldE (A := a.fA) (hk := map_at hx)) (h := ?_)
    refine one 3 (h := ?_)
    refine bs (h := fun b5 => ?_)
    refine nx (h := ?_)
    refine one 11 (h := ?_)
    first | refine ap (h := fun A3 c3 => ?_) | refine ap0 (h := fun A3 c3 => ?_)
    refine nx (h := ?_)
    refine one 12 (h := ?_)
    refine WL.y (hy := ix (A := A2) (m := d.fx.length)) (h := ?_)
    refine nx (h := ?_)
    refine tk 13 (hy := (by first | exact fa | exact faE)) (h := ?_)
    refine tk 14 (hy := faE (A := A2) (i := z.k) (j := 11)) (h := ?_)
    refine one 15 (h := ?_)
    refine stE (A := A2) (k := z.k) (j := 11) (cs := x.enc) (hk := cp_at hzl hx) (h := ?_)
    refine nx (h := ?_)
    refine dn (h := ?_)
    refine q_blk_norm (h := ?_)
    refine q_seq (h := ?_)
    simp only [Nat.zero_add, List.nil_append]
    refine WC.room (A := A3) (k := x.b.st.length) (by repeat (first | exact At.here | apply At.there)) (h := fun hrm => ?_)
    refine WC.manyAdd (A := A3) (by repeat (first | exact At.here | apply At.there)) (by repeat (first | exact At.here | apply At.there)) ?_
    rw [row_add (c := c3)]
    rw [fx_set z.bs d.fx hzl hx]
    refine rg (h := ?_)
    refine WL.y (hy := mv) (h := ?_)
    refine WL.y (hy := addI) (h := ?_)
    refine WL.y (hy := asg) (h := ?_)
    refine nl (h := ?_)
    refine rn (x := z) ⟨z.k + 1, z.bs ++ [x.at_ A3 c3]⟩ ⟨by dsimp only; omega, by dsimp only; rw [List.length_append, hzl]; rfl, core_add hzc hx _ _, fxB_add hzb hrm⟩ (by dsimp only; omega) (by repeat (first | exact trivial | refine ⟨rfl, ?_⟩)) (by repeat (first | exact SubL.nil | (apply SubL.cons; (repeat (first | exact At.here | apply At.there))) | exact SubL.refl _ | apply SubL.skip))
  · skip
    have hkn : z.k = d.fx.length := by have := of_decide_eq_false h0; omega
    refine et (h := ?_)
    refine q_then_exit (h := ?_)
    refine q_then_exit (h := ?_)
    refine q_blk_hit (h := ?_)
    refine q_seq (h := ?_)
    refine sq (h := ?_)
    refine WC.room (A := A2) (k := d.fx.length) (by repeat (first | exact At.here | apply At.there)) (h := fun hrf => ?_)
    have hbl : z.bs.length = d.fx.length := by omega
    rw [hkn, List.drop_length, List.append_nil, ← hbl]
    refine rg (h := ?_)
    refine bs (h := fun b6 => ?_)
    refine WL.y (hy := (by first | exact fa | exact faE)) (h := ?_)
    refine WL.y (hy := (by first | exact ld | exact ldE)) (h := ?_)
    first | refine ap (h := fun A4 c4 => ?_) | refine ap0 (h := fun A4 c4 => ?_)
    refine WL.y (hy := (by first | exact fa | exact faE)) (h := ?_)
    first | refine st (h := ?_) | refine stE (h := ?_)
    simp only [Nat.zero_add, List.nil_append]
    refine nl (h := ?_)
    refine q_seq (h := ?_)
    refine sq (h := ?_)
    refine rg (h := ?_)
    refine WL.y (hy := (by first | exact ldA | exact ldEA)) (h := ?_)
    first | refine stA (h := ?_) | refine stEA (h := ?_)
    refine nl (h := ?_)
    refine q_seq (h := ?_)
    refine rtn (h := ?_)
    refine q_ret (hR := ?_)
    exact fun w hS => ⟨⟨z.bs, ⟨A1, A2, A4, c1, c2, c4⟩⟩, ⟨⟨by rw [hzc, List.take_of_length_le (by omega)], hzb⟩, hrf.2⟩, (by rw [← hbl]; rfl), hS.sub (by repeat (first | exact SubL.nil | (apply SubL.cons; (repeat (first | exact At.here | apply At.there))) | exact SubL.refl _ | apply SubL.skip))⟩
def Dp.plus (d : Dp) (item day more : Int) : Dp := { d with cr := d.cr ++ [⟨day, item, more⟩] }
end Go.Proofs.Ytacaojifempclaa

namespace Go.Proofs.Ytacaojifempclaa
open Go Go.RowKit

structure EX where
  (a : DA) (A : Option Addr)
set_option maxRecDepth 100000 in
set_option maxHeartbeats 2000000 in
theorem C_law9_Example (w : World) : CR Try.prog 57 [] w (fun x : EX => x.a.sc = 3 ∧ x.a.fc = 3 ∧ x.a.cc = 1) (fun x => (exD x.A 1).val x.a)
    (fun x => [.own x.a.sA 3 3 1 3 (encI [10, 30, 9]), .own x.a.fA 3 60 16 3 ((exD x.A 1).fx.map Fx.enc), .own x.a.cA 1 62 3 1 ((exD x.A 1).cr.map Cx.enc), .own x.A 1 26 2 1 (encP [(3, 1)])]) := by
  refine ⟨en Try.func57 Try.ntmps57 (St.init w) (h := fun F => ?_)⟩
  refine sq (h := ?_)
  refine rg (h := ?_)
  refine al (h := fun b0 => ?_)
  refine nl (h := ?_)
  refine q_seq (h := ?_)
  refine sq (h := ?_)
  refine rg (h := ?_)
  refine cl (hc := fun w hS => C_law1_Example w) (h := fun y hy => ?_)
  refine WL.y (hy := mv) (h := ?_)
  refine WL.y (hy := ex) (h := ?_)
  refine WL.y (hy := ex) (h := ?_)
  refine al (h := fun b1 => ?_)
  first | refine stA (h := ?_) | refine stEA (h := ?_)
  refine WL.y (hy := asg) (h := ?_)
  refine nl (h := ?_)
  refine q_seq (h := ?_)
  refine sq (h := ?_)
  refine rg (h := ?_)
  refine WL.y (hy := bd) (h := ?_)
  refine bs (h := fun b2 => ?_)
  refine WL.y (hy := (by first | exact ldA | exact ldEA)) (h := ?_)
  refine WL.y (hy := bd) (h := ?_)
  refine WL.y (hy := (by first | exact ldA | exact ldEA)) (h := ?_)
  refine WL.y (hy := bd) (h := ?_)
  refine bs (h := fun b3 => ?_)
  refine WL.y (hy := bd) (h := ?_)
  refine WL.y (hy := bd) (h := ?_)
  refine WL.y (hy := bd) (h := ?_)
  refine WL.y (hy := (by first | exact ldA | exact ldEA)) (h := ?_)
  refine WL.y (hy := bd) (h := ?_)
  refine bs (h := fun b4 => ?_)
  refine WL.y (hy := bd) (h := ?_)
  refine bs (h := fun b5 => ?_)
  refine WL.y (hy := bd) (h := ?_)
  first | refine stA (h := ?_) | refine stEA (h := ?_)
  refine nl (h := ?_)
  refine q_seq (h := ?_)
  refine rtn (h := ?_)
  refine q_ret (hR := ?_)
  exact fun w hS => ⟨⟨⟨_, _, _, 3, 3, 1⟩, _⟩, ⟨rfl, rfl, rfl⟩, rfl, hS.sub (by repeat (first | exact SubL.nil | (apply SubL.cons; (repeat (first | exact At.here | apply At.there))) | exact SubL.refl _ | apply SubL.skip))⟩
theorem ex_dpr {w0 w : World} {L : List Ent} (hS : St w0 w L) {x : EX} (hx : x.a.sc = 3 ∧ x.a.fc = 3 ∧ x.a.cc = 1) (h1 : Rds L x.a.sA 1 3 (encI [10, 30, 9])) (h2 : Rds L x.a.fA 16 3 ((exD x.A 1).fx.map Fx.enc)) (h3 : Rds L x.a.cA 3 1 ((exD x.A 1).cr.map Cx.enc)) (h4 : Rds L x.A 2 1 (encP [(3, 1)])) : DpR w (exD x.A 1) x.a :=
  ⟨hS.get h1, hS.get h2, hS.get h3, fun y hy => by
    simp only [exD, List.mem_cons, List.not_mem_nil, or_false] at hy
    rcases hy with rfl | rfl | rfl
    · exact ⟨Rd.nil w none 2, Nat.le_refl _, Nat.zero_le _⟩
    · exact ⟨hS.get h4, Nat.le_refl _, by dsimp only; omega⟩
    · exact ⟨Rd.nil w none 2, Nat.le_refl _, Nat.zero_le _⟩, by show 3 ≤ _; omega, by show 3 ≤ _; omega, by show 1 ≤ _; omega⟩
set_option maxRecDepth 100000 in
set_option maxHeartbeats 2000000 in
theorem C_law9_works (w : World) : C0 Try.prog 17 [] w (.bool true) := by
  refine ⟨en Try.func17 Try.ntmps17 (St.init w) (h := fun F => ?_)⟩
  refine sq (h := ?_)
  refine rg (h := ?_)
  refine WL.y (hy := asg) (h := ?_)
  refine nl (h := ?_)
  refine q_seq (h := ?_)
  refine sq (h := ?_)
  refine rg (h := ?_)
  refine cl (hc := fun w hS => C_law9_Example w) (h := fun x hx => ?_)
  refine al (h := fun b0 => ?_)
  first | refine stA (h := ?_) | refine stEA (h := ?_)
  refine nl (h := ?_)
  refine q_seq (h := ?_)
  refine sq (h := ?_)
  refine rg (h := ?_)
  refine WL.y (hy := (by first | exact fa | exact faE)) (h := ?_)
  refine WL.y (hy := (by first | exact ld | exact ldE)) (h := ?_)
  refine WL.y (hy := ix (A := x.a.fA) (m := 3)) (h := ?_)
  refine WL.y (hy := (by first | exact fa | exact faE)) (h := ?_)
  refine WL.y (hy := ldEA (A := x.a.fA) (k := 0) (j := 1) (cs := Fx.enc ⟨1, exF, ⟨[], (0, 0), (0, 0)⟩, none, 0⟩) (vs := exF.cells) (hc := .skip (Tk.cons (.cons (.cons (.cons (.cons (.cons (.cons (.cons (.cons (.cons .nil)))))))))))) (h := ?_)
  refine WL.y (hy := bd) (h := ?_)
  refine cl0 (hc := fun w hS => C_balls_Rest exF ⟨[], (0, 0), (0, 0)⟩ none 0 0 w (Rd.nil w none 2) (by omega)) (h := ?_)
  rw [ex_restR]
  refine WL.y (hy := mv) (h := ?_)
  refine WL.y (hy := ex) (h := ?_)
  refine WL.y (hy := ex) (h := ?_)
  refine WL.y (hy := ex) (h := ?_)
  refine al (h := fun b1 => ?_)
  refine al (h := fun b2 => ?_)
  first | refine stA (h := ?_) | refine stEA (h := ?_)
  first | refine stA (h := ?_) | refine stEA (h := ?_)
  refine WL.y (hy := asg) (h := ?_)
  refine nl (h := ?_)
  refine q_seq (h := ?_)
  refine sq (h := ?_)
  refine rg (h := ?_)
  refine WL.y (hy := (by first | exact ldA | exact ldEA)) (h := ?_)
  refine cl0 (hc := fun w hS => C_balls_Left (exD x.A 1) x.a 0 2 w (ex_dpr hS hx (by repeat (first | exact Rds.own | apply Rds.there)) (by repeat (first | exact Rds.own | apply Rds.there)) (by repeat (first | exact Rds.own | apply Rds.there)) (by repeat (first | exact Rds.own | apply Rds.there)))) (h := ?_)
  rw [ex_left]
  refine WL.y (hy := mv) (h := ?_)
  refine WL.y (hy := ex) (h := ?_)
  refine WL.y (hy := ex) (h := ?_)
  refine al (h := fun b3 => ?_)
  first | refine stA (h := ?_) | refine stEA (h := ?_)
  refine WL.y (hy := asg) (h := ?_)
  refine nl (h := ?_)
  refine q_seq (h := ?_)
  refine sq (h := ?_)
  refine rg (h := ?_)
  refine WL.y (hy := (by first | exact ldA | exact ldEA)) (h := ?_)
  refine cl0 (hc := fun w hS => C_balls_Order (exD x.A 1) x.a 0 2 w (ex_dpr hS hx (by repeat (first | exact Rds.own | apply Rds.there)) (by repeat (first | exact Rds.own | apply Rds.there)) (by repeat (first | exact Rds.own | apply Rds.there)) (by repeat (first | exact Rds.own | apply Rds.there)))) (h := ?_)
  rw [ex_ordR]
  refine WL.y (hy := mv) (h := ?_)
  refine WL.y (hy := ex) (h := ?_)
  refine WL.y (hy := ex) (h := ?_)
  refine WL.y (hy := asg) (h := ?_)
  refine WL.y (hy := asg) (h := ?_)
  refine nl (h := ?_)
  refine q_seq (h := ?_)
  refine sq (h := ?_)
  refine rg (h := ?_)
  refine WL.y (hy := mv) (h := ?_)
  refine WL.y (hy := eql) (h := ?_)
  refine WL.y (hy := mv) (h := ?_)
  apply brAnd 3 33 36 (by exact rfl)
  · intro hb0
    refine un (h := ?_)
    refine WL.y (hy := mv) (h := ?_)
    refine un (h := ?_)
    refine WL.y (hy := eql) (h := ?_)
    refine WL.y (hy := (by first | exact pkT | exact pkF)) (h := ?_)
    exact mg (by repeat (first | exact trivial | refine ⟨rfl, ?_⟩ | refine ⟨by rw [hb0]; rfl, ?_⟩)) (by repeat (first | exact SubL.nil | (apply SubL.cons; (repeat (first | exact At.here | apply At.there))) | exact SubL.refl _ | apply SubL.skip))
  · intro hb0
    repeat (first | refine un (h := ?_) | refine sk (h := ?_) | refine WL.y (hy := pkF) (h := ?_) | refine WL.y (hy := pkT) (h := ?_))
    exact mg (by repeat (first | exact trivial | refine ⟨rfl, ?_⟩ | refine ⟨by rw [hb0]; rfl, ?_⟩)) (by repeat (first | exact SubL.nil | (apply SubL.cons; (repeat (first | exact At.here | apply At.there))) | exact SubL.refl _ | apply SubL.skip))
  refine WL.y (hy := mv) (h := ?_)
  apply brAnd 3 37 40 (by exact rfl)
  · intro hb1
    refine un (h := ?_)
    refine WL.y (hy := mv) (h := ?_)
    refine un (h := ?_)
    refine WL.y (hy := eql) (h := ?_)
    refine WL.y (hy := (by first | exact pkT | exact pkF)) (h := ?_)
    exact mg (by repeat (first | exact trivial | refine ⟨rfl, ?_⟩ | refine ⟨by rw [hb1]; rfl, ?_⟩)) (by repeat (first | exact SubL.nil | (apply SubL.cons; (repeat (first | exact At.here | apply At.there))) | exact SubL.refl _ | apply SubL.skip))
  · intro hb1
    repeat (first | refine un (h := ?_) | refine sk (h := ?_) | refine WL.y (hy := pkF) (h := ?_) | refine WL.y (hy := pkT) (h := ?_))
    exact mg (by repeat (first | exact trivial | refine ⟨rfl, ?_⟩ | refine ⟨by rw [hb1]; rfl, ?_⟩)) (by repeat (first | exact SubL.nil | (apply SubL.cons; (repeat (first | exact At.here | apply At.there))) | exact SubL.refl _ | apply SubL.skip))
  refine WL.y (hy := mv) (h := ?_)
  apply brAnd 4 41 45 (by exact rfl)
  · intro hb2
    refine un (h := ?_)
    refine WL.y (hy := (by first | exact ldA | exact ldEA)) (h := ?_)
    refine un (h := ?_)
    refine WL.y (hy := bd) (h := ?_)
    refine un (h := ?_)
    refine WL.y (hy := eqlT) (h := ?_)
    refine WL.y (hy := (by first | exact pkT | exact pkF)) (h := ?_)
    exact mg (by repeat (first | exact trivial | refine ⟨rfl, ?_⟩ | refine ⟨by rw [hb2]; rfl, ?_⟩)) (by repeat (first | exact SubL.nil | (apply SubL.cons; (repeat (first | exact At.here | apply At.there))) | exact SubL.refl _ | apply SubL.skip))
  · intro hb2
    repeat (first | refine un (h := ?_) | refine sk (h := ?_) | refine WL.y (hy := pkF) (h := ?_) | refine WL.y (hy := pkT) (h := ?_))
    exact mg (by repeat (first | exact trivial | refine ⟨rfl, ?_⟩ | refine ⟨by rw [hb2]; rfl, ?_⟩)) (by repeat (first | exact SubL.nil | (apply SubL.cons; (repeat (first | exact At.here | apply At.there))) | exact SubL.refl _ | apply SubL.skip))
  refine WL.y (hy := mv) (h := ?_)
  apply brAnd 4 46 50 (by exact rfl)
  · intro hb3
    refine un (h := ?_)
    refine WL.y (hy := (by first | exact ldA | exact ldEA)) (h := ?_)
    refine un (h := ?_)
    refine WL.y (hy := bd) (h := ?_)
    refine un (h := ?_)
    refine WL.y (hy := eqlT) (h := ?_)
    refine WL.y (hy := (by first | exact pkT | exact pkF)) (h := ?_)
    exact mg (by repeat (first | exact trivial | refine ⟨rfl, ?_⟩ | refine ⟨by rw [hb3]; rfl, ?_⟩)) (by repeat (first | exact SubL.nil | (apply SubL.cons; (repeat (first | exact At.here | apply At.there))) | exact SubL.refl _ | apply SubL.skip))
  · intro hb3
    repeat (first | refine un (h := ?_) | refine sk (h := ?_) | refine WL.y (hy := pkF) (h := ?_) | refine WL.y (hy := pkT) (h := ?_))
    exact mg (by repeat (first | exact trivial | refine ⟨rfl, ?_⟩ | refine ⟨by rw [hb3]; rfl, ?_⟩)) (by repeat (first | exact SubL.nil | (apply SubL.cons; (repeat (first | exact At.here | apply At.there))) | exact SubL.refl _ | apply SubL.skip))
  refine WL.y (hy := mv) (h := ?_)
  apply brAnd 4 51 55 (by exact rfl)
  · intro hb4
    refine un (h := ?_)
    refine WL.y (hy := (by first | exact ldA | exact ldEA)) (h := ?_)
    refine un (h := ?_)
    refine WL.y (hy := bd) (h := ?_)
    refine un (h := ?_)
    refine WL.y (hy := eqlT) (h := ?_)
    refine WL.y (hy := (by first | exact pkT | exact pkF)) (h := ?_)
    exact mg (by repeat (first | exact trivial | refine ⟨rfl, ?_⟩ | refine ⟨by rw [hb4]; rfl, ?_⟩)) (by repeat (first | exact SubL.nil | (apply SubL.cons; (repeat (first | exact At.here | apply At.there))) | exact SubL.refl _ | apply SubL.skip))
  · intro hb4
    repeat (first | refine un (h := ?_) | refine sk (h := ?_) | refine WL.y (hy := pkF) (h := ?_) | refine WL.y (hy := pkT) (h := ?_))
    exact mg (by repeat (first | exact trivial | refine ⟨rfl, ?_⟩ | refine ⟨by rw [hb4]; rfl, ?_⟩)) (by repeat (first | exact SubL.nil | (apply SubL.cons; (repeat (first | exact At.here | apply At.there))) | exact SubL.refl _ | apply SubL.skip))
  refine WL.y (hy := mv) (h := ?_)
  apply brAnd 3 56 59 (by exact rfl)
  · intro hb5
    refine un (h := ?_)
    refine WL.y (hy := mv) (h := ?_)
    refine un (h := ?_)
    refine WL.y (hy := eql) (h := ?_)
    refine WL.y (hy := (by first | exact pkT | exact pkF)) (h := ?_)
    exact mg (by repeat (first | exact trivial | refine ⟨rfl, ?_⟩ | refine ⟨by rw [hb5]; rfl, ?_⟩)) (by repeat (first | exact SubL.nil | (apply SubL.cons; (repeat (first | exact At.here | apply At.there))) | exact SubL.refl _ | apply SubL.skip))
  · intro hb5
    repeat (first | refine un (h := ?_) | refine sk (h := ?_) | refine WL.y (hy := pkF) (h := ?_) | refine WL.y (hy := pkT) (h := ?_))
    exact mg (by repeat (first | exact trivial | refine ⟨rfl, ?_⟩ | refine ⟨by rw [hb5]; rfl, ?_⟩)) (by repeat (first | exact SubL.nil | (apply SubL.cons; (repeat (first | exact At.here | apply At.there))) | exact SubL.refl _ | apply SubL.skip))
  refine WL.y (hy := asg) (h := ?_)
  refine nl (h := ?_)
  refine q_seq (h := ?_)
  refine rtn (h := ?_)
  refine q_ret (hR := ?_)
  exact fun w hS => ⟨rfl, hS.sub (by repeat (first | exact SubL.nil | (apply SubL.cons; (repeat (first | exact At.here | apply At.there))) | exact SubL.refl _ | apply SubL.skip))⟩
end Go.Proofs.Ytacaojifempclaa

namespace Go.Proofs.Ytacaojifempclaa
open Go Go.RowKit

theorem need_form (d : Dp) (item day : Int) : ∃ (p : Pr) (e : Int), needR d item day = [pv p, .int .i64 e] := by
  unfold needR
  cases decide (askE d item day = 0)
  · exact ⟨_, _, rfl⟩
  · exact ⟨_, _, rfl⟩
theorem left_form (d : Dp) (item day : Int) : ∃ (p : Pr) (e : Int), leftR d item day = [pv p, .int .i64 e] := by
  unfold leftR
  cases decide (askE d item day = 0)
  · exact ⟨_, _, rfl⟩
  · exact ⟨_, _, rfl⟩
theorem ord_form (d : Dp) (item day : Int) : ∃ (p : Int) (e : Int), ordR d item day = [.int .i64 p, .int .i64 e] := by
  unfold ordR
  cases decide (askE d item day = 0)
  · exact ⟨_, _, rfl⟩
  · exact ⟨_, _, rfl⟩
theorem short_form (d : Dp) (item : Int) : ∃ (p q : Int) (e : Int), shortR d item = [.int .i64 p, .int .i64 q, .int .i64 e] := by
  unfold shortR
  cases decide (askE d item 0 = 0)
  · exact ⟨_, _, _, rfl⟩
  · exact ⟨_, _, _, rfl⟩
theorem far_smd {d : Dp} (h : farD d = false) : SmD d := by
  obtain ⟨h1, h2⟩ := far_sm h
  exact ⟨by omega, fun x hx => by have := h2 x hx; omega⟩
abbrev Dp.cp (d : Dp) (fx : List Fx) : Dp := { d with fx := fx }
theorem cp_core {d : Dp} {fx : List Fx} (h : fx.map Fx.core = d.fx.map Fx.core) : (d.cp fx).core = d.core := by
  unfold Dp.core Dp.cp; rw [h]
section
variable {d o : Dp}
theorem dep_core (h : o.core = d.core) : depE o = depE d := by rw [← core_dep o, h, core_dep]
theorem needR_core (h : o.core = d.core) (item day : Int) : needR o item day = needR d item day := by rw [← core_needR o, h, core_needR]
theorem leftR_core (h : o.core = d.core) (item day : Int) : leftR o item day = leftR d item day := by rw [← core_leftR o, h, core_leftR]
theorem shortR_core (h : o.core = d.core) (item : Int) : shortR o item = shortR d item := by rw [← core_shortR o, h, core_shortR]
theorem ordR_core (h : o.core = d.core) (item day : Int) : ordR o item day = ordR d item day := by rw [← core_ordR o, h, core_ordR]
end
theorem cp_dpr {d : Dp} {w0 w : World} {L : List Ent} (hS : St w0 w L) {fx : List Fx} {a : DA} (hb : FxB fx) (hm : SmD d) (hc : fx.map Fx.core = d.fx.map Fx.core)
    (h1 : Rds L a.sA 1 d.st.length (encI d.st)) (h2 : Rds L a.fA 16 fx.length (fx.map Fx.enc)) (h3 : Rds L a.cA 3 d.cr.length (d.cr.map Cx.enc)) {M : List Ent} (hM : At L (manyE true (fx.map Fx.row)) M) : DpR w (d.cp fx) a := by
  have hl : fx.length = d.fx.length := by simpa using congrArg List.length hc
  obtain ⟨⟨m1, m2, m3⟩, -⟩ := hm
  exact dpr_of hS (o := d.cp fx) hb ⟨⟨by show d.st.length ≤ _; omega, by show fx.length ≤ _; omega⟩, by show d.cr.length ≤ _; omega⟩ h1 h2 h3 hM
end Go.Proofs.Ytacaojifempclaa

namespace Go.Proofs.Ytacaojifempclaa
open Go Go.RowKit

set_option maxRecDepth 100000 in
set_option maxHeartbeats 4000000 in
theorem K_BallsDepots (d : Dp) (a : DA) (x : Int × Int) (w : World) (h : DpR w d a) : C0 Try.prog 9 [d.val a, .agg #[.int .i64 x.1, .int .i64 x.2]] w (.bool true) := by
  obtain ⟨np_, ne_, hN⟩ := need_form d x.1 x.2
  obtain ⟨lp_, le_, hL⟩ := left_form d x.1 x.2
  obtain ⟨op_, oe_, hO⟩ := ord_form d x.1 x.2
  obtain ⟨hp_, hq_, he_, hH⟩ := short_form d x.1
  have hsc := h.sc
  refine ⟨en Try.func9 Try.ntmps9 ((St.init w).share (e := .ro a.sA 1 d.st.length (encI d.st)) h.s rfl rfl rfl) (h := fun F => ?_)⟩
  refine sq (h := ?_)
  refine rg (h := ?_)
  refine bxA (h := fun b0 => ?_)
  refine bxA (h := fun b1 => ?_)
  refine WL.y (hy := asg) (h := ?_)
  refine nl (h := ?_)
  refine q_seq (h := ?_)
  refine sq (h := ?_)
  refine sq (h := ?_)
  refine rg (h := ?_)
  refine WL.y (hy := (by first | exact ldA | exact ldEA)) (h := ?_)
  refine cl0 (hc := fun w hS => C_law9_Far d a w (h.old hS)) (h := ?_)
  refine nl (h := ?_)
  refine q_seq (h := ?_)
  refine cd (by exact rfl) (fun h0 => ?_) (fun h0 => ?_)
  · skip
    refine sq (h := ?_)
    refine rg (h := ?_)
    refine cl0 (hc := fun w hS => C_law9_works w) (h := ?_)
    refine WL.y (hy := asg) (h := ?_)
    refine nl (h := ?_)
    refine q_seq (h := ?_)
    refine rtn (h := ?_)
    refine q_then_ret (h := ?_)
    refine q_ret (hR := ?_)
    exact fun w hS => ⟨rfl, hS.sub (by repeat (first | exact SubL.nil | (apply SubL.cons; (repeat (first | exact At.here | apply At.there))) | exact SubL.refl _ | apply SubL.skip))⟩
  · skip
    have hsm := far_smd h0
    have hs2 := hsm.2
    refine skp (h := ?_)
    refine q_seq (h := ?_)
    refine sq (h := ?_)
    refine rg (h := ?_)
    refine WL.y (hy := (by first | exact ldA | exact ldEA)) (h := ?_)
    refine cl (hc := fun w hS => C_ref9_Copy d a hsm w (h.old hS)) (h := fun y hy => ?_)
    obtain ⟨⟨hyc, hyb⟩, hyn⟩ := hy
    have hco := cp_core (d := d) hyc
    refine al (h := fun b2 => ?_)
    first | refine stA (h := ?_) | refine stEA (h := ?_)
    refine nl (h := ?_)
    refine q_seq (h := ?_)
    refine sq (h := ?_)
    refine sq (h := ?_)
    refine rgD0 (by kernel_rfl) (h := ?_)
    refine tk 0 (hy := (by first | exact ldA | exact ldEA)) (h := ?_)
    refine tk 2 (hy := (by first | exact ldA | exact ldEA)) (h := ?_)
    refine one 1 (h := ?_)
    refine cl0 (hc := fun w hS => C_balls_Check (d.cp y.fx) y.a w (cp_dpr hS hyb hsm hyc (by repeat (first | exact Rds.ro | exact Rds.own | apply Rds.there)) (by repeat (first | exact Rds.ro | exact Rds.own | apply Rds.there)) (by repeat (first | exact Rds.ro | exact Rds.own | apply Rds.there)) (by repeat (first | exact At.here | apply At.there)))) (h := ?_)
    rw [dep_core hco]
    refine nx (h := ?_)
    refine one 3 (h := ?_)
    refine cl0 (hc := fun w hS => C_ref9_Check d a w (h.old hS) hs2) (h := ?_)
    refine nx (h := ?_)
    refine tk 4 (hy := (Yd.fl (neq) (by simp))) (h := ?_)
    refine dn (h := ?_)
    refine q_seq (h := ?_)
    refine cdF (h := ?_)
    refine skp (h := ?_)
    refine q_seq (h := ?_)
    refine sq (h := ?_)
    refine rg (h := ?_)
    refine WL.y (hy := (by first | exact ldA | exact ldEA)) (h := ?_)
    refine WL.y (hy := (by first | exact fa | exact faE)) (h := ?_)
    refine WL.y (hy := (by first | exact ld | exact ldE)) (h := ?_)
    refine WL.y (hy := (by first | exact fa | exact faE)) (h := ?_)
    refine WL.y (hy := (by first | exact ld | exact ldE)) (h := ?_)
    refine cl0 (hc := fun w hS => C_balls_Need (d.cp y.fx) y.a x.1 x.2 w (cp_dpr hS hyb hsm hyc (by repeat (first | exact Rds.ro | exact Rds.own | apply Rds.there)) (by repeat (first | exact Rds.ro | exact Rds.own | apply Rds.there)) (by repeat (first | exact Rds.ro | exact Rds.own | apply Rds.there)) (by repeat (first | exact At.here | apply At.there)))) (h := ?_)
    rw [needR_core hco, hN]
    refine WL.y (hy := mv) (h := ?_)
    refine WL.y (hy := ex) (h := ?_)
    refine WL.y (hy := ex) (h := ?_)
    refine al (h := fun b3 => ?_)
    first | refine stA (h := ?_) | refine stEA (h := ?_)
    refine WL.y (hy := asg) (h := ?_)
    refine nl (h := ?_)
    refine q_seq (h := ?_)
    refine sq (h := ?_)
    refine rg (h := ?_)
    refine WL.y (hy := (by first | exact ldA | exact ldEA)) (h := ?_)
    refine WL.y (hy := (by first | exact fa | exact faE)) (h := ?_)
    refine WL.y (hy := (by first | exact ld | exact ldE)) (h := ?_)
    refine WL.y (hy := (by first | exact fa | exact faE)) (h := ?_)
    refine WL.y (hy := (by first | exact ld | exact ldE)) (h := ?_)
    refine cl0 (hc := fun w hS => C_ref9_Need d a x.1 x.2 w (h.old hS) hs2) (h := ?_)
    rw [hN]
    refine WL.y (hy := mv) (h := ?_)
    refine WL.y (hy := ex) (h := ?_)
    refine WL.y (hy := ex) (h := ?_)
    refine al (h := fun b4 => ?_)
    first | refine stA (h := ?_) | refine stEA (h := ?_)
    refine WL.y (hy := asg) (h := ?_)
    refine nl (h := ?_)
    refine q_seq (h := ?_)
    refine sq (h := ?_)
    refine rg (h := ?_)
    refine WL.y (hy := (by first | exact ldA | exact ldEA)) (h := ?_)
    refine WL.y (hy := (by first | exact fa | exact faE)) (h := ?_)
    refine WL.y (hy := (by first | exact ld | exact ldE)) (h := ?_)
    refine WL.y (hy := (by first | exact fa | exact faE)) (h := ?_)
    refine WL.y (hy := (by first | exact ld | exact ldE)) (h := ?_)
    refine cl0 (hc := fun w hS => C_balls_Left (d.cp y.fx) y.a x.1 x.2 w (cp_dpr hS hyb hsm hyc (by repeat (first | exact Rds.ro | exact Rds.own | apply Rds.there)) (by repeat (first | exact Rds.ro | exact Rds.own | apply Rds.there)) (by repeat (first | exact Rds.ro | exact Rds.own | apply Rds.there)) (by repeat (first | exact At.here | apply At.there)))) (h := ?_)
    rw [leftR_core hco, hL]
    refine WL.y (hy := mv) (h := ?_)
    refine WL.y (hy := ex) (h := ?_)
    refine WL.y (hy := ex) (h := ?_)
    refine al (h := fun b5 => ?_)
    first | refine stA (h := ?_) | refine stEA (h := ?_)
    refine WL.y (hy := asg) (h := ?_)
    refine nl (h := ?_)
    refine q_seq (h := ?_)
    refine sq (h := ?_)
    refine rg (h := ?_)
    refine WL.y (hy := (by first | exact ldA | exact ldEA)) (h := ?_)
    refine WL.y (hy := (by first | exact fa | exact faE)) (h := ?_)
    refine WL.y (hy := (by first | exact ld | exact ldE)) (h := ?_)
    refine WL.y (hy := (by first | exact fa | exact faE)) (h := ?_)
    refine WL.y (hy := (by first | exact ld | exact ldE)) (h := ?_)
    refine cl0 (hc := fun w hS => C_ref9_Left d a x.1 x.2 w (h.old hS) hs2) (h := ?_)
    rw [hL]
    refine WL.y (hy := mv) (h := ?_)
    refine WL.y (hy := ex) (h := ?_)
    refine WL.y (hy := ex) (h := ?_)
    refine al (h := fun b6 => ?_)
    first | refine stA (h := ?_) | refine stEA (h := ?_)
    refine WL.y (hy := asg) (h := ?_)
    refine nl (h := ?_)
    refine q_seq (h := ?_)
    refine sq (h := ?_)
    refine sq (h := ?_)
    refine rg (h := ?_)
    refine WL.y (hy := (by first | exact ldA | exact ldEA)) (h := ?_)
    refine WL.y (hy := (by first | exact ldA | exact ldEA)) (h := ?_)
    refine WL.y (hy := (Yd.fl (neqT) (by simp))) (h := ?_)
    refine WL.y (hy := mv) (h := ?_)
    refine un (h := ?_)
    refine WL.y (hy := mv) (h := ?_)
    refine un (h := ?_)
    refine WL.y (hy := mv) (h := ?_)
    refine un (h := ?_)
    refine WL.y (hy := (Yd.fl (neq) (by simp))) (h := ?_)
    refine WL.y (hy := (by first | exact pkT | exact pkF)) (h := ?_)
    refine WL.y (hy := mv) (h := ?_)
    refine un (h := ?_)
    refine WL.y (hy := (by first | exact ldA | exact ldEA)) (h := ?_)
    refine un (h := ?_)
    refine WL.y (hy := (by first | exact ldA | exact ldEA)) (h := ?_)
    refine un (h := ?_)
    refine WL.y (hy := (Yd.fl (neqT) (by simp))) (h := ?_)
    refine WL.y (hy := (by first | exact pkT | exact pkF)) (h := ?_)
    refine WL.y (hy := mv) (h := ?_)
    refine un (h := ?_)
    refine WL.y (hy := mv) (h := ?_)
    refine un (h := ?_)
    refine WL.y (hy := mv) (h := ?_)
    refine un (h := ?_)
    refine WL.y (hy := (Yd.fl (neq) (by simp))) (h := ?_)
    refine WL.y (hy := (by first | exact pkT | exact pkF)) (h := ?_)
    refine nl (h := ?_)
    refine q_seq (h := ?_)
    refine cdF (h := ?_)
    refine skp (h := ?_)
    refine q_seq (h := ?_)
    refine sq (h := ?_)
    refine rg (h := ?_)
    refine WL.y (hy := (by first | exact ldA | exact ldEA)) (h := ?_)
    refine WL.y (hy := (by first | exact fa | exact faE)) (h := ?_)
    refine WL.y (hy := (by first | exact ld | exact ldE)) (h := ?_)
    refine cl0 (hc := fun w hS => C_balls_Short (d.cp y.fx) y.a x.1 w (cp_dpr hS hyb hsm hyc (by repeat (first | exact Rds.ro | exact Rds.own | apply Rds.there)) (by repeat (first | exact Rds.ro | exact Rds.own | apply Rds.there)) (by repeat (first | exact Rds.ro | exact Rds.own | apply Rds.there)) (by repeat (first | exact At.here | apply At.there)))) (h := ?_)
    rw [shortR_core hco, hH]
    refine WL.y (hy := mv) (h := ?_)
    refine WL.y (hy := ex) (h := ?_)
    refine WL.y (hy := ex) (h := ?_)
    refine WL.y (hy := ex) (h := ?_)
    refine WL.y (hy := asg) (h := ?_)
    refine WL.y (hy := asg) (h := ?_)
    refine WL.y (hy := asg) (h := ?_)
    refine nl (h := ?_)
    refine q_seq (h := ?_)
    refine sq (h := ?_)
    refine rg (h := ?_)
    refine WL.y (hy := (by first | exact ldA | exact ldEA)) (h := ?_)
    refine WL.y (hy := (by first | exact fa | exact faE)) (h := ?_)
    refine WL.y (hy := (by first | exact ld | exact ldE)) (h := ?_)
    refine cl0 (hc := fun w hS => C_ref9_Short d a x.1 w (h.old hS) hs2) (h := ?_)
    rw [hH]
    refine WL.y (hy := mv) (h := ?_)
    refine WL.y (hy := ex) (h := ?_)
    refine WL.y (hy := ex) (h := ?_)
    refine WL.y (hy := ex) (h := ?_)
    refine WL.y (hy := asg) (h := ?_)
    refine WL.y (hy := asg) (h := ?_)
    refine WL.y (hy := asg) (h := ?_)
    refine nl (h := ?_)
    refine q_seq (h := ?_)
    refine sq (h := ?_)
    refine rg (h := ?_)
    refine WL.y (hy := (by first | exact ldA | exact ldEA)) (h := ?_)
    refine WL.y (hy := (by first | exact fa | exact faE)) (h := ?_)
    refine WL.y (hy := (by first | exact ld | exact ldE)) (h := ?_)
    refine WL.y (hy := (by first | exact fa | exact faE)) (h := ?_)
    refine WL.y (hy := (by first | exact ld | exact ldE)) (h := ?_)
    refine cl0 (hc := fun w hS => C_balls_Order (d.cp y.fx) y.a x.1 x.2 w (cp_dpr hS hyb hsm hyc (by repeat (first | exact Rds.ro | exact Rds.own | apply Rds.there)) (by repeat (first | exact Rds.ro | exact Rds.own | apply Rds.there)) (by repeat (first | exact Rds.ro | exact Rds.own | apply Rds.there)) (by repeat (first | exact At.here | apply At.there)))) (h := ?_)
    rw [ordR_core hco, hO]
    refine WL.y (hy := mv) (h := ?_)
    refine WL.y (hy := ex) (h := ?_)
    refine WL.y (hy := ex) (h := ?_)
    refine WL.y (hy := asg) (h := ?_)
    refine WL.y (hy := asg) (h := ?_)
    refine nl (h := ?_)
    refine q_seq (h := ?_)
    refine sq (h := ?_)
    refine rg (h := ?_)
    refine WL.y (hy := (by first | exact ldA | exact ldEA)) (h := ?_)
    refine WL.y (hy := (by first | exact fa | exact faE)) (h := ?_)
    refine WL.y (hy := (by first | exact ld | exact ldE)) (h := ?_)
    refine WL.y (hy := (by first | exact fa | exact faE)) (h := ?_)
    refine WL.y (hy := (by first | exact ld | exact ldE)) (h := ?_)
    refine cl0 (hc := fun w hS => C_ref9_Order d a x.1 x.2 w (h.old hS) hs2) (h := ?_)
    rw [hO]
    refine WL.y (hy := mv) (h := ?_)
    refine WL.y (hy := ex) (h := ?_)
    refine WL.y (hy := ex) (h := ?_)
    refine WL.y (hy := asg) (h := ?_)
    refine WL.y (hy := asg) (h := ?_)
    refine nl (h := ?_)
    refine q_seq (h := ?_)
    refine sq (h := ?_)
    refine sq (h := ?_)
    refine rg (h := ?_)
    refine WL.y (hy := mv) (h := ?_)
    refine WL.y (hy := mv) (h := ?_)
    refine WL.y (hy := (Yd.fl (neq) (by simp))) (h := ?_)
    refine WL.y (hy := mv) (h := ?_)
    refine un (h := ?_)
    refine WL.y (hy := mv) (h := ?_)
    refine un (h := ?_)
    refine WL.y (hy := mv) (h := ?_)
    refine un (h := ?_)
    refine WL.y (hy := (Yd.fl (neq) (by simp))) (h := ?_)
    refine WL.y (hy := (by first | exact pkT | exact pkF)) (h := ?_)
    refine WL.y (hy := mv) (h := ?_)
    refine un (h := ?_)
    refine WL.y (hy := mv) (h := ?_)
    refine un (h := ?_)
    refine WL.y (hy := mv) (h := ?_)
    refine un (h := ?_)
    refine WL.y (hy := (Yd.fl (neq) (by simp))) (h := ?_)
    refine WL.y (hy := (by first | exact pkT | exact pkF)) (h := ?_)
    refine WL.y (hy := mv) (h := ?_)
    refine un (h := ?_)
    refine WL.y (hy := mv) (h := ?_)
    refine un (h := ?_)
    refine WL.y (hy := mv) (h := ?_)
    refine un (h := ?_)
    refine WL.y (hy := (Yd.fl (neq) (by simp))) (h := ?_)
    refine WL.y (hy := (by first | exact pkT | exact pkF)) (h := ?_)
    refine WL.y (hy := mv) (h := ?_)
    refine un (h := ?_)
    refine WL.y (hy := mv) (h := ?_)
    refine un (h := ?_)
    refine WL.y (hy := mv) (h := ?_)
    refine un (h := ?_)
    refine WL.y (hy := (Yd.fl (neq) (by simp))) (h := ?_)
    refine WL.y (hy := (by first | exact pkT | exact pkF)) (h := ?_)
    refine WL.y (hy := mv) (h := ?_)
    refine un (h := ?_)
    refine WL.y (hy := (by first | exact fa | exact faE)) (h := ?_)
    refine un (h := ?_)
    refine WL.y (hy := (by first | exact ld | exact ldE)) (h := ?_)
    refine un (h := ?_)
    refine WL.y (hy := lenS) (h := ?_)
    refine un (h := ?_)
    refine WL.y (hy := (by first | exact fa | exact faE)) (h := ?_)
    refine un (h := ?_)
    refine WL.y (hy := (by first | exact ld | exact ldE)) (h := ?_)
    refine un (h := ?_)
    refine WL.y (hy := lenS) (h := ?_)
    refine un (h := ?_)
    refine WL.y (hy := (Yd.fl (neq) (by simp))) (h := ?_)
    refine WL.y (hy := (by first | exact pkT | exact pkF)) (h := ?_)
    refine nl (h := ?_)
    refine q_seq (h := ?_)
    refine cdF (h := ?_)
    refine skp (h := ?_)
    refine q_seq (h := ?_)
    refine sq (h := ?_)
    refine sq (h := ?_)
    refine rg (h := ?_)
    refine WL.y (hy := asg) (h := ?_)
    refine nl (h := ?_)
    refine q_seq (h := ?_)
    refine bk (h := ?_)
    refine lp (X := Nat) (I := fun k => k ≤ d.st.length) (le := fun k => [(2, .pointer (some ⟨b0, 0, none⟩)), (5, .pointer (some ⟨b2, 0, none⟩)), (24, .int .i64 k)]) (Le := fun _ => [.blk b0 49 (d.cells a), .blk b2 49 ((d.cp y.fx).cells y.a), .own y.a.sA y.a.sc 3 1 d.st.length (encI d.st), .ro a.sA 1 d.st.length (encI d.st)]) (μ := fun k => d.st.length - k) 0 (Nat.zero_le _) (by repeat (first | exact trivial | refine ⟨rfl, ?_⟩)) (by repeat (first | exact SubL.nil | (apply SubL.cons; (repeat (first | exact At.here | apply At.there))) | exact SubL.refl _ | apply SubL.skip)) (fun k hk => ?_)
    refine sq (h := ?_)
    refine sq (h := ?_)
    refine rg (h := ?_)
    refine WL.y (hy := mv) (h := ?_)
    refine WL.y (hy := (by first | exact fa | exact faE)) (h := ?_)
    refine WL.y (hy := (by first | exact ld | exact ldE)) (h := ?_)
    refine WL.y (hy := lenS) (h := ?_)
    refine WL.y (hy := lss) (h := ?_)
    refine nl (h := ?_)
    refine q_seq (h := ?_)
    refine cd (by exact rfl) (fun h4 => ?_) (fun h4 => ?_)
    · skip
      have hkn : k < d.st.length := by have := of_decide_eq_true h4; omega
      obtain ⟨v, hv⟩ : ∃ v, d.st[k]? = some v := ⟨_, List.getElem?_eq_getElem hkn⟩
      have hve := encI_at hv
      refine skp (h := ?_)
      refine q_seq (h := ?_)
      refine sq (h := ?_)
      refine bk (h := ?_)
      refine sq (h := ?_)
      refine rgD0 (by kernel_rfl) (h := ?_)
      refine tk 0 (hy := (by first | exact fa | exact faE)) (h := ?_)
      refine tk 1 (hy := (by first | exact ld | exact ldE)) (h := ?_)
      refine tk 2 (hy := mv) (h := ?_)
      refine tk 3 (hy := ix (A := y.a.sA) (m := d.st.length)) (h := ?_)
      refine tk 4 (hy := ldE (A := y.a.sA) (hk := hve)) (h := ?_)
      refine tk 5 (hy := (by first | exact fa | exact faE)) (h := ?_)
      refine tk 6 (hy := (by first | exact ld | exact ldE)) (h := ?_)
      refine tk 7 (hy := mv) (h := ?_)
      refine tk 8 (hy := ix (A := a.sA) (m := d.st.length)) (h := ?_)
      refine tk 9 (hy := ldE (A := a.sA) (hk := hve)) (h := ?_)
      refine tk 10 (hy := (Yd.fl (neq) (by simp))) (h := ?_)
      refine dn (h := ?_)
      refine q_seq (h := ?_)
      refine cdF (h := ?_)
      refine skp (h := ?_)
      refine q_blk_norm (h := ?_)
      refine q_seq (h := ?_)
      refine rg (h := ?_)
      refine WL.y (hy := mv) (h := ?_)
      refine WL.y (hy := addI) (h := ?_)
      refine WL.y (hy := asg) (h := ?_)
      refine nl (h := ?_)
      refine rn (x := k) (k + 1) hkn (by omega) (by repeat (first | exact trivial | refine ⟨rfl, ?_⟩)) (by repeat (first | exact SubL.nil | (apply SubL.cons; (repeat (first | exact At.here | apply At.there))) | exact SubL.refl _ | apply SubL.skip))
    · skip
      refine et (h := ?_)
      refine q_then_exit (h := ?_)
      refine q_then_exit (h := ?_)
      refine q_blk_hit (h := ?_)
      refine q_seq (h := ?_)
      refine sq (h := ?_)
      refine rg (h := ?_)
      refine cl0 (hc := fun w hS => C_law9_works w) (h := ?_)
      refine WL.y (hy := asg) (h := ?_)
      refine nl (h := ?_)
      refine q_seq (h := ?_)
      refine rtn (h := ?_)
      refine q_ret (hR := ?_)
      exact fun w hS => ⟨rfl, hS.sub (by repeat (first | exact SubL.nil | (apply SubL.cons; (repeat (first | exact At.here | apply At.there))) | exact SubL.refl _ | apply SubL.skip))⟩
end Go.Proofs.Ytacaojifempclaa
