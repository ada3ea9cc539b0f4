/- The law of the servers. -/
import Derived.Test.YtebhkghgifiahaaSX
namespace Go.Proofs.Ytebhkghgifiahaa
open Go Go.RowKit

structure VZ where
  (k : Nat) (row last total : Int) (A : Option Addr) (c : Nat) (es : List Int)
theorem encI_app (xs : List Int) (x : Int) : encI xs ++ [[.int .i64 x]] = encI (xs ++ [x]) := by simp [encI]
set_option maxRecDepth 100000 in
set_option maxHeartbeats 2000000 in
theorem K_ScoreServes (f : Fmt) (first : Int) (xs : List Int) (A : Option Addr) (n c : Nat) (w : World) (h : Rd w A 1 n (encI xs)) (hn : n ≤ c ∧ c ≤ 9223372036854775807) :
    C0 Try.prog 7 [f.val, .agg #[.int .i64 first, .slice A n c]] w (.bool true) := by
  have hlen : xs.length = n := by have := h.len; rwa [encI_len] at this
  refine ⟨en Try.func7 Try.ntmps7 ((St.init w).share (e := .ro A 1 n (encI xs)) h rfl rfl rfl) (h := fun F => ?_)⟩
  refine sq (h := ?_)
  refine rg (h := ?_)
  refine bxA (h := fun b0 => ?_)
  refine bxA (h := fun b1 => ?_)
  refine WL.y (hy := asg) (h := ?_)
  refine nl (h := ?_)
  refine q_seq (h := ?_)
  refine sq (h := ?_)
  refine sq (h := ?_)
  refine rg (h := ?_)
  refine WL.y (hy := (by first | exact fa | exact faE)) (h := ?_)
  refine WL.y (hy := (by first | exact ld | exact ldE)) (h := ?_)
  refine WL.y (hy := lenS) (h := ?_)
  refine WL.y (hy := gtr) (h := ?_)
  refine WL.y (hy := mv) (h := ?_)
  apply brOr 5 22 27 (by exact rfl)
  · intro hb0
    refine un (h := ?_)
    refine WL.y (hy := (by first | exact ldA | exact ldEA)) (h := ?_)
    refine un (h := ?_)
    refine WL.y (hy := (by first | exact ldA | exact ldEA)) (h := ?_)
    refine un (h := ?_)
    refine cl0 (hc := fun w hS => C_law1_ready _ _ _ _ _ _ w (hS.get (by repeat (first | exact Rds.ro | exact Rds.own | apply Rds.there))) (by omega)) (h := ?_)
    refine un (h := ?_)
    refine WL.y (hy := notB) (h := ?_)
    refine WL.y (hy := (by first | exact pkT | exact pkF)) (h := ?_)
    exact mg (by repeat (first | exact trivial | refine ⟨rfl, ?_⟩ | refine ⟨by rw [hb0]; rfl, ?_⟩)) (by repeat (first | exact SubL.nil | (apply SubL.cons; (repeat (first | exact At.here | apply At.there))) | exact SubL.refl _ | apply SubL.skip))
  · intro hb0
    repeat (first | refine un (h := ?_) | refine sk (h := ?_) | refine WL.y (hy := pkF) (h := ?_) | refine WL.y (hy := pkT) (h := ?_))
    exact mg (by repeat (first | exact trivial | refine ⟨rfl, ?_⟩ | refine ⟨by rw [hb0]; rfl, ?_⟩)) (by repeat (first | exact SubL.nil | (apply SubL.cons; (repeat (first | exact At.here | apply At.there))) | exact SubL.refl _ | apply SubL.skip))
  refine nl (h := ?_)
  refine q_seq (h := ?_)
  refine cd (by exact rfl) (fun h1 => ?_) (fun h1 => ?_)
  · skip
    refine sq (h := ?_)
    refine rg (h := ?_)
    refine cl0 (hc := fun w hS => C_law1_works w) (h := ?_)
    refine WL.y (hy := asg) (h := ?_)
    refine nl (h := ?_)
    refine q_seq (h := ?_)
    refine rtn (h := ?_)
    refine q_then_ret (h := ?_)
    refine q_ret (hR := ?_)
    exact fun w hS => ⟨rfl, hS.sub (by repeat (first | exact SubL.nil | (apply SubL.cons; (repeat (first | exact At.here | apply At.there))) | exact SubL.refl _ | apply SubL.skip))⟩
  · skip
    rw [Bool.or_eq_false_iff, Bool.not_eq_false'] at h1
    obtain ⟨hn15, hrd⟩ := h1
    obtain ⟨m, hm⟩ := ready_some hrd
    obtain ⟨hok, hfs, hn6, -, hB, -, -, -⟩ := play_some hm
    have hgs := plays_games hm
    have hgl : m.gs.length ≤ 600 := by have := hB.gs; omega
    have hn150 : n ≤ 150 := by have := of_decide_eq_false hn15; omega
    refine skp (h := ?_)
    refine q_seq (h := ?_)
    refine sq (h := ?_)
    refine rg (h := ?_)
    refine WL.y (hy := (by first | exact ldA | exact ldEA)) (h := ?_)
    refine WL.y (hy := (by first | exact ldA | exact ldEA)) (h := ?_)
    refine cl (hc := fun w hS => C_law1_played f first xs A n c w (hS.get (by repeat (first | exact Rds.ro | exact Rds.own | apply Rds.there))) (by omega)) (h := fun x1 _ => ?_)
    rw [hm, some_ok hm]
    dsimp only [scO, gsO, MS.sc, Sc.val]
    refine WL.y (hy := mv) (h := ?_)
    refine WL.y (hy := ex) (h := ?_)
    refine WL.y (hy := ex) (h := ?_)
    refine WL.y (hy := ex) (h := ?_)
    refine al (h := fun ba => ?_)
    first | refine stA (h := ?_) | refine stEA (h := ?_)
    refine WL.y (hy := asg) (h := ?_)
    refine WL.y (hy := asg) (h := ?_)
    refine nl (h := ?_)
    refine q_seq (h := ?_)
    refine sq (h := ?_)
    refine sq (h := ?_)
    refine rg (h := ?_)
    refine WL.y (hy := mv) (h := ?_)
    refine WL.y (hy := (Yd.fl (notB) (by rfl))) (h := ?_)
    refine nl (h := ?_)
    refine q_seq (h := ?_)
    refine cdF (h := ?_)
    refine skp (h := ?_)
    refine q_seq (h := ?_)
    refine sq (h := ?_)
    refine sq (h := ?_)
    refine rg (h := ?_)
    refine WL.y (hy := asg) (h := ?_)
    refine nl (h := ?_)
    refine q_seq (h := ?_)
    refine bk (h := ?_)
    refine lp (X := Nat) (I := fun k => k ≤ m.gs.length) (le := fun k => [(2, .pointer (some ⟨b0, 0, none⟩)), (3, .pointer (some ⟨b1, 0, none⟩)), (6, .slice x1.2.1 m.gs.length x1.2.2), (8, .int .i64 k)]) (Le := fun _ => [.blk b0 23 f.cells, .blk b1 36 [.int .i64 first, .slice A n c], .own x1.2.1 x1.2.2 48 7 m.gs.length (encG m.gs), .ro A 1 n (encI xs)]) (μ := fun k => m.gs.length - k) 0 (Nat.zero_le _) (by repeat (first | exact trivial | refine ⟨rfl, ?_⟩)) (by repeat (first | exact SubL.nil | (apply SubL.cons; (repeat (first | exact At.here | apply At.there))) | exact SubL.refl _ | apply SubL.skip)) (fun k hk => ?_)
    refine sq (h := ?_)
    refine sq (h := ?_)
    refine rg (h := ?_)
    refine WL.y (hy := mv) (h := ?_)
    refine WL.y (hy := mv) (h := ?_)
    refine WL.y (hy := lenS) (h := ?_)
    refine WL.y (hy := lss) (h := ?_)
    refine nl (h := ?_)
    refine q_seq (h := ?_)
    refine cd (by exact rfl) (fun h3 => ?_) (fun h3 => ?_)
    · skip
      have hkn2 : k < m.gs.length := by simp only [decide_eq_true_eq] at h3; omega
      obtain ⟨g, hg⟩ : ∃ g, m.gs[k]? = some g := ⟨_, List.getElem?_eq_getElem hkn2⟩
      have hge := encG_at hg
      obtain ⟨-, hgs'⟩ := hgs k g hg
      have hgr := servG_rng f first k
      have hgp := servG_pair f first k
      rw [← hgs'] at hgr hgp
      refine skp (h := ?_)
      refine q_seq (h := ?_)
      refine sq (h := ?_)
      refine bk (h := ?_)
      refine sq (h := ?_)
      refine sq (h := ?_)
      refine rgD0 (by kernel_rfl) (h := ?_)
      refine tk 0 (hy := mv) (h := ?_)
      refine tk 1 (hy := mv) (h := ?_)
      refine tk 2 (hy := ix (A := x1.2.1) (m := m.gs.length)) (h := ?_)
      refine tk 3 (hy := (by first | exact fa | exact faE)) (h := ?_)
      refine tk 4 (hy := ldE (A := x1.2.1) (hk := hge)) (h := ?_)
      refine tk 5 (hy := (Yd.fl (lss) (by refine decide_eq_false ?_; omega))) (h := ?_)
      refine tk 6 (hy := mv) (h := ?_)
      refine tk 7 (hy := mv) (h := ?_)
      refine tk 8 (hy := mv) (h := ?_)
      refine tk 9 (hy := ix (A := x1.2.1) (m := m.gs.length)) (h := ?_)
      refine tk 10 (hy := (by first | exact fa | exact faE)) (h := ?_)
      refine tk 11 (hy := ldE (A := x1.2.1) (hk := hge)) (h := ?_)
      refine tk 12 (hy := (Yd.fl (gtr) (by refine decide_eq_false ?_; omega))) (h := ?_)
      refine tk 13 (hy := (by first | exact pkT | exact pkF)) (h := ?_)
      refine tk 14 (hy := mv) (h := ?_)
      refine tk 15 (hy := mv) (h := ?_)
      refine tk 16 (hy := mv) (h := ?_)
      refine tk 17 (hy := ix (A := x1.2.1) (m := m.gs.length)) (h := ?_)
      refine tk 18 (hy := (by first | exact fa | exact faE)) (h := ?_)
      refine tk 19 (hy := ldE (A := x1.2.1) (hk := hge)) (h := ?_)
      refine tk 20 (hy := gtr) (h := ?_)
      refine tk 21 (hy := mv) (h := ?_)
      refine brH (g := 65) (by exact rfl) (fun hb4 => ?_) (fun hb4 => ?_)
      · skip
        refine tk 22 (hy := (by first | exact fa | exact faE)) (h := ?_)
        refine tk 23 (hy := (by first | exact ld | exact ldE)) (h := ?_)
        refine tk 24 (hy := (Yd.fl (notB) (by rw [hgp.2 (of_decide_eq_true ‹_›)]; rfl))) (h := ?_)
        refine tk 25 (hy := (by first | exact pkT | exact pkF)) (h := ?_)
        refine tk 26 (hy := (by first | exact pkT | exact pkF)) (h := ?_)
        refine tk 27 (hy := mv) (h := ?_)
        refine tk 28 (hy := mv) (h := ?_)
        refine tk 29 (hy := mv) (h := ?_)
        refine tk 30 (hy := ix (A := x1.2.1) (m := m.gs.length)) (h := ?_)
        refine tk 31 (hy := (by first | exact fa | exact faE)) (h := ?_)
        refine tk 32 (hy := ldE (A := x1.2.1) (hk := hge)) (h := ?_)
        refine tk 33 (hy := remI) (h := ?_)
        refine tk 34 (hy := (by first | exact fa | exact faE)) (h := ?_)
        refine tk 35 (hy := (by first | exact ld | exact ldE)) (h := ?_)
        refine tk 36 (hy := mv) (h := ?_)
        refine tk 37 (hy := addI) (h := ?_)
        refine tk 38 (hy := remI) (h := ?_)
        refine tk 39 (hy := (Yd.fl (neq) (by rw [decide_eq_true hgp.1]; rfl))) (h := ?_)
        refine tk 40 (hy := (by first | exact pkT | exact pkF)) (h := ?_)
        refine dn (h := ?_)
        refine q_seq (h := ?_)
        refine cdF (h := ?_)
        refine skp (h := ?_)
        refine q_seq (h := ?_)
        refine sq (h := ?_)
        refine rgD0 (by kernel_rfl) (h := ?_)
        refine tk 0 (hy := mv) (h := ?_)
        refine tk 1 (hy := geq) (h := ?_)
        refine tk 2 (hy := mv) (h := ?_)
        refine brH (g := 87) (by exact rfl) (fun hb6 => ?_) (fun hb6 => ?_)
        · skip
          obtain ⟨g4, hg4⟩ : ∃ g4, m.gs[((k : Int) - 4).toNat]? = some g4 := ⟨_, List.getElem?_eq_getElem (by have := of_decide_eq_true hb6; omega)⟩
          have hge4 := encG_at hg4
          have hk4 := of_decide_eq_true hb6
          have hgs4 := (hgs _ g4 hg4).s
          rw [show ((((k : Int) - 4).toNat : Nat) : Int) = (k : Int) - 4 by omega, ← servG_four, ← hgs'] at hgs4
          refine tk 3 (hy := mv) (h := ?_)
          refine tk 4 (hy := mv) (h := ?_)
          refine tk 5 (hy := ix (A := x1.2.1) (m := m.gs.length)) (h := ?_)
          refine tk 6 (hy := (by first | exact fa | exact faE)) (h := ?_)
          refine tk 7 (hy := ldE (A := x1.2.1) (hk := hge)) (h := ?_)
          refine tk 8 (hy := mv) (h := ?_)
          refine tk 9 (hy := mv) (h := ?_)
          refine tk 10 (hy := subI) (h := ?_)
          refine tk 11 (hy := ix (A := x1.2.1) (m := m.gs.length)) (h := ?_)
          refine tk 12 (hy := (by first | exact fa | exact faE)) (h := ?_)
          refine tk 13 (hy := ldE (A := x1.2.1) (hk := hge4)) (h := ?_)
          refine tk 14 (hy := (Yd.fl (neq) (by rw [decide_eq_true hgs4.symm]; rfl))) (h := ?_)
          refine tk 15 (hy := (by first | exact pkT | exact pkF)) (h := ?_)
          refine dn (h := ?_)
          refine q_seq (h := ?_)
          refine cdF (h := ?_)
          refine skp (h := ?_)
          refine q_blk_norm (h := ?_)
          refine q_seq (h := ?_)
          refine rg (h := ?_)
          refine WL.y (hy := mv) (h := ?_)
          refine WL.y (hy := addI) (h := ?_)
          refine WL.y (hy := asg) (h := ?_)
          refine nl (h := ?_)
          refine rn (x := k) (k + 1) (by omega) (by omega) (by repeat (first | exact trivial | refine ⟨rfl, ?_⟩)) (by repeat (first | exact SubL.nil | (apply SubL.cons; (repeat (first | exact At.here | apply At.there))) | exact SubL.refl _ | apply SubL.skip))
        · skip
          refine tkS 3 (h := ?_)
          refine tkS 4 (h := ?_)
          refine tkS 5 (h := ?_)
          refine tkS 6 (h := ?_)
          refine tkS 7 (h := ?_)
          refine tkS 8 (h := ?_)
          refine tkS 9 (h := ?_)
          refine tkS 10 (h := ?_)
          refine tkS 11 (h := ?_)
          refine tkS 12 (h := ?_)
          refine tkS 13 (h := ?_)
          refine tkS 14 (h := ?_)
          refine tk 15 (hy := (by first | exact pkT | exact pkF)) (h := ?_)
          refine dn (h := ?_)
          refine q_seq (h := ?_)
          refine cdF (h := ?_)
          refine skp (h := ?_)
          refine q_blk_norm (h := ?_)
          refine q_seq (h := ?_)
          refine rg (h := ?_)
          refine WL.y (hy := mv) (h := ?_)
          refine WL.y (hy := addI) (h := ?_)
          refine WL.y (hy := asg) (h := ?_)
          refine nl (h := ?_)
          refine rn (x := k) (k + 1) (by omega) (by omega) (by repeat (first | exact trivial | refine ⟨rfl, ?_⟩)) (by repeat (first | exact SubL.nil | (apply SubL.cons; (repeat (first | exact At.here | apply At.there))) | exact SubL.refl _ | apply SubL.skip))
      · skip
        refine tkS 22 (h := ?_)
        refine tkS 23 (h := ?_)
        refine tkS 24 (h := ?_)
        refine tk 25 (hy := (by first | exact pkT | exact pkF)) (h := ?_)
        refine tk 26 (hy := (by first | exact pkT | exact pkF)) (h := ?_)
        refine tk 27 (hy := mv) (h := ?_)
        refine tk 28 (hy := mv) (h := ?_)
        refine tk 29 (hy := mv) (h := ?_)
        refine tk 30 (hy := ix (A := x1.2.1) (m := m.gs.length)) (h := ?_)
        refine tk 31 (hy := (by first | exact fa | exact faE)) (h := ?_)
        refine tk 32 (hy := ldE (A := x1.2.1) (hk := hge)) (h := ?_)
        refine tk 33 (hy := remI) (h := ?_)
        refine tk 34 (hy := (by first | exact fa | exact faE)) (h := ?_)
        refine tk 35 (hy := (by first | exact ld | exact ldE)) (h := ?_)
        refine tk 36 (hy := mv) (h := ?_)
        refine tk 37 (hy := addI) (h := ?_)
        refine tk 38 (hy := remI) (h := ?_)
        refine tk 39 (hy := (Yd.fl (neq) (by rw [decide_eq_true hgp.1]; rfl))) (h := ?_)
        refine tk 40 (hy := (by first | exact pkT | exact pkF)) (h := ?_)
        refine dn (h := ?_)
        refine q_seq (h := ?_)
        refine cdF (h := ?_)
        refine skp (h := ?_)
        refine q_seq (h := ?_)
        refine sq (h := ?_)
        refine rgD0 (by kernel_rfl) (h := ?_)
        refine tk 0 (hy := mv) (h := ?_)
        refine tk 1 (hy := geq) (h := ?_)
        refine tk 2 (hy := mv) (h := ?_)
        refine brH (g := 87) (by exact rfl) (fun hb10 => ?_) (fun hb10 => ?_)
        · skip
          obtain ⟨g4, hg4⟩ : ∃ g4, m.gs[((k : Int) - 4).toNat]? = some g4 := ⟨_, List.getElem?_eq_getElem (by have := of_decide_eq_true hb10; omega)⟩
          have hge4 := encG_at hg4
          have hk4 := of_decide_eq_true hb10
          have hgs4 := (hgs _ g4 hg4).s
          rw [show ((((k : Int) - 4).toNat : Nat) : Int) = (k : Int) - 4 by omega, ← servG_four, ← hgs'] at hgs4
          refine tk 3 (hy := mv) (h := ?_)
          refine tk 4 (hy := mv) (h := ?_)
          refine tk 5 (hy := ix (A := x1.2.1) (m := m.gs.length)) (h := ?_)
          refine tk 6 (hy := (by first | exact fa | exact faE)) (h := ?_)
          refine tk 7 (hy := ldE (A := x1.2.1) (hk := hge)) (h := ?_)
          refine tk 8 (hy := mv) (h := ?_)
          refine tk 9 (hy := mv) (h := ?_)
          refine tk 10 (hy := subI) (h := ?_)
          refine tk 11 (hy := ix (A := x1.2.1) (m := m.gs.length)) (h := ?_)
          refine tk 12 (hy := (by first | exact fa | exact faE)) (h := ?_)
          refine tk 13 (hy := ldE (A := x1.2.1) (hk := hge4)) (h := ?_)
          refine tk 14 (hy := (Yd.fl (neq) (by rw [decide_eq_true hgs4.symm]; rfl))) (h := ?_)
          refine tk 15 (hy := (by first | exact pkT | exact pkF)) (h := ?_)
          refine dn (h := ?_)
          refine q_seq (h := ?_)
          refine cdF (h := ?_)
          refine skp (h := ?_)
          refine q_blk_norm (h := ?_)
          refine q_seq (h := ?_)
          refine rg (h := ?_)
          refine WL.y (hy := mv) (h := ?_)
          refine WL.y (hy := addI) (h := ?_)
          refine WL.y (hy := asg) (h := ?_)
          refine nl (h := ?_)
          refine rn (x := k) (k + 1) (by omega) (by omega) (by repeat (first | exact trivial | refine ⟨rfl, ?_⟩)) (by repeat (first | exact SubL.nil | (apply SubL.cons; (repeat (first | exact At.here | apply At.there))) | exact SubL.refl _ | apply SubL.skip))
        · skip
          refine tkS 3 (h := ?_)
          refine tkS 4 (h := ?_)
          refine tkS 5 (h := ?_)
          refine tkS 6 (h := ?_)
          refine tkS 7 (h := ?_)
          refine tkS 8 (h := ?_)
          refine tkS 9 (h := ?_)
          refine tkS 10 (h := ?_)
          refine tkS 11 (h := ?_)
          refine tkS 12 (h := ?_)
          refine tkS 13 (h := ?_)
          refine tkS 14 (h := ?_)
          refine tk 15 (hy := (by first | exact pkT | exact pkF)) (h := ?_)
          refine dn (h := ?_)
          refine q_seq (h := ?_)
          refine cdF (h := ?_)
          refine skp (h := ?_)
          refine q_blk_norm (h := ?_)
          refine q_seq (h := ?_)
          refine rg (h := ?_)
          refine WL.y (hy := mv) (h := ?_)
          refine WL.y (hy := addI) (h := ?_)
          refine WL.y (hy := asg) (h := ?_)
          refine nl (h := ?_)
          refine rn (x := k) (k + 1) (by omega) (by omega) (by repeat (first | exact trivial | refine ⟨rfl, ?_⟩)) (by repeat (first | exact SubL.nil | (apply SubL.cons; (repeat (first | exact At.here | apply At.there))) | exact SubL.refl _ | apply SubL.skip))
    · skip
      refine et (h := ?_)
      refine q_then_exit (h := ?_)
      refine q_then_exit (h := ?_)
      refine q_blk_hit (h := ?_)
      refine q_seq (h := ?_)
      refine sq (h := ?_)
      refine rg (h := ?_)
      refine WL.y (hy := asg) (h := ?_)
      refine WL.y (hy := asg) (h := ?_)
      refine WL.y (hy := asg) (h := ?_)
      refine nl (h := ?_)
      refine q_seq (h := ?_)
      refine sq (h := ?_)
      refine rg (h := ?_)
      refine WL.y (hy := asg) (h := ?_)
      refine nl (h := ?_)
      refine q_seq (h := ?_)
      refine sq (h := ?_)
      refine sq (h := ?_)
      refine WC.nilOwn 3 1 (h := ?_)
      refine rg (h := ?_)
      refine WL.y (hy := asg) (h := ?_)
      refine nl (h := ?_)
      refine q_seq (h := ?_)
      refine bk (h := ?_)
      refine lp (X := VZ) (I := fun z => z.k ≤ n + 1 ∧ z.es.length ≤ z.k ∧ (0 ≤ z.row ∧ z.row ≤ 10000) ∧ (0 ≤ z.total ∧ z.total ≤ 10000) ∧ ∀ j m0, z.k = j + 1 → playTo f first xs j = some m0 → RowI m0 z.row z.last z.total) (le := fun z => [(2, .pointer (some ⟨b0, 0, none⟩)), (3, .pointer (some ⟨b1, 0, none⟩)), (9, .int .i64 z.row), (10, .int .i64 z.last), (11, .int .i64 z.total), (12, .slice z.A z.es.length z.c), (13, .int .i64 z.k)]) (Le := fun z => [.blk b0 23 f.cells, .blk b1 36 [.int .i64 first, .slice A n c], .own z.A z.c 3 1 z.es.length (encI z.es), .ro A 1 n (encI xs)]) (μ := fun z => n + 1 - z.k) ⟨0, 0, -1, 0, none, 0, []⟩ ⟨Nat.zero_le _, Nat.zero_le _, ⟨by simp, by simp⟩, ⟨by simp, by simp⟩, fun j m0 hj => by cases hj⟩ (by repeat (first | exact trivial | refine ⟨rfl, ?_⟩)) (by repeat (first | exact SubL.nil | (apply SubL.cons; (repeat (first | exact At.here | apply At.there))) | exact SubL.refl _ | apply SubL.skip)) (fun z hz => ?_)
      obtain ⟨hzk, hze, hzr, hzt, hzI⟩ := hz
      refine sq (h := ?_)
      refine sq (h := ?_)
      refine rg (h := ?_)
      refine WL.y (hy := mv) (h := ?_)
      refine WL.y (hy := (by first | exact fa | exact faE)) (h := ?_)
      refine WL.y (hy := (by first | exact ld | exact ldE)) (h := ?_)
      refine WL.y (hy := lenS) (h := ?_)
      refine WL.y (hy := leq) (h := ?_)
      refine nl (h := ?_)
      refine q_seq (h := ?_)
      refine cd (by exact rfl) (fun h13 => ?_) (fun h13 => ?_)
      · skip
        have hkn : z.k ≤ n := by simp only [decide_eq_true_eq] at h13; omega
        obtain ⟨m1, hm1, hO1⟩ := play_to hm (k := z.k) (by omega)
        obtain ⟨-, -, -, -, hB1, hmf1, -, hi1⟩ := play_some hO1
        have hsl1 : m1.st.length ≤ 600 := by
          have h1 := hB1.s
          have h2 : (xs.take z.k).length ≤ 150 := by rw [List.length_take]; omega
          omega
        have hSp1 : Sm m1.p := sm_of hB1.p (by have := hB1.k; omega)
        refine skp (h := ?_)
        refine q_seq (h := ?_)
        refine sq (h := ?_)
        refine bk (h := ?_)
        refine sq (h := ?_)
        refine WC.pre (A := A) (m := n) (by repeat (first | exact At.here | apply At.there)) z.k hkn ?_
        refine rgD0 (by kernel_rfl) (h := ?_)
        refine tk 0 (hy := (by first | exact ldA | exact ldEA)) (h := ?_)
        refine tk 1 (hy := (by first | exact fa | exact faE)) (h := ?_)
        refine tk 2 (hy := (by first | exact ld | exact ldE)) (h := ?_)
        refine tk 3 (hy := (by first | exact fa | exact faE)) (h := ?_)
        refine tk 4 (hy := (by first | exact ld | exact ldE)) (h := ?_)
        refine tk 5 (hy := mv) (h := ?_)
        refine tk 6 (hy := slP (A := A) (m := n) (cap := c) (hi' := z.k) (hc := by omega)) (h := ?_)
        refine two 7 11 (h1 := ?_) (h2 := ?_)
        · skip
          refine cl (hc := fun w hS => C_score_Play f first (xs.take z.k) A z.k c w (hS.get (by rw [← encI_tk]; repeat (first | exact Rds.ro | exact Rds.own | apply Rds.there))) (by omega)) (h := fun p1 _ => ?_)
          rw [hO1, playE_some hO1]
          dsimp only [scO, gsO, MS.sc, Sc.val]
          refine nx (h := ?_)
          refine tk 8 (hy := mv) (h := ?_)
          refine tk 9 (hy := ex) (h := ?_)
          refine tk 10 (hy := ex) (h := ?_)
          refine one 11 (h := ?_)
          refine al (h := fun bt => ?_)
          refine nx (h := ?_)
          refine one 12 (h := ?_)
          first | refine stA (h := ?_) | refine stEA (h := ?_)
          refine nx (h := ?_)
          refine tk 13 (hy := asg) (h := ?_)
          refine dn (h := ?_)
          refine q_seq (h := ?_)
          refine sq (h := ?_)
          refine sq (h := ?_)
          refine rg (h := ?_)
          refine WL.y (hy := mv) (h := ?_)
          refine WL.y (hy := (Yd.fl (neq) (by rfl))) (h := ?_)
          refine nl (h := ?_)
          refine q_seq (h := ?_)
          refine cdF (h := ?_)
          refine skp (h := ?_)
          refine q_seq (h := ?_)
          refine sq (h := ?_)
          refine sq (h := ?_)
          refine rg (h := ?_)
          refine WL.y (hy := (by first | exact fa | exact faE)) (h := ?_)
          refine WL.y (hy := (by first | exact ld | exact ldE)) (h := ?_)
          refine WL.y (hy := geq) (h := ?_)
          refine nl (h := ?_)
          refine q_seq (h := ?_)
          refine cd (by exact rfl) (fun h15 => ?_) (fun h15 => ?_)
          · skip
            have hW : m1.winner = m1.winner := rfl
            refine sq (h := ?_)
            refine rg (h := ?_)
            refine cl0 (hc := fun w hS => C_law1_works w) (h := ?_)
            refine WL.y (hy := asg) (h := ?_)
            refine nl (h := ?_)
            refine q_seq (h := ?_)
            refine rtn (h := ?_)
            refine q_then_ret (h := ?_)
            refine q_blk_ret (h := ?_)
            refine q_then_ret (h := ?_)
            refine q_then_ret (h := ?_)
            refine q_blk_ret (h := ?_)
            refine q_then_ret (h := ?_)
            refine q_ret (hR := ?_)
            exact fun w hS => ⟨rfl, hS.sub (by repeat (first | exact SubL.nil | (apply SubL.cons; (repeat (first | exact At.here | apply At.there))) | exact SubL.refl _ | apply SubL.skip))⟩
          · skip
            have hin1 : m1.Inv := by
              rcases hi1 with hi | hd
              · exact hi
              · have h1 := of_decide_eq_false h15
                have h2 := hd.w
                omega
            have hRI := rowI_next hok hm1 hin1 hzI
            have hsv := serves_rng m1.f m1.first m1.ties (m1.p.1 + m1.p.2)
            rw [← hin1.sv] at hsv
            have hro1 := rst_or m1 0 z.row
            have hro2 := rst_or m1 0 z.total
            have hp1k := hB1.p
            have hlk : (xs.take z.k).length ≤ 150 := by rw [List.length_take]; omega
            refine skp (h := ?_)
            refine q_seq (h := ?_)
            refine ct (X := Option Addr × Nat × List Int) (fun x => x.2.2.length ≤ z.k) (fun x => [(2, .pointer (some ⟨b0, 0, none⟩)), (3, .pointer (some ⟨b1, 0, none⟩)), (9, .int .i64 (rst m1 0 z.row)), (10, .int .i64 (rst m1 (-1) z.last)), (11, .int .i64 (rst m1 0 z.total)), (12, .slice x.1 x.2.2.length x.2.1), (13, .int .i64 z.k), (14, .pointer (some ⟨bt, 0, none⟩))]) (fun x => [.blk b0 23 f.cells, .blk b1 36 [.int .i64 first, .slice A n c], .blk bt 40 [.slice p1.1 m1.st.length p1.2, .int .i64 m1.g.1, .int .i64 m1.g.2, .int .i64 m1.p.1, .int .i64 m1.p.2, .int .i64 m1.server, .int .i64 m1.ends, .int .i64 m1.balls, .int .i64 m1.winner], .own p1.1 p1.2 31 2 m1.st.length (encP m1.st), .own x.1 x.2.1 3 1 x.2.2.length (encI x.2.2), .ro A 1 n (encI xs)]) (h1 := ?_) (h2 := ?_)
            · skip
              refine sq (h := ?_)
              refine rg (h := ?_)
              refine WL.y (hy := (by first | exact fa | exact faE)) (h := ?_)
              refine WL.y (hy := (by first | exact fa | exact faE)) (h := ?_)
              refine WL.y (hy := (by first | exact ldA | exact ldEA)) (h := ?_)
              refine cl0 (hc := fun w hS => C_law1_sum _ (by assumption) w) (h := ?_)
              refine WL.y (hy := eql) (h := ?_)
              refine nl (h := ?_)
              refine q_seq (h := ?_)
              refine cd (by exact rfl) (fun h16 => ?_) (fun h16 => ?_)
              · skip
                have hra : rst m1 0 z.row = 0 := by rw [rst, h16]; rfl
                have hrb : rst m1 (-1) z.last = -1 := by rw [rst, h16]; rfl
                have hrc : rst m1 0 z.total = 0 := by rw [rst, h16]; rfl
                obtain ⟨q, hq⟩ : ∃ q : Option Addr × Nat × List Int, q = (none, 0, []) := ⟨_, rfl⟩
                refine WC.nilOwn 3 1 (h := ?_)
                refine rg (h := ?_)
                refine WL.y (hy := asg) (h := ?_)
                refine WL.y (hy := asg) (h := ?_)
                refine WL.y (hy := asg) (h := ?_)
                refine WL.y (hy := asg) (h := ?_)
                refine nl (h := ?_)
                exact ctn q (by subst hq; first | exact Nat.zero_le _ | exact hze) (by subst hq; repeat (first | exact trivial | refine ⟨rfl, ?_⟩ | refine ⟨by rw [hra]; rfl, ?_⟩ | refine ⟨by rw [hrb]; rfl, ?_⟩ | refine ⟨by rw [hrc]; rfl, ?_⟩)) (by subst hq; repeat (first | exact SubL.nil | (apply SubL.cons; (repeat (first | exact At.here | apply At.there))) | exact SubL.refl _ | apply SubL.skip))
              · skip
                have hra : rst m1 0 z.row = z.row := by rw [rst, h16]; rfl
                have hrb : rst m1 (-1) z.last = z.last := by rw [rst, h16]; rfl
                have hrc : rst m1 0 z.total = z.total := by rw [rst, h16]; rfl
                obtain ⟨q, hq⟩ : ∃ q : Option Addr × Nat × List Int, q = (z.A, z.c, z.es) := ⟨_, rfl⟩
                refine skp (h := ?_)
                exact ctn q (by subst hq; first | exact Nat.zero_le _ | exact hze) (by subst hq; repeat (first | exact trivial | refine ⟨rfl, ?_⟩ | refine ⟨by rw [hra]; rfl, ?_⟩ | refine ⟨by rw [hrb]; rfl, ?_⟩ | refine ⟨by rw [hrc]; rfl, ?_⟩)) (by subst hq; repeat (first | exact SubL.nil | (apply SubL.cons; (repeat (first | exact At.here | apply At.there))) | exact SubL.refl _ | apply SubL.skip))
            rintro ⟨A8, c8, es8⟩ hes8
            dsimp only at hes8 ⊢
            refine sq (h := ?_)
            refine rg (h := ?_)
            refine WL.y (hy := mv) (h := ?_)
            refine WL.y (hy := (by first | exact fa | exact faE)) (h := ?_)
            refine WL.y (hy := (by first | exact ld | exact ldE)) (h := ?_)
            refine WL.y (hy := remI) (h := ?_)
            refine bs (h := fun b2 => ?_)
            refine apB (hb := by omega) (h := fun A9 c9 => ?_)
            refine WL.y (hy := asg) (h := ?_)
            have hl1 : (es8 ++ [m1.server % 2]).length = es8.length + 1 := by simp
            have hl2 : encI (es8 ++ [m1.server % 2]) = encI es8 ++ [[.int .i64 (m1.server % 2)]] := (encI_app ..).symm
            refine nl (h := ?_)
            refine q_seq (h := ?_)
            refine sq (h := ?_)
            refine rg (h := ?_)
            refine WL.y (hy := mv) (h := ?_)
            refine WL.y (hy := addI) (h := ?_)
            refine WL.y (hy := asg) (h := ?_)
            refine nl (h := ?_)
            refine q_seq (h := ?_)
            refine ct (X := Unit) (fun _ => True) (fun _ => [(2, .pointer (some ⟨b0, 0, none⟩)), (3, .pointer (some ⟨b1, 0, none⟩)), (9, .int .i64 (bif decide (m1.server % 2 = rst m1 (-1) z.last) then rst m1 0 z.row + 1 else 1)), (10, .int .i64 (m1.server % 2)), (11, .int .i64 (rst m1 0 z.total + 1)), (12, .slice A9 (es8 ++ [m1.server % 2]).length c9), (13, .int .i64 z.k), (14, .pointer (some ⟨bt, 0, none⟩))]) (fun _ => [.blk b0 23 f.cells, .blk b1 36 [.int .i64 first, .slice A n c], .blk bt 40 [.slice p1.1 m1.st.length p1.2, .int .i64 m1.g.1, .int .i64 m1.g.2, .int .i64 m1.p.1, .int .i64 m1.p.2, .int .i64 m1.server, .int .i64 m1.ends, .int .i64 m1.balls, .int .i64 m1.winner], .own p1.1 p1.2 31 2 m1.st.length (encP m1.st), .own A9 c9 3 1 (es8 ++ [m1.server % 2]).length (encI (es8 ++ [m1.server % 2])), .ro A 1 n (encI xs)]) (h1 := ?_) (h2 := ?_)
            · skip
              refine sq (h := ?_)
              refine rg (h := ?_)
              refine WL.y (hy := (by first | exact fa | exact faE)) (h := ?_)
              refine WL.y (hy := (by first | exact ld | exact ldE)) (h := ?_)
              refine WL.y (hy := remI) (h := ?_)
              refine WL.y (hy := mv) (h := ?_)
              refine WL.y (hy := eql) (h := ?_)
              refine nl (h := ?_)
              refine q_seq (h := ?_)
              refine cd (by exact rfl) (fun h17 => ?_) (fun h17 => ?_)
              · skip
                have hq10 : m1.server % 2 = rst m1 (-1) z.last := of_decide_eq_true h17
                have hq9 : (bif decide (m1.server % 2 = rst m1 (-1) z.last) then rst m1 0 z.row + 1 else 1) = rst m1 0 z.row + 1 := by rw [h17]; rfl
                refine rg (h := ?_)
                refine WL.y (hy := mv) (h := ?_)
                refine WL.y (hy := addI) (h := ?_)
                refine WL.y (hy := asg) (h := ?_)
                refine nl (h := ?_)
                exact ctn () trivial (by repeat (first | exact trivial | refine ⟨rfl, ?_⟩ | refine ⟨by rw [hl1]; rfl, ?_⟩ | refine ⟨by rw [hq9]; rfl, ?_⟩ | refine ⟨by rw [hq10]; rfl, ?_⟩)) (by rw [hl1, hl2]; repeat (first | exact SubL.nil | (apply SubL.cons; (repeat (first | exact At.here | apply At.there))) | exact SubL.refl _ | apply SubL.skip))
              · skip
                have hq10 : m1.server % 2 = m1.server % 2 := rfl
                have hq9 : (bif decide (m1.server % 2 = rst m1 (-1) z.last) then rst m1 0 z.row + 1 else 1) = 1 := by rw [h17]; rfl
                refine rgD0 (by kernel_rfl) (h := ?_)
                refine tk 0 (hy := (by first | exact fa | exact faE)) (h := ?_)
                refine tk 1 (hy := (by first | exact ld | exact ldE)) (h := ?_)
                refine tk 2 (hy := remI) (h := ?_)
                refine tk 3 (hy := asg) (h := ?_)
                refine tk 4 (hy := asg) (h := ?_)
                refine dn (h := ?_)
                exact ctn () trivial (by repeat (first | exact trivial | refine ⟨rfl, ?_⟩ | refine ⟨by rw [hl1]; rfl, ?_⟩ | refine ⟨by rw [hq9]; rfl, ?_⟩ | refine ⟨by rw [hq10]; rfl, ?_⟩)) (by rw [hl1, hl2]; repeat (first | exact SubL.nil | (apply SubL.cons; (repeat (first | exact At.here | apply At.there))) | exact SubL.refl _ | apply SubL.skip))
            rintro ⟨⟩ -
            have hrow := hRI.r
            have htot := hRI.t
            have hsum0 : 0 ≤ m1.p.1 + m1.p.2 := by have := hin1.p0; omega
            have hrr := rowV_rng (t := m1.tie) hsum0
            have htie := tie_eq hin1 hmf1
            have htie2 := tie_eq2 hin1 hmf1
            refine sq (h := ?_)
            refine rgD0 (by kernel_rfl) (h := ?_)
            refine tk 0 (hy := (by first | exact ldA | exact ldEA)) (h := ?_)
            refine tk 1 (hy := (by first | exact ldA | exact ldEA)) (h := ?_)
            refine tk 2 (hy := (by first | exact fa | exact faE)) (h := ?_)
            refine tk 3 (hy := (by first | exact fa | exact faE)) (h := ?_)
            refine tk 4 (hy := (by first | exact ld | exact ldE)) (h := ?_)
            refine one 5 (h := ?_)
            refine cl0 (hc := fun w hS => C_ref1_Won m1.st p1.1 m1.st.length p1.2 w (hS.get (by repeat (first | exact Rds.ro | exact Rds.own | apply Rds.there))) (by omega)) (h := ?_)
            refine nx (h := ?_)
            refine one 6 (h := ?_)
            refine cl0 (hc := fun w hS => C_ref1_IsLast f (wonV m1.st) hok w) (h := ?_)
            refine nx (h := ?_)
            refine one 7 (h := ?_)
            refine cl0 (hc := fun w hS => C_ref1_Rule f _ w) (h := ?_)
            refine nx (h := ?_)
            refine tk 8 (hy := mv) (h := ?_)
            refine tk 9 (hy := ex) (h := ?_)
            refine tk 10 (hy := ex) (h := ?_)
            refine tk 11 (hy := asg) (h := ?_)
            refine tk 12 (hy := asg) (h := ?_)
            refine dn (h := ?_)
            refine q_seq (h := ?_)
            refine sq (h := ?_)
            refine sq (h := ?_)
            refine rg (h := ?_)
            refine WL.y (hy := mv) (h := ?_)
            refine WL.y (hy := geq) (h := ?_)
            refine WL.y (hy := mv) (h := ?_)
            apply brAnd 8 161 169 (by exact rfl)
            · intro hb18
              refine un (h := ?_)
              refine WL.y (hy := (by first | exact fa | exact faE)) (h := ?_)
              refine un (h := ?_)
              refine WL.y (hy := (by first | exact fa | exact faE)) (h := ?_)
              refine un (h := ?_)
              refine WL.y (hy := (by first | exact ldA | exact ldEA)) (h := ?_)
              refine un (h := ?_)
              refine WL.y (hy := mv) (h := ?_)
              refine un (h := ?_)
              refine WL.y (hy := mv) (h := ?_)
              refine un (h := ?_)
              refine WL.y (hy := bd) (h := ?_)
              refine un (h := ?_)
              refine WL.y (hy := eqlT) (h := ?_)
              refine WL.y (hy := (by first | exact pkT | exact pkF)) (h := ?_)
              exact mg (by repeat (first | exact trivial | refine ⟨rfl, ?_⟩ | refine ⟨by rw [hb18]; rfl, ?_⟩)) (by repeat (first | exact SubL.nil | (apply SubL.cons; (repeat (first | exact At.here | apply At.there))) | exact SubL.refl _ | apply SubL.skip))
            · intro hb18
              repeat (first | refine un (h := ?_) | refine sk (h := ?_) | refine WL.y (hy := pkF) (h := ?_) | refine WL.y (hy := pkT) (h := ?_))
              exact mg (by repeat (first | exact trivial | refine ⟨rfl, ?_⟩ | refine ⟨by rw [hb18]; rfl, ?_⟩)) (by repeat (first | exact SubL.nil | (apply SubL.cons; (repeat (first | exact At.here | apply At.there))) | exact SubL.refl _ | apply SubL.skip))
            refine WL.y (hy := mv) (h := ?_)
            apply brAnd 11 170 181 (by exact rfl)
            · intro hb19
              refine un (h := ?_)
              refine WL.y (hy := mv) (h := ?_)
              refine un (h := ?_)
              refine WL.y (hy := gtr) (h := ?_)
              refine un (h := ?_)
              refine WL.y (hy := mv) (h := ?_)
              apply brOr 7 173 180 (by exact rfl)
              · intro hb20
                refine un (h := ?_)
                refine WL.y (hy := mv) (h := ?_)
                refine un (h := ?_)
                refine WL.y (hy := eql) (h := ?_)
                refine un (h := ?_)
                refine WL.y (hy := mv) (h := ?_)
                apply brAnd 3 176 179 (by exact rfl)
                · intro hb21
                  refine un (h := ?_)
                  refine WL.y (hy := mv) (h := ?_)
                  refine un (h := ?_)
                  refine WL.y (hy := neq) (h := ?_)
                  refine un (h := ?_)
                  refine WL.y (hy := (by first | exact pkT | exact pkF)) (h := ?_)
                  exact mg (by repeat (first | exact trivial | refine ⟨rfl, ?_⟩ | refine ⟨by rw [hb21]; rfl, ?_⟩ | refine ⟨by rw [hb19]; rfl, ?_⟩ | refine ⟨by rw [hb20]; rfl, ?_⟩)) (by repeat (first | exact SubL.nil | (apply SubL.cons; (repeat (first | exact At.here | apply At.there))) | exact SubL.refl _ | apply SubL.skip))
                · intro hb21
                  repeat (first | refine un (h := ?_) | refine sk (h := ?_) | refine WL.y (hy := pkF) (h := ?_) | refine WL.y (hy := pkT) (h := ?_))
                  exact mg (by repeat (first | exact trivial | refine ⟨rfl, ?_⟩ | refine ⟨by rw [hb21]; rfl, ?_⟩ | refine ⟨by rw [hb19]; rfl, ?_⟩ | refine ⟨by rw [hb20]; rfl, ?_⟩)) (by repeat (first | exact SubL.nil | (apply SubL.cons; (repeat (first | exact At.here | apply At.there))) | exact SubL.refl _ | apply SubL.skip))
                refine un (h := ?_)
                refine WL.y (hy := (by first | exact pkT | exact pkF)) (h := ?_)
                exact mg (by repeat (first | exact trivial | refine ⟨rfl, ?_⟩ | refine ⟨by rw [hb20]; rfl, ?_⟩ | refine ⟨by rw [hb19]; rfl, ?_⟩)) (by repeat (first | exact SubL.nil | (apply SubL.cons; (repeat (first | exact At.here | apply At.there))) | exact SubL.refl _ | apply SubL.skip))
              · intro hb20
                repeat (first | refine un (h := ?_) | refine sk (h := ?_) | refine WL.y (hy := pkF) (h := ?_) | refine WL.y (hy := pkT) (h := ?_))
                exact mg (by repeat (first | exact trivial | refine ⟨rfl, ?_⟩ | refine ⟨by rw [hb20]; rfl, ?_⟩ | refine ⟨by rw [hb19]; rfl, ?_⟩)) (by repeat (first | exact SubL.nil | (apply SubL.cons; (repeat (first | exact At.here | apply At.there))) | exact SubL.refl _ | apply SubL.skip))
              refine WL.y (hy := (by first | exact pkT | exact pkF)) (h := ?_)
              exact mg (by repeat (first | exact trivial | refine ⟨rfl, ?_⟩ | refine ⟨by rw [hb19]; rfl, ?_⟩)) (by repeat (first | exact SubL.nil | (apply SubL.cons; (repeat (first | exact At.here | apply At.there))) | exact SubL.refl _ | apply SubL.skip))
            · intro hb19
              repeat (first | refine un (h := ?_) | refine sk (h := ?_) | refine WL.y (hy := pkF) (h := ?_) | refine WL.y (hy := pkT) (h := ?_))
              exact mg (by repeat (first | exact trivial | refine ⟨rfl, ?_⟩ | refine ⟨by rw [hb19]; rfl, ?_⟩)) (by repeat (first | exact SubL.nil | (apply SubL.cons; (repeat (first | exact At.here | apply At.there))) | exact SubL.refl _ | apply SubL.skip))
            refine nl (h := ?_)
            refine q_seq (h := ?_)
            refine cd (by exact rfl) (fun h22 => ?_) (fun h22 => ?_)
            · skip
              exfalso
              rw [htie] at h22
              simp only [Bool.and_eq_true, Bool.or_eq_true, decide_eq_true_eq, Bool.not_eq_true', decide_eq_false_iff_not] at h22
              obtain ⟨ht1, ht2⟩ := h22
              obtain ⟨hr1, hr2⟩ := row_two (s := m1.p.1 + m1.p.2) ht1 hsum0
              rw [← hRI.r] at hr1 hr2
              have hrt := hRI.t
              rcases ht2 with ht2 | ⟨ht2, ht3⟩
              · omega
              · exact ht3 (hr2 (by omega))
            · skip
              refine skp (h := ?_)
              refine q_seq (h := ?_)
              refine sq (h := ?_)
              refine rg (h := ?_)
              refine WL.y (hy := mv) (h := ?_)
              refine WL.y (hy := lss) (h := ?_)
              refine WL.y (hy := mv) (h := ?_)
              apply brOr 8 184 192 (by exact rfl)
              · intro hb23
                refine un (h := ?_)
                refine WL.y (hy := (by first | exact fa | exact faE)) (h := ?_)
                refine un (h := ?_)
                refine WL.y (hy := (by first | exact fa | exact faE)) (h := ?_)
                refine un (h := ?_)
                refine WL.y (hy := (by first | exact ldA | exact ldEA)) (h := ?_)
                refine un (h := ?_)
                refine WL.y (hy := mv) (h := ?_)
                refine un (h := ?_)
                refine WL.y (hy := mv) (h := ?_)
                refine un (h := ?_)
                refine WL.y (hy := bd) (h := ?_)
                refine un (h := ?_)
                refine WL.y (hy := neqT) (h := ?_)
                refine WL.y (hy := (by first | exact pkT | exact pkF)) (h := ?_)
                exact mg (by repeat (first | exact trivial | refine ⟨rfl, ?_⟩ | refine ⟨by rw [hb23]; rfl, ?_⟩)) (by repeat (first | exact SubL.nil | (apply SubL.cons; (repeat (first | exact At.here | apply At.there))) | exact SubL.refl _ | apply SubL.skip))
              · intro hb23
                repeat (first | refine un (h := ?_) | refine sk (h := ?_) | refine WL.y (hy := pkF) (h := ?_) | refine WL.y (hy := pkT) (h := ?_))
                exact mg (by repeat (first | exact trivial | refine ⟨rfl, ?_⟩ | refine ⟨by rw [hb23]; rfl, ?_⟩)) (by repeat (first | exact SubL.nil | (apply SubL.cons; (repeat (first | exact At.here | apply At.there))) | exact SubL.refl _ | apply SubL.skip))
              refine WL.y (hy := mv) (h := ?_)
              apply brAnd 4 193 197 (by exact rfl)
              · intro hb24
                refine un (h := ?_)
                refine WL.y (hy := mv) (h := ?_)
                refine un (h := ?_)
                refine WL.y (hy := mv) (h := ?_)
                refine un (h := ?_)
                refine WL.y (hy := neq) (h := ?_)
                refine WL.y (hy := (by first | exact pkT | exact pkF)) (h := ?_)
                exact mg (by repeat (first | exact trivial | refine ⟨rfl, ?_⟩ | refine ⟨by rw [hb24]; rfl, ?_⟩)) (by repeat (first | exact SubL.nil | (apply SubL.cons; (repeat (first | exact At.here | apply At.there))) | exact SubL.refl _ | apply SubL.skip))
              · intro hb24
                repeat (first | refine un (h := ?_) | refine sk (h := ?_) | refine WL.y (hy := pkF) (h := ?_) | refine WL.y (hy := pkT) (h := ?_))
                exact mg (by repeat (first | exact trivial | refine ⟨rfl, ?_⟩ | refine ⟨by rw [hb24]; rfl, ?_⟩)) (by repeat (first | exact SubL.nil | (apply SubL.cons; (repeat (first | exact At.here | apply At.there))) | exact SubL.refl _ | apply SubL.skip))
              refine nl (h := ?_)
              refine q_seq (h := ?_)
              refine cd (by exact rfl) (fun h25 => ?_) (fun h25 => ?_)
              · skip
                exfalso
                rw [htie2] at h25
                simp only [Bool.and_eq_true, Bool.not_eq_true', decide_eq_false_iff_not] at h25
                obtain ⟨ht1, ht2⟩ := h25
                have h1 := hRI.r
                have h2 := hRI.t
                rw [ht1] at h1
                unfold rowV at h1
                simp only [cond_false] at h1
                omega
              · skip
                refine skp (h := ?_)
                refine q_blk_norm (h := ?_)
                refine q_seq (h := ?_)
                refine rg (h := ?_)
                refine WL.y (hy := mv) (h := ?_)
                refine WL.y (hy := addI) (h := ?_)
                refine WL.y (hy := asg) (h := ?_)
                refine nl (h := ?_)
                refine rn (x := z) ⟨z.k + 1, (bif decide (m1.server % 2 = rst m1 (-1) z.last) then rst m1 0 z.row + 1 else 1), m1.server % 2, rst m1 0 z.total + 1, A9, c9, es8 ++ [m1.server % 2]⟩ ⟨by dsimp only; omega, by dsimp only; omega, ⟨by dsimp only; omega, by dsimp only; omega⟩, ⟨by dsimp only; omega, by dsimp only; omega⟩, fun j m0 hj h0 => by
                  obtain rfl : z.k = j := by dsimp only at hj; omega
                  rw [hm1] at h0
                  injection h0 with h0
                  subst h0
                  exact hRI⟩ (by dsimp only; omega) (by repeat (first | exact trivial | refine ⟨rfl, ?_⟩)) (by repeat (first | exact SubL.nil | (apply SubL.cons; (repeat (first | exact At.here | apply At.there))) | exact SubL.refl _ | apply SubL.skip))
        · skip
          refine al (h := fun bt => ?_)
          refine nx (h := ?_)
          refine one 7 (h := ?_)
          refine cl (hc := fun w hS => C_score_Play f first (xs.take z.k) A z.k c w (hS.get (by rw [← encI_tk]; repeat (first | exact Rds.ro | exact Rds.own | apply Rds.there))) (by omega)) (h := fun p1 _ => ?_)
          rw [hO1, playE_some hO1]
          dsimp only [scO, gsO, MS.sc, Sc.val]
          refine nx (h := ?_)
          refine tk 8 (hy := mv) (h := ?_)
          refine tk 9 (hy := ex) (h := ?_)
          refine tk 10 (hy := ex) (h := ?_)
          refine one 12 (h := ?_)
          first | refine stA (h := ?_) | refine stEA (h := ?_)
          refine nx (h := ?_)
          refine tk 13 (hy := asg) (h := ?_)
          refine dn (h := ?_)
          refine q_seq (h := ?_)
          refine sq (h := ?_)
          refine sq (h := ?_)
          refine rg (h := ?_)
          refine WL.y (hy := mv) (h := ?_)
          refine WL.y (hy := (Yd.fl (neq) (by rfl))) (h := ?_)
          refine nl (h := ?_)
          refine q_seq (h := ?_)
          refine cdF (h := ?_)
          refine skp (h := ?_)
          refine q_seq (h := ?_)
          refine sq (h := ?_)
          refine sq (h := ?_)
          refine rg (h := ?_)
          refine WL.y (hy := (by first | exact fa | exact faE)) (h := ?_)
          refine WL.y (hy := (by first | exact ld | exact ldE)) (h := ?_)
          refine WL.y (hy := geq) (h := ?_)
          refine nl (h := ?_)
          refine q_seq (h := ?_)
          refine cd (by exact rfl) (fun h27 => ?_) (fun h27 => ?_)
          · skip
            have hW : m1.winner = m1.winner := rfl
            refine sq (h := ?_)
            refine rg (h := ?_)
            refine cl0 (hc := fun w hS => C_law1_works w) (h := ?_)
            refine WL.y (hy := asg) (h := ?_)
            refine nl (h := ?_)
            refine q_seq (h := ?_)
            refine rtn (h := ?_)
            refine q_then_ret (h := ?_)
            refine q_blk_ret (h := ?_)
            refine q_then_ret (h := ?_)
            refine q_then_ret (h := ?_)
            refine q_blk_ret (h := ?_)
            refine q_then_ret (h := ?_)
            refine q_ret (hR := ?_)
            exact fun w hS => ⟨rfl, hS.sub (by repeat (first | exact SubL.nil | (apply SubL.cons; (repeat (first | exact At.here | apply At.there))) | exact SubL.refl _ | apply SubL.skip))⟩
          · skip
            have hin1 : m1.Inv := by
              rcases hi1 with hi | hd
              · exact hi
              · have h1 := of_decide_eq_false h27
                have h2 := hd.w
                omega
            have hRI := rowI_next hok hm1 hin1 hzI
            have hsv := serves_rng m1.f m1.first m1.ties (m1.p.1 + m1.p.2)
            rw [← hin1.sv] at hsv
            have hro1 := rst_or m1 0 z.row
            have hro2 := rst_or m1 0 z.total
            have hp1k := hB1.p
            have hlk : (xs.take z.k).length ≤ 150 := by rw [List.length_take]; omega
            refine skp (h := ?_)
            refine q_seq (h := ?_)
            refine ct (X := Option Addr × Nat × List Int) (fun x => x.2.2.length ≤ z.k) (fun x => [(2, .pointer (some ⟨b0, 0, none⟩)), (3, .pointer (some ⟨b1, 0, none⟩)), (9, .int .i64 (rst m1 0 z.row)), (10, .int .i64 (rst m1 (-1) z.last)), (11, .int .i64 (rst m1 0 z.total)), (12, .slice x.1 x.2.2.length x.2.1), (13, .int .i64 z.k), (14, .pointer (some ⟨bt, 0, none⟩))]) (fun x => [.blk b0 23 f.cells, .blk b1 36 [.int .i64 first, .slice A n c], .blk bt 40 [.slice p1.1 m1.st.length p1.2, .int .i64 m1.g.1, .int .i64 m1.g.2, .int .i64 m1.p.1, .int .i64 m1.p.2, .int .i64 m1.server, .int .i64 m1.ends, .int .i64 m1.balls, .int .i64 m1.winner], .own p1.1 p1.2 31 2 m1.st.length (encP m1.st), .own x.1 x.2.1 3 1 x.2.2.length (encI x.2.2), .ro A 1 n (encI xs)]) (h1 := ?_) (h2 := ?_)
            · skip
              refine sq (h := ?_)
              refine rg (h := ?_)
              refine WL.y (hy := (by first | exact fa | exact faE)) (h := ?_)
              refine WL.y (hy := (by first | exact fa | exact faE)) (h := ?_)
              refine WL.y (hy := (by first | exact ldA | exact ldEA)) (h := ?_)
              refine cl0 (hc := fun w hS => C_law1_sum _ (by assumption) w) (h := ?_)
              refine WL.y (hy := eql) (h := ?_)
              refine nl (h := ?_)
              refine q_seq (h := ?_)
              refine cd (by exact rfl) (fun h28 => ?_) (fun h28 => ?_)
              · skip
                have hra : rst m1 0 z.row = 0 := by rw [rst, h28]; rfl
                have hrb : rst m1 (-1) z.last = -1 := by rw [rst, h28]; rfl
                have hrc : rst m1 0 z.total = 0 := by rw [rst, h28]; rfl
                obtain ⟨q, hq⟩ : ∃ q : Option Addr × Nat × List Int, q = (none, 0, []) := ⟨_, rfl⟩
                refine WC.nilOwn 3 1 (h := ?_)
                refine rg (h := ?_)
                refine WL.y (hy := asg) (h := ?_)
                refine WL.y (hy := asg) (h := ?_)
                refine WL.y (hy := asg) (h := ?_)
                refine WL.y (hy := asg) (h := ?_)
                refine nl (h := ?_)
                exact ctn q (by subst hq; first | exact Nat.zero_le _ | exact hze) (by subst hq; repeat (first | exact trivial | refine ⟨rfl, ?_⟩ | refine ⟨by rw [hra]; rfl, ?_⟩ | refine ⟨by rw [hrb]; rfl, ?_⟩ | refine ⟨by rw [hrc]; rfl, ?_⟩)) (by subst hq; repeat (first | exact SubL.nil | (apply SubL.cons; (repeat (first | exact At.here | apply At.there))) | exact SubL.refl _ | apply SubL.skip))
              · skip
                have hra : rst m1 0 z.row = z.row := by rw [rst, h28]; rfl
                have hrb : rst m1 (-1) z.last = z.last := by rw [rst, h28]; rfl
                have hrc : rst m1 0 z.total = z.total := by rw [rst, h28]; rfl
                obtain ⟨q, hq⟩ : ∃ q : Option Addr × Nat × List Int, q = (z.A, z.c, z.es) := ⟨_, rfl⟩
                refine skp (h := ?_)
                exact ctn q (by subst hq; first | exact Nat.zero_le _ | exact hze) (by subst hq; repeat (first | exact trivial | refine ⟨rfl, ?_⟩ | refine ⟨by rw [hra]; rfl, ?_⟩ | refine ⟨by rw [hrb]; rfl, ?_⟩ | refine ⟨by rw [hrc]; rfl, ?_⟩)) (by subst hq; repeat (first | exact SubL.nil | (apply SubL.cons; (repeat (first | exact At.here | apply At.there))) | exact SubL.refl _ | apply SubL.skip))
            rintro ⟨A8, c8, es8⟩ hes8
            dsimp only at hes8 ⊢
            refine sq (h := ?_)
            refine rg (h := ?_)
            refine WL.y (hy := mv) (h := ?_)
            refine WL.y (hy := (by first | exact fa | exact faE)) (h := ?_)
            refine WL.y (hy := (by first | exact ld | exact ldE)) (h := ?_)
            refine WL.y (hy := remI) (h := ?_)
            refine bs (h := fun b3 => ?_)
            refine apB (hb := by omega) (h := fun A9 c9 => ?_)
            refine WL.y (hy := asg) (h := ?_)
            have hl1 : (es8 ++ [m1.server % 2]).length = es8.length + 1 := by simp
            have hl2 : encI (es8 ++ [m1.server % 2]) = encI es8 ++ [[.int .i64 (m1.server % 2)]] := (encI_app ..).symm
            refine nl (h := ?_)
            refine q_seq (h := ?_)
            refine sq (h := ?_)
            refine rg (h := ?_)
            refine WL.y (hy := mv) (h := ?_)
            refine WL.y (hy := addI) (h := ?_)
            refine WL.y (hy := asg) (h := ?_)
            refine nl (h := ?_)
            refine q_seq (h := ?_)
            refine ct (X := Unit) (fun _ => True) (fun _ => [(2, .pointer (some ⟨b0, 0, none⟩)), (3, .pointer (some ⟨b1, 0, none⟩)), (9, .int .i64 (bif decide (m1.server % 2 = rst m1 (-1) z.last) then rst m1 0 z.row + 1 else 1)), (10, .int .i64 (m1.server % 2)), (11, .int .i64 (rst m1 0 z.total + 1)), (12, .slice A9 (es8 ++ [m1.server % 2]).length c9), (13, .int .i64 z.k), (14, .pointer (some ⟨bt, 0, none⟩))]) (fun _ => [.blk b0 23 f.cells, .blk b1 36 [.int .i64 first, .slice A n c], .blk bt 40 [.slice p1.1 m1.st.length p1.2, .int .i64 m1.g.1, .int .i64 m1.g.2, .int .i64 m1.p.1, .int .i64 m1.p.2, .int .i64 m1.server, .int .i64 m1.ends, .int .i64 m1.balls, .int .i64 m1.winner], .own p1.1 p1.2 31 2 m1.st.length (encP m1.st), .own A9 c9 3 1 (es8 ++ [m1.server % 2]).length (encI (es8 ++ [m1.server % 2])), .ro A 1 n (encI xs)]) (h1 := ?_) (h2 := ?_)
            · skip
              refine sq (h := ?_)
              refine rg (h := ?_)
              refine WL.y (hy := (by first | exact fa | exact faE)) (h := ?_)
              refine WL.y (hy := (by first | exact ld | exact ldE)) (h := ?_)
              refine WL.y (hy := remI) (h := ?_)
              refine WL.y (hy := mv) (h := ?_)
              refine WL.y (hy := eql) (h := ?_)
              refine nl (h := ?_)
              refine q_seq (h := ?_)
              refine cd (by exact rfl) (fun h29 => ?_) (fun h29 => ?_)
              · skip
                have hq10 : m1.server % 2 = rst m1 (-1) z.last := of_decide_eq_true h29
                have hq9 : (bif decide (m1.server % 2 = rst m1 (-1) z.last) then rst m1 0 z.row + 1 else 1) = rst m1 0 z.row + 1 := by rw [h29]; rfl
                refine rg (h := ?_)
                refine WL.y (hy := mv) (h := ?_)
                refine WL.y (hy := addI) (h := ?_)
                refine WL.y (hy := asg) (h := ?_)
                refine nl (h := ?_)
                exact ctn () trivial (by repeat (first | exact trivial | refine ⟨rfl, ?_⟩ | refine ⟨by rw [hl1]; rfl, ?_⟩ | refine ⟨by rw [hq9]; rfl, ?_⟩ | refine ⟨by rw [hq10]; rfl, ?_⟩)) (by rw [hl1, hl2]; repeat (first | exact SubL.nil | (apply SubL.cons; (repeat (first | exact At.here | apply At.there))) | exact SubL.refl _ | apply SubL.skip))
              · skip
                have hq10 : m1.server % 2 = m1.server % 2 := rfl
                have hq9 : (bif decide (m1.server % 2 = rst m1 (-1) z.last) then rst m1 0 z.row + 1 else 1) = 1 := by rw [h29]; rfl
                refine rgD0 (by kernel_rfl) (h := ?_)
                refine tk 0 (hy := (by first | exact fa | exact faE)) (h := ?_)
                refine tk 1 (hy := (by first | exact ld | exact ldE)) (h := ?_)
                refine tk 2 (hy := remI) (h := ?_)
                refine tk 3 (hy := asg) (h := ?_)
                refine tk 4 (hy := asg) (h := ?_)
                refine dn (h := ?_)
                exact ctn () trivial (by repeat (first | exact trivial | refine ⟨rfl, ?_⟩ | refine ⟨by rw [hl1]; rfl, ?_⟩ | refine ⟨by rw [hq9]; rfl, ?_⟩ | refine ⟨by rw [hq10]; rfl, ?_⟩)) (by rw [hl1, hl2]; repeat (first | exact SubL.nil | (apply SubL.cons; (repeat (first | exact At.here | apply At.there))) | exact SubL.refl _ | apply SubL.skip))
            rintro ⟨⟩ -
            have hrow := hRI.r
            have htot := hRI.t
            have hsum0 : 0 ≤ m1.p.1 + m1.p.2 := by have := hin1.p0; omega
            have hrr := rowV_rng (t := m1.tie) hsum0
            have htie := tie_eq hin1 hmf1
            have htie2 := tie_eq2 hin1 hmf1
            refine sq (h := ?_)
            refine rgD0 (by kernel_rfl) (h := ?_)
            refine tk 0 (hy := (by first | exact ldA | exact ldEA)) (h := ?_)
            refine tk 1 (hy := (by first | exact ldA | exact ldEA)) (h := ?_)
            refine tk 2 (hy := (by first | exact fa | exact faE)) (h := ?_)
            refine tk 3 (hy := (by first | exact fa | exact faE)) (h := ?_)
            refine tk 4 (hy := (by first | exact ld | exact ldE)) (h := ?_)
            refine one 5 (h := ?_)
            refine cl0 (hc := fun w hS => C_ref1_Won m1.st p1.1 m1.st.length p1.2 w (hS.get (by repeat (first | exact Rds.ro | exact Rds.own | apply Rds.there))) (by omega)) (h := ?_)
            refine nx (h := ?_)
            refine one 6 (h := ?_)
            refine cl0 (hc := fun w hS => C_ref1_IsLast f (wonV m1.st) hok w) (h := ?_)
            refine nx (h := ?_)
            refine one 7 (h := ?_)
            refine cl0 (hc := fun w hS => C_ref1_Rule f _ w) (h := ?_)
            refine nx (h := ?_)
            refine tk 8 (hy := mv) (h := ?_)
            refine tk 9 (hy := ex) (h := ?_)
            refine tk 10 (hy := ex) (h := ?_)
            refine tk 11 (hy := asg) (h := ?_)
            refine tk 12 (hy := asg) (h := ?_)
            refine dn (h := ?_)
            refine q_seq (h := ?_)
            refine sq (h := ?_)
            refine sq (h := ?_)
            refine rg (h := ?_)
            refine WL.y (hy := mv) (h := ?_)
            refine WL.y (hy := geq) (h := ?_)
            refine WL.y (hy := mv) (h := ?_)
            apply brAnd 8 161 169 (by exact rfl)
            · intro hb30
              refine un (h := ?_)
              refine WL.y (hy := (by first | exact fa | exact faE)) (h := ?_)
              refine un (h := ?_)
              refine WL.y (hy := (by first | exact fa | exact faE)) (h := ?_)
              refine un (h := ?_)
              refine WL.y (hy := (by first | exact ldA | exact ldEA)) (h := ?_)
              refine un (h := ?_)
              refine WL.y (hy := mv) (h := ?_)
              refine un (h := ?_)
              refine WL.y (hy := mv) (h := ?_)
              refine un (h := ?_)
              refine WL.y (hy := bd) (h := ?_)
              refine un (h := ?_)
              refine WL.y (hy := eqlT) (h := ?_)
              refine WL.y (hy := (by first | exact pkT | exact pkF)) (h := ?_)
              exact mg (by repeat (first | exact trivial | refine ⟨rfl, ?_⟩ | refine ⟨by rw [hb30]; rfl, ?_⟩)) (by repeat (first | exact SubL.nil | (apply SubL.cons; (repeat (first | exact At.here | apply At.there))) | exact SubL.refl _ | apply SubL.skip))
            · intro hb30
              repeat (first | refine un (h := ?_) | refine sk (h := ?_) | refine WL.y (hy := pkF) (h := ?_) | refine WL.y (hy := pkT) (h := ?_))
              exact mg (by repeat (first | exact trivial | refine ⟨rfl, ?_⟩ | refine ⟨by rw [hb30]; rfl, ?_⟩)) (by repeat (first | exact SubL.nil | (apply SubL.cons; (repeat (first | exact At.here | apply At.there))) | exact SubL.refl _ | apply SubL.skip))
            refine WL.y (hy := mv) (h := ?_)
            apply brAnd 11 170 181 (by exact rfl)
            · intro hb31
              refine un (h := ?_)
              refine WL.y (hy := mv) (h := ?_)
              refine un (h := ?_)
              refine WL.y (hy := gtr) (h := ?_)
              refine un (h := ?_)
              refine WL.y (hy := mv) (h := ?_)
              apply brOr 7 173 180 (by exact rfl)
              · intro hb32
                refine un (h := ?_)
                refine WL.y (hy := mv) (h := ?_)
                refine un (h := ?_)
                refine WL.y (hy := eql) (h := ?_)
                refine un (h := ?_)
                refine WL.y (hy := mv) (h := ?_)
                apply brAnd 3 176 179 (by exact rfl)
                · intro hb33
                  refine un (h := ?_)
                  refine WL.y (hy := mv) (h := ?_)
                  refine un (h := ?_)
                  refine WL.y (hy := neq) (h := ?_)
                  refine un (h := ?_)
                  refine WL.y (hy := (by first | exact pkT | exact pkF)) (h := ?_)
                  exact mg (by repeat (first | exact trivial | refine ⟨rfl, ?_⟩ | refine ⟨by rw [hb33]; rfl, ?_⟩ | refine ⟨by rw [hb31]; rfl, ?_⟩ | refine ⟨by rw [hb32]; rfl, ?_⟩)) (by repeat (first | exact SubL.nil | (apply SubL.cons; (repeat (first | exact At.here | apply At.there))) | exact SubL.refl _ | apply SubL.skip))
                · intro hb33
                  repeat (first | refine un (h := ?_) | refine sk (h := ?_) | refine WL.y (hy := pkF) (h := ?_) | refine WL.y (hy := pkT) (h := ?_))
                  exact mg (by repeat (first | exact trivial | refine ⟨rfl, ?_⟩ | refine ⟨by rw [hb33]; rfl, ?_⟩ | refine ⟨by rw [hb31]; rfl, ?_⟩ | refine ⟨by rw [hb32]; rfl, ?_⟩)) (by repeat (first | exact SubL.nil | (apply SubL.cons; (repeat (first | exact At.here | apply At.there))) | exact SubL.refl _ | apply SubL.skip))
                refine un (h := ?_)
                refine WL.y (hy := (by first | exact pkT | exact pkF)) (h := ?_)
                exact mg (by repeat (first | exact trivial | refine ⟨rfl, ?_⟩ | refine ⟨by rw [hb32]; rfl, ?_⟩ | refine ⟨by rw [hb31]; rfl, ?_⟩)) (by repeat (first | exact SubL.nil | (apply SubL.cons; (repeat (first | exact At.here | apply At.there))) | exact SubL.refl _ | apply SubL.skip))
              · intro hb32
                repeat (first | refine un (h := ?_) | refine sk (h := ?_) | refine WL.y (hy := pkF) (h := ?_) | refine WL.y (hy := pkT) (h := ?_))
                exact mg (by repeat (first | exact trivial | refine ⟨rfl, ?_⟩ | refine ⟨by rw [hb32]; rfl, ?_⟩ | refine ⟨by rw [hb31]; rfl, ?_⟩)) (by repeat (first | exact SubL.nil | (apply SubL.cons; (repeat (first | exact At.here | apply At.there))) | exact SubL.refl _ | apply SubL.skip))
              refine WL.y (hy := (by first | exact pkT | exact pkF)) (h := ?_)
              exact mg (by repeat (first | exact trivial | refine ⟨rfl, ?_⟩ | refine ⟨by rw [hb31]; rfl, ?_⟩)) (by repeat (first | exact SubL.nil | (apply SubL.cons; (repeat (first | exact At.here | apply At.there))) | exact SubL.refl _ | apply SubL.skip))
            · intro hb31
              repeat (first | refine un (h := ?_) | refine sk (h := ?_) | refine WL.y (hy := pkF) (h := ?_) | refine WL.y (hy := pkT) (h := ?_))
              exact mg (by repeat (first | exact trivial | refine ⟨rfl, ?_⟩ | refine ⟨by rw [hb31]; rfl, ?_⟩)) (by repeat (first | exact SubL.nil | (apply SubL.cons; (repeat (first | exact At.here | apply At.there))) | exact SubL.refl _ | apply SubL.skip))
            refine nl (h := ?_)
            refine q_seq (h := ?_)
            refine cd (by exact rfl) (fun h34 => ?_) (fun h34 => ?_)
            · skip
              exfalso
              rw [htie] at h34
              simp only [Bool.and_eq_true, Bool.or_eq_true, decide_eq_true_eq, Bool.not_eq_true', decide_eq_false_iff_not] at h34
              obtain ⟨ht1, ht2⟩ := h34
              obtain ⟨hr1, hr2⟩ := row_two (s := m1.p.1 + m1.p.2) ht1 hsum0
              rw [← hRI.r] at hr1 hr2
              have hrt := hRI.t
              rcases ht2 with ht2 | ⟨ht2, ht3⟩
              · omega
              · exact ht3 (hr2 (by omega))
            · skip
              refine skp (h := ?_)
              refine q_seq (h := ?_)
              refine sq (h := ?_)
              refine rg (h := ?_)
              refine WL.y (hy := mv) (h := ?_)
              refine WL.y (hy := lss) (h := ?_)
              refine WL.y (hy := mv) (h := ?_)
              apply brOr 8 184 192 (by exact rfl)
              · intro hb35
                refine un (h := ?_)
                refine WL.y (hy := (by first | exact fa | exact faE)) (h := ?_)
                refine un (h := ?_)
                refine WL.y (hy := (by first | exact fa | exact faE)) (h := ?_)
                refine un (h := ?_)
                refine WL.y (hy := (by first | exact ldA | exact ldEA)) (h := ?_)
                refine un (h := ?_)
                refine WL.y (hy := mv) (h := ?_)
                refine un (h := ?_)
                refine WL.y (hy := mv) (h := ?_)
                refine un (h := ?_)
                refine WL.y (hy := bd) (h := ?_)
                refine un (h := ?_)
                refine WL.y (hy := neqT) (h := ?_)
                refine WL.y (hy := (by first | exact pkT | exact pkF)) (h := ?_)
                exact mg (by repeat (first | exact trivial | refine ⟨rfl, ?_⟩ | refine ⟨by rw [hb35]; rfl, ?_⟩)) (by repeat (first | exact SubL.nil | (apply SubL.cons; (repeat (first | exact At.here | apply At.there))) | exact SubL.refl _ | apply SubL.skip))
              · intro hb35
                repeat (first | refine un (h := ?_) | refine sk (h := ?_) | refine WL.y (hy := pkF) (h := ?_) | refine WL.y (hy := pkT) (h := ?_))
                exact mg (by repeat (first | exact trivial | refine ⟨rfl, ?_⟩ | refine ⟨by rw [hb35]; rfl, ?_⟩)) (by repeat (first | exact SubL.nil | (apply SubL.cons; (repeat (first | exact At.here | apply At.there))) | exact SubL.refl _ | apply SubL.skip))
              refine WL.y (hy := mv) (h := ?_)
              apply brAnd 4 193 197 (by exact rfl)
              · intro hb36
                refine un (h := ?_)
                refine WL.y (hy := mv) (h := ?_)
                refine un (h := ?_)
                refine WL.y (hy := mv) (h := ?_)
                refine un (h := ?_)
                refine WL.y (hy := neq) (h := ?_)
                refine WL.y (hy := (by first | exact pkT | exact pkF)) (h := ?_)
                exact mg (by repeat (first | exact trivial | refine ⟨rfl, ?_⟩ | refine ⟨by rw [hb36]; rfl, ?_⟩)) (by repeat (first | exact SubL.nil | (apply SubL.cons; (repeat (first | exact At.here | apply At.there))) | exact SubL.refl _ | apply SubL.skip))
              · intro hb36
                repeat (first | refine un (h := ?_) | refine sk (h := ?_) | refine WL.y (hy := pkF) (h := ?_) | refine WL.y (hy := pkT) (h := ?_))
                exact mg (by repeat (first | exact trivial | refine ⟨rfl, ?_⟩ | refine ⟨by rw [hb36]; rfl, ?_⟩)) (by repeat (first | exact SubL.nil | (apply SubL.cons; (repeat (first | exact At.here | apply At.there))) | exact SubL.refl _ | apply SubL.skip))
              refine nl (h := ?_)
              refine q_seq (h := ?_)
              refine cd (by exact rfl) (fun h37 => ?_) (fun h37 => ?_)
              · skip
                exfalso
                rw [htie2] at h37
                simp only [Bool.and_eq_true, Bool.not_eq_true', decide_eq_false_iff_not] at h37
                obtain ⟨ht1, ht2⟩ := h37
                have h1 := hRI.r
                have h2 := hRI.t
                rw [ht1] at h1
                unfold rowV at h1
                simp only [cond_false] at h1
                omega
              · skip
                refine skp (h := ?_)
                refine q_blk_norm (h := ?_)
                refine q_seq (h := ?_)
                refine rg (h := ?_)
                refine WL.y (hy := mv) (h := ?_)
                refine WL.y (hy := addI) (h := ?_)
                refine WL.y (hy := asg) (h := ?_)
                refine nl (h := ?_)
                refine rn (x := z) ⟨z.k + 1, (bif decide (m1.server % 2 = rst m1 (-1) z.last) then rst m1 0 z.row + 1 else 1), m1.server % 2, rst m1 0 z.total + 1, A9, c9, es8 ++ [m1.server % 2]⟩ ⟨by dsimp only; omega, by dsimp only; omega, ⟨by dsimp only; omega, by dsimp only; omega⟩, ⟨by dsimp only; omega, by dsimp only; omega⟩, fun j m0 hj h0 => by
                  obtain rfl : z.k = j := by dsimp only at hj; omega
                  rw [hm1] at h0
                  injection h0 with h0
                  subst h0
                  exact hRI⟩ (by dsimp only; omega) (by repeat (first | exact trivial | refine ⟨rfl, ?_⟩)) (by repeat (first | exact SubL.nil | (apply SubL.cons; (repeat (first | exact At.here | apply At.there))) | exact SubL.refl _ | apply SubL.skip))
      · skip
        refine et (h := ?_)
        refine q_then_exit (h := ?_)
        refine q_then_exit (h := ?_)
        refine q_blk_hit (h := ?_)
        refine q_seq (h := ?_)
        refine sq (h := ?_)
        refine rg (h := ?_)
        refine cl0 (hc := fun w hS => C_law1_works w) (h := ?_)
        refine WL.y (hy := asg) (h := ?_)
        refine nl (h := ?_)
        refine q_seq (h := ?_)
        refine rtn (h := ?_)
        refine q_ret (hR := ?_)
        exact fun w hS => ⟨rfl, hS.sub (by repeat (first | exact SubL.nil | (apply SubL.cons; (repeat (first | exact At.here | apply At.there))) | exact SubL.refl _ | apply SubL.skip))⟩
end Go.Proofs.Ytebhkghgifiahaa
