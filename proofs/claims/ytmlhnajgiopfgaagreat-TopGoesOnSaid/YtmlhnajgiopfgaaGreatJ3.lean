/- The texts of the walk, part 3. -/
import Derived.Test.YtmlhnajgiopfgaaGreatJ2
namespace Go.Proofs.YtmlhnajgiopfgaaGreat
open Go Go.RowKit

theorem C_ref8_within (n lo hi : Int) (w : World) : C0 Tryz.prog 21 [.int .i64 n, .int .i64 lo, .int .i64 hi] w (.bool (win n lo hi)) := by
  refine ⟨en Tryz.func21 Tryz.ntmps21 (St.init w) (h := fun F => ?_)⟩
  refine sq (h := ?_)
  refine rg (h := ?_)
  refine wy asg ?_
  refine nl (h := ?_)
  refine q_seq (h := ?_)
  refine sq (h := ?_)
  refine rg (h := ?_)
  refine wy mv ?_
  refine wy mv ?_
  refine wy geq ?_
  refine wy mv ?_
  apply brAnd 4 10 14 (by exact rfl)
  · intro hb0
    refine un (h := ?_)
    refine wy mv ?_
    refine un (h := ?_)
    refine wy mv ?_
    refine un (h := ?_)
    refine wy leq ?_
    refine wy (by first | exact pkT | exact pkF) ?_
    exact mg (by repeat (first | exact trivial | refine ⟨rfl, ?_⟩ | refine ⟨by rw [hb0]; rfl, ?_⟩)) slz_
  · intro hb0
    repeat (first | refine un (h := ?_) | refine sk (h := ?_) | refine WL.y (hy := pkF) (h := ?_) | refine WL.y (hy := pkT) (h := ?_))
    exact mg (by repeat (first | exact trivial | refine ⟨rfl, ?_⟩ | refine ⟨by rw [hb0]; rfl, ?_⟩)) slz_
  refine wy asg ?_
  refine nl (h := ?_)
  refine q_seq (h := ?_)
  refine rtn (h := ?_)
  refine q_ret (hR := ?_)
  exact fun w hS => ⟨rfl, hS.sub slz_⟩
theorem win_no {n lo hi : Int} (h : (!win n lo hi) = false) : lo ≤ n ∧ n ≤ hi := win_iff.1 (by rwa [Bool.not_eq_false'] at h)
def lenB8 (s : Sn) : Bool := (decide (1 ≤ s.1) && decide (s.1 ≤ s.2)) && decide (s.2 ≤ 600)
theorem C_ref8_isLength (s : Sn) (w : World) : C0 Tryz.prog 20 [.agg #[.int .i64 s.1, .int .i64 s.2]] w (.bool (lenB8 s)) := by
  refine ⟨en Tryz.func20 Tryz.ntmps20 (St.init w) (h := fun F => ?_)⟩
  refine sq (h := ?_)
  refine rg (h := ?_)
  refine bxA (h := fun b0 => ?_)
  refine wy asg ?_
  refine nl (h := ?_)
  refine q_seq (h := ?_)
  refine sq (h := ?_)
  refine rg (h := ?_)
  refine wy (by first | exact fa | exact faE) ?_
  refine wy (by first | exact ld | exact ldE) ?_
  refine wy geq ?_
  refine wy mv ?_
  apply brAnd 6 6 12 (by exact rfl)
  · intro hb0
    refine un (h := ?_)
    refine wy (by first | exact fa | exact faE) ?_
    refine un (h := ?_)
    refine wy (by first | exact ld | exact ldE) ?_
    refine un (h := ?_)
    refine wy (by first | exact fa | exact faE) ?_
    refine un (h := ?_)
    refine wy (by first | exact ld | exact ldE) ?_
    refine un (h := ?_)
    refine wy leq ?_
    refine wy (by first | exact pkT | exact pkF) ?_
    exact mg (by repeat (first | exact trivial | refine ⟨rfl, ?_⟩ | refine ⟨by rw [hb0]; rfl, ?_⟩)) slz_
  · intro hb0
    repeat (first | refine un (h := ?_) | refine sk (h := ?_) | refine WL.y (hy := pkF) (h := ?_) | refine WL.y (hy := pkT) (h := ?_))
    exact mg (by repeat (first | exact trivial | refine ⟨rfl, ?_⟩ | refine ⟨by rw [hb0]; rfl, ?_⟩)) slz_
  refine wy mv ?_
  apply brAnd 4 13 17 (by exact rfl)
  · intro hb1
    refine un (h := ?_)
    refine wy (by first | exact fa | exact faE) ?_
    refine un (h := ?_)
    refine wy (by first | exact ld | exact ldE) ?_
    refine un (h := ?_)
    refine wy leq ?_
    refine wy (by first | exact pkT | exact pkF) ?_
    exact mg (by repeat (first | exact trivial | refine ⟨rfl, ?_⟩ | refine ⟨by rw [hb1]; rfl, ?_⟩)) slz_
  · intro hb1
    repeat (first | refine un (h := ?_) | refine sk (h := ?_) | refine WL.y (hy := pkF) (h := ?_) | refine WL.y (hy := pkT) (h := ?_))
    exact mg (by repeat (first | exact trivial | refine ⟨rfl, ?_⟩ | refine ⟨by rw [hb1]; rfl, ?_⟩)) slz_
  refine wy asg ?_
  refine nl (h := ?_)
  refine q_seq (h := ?_)
  refine rtn (h := ?_)
  refine q_ret (hR := ?_)
  exact fun w hS => ⟨rfl, hS.sub slz_⟩
set_option maxRecDepth 100000 in
set_option maxHeartbeats 1000000 in
theorem C_ref8_isJob (j : Jb) (i m : Nat) (hi : i ≤ 1000000) (hm : m ≤ 1000000) (hfn : j.af.length ≤ 9223372036854775807) (hwn : j.wi.length ≤ 9223372036854775807) (w : World) (hf : Rd w j.fA 1 j.af.length (enI j.af)) (hw : Rd w j.wA 1 j.wi.length (enI j.wi)) :
    CR Tryz.prog 29 [.agg j.cells.toArray, .int .i64 i, .int .i64 m] w (fun b : Bool => b = true → JOk m i j) (fun b => .bool b) (fun _ => []) := by
  refine ⟨en Tryz.func29 Tryz.ntmps29 (((St.init w).share (e := .ro j.fA 1 j.af.length (enI j.af)) hf rfl rfl rfl).share (e := .ro j.wA 1 j.wi.length (enI j.wi)) hw rfl rfl rfl) (h := fun F => ?_)⟩
  refine sq (h := ?_)
  refine rg (h := ?_)
  refine bxA (h := fun b0 => ?_)
  refine wy asg ?_
  refine WL.cut (by repeat (first | exact Cut.nil | apply Cut.hit | apply Cut.miss (by exact rfl))) ?_
  refine nl (h := ?_)
  refine q_seq (h := ?_)
  refine sq (h := ?_)
  refine sq (h := ?_)
  refine rg (h := ?_)
  refine wy (by first | exact fa | exact faE) ?_
  refine wy (by first | exact ldA | exact ldEA) ?_
  refine cl0 (hc := fun w hS => C_ref8_isLength j.len w) (h := ?_)
  refine wy notB ?_
  refine wy mv ?_
  apply brOr 5 13 18 (by exact rfl)
  · intro hb0
    refine un (h := ?_)
    refine wy (by first | exact fa | exact faE) ?_
    refine un (h := ?_)
    refine wy (by first | exact ld | exact ldE) ?_
    refine un (h := ?_)
    refine cl0 (hc := fun w hS => C_ref8_within j.due 0 2 w) (h := ?_)
    refine un (h := ?_)
    refine wy notB ?_
    refine wy (by first | exact pkT | exact pkF) ?_
    exact mg (by repeat (first | exact trivial | refine ⟨rfl, ?_⟩ | refine ⟨by rw [hb0]; rfl, ?_⟩)) slz_
  · intro hb0
    repeat (first | refine un (h := ?_) | refine sk (h := ?_) | refine WL.y (hy := pkF) (h := ?_) | refine WL.y (hy := pkT) (h := ?_))
    exact mg (by repeat (first | exact trivial | refine ⟨rfl, ?_⟩ | refine ⟨by rw [hb0]; rfl, ?_⟩)) slz_
  refine wy mv ?_
  apply brOr 5 19 24 (by exact rfl)
  · intro hb1
    refine un (h := ?_)
    refine wy (by first | exact fa | exact faE) ?_
    refine un (h := ?_)
    refine wy (by first | exact ld | exact ldE) ?_
    refine un (h := ?_)
    refine cl0 (hc := fun w hS => C_ref8_within j.ear 0 1440 w) (h := ?_)
    refine un (h := ?_)
    refine wy notB ?_
    refine wy (by first | exact pkT | exact pkF) ?_
    exact mg (by repeat (first | exact trivial | refine ⟨rfl, ?_⟩ | refine ⟨by rw [hb1]; rfl, ?_⟩)) slz_
  · intro hb1
    repeat (first | refine un (h := ?_) | refine sk (h := ?_) | refine WL.y (hy := pkF) (h := ?_) | refine WL.y (hy := pkT) (h := ?_))
    exact mg (by repeat (first | exact trivial | refine ⟨rfl, ?_⟩ | refine ⟨by rw [hb1]; rfl, ?_⟩)) slz_
  refine nl (h := ?_)
  refine q_seq (h := ?_)
  refine cd (by exact rfl) (fun h2 => ?_) (fun h2 => ?_)
  · skip
    refine sq (h := ?_)
    refine rg (h := ?_)
    refine wy asg ?_
    refine WL.cut (by repeat (first | exact Cut.nil | apply Cut.hit | apply Cut.miss (by exact rfl))) ?_
    refine nl (h := ?_)
    refine q_seq (h := ?_)
    refine rtn (h := ?_)
    refine q_then_ret (h := ?_)
    refine q_ret (hR := ?_)
    first
      | exact fun w hS => ⟨true, fun _ => ⟨⟨hl.1.1, hl.1.2, hl.2⟩, hdu, hea, hkA, hkB, fun x hx => by
          obtain ⟨i', h8, e⟩ := List.mem_iff_getElem.1 hx
          exact hkC i' x h8 (by rw [List.getElem?_eq_getElem h8, e])⟩, rfl, hS.sub slz_⟩
      | exact fun w hS => ⟨false, fun h9 => (by cases h9), rfl, hS.sub slz_⟩
  · skip
    have g9 := h2
    rw [Bool.or_eq_false_iff, Bool.or_eq_false_iff] at g9
    have hl := g9.1.1
    rw [Bool.not_eq_false', lenB8, Bool.and_eq_true, Bool.and_eq_true, decide_eq_true_eq, decide_eq_true_eq, decide_eq_true_eq] at hl
    have hdu := win_no g9.1.2
    have hea := win_no g9.2
    refine skp (h := ?_)
    refine q_seq (h := ?_)
    refine sq (h := ?_)
    refine sq (h := ?_)
    refine rg (h := ?_)
    refine wy asg ?_
    refine WL.cut (by repeat (first | exact Cut.nil | apply Cut.hit | apply Cut.miss (by exact rfl))) ?_
    refine nl (h := ?_)
    refine q_seq (h := ?_)
    refine bk (h := ?_)
    refine lp (X := Nat) (I := fun k => k ≤ j.af.length ∧ Asc j.af (i : Int) k) (le := fun k => [(1, .int .i64 i), (2, .int .i64 m), (3, .pointer (some ⟨b0, 0, none⟩)), (7, .int .i64 k)]) (Le := fun _ => [.blk b0 80 j.cells, .ro j.fA 1 j.af.length (enI j.af), .ro j.wA 1 j.wi.length (enI j.wi)]) (μ := fun k => j.af.length - k) 0 ⟨Nat.zero_le _, Asc.zero _ _⟩ sbz_ slz_ (fun k hk => ?_)
    obtain ⟨hkL, hkA⟩ := hk
    refine sq (h := ?_)
    refine sq (h := ?_)
    refine rg (h := ?_)
    refine wy mv ?_
    refine wy (by first | exact fa | exact faE) ?_
    refine wy (by first | exact ld | exact ldE) ?_
    refine wy lenS ?_
    refine wy lss ?_
    refine nl (h := ?_)
    refine q_seq (h := ?_)
    refine cd (by exact rfl) (fun h3 => ?_) (fun h3 => ?_)
    · skip
      have hkn : k < j.af.length := by have := of_decide_eq_true h3; omega
      obtain ⟨x, hx⟩ : ∃ x, j.af[k]? = some x := ⟨_, List.getElem?_eq_getElem hkn⟩
      have hxe := enI_at hx
      refine skp (h := ?_)
      refine q_seq (h := ?_)
      refine sq (h := ?_)
      refine bk (h := ?_)
      refine sq (h := ?_)
      refine rgD (by kernel_rfl) [(1000000, .blk b0 80 j.cells), (1000000, .ro j.fA 1 j.af.length (enI j.af))] (by repeat (first | exact HS.nil | (apply HS.keep; (repeat (first | exact At.here | apply At.there))) | (apply HS.ro; (repeat (first | exact Rds.ro | exact Rds.own | apply Rds.there))))) (h := ?_)
      refine tk 0 (hy := (by first | exact fa | exact faE)) (h := ?_)
      refine tk 1 (hy := (by first | exact ld | exact ldE)) (h := ?_)
      refine tk 2 (hy := mv) (h := ?_)
      refine tk 3 (hy := ix (A := j.fA) (m := j.af.length) (hb := by omega)) (h := ?_)
      refine tk 4 (hy := ldE (A := j.fA) (hk := hxe)) (h := ?_)
      refine tk 5 (hy := mv) (h := ?_)
      refine tk 6 (hy := subI (hb := by omega)) (h := ?_)
      refine one 7 (h := ?_)
      refine cl0 (hc := fun w hS => C_ref8_within x 0 ((i : Int) - 1) w) (h := ?_)
      refine nx (h := ?_)
      refine tk 8 (hy := notB) (h := ?_)
      refine tk 9 (hy := mv) (h := ?_)
      refine brH (g := 41) (by exact rfl) (fun hb4 => ?_) (fun hb4 => ?_)
      · skip
        refine tkS 10 (h := ?_)
        refine tkS 11 (h := ?_)
        refine tkS 12 (h := ?_)
        refine tkS 13 (h := ?_)
        refine tkS 14 (h := ?_)
        refine tkS 15 (h := ?_)
        refine tkS 16 (h := ?_)
        refine tkS 17 (h := ?_)
        refine tkS 18 (h := ?_)
        refine tkS 19 (h := ?_)
        refine tkS 20 (h := ?_)
        refine tkS 21 (h := ?_)
        refine tkS 22 (h := ?_)
        refine tkS 23 (h := ?_)
        refine tkS 24 (h := ?_)
        refine tkS 25 (h := ?_)
        refine tk 26 (hy := (by first | exact pkT | exact pkF)) (h := ?_)
        refine dn (h := ?_)
        refine q_seq (h := ?_)
        refine cdT (h := ?_)
        refine sq (h := ?_)
        refine rg (h := ?_)
        refine wy asg ?_
        refine WL.cut (by repeat (first | exact Cut.nil | apply Cut.hit | apply Cut.miss (by exact rfl))) ?_
        refine nl (h := ?_)
        refine q_seq (h := ?_)
        refine rtn (h := ?_)
        refine q_blk_ret (h := ?_)
        refine q_then_ret (h := ?_)
        refine q_then_ret (h := ?_)
        refine q_blk_ret (h := ?_)
        refine q_then_ret (h := ?_)
        refine q_ret (hR := ?_)
        first
          | exact fun w hS => ⟨true, fun _ => ⟨⟨hl.1.1, hl.1.2, hl.2⟩, hdu, hea, hkA, hkB, fun x hx => by
              obtain ⟨i', h8, e⟩ := List.mem_iff_getElem.1 hx
              exact hkC i' x h8 (by rw [List.getElem?_eq_getElem h8, e])⟩, rfl, hS.sub slz_⟩
          | exact fun w hS => ⟨false, fun h9 => (by cases h9), rfl, hS.sub slz_⟩
      · skip
        have hw1 := win_no hb4
        refine tk 10 (hy := mv) (h := ?_)
        refine tk 11 (hy := gtr) (h := ?_)
        refine tk 12 (hy := mv) (h := ?_)
        refine brH (g := 44) (by exact rfl) (fun hb6 => ?_) (fun hb6 => ?_)
        · skip
          have hk0 : 0 < k := by have := of_decide_eq_true hb6; omega
          obtain ⟨y, hy⟩ : ∃ y, j.af[k - 1]? = some y := ⟨_, List.getElem?_eq_getElem (by omega)⟩
          have hye : (enI j.af)[((k : Int) - 1).toNat]? = some [.int .i64 y] := by rw [show ((k : Int) - 1).toNat = k - 1 by omega]; exact enI_at hy
          refine tk 13 (hy := (by first | exact fa | exact faE)) (h := ?_)
          refine tk 14 (hy := (by first | exact ld | exact ldE)) (h := ?_)
          refine tk 15 (hy := mv) (h := ?_)
          refine tk 16 (hy := ix (A := j.fA) (m := j.af.length) (hb := by omega)) (h := ?_)
          refine tk 17 (hy := ldE (A := j.fA) (hk := hxe)) (h := ?_)
          refine tk 18 (hy := (by first | exact fa | exact faE)) (h := ?_)
          refine tk 19 (hy := (by first | exact ld | exact ldE)) (h := ?_)
          refine tk 20 (hy := mv) (h := ?_)
          refine tk 21 (hy := subI (hb := by omega)) (h := ?_)
          refine tk 22 (hy := ix (A := j.fA) (m := j.af.length) (hb := by omega)) (h := ?_)
          refine tk 23 (hy := ldE (A := j.fA) (hk := hye)) (h := ?_)
          refine tk 24 (hy := leq) (h := ?_)
          refine tk 25 (hy := (by first | exact pkT | exact pkF)) (h := ?_)
          refine tk 26 (hy := (by first | exact pkT | exact pkF)) (h := ?_)
          refine dn (h := ?_)
          refine q_seq (h := ?_)
          refine cd (by exact rfl) (fun h7 => ?_) (fun h7 => ?_)
          · skip
            refine sq (h := ?_)
            refine rg (h := ?_)
            refine wy asg ?_
            refine WL.cut (by repeat (first | exact Cut.nil | apply Cut.hit | apply Cut.miss (by exact rfl))) ?_
            refine nl (h := ?_)
            refine q_seq (h := ?_)
            refine rtn (h := ?_)
            refine q_blk_ret (h := ?_)
            refine q_then_ret (h := ?_)
            refine q_then_ret (h := ?_)
            refine q_blk_ret (h := ?_)
            refine q_then_ret (h := ?_)
            refine q_ret (hR := ?_)
            first
              | exact fun w hS => ⟨true, fun _ => ⟨⟨hl.1.1, hl.1.2, hl.2⟩, hdu, hea, hkA, hkB, fun x hx => by
                  obtain ⟨i', h8, e⟩ := List.mem_iff_getElem.1 hx
                  exact hkC i' x h8 (by rw [List.getElem?_eq_getElem h8, e])⟩, rfl, hS.sub slz_⟩
              | exact fun w hS => ⟨false, fun h9 => (by cases h9), rfl, hS.sub slz_⟩
          · skip
            first
              | (have hlt : ∀ y', 0 < k → j.af[k - 1]? = some y' → y' < x := fun y' _ hy' => by rw [hy] at hy'; cases hy'; have := of_decide_eq_false (show decide (x ≤ y) = false by assumption); omega
                 have hA2 := hkA.succ hx (by omega) hlt)
              | have hA2 := hkA.succ hx (by omega) hlt
            refine skp (h := ?_)
            refine q_blk_norm (h := ?_)
            refine q_seq (h := ?_)
            refine rg (h := ?_)
            refine wy mv ?_
            refine wy addI ?_
            refine wy asg ?_
            refine WL.cut (by repeat (first | exact Cut.nil | apply Cut.hit | apply Cut.miss (by exact rfl))) ?_
            refine nl (h := ?_)
            refine rn (x := k) (k + 1) ⟨hkn, hA2⟩ (by omega) sbz_ slz_
        · skip
          have hk0 : ¬ 0 < k := by have := of_decide_eq_false hb6; omega
          have hlt : ∀ y, 0 < k → j.af[k - 1]? = some y → y < x := fun y h9 => absurd h9 hk0
          refine tkS 13 (h := ?_)
          refine tkS 14 (h := ?_)
          refine tkS 15 (h := ?_)
          refine tkS 16 (h := ?_)
          refine tkS 17 (h := ?_)
          refine tkS 18 (h := ?_)
          refine tkS 19 (h := ?_)
          refine tkS 20 (h := ?_)
          refine tkS 21 (h := ?_)
          refine tkS 22 (h := ?_)
          refine tkS 23 (h := ?_)
          refine tkS 24 (h := ?_)
          refine tk 25 (hy := (by first | exact pkT | exact pkF)) (h := ?_)
          refine tk 26 (hy := (by first | exact pkT | exact pkF)) (h := ?_)
          refine dn (h := ?_)
          refine q_seq (h := ?_)
          refine cdF (h := ?_)
          first
            | (have hlt : ∀ y', 0 < k → j.af[k - 1]? = some y' → y' < x := fun y' _ hy' => by rw [hy] at hy'; cases hy'; have := of_decide_eq_false (show decide (x ≤ y) = false by assumption); omega
               have hA2 := hkA.succ hx (by omega) hlt)
            | have hA2 := hkA.succ hx (by omega) hlt
          refine skp (h := ?_)
          refine q_blk_norm (h := ?_)
          refine q_seq (h := ?_)
          refine rg (h := ?_)
          refine wy mv ?_
          refine wy addI ?_
          refine wy asg ?_
          refine WL.cut (by repeat (first | exact Cut.nil | apply Cut.hit | apply Cut.miss (by exact rfl))) ?_
          refine nl (h := ?_)
          refine rn (x := k) (k + 1) ⟨hkn, hA2⟩ (by omega) sbz_ slz_
    · skip
      have hkn : k = j.af.length := by have := of_decide_eq_false h3; omega
      rw [hkn] at hkA
      refine et (h := ?_)
      refine q_then_exit (h := ?_)
      refine q_then_exit (h := ?_)
      refine q_blk_hit (h := ?_)
      refine q_seq (h := ?_)
      refine sq (h := ?_)
      refine sq (h := ?_)
      refine rg (h := ?_)
      refine wy asg ?_
      refine WL.cut (by repeat (first | exact Cut.nil | apply Cut.hit | apply Cut.miss (by exact rfl))) ?_
      refine nl (h := ?_)
      refine q_seq (h := ?_)
      refine bk (h := ?_)
      refine lp (X := Nat) (I := fun k => k ≤ j.wi.length ∧ Asc j.wi (m : Int) k ∧ ∀ i' x, i' < k → j.wi[i']? = some x → x ≠ (i : Int)) (le := fun k => [(1, .int .i64 i), (2, .int .i64 m), (3, .pointer (some ⟨b0, 0, none⟩)), (8, .int .i64 k)]) (Le := fun _ => [.blk b0 80 j.cells, .ro j.wA 1 j.wi.length (enI j.wi)]) (μ := fun k => j.wi.length - k) 0 ⟨Nat.zero_le _, Asc.zero _ _, fun _ _ h9 => absurd h9 (Nat.not_lt_zero _)⟩ sbz_ slz_ (fun k hk => ?_)
      obtain ⟨hkL, hkB, hkC⟩ := hk
      refine sq (h := ?_)
      refine sq (h := ?_)
      refine rg (h := ?_)
      refine wy mv ?_
      refine wy (by first | exact fa | exact faE) ?_
      refine wy (by first | exact ld | exact ldE) ?_
      refine wy lenS ?_
      refine wy lss ?_
      refine nl (h := ?_)
      refine q_seq (h := ?_)
      refine cd (by exact rfl) (fun h9 => ?_) (fun h9 => ?_)
      · skip
        have hkn : k < j.wi.length := by have := of_decide_eq_true h9; omega
        obtain ⟨x, hx⟩ : ∃ x, j.wi[k]? = some x := ⟨_, List.getElem?_eq_getElem hkn⟩
        have hxe := enI_at hx
        refine skp (h := ?_)
        refine q_seq (h := ?_)
        refine sq (h := ?_)
        refine bk (h := ?_)
        refine sq (h := ?_)
        refine rgD (by kernel_rfl) [(1000000, .blk b0 80 j.cells), (1000000, .ro j.wA 1 j.wi.length (enI j.wi))] (by repeat (first | exact HS.nil | (apply HS.keep; (repeat (first | exact At.here | apply At.there))) | (apply HS.ro; (repeat (first | exact Rds.ro | exact Rds.own | apply Rds.there))))) (h := ?_)
        refine tk 0 (hy := (by first | exact fa | exact faE)) (h := ?_)
        refine tk 1 (hy := (by first | exact ld | exact ldE)) (h := ?_)
        refine tk 2 (hy := mv) (h := ?_)
        refine tk 3 (hy := ix (A := j.wA) (m := j.wi.length) (hb := by omega)) (h := ?_)
        refine tk 4 (hy := ldE (A := j.wA) (hk := hxe)) (h := ?_)
        refine tk 5 (hy := mv) (h := ?_)
        refine tk 6 (hy := subI (hb := by omega)) (h := ?_)
        refine one 7 (h := ?_)
        refine cl0 (hc := fun w hS => C_ref8_within x 0 ((m : Int) - 1) w) (h := ?_)
        refine nx (h := ?_)
        refine tk 8 (hy := notB) (h := ?_)
        refine tk 9 (hy := mv) (h := ?_)
        refine brH (g := 75) (by exact rfl) (fun hb10 => ?_) (fun hb10 => ?_)
        · skip
          refine tkS 10 (h := ?_)
          refine tkS 11 (h := ?_)
          refine tkS 12 (h := ?_)
          refine tkS 13 (h := ?_)
          refine tkS 14 (h := ?_)
          refine tkS 15 (h := ?_)
          refine tkS 16 (h := ?_)
          refine tk 17 (hy := (by first | exact pkT | exact pkF)) (h := ?_)
          refine tk 18 (hy := mv) (h := ?_)
          refine tkS 19 (h := ?_)
          refine tkS 20 (h := ?_)
          refine tkS 21 (h := ?_)
          refine tkS 22 (h := ?_)
          refine tkS 23 (h := ?_)
          refine tkS 24 (h := ?_)
          refine tkS 25 (h := ?_)
          refine tkS 26 (h := ?_)
          refine tkS 27 (h := ?_)
          refine tkS 28 (h := ?_)
          refine tkS 29 (h := ?_)
          refine tkS 30 (h := ?_)
          refine tkS 31 (h := ?_)
          refine tkS 32 (h := ?_)
          refine tkS 33 (h := ?_)
          refine tkS 34 (h := ?_)
          refine tk 35 (hy := (by first | exact pkT | exact pkF)) (h := ?_)
          refine dn (h := ?_)
          refine q_seq (h := ?_)
          refine cdT (h := ?_)
          refine sq (h := ?_)
          refine rg (h := ?_)
          refine wy asg ?_
          refine WL.cut (by repeat (first | exact Cut.nil | apply Cut.hit | apply Cut.miss (by exact rfl))) ?_
          refine nl (h := ?_)
          refine q_seq (h := ?_)
          refine rtn (h := ?_)
          refine q_blk_ret (h := ?_)
          refine q_then_ret (h := ?_)
          refine q_then_ret (h := ?_)
          refine q_blk_ret (h := ?_)
          refine q_then_ret (h := ?_)
          refine q_ret (hR := ?_)
          first
            | exact fun w hS => ⟨true, fun _ => ⟨⟨hl.1.1, hl.1.2, hl.2⟩, hdu, hea, hkA, hkB, fun x hx => by
                obtain ⟨i', h8, e⟩ := List.mem_iff_getElem.1 hx
                exact hkC i' x h8 (by rw [List.getElem?_eq_getElem h8, e])⟩, rfl, hS.sub slz_⟩
            | exact fun w hS => ⟨false, fun h9 => (by cases h9), rfl, hS.sub slz_⟩
        · skip
          have hw2 := win_no hb10
          refine tk 10 (hy := (by first | exact fa | exact faE)) (h := ?_)
          refine tk 11 (hy := (by first | exact ld | exact ldE)) (h := ?_)
          refine tk 12 (hy := mv) (h := ?_)
          refine tk 13 (hy := ix (A := j.wA) (m := j.wi.length) (hb := by omega)) (h := ?_)
          refine tk 14 (hy := ldE (A := j.wA) (hk := hxe)) (h := ?_)
          refine tk 15 (hy := mv) (h := ?_)
          refine tk 16 (hy := eql) (h := ?_)
          refine tk 17 (hy := (by first | exact pkT | exact pkF)) (h := ?_)
          refine tk 18 (hy := mv) (h := ?_)
          refine brH (g := 84) (by exact rfl) (fun hb12 => ?_) (fun hb12 => ?_)
          · skip
            refine tkS 19 (h := ?_)
            refine tkS 20 (h := ?_)
            refine tkS 21 (h := ?_)
            refine tkS 22 (h := ?_)
            refine tkS 23 (h := ?_)
            refine tkS 24 (h := ?_)
            refine tkS 25 (h := ?_)
            refine tkS 26 (h := ?_)
            refine tkS 27 (h := ?_)
            refine tkS 28 (h := ?_)
            refine tkS 29 (h := ?_)
            refine tkS 30 (h := ?_)
            refine tkS 31 (h := ?_)
            refine tkS 32 (h := ?_)
            refine tkS 33 (h := ?_)
            refine tkS 34 (h := ?_)
            refine tk 35 (hy := (by first | exact pkT | exact pkF)) (h := ?_)
            refine dn (h := ?_)
            refine q_seq (h := ?_)
            refine cdT (h := ?_)
            refine sq (h := ?_)
            refine rg (h := ?_)
            refine wy asg ?_
            refine WL.cut (by repeat (first | exact Cut.nil | apply Cut.hit | apply Cut.miss (by exact rfl))) ?_
            refine nl (h := ?_)
            refine q_seq (h := ?_)
            refine rtn (h := ?_)
            refine q_blk_ret (h := ?_)
            refine q_then_ret (h := ?_)
            refine q_then_ret (h := ?_)
            refine q_blk_ret (h := ?_)
            refine q_then_ret (h := ?_)
            refine q_ret (hR := ?_)
            first
              | exact fun w hS => ⟨true, fun _ => ⟨⟨hl.1.1, hl.1.2, hl.2⟩, hdu, hea, hkA, hkB, fun x hx => by
                  obtain ⟨i', h8, e⟩ := List.mem_iff_getElem.1 hx
                  exact hkC i' x h8 (by rw [List.getElem?_eq_getElem h8, e])⟩, rfl, hS.sub slz_⟩
              | exact fun w hS => ⟨false, fun h9 => (by cases h9), rfl, hS.sub slz_⟩
          · skip
            have hne : x ≠ (i : Int) := of_decide_eq_false hb12
            refine tk 19 (hy := mv) (h := ?_)
            refine tk 20 (hy := gtr) (h := ?_)
            refine tk 21 (hy := mv) (h := ?_)
            refine brH (g := 87) (by exact rfl) (fun hb14 => ?_) (fun hb14 => ?_)
            · skip
              have hk0 : 0 < k := by have := of_decide_eq_true hb14; omega
              obtain ⟨y, hy⟩ : ∃ y, j.wi[k - 1]? = some y := ⟨_, List.getElem?_eq_getElem (by omega)⟩
              have hye : (enI j.wi)[((k : Int) - 1).toNat]? = some [.int .i64 y] := by rw [show ((k : Int) - 1).toNat = k - 1 by omega]; exact enI_at hy
              refine tk 22 (hy := (by first | exact fa | exact faE)) (h := ?_)
              refine tk 23 (hy := (by first | exact ld | exact ldE)) (h := ?_)
              refine tk 24 (hy := mv) (h := ?_)
              refine tk 25 (hy := ix (A := j.wA) (m := j.wi.length) (hb := by omega)) (h := ?_)
              refine tk 26 (hy := ldE (A := j.wA) (hk := hxe)) (h := ?_)
              refine tk 27 (hy := (by first | exact fa | exact faE)) (h := ?_)
              refine tk 28 (hy := (by first | exact ld | exact ldE)) (h := ?_)
              refine tk 29 (hy := mv) (h := ?_)
              refine tk 30 (hy := subI (hb := by omega)) (h := ?_)
              refine tk 31 (hy := ix (A := j.wA) (m := j.wi.length) (hb := by omega)) (h := ?_)
              refine tk 32 (hy := ldE (A := j.wA) (hk := hye)) (h := ?_)
              refine tk 33 (hy := leq) (h := ?_)
              refine tk 34 (hy := (by first | exact pkT | exact pkF)) (h := ?_)
              refine tk 35 (hy := (by first | exact pkT | exact pkF)) (h := ?_)
              refine dn (h := ?_)
              refine q_seq (h := ?_)
              refine cd (by exact rfl) (fun h15 => ?_) (fun h15 => ?_)
              · skip
                refine sq (h := ?_)
                refine rg (h := ?_)
                refine wy asg ?_
                refine WL.cut (by repeat (first | exact Cut.nil | apply Cut.hit | apply Cut.miss (by exact rfl))) ?_
                refine nl (h := ?_)
                refine q_seq (h := ?_)
                refine rtn (h := ?_)
                refine q_blk_ret (h := ?_)
                refine q_then_ret (h := ?_)
                refine q_then_ret (h := ?_)
                refine q_blk_ret (h := ?_)
                refine q_then_ret (h := ?_)
                refine q_ret (hR := ?_)
                first
                  | exact fun w hS => ⟨true, fun _ => ⟨⟨hl.1.1, hl.1.2, hl.2⟩, hdu, hea, hkA, hkB, fun x hx => by
                      obtain ⟨i', h8, e⟩ := List.mem_iff_getElem.1 hx
                      exact hkC i' x h8 (by rw [List.getElem?_eq_getElem h8, e])⟩, rfl, hS.sub slz_⟩
                  | exact fun w hS => ⟨false, fun h9 => (by cases h9), rfl, hS.sub slz_⟩
              · skip
                first
                  | (have hlt : ∀ y', 0 < k → j.wi[k - 1]? = some y' → y' < x := fun y' _ hy' => by rw [hy] at hy'; cases hy'; have := of_decide_eq_false (show decide (x ≤ y) = false by assumption); omega
                     have hA2 := hkB.succ hx (by omega) hlt)
                  | have hA2 := hkB.succ hx (by omega) hlt
                refine skp (h := ?_)
                refine q_blk_norm (h := ?_)
                refine q_seq (h := ?_)
                refine rg (h := ?_)
                refine wy mv ?_
                refine wy addI ?_
                refine wy asg ?_
                refine WL.cut (by repeat (first | exact Cut.nil | apply Cut.hit | apply Cut.miss (by exact rfl))) ?_
                refine nl (h := ?_)
                refine rn (x := k) (k + 1) ⟨hkn, hA2, fun i' x' g8 g9 => by
                  by_cases e : i' = k
                  · rw [e, hx] at g9; cases g9; exact hne
                  · exact hkC i' x' (by omega) g9⟩ (by omega) sbz_ slz_
            · skip
              have hk0 : ¬ 0 < k := by have := of_decide_eq_false hb14; omega
              have hlt : ∀ y, 0 < k → j.wi[k - 1]? = some y → y < x := fun y h9 => absurd h9 hk0
              refine tkS 22 (h := ?_)
              refine tkS 23 (h := ?_)
              refine tkS 24 (h := ?_)
              refine tkS 25 (h := ?_)
              refine tkS 26 (h := ?_)
              refine tkS 27 (h := ?_)
              refine tkS 28 (h := ?_)
              refine tkS 29 (h := ?_)
              refine tkS 30 (h := ?_)
              refine tkS 31 (h := ?_)
              refine tkS 32 (h := ?_)
              refine tkS 33 (h := ?_)
              refine tk 34 (hy := (by first | exact pkT | exact pkF)) (h := ?_)
              refine tk 35 (hy := (by first | exact pkT | exact pkF)) (h := ?_)
              refine dn (h := ?_)
              refine q_seq (h := ?_)
              refine cdF (h := ?_)
              first
                | (have hlt : ∀ y', 0 < k → j.wi[k - 1]? = some y' → y' < x := fun y' _ hy' => by rw [hy] at hy'; cases hy'; have := of_decide_eq_false (show decide (x ≤ y) = false by assumption); omega
                   have hA2 := hkB.succ hx (by omega) hlt)
                | have hA2 := hkB.succ hx (by omega) hlt
              refine skp (h := ?_)
              refine q_blk_norm (h := ?_)
              refine q_seq (h := ?_)
              refine rg (h := ?_)
              refine wy mv ?_
              refine wy addI ?_
              refine wy asg ?_
              refine WL.cut (by repeat (first | exact Cut.nil | apply Cut.hit | apply Cut.miss (by exact rfl))) ?_
              refine nl (h := ?_)
              refine rn (x := k) (k + 1) ⟨hkn, hA2, fun i' x' g8 g9 => by
                by_cases e : i' = k
                · rw [e, hx] at g9; cases g9; exact hne
                · exact hkC i' x' (by omega) g9⟩ (by omega) sbz_ slz_
      · skip
        have hkn : k = j.wi.length := by have := of_decide_eq_false h9; omega
        rw [hkn] at hkB hkC
        refine et (h := ?_)
        refine q_then_exit (h := ?_)
        refine q_then_exit (h := ?_)
        refine q_blk_hit (h := ?_)
        refine q_seq (h := ?_)
        refine sq (h := ?_)
        refine rg (h := ?_)
        refine wy asg ?_
        refine WL.cut (by repeat (first | exact Cut.nil | apply Cut.hit | apply Cut.miss (by exact rfl))) ?_
        refine nl (h := ?_)
        refine q_seq (h := ?_)
        refine rtn (h := ?_)
        refine q_ret (hR := ?_)
        first
          | exact fun w hS => ⟨true, fun _ => ⟨⟨hl.1.1, hl.1.2, hl.2⟩, hdu, hea, hkA, hkB, fun x hx => by
              obtain ⟨i', h8, e⟩ := List.mem_iff_getElem.1 hx
              exact hkC i' x h8 (by rw [List.getElem?_eq_getElem h8, e])⟩, rfl, hS.sub slz_⟩
          | exact fun w hS => ⟨false, fun h9 => (by cases h9), rfl, hS.sub slz_⟩
end Go.Proofs.YtmlhnajgiopfgaaGreat

namespace Go.Proofs.YtmlhnajgiopfgaaGreat
open Go Go.RowKit

structure DyOk (nc : Nat) (d : Dy) : Prop where
  n : d.sp.length = nc
  s : ∀ i s, i < d.sp.length → d.sp[i]? = some s → 0 ≤ s.1 ∧ s.1 ≤ s.2 ∧ s.2 ≤ 1440
set_option maxRecDepth 100000 in
set_option maxHeartbeats 1000000 in
theorem C_ref8_Check (p : Pg) (w : World) (h : PgR w p) : CR Tryz.prog 8 [p.val] w (fun e : Int => e = 0 → POk p) (fun e => .int .i64 e) (fun _ => []) := by
  have hn := h.nums
  refine ⟨en Tryz.func8 Tryz.ntmps8 (((St.init w).share (e := .ro p.dA 1 p.days.length (encDy p.days)) h.d rfl rfl rfl).share (e := .ro p.jA 6 p.jobs.length (encJb p.jobs)) h.j rfl rfl rfl) (h := fun F => ?_)⟩
  refine sq (h := ?_)
  refine rg (h := ?_)
  refine bxA (h := fun b0 => ?_)
  refine wy asg ?_
  refine WL.cut (by repeat (first | exact Cut.nil | apply Cut.hit | apply Cut.miss (by exact rfl))) ?_
  refine nl (h := ?_)
  refine q_seq (h := ?_)
  refine sq (h := ?_)
  refine sq (h := ?_)
  refine rg (h := ?_)
  refine wy (by first | exact fa | exact faE) ?_
  refine wy (by first | exact ld | exact ldE) ?_
  refine wy lenS ?_
  refine cl0 (hc := fun w hS => C_ref8_within p.days.length 1 3 w) (h := ?_)
  refine wy notB ?_
  refine wy mv ?_
  apply brOr 8 12 20 (by exact rfl)
  · intro hb0
    have hnd := win_no hb0
    obtain ⟨d0, hd0⟩ : ∃ d, p.days[0]? = some d := ⟨_, List.getElem?_eq_getElem (by omega)⟩
    have hn0 := nc_first hd0
    refine un (h := ?_)
    refine wy (by first | exact fa | exact faE) ?_
    refine un (h := ?_)
    refine wy (by first | exact ld | exact ldE) ?_
    refine un (h := ?_)
    refine wy (ix (A := p.dA) (m := p.days.length) (hb := by omega)) ?_
    refine un (h := ?_)
    refine wy (ldE (A := p.dA) (k := 0) (hk := encDy_at hd0)) ?_
    refine un (h := ?_)
    refine wy lenS ?_
    rw [hn0]
    refine un (h := ?_)
    refine cl0 (hc := fun w hS => C_ref8_within p.nc 1 3 w) (h := ?_)
    refine un (h := ?_)
    refine wy notB ?_
    refine wy (by first | exact pkT | exact pkF) ?_
    exact mg (by repeat (first | exact trivial | refine ⟨rfl, ?_⟩ | refine ⟨by rw [hb0]; rfl, ?_⟩)) slz_
  · intro hb0
    repeat (first | refine un (h := ?_) | refine sk (h := ?_) | refine WL.y (hy := pkF) (h := ?_) | refine WL.y (hy := pkT) (h := ?_))
    exact mg (by repeat (first | exact trivial | refine ⟨rfl, ?_⟩ | refine ⟨by rw [hb0]; rfl, ?_⟩)) slz_
  refine wy mv ?_
  apply brOr 5 21 26 (by exact rfl)
  · intro hb1
    refine un (h := ?_)
    refine wy (by first | exact fa | exact faE) ?_
    refine un (h := ?_)
    refine wy (by first | exact ld | exact ldE) ?_
    refine un (h := ?_)
    refine cl0 (hc := fun w hS => C_ref8_within p.rest 0 600 w) (h := ?_)
    refine un (h := ?_)
    refine wy notB ?_
    refine wy (by first | exact pkT | exact pkF) ?_
    exact mg (by repeat (first | exact trivial | refine ⟨rfl, ?_⟩ | refine ⟨by rw [hb1]; rfl, ?_⟩)) slz_
  · intro hb1
    repeat (first | refine un (h := ?_) | refine sk (h := ?_) | refine WL.y (hy := pkF) (h := ?_) | refine WL.y (hy := pkT) (h := ?_))
    exact mg (by repeat (first | exact trivial | refine ⟨rfl, ?_⟩ | refine ⟨by rw [hb1]; rfl, ?_⟩)) slz_
  refine wy mv ?_
  apply brOr 5 27 32 (by exact rfl)
  · intro hb2
    refine un (h := ?_)
    refine wy (by first | exact fa | exact faE) ?_
    refine un (h := ?_)
    refine wy (by first | exact ld | exact ldE) ?_
    refine un (h := ?_)
    refine wy lenS ?_
    refine un (h := ?_)
    refine wy gtr ?_
    refine wy (by first | exact pkT | exact pkF) ?_
    exact mg (by repeat (first | exact trivial | refine ⟨rfl, ?_⟩ | refine ⟨by rw [hb2]; rfl, ?_⟩)) slz_
  · intro hb2
    repeat (first | refine un (h := ?_) | refine sk (h := ?_) | refine WL.y (hy := pkF) (h := ?_) | refine WL.y (hy := pkT) (h := ?_))
    exact mg (by repeat (first | exact trivial | refine ⟨rfl, ?_⟩ | refine ⟨by rw [hb2]; rfl, ?_⟩)) slz_
  refine nl (h := ?_)
  refine q_seq (h := ?_)
  refine cd (by exact rfl) (fun h3 => ?_) (fun h3 => ?_)
  · skip
    refine sq (h := ?_)
    refine rg (h := ?_)
    refine wy asg ?_
    refine WL.cut (by repeat (first | exact Cut.nil | apply Cut.hit | apply Cut.miss (by exact rfl))) ?_
    refine nl (h := ?_)
    refine q_seq (h := ?_)
    refine rtn (h := ?_)
    refine q_then_ret (h := ?_)
    refine q_ret (hR := ?_)
    first
      | exact fun w hS => ⟨0, fun _ => ⟨by omega, hre, by omega, by omega, fun k d g8 g9 => ⟨(hkD k d g8 g9).n, (hkD k d g8 g9).s⟩, hkJ⟩, rfl, hS.sub slz_⟩
      | exact fun w hS => ⟨80, fun g9 => absurd g9 (by decide), rfl, hS.sub slz_⟩
  · skip
    have g9 := h3
    rw [Bool.or_eq_false_iff, Bool.or_eq_false_iff, Bool.or_eq_false_iff] at g9
    have hnd := win_no g9.1.1.1
    have hnc := win_no g9.1.1.2
    have hre := win_no g9.1.2
    have hnj := of_decide_eq_false g9.2
    obtain ⟨d0, hd0⟩ : ∃ d, p.days[0]? = some d := ⟨_, List.getElem?_eq_getElem (by omega)⟩
    have hn0 := nc_first hd0
    refine skp (h := ?_)
    refine q_seq (h := ?_)
    refine sq (h := ?_)
    refine sq (h := ?_)
    refine rg (h := ?_)
    refine wy asg ?_
    refine WL.cut (by repeat (first | exact Cut.nil | apply Cut.hit | apply Cut.miss (by exact rfl))) ?_
    refine nl (h := ?_)
    refine q_seq (h := ?_)
    refine bk (h := ?_)
    refine lp (X := Nat) (I := fun k => k ≤ p.days.length ∧ ∀ i d, i < k → p.days[i]? = some d → DyOk p.nc d) (le := fun k => [(1, .pointer (some ⟨b0, 0, none⟩)), (3, .int .i64 k)]) (Le := fun _ => [.blk b0 39 p.cells, .ro p.dA 1 p.days.length (encDy p.days), .ro p.jA 6 p.jobs.length (encJb p.jobs)]) (μ := fun k => p.days.length - k) 0 ⟨Nat.zero_le _, fun _ _ g9 => absurd g9 (Nat.not_lt_zero _)⟩ sbz_ slz_ (fun k hk => ?_)
    obtain ⟨hkL, hkD⟩ := hk
    refine sq (h := ?_)
    refine sq (h := ?_)
    refine rg (h := ?_)
    refine wy mv ?_
    refine wy (by first | exact fa | exact faE) ?_
    refine wy (by first | exact ld | exact ldE) ?_
    refine wy lenS ?_
    refine wy lss ?_
    refine nl (h := ?_)
    refine q_seq (h := ?_)
    refine cd (by exact rfl) (fun h4 => ?_) (fun h4 => ?_)
    · skip
      have hkn : k < p.days.length := by have := of_decide_eq_true h4; omega
      obtain ⟨d, hd⟩ : ∃ d, p.days[k]? = some d := ⟨_, List.getElem?_eq_getElem hkn⟩
      have hdm := List.mem_of_getElem? hd
      refine skp (h := ?_)
      refine q_seq (h := ?_)
      refine sq (h := ?_)
      refine bk (h := ?_)
      refine sq (h := ?_)
      refine sq (h := ?_)
      refine rgD (by kernel_rfl) [(1000000, .blk b0 39 p.cells), (1000000, .ro p.dA 1 p.days.length (encDy p.days))] (by repeat (first | exact HS.nil | (apply HS.keep; (repeat (first | exact At.here | apply At.there))) | (apply HS.ro; (repeat (first | exact Rds.ro | exact Rds.own | apply Rds.there))))) (h := ?_)
      refine tk 0 (hy := (by first | exact fa | exact faE)) (h := ?_)
      refine tk 1 (hy := (by first | exact ld | exact ldE)) (h := ?_)
      refine tk 2 (hy := mv) (h := ?_)
      refine tk 3 (hy := ix (A := p.dA) (m := p.days.length) (hb := by omega)) (h := ?_)
      refine tk 4 (hy := ldE (A := p.dA) (hk := encDy_at hd)) (h := ?_)
      refine tk 5 (hy := lenS) (h := ?_)
      refine tk 6 (hy := (by first | exact fa | exact faE)) (h := ?_)
      refine tk 7 (hy := (by first | exact ld | exact ldE)) (h := ?_)
      refine tk 8 (hy := ix (A := p.dA) (m := p.days.length) (hb := by omega)) (h := ?_)
      refine tk 9 (hy := ldE (A := p.dA) (k := 0) (hk := encDy_at hd0)) (h := ?_)
      refine tk 10 (hy := lenS) (h := ?_)
      refine tk 11 (hy := neq) (h := ?_)
      refine dn (h := ?_)
      refine q_seq (h := ?_)
      refine cd (by exact rfl) (fun h5 => ?_) (fun h5 => ?_)
      · skip
        refine sq (h := ?_)
        refine rg (h := ?_)
        refine wy asg ?_
        refine WL.cut (by repeat (first | exact Cut.nil | apply Cut.hit | apply Cut.miss (by exact rfl))) ?_
        refine nl (h := ?_)
        refine q_seq (h := ?_)
        refine rtn (h := ?_)
        refine q_then_ret (h := ?_)
        refine q_blk_ret (h := ?_)
        refine q_then_ret (h := ?_)
        refine q_then_ret (h := ?_)
        refine q_blk_ret (h := ?_)
        refine q_then_ret (h := ?_)
        refine q_ret (hR := ?_)
        first
          | exact fun w hS => ⟨0, fun _ => ⟨by omega, hre, by omega, by omega, fun k d g8 g9 => ⟨(hkD k d g8 g9).n, (hkD k d g8 g9).s⟩, hkJ⟩, rfl, hS.sub slz_⟩
          | exact fun w hS => ⟨80, fun g9 => absurd g9 (by decide), rfl, hS.sub slz_⟩
      · skip
        have hdl : d.sp.length = p.nc := by have g9 := h5; rw [Bool.not_eq_false', decide_eq_true_eq] at g9; omega
        refine WC.old (h.s d hdm) ?_
        refine skp (h := ?_)
        refine q_seq (h := ?_)
        refine sq (h := ?_)
        refine rg (h := ?_)
        refine wy asg ?_
        refine WL.cut (by repeat (first | exact Cut.nil | apply Cut.hit | apply Cut.miss (by exact rfl))) ?_
        refine nl (h := ?_)
        refine q_seq (h := ?_)
        refine bk (h := ?_)
        refine lp (X := Nat) (I := fun i => i ≤ d.sp.length ∧ ∀ i' s, i' < i → d.sp[i']? = some s → 0 ≤ s.1 ∧ s.1 ≤ s.2 ∧ s.2 ≤ 1440) (le := fun i => [(1, .pointer (some ⟨b0, 0, none⟩)), (3, .int .i64 k), (4, .int .i64 i)]) (Le := fun _ => [.blk b0 39 p.cells, .ro p.dA 1 p.days.length (encDy p.days), .ro p.jA 6 p.jobs.length (encJb p.jobs), .ro d.A 2 d.sp.length (encSn d.sp)]) (μ := fun i => d.sp.length - i) 0 ⟨Nat.zero_le _, fun _ _ g9 => absurd g9 (Nat.not_lt_zero _)⟩ sbz_ slz_ (fun i hi => ?_)
        obtain ⟨hiL, hiD⟩ := hi
        refine sq (h := ?_)
        refine sq (h := ?_)
        refine rg (h := ?_)
        refine wy mv ?_
        refine wy (by first | exact fa | exact faE) ?_
        refine wy (by first | exact ld | exact ldE) ?_
        refine wy mv ?_
        refine wy (ix (A := p.dA) (m := p.days.length) (hb := by omega)) ?_
        refine wy (ldE (A := p.dA) (hk := encDy_at hd)) ?_
        refine wy lenS ?_
        refine wy lss ?_
        refine nl (h := ?_)
        refine q_seq (h := ?_)
        refine cd (by exact rfl) (fun h6 => ?_) (fun h6 => ?_)
        · skip
          have hin : i < d.sp.length := by have := of_decide_eq_true h6; omega
          obtain ⟨s, hs⟩ : ∃ s, d.sp[i]? = some s := ⟨_, List.getElem?_eq_getElem hin⟩
          refine skp (h := ?_)
          refine q_seq (h := ?_)
          refine sq (h := ?_)
          refine bk (h := ?_)
          refine sq (h := ?_)
          refine rg (h := ?_)
          refine wy (by first | exact fa | exact faE) ?_
          refine wy (by first | exact ld | exact ldE) ?_
          refine wy mv ?_
          refine wy (ix (A := p.dA) (m := p.days.length) (hb := by omega)) ?_
          refine wy (ldE (A := p.dA) (hk := encDy_at hd)) ?_
          refine wy mv ?_
          refine wy (ix (A := d.A) (m := d.sp.length) (hb := by omega)) ?_
          refine wy (ldEW (A := d.A) (hk := encSn_at hs)) ?_
          refine al (h := fun b1 => ?_)
          first | refine stA (h := ?_) | refine stEA (h := ?_)
          refine nl (h := ?_)
          refine q_seq (h := ?_)
          refine sq (h := ?_)
          refine rg (h := ?_)
          refine wy (by first | exact fa | exact faE) ?_
          refine wy (by first | exact ld | exact ldE) ?_
          refine wy lss ?_
          refine wy mv ?_
          apply brOr 6 73 79 (by exact rfl)
          · intro hb7
            refine un (h := ?_)
            refine wy (by first | exact fa | exact faE) ?_
            refine un (h := ?_)
            refine wy (by first | exact ld | exact ldE) ?_
            refine un (h := ?_)
            refine wy (by first | exact fa | exact faE) ?_
            refine un (h := ?_)
            refine wy (by first | exact ld | exact ldE) ?_
            refine un (h := ?_)
            refine wy gtr ?_
            refine wy (by first | exact pkT | exact pkF) ?_
            exact mg (by repeat (first | exact trivial | refine ⟨rfl, ?_⟩ | refine ⟨by rw [hb7]; rfl, ?_⟩)) slz_
          · intro hb7
            repeat (first | refine un (h := ?_) | refine sk (h := ?_) | refine WL.y (hy := pkF) (h := ?_) | refine WL.y (hy := pkT) (h := ?_))
            exact mg (by repeat (first | exact trivial | refine ⟨rfl, ?_⟩ | refine ⟨by rw [hb7]; rfl, ?_⟩)) slz_
          refine wy mv ?_
          apply brOr 4 80 84 (by exact rfl)
          · intro hb8
            refine un (h := ?_)
            refine wy (by first | exact fa | exact faE) ?_
            refine un (h := ?_)
            refine wy (by first | exact ld | exact ldE) ?_
            refine un (h := ?_)
            refine wy gtr ?_
            refine wy (by first | exact pkT | exact pkF) ?_
            exact mg (by repeat (first | exact trivial | refine ⟨rfl, ?_⟩ | refine ⟨by rw [hb8]; rfl, ?_⟩)) slz_
          · intro hb8
            repeat (first | refine un (h := ?_) | refine sk (h := ?_) | refine WL.y (hy := pkF) (h := ?_) | refine WL.y (hy := pkT) (h := ?_))
            exact mg (by repeat (first | exact trivial | refine ⟨rfl, ?_⟩ | refine ⟨by rw [hb8]; rfl, ?_⟩)) slz_
          refine nl (h := ?_)
          refine q_seq (h := ?_)
          refine cd (by exact rfl) (fun h9 => ?_) (fun h9 => ?_)
          · skip
            refine sq (h := ?_)
            refine rg (h := ?_)
            refine wy asg ?_
            refine WL.cut (by repeat (first | exact Cut.nil | apply Cut.hit | apply Cut.miss (by exact rfl))) ?_
            refine nl (h := ?_)
            refine q_seq (h := ?_)
            refine rtn (h := ?_)
            refine q_blk_ret (h := ?_)
            refine q_then_ret (h := ?_)
            refine q_then_ret (h := ?_)
            refine q_blk_ret (h := ?_)
            refine q_blk_ret (h := ?_)
            refine q_then_ret (h := ?_)
            refine q_then_ret (h := ?_)
            refine q_blk_ret (h := ?_)
            refine q_then_ret (h := ?_)
            refine q_ret (hR := ?_)
            first
              | exact fun w hS => ⟨0, fun _ => ⟨by omega, hre, by omega, by omega, fun k d g8 g9 => ⟨(hkD k d g8 g9).n, (hkD k d g8 g9).s⟩, hkJ⟩, rfl, hS.sub slz_⟩
              | exact fun w hS => ⟨80, fun g9 => absurd g9 (by decide), rfl, hS.sub slz_⟩
          · skip
            have g9 := h9
            rw [Bool.or_eq_false_iff, Bool.or_eq_false_iff, decide_eq_false_iff_not, decide_eq_false_iff_not, decide_eq_false_iff_not] at g9
            have hsk : 0 ≤ s.1 ∧ s.1 ≤ s.2 ∧ s.2 ≤ 1440 := by omega
            refine skp (h := ?_)
            refine q_blk_norm (h := ?_)
            refine q_seq (h := ?_)
            refine rg (h := ?_)
            refine wy mv ?_
            refine wy addI ?_
            refine wy asg ?_
            refine WL.cut (by repeat (first | exact Cut.nil | apply Cut.hit | apply Cut.miss (by exact rfl))) ?_
            refine nl (h := ?_)
            refine rn (x := i) (i + 1) ⟨hin, fun i' s' g8 g9 => by
              by_cases e : i' = i
              · rw [e, hs] at g9; cases g9; exact hsk
              · exact hiD i' s' (by omega) g9⟩ (by omega) sbz_ slz_
        · skip
          have hin : i = d.sp.length := by have := of_decide_eq_false h6; omega
          rw [hin] at hiD
          have hdo : DyOk p.nc d := ⟨hdl, hiD⟩
          refine et (h := ?_)
          refine q_then_exit (h := ?_)
          refine q_then_exit (h := ?_)
          refine q_blk_hit (h := ?_)
          refine q_blk_norm (h := ?_)
          refine q_seq (h := ?_)
          refine rg (h := ?_)
          refine wy mv ?_
          refine wy addI ?_
          refine wy asg ?_
          refine WL.cut (by repeat (first | exact Cut.nil | apply Cut.hit | apply Cut.miss (by exact rfl))) ?_
          refine nl (h := ?_)
          refine rn (x := k) (k + 1) ⟨hkn, fun i' d' g8 g9 => by
            by_cases e : i' = k
            · rw [e, hd] at g9; cases g9; exact hdo
            · exact hkD i' d' (by omega) g9⟩ (by omega) sbz_ slz_
    · skip
      have hkn : k = p.days.length := by have := of_decide_eq_false h4; omega
      rw [hkn] at hkD
      refine et (h := ?_)
      refine q_then_exit (h := ?_)
      refine q_then_exit (h := ?_)
      refine q_blk_hit (h := ?_)
      refine q_seq (h := ?_)
      refine sq (h := ?_)
      refine sq (h := ?_)
      refine rg (h := ?_)
      refine wy asg ?_
      refine WL.cut (by repeat (first | exact Cut.nil | apply Cut.hit | apply Cut.miss (by exact rfl))) ?_
      refine nl (h := ?_)
      refine q_seq (h := ?_)
      refine bk (h := ?_)
      refine lp (X := Nat) (I := fun k => k ≤ p.jobs.length ∧ ∀ i j, i < k → p.jobs[i]? = some j → JOk p.jobs.length i j) (le := fun k => [(1, .pointer (some ⟨b0, 0, none⟩)), (6, .int .i64 k)]) (Le := fun _ => [.blk b0 39 p.cells, .ro p.jA 6 p.jobs.length (encJb p.jobs)]) (μ := fun k => p.jobs.length - k) 0 ⟨Nat.zero_le _, fun _ _ g9 => absurd g9 (Nat.not_lt_zero _)⟩ sbz_ slz_ (fun k hk => ?_)
      obtain ⟨hkL, hkJ⟩ := hk
      refine sq (h := ?_)
      refine sq (h := ?_)
      refine rg (h := ?_)
      refine wy mv ?_
      refine wy (by first | exact fa | exact faE) ?_
      refine wy (by first | exact ld | exact ldE) ?_
      refine wy lenS ?_
      refine wy lss ?_
      refine nl (h := ?_)
      refine q_seq (h := ?_)
      refine cd (by exact rfl) (fun h10 => ?_) (fun h10 => ?_)
      · skip
        have hkn : k < p.jobs.length := by have := of_decide_eq_true h10; omega
        obtain ⟨j, hj⟩ : ∃ j, p.jobs[k]? = some j := ⟨_, List.getElem?_eq_getElem hkn⟩
        have hjm := List.mem_of_getElem? hj
        refine skp (h := ?_)
        refine q_seq (h := ?_)
        refine sq (h := ?_)
        refine bk (h := ?_)
        refine sq (h := ?_)
        refine WC.old (h.f j hjm) ?_
        refine WC.old (h.w j hjm) ?_
        refine rgD (by kernel_rfl) [(1000000, .blk b0 39 p.cells), (1000000, .ro p.jA 6 p.jobs.length (encJb p.jobs))] (by repeat (first | exact HS.nil | (apply HS.keep; (repeat (first | exact At.here | apply At.there))) | (apply HS.ro; (repeat (first | exact Rds.ro | exact Rds.own | apply Rds.there))))) (h := ?_)
        refine tk 0 (hy := (by first | exact fa | exact faE)) (h := ?_)
        refine tk 1 (hy := (by first | exact ld | exact ldE)) (h := ?_)
        refine tk 2 (hy := mv) (h := ?_)
        refine tk 3 (hy := ix (A := p.jA) (m := p.jobs.length) (hb := by omega)) (h := ?_)
        refine tk 4 (hy := ldEW (A := p.jA) (hk := encJb_at hj)) (h := ?_)
        refine tk 5 (hy := mv) (h := ?_)
        refine tk 6 (hy := (by first | exact fa | exact faE)) (h := ?_)
        refine tk 7 (hy := (by first | exact ld | exact ldE)) (h := ?_)
        refine tk 8 (hy := lenS) (h := ?_)
        refine one 9 (h := ?_)
        refine cl (hc := fun w hS => C_ref8_isJob j k p.jobs.length (by omega) (by omega) (hn.fn j hjm) (hn.wn j hjm) w (hS.get rdz_) (hS.get rdz_)) (h := fun b hb => ?_)
        refine nx (h := ?_)
        refine tk 10 (hy := notB) (h := ?_)
        refine dn (h := ?_)
        refine q_seq (h := ?_)
        refine cd (by exact rfl) (fun h11 => ?_) (fun h11 => ?_)
        · skip
          refine sq (h := ?_)
          refine rg (h := ?_)
          refine wy asg ?_
          refine WL.cut (by repeat (first | exact Cut.nil | apply Cut.hit | apply Cut.miss (by exact rfl))) ?_
          refine nl (h := ?_)
          refine q_seq (h := ?_)
          refine rtn (h := ?_)
          refine q_blk_ret (h := ?_)
          refine q_then_ret (h := ?_)
          refine q_then_ret (h := ?_)
          refine q_blk_ret (h := ?_)
          refine q_then_ret (h := ?_)
          refine q_ret (hR := ?_)
          first
            | exact fun w hS => ⟨0, fun _ => ⟨by omega, hre, by omega, by omega, fun k d g8 g9 => ⟨(hkD k d g8 g9).n, (hkD k d g8 g9).s⟩, hkJ⟩, rfl, hS.sub slz_⟩
            | exact fun w hS => ⟨80, fun g9 => absurd g9 (by decide), rfl, hS.sub slz_⟩
        · skip
          have hjo : JOk p.jobs.length k j := hb (by have g9 := h11; rwa [Bool.not_eq_false'] at g9)
          refine skp (h := ?_)
          refine q_blk_norm (h := ?_)
          refine q_seq (h := ?_)
          refine rg (h := ?_)
          refine wy mv ?_
          refine wy addI ?_
          refine wy asg ?_
          refine WL.cut (by repeat (first | exact Cut.nil | apply Cut.hit | apply Cut.miss (by exact rfl))) ?_
          refine nl (h := ?_)
          refine rn (x := k) (k + 1) ⟨hkn, fun i' j' g8 g9 => by
            by_cases e : i' = k
            · subst e; rw [hj] at g9; cases g9; exact hjo
            · exact hkJ i' j' (by omega) g9⟩ (by omega) sbz_ slz_
      · skip
        have hkn : k = p.jobs.length := by have := of_decide_eq_false h10; omega
        rw [hkn] at hkJ
        refine et (h := ?_)
        refine q_then_exit (h := ?_)
        refine q_then_exit (h := ?_)
        refine q_blk_hit (h := ?_)
        refine q_seq (h := ?_)
        refine sq (h := ?_)
        refine rg (h := ?_)
        refine wy asg ?_
        refine WL.cut (by repeat (first | exact Cut.nil | apply Cut.hit | apply Cut.miss (by exact rfl))) ?_
        refine nl (h := ?_)
        refine q_seq (h := ?_)
        refine rtn (h := ?_)
        refine q_ret (hR := ?_)
        first
          | exact fun w hS => ⟨0, fun _ => ⟨by omega, hre, by omega, by omega, fun k d g8 g9 => ⟨(hkD k d g8 g9).n, (hkD k d g8 g9).s⟩, hkJ⟩, rfl, hS.sub slz_⟩
          | exact fun w hS => ⟨80, fun g9 => absurd g9 (by decide), rfl, hS.sub slz_⟩
def hasB (l : List Se) (job : Int) : Bool := l.any fun t => decide (t.job = job)
theorem hasB_no {l : List Se} {job : Int} {k : Nat} {t : Se} (h : hasB (l.take k) job = false) (ht : l[k]? = some t) (hne : ¬ t.job = job) : hasB (l.take (k + 1)) job = false := by
  unfold hasB at h ⊢
  rw [List.take_add_one, ht, List.any_append, h]
  simp [hne]
theorem C_ref8_has (l : List Se) (job : Int) (A : Option Addr) (n c : Nat) (hn : n ≤ 9223372036854775807) (w : World) (h : Rd w A 3 n (encSe l)) : C0 Tryz.prog 54 [.slice A n c, .int .i64 job] w (.bool (hasB l job)) := by
  have hlen : l.length = n := by have := h.len; rwa [encSe_len] at this
  refine ⟨en Tryz.func54 Tryz.ntmps54 ((St.init w).share (e := .ro A 3 n (encSe l)) h rfl rfl rfl) (h := fun F => ?_)⟩
  refine sq (h := ?_)
  refine rg (h := ?_)
  refine wy asg ?_
  refine WL.cut (by repeat (first | exact Cut.nil | apply Cut.hit | apply Cut.miss (by exact rfl))) ?_
  refine nl (h := ?_)
  refine q_seq (h := ?_)
  refine sq (h := ?_)
  refine sq (h := ?_)
  refine rg (h := ?_)
  refine wy asg ?_
  refine WL.cut (by repeat (first | exact Cut.nil | apply Cut.hit | apply Cut.miss (by exact rfl))) ?_
  refine nl (h := ?_)
  refine q_seq (h := ?_)
  refine bk (h := ?_)
  refine lp (X := Nat) (I := fun k => k ≤ n ∧ hasB (l.take k) job = false) (le := fun k => [(0, .slice A n c), (1, .int .i64 job), (5, .int .i64 k)]) (Le := fun _ => [.ro A 3 n (encSe l)]) (μ := fun k => n - k) 0 ⟨Nat.zero_le _, rfl⟩ sbz_ slz_ (fun k hk => ?_)
  obtain ⟨hkL, hkH⟩ := hk
  refine sq (h := ?_)
  refine sq (h := ?_)
  refine rg (h := ?_)
  refine wy mv ?_
  refine wy mv ?_
  refine wy lenS ?_
  refine wy lss ?_
  refine nl (h := ?_)
  refine q_seq (h := ?_)
  refine cd (by exact rfl) (fun h0 => ?_) (fun h0 => ?_)
  · skip
    have hkn : k < n := by have := of_decide_eq_true h0; omega
    obtain ⟨t, ht⟩ : ∃ t, l[k]? = some t := ⟨_, List.getElem?_eq_getElem (by omega)⟩
    refine skp (h := ?_)
    refine q_seq (h := ?_)
    refine sq (h := ?_)
    refine bk (h := ?_)
    refine sq (h := ?_)
    refine rg (h := ?_)
    refine wy mv ?_
    refine wy mv ?_
    refine wy (ix (A := A) (m := n) (hb := by omega)) ?_
    refine wy (by first | exact fa | exact faE) ?_
    refine wy (ldE (A := A) (hk := encSe_at ht)) ?_
    refine wy mv ?_
    refine wy eql ?_
    refine nl (h := ?_)
    refine q_seq (h := ?_)
    refine cd (by exact rfl) (fun h1 => ?_) (fun h1 => ?_)
    · skip
      have hE : hasB l job = true := List.any_eq_true.2 ⟨t, List.mem_of_getElem? ht, h1⟩
      refine sq (h := ?_)
      refine rg (h := ?_)
      refine wy asg ?_
      refine WL.cut (by repeat (first | exact Cut.nil | apply Cut.hit | apply Cut.miss (by exact rfl))) ?_
      refine nl (h := ?_)
      refine q_seq (h := ?_)
      refine rtn (h := ?_)
      refine q_blk_ret (h := ?_)
      refine q_then_ret (h := ?_)
      refine q_then_ret (h := ?_)
      refine q_blk_ret (h := ?_)
      refine q_then_ret (h := ?_)
      refine q_ret (hR := ?_)
      rw [hE]
      exact fun w hS => ⟨rfl, hS.sub slz_⟩
    · skip
      have hkH2 := hasB_no hkH ht (of_decide_eq_false h1)
      refine skp (h := ?_)
      refine q_blk_norm (h := ?_)
      refine q_seq (h := ?_)
      refine rg (h := ?_)
      refine wy mv ?_
      refine wy addI ?_
      refine wy asg ?_
      refine WL.cut (by repeat (first | exact Cut.nil | apply Cut.hit | apply Cut.miss (by exact rfl))) ?_
      refine nl (h := ?_)
      refine rn (x := k) (k + 1) ⟨hkn, hkH2⟩ (by omega) sbz_ slz_
  · skip
    have hkn : k = n := by have := of_decide_eq_false h0; omega
    have hE : hasB l job = false := by rw [← hkH, hkn, ← hlen, List.take_length]
    refine et (h := ?_)
    refine q_then_exit (h := ?_)
    refine q_then_exit (h := ?_)
    refine q_blk_hit (h := ?_)
    refine q_seq (h := ?_)
    refine sq (h := ?_)
    refine rg (h := ?_)
    refine wy asg ?_
    refine WL.cut (by repeat (first | exact Cut.nil | apply Cut.hit | apply Cut.miss (by exact rfl))) ?_
    refine nl (h := ?_)
    refine q_seq (h := ?_)
    refine rtn (h := ?_)
    refine q_ret (hR := ?_)
    rw [hE]
    exact fun w hS => ⟨rfl, hS.sub slz_⟩
end Go.Proofs.YtmlhnajgiopfgaaGreat

namespace Go.Proofs.YtmlhnajgiopfgaaGreat
open Go Go.RowKit

theorem hasB_iff {l : List Se} {job : Int} : hasB l job = true ↔ ∃ t ∈ l, t.job = job := by
  unfold hasB
  rw [List.any_eq_true]
  exact ⟨fun ⟨t, h1, h2⟩ => ⟨t, h1, of_decide_eq_true h2⟩, fun ⟨t, h1, h2⟩ => ⟨t, h1, decide_eq_true h2⟩⟩
set_option maxRecDepth 100000 in
set_option maxHeartbeats 1000000 in
theorem C_ref8_MayCome (p : Pg) (hp : POk p) (l : List Se) (s : Se) (A : Option Addr) (n c : Nat) (hn : n ≤ 9223372036854775807) (w : World) (h : PgR w p) (hl : Rd w A 3 n (encSe l)) :
    CR Tryz.prog 32 [p.val, .slice A n c, s.val] w (fun b : Bool => b = true ↔ MayC p l s) (fun b => .bool b) (fun _ => []) := by
  have hlen : l.length = n := by have := hl.len; rwa [encSe_len] at this
  have hnd := hp.nd
  have hnj := hp.nj
  have hnc := hp.nc
  obtain ⟨d0, hd0⟩ : ∃ d, p.days[0]? = some d := ⟨_, List.getElem?_eq_getElem (by omega)⟩
  have hn0 := nc_first hd0
  refine ⟨en Tryz.func32 Tryz.ntmps32 ((((St.init w).share (e := .ro p.dA 1 p.days.length (encDy p.days)) h.d rfl rfl rfl).share (e := .ro p.jA 6 p.jobs.length (encJb p.jobs)) h.j rfl rfl rfl).share (e := .ro A 3 n (encSe l)) hl rfl rfl rfl) (h := fun F => ?_)⟩
  refine sq (h := ?_)
  refine rg (h := ?_)
  refine bxA (h := fun b0 => ?_)
  refine bxA (h := fun b1 => ?_)
  refine wy asg ?_
  refine WL.cut (by repeat (first | exact Cut.nil | apply Cut.hit | apply Cut.miss (by exact rfl))) ?_
  refine nl (h := ?_)
  refine q_seq (h := ?_)
  refine sq (h := ?_)
  refine sq (h := ?_)
  refine rgD0 (by kernel_rfl) (h := ?_)
  refine tk 0 (hy := (by first | exact fa | exact faE)) (h := ?_)
  refine tk 1 (hy := (by first | exact ld | exact ldE)) (h := ?_)
  refine tk 2 (hy := (by first | exact fa | exact faE)) (h := ?_)
  refine tk 3 (hy := (by first | exact ld | exact ldE)) (h := ?_)
  refine tk 4 (hy := lenS) (h := ?_)
  refine tk 5 (hy := subI (hb := by omega)) (h := ?_)
  refine one 6 (h := ?_)
  refine cl0 (hc := fun w hS => C_ref8_within s.job 0 ((p.jobs.length : Int) - 1) w) (h := ?_)
  refine nx (h := ?_)
  refine tk 7 (hy := notB) (h := ?_)
  refine tk 8 (hy := mv) (h := ?_)
  refine brH (g := 17) (by exact rfl) (fun hb0 => ?_) (fun hb0 => ?_)
  · skip
    have hno : ¬ MayC p l s := fun hm => by
      have g9 := hm.job
      have g8 : win s.job 0 ((p.jobs.length : Int) - 1) = true := win_iff.2 (by omega)
      have g7 := hb0
      rw [g8] at g7; exact absurd g7 (by decide)
    refine tkS 9 (h := ?_)
    refine tkS 10 (h := ?_)
    refine tkS 11 (h := ?_)
    refine tkS 12 (h := ?_)
    refine tk 13 (hy := (by first | exact pkT | exact pkF)) (h := ?_)
    refine tk 14 (hy := mv) (h := ?_)
    refine tkS 15 (h := ?_)
    refine tkS 16 (h := ?_)
    refine tkS 17 (h := ?_)
    refine tkS 18 (h := ?_)
    refine tkS 19 (h := ?_)
    refine tkS 20 (h := ?_)
    refine tkS 21 (h := ?_)
    refine tkS 22 (h := ?_)
    refine tkS 23 (h := ?_)
    refine tkS 24 (h := ?_)
    refine tkS 25 (h := ?_)
    refine tkS 26 (h := ?_)
    refine tkS 27 (h := ?_)
    refine tkS 28 (h := ?_)
    refine tkS 29 (h := ?_)
    refine tkS 30 (h := ?_)
    refine tk 31 (hy := (by first | exact pkT | exact pkF)) (h := ?_)
    refine tk 32 (hy := mv) (h := ?_)
    refine tkS 33 (h := ?_)
    refine tkS 34 (h := ?_)
    refine tkS 35 (h := ?_)
    refine tkS 36 (h := ?_)
    refine tkS 37 (h := ?_)
    refine tkS 38 (h := ?_)
    refine tkS 39 (h := ?_)
    refine tkS 40 (h := ?_)
    refine tkS 41 (h := ?_)
    refine tkS 42 (h := ?_)
    refine tk 43 (hy := (by first | exact pkT | exact pkF)) (h := ?_)
    refine dn (h := ?_)
    refine q_seq (h := ?_)
    refine cdT (h := ?_)
    first
      | have hno1 : ¬ MayC p l s := hno
      | (have hno : ¬ MayC p l s := fun hm => by
           have g9 := hm.court
           have g8 : win s.court 0 ((d0.sp.length : Int) - 1) = true := win_iff.2 (by omega)
           have g7 : (!win s.court 0 ((d0.sp.length : Int) - 1)) = true := by assumption
           rw [g8] at g7; exact absurd g7 (by decide))
    refine sq (h := ?_)
    refine rg (h := ?_)
    refine wy asg ?_
    refine WL.cut (by repeat (first | exact Cut.nil | apply Cut.hit | apply Cut.miss (by exact rfl))) ?_
    refine nl (h := ?_)
    refine q_seq (h := ?_)
    refine rtn (h := ?_)
    refine q_then_ret (h := ?_)
    refine q_ret (hR := ?_)
    first
      | exact fun w hS => ⟨false, ⟨fun h9 => (by cases h9), fun hm => absurd hm hno⟩, rfl, hS.sub slz_⟩
      | exact fun w hS => ⟨true, ⟨fun _ => ⟨by omega, fun t ht he => absurd (hw2.symm.trans (hasB_iff.2 ⟨t, ht, he⟩)) (by decide), by omega, fun j' hj' => by rw [hj] at hj'; cases hj'; omega, by omega, fun t ht => by
          obtain ⟨i', g8, e⟩ := List.mem_iff_getElem.1 ht
          exact hkD i' t (by omega) (by rw [List.getElem?_eq_getElem g8, e]), fun j' hj' x hx => by
          rw [hj] at hj'; cases hj'
          obtain ⟨i', g8, e⟩ := List.mem_iff_getElem.1 hx
          exact hasB_iff.1 (hiD i' x (by omega) (by rw [List.getElem?_eq_getElem g8, e]))⟩, fun _ => rfl⟩, rfl, hS.sub slz_⟩
  · skip
    have hw1 := win_no hb0
    obtain ⟨j, hj⟩ : ∃ j, p.jobs[s.job.toNat]? = some j := ⟨_, List.getElem?_eq_getElem (by omega)⟩
    have hjm := List.mem_of_getElem? hj
    have hjo := hp.jb _ j (by omega) hj
    have hjd := hjo.due
    refine tk 9 (hy := mv) (h := ?_)
    refine tk 10 (hy := (by first | exact fa | exact faE)) (h := ?_)
    refine tk 11 (hy := (by first | exact ld | exact ldE)) (h := ?_)
    refine one 12 (h := ?_)
    refine un (h := ?_)
    refine cl0 (hc := fun w hS => C_ref8_has l s.job A n c hn w (hS.get rdz_)) (h := ?_)
    refine nx (h := ?_)
    refine tk 13 (hy := (by first | exact pkT | exact pkF)) (h := ?_)
    refine tk 14 (hy := mv) (h := ?_)
    refine brH (g := 23) (by exact rfl) (fun hb2 => ?_) (fun hb2 => ?_)
    · skip
      have hno : ¬ MayC p l s := fun hm => by
        obtain ⟨t, ht, he⟩ := hasB_iff.1 (show hasB l s.job = true from hb2)
        exact hm.new t ht he
      refine tkS 15 (h := ?_)
      refine tkS 16 (h := ?_)
      refine tkS 17 (h := ?_)
      refine tkS 18 (h := ?_)
      refine tkS 19 (h := ?_)
      refine tkS 20 (h := ?_)
      refine tkS 21 (h := ?_)
      refine tkS 22 (h := ?_)
      refine tkS 23 (h := ?_)
      refine tkS 24 (h := ?_)
      refine tkS 25 (h := ?_)
      refine tkS 26 (h := ?_)
      refine tkS 27 (h := ?_)
      refine tkS 28 (h := ?_)
      refine tkS 29 (h := ?_)
      refine tkS 30 (h := ?_)
      refine tk 31 (hy := (by first | exact pkT | exact pkF)) (h := ?_)
      refine tk 32 (hy := mv) (h := ?_)
      refine tkS 33 (h := ?_)
      refine tkS 34 (h := ?_)
      refine tkS 35 (h := ?_)
      refine tkS 36 (h := ?_)
      refine tkS 37 (h := ?_)
      refine tkS 38 (h := ?_)
      refine tkS 39 (h := ?_)
      refine tkS 40 (h := ?_)
      refine tkS 41 (h := ?_)
      refine tkS 42 (h := ?_)
      refine tk 43 (hy := (by first | exact pkT | exact pkF)) (h := ?_)
      refine dn (h := ?_)
      refine q_seq (h := ?_)
      refine cdT (h := ?_)
      first
        | have hno1 : ¬ MayC p l s := hno
        | (have hno : ¬ MayC p l s := fun hm => by
             have g9 := hm.court
             have g8 : win s.court 0 ((d0.sp.length : Int) - 1) = true := win_iff.2 (by omega)
             have g7 : (!win s.court 0 ((d0.sp.length : Int) - 1)) = true := by assumption
             rw [g8] at g7; exact absurd g7 (by decide))
      refine sq (h := ?_)
      refine rg (h := ?_)
      refine wy asg ?_
      refine WL.cut (by repeat (first | exact Cut.nil | apply Cut.hit | apply Cut.miss (by exact rfl))) ?_
      refine nl (h := ?_)
      refine q_seq (h := ?_)
      refine rtn (h := ?_)
      refine q_then_ret (h := ?_)
      refine q_ret (hR := ?_)
      first
        | exact fun w hS => ⟨false, ⟨fun h9 => (by cases h9), fun hm => absurd hm hno⟩, rfl, hS.sub slz_⟩
        | exact fun w hS => ⟨true, ⟨fun _ => ⟨by omega, fun t ht he => absurd (hw2.symm.trans (hasB_iff.2 ⟨t, ht, he⟩)) (by decide), by omega, fun j' hj' => by rw [hj] at hj'; cases hj'; omega, by omega, fun t ht => by
            obtain ⟨i', g8, e⟩ := List.mem_iff_getElem.1 ht
            exact hkD i' t (by omega) (by rw [List.getElem?_eq_getElem g8, e]), fun j' hj' x hx => by
            rw [hj] at hj'; cases hj'
            obtain ⟨i', g8, e⟩ := List.mem_iff_getElem.1 hx
            exact hasB_iff.1 (hiD i' x (by omega) (by rw [List.getElem?_eq_getElem g8, e]))⟩, fun _ => rfl⟩, rfl, hS.sub slz_⟩
    · skip
      have hw2 : hasB l s.job = false := hb2
      refine tk 15 (hy := (by first | exact fa | exact faE)) (h := ?_)
      refine tk 16 (hy := (by first | exact ld | exact ldE)) (h := ?_)
      refine tk 17 (hy := (by first | exact fa | exact faE)) (h := ?_)
      refine tk 18 (hy := (by first | exact ld | exact ldE)) (h := ?_)
      refine tk 19 (hy := lenS) (h := ?_)
      refine tk 20 (hy := subI (hb := by omega)) (h := ?_)
      refine tk 21 (hy := (by first | exact fa | exact faE)) (h := ?_)
      refine tk 22 (hy := (by first | exact ld | exact ldE)) (h := ?_)
      refine tk 23 (hy := (by first | exact fa | exact faE)) (h := ?_)
      refine tk 24 (hy := (by first | exact ld | exact ldE)) (h := ?_)
      refine tk 25 (hy := ix (A := p.jA) (m := p.jobs.length) (hb := by omega)) (h := ?_)
      refine tk 26 (hy := (by first | exact fa | exact faE)) (h := ?_)
      refine tk 27 (hy := ldE (A := p.jA) (hk := encJb_at hj)) (h := ?_)
      refine tk 28 (hy := minI) (h := ?_)
      refine one 29 (h := ?_)
      refine un (h := ?_)
      refine cl0 (hc := fun w hS => C_ref8_within s.day 0 (min ((p.days.length : Int) - 1) j.due) w) (h := ?_)
      refine nx (h := ?_)
      refine tk 30 (hy := notB) (h := ?_)
      refine tk 31 (hy := (by first | exact pkT | exact pkF)) (h := ?_)
      refine tk 32 (hy := mv) (h := ?_)
      refine brH (g := 41) (by exact rfl) (fun hb4 => ?_) (fun hb4 => ?_)
      · skip
        have hno : ¬ MayC p l s := fun hm => by
          have g9 := hm.day
          have g6 := hm.due j hj
          have g8 : win s.day 0 (min ((p.days.length : Int) - 1) j.due) = true := win_iff.2 (by omega)
          have g7 := hb4
          rw [g8] at g7; exact absurd g7 (by decide)
        refine tkS 33 (h := ?_)
        refine tkS 34 (h := ?_)
        refine tkS 35 (h := ?_)
        refine tkS 36 (h := ?_)
        refine tkS 37 (h := ?_)
        refine tkS 38 (h := ?_)
        refine tkS 39 (h := ?_)
        refine tkS 40 (h := ?_)
        refine tkS 41 (h := ?_)
        refine tkS 42 (h := ?_)
        refine tk 43 (hy := (by first | exact pkT | exact pkF)) (h := ?_)
        refine dn (h := ?_)
        refine q_seq (h := ?_)
        refine cdT (h := ?_)
        first
          | have hno1 : ¬ MayC p l s := hno
          | (have hno : ¬ MayC p l s := fun hm => by
               have g9 := hm.court
               have g8 : win s.court 0 ((d0.sp.length : Int) - 1) = true := win_iff.2 (by omega)
               have g7 : (!win s.court 0 ((d0.sp.length : Int) - 1)) = true := by assumption
               rw [g8] at g7; exact absurd g7 (by decide))
        refine sq (h := ?_)
        refine rg (h := ?_)
        refine wy asg ?_
        refine WL.cut (by repeat (first | exact Cut.nil | apply Cut.hit | apply Cut.miss (by exact rfl))) ?_
        refine nl (h := ?_)
        refine q_seq (h := ?_)
        refine rtn (h := ?_)
        refine q_then_ret (h := ?_)
        refine q_ret (hR := ?_)
        first
          | exact fun w hS => ⟨false, ⟨fun h9 => (by cases h9), fun hm => absurd hm hno⟩, rfl, hS.sub slz_⟩
          | exact fun w hS => ⟨true, ⟨fun _ => ⟨by omega, fun t ht he => absurd (hw2.symm.trans (hasB_iff.2 ⟨t, ht, he⟩)) (by decide), by omega, fun j' hj' => by rw [hj] at hj'; cases hj'; omega, by omega, fun t ht => by
              obtain ⟨i', g8, e⟩ := List.mem_iff_getElem.1 ht
              exact hkD i' t (by omega) (by rw [List.getElem?_eq_getElem g8, e]), fun j' hj' x hx => by
              rw [hj] at hj'; cases hj'
              obtain ⟨i', g8, e⟩ := List.mem_iff_getElem.1 hx
              exact hasB_iff.1 (hiD i' x (by omega) (by rw [List.getElem?_eq_getElem g8, e]))⟩, fun _ => rfl⟩, rfl, hS.sub slz_⟩
      · skip
        have hw3 := win_no hb4
        refine tk 33 (hy := (by first | exact fa | exact faE)) (h := ?_)
        refine tk 34 (hy := (by first | exact ld | exact ldE)) (h := ?_)
        refine tk 35 (hy := (by first | exact fa | exact faE)) (h := ?_)
        refine tk 36 (hy := (by first | exact ld | exact ldE)) (h := ?_)
        refine tk 37 (hy := ix (A := p.dA) (m := p.days.length) (hb := by omega)) (h := ?_)
        refine tk 38 (hy := ldE (A := p.dA) (k := 0) (hk := encDy_at hd0)) (h := ?_)
        refine tk 39 (hy := lenS) (h := ?_)
        refine tk 40 (hy := subI (hb := by omega)) (h := ?_)
        refine one 41 (h := ?_)
        refine un (h := ?_)
        refine cl0 (hc := fun w hS => C_ref8_within s.court 0 ((d0.sp.length : Int) - 1) w) (h := ?_)
        refine nx (h := ?_)
        refine tk 42 (hy := notB) (h := ?_)
        refine tk 43 (hy := (by first | exact pkT | exact pkF)) (h := ?_)
        refine dn (h := ?_)
        refine q_seq (h := ?_)
        refine cd (by exact rfl) (fun h6 => ?_) (fun h6 => ?_)
        · skip
          first
            | have hno1 : ¬ MayC p l s := hno
            | (have hno : ¬ MayC p l s := fun hm => by
                 have g9 := hm.court
                 have g8 : win s.court 0 ((d0.sp.length : Int) - 1) = true := win_iff.2 (by omega)
                 have g7 : (!win s.court 0 ((d0.sp.length : Int) - 1)) = true := by assumption
                 rw [g8] at g7; exact absurd g7 (by decide))
          refine sq (h := ?_)
          refine rg (h := ?_)
          refine wy asg ?_
          refine WL.cut (by repeat (first | exact Cut.nil | apply Cut.hit | apply Cut.miss (by exact rfl))) ?_
          refine nl (h := ?_)
          refine q_seq (h := ?_)
          refine rtn (h := ?_)
          refine q_then_ret (h := ?_)
          refine q_ret (hR := ?_)
          first
            | exact fun w hS => ⟨false, ⟨fun h9 => (by cases h9), fun hm => absurd hm hno⟩, rfl, hS.sub slz_⟩
            | exact fun w hS => ⟨true, ⟨fun _ => ⟨by omega, fun t ht he => absurd (hw2.symm.trans (hasB_iff.2 ⟨t, ht, he⟩)) (by decide), by omega, fun j' hj' => by rw [hj] at hj'; cases hj'; omega, by omega, fun t ht => by
                obtain ⟨i', g8, e⟩ := List.mem_iff_getElem.1 ht
                exact hkD i' t (by omega) (by rw [List.getElem?_eq_getElem g8, e]), fun j' hj' x hx => by
                rw [hj] at hj'; cases hj'
                obtain ⟨i', g8, e⟩ := List.mem_iff_getElem.1 hx
                exact hasB_iff.1 (hiD i' x (by omega) (by rw [List.getElem?_eq_getElem g8, e]))⟩, fun _ => rfl⟩, rfl, hS.sub slz_⟩
        · skip
          have hw4 := win_no h6
          refine WC.old (h.f j hjm) ?_
          refine skp (h := ?_)
          refine q_seq (h := ?_)
          refine sq (h := ?_)
          refine sq (h := ?_)
          refine rg (h := ?_)
          refine wy asg ?_
          refine WL.cut (by repeat (first | exact Cut.nil | apply Cut.hit | apply Cut.miss (by exact rfl))) ?_
          refine nl (h := ?_)
          refine q_seq (h := ?_)
          refine bk (h := ?_)
          refine lp (X := Nat) (I := fun k => k ≤ n ∧ ∀ i t, i < k → l[i]? = some t → t.day ≤ s.day) (le := fun k => [(1, .slice A n c), (3, .pointer (some ⟨b0, 0, none⟩)), (5, .pointer (some ⟨b1, 0, none⟩)), (7, .int .i64 k)]) (Le := fun _ => [.blk b0 39 p.cells, .blk b1 48 s.cells, .ro p.jA 6 p.jobs.length (encJb p.jobs), .ro A 3 n (encSe l), .ro j.fA 1 j.af.length (enI j.af)]) (μ := fun k => n - k) 0 ⟨Nat.zero_le _, fun _ _ g9 => absurd g9 (Nat.not_lt_zero _)⟩ sbz_ slz_ (fun k hk => ?_)
          obtain ⟨hkL, hkD⟩ := hk
          refine sq (h := ?_)
          refine sq (h := ?_)
          refine rg (h := ?_)
          refine wy mv ?_
          refine wy mv ?_
          refine wy lenS ?_
          refine wy lss ?_
          refine nl (h := ?_)
          refine q_seq (h := ?_)
          refine cd (by exact rfl) (fun h7 => ?_) (fun h7 => ?_)
          · skip
            have hkn : k < n := by have := of_decide_eq_true h7; omega
            obtain ⟨t, ht⟩ : ∃ t, l[k]? = some t := ⟨_, List.getElem?_eq_getElem (by omega)⟩
            refine skp (h := ?_)
            refine q_seq (h := ?_)
            refine sq (h := ?_)
            refine bk (h := ?_)
            refine sq (h := ?_)
            refine rgD (by kernel_rfl) [(1000000, .blk b1 48 s.cells), (1000000, .ro A 3 n (encSe l))] (by repeat (first | exact HS.nil | (apply HS.keep; (repeat (first | exact At.here | apply At.there))) | (apply HS.ro; (repeat (first | exact Rds.ro | exact Rds.own | apply Rds.there))))) (h := ?_)
            refine tk 0 (hy := mv) (h := ?_)
            refine tk 1 (hy := mv) (h := ?_)
            refine tk 2 (hy := ix (A := A) (m := n) (hb := by omega)) (h := ?_)
            refine tk 3 (hy := (by first | exact fa | exact faE)) (h := ?_)
            refine tk 4 (hy := ldE (A := A) (hk := encSe_at ht)) (h := ?_)
            refine tk 5 (hy := (by first | exact fa | exact faE)) (h := ?_)
            refine tk 6 (hy := (by first | exact ld | exact ldE)) (h := ?_)
            refine tk 7 (hy := gtr) (h := ?_)
            refine dn (h := ?_)
            refine q_seq (h := ?_)
            refine cd (by exact rfl) (fun h8 => ?_) (fun h8 => ?_)
            · skip
              have hno : ¬ MayC p l s := fun hm => by
                have g9 := hm.days t (List.mem_of_getElem? ht)
                have g8 := of_decide_eq_true h8
                omega
              refine sq (h := ?_)
              refine rg (h := ?_)
              refine wy asg ?_
              refine WL.cut (by repeat (first | exact Cut.nil | apply Cut.hit | apply Cut.miss (by exact rfl))) ?_
              refine nl (h := ?_)
              refine q_seq (h := ?_)
              refine rtn (h := ?_)
              refine q_blk_ret (h := ?_)
              refine q_then_ret (h := ?_)
              refine q_then_ret (h := ?_)
              refine q_blk_ret (h := ?_)
              refine q_then_ret (h := ?_)
              refine q_ret (hR := ?_)
              first
                | exact fun w hS => ⟨false, ⟨fun h9 => (by cases h9), fun hm => absurd hm hno⟩, rfl, hS.sub slz_⟩
                | exact fun w hS => ⟨true, ⟨fun _ => ⟨by omega, fun t ht he => absurd (hw2.symm.trans (hasB_iff.2 ⟨t, ht, he⟩)) (by decide), by omega, fun j' hj' => by rw [hj] at hj'; cases hj'; omega, by omega, fun t ht => by
                    obtain ⟨i', g8, e⟩ := List.mem_iff_getElem.1 ht
                    exact hkD i' t (by omega) (by rw [List.getElem?_eq_getElem g8, e]), fun j' hj' x hx => by
                    rw [hj] at hj'; cases hj'
                    obtain ⟨i', g8, e⟩ := List.mem_iff_getElem.1 hx
                    exact hasB_iff.1 (hiD i' x (by omega) (by rw [List.getElem?_eq_getElem g8, e]))⟩, fun _ => rfl⟩, rfl, hS.sub slz_⟩
            · skip
              have htd : t.day ≤ s.day := by have := of_decide_eq_false h8; omega
              refine skp (h := ?_)
              refine q_blk_norm (h := ?_)
              refine q_seq (h := ?_)
              refine rg (h := ?_)
              refine wy mv ?_
              refine wy addI ?_
              refine wy asg ?_
              refine WL.cut (by repeat (first | exact Cut.nil | apply Cut.hit | apply Cut.miss (by exact rfl))) ?_
              refine nl (h := ?_)
              refine rn (x := k) (k + 1) ⟨hkn, fun i' t' g8 g9 => by
                by_cases e : i' = k
                · rw [e, ht] at g9; cases g9; exact htd
                · exact hkD i' t' (by omega) g9⟩ (by omega) sbz_ slz_
          · skip
            have hkn : k = n := by have := of_decide_eq_false h7; omega
            refine et (h := ?_)
            refine q_then_exit (h := ?_)
            refine q_then_exit (h := ?_)
            refine q_blk_hit (h := ?_)
            refine q_seq (h := ?_)
            refine sq (h := ?_)
            refine sq (h := ?_)
            refine rg (h := ?_)
            refine wy asg ?_
            refine WL.cut (by repeat (first | exact Cut.nil | apply Cut.hit | apply Cut.miss (by exact rfl))) ?_
            refine nl (h := ?_)
            refine q_seq (h := ?_)
            refine bk (h := ?_)
            refine lp (X := Nat) (I := fun i => i ≤ j.af.length ∧ ∀ i' x, i' < i → j.af[i']? = some x → hasB l x = true) (le := fun i => [(1, .slice A n c), (3, .pointer (some ⟨b0, 0, none⟩)), (5, .pointer (some ⟨b1, 0, none⟩)), (8, .int .i64 i)]) (Le := fun _ => [.blk b0 39 p.cells, .blk b1 48 s.cells, .ro p.jA 6 p.jobs.length (encJb p.jobs), .ro A 3 n (encSe l), .ro j.fA 1 j.af.length (enI j.af)]) (μ := fun i => j.af.length - i) 0 ⟨Nat.zero_le _, fun _ _ g9 => absurd g9 (Nat.not_lt_zero _)⟩ sbz_ slz_ (fun i hi => ?_)
            obtain ⟨hiL, hiD⟩ := hi
            refine sq (h := ?_)
            refine sq (h := ?_)
            refine rg (h := ?_)
            refine wy mv ?_
            refine wy (by first | exact fa | exact faE) ?_
            refine wy (by first | exact ld | exact ldE) ?_
            refine wy (by first | exact fa | exact faE) ?_
            refine wy (by first | exact ld | exact ldE) ?_
            refine wy (ix (A := p.jA) (m := p.jobs.length) (hb := by omega)) ?_
            refine wy (by first | exact fa | exact faE) ?_
            refine wy (ldE (A := p.jA) (hk := encJb_at hj)) ?_
            refine wy lenS ?_
            refine wy lss ?_
            refine nl (h := ?_)
            refine q_seq (h := ?_)
            refine cd (by exact rfl) (fun h9 => ?_) (fun h9 => ?_)
            · skip
              have hkn : i < j.af.length := by have := of_decide_eq_true h9; omega
              obtain ⟨x, hx⟩ : ∃ x, j.af[i]? = some x := ⟨_, List.getElem?_eq_getElem hkn⟩
              have hxe := enI_at hx
              have hfn := h.fn j hjm
              refine skp (h := ?_)
              refine q_seq (h := ?_)
              refine sq (h := ?_)
              refine bk (h := ?_)
              refine sq (h := ?_)
              refine rg (h := ?_)
              refine wy mv ?_
              refine wy (by first | exact fa | exact faE) ?_
              refine wy (by first | exact ld | exact ldE) ?_
              refine wy (by first | exact fa | exact faE) ?_
              refine wy (by first | exact ld | exact ldE) ?_
              refine wy (ix (A := p.jA) (m := p.jobs.length) (hb := by omega)) ?_
              refine wy (by first | exact fa | exact faE) ?_
              refine wy (ldE (A := p.jA) (hk := encJb_at hj)) ?_
              refine wy mv ?_
              refine wy (ix (A := j.fA) (m := j.af.length) (hb := by omega)) ?_
              refine wy (ldE (A := j.fA) (hk := hxe)) ?_
              refine cl0 (hc := fun w hS => C_ref8_has l x A n c hn w (hS.get rdz_)) (h := ?_)
              refine wy notB ?_
              refine nl (h := ?_)
              refine q_seq (h := ?_)
              refine cd (by exact rfl) (fun h10 => ?_) (fun h10 => ?_)
              · skip
                have hno : ¬ MayC p l s := fun hm => by
                  have g9 := hasB_iff.2 (hm.af j hj x (List.mem_of_getElem? hx))
                  have g7 := h10
                  rw [g9] at g7; exact absurd g7 (by decide)
                refine sq (h := ?_)
                refine rg (h := ?_)
                refine wy asg ?_
                refine WL.cut (by repeat (first | exact Cut.nil | apply Cut.hit | apply Cut.miss (by exact rfl))) ?_
                refine nl (h := ?_)
                refine q_seq (h := ?_)
                refine rtn (h := ?_)
                refine q_blk_ret (h := ?_)
                refine q_then_ret (h := ?_)
                refine q_then_ret (h := ?_)
                refine q_blk_ret (h := ?_)
                refine q_then_ret (h := ?_)
                refine q_ret (hR := ?_)
                first
                  | exact fun w hS => ⟨false, ⟨fun h9 => (by cases h9), fun hm => absurd hm hno⟩, rfl, hS.sub slz_⟩
                  | exact fun w hS => ⟨true, ⟨fun _ => ⟨by omega, fun t ht he => absurd (hw2.symm.trans (hasB_iff.2 ⟨t, ht, he⟩)) (by decide), by omega, fun j' hj' => by rw [hj] at hj'; cases hj'; omega, by omega, fun t ht => by
                      obtain ⟨i', g8, e⟩ := List.mem_iff_getElem.1 ht
                      exact hkD i' t (by omega) (by rw [List.getElem?_eq_getElem g8, e]), fun j' hj' x hx => by
                      rw [hj] at hj'; cases hj'
                      obtain ⟨i', g8, e⟩ := List.mem_iff_getElem.1 hx
                      exact hasB_iff.1 (hiD i' x (by omega) (by rw [List.getElem?_eq_getElem g8, e]))⟩, fun _ => rfl⟩, rfl, hS.sub slz_⟩
              · skip
                have hxh : hasB l x = true := by have g9 := h10; rwa [Bool.not_eq_false'] at g9
                refine skp (h := ?_)
                refine q_blk_norm (h := ?_)
                refine q_seq (h := ?_)
                refine rg (h := ?_)
                refine wy mv ?_
                refine wy addI ?_
                refine wy asg ?_
                refine WL.cut (by repeat (first | exact Cut.nil | apply Cut.hit | apply Cut.miss (by exact rfl))) ?_
                refine nl (h := ?_)
                refine rn (x := i) (i + 1) ⟨hkn, fun i' x' g8 g9 => by
                  by_cases e : i' = i
                  · rw [e, hx] at g9; cases g9; exact hxh
                  · exact hiD i' x' (by omega) g9⟩ (by omega) sbz_ slz_
            · skip
              have hkn2 : i = j.af.length := by have := of_decide_eq_false h9; omega
              refine et (h := ?_)
              refine q_then_exit (h := ?_)
              refine q_then_exit (h := ?_)
              refine q_blk_hit (h := ?_)
              refine q_seq (h := ?_)
              refine sq (h := ?_)
              refine rg (h := ?_)
              refine wy asg ?_
              refine WL.cut (by repeat (first | exact Cut.nil | apply Cut.hit | apply Cut.miss (by exact rfl))) ?_
              refine nl (h := ?_)
              refine q_seq (h := ?_)
              refine rtn (h := ?_)
              refine q_ret (hR := ?_)
              first
                | exact fun w hS => ⟨false, ⟨fun h9 => (by cases h9), fun hm => absurd hm hno⟩, rfl, hS.sub slz_⟩
                | exact fun w hS => ⟨true, ⟨fun _ => ⟨by omega, fun t ht he => absurd (hw2.symm.trans (hasB_iff.2 ⟨t, ht, he⟩)) (by decide), by omega, fun j' hj' => by rw [hj] at hj'; cases hj'; omega, by omega, fun t ht => by
                    obtain ⟨i', g8, e⟩ := List.mem_iff_getElem.1 ht
                    exact hkD i' t (by omega) (by rw [List.getElem?_eq_getElem g8, e]), fun j' hj' x hx => by
                    rw [hj] at hj'; cases hj'
                    obtain ⟨i', g8, e⟩ := List.mem_iff_getElem.1 hx
                    exact hasB_iff.1 (hiD i' x (by omega) (by rw [List.getElem?_eq_getElem g8, e]))⟩, fun _ => rfl⟩, rfl, hS.sub slz_⟩
set_option maxRecDepth 100000 in
theorem C_ref8_IsOrder (p : Pg) (hp : POk p) (o : List Se) (A : Option Addr) (n c : Nat) (hc : n ≤ c) (hn : c ≤ 9223372036854775807) (w : World) (h : PgR w p) (ho : Rd w A 3 n (encSe o)) :
    CR Tryz.prog 11 [p.val, .slice A n c] w (fun b : Bool => b = true ↔ OOk p o) (fun b => .bool b) (fun _ => []) := by
  have hlen : o.length = n := by have := ho.len; rwa [encSe_len] at this
  have hnj := hp.nj
  refine ⟨en Tryz.func11 Tryz.ntmps11 (((St.init w).share (e := .ro p.jA 6 p.jobs.length (encJb p.jobs)) h.j rfl rfl rfl).share (e := .ro A 3 n (encSe o)) ho rfl rfl rfl) (h := fun F => ?_)⟩
  refine sq (h := ?_)
  refine rg (h := ?_)
  refine bxA (h := fun b0 => ?_)
  refine wy asg ?_
  refine WL.cut (by repeat (first | exact Cut.nil | apply Cut.hit | apply Cut.miss (by exact rfl))) ?_
  refine nl (h := ?_)
  refine q_seq (h := ?_)
  refine sq (h := ?_)
  refine sq (h := ?_)
  refine rg (h := ?_)
  refine wy asg ?_
  refine WL.cut (by repeat (first | exact Cut.nil | apply Cut.hit | apply Cut.miss (by exact rfl))) ?_
  refine nl (h := ?_)
  refine q_seq (h := ?_)
  refine bk (h := ?_)
  refine lp (X := Nat) (I := fun k => k ≤ n ∧ ∀ i s, i < k → o[i]? = some s → MayC p (o.take i) s) (le := fun k => [(1, .slice A n c), (2, .pointer (some ⟨b0, 0, none⟩)), (5, .int .i64 k)]) (Le := fun _ => [.blk b0 39 p.cells, .ro p.jA 6 p.jobs.length (encJb p.jobs), .ro A 3 n (encSe o)]) (μ := fun k => n - k) 0 ⟨Nat.zero_le _, fun _ _ g9 => absurd g9 (Nat.not_lt_zero _)⟩ sbz_ slz_ (fun k hk => ?_)
  obtain ⟨hkL, hkM⟩ := hk
  refine sq (h := ?_)
  refine sq (h := ?_)
  refine rg (h := ?_)
  refine wy mv ?_
  refine wy mv ?_
  refine wy lenS ?_
  refine wy lss ?_
  refine nl (h := ?_)
  refine q_seq (h := ?_)
  refine cd (by exact rfl) (fun h0 => ?_) (fun h0 => ?_)
  · skip
    have hkn : k < n := by have := of_decide_eq_true h0; omega
    obtain ⟨s, hs⟩ : ∃ s, o[k]? = some s := ⟨_, List.getElem?_eq_getElem (by omega)⟩
    refine skp (h := ?_)
    refine q_seq (h := ?_)
    refine sq (h := ?_)
    refine bk (h := ?_)
    refine sq (h := ?_)
    refine WC.pre (A := A) (m := n) atz_ k hkL ?_
    rw [encSe_take]
    refine rgD0 (by kernel_rfl) (h := ?_)
    refine tk 0 (hy := (by first | exact ldA | exact ldEA)) (h := ?_)
    refine tk 1 (hy := mv) (h := ?_)
    refine tk 2 (hy := mv) (h := ?_)
    refine tk 3 (hy := slP (A := A) (m := n) (cap := c) (hi' := k) (hc := by omega)) (h := ?_)
    refine tk 4 (hy := mv) (h := ?_)
    refine tk 5 (hy := mv) (h := ?_)
    refine tk 6 (hy := ix (A := A) (m := n) (hb := by omega)) (h := ?_)
    refine tk 7 (hy := ldEW (A := A) (hk := encSe_at hs)) (h := ?_)
    refine one 8 (h := ?_)
    refine cl (hc := fun w hS => C_ref8_MayCome p hp (o.take k) s A k c (by omega) w (h.old hS) (hS.get rdz_)) (h := fun b hb => ?_)
    refine nx (h := ?_)
    refine tk 9 (hy := notB) (h := ?_)
    refine dn (h := ?_)
    refine q_seq (h := ?_)
    refine cd (by exact rfl) (fun h1 => ?_) (fun h1 => ?_)
    · skip
      have hno : ¬ OOk p o := fun hO => by
        have g9 := hb.2 (hO.at_ k s (by omega) hs)
        have g7 := h1
        rw [g9] at g7; exact absurd g7 (by decide)
      refine sq (h := ?_)
      refine rg (h := ?_)
      refine wy asg ?_
      refine WL.cut (by repeat (first | exact Cut.nil | apply Cut.hit | apply Cut.miss (by exact rfl))) ?_
      refine nl (h := ?_)
      refine q_seq (h := ?_)
      refine rtn (h := ?_)
      refine q_blk_ret (h := ?_)
      refine q_then_ret (h := ?_)
      refine q_then_ret (h := ?_)
      refine q_blk_ret (h := ?_)
      refine q_then_ret (h := ?_)
      refine q_ret (hR := ?_)
      first
        | exact fun w hS => ⟨false, ⟨fun h9 => (by cases h9), fun hm => absurd hm hno⟩, rfl, hS.sub slz_⟩
        | exact fun w hS => ⟨decide ((n : Int) = (p.jobs.length : Int)), ⟨fun g9 => ⟨by have := of_decide_eq_true g9; omega, fun i s g8 g7 => hkM i s (by omega) g7⟩, fun hO => decide_eq_true (by have := hO.n; omega)⟩, rfl, hS.sub slz_⟩
    · skip
      have hmc : MayC p (o.take k) s := hb.1 (by have g9 := h1; rwa [Bool.not_eq_false'] at g9)
      refine skp (h := ?_)
      refine q_blk_norm (h := ?_)
      refine q_seq (h := ?_)
      refine rg (h := ?_)
      refine wy mv ?_
      refine wy addI ?_
      refine wy asg ?_
      refine WL.cut (by repeat (first | exact Cut.nil | apply Cut.hit | apply Cut.miss (by exact rfl))) ?_
      refine nl (h := ?_)
      refine rn (x := k) (k + 1) ⟨hkn, fun i' s' g8 g9 => by
        by_cases e : i' = k
        · rw [e, hs] at g9; cases g9; rw [e]; exact hmc
        · exact hkM i' s' (by omega) g9⟩ (by omega) sbz_ slz_
  · skip
    have hkn : k = n := by have := of_decide_eq_false h0; omega
    refine et (h := ?_)
    refine q_then_exit (h := ?_)
    refine q_then_exit (h := ?_)
    refine q_blk_hit (h := ?_)
    refine q_seq (h := ?_)
    refine sq (h := ?_)
    refine rg (h := ?_)
    refine wy mv ?_
    refine wy lenS ?_
    refine wy (by first | exact fa | exact faE) ?_
    refine wy (by first | exact ld | exact ldE) ?_
    refine wy lenS ?_
    refine wy eql ?_
    refine wy asg ?_
    refine WL.cut (by repeat (first | exact Cut.nil | apply Cut.hit | apply Cut.miss (by exact rfl))) ?_
    refine nl (h := ?_)
    refine q_seq (h := ?_)
    refine rtn (h := ?_)
    refine q_ret (hR := ?_)
    first
      | exact fun w hS => ⟨false, ⟨fun h9 => (by cases h9), fun hm => absurd hm hno⟩, rfl, hS.sub slz_⟩
      | exact fun w hS => ⟨decide ((n : Int) = (p.jobs.length : Int)), ⟨fun g9 => ⟨by have := of_decide_eq_true g9; omega, fun i s g8 g7 => hkM i s (by omega) g7⟩, fun hO => decide_eq_true (by have := hO.n; omega)⟩, rfl, hS.sub slz_⟩
noncomputable def ordB (p : Pg) (o : List Se) : Bool := @decide (OOk p o) (Classical.propDecidable _)
theorem ordB_iff {p : Pg} {o : List Se} : ordB p o = true ↔ OOk p o := by
  unfold ordB
  exact ⟨fun h => @of_decide_eq_true _ (Classical.propDecidable _) h, fun h => @decide_eq_true _ (Classical.propDecidable _) h⟩
theorem C_ref8_IsOrderB (p : Pg) (hp : POk p) (o : List Se) (A : Option Addr) (n c : Nat) (hc : n ≤ c) (hn : c ≤ 9223372036854775807) (w : World) (h : PgR w p) (ho : Rd w A 3 n (encSe o)) : C0 Tryz.prog 11 [p.val, .slice A n c] w (.bool (ordB p o)) := by
  refine ⟨Calls.mono (C_ref8_IsOrder p hp o A n c hc hn w h ho).out fun e w' ⟨b, hb, he, hs⟩ => ⟨?_, hs⟩⟩
  rw [he]
  congr 2
  cases hq : ordB p o
  · cases b
    · rfl
    · exact absurd (ordB_iff.2 (hb.1 rfl)) (by rw [hq]; decide)
  · exact hb.2 (ordB_iff.1 hq)
end Go.Proofs.YtmlhnajgiopfgaaGreat

namespace Go.Proofs.YtmlhnajgiopfgaaGreat
open Go Go.RowKit

structure E8A where
  (dA s0 s1 jA fA oA : Option Addr) (dc c0 c1 jc fc oc : Nat)
abbrev exPg (a : E8A) : Pg := ⟨a.dA, a.dc, [⟨[(600, 900), (600, 780)], a.s0, a.c0⟩, ⟨[(600, 800), (600, 600)], a.s1, a.c1⟩], 30, a.jA, a.jc, [⟨(60, 120), [], none, 0, [], none, 0, 1, 0⟩, ⟨(60, 100), [], none, 0, [], none, 0, 1, 0⟩, ⟨(90, 150), [0, 1], a.fA, a.fc, [], none, 0, 1, 0⟩]⟩
abbrev exOr : List Se := [⟨0, 0, 0⟩, ⟨1, 0, 1⟩, ⟨2, 0, 0⟩]
theorem asc_nil (b : Int) : Asc [] b 0 := Asc.zero _ _
theorem ex8_p (a : E8A) : POk (exPg a) := by
  refine ⟨⟨of_decide_eq_true rfl, of_decide_eq_true rfl⟩, ⟨of_decide_eq_true rfl, of_decide_eq_true rfl⟩, of_decide_eq_true rfl, ⟨of_decide_eq_true rfl, of_decide_eq_true rfl⟩, fun k d hk hd => ?_, fun i j hi hj => ?_⟩
  · match k, hk with
    | 0, _ =>
      cases hd
      refine ⟨rfl, fun i s hi hs => ?_⟩
      match i, hi with
      | 0, _ => cases hs; exact of_decide_eq_true rfl
      | 1, _ => cases hs; exact of_decide_eq_true rfl
    | 1, _ =>
      cases hd
      refine ⟨rfl, fun i s hi hs => ?_⟩
      match i, hi with
      | 0, _ => cases hs; exact of_decide_eq_true rfl
      | 1, _ => cases hs; exact of_decide_eq_true rfl
  · match i, hi with
    | 0, _ => cases hj; exact ⟨of_decide_eq_true rfl, of_decide_eq_true rfl, of_decide_eq_true rfl, asc_nil _, asc_nil _, fun x hx => (by cases hx)⟩
    | 1, _ => cases hj; exact ⟨of_decide_eq_true rfl, of_decide_eq_true rfl, of_decide_eq_true rfl, asc_nil _, asc_nil _, fun x hx => (by cases hx)⟩
    | 2, _ =>
      cases hj
      refine ⟨of_decide_eq_true rfl, of_decide_eq_true rfl, of_decide_eq_true rfl, fun k x hk hx => ?_, asc_nil _, fun x hx => (by cases hx)⟩
      match k, hk with
      | 0, _ => cases hx; exact ⟨of_decide_eq_true rfl, of_decide_eq_true rfl, fun y h0 => absurd h0 (of_decide_eq_true rfl)⟩
      | 1, _ => cases hx; exact ⟨of_decide_eq_true rfl, of_decide_eq_true rfl, fun y _ hy => by cases hy; exact of_decide_eq_true rfl⟩
theorem ex8_o (a : E8A) : OOk (exPg a) exOr := by
  refine ⟨rfl, fun k s hk hs => ?_⟩
  match k, hk with
  | 0, _ =>
    cases hs
    exact ⟨of_decide_eq_true rfl, fun t ht => (by cases ht), of_decide_eq_true rfl, fun j hj => by cases hj; exact of_decide_eq_true rfl, of_decide_eq_true rfl, fun t ht => (by cases ht), fun j hj x hx => by cases hj; cases hx⟩
  | 1, _ =>
    cases hs
    refine ⟨of_decide_eq_true rfl, fun t ht => ?_, of_decide_eq_true rfl, fun j hj => by cases hj; exact of_decide_eq_true rfl, of_decide_eq_true rfl, fun t ht => ?_, fun j hj x hx => by cases hj; cases hx⟩
    · rw [List.mem_singleton.1 (show t ∈ [(⟨0, 0, 0⟩ : Se)] from ht)]; exact of_decide_eq_true rfl
    · rw [List.mem_singleton.1 (show t ∈ [(⟨0, 0, 0⟩ : Se)] from ht)]; exact of_decide_eq_true rfl
  | 2, _ =>
    cases hs
    have h2 : ∀ t ∈ exOr.take 2, t = ⟨0, 0, 0⟩ ∨ t = ⟨1, 0, 1⟩ := fun t ht => by
      rcases List.mem_cons.1 (show t ∈ [(⟨0, 0, 0⟩ : Se), ⟨1, 0, 1⟩] from ht) with h | h
      · exact .inl h
      · exact .inr (List.mem_singleton.1 h)
    refine ⟨of_decide_eq_true rfl, fun t ht => ?_, of_decide_eq_true rfl, fun j hj => by cases hj; exact of_decide_eq_true rfl, of_decide_eq_true rfl, fun t ht => ?_, fun j hj x hx => ?_⟩
    · rcases h2 t ht with rfl | rfl <;> exact of_decide_eq_true rfl
    · rcases h2 t ht with rfl | rfl <;> exact of_decide_eq_true rfl
    · cases hj
      rcases List.mem_cons.1 (show x ∈ [(0 : Int), 1] from hx) with rfl | hx
      · exact ⟨⟨0, 0, 0⟩, List.mem_cons_self, rfl⟩
      · rw [List.mem_singleton.1 hx]; exact ⟨⟨1, 0, 1⟩, List.mem_cons_of_mem _ List.mem_cons_self, rfl⟩
theorem ex8_run (a : E8A) : (runT (exPg a) hiG exOr).es = [720, 700, 900] := by rfl
theorem ex8_f (a : E8A) : FitI (exPg a) exOr := by
  intro i s d c hs hd hc
  rw [ex8_run]
  match i with
  | 0 => cases hs; cases hd; cases hc; exact of_decide_eq_true rfl
  | 1 => cases hs; cases hd; cases hc; exact of_decide_eq_true rfl
  | 2 => cases hs; cases hd; cases hc; exact of_decide_eq_true rfl
  | i + 3 => cases hs
theorem C_law8_Example (w : World) : CR Tryz.prog 19 [] w (fun _ : E8A => True) (fun a => .tuple #[(exPg a).val, .slice a.oA 3 a.oc]) (fun a => [.own a.dA a.dc 59 1 2 (encDy (exPg a).days), .own a.s0 a.c0 74 2 2 (encSn [(600, 900), (600, 780)]), .own a.s1 a.c1 74 2 2 (encSn [(600, 800), (600, 600)]), .own a.jA a.jc 80 6 3 (encJb (exPg a).jobs), .own a.fA a.fc 3 1 2 (enI [0, 1]), .own a.oA a.oc 48 3 3 (encSe exOr)]) := by
  refine ⟨en Tryz.func19 Tryz.ntmps19 (St.init w) (h := fun F => ?_)⟩
  refine sq (h := ?_)
  refine rg (h := ?_)
  refine al (h := fun b0 => ?_)
  refine wy asg ?_
  refine nl (h := ?_)
  refine q_seq (h := ?_)
  refine sq (h := ?_)
  refine rg (h := ?_)
  refine wy bd ?_
  refine wy bd ?_
  refine al (h := fun b1 => ?_)
  refine al (h := fun b2 => ?_)
  first | refine stA (h := ?_) | refine stEA (h := ?_)
  first | refine stA (h := ?_) | refine stEA (h := ?_)
  refine nl (h := ?_)
  refine q_seq (h := ?_)
  refine sq (h := ?_)
  refine rg (h := ?_)
  refine wy bd ?_
  refine wy bd ?_
  refine bs (h := fun b3 => ?_)
  refine wy bd ?_
  refine wy bd ?_
  refine bs (h := fun b4 => ?_)
  refine bs (h := fun b5 => ?_)
  refine wy (by first | exact ldA | exact ldEA) ?_
  refine wy bd ?_
  refine wy (by first | exact ldA | exact ldEA) ?_
  refine wy bd ?_
  refine wy bd ?_
  refine bs (h := fun b6 => ?_)
  refine wy bd ?_
  refine bs (h := fun b7 => ?_)
  refine wy bd ?_
  refine wy bd ?_
  refine wy bd ?_
  refine wy bd ?_
  refine bs (h := fun b8 => ?_)
  first | refine stA (h := ?_) | refine stEA (h := ?_)
  refine wy asg ?_
  refine nl (h := ?_)
  refine q_seq (h := ?_)
  refine rtn (h := ?_)
  refine q_ret (hR := ?_)
  exact fun w hS => ⟨⟨_, _, _, _, _, _, _, _, _, _, _, _⟩, trivial, rfl, hS.sub slz_⟩
theorem ex8_R {w : World} {a : E8A} (h1 : Rd w a.dA 1 2 (encDy (exPg a).days)) (h2 : Rd w a.jA 6 3 (encJb (exPg a).jobs)) (h3 : Rd w a.s0 2 2 (encSn [(600, 900), (600, 780)])) (h4 : Rd w a.s1 2 2 (encSn [(600, 800), (600, 600)])) (h5 : Rd w a.fA 1 2 (enI [0, 1])) : PgR w (exPg a) := by
  have hd : ∀ d ∈ (exPg a).days, d = ⟨[(600, 900), (600, 780)], a.s0, a.c0⟩ ∨ d = ⟨[(600, 800), (600, 600)], a.s1, a.c1⟩ := fun d hd => by
    rcases List.mem_cons.1 hd with h | h
    · exact .inl h
    · exact .inr (List.mem_singleton.1 h)
  have hj : ∀ j ∈ (exPg a).jobs, j = ⟨(60, 120), [], none, 0, [], none, 0, 1, 0⟩ ∨ j = ⟨(60, 100), [], none, 0, [], none, 0, 1, 0⟩ ∨ j = ⟨(90, 150), [0, 1], a.fA, a.fc, [], none, 0, 1, 0⟩ := fun j hj => by
    rcases List.mem_cons.1 hj with h | h
    · exact .inl h
    rcases List.mem_cons.1 h with h | h
    · exact .inr (.inl h)
    · exact .inr (.inr (List.mem_singleton.1 h))
  refine ⟨h1, h2, fun d h => ?_, fun j h => ?_, fun j h => ?_, of_decide_eq_true rfl, of_decide_eq_true rfl, fun d h => ?_, fun j h => ?_, fun j h => ?_⟩
  · rcases hd d h with rfl | rfl
    · exact h3
    · exact h4
  · rcases hj j h with rfl | rfl | rfl
    · exact Rd.nil w none 1
    · exact Rd.nil w none 1
    · exact h5
  · rcases hj j h with rfl | rfl | rfl
    · exact Rd.nil w none 1
    · exact Rd.nil w none 1
    · exact Rd.nil w none 1
  · rcases hd d h with rfl | rfl <;> exact of_decide_eq_true rfl
  · rcases hj j h with rfl | rfl | rfl <;> exact of_decide_eq_true rfl
  · rcases hj j h with rfl | rfl | rfl <;> exact of_decide_eq_true rfl
end Go.Proofs.YtmlhnajgiopfgaaGreat

namespace Go.Proofs.YtmlhnajgiopfgaaGreat
open Go Go.RowKit

def bitV (f : BitVec 64 → BitVec 64 → BitVec 64) (a b : Int) : Int := IntKind.i64.wrap (f (BitVec.ofInt 64 a) (BitVec.ofInt 64 b)).toNat
abbrev xorV := bitV (· ^^^ ·)
abbrev orV := bitV (· ||| ·)
abbrev andV := bitV (· &&& ·)
theorem bits_xor (a b : Int) : Op.intBits .xor .i64 a b = pure (.int .i64 (xorV a b)) := rfl
theorem bits_or (a b : Int) : Op.intBits .or .i64 a b = pure (.int .i64 (orV a b)) := rfl
theorem bits_and (a b : Int) : Op.intBits .and .i64 a b = pure (.int .i64 (andV a b)) := rfl
section
variable {P : Program} {n : Nat} {D : List Deferred} {l : Env} {w0 : World} {L : List Ent}
theorem shlI {x y : Operand} {a b : Int} {t u : TypeId} {yk : IntKind} (hx : ev l x = some (.int .i64 a) := by exact rfl) (hy : ev l y = some (.int yk b) := by exact rfl)
    (h0 : 0 ≤ b ∧ b ≤ 63 := by omega) (hb : -9223372036854775808 ≤ a * 2 ^ b.toNat ∧ a * 2 ^ b.toNat ≤ 9223372036854775807 := by omega) : Yd P n D l w0 L (.binOp .shl t x y u) (.int .i64 (a * 2 ^ b.toNat)) :=
  ⟨by simp, by simp, fun oo ho ac w hfr _ => by
    have hm : min b.toNat IntKind.i64.bits = b.toNat := Nat.min_eq_left (by show b.toNat ≤ 64; omega)
    simp only [execOp, ho, hfr.eval hx, hfr.eval hy]
    simp [eqGuard, binOp, shift_shl_any _ _ _ _ h0.1, hm, IntWalk.i64_in _ hb]⟩
theorem shrI {x y : Operand} {a b : Int} {t u : TypeId} {yk : IntKind} (hx : ev l x = some (.int .i64 a) := by exact rfl) (hy : ev l y = some (.int yk b) := by exact rfl)
    (h0 : 0 ≤ b ∧ b ≤ 63 := by omega) : Yd P n D l w0 L (.binOp .shr t x y u) (.int .i64 (a / 2 ^ b.toNat)) :=
  ⟨by simp, by simp, fun oo ho ac w hfr _ => by
    have hm : min b.toNat IntKind.i64.bits = b.toNat := Nat.min_eq_left (by show b.toNat ≤ 64; omega)
    simp only [execOp, ho, hfr.eval hx, hfr.eval hy]
    simp [eqGuard, binOp, shift_shr_any _ _ _ _ h0.1, hm]⟩
theorem xorI {x y : Operand} {a b : Int} {t u : TypeId} (hx : ev l x = some (.int .i64 a) := by exact rfl) (hy : ev l y = some (.int .i64 b) := by exact rfl) : Yd P n D l w0 L (.binOp .xor t x y u) (.int .i64 (xorV a b)) :=
  ⟨by simp, by simp, fun oo ho ac w hfr _ => by
    simp only [execOp, ho, hfr.eval hx, hfr.eval hy]
    simp [eqGuard, binOp, bits_xor]⟩
theorem orI {x y : Operand} {a b : Int} {t u : TypeId} (hx : ev l x = some (.int .i64 a) := by exact rfl) (hy : ev l y = some (.int .i64 b) := by exact rfl) : Yd P n D l w0 L (.binOp .or t x y u) (.int .i64 (orV a b)) :=
  ⟨by simp, by simp, fun oo ho ac w hfr _ => by
    simp only [execOp, ho, hfr.eval hx, hfr.eval hy]
    simp [eqGuard, binOp, bits_or]⟩
theorem andI {x y : Operand} {a b : Int} {t u : TypeId} (hx : ev l x = some (.int .i64 a) := by exact rfl) (hy : ev l y = some (.int .i64 b) := by exact rfl) : Yd P n D l w0 L (.binOp .and t x y u) (.int .i64 (andV a b)) :=
  ⟨by simp, by simp, fun oo ho ac w hfr _ => by
    simp only [execOp, ho, hfr.eval hx, hfr.eval hy]
    simp [eqGuard, binOp, bits_and]⟩
theorem wrapU {a : Int} (h : 0 ≤ a ∧ a ≤ 1000) : IntKind.u64.wrap a = a := by simp [IntKind.wrap, IntKind.bits, IntKind.signed]; omega
theorem cvU {x : Operand} {s t : TypeId} {k' : IntKind} {a : Int} (hx : ev l x = some (.int k' a) := by exact rfl) (h : 0 ≤ a ∧ a ≤ 1000 := by omega) (hs : (P.underlying s).isSome = true := by kernel_rfl) (hd : P.underlying t = some (.int .u64) := by kernel_rfl) : Yd P n D l w0 L (.convert s t x) (.int .u64 a) :=
  cvI (hx := hx) (hs := hs) (hd := hd) (hw := wrapU h)
theorem addW {x y : Operand} {a b : Int} {t u : TypeId} (hx : ev l x = some (.int .i64 a) := by exact rfl) (hy : ev l y = some (.int .i64 b) := by exact rfl) : Yd P n D l w0 L (.binOp .add t x y u) (.int .i64 (IntKind.i64.wrap (a + b))) :=
  ⟨by simp, by simp, fun oo ho ac w hfr _ => by simp [execOp, ho, hfr.eval hx, hfr.eval hy, eqGuard_add, binOp_add, Op.intArith]⟩
end
theorem wrap_nat {n : Nat} (h : n < 2 ^ 63) : IntKind.i64.wrap (n : Int) = n := IntWalk.i64_in _ (by omega)
theorem bit_nat {f : BitVec 64 → BitVec 64 → BitVec 64} {g : Nat → Nat → Nat} (hf : ∀ a b, (f a b).toNat = g a.toNat b.toNat) (hg : ∀ {a b : Nat}, a < 2 ^ 63 → b < 2 ^ 63 → g a b < 2 ^ 63) {a b : Nat} (ha : a < 2 ^ 63) (hb : b < 2 ^ 63) : bitV f (a : Int) (b : Int) = (g a b : Nat) := by
  unfold bitV
  rw [BitVec.ofInt_natCast, BitVec.ofInt_natCast, hf, BitVec.toNat_ofNat, BitVec.toNat_ofNat, Nat.mod_eq_of_lt (by omega), Nat.mod_eq_of_lt (by omega)]
  exact wrap_nat (hg ha hb)
theorem or_nat {a b : Nat} (ha : a < 2 ^ 63) (hb : b < 2 ^ 63) : orV (a : Int) (b : Int) = (a ||| b : Nat) := bit_nat (fun a b => BitVec.toNat_or ..) (fun h1 h2 => Nat.or_lt_two_pow h1 h2) ha hb
theorem and_nat {a b : Nat} (ha : a < 2 ^ 63) (hb : b < 2 ^ 63) : andV (a : Int) (b : Int) = (a &&& b : Nat) := bit_nat (fun a b => BitVec.toNat_and ..) (fun _ h2 => Nat.and_lt_two_pow _ h2) ha hb
theorem xor_nat {a b : Nat} (ha : a < 2 ^ 63) (hb : b < 2 ^ 63) : xorV (a : Int) (b : Int) = (a ^^^ b : Nat) := bit_nat (fun a b => BitVec.toNat_xor ..) (fun h1 h2 => Nat.xor_lt_two_pow h1 h2) ha hb
def twin (i : Nat) : Nat := if i % 2 = 0 then i + 1 else i - 1
theorem xor_one : ∀ {i : Nat}, i < 64 → i ^^^ 1 = twin i := by decide
theorem xorV_one {i : Nat} (h : i < 64) : xorV (i : Int) 1 = (twin i : Nat) := by
  have := xor_nat (a := i) (b := 1) (by omega) (by omega)
  rw [xor_one h] at this
  exact this
theorem bit_has (d j : Nat) (hd : d < 64) (hj : j < 6) : andV ((d : Int) / 2 ^ j) 1 = bif d.testBit j then 1 else 0 := by
  have h1 : (d : Int) / 2 ^ j = ((d / 2 ^ j : Nat) : Int) := by simp
  have h2 : d / 2 ^ j < 2 ^ 63 := Nat.lt_of_le_of_lt (Nat.div_le_self ..) (by omega)
  rw [h1]
  have := and_nat (a := d / 2 ^ j) (b := 1) h2 (by omega)
  rw [show (1 : Int) = ((1 : Nat) : Int) from rfl, this]
  have h3 : ∀ d, d < 64 → ∀ j, j < 6 → (d / 2 ^ j) &&& 1 = bif d.testBit j then 1 else 0 := by decide
  rw [h3 d hd j hj]
  cases d.testBit j <;> rfl
theorem bit_put (d j : Nat) (hd : d < 64) (hj : j < 6) : orV (d : Int) (1 * 2 ^ j) = (d ||| 2 ^ j : Nat) := by
  have h2 : 2 ^ j < 2 ^ 63 := Nat.pow_lt_pow_right (by omega) (by omega)
  have := or_nat (a := d) (b := 2 ^ j) (by omega) h2
  rw [show (1 : Int) * 2 ^ j = ((2 ^ j : Nat) : Int) by simp]
  exact this
theorem put_bit (d j i : Nat) : (d ||| 2 ^ j).testBit i = if i = j then true else d.testBit i := by
  rw [Nat.testBit_or, Nat.testBit_two_pow]
  by_cases h : j = i
  · rw [if_pos h.symm]; simp [h]
  · rw [if_neg (fun e => h e.symm)]; simp [h]
theorem all_bits : ∀ {n d : Nat}, n ≤ 6 → d < 2 ^ n → (∀ k, k < n → d.testBit k = true) → d = 2 ^ n - 1 := by
  intro n d _ hd h
  refine Nat.eq_of_testBit_eq fun i => ?_
  rw [Nat.testBit_two_pow_sub_one]
  by_cases hi : i < n
  · rw [h i hi, decide_eq_true hi]
  · rw [decide_eq_false hi]
    exact Nat.testBit_lt_two_pow (Nat.lt_of_lt_of_le hd (Nat.pow_le_pow_right (by omega) (by omega)))
end Go.Proofs.YtmlhnajgiopfgaaGreat

namespace Go.Proofs.YtmlhnajgiopfgaaGreat
open Go Go.RowKit

structure Sl where
  (kind round place player old : Int)
  deriving DecidableEq
abbrev Sl.cells (s : Sl) : List Value := [.int .i64 s.kind, .int .i64 s.round, .int .i64 s.place, .int .i64 s.player, .int .i64 s.old]
abbrev Sl.val (s : Sl) : Value := .agg #[.int .i64 s.kind, .int .i64 s.round, .int .i64 s.place, .int .i64 s.player, .int .i64 s.old]
def encSl (l : List Sl) : List (List Value) := l.map Sl.cells
theorem encSl_at {l : List Sl} {k : Nat} {s : Sl} (h : l[k]? = some s) : (encSl l)[k]? = some s.cells := by unfold encSl; rw [List.getElem?_map, h]; rfl
theorem encSl_snoc (l : List Sl) (s : Sl) : encSl (l ++ [s]) = encSl l ++ [s.cells] := by unfold encSl; rw [List.map_append]; rfl
structure Tre where
  (R : Int) (A : Option Addr) (c : Nat) (sl : List Int)
abbrev Tre.val (t : Tre) : Value := .agg #[.int .i64 t.R, .slice t.A t.sl.length t.c]
abbrev Tre.cells (t : Tre) : List Value := [.int .i64 t.R, .slice t.A t.sl.length t.c]
def Tre.sz (t : Tre) (r : Int) : Int := 2 ^ (t.R - 1 - r).toNat
structure TOk (t : Tre) : Prop where
  r : 1 ≤ t.R ∧ t.R ≤ 5
  n : t.sl.length = 2 ^ t.R.toNat
  rng : ∀ (i : Nat) (x : Int), t.sl[i]? = some x → -1 ≤ x ∧ x ≤ 999
  nb : ∀ (i : Nat), t.sl[2 * i]? = some (-1) → t.sl[2 * i + 1]? = some (-1) → False
  inj : ∀ (i k : Nat) (x : Int), t.sl[i]? = some x → t.sl[k]? = some x → x ≠ -1 → i = k
def matchB (t : Tre) (r p : Int) : Bool := win r 0 (t.R - 1) && win p 0 (t.sz r - 1)
def slpB (t : Tre) (s : Sl) : Bool := win s.player 0 999 && (bif decide (s.kind = 5) then (decide (s.round = 0) && win s.place 0 (t.sl.length - 1)) && win s.old 0 999
  else ((win s.kind 1 4 && matchB t s.round s.place) && decide (s.old = 0)) && (decide (0 < s.round) || (!decide (t.sl.getD (2 * s.place).toNat 0 = -1) && !decide (t.sl.getD (2 * s.place + 1).toNat 0 = -1))))
def addO (o : List Sl) (x : Sl) : List Sl := if x ∈ o then o else o ++ [x]
def onceL (l : List Sl) : List Sl := l.foldl addO []
theorem once_snoc (l : List Sl) (x : Sl) : onceL (l ++ [x]) = addO (onceL l) x := by unfold onceL; rw [List.foldl_append]; rfl
theorem mem_addO {o : List Sl} {x y : Sl} : y ∈ addO o x ↔ y ∈ o ∨ y = x := by
  unfold addO
  split
  · next h => exact ⟨.inl, fun h2 => h2.elim id fun e => e ▸ h⟩
  · rw [List.mem_append, List.mem_singleton]
theorem mem_fold {x : Sl} : ∀ (l o : List Sl), x ∈ l.foldl addO o ↔ x ∈ o ∨ x ∈ l
  | [], o => by simp
  | y :: l, o => by
    rw [List.foldl_cons, mem_fold l, mem_addO, List.mem_cons, or_assoc]
theorem mem_once {l : List Sl} {x : Sl} : x ∈ onceL l ↔ x ∈ l := by
  unfold onceL
  rw [mem_fold]; simp
theorem addO_len (o : List Sl) (x : Sl) : (addO o x).length ≤ o.length + 1 := by
  unfold addO
  split
  · omega
  · rw [List.length_append]; exact Nat.le_refl _
theorem fold_len : ∀ (l o : List Sl), (l.foldl addO o).length ≤ o.length + l.length
  | [], o => Nat.le_refl _
  | x :: l, o => by
    have := fold_len l (addO o x)
    have := addO_len o x
    rw [List.foldl_cons, List.length_cons]; omega
theorem once_len (l : List Sl) : (onceL l).length ≤ l.length := by
  have := fold_len l []
  rw [List.length_nil, Nat.zero_add] at this
  exact this
theorem addO_nodup {o : List Sl} {x : Sl} (h : o.Nodup) : (addO o x).Nodup := by
  unfold addO
  split
  · exact h
  · next hx =>
    rw [List.nodup_append]
    exact ⟨h, by simp, fun a ha b hb => by rw [List.mem_singleton] at hb; subst hb; exact fun e => hx (e ▸ ha)⟩
theorem fold_nodup : ∀ (l o : List Sl), o.Nodup → (l.foldl addO o).Nodup
  | [], _, h => h
  | x :: l, o, h => by rw [List.foldl_cons]; exact fold_nodup l _ (addO_nodup h)
theorem once_nodup (l : List Sl) : (onceL l).Nodup := fold_nodup l [] List.nodup_nil

def candB (i now : Int) (s : Sl) : Bool := (decide (s.kind = 5) && decide (s.place = i)) && decide (s.old = now)
def cand (all : List Sl) (i now : Int) : List Int := (all.filter (candB i now)).map (·.player)
structure CSt where
  (now : Int) (ever : List Int) (used : Int)
abbrev CSt.nxt (s : CSt) (x : Int) : CSt := ⟨x, s.ever ++ [x], s.used + 1⟩
def chainF (all : List Sl) (i : Int) : Nat → CSt → Option CSt
  | 0, _ => none
  | n + 1, s => match cand all i s.now with
    | [] => some s
    | [x] => if x ∈ s.ever then none else chainF all i n (s.nxt x)
    | _ => none
def missN (all : List Sl) (ever : List Int) : Nat := (all.filter fun s => !decide (s.player ∈ ever)).length
theorem cand_mem {all : List Sl} {i now x : Int} (h : x ∈ cand all i now) : ∃ s ∈ all, s.kind = 5 ∧ s.place = i ∧ s.old = now ∧ s.player = x := by
  unfold cand at h
  obtain ⟨s, hs, rfl⟩ := List.mem_map.1 h
  obtain ⟨h1, h2⟩ := List.mem_filter.1 hs
  unfold candB at h2
  simp only [Bool.and_eq_true, decide_eq_true_eq] at h2
  exact ⟨s, h1, h2.1.1, h2.1.2, h2.2, rfl⟩
theorem filter_lt {p q : Sl → Bool} {s : Sl} : ∀ {l : List Sl}, (∀ x, q x = true → p x = true) → s ∈ l → p s = true → q s = false → (l.filter q).length < (l.filter p).length
  | [], _, h, _, _ => by cases h
  | y :: l, hpq, h, h1, h2 => by
    have hle : ∀ l : List Sl, (l.filter q).length ≤ (l.filter p).length := fun l => by
      induction l with
      | nil => exact Nat.le_refl _
      | cons z l ih =>
        rw [List.filter_cons, List.filter_cons]
        cases e : q z
        · rw [if_neg (by decide)]
          split
          · rw [List.length_cons]; omega
          · exact ih
        · rw [if_pos rfl, if_pos (hpq z e), List.length_cons, List.length_cons]; omega
    rw [List.filter_cons, List.filter_cons]
    rcases List.mem_cons.1 h with rfl | h
    · rw [if_pos h1, if_neg (by rw [h2]; decide), List.length_cons]
      have := hle l
      omega
    · have ih := filter_lt hpq h h1 h2
      cases e : q y
      · rw [if_neg (by decide)]
        split
        · rw [List.length_cons]; omega
        · exact ih
      · rw [if_pos rfl, if_pos (hpq y e), List.length_cons, List.length_cons]; omega
theorem miss_lt {all : List Sl} {i now x : Int} {ever : List Int} (h : x ∈ cand all i now) (hx : ¬ x ∈ ever) : missN all (ever ++ [x]) < missN all ever := by
  obtain ⟨s, hs, -, -, -, rfl⟩ := cand_mem h
  refine filter_lt (s := s) (fun y hy => ?_) hs ?_ ?_
  · simp only [Bool.not_eq_true', decide_eq_false_iff_not, List.mem_append, not_or] at hy ⊢
    exact hy.1
  · simp [hx]
  · simp
theorem chainF_fuel (all : List Sl) (i : Int) : ∀ (n m : Nat) (s : CSt), missN all s.ever < n → missN all s.ever < m → chainF all i n s = chainF all i m s
  | 0, _, _, h, _ => by omega
  | _, 0, _, _, h => by omega
  | n + 1, m + 1, s, h1, h2 => by
    rw [chainF, chainF]
    match e : cand all i s.now with
    | [] => rfl
    | [x] =>
      dsimp only
      split
      · rfl
      · next hx =>
        have := miss_lt (all := all) (i := i) (now := s.now) (x := x) (by rw [e]; simp) hx
        exact chainF_fuel all i n m _ (by show missN all (s.ever ++ [x]) < n; omega) (by show missN all (s.ever ++ [x]) < m; omega)
    | _ :: _ :: _ => rfl
def chain (all : List Sl) (i : Int) (s : CSt) : Option CSt := chainF all i (missN all s.ever + 1) s
theorem chain_nil {all : List Sl} {i : Int} {s : CSt} (h : cand all i s.now = []) : chain all i s = some s := by unfold chain; rw [chainF, h]
theorem chain_old {all : List Sl} {i x : Int} {s : CSt} (h : cand all i s.now = [x]) (hx : x ∈ s.ever) : chain all i s = none := by unfold chain; rw [chainF, h]; exact if_pos hx
theorem chain_new {all : List Sl} {i x : Int} {s : CSt} (h : cand all i s.now = [x]) (hx : ¬ x ∈ s.ever) : chain all i s = chain all i (s.nxt x) := by
  unfold chain
  rw [chainF, h]
  dsimp only
  rw [if_neg hx]
  have := miss_lt (all := all) (i := i) (now := s.now) (x := x) (by rw [h]; simp) hx
  exact chainF_fuel all i _ _ _ (by show missN all (s.ever ++ [x]) < _; omega) (by show missN all (s.ever ++ [x]) < missN all (s.ever ++ [x]) + 1; omega)
theorem chain_many {all : List Sl} {i : Int} {s : CSt} (h : 1 < (cand all i s.now).length) : chain all i s = none := by
  unfold chain
  rw [chainF]
  match e : cand all i s.now with
  | [] => rw [e] at h; simp at h
  | [x] => rw [e] at h; simp at h
  | _ :: _ :: _ => rfl
structure PSt where
  (out ever : List Int) (used : Int)
def plG (all : List Sl) (sl : List Int) : Nat → Option PSt
  | 0 => some ⟨[], sl, 0⟩
  | k + 1 => match plG all sl k with
    | none => none
    | some q => match chain all k ⟨sl.getD k 0, q.ever, q.used⟩ with
      | none => none
      | some s => some ⟨q.out ++ [s.now], s.ever, s.used⟩
def luckyN (all : List Sl) : Int := ((all.filter fun s => decide (s.kind = 5)).length : Nat)
def playersV (t : Tre) (l : List Sl) : Option (List Int) := match plG (onceL l) t.sl t.sl.length with
  | none => none
  | some q => if q.used = luckyN (onceL l) then some q.out else none

abbrev MM := Nat → Nat → Int
def mustB (sl : List Int) : MM := fun r p => if r = 0 then (bif decide (sl.getD (2 * p + 1) 0 = -1) then sl.getD (2 * p) 0 else bif decide (sl.getD (2 * p) 0 = -1) then sl.getD (2 * p + 1) 0 else -2) else -2
def upM (M : MM) (r p : Nat) (v : Int) : MM := fun r' p' => if r' = r ∧ p' = p then v else M r' p'
def winM (M : MM) (at_ : Nat) (x : Int) : Nat → Option MM
  | 0 => some M
  | k + 1 => match winM M at_ x k with
    | none => none
    | some M' => if M' k (at_ / 2 ^ (k + 1)) ≠ -2 ∧ M' k (at_ / 2 ^ (k + 1)) ≠ x then none else some (upM M' k (at_ / 2 ^ (k + 1)) x)
def lastIx (sl : List Int) (x : Int) : Nat → Int
  | 0 => -1
  | k + 1 => if sl.getD k 0 = x then k else lastIx sl x k
def sameM (x y : Sl) : Bool := (!decide (y.kind = 5) && decide (y.round = x.round)) && decide (y.place = x.place)
def slipM (all : List Sl) (sl : List Int) (i : Nat) (x : Sl) (M : MM) : Option MM :=
  if x.kind = 5 then some M else if (all.take i).any (sameM x) = true then none
  else if lastIx sl x.player sl.length < 0 ∨ ¬ lastIx sl x.player sl.length / 2 ^ (x.round + 1).toNat = x.place then none
  else winM M (lastIx sl x.player sl.length).toNat x.player (x.round.toNat + 1)
def drM (all : List Sl) (sl : List Int) : Nat → Option MM
  | 0 => some (mustB sl)
  | k + 1 => match drM all sl k with
    | none => none
    | some M => match all[k]? with
      | none => none
      | some x => slipM all sl k x M
structure Dr where
  (sl : List Int) (M : MM)
def drawV (t : Tre) (l : List Sl) : Option Dr := match playersV t l with
  | none => none
  | some sl => (drM (onceL l) sl (onceL l).length).map fun M => ⟨sl, M⟩
structure Agr (t : Tre) (l : List Sl) (d : Dr) : Prop where
  tr : TOk t
  n : l.length ≤ 60
  s : ∀ x ∈ l, slpB t x = true
  d : drawV t l = some d
end Go.Proofs.YtmlhnajgiopfgaaGreat

namespace Go.Proofs.YtmlhnajgiopfgaaGreat
open Go Go.RowKit

structure ChO (all : List Sl) (s s' : CSt) : Prop where
  now : s'.now = s.now ∨ (¬ s'.now ∈ s.ever ∧ s'.now ∈ s'.ever ∧ (∃ x ∈ all, x.kind = 5 ∧ x.player = s'.now) ∧ ∃ x ∈ all, x.kind = 5 ∧ x.old = s.now)
  sub : ∀ x ∈ s.ever, x ∈ s'.ever
theorem chainF_ok (all : List Sl) (i : Int) : ∀ (n : Nat) (s s' : CSt), chainF all i n s = some s' → ChO all s s'
  | 0, _, _, h => by cases h
  | n + 1, s, s', h => by
    rw [chainF] at h
    match e : cand all i s.now with
    | [] => rw [e] at h; cases h; exact ⟨.inl rfl, fun _ h => h⟩
    | [x] =>
      rw [e] at h
      dsimp only at h
      split at h
      · cases h
      · next hx =>
        have ih := chainF_ok all i n _ _ h
        obtain ⟨y, hy1, hy2, -, hy3, hy4⟩ := cand_mem (all := all) (i := i) (now := s.now) (x := x) (by rw [e]; simp)
        refine ⟨.inr ?_, fun z hz => ih.sub z (List.mem_append_left _ hz)⟩
        rcases ih.now with h1 | ⟨h1, h2, h3, -⟩
        · rw [h1]
          exact ⟨hx, ih.sub x (List.mem_append_right _ (by simp)), ⟨y, hy1, hy2, hy4⟩, y, hy1, hy2, hy3⟩
        · exact ⟨fun h4 => h1 (List.mem_append_left _ h4), h2, h3, y, hy1, hy2, hy3⟩
    | _ :: _ :: _ => rw [e] at h; cases h
theorem chain_ok {all : List Sl} {i : Int} {s s' : CSt} (h : chain all i s = some s') : ChO all s s' := chainF_ok all i _ s s' h
theorem getD_lt {l : List Int} {i : Nat} (h : i < l.length) : l.getD i 0 = l[i] := by rw [List.getD_eq_getElem?_getD, List.getElem?_eq_getElem h]; rfl
theorem getD_mem {l : List Int} {i : Nat} (h : i < l.length) : l.getD i 0 ∈ l := by rw [getD_lt h]; exact List.getElem_mem h
theorem getD_snoc_lt {l : List Int} {x : Int} {i : Nat} (h : i < l.length) : (l ++ [x]).getD i 0 = l.getD i 0 := by rw [List.getD_eq_getElem?_getD, List.getElem?_append_left h, List.getD_eq_getElem?_getD]
theorem getD_snoc_eq {l : List Int} {x : Int} : (l ++ [x]).getD l.length 0 = x := by rw [List.getD_eq_getElem?_getD, List.getElem?_append_right (Nat.le_refl _), Nat.sub_self]; rfl
structure PlI (all : List Sl) (sl : List Int) (k : Nat) (q : PSt) : Prop where
  n : q.out.length = k
  sub : ∀ x ∈ sl, x ∈ q.ever
  ever : ∀ x ∈ q.out, x ∈ q.ever
  at_ : ∀ i, i < k → q.out.getD i 0 = sl.getD i 0 ∨ (¬ q.out.getD i 0 ∈ sl ∧ (∃ x ∈ all, x.kind = 5 ∧ x.player = q.out.getD i 0) ∧ ∃ x ∈ all, x.kind = 5 ∧ x.old = sl.getD i 0)
  inj : ∀ i j, i < j → j < k → q.out.getD i 0 = q.out.getD j 0 → q.out.getD i 0 = sl.getD i 0 ∧ q.out.getD j 0 = sl.getD j 0
theorem plG_ok (all : List Sl) (sl : List Int) : ∀ (k : Nat) (q : PSt), k ≤ sl.length → plG all sl k = some q → PlI all sl k q
  | 0, q, _, h => by
    cases h
    exact ⟨rfl, fun _ h => h, fun x h => (by cases h), fun i h => absurd h (Nat.not_lt_zero _), fun i j _ h => absurd h (Nat.not_lt_zero _)⟩
  | k + 1, q, hk, h => by
    rw [plG] at h
    cases e : plG all sl k with
    | none => rw [e] at h; cases h
    | some q0 =>
      rw [e] at h
      dsimp only at h
      have ih := plG_ok all sl k q0 (by omega) e
      cases e2 : chain all k ⟨sl.getD k 0, q0.ever, q0.used⟩ with
      | none => rw [e2] at h; cases h
      | some s =>
        rw [e2] at h
        cases h
        have hc := chain_ok e2
        have hn := ih.n
        have hmk : sl.getD k 0 ∈ sl := getD_mem (by omega)
        refine ⟨by rw [List.length_append, ih.n]; rfl, fun x hx => hc.sub x (ih.sub x hx), fun x hx => ?_, fun i hi => ?_, fun i j hij hj he => ?_⟩
        · rcases List.mem_append.1 hx with hx | hx
          · exact hc.sub x (ih.ever x hx)
          · rw [List.mem_singleton] at hx
            subst hx
            rcases hc.now with h1 | h1
            · rw [h1]; exact hc.sub _ (ih.sub _ hmk)
            · exact h1.2.1
        · by_cases ei : i = k
          · subst ei
            show (q0.out ++ [s.now]).getD i 0 = _ ∨ _
            rw [← hn, getD_snoc_eq, hn]
            rcases hc.now with h1 | ⟨h1, -, h2, h3⟩
            · exact .inl h1
            · exact .inr ⟨fun h4 => h1 (ih.sub _ h4), h2, h3⟩
          · show (q0.out ++ [s.now]).getD i 0 = _ ∨ _
            rw [getD_snoc_lt (by omega)]
            exact ih.at_ i (by omega)
        · show (q0.out ++ [s.now]).getD i 0 = sl.getD i 0 ∧ (q0.out ++ [s.now]).getD j 0 = sl.getD j 0
          have he' : (q0.out ++ [s.now]).getD i 0 = (q0.out ++ [s.now]).getD j 0 := he
          rw [getD_snoc_lt (by omega)] at he' ⊢
          by_cases ej : j = k
          · subst ej
            rw [← hn, getD_snoc_eq] at he' ⊢
            rw [hn]
            have hmi : q0.out.getD i 0 ∈ q0.out := getD_mem (by omega)
            rcases hc.now with h1 | ⟨h1, -⟩
            · refine ⟨?_, h1⟩
              rcases ih.at_ i (by omega) with h2 | h2
              · exact h2
              · rw [he', h1] at h2; exact absurd hmk h2.1
            · rw [← he'] at h1; exact absurd (ih.ever _ hmi) h1
          · rw [getD_snoc_lt (by omega)] at he' ⊢
            exact ih.inj i j hij (by omega) he'
structure PlO (t : Tre) (sl : List Int) : Prop where
  n : sl.length = t.sl.length
  bye : ∀ i, i < sl.length → (sl.getD i 0 = -1 ↔ t.sl.getD i 0 = -1)
  rng : ∀ i, i < sl.length → -1 ≤ sl.getD i 0 ∧ sl.getD i 0 ≤ 999
  inj : ∀ i k, i < sl.length → k < sl.length → sl.getD i 0 = sl.getD k 0 → sl.getD i 0 ≠ -1 → i = k
  nb : ∀ i, sl.getD (2 * i) 0 = -1 → sl.getD (2 * i + 1) 0 = -1 → False
  ev : sl.length % 2 = 0
theorem slp_player {t : Tre} {x : Sl} (h : slpB t x = true) : 0 ≤ x.player ∧ x.player ≤ 999 := by
  unfold slpB win at h
  simp only [Bool.and_eq_true, decide_eq_true_eq] at h
  exact h.1
theorem slp_old {t : Tre} {x : Sl} (h : slpB t x = true) (hk : x.kind = 5) : 0 ≤ x.old := by
  unfold slpB at h
  rw [decide_eq_true hk, cond_true] at h
  simp only [Bool.and_eq_true, decide_eq_true_eq, win] at h
  exact h.2.2.1
theorem slp_won {t : Tre} {x : Sl} (h : slpB t x = true) (hk : x.kind ≠ 5) : (1 ≤ x.kind ∧ x.kind ≤ 4) ∧ matchB t x.round x.place = true ∧ x.old = 0 := by
  unfold slpB at h
  rw [decide_eq_false hk, cond_false] at h
  simp only [Bool.and_eq_true, decide_eq_true_eq, win] at h
  exact ⟨h.2.1.1.1, h.2.1.1.2, h.2.1.2⟩
theorem match_rng {t : Tre} {r p : Int} (h : matchB t r p = true) : (0 ≤ r ∧ r ≤ t.R - 1) ∧ 0 ≤ p ∧ p ≤ t.sz r - 1 := by
  unfold matchB win at h
  simp only [Bool.and_eq_true, decide_eq_true_eq] at h
  exact h
theorem TOk.even {t : Tre} (h : TOk t) : t.sl.length % 2 = 0 := by
  obtain ⟨k, hk⟩ : ∃ k, t.R.toNat = k + 1 := ⟨t.R.toNat - 1, by have := h.r; omega⟩
  rw [h.n, hk, Nat.pow_succ]; omega
theorem TOk.at_ {t : Tre} {i : Nat} (hi : i < t.sl.length) : t.sl[i]? = some (t.sl.getD i 0) := by rw [getD_lt hi, List.getElem?_eq_getElem hi]
theorem players_ok {t : Tre} (ht : TOk t) {l : List Sl} (hs : ∀ x ∈ l, slpB t x = true) {sl : List Int} (h : playersV t l = some sl) : PlO t sl := by
  unfold playersV at h
  cases e : plG (onceL l) t.sl t.sl.length with
  | none => rw [e] at h; cases h
  | some q =>
    rw [e] at h
    dsimp only at h
    split at h
    · cases h
      have hq := plG_ok _ _ _ q (Nat.le_refl _) e
      have hb : ∀ i, i < q.out.length → (q.out.getD i 0 = -1 ↔ t.sl.getD i 0 = -1) := fun i hi => by
        rw [hq.n] at hi
        rcases hq.at_ i hi with h1 | ⟨-, ⟨x, h2, -, h3⟩, y, h4, h5, h6⟩
        · rw [h1]
        · have := slp_player (hs x (mem_once.1 h2))
          have := slp_old (hs y (mem_once.1 h4)) h5
          omega
      have hlt : ∀ i, q.out.getD i 0 = -1 → i < q.out.length := fun i h1 => by
        by_cases h2 : i < q.out.length
        · exact h2
        · rw [List.getD_eq_getElem?_getD, List.getElem?_eq_none (by omega)] at h1; cases h1
      refine ⟨hq.n, hb, fun i hi => ?_, fun i k hi hk he hne => ?_, fun i h1 h2 => ?_, by rw [hq.n]; exact ht.even⟩
      · rw [hq.n] at hi
        rcases hq.at_ i hi with h1 | ⟨-, ⟨x, h2, -, h3⟩, -⟩
        · rw [h1]; exact ht.rng i _ (TOk.at_ hi)
        · have := slp_player (hs x (mem_once.1 h2))
          omega
      · have main : ∀ i k, i < k → k < q.out.length → q.out.getD i 0 = q.out.getD k 0 → q.out.getD i 0 ≠ -1 → False := fun i k hik hk he hne => by
          rw [hq.n] at hk
          obtain ⟨h1, h2⟩ := hq.inj i k hik hk he
          have := ht.inj i k (t.sl.getD i 0) (TOk.at_ (by omega)) (by rw [TOk.at_ hk, ← h2, ← he, h1]) (by rw [← h1]; exact hne)
          omega
        rcases Nat.lt_trichotomy i k with h1 | h1 | h1
        · exact (main i k h1 hk he hne).elim
        · exact h1
        · exact (main k i h1 hi he.symm (by rw [← he]; exact hne)).elim
      · have l1 := hlt _ h1
        have l2 := hlt _ h2
        have n1 := hq.n
        exact ht.nb i (by rw [TOk.at_ (by omega), (hb _ l1).1 h1]) (by rw [TOk.at_ (by omega), (hb _ l2).1 h2])
    · cases h
theorem cand_more (all : List Sl) (x : Sl) (hx : x.kind ≠ 5) (i now : Int) : cand (all ++ [x]) i now = cand all i now := by
  unfold cand
  rw [List.filter_append, List.filter_cons, if_neg (by unfold candB; simp [hx]), List.filter_nil, List.append_nil]
theorem chainF_more (all : List Sl) (x : Sl) (hx : x.kind ≠ 5) (i : Int) : ∀ n s, chainF (all ++ [x]) i n s = chainF all i n s
  | 0, s => rfl
  | n + 1, s => by
    rw [chainF, chainF, cand_more all x hx]
    match cand all i s.now with
    | [] => rfl
    | [y] => dsimp only; rw [chainF_more all x hx i n]
    | _ :: _ :: _ => rfl
theorem chain_more (all : List Sl) (x : Sl) (hx : x.kind ≠ 5) (i : Int) (s : CSt) : chain (all ++ [x]) i s = chain all i s := by
  unfold chain
  rw [chainF_more all x hx]
  refine chainF_fuel all i _ _ s ?_ (Nat.lt_succ_self _)
  have : missN all s.ever ≤ missN (all ++ [x]) s.ever := by unfold missN; rw [List.filter_append, List.length_append]; omega
  omega
theorem plG_more (all : List Sl) (x : Sl) (hx : x.kind ≠ 5) (sl : List Int) : ∀ k, plG (all ++ [x]) sl k = plG all sl k
  | 0 => rfl
  | k + 1 => by
    rw [plG, plG, plG_more all x hx sl k]
    cases plG all sl k with
    | none => rfl
    | some q => dsimp only; rw [chain_more all x hx]
theorem lucky_more (all : List Sl) (x : Sl) (hx : x.kind ≠ 5) : luckyN (all ++ [x]) = luckyN all := by
  unfold luckyN
  rw [List.filter_append, List.filter_cons, if_neg (by simp [hx]), List.filter_nil, List.append_nil]
theorem players_more {t : Tre} {l : List Sl} {x : Sl} (hx : x.kind ≠ 5) (hn : ¬ x ∈ l) : playersV t (l ++ [x]) = playersV t l := by
  unfold playersV
  rw [once_snoc, addO, if_neg (fun h => hn (mem_once.1 h)), plG_more _ x hx, lucky_more _ x hx]

def wonM (M : MM) (at_ : Nat) (x : Int) (n : Nat) : MM := fun r p => if r < n ∧ p = at_ / 2 ^ (r + 1) then x else M r p
theorem winM_iff (M : MM) (at_ : Nat) (x : Int) : ∀ n M', winM M at_ x n = some M' ↔ ((∀ r, r < n → M r (at_ / 2 ^ (r + 1)) = -2 ∨ M r (at_ / 2 ^ (r + 1)) = x) ∧ M' = wonM M at_ x n)
  | 0, M' => by
    have h0 : wonM M at_ x 0 = M := by funext r p; unfold wonM; rw [if_neg (fun h => absurd h.1 (Nat.not_lt_zero _))]
    rw [winM, h0]
    exact ⟨fun h => by cases h; exact ⟨fun r h => absurd h (Nat.not_lt_zero _), rfl⟩, fun h => by rw [h.2]⟩
  | n + 1, M' => by
    rw [winM]
    have ih := winM_iff M at_ x n
    have hup : upM (wonM M at_ x n) n (at_ / 2 ^ (n + 1)) x = wonM M at_ x (n + 1) := by
      funext r p
      unfold upM wonM
      by_cases h1 : r = n ∧ p = at_ / 2 ^ (n + 1)
      · rw [if_pos h1, if_pos ⟨by omega, by rw [h1.1]; exact h1.2⟩]
      · rw [if_neg h1]
        by_cases h2 : r < n ∧ p = at_ / 2 ^ (r + 1)
        · rw [if_pos h2, if_pos ⟨by omega, h2.2⟩]
        · rw [if_neg h2, if_neg]
          rintro ⟨h3, h4⟩
          by_cases h5 : r = n
          · subst h5; exact h1 ⟨rfl, h4⟩
          · exact h2 ⟨by omega, h4⟩
    have hself : wonM M at_ x n n (at_ / 2 ^ (n + 1)) = M n (at_ / 2 ^ (n + 1)) := by unfold wonM; rw [if_neg (fun h => absurd h.1 (Nat.lt_irrefl _))]
    cases e : winM M at_ x n with
    | none =>
      constructor
      · intro h; cases h
      · rintro ⟨h1, -⟩
        have := (ih _).2 ⟨fun r hr => h1 r (by omega), rfl⟩
        rw [e] at this; cases this
    | some M1 =>
      obtain ⟨h1, rfl⟩ := (ih M1).1 e
      dsimp only
      rw [hself]
      constructor
      · intro h
        split at h
        · cases h
        · next hn =>
          cases h
          refine ⟨fun r hr => ?_, hup⟩
          by_cases e : r = n
          · subst e
            by_cases h2 : M r (at_ / 2 ^ (r + 1)) = -2
            · exact .inl h2
            · by_cases h3 : M r (at_ / 2 ^ (r + 1)) = x
              · exact .inr h3
              · exact absurd ⟨h2, h3⟩ hn
          · exact h1 r (by omega)
      · rintro ⟨h2, rfl⟩
        have := h2 n (by omega)
        rw [if_neg (fun h => this.elim h.1 h.2), hup]
theorem lastIx_ok (sl : List Int) (x : Int) : ∀ n, lastIx sl x n = -1 ∨ ∃ k, k < n ∧ lastIx sl x n = (k : Nat) ∧ sl.getD k 0 = x
  | 0 => .inl rfl
  | n + 1 => by
    rw [lastIx]
    split
    · next h => exact .inr ⟨n, by omega, rfl, h⟩
    · rcases lastIx_ok sl x n with h | ⟨k, h1, h2⟩
      · exact .inl h
      · exact .inr ⟨k, by omega, h2⟩
theorem lastIx_hit (sl : List Int) (x : Int) {k : Nat} (hx : sl.getD k 0 = x) : ∀ n, k < n → ∃ j, j < n ∧ lastIx sl x n = (j : Nat) ∧ sl.getD j 0 = x
  | 0, h => absurd h (Nat.not_lt_zero _)
  | n + 1, h => by
    rw [lastIx]
    split
    · next h1 => exact ⟨n, by omega, rfl, h1⟩
    · next h1 =>
      obtain ⟨j, h2, h3⟩ := lastIx_hit sl x hx n (by have : k ≠ n := fun e => h1 (e ▸ hx); omega)
      exact ⟨j, by omega, h3⟩
def Cov (sl : List Int) (ps : List Sl) (r p s : Nat) : Prop := s < sl.length ∧ p = s / 2 ^ (r + 1) ∧ ((r = 0 ∧ sl.getD (twin s) 0 = -1) ∨ ∃ y ∈ ps, y.kind ≠ 5 ∧ sl.getD s 0 = y.player ∧ r ≤ y.round.toNat)
structure DrI (sl : List Int) (ps : List Sl) (M : MM) : Prop where
  a : ∀ r p, M r p ≠ -2 → ∃ s, Cov sl ps r p s ∧ M r p = sl.getD s 0
  b : ∀ r p s, Cov sl ps r p s → M r p = sl.getD s 0
  c : ∀ y ∈ ps, y.kind ≠ 5 → ∃ s, s < sl.length ∧ sl.getD s 0 = y.player ∧ ((s / 2 ^ (y.round.toNat + 1) : Nat) : Int) = y.place
  u : ∀ y ∈ ps, ∀ z ∈ ps, y.kind ≠ 5 → z.kind ≠ 5 → y.round = z.round → y.place = z.place → y = z
theorem twin_lt {n s : Nat} (h : s < n) (he : n % 2 = 0) : twin s < n := by unfold twin; split <;> omega
theorem dr_begin {t : Tre} {sl : List Int} (h : PlO t sl) : DrI sl [] (mustB sl) := by
  have hlt : ∀ i, sl.getD i 0 = -1 → i < sl.length := fun i h1 => by
    by_cases h2 : i < sl.length
    · exact h2
    · rw [List.getD_eq_getElem?_getD, List.getElem?_eq_none (by omega)] at h1; cases h1
  have hev := h.ev
  refine ⟨fun r p hne => ?_, fun r p s hc => ?_, fun y hy => (by cases hy), fun y hy => (by cases hy)⟩
  · unfold mustB at hne ⊢
    split at hne
    · next hr =>
      subst hr
      rw [if_pos rfl]
      by_cases h1 : sl.getD (2 * p + 1) 0 = -1
      · have := hlt _ h1
        rw [decide_eq_true h1, cond_true]
        refine ⟨2 * p, ⟨by omega, by omega, .inl ⟨rfl, ?_⟩⟩, rfl⟩
        unfold twin
        rw [if_pos (by omega)]; exact h1
      · rw [decide_eq_false h1, cond_false] at hne ⊢
        by_cases h2 : sl.getD (2 * p) 0 = -1
        · have := hlt _ h2
          rw [decide_eq_true h2, cond_true]
          refine ⟨2 * p + 1, ⟨by omega, by omega, .inl ⟨rfl, ?_⟩⟩, rfl⟩
          unfold twin
          rw [if_neg (by omega)]; exact h2
        · rw [decide_eq_false h2, cond_false] at hne
          exact absurd rfl hne
    · exact absurd rfl hne
  · obtain ⟨h1, h2, h3⟩ := hc
    rcases h3 with ⟨rfl, h3⟩ | ⟨y, hy, -⟩
    · unfold mustB
      rw [if_pos rfl]
      unfold twin at h3
      by_cases e : s % 2 = 0
      · rw [if_pos e] at h3
        rw [show 2 * p + 1 = s + 1 by omega, decide_eq_true h3, cond_true, show 2 * p = s by omega]
      · rw [if_neg e] at h3
        have h4 : ¬ sl.getD (2 * p + 1) 0 = -1 := fun h5 => h.nb p (by rw [show 2 * p = s - 1 by omega]; exact h3) h5
        rw [decide_eq_false h4, cond_false, show 2 * p = s - 1 by omega, decide_eq_true h3, cond_true, show s - 1 + 1 = s by omega]
    · cases hy
theorem sameM_iff {x y : Sl} : sameM x y = true ↔ y.kind ≠ 5 ∧ y.round = x.round ∧ y.place = x.place := by
  unfold sameM
  simp [and_assoc]
theorem cov_mono {sl : List Int} {ps : List Sl} {x : Sl} {r p s : Nat} (h : Cov sl ps r p s) : Cov sl (ps ++ [x]) r p s := ⟨h.1, h.2.1, h.2.2.imp id fun ⟨y, hy, h2⟩ => ⟨y, List.mem_append_left _ hy, h2⟩⟩
theorem toNat_succ {r : Int} (h : 0 ≤ r) : (r + 1).toNat = r.toNat + 1 := by omega
theorem div_cast (a k : Nat) : (a : Int) / 2 ^ k = ((a / 2 ^ k : Nat) : Int) := by simp
theorem dr_step {t : Tre} {sl : List Int} (hp : PlO t sl) {all : List Sl} {k : Nat} {x : Sl} {M M' : MM} (hx : slpB t x = true) (h : DrI sl (all.take k) M) (hk : all[k]? = some x) (hs : slipM all sl k x M = some M') : DrI sl (all.take (k + 1)) M' := by
  have htk : all.take (k + 1) = all.take k ++ [x] := by rw [List.take_add_one, hk]; rfl
  unfold slipM at hs
  split at hs
  · next h5 =>
    cases hs
    have hcov : ∀ r p s, Cov sl (all.take (k + 1)) r p s → Cov sl (all.take k) r p s := fun r p s ⟨c1, c2, c3⟩ => ⟨c1, c2, c3.imp id fun ⟨y, hy, h2⟩ => by
      rw [htk] at hy
      rcases List.mem_append.1 hy with hy | hy
      · exact ⟨y, hy, h2⟩
      · rw [List.mem_singleton] at hy; subst hy; exact absurd h5 h2.1⟩
    have hmem : ∀ y ∈ all.take (k + 1), y.kind ≠ 5 → y ∈ all.take k := fun y hy h2 => by
      rw [htk] at hy
      rcases List.mem_append.1 hy with hy | hy
      · exact hy
      · rw [List.mem_singleton] at hy; subst hy; exact absurd h5 h2
    refine ⟨fun r p hne => ?_, fun r p s hc => h.b r p s (hcov r p s hc), fun y hy h2 => h.c y (hmem y hy h2) h2, fun y hy z hz h2 h3 => h.u y (hmem y hy h2) z (hmem z hz h3) h2 h3⟩
    obtain ⟨s, h1, h2⟩ := h.a r p hne
    exact ⟨s, by rw [htk]; exact cov_mono h1, h2⟩
  · next h5 =>
    split at hs
    · cases hs
    · next hany =>
      split at hs
      · cases hs
      · next hat =>
        rw [not_or, Decidable.not_not] at hat
        rcases lastIx_ok sl x.player sl.length with h1 | ⟨a, h1, h2, h3⟩
        · omega
        have hr0 : 0 ≤ x.round := (match_rng (slp_won hx h5).2.1).1.1
        have hpl := (slp_player hx).1
        rw [h2] at hs hat
        rw [Int.toNat_natCast] at hs
        rw [toNat_succ hr0, div_cast] at hat
        obtain ⟨hw, rfl⟩ := (winM_iff M a x.player _ M').1 hs
        have hxin : x ∈ all.take (k + 1) := by rw [htk]; simp
        refine ⟨fun r p hne => ?_, fun r p s hc => ?_, fun y hy h6 => ?_, fun y hy z hz hy5 hz5 e1 e2 => ?_⟩
        · unfold wonM at hne ⊢
          split
          · next hh => exact ⟨a, ⟨h1, hh.2, .inr ⟨x, hxin, h5, h3, by omega⟩⟩, h3.symm⟩
          · next hh =>
            rw [if_neg hh] at hne
            obtain ⟨s, c1, c2⟩ := h.a r p hne
            exact ⟨s, by rw [htk]; exact cov_mono c1, c2⟩
        · obtain ⟨c1, c2, c3⟩ := hc
          have old : Cov sl (all.take k) r p s → wonM M a x.player (x.round.toNat + 1) r p = sl.getD s 0 := fun hc => by
            have hb := h.b r p s hc
            unfold wonM
            split
            · next hh =>
              rcases hw r hh.1 with h6 | h6
              · rw [← hh.2, hb] at h6
                have := hp.rng s hc.1
                omega
              · rw [← hh.2, hb] at h6; exact h6.symm
            · exact hb
          rcases c3 with c3 | ⟨y, hy, y1, y2, y3⟩
          · exact old ⟨c1, c2, .inl c3⟩
          · rw [htk] at hy
            rcases List.mem_append.1 hy with hy | hy
            · exact old ⟨c1, c2, .inr ⟨y, hy, y1, y2, y3⟩⟩
            · rw [List.mem_singleton] at hy
              subst hy
              have : s = a := hp.inj s a c1 h1 (by rw [y2, h3]) (by rw [y2]; omega)
              subst this
              unfold wonM
              rw [if_pos ⟨by omega, c2⟩, y2]
        · rw [htk] at hy
          rcases List.mem_append.1 hy with hy | hy
          · exact h.c y hy h6
          · rw [List.mem_singleton] at hy
            subst hy
            exact ⟨a, h1, h3, hat.2⟩
        · rw [htk] at hy hz
          have hno : ∀ y ∈ all.take k, y.kind ≠ 5 → y.round = x.round → y.place = x.place → False := fun y hy h6 h7 h8 => hany (List.any_eq_true.2 ⟨y, hy, sameM_iff.2 ⟨h6, h7, h8⟩⟩)
          rcases List.mem_append.1 hy with hy | hy
          · rcases List.mem_append.1 hz with hz | hz
            · exact h.u y hy z hz hy5 hz5 e1 e2
            · have e3 := List.mem_singleton.1 hz
              rw [e3] at e1 e2
              exact (hno y hy hy5 e1 e2).elim
          · rw [List.mem_singleton] at hy
            subst hy
            rcases List.mem_append.1 hz with hz | hz
            · exact (hno z hz hz5 e1.symm e2.symm).elim
            · rw [List.mem_singleton] at hz
              exact hz.symm
theorem dr_all {t : Tre} {sl : List Int} (hp : PlO t sl) {all : List Sl} (hall : ∀ x ∈ all, slpB t x = true) : ∀ (k : Nat) (M : MM), k ≤ all.length → drM all sl k = some M → DrI sl (all.take k) M
  | 0, M, _, h => by cases h; exact dr_begin hp
  | k + 1, M, hk, h => by
    rw [drM] at h
    cases e : drM all sl k with
    | none => rw [e] at h; cases h
    | some M0 =>
      rw [e] at h
      obtain ⟨x, hx⟩ : ∃ x, all[k]? = some x := ⟨_, List.getElem?_eq_getElem (by omega)⟩
      rw [hx] at h
      exact dr_step hp (hall x (List.mem_of_getElem? hx)) (dr_all hp hall k M0 (by omega) e) hx h
structure DrO (t : Tre) (l : List Sl) (d : Dr) : Prop where
  s : ∀ x ∈ l, slpB t x = true
  p : PlO t d.sl
  i : DrI d.sl l d.M
theorem DrI.once {sl : List Int} {l : List Sl} {M : MM} (h : DrI sl (onceL l) M) : DrI sl l M := by
  have hc : ∀ r p s, Cov sl (onceL l) r p s ↔ Cov sl l r p s := fun r p s => by
    unfold Cov
    simp only [mem_once]
  exact ⟨fun r p hne => by obtain ⟨s, h1, h2⟩ := h.a r p hne; exact ⟨s, (hc r p s).1 h1, h2⟩, fun r p s h1 => h.b r p s ((hc r p s).2 h1), fun y hy => h.c y (mem_once.2 hy), fun y hy z hz => h.u y (mem_once.2 hy) z (mem_once.2 hz)⟩
theorem Agr.o {t : Tre} {l : List Sl} {d : Dr} (h : Agr t l d) : DrO t l d ∧ playersV t l = some d.sl ∧ drM (onceL l) d.sl (onceL l).length = some d.M := by
  have hd := h.d
  unfold drawV at hd
  cases e : playersV t l with
  | none => rw [e] at hd; cases hd
  | some sl =>
    rw [e] at hd
    dsimp only at hd
    obtain ⟨M, h1, rfl⟩ := Option.map_eq_some_iff.1 hd
    have hp := players_ok h.tr h.s e
    have hi := dr_all hp (fun x hx => h.s x (mem_once.1 hx)) _ M (Nat.le_refl _) h1
    rw [List.take_length] at hi
    exact ⟨⟨h.s, hp, hi.once⟩, rfl, h1⟩
theorem DrO.clo {t : Tre} {l : List Sl} {d : Dr} (h : DrO t l d) {r p : Nat} (hne : d.M r p ≠ -2) : ∃ s, s < d.sl.length ∧ d.M r p = d.sl.getD s 0 ∧ 0 ≤ d.M r p ∧ p = s / 2 ^ (r + 1) ∧ ∀ r', r' ≤ r → d.M r' (s / 2 ^ (r' + 1)) = d.sl.getD s 0 := by
  obtain ⟨s, hc, he⟩ := h.i.a r p hne
  obtain ⟨h1, h2, h3⟩ := hc
  have hrg := h.p.rng s h1
  have hbye : d.sl.getD s 0 ≠ -1 := by
    intro h4
    rcases h3 with ⟨-, h5⟩ | ⟨y, hy, hy5, hy2, -⟩
    · unfold twin at h5
      by_cases e : s % 2 = 0
      · rw [if_pos e] at h5
        exact h.p.nb (s / 2) (by rw [show 2 * (s / 2) = s by omega]; exact h4) (by rw [show 2 * (s / 2) = s by omega]; exact h5)
      · rw [if_neg e] at h5
        exact h.p.nb (s / 2) (by rw [show 2 * (s / 2) = s - 1 by omega]; exact h5) (by rw [show 2 * (s / 2) + 1 = s by omega]; exact h4)
    · have := (slp_player (h.s y hy)).1
      omega
  refine ⟨s, h1, he, by rw [he]; omega, h2, fun r' hr' => h.i.b r' _ s ⟨h1, rfl, ?_⟩⟩
  rcases h3 with ⟨h4, h5⟩ | ⟨y, hy, hy5, hy2, hy3⟩
  · exact .inl ⟨by omega, h5⟩
  · exact .inr ⟨y, hy, hy5, hy2, by omega⟩
end Go.Proofs.YtmlhnajgiopfgaaGreat

namespace Go.Proofs.YtmlhnajgiopfgaaGreat
open Go Go.RowKit

theorem C_ref7_within (n lo hi : Int) (w : World) : C0 Tryz.prog 61 [.int .i64 n, .int .i64 lo, .int .i64 hi] w (.bool (win n lo hi)) := by
  refine ⟨en Tryz.func61 Tryz.ntmps61 (St.init w) (h := fun F => ?_)⟩
  refine sq (h := ?_)
  refine rg (h := ?_)
  refine wy asg ?_
  refine nl (h := ?_)
  refine q_seq (h := ?_)
  refine sq (h := ?_)
  refine rg (h := ?_)
  refine wy mv ?_
  refine wy mv ?_
  refine wy geq ?_
  refine wy mv ?_
  apply brAnd 4 10 14 (by exact rfl)
  · intro hb0
    refine un (h := ?_)
    refine wy mv ?_
    refine un (h := ?_)
    refine wy mv ?_
    refine un (h := ?_)
    refine wy leq ?_
    refine wy (by first | exact pkT | exact pkF) ?_
    exact mg (by repeat (first | exact trivial | refine ⟨rfl, ?_⟩ | refine ⟨by rw [hb0]; rfl, ?_⟩)) slz_
  · intro hb0
    repeat (first | refine un (h := ?_) | refine sk (h := ?_) | refine WL.y (hy := pkF) (h := ?_) | refine WL.y (hy := pkT) (h := ?_))
    exact mg (by repeat (first | exact trivial | refine ⟨rfl, ?_⟩ | refine ⟨by rw [hb0]; rfl, ?_⟩)) slz_
  refine wy asg ?_
  refine nl (h := ?_)
  refine q_seq (h := ?_)
  refine rtn (h := ?_)
  refine q_ret (hR := ?_)
  exact fun w hS => ⟨rfl, hS.sub slz_⟩
theorem pow_le_16 {k : Nat} (h : k ≤ 5) : (1 : Int) ≤ 2 ^ k ∧ (2 : Int) ^ k ≤ 32 := by
  have : ∀ k, k ≤ 5 → (1 : Int) ≤ 2 ^ k ∧ (2 : Int) ^ k ≤ 32 := by decide
  exact this k h
theorem C_ref7_Places (t : Tre) (r : Int) (hR : t.R ≤ 5) (hr : 0 ≤ r ∧ r ≤ t.R - 1) (w : World) : C0 Tryz.prog 64 [t.val, .int .i64 r] w (.int .i64 (t.sz r)) := by
  have hp := pow_le_16 (k := (t.R - 1 - r).toNat) (by omega)
  refine ⟨en Tryz.func64 Tryz.ntmps64 (St.init w) (h := fun F => ?_)⟩
  refine sq (h := ?_)
  refine rg (h := ?_)
  refine bxA (h := fun b0 => ?_)
  refine wy asg ?_
  refine nl (h := ?_)
  refine q_seq (h := ?_)
  refine sq (h := ?_)
  refine rg (h := ?_)
  refine wy (by first | exact fa | exact faE) ?_
  refine wy (by first | exact ld | exact ldE) ?_
  refine wy subI ?_
  refine wy mv ?_
  refine wy subI ?_
  refine wy cvU ?_
  refine wy (shlI (hb := by rw [Int.one_mul]; omega)) ?_
  refine wy asg ?_
  refine nl (h := ?_)
  refine q_seq (h := ?_)
  refine rtn (h := ?_)
  refine q_ret (hR := ?_)
  exact fun w hS => ⟨by unfold Tre.sz; rw [Int.one_mul]; rfl, hS.sub .nil⟩
theorem C_ref7_IsMatch (t : Tre) (r p : Int) (hR : 1 ≤ t.R ∧ t.R ≤ 5) (w : World) : C0 Tryz.prog 62 [t.val, .int .i64 r, .int .i64 p] w (.bool (matchB t r p)) := by
  refine ⟨en Tryz.func62 Tryz.ntmps62 (St.init w) (h := fun F => ?_)⟩
  refine sq (h := ?_)
  refine rg (h := ?_)
  refine bxA (h := fun b0 => ?_)
  refine wy asg ?_
  refine nl (h := ?_)
  refine q_seq (h := ?_)
  refine sq (h := ?_)
  refine rg (h := ?_)
  refine wy mv ?_
  refine wy (by first | exact fa | exact faE) ?_
  refine wy (by first | exact ld | exact ldE) ?_
  refine wy subI ?_
  refine cl0 (hc := fun w hS => C_ref7_within r 0 (t.R - 1) w) (h := ?_)
  refine wy mv ?_
  apply brAnd 7 12 19 (by exact rfl)
  · intro hb0
    have hr := win_iff.1 hb0
    have hp := pow_le_16 (k := (t.R - 1 - r).toNat) (by omega)
    have hsz : t.sz r = 2 ^ (t.R - 1 - r).toNat := rfl
    refine un (h := ?_)
    refine wy mv ?_
    refine un (h := ?_)
    refine wy (by first | exact ldA | exact ldEA) ?_
    refine un (h := ?_)
    refine wy mv ?_
    refine un (h := ?_)
    refine cl0 (hc := fun w hS => C_ref7_Places t r (by omega) (by omega) w) (h := ?_)
    refine un (h := ?_)
    refine wy subI ?_
    refine un (h := ?_)
    refine cl0 (hc := fun w hS => C_ref7_within p 0 (t.sz r - 1) w) (h := ?_)
    refine wy (by first | exact pkT | exact pkF) ?_
    exact mg (by repeat (first | exact trivial | refine ⟨rfl, ?_⟩ | refine ⟨by rw [hb0]; rfl, ?_⟩)) slz_
  · intro hb0
    repeat (first | refine un (h := ?_) | refine sk (h := ?_) | refine WL.y (hy := pkF) (h := ?_) | refine WL.y (hy := pkT) (h := ?_))
    exact mg (by repeat (first | exact trivial | refine ⟨rfl, ?_⟩ | refine ⟨by rw [hb0]; rfl, ?_⟩)) slz_
  refine wy asg ?_
  refine nl (h := ?_)
  refine q_seq (h := ?_)
  refine rtn (h := ?_)
  refine q_ret (hR := ?_)
  exact fun w hS => ⟨rfl, hS.sub slz_⟩
structure TUp (sl : List Int) (k : Nat) : Prop where
  rng : ∀ i, i < k → -1 ≤ sl.getD i 0 ∧ sl.getD i 0 ≤ 999
  nb : ∀ i, i < k → i % 2 = 1 → sl.getD i 0 = -1 → sl.getD (i - 1) 0 = -1 → False
  inj : ∀ i j, i < j → j < k → sl.getD i 0 = sl.getD j 0 → sl.getD j 0 = -1
theorem TUp.zero (sl : List Int) : TUp sl 0 := ⟨fun i h => absurd h (Nat.not_lt_zero _), fun i h => absurd h (Nat.not_lt_zero _), fun i j _ h => absurd h (Nat.not_lt_zero _)⟩
theorem TUp.ok {t : Tre} (hR : 1 ≤ t.R ∧ t.R ≤ 5) (hn : t.sl.length = 2 ^ t.R.toNat) (h : TUp t.sl t.sl.length) : TOk t := by
  have hg : ∀ (i : Nat) (x : Int), t.sl[i]? = some x → i < t.sl.length ∧ t.sl.getD i 0 = x := fun i x hx => ⟨(List.getElem?_eq_some_iff.1 hx).1, by rw [List.getD_eq_getElem?_getD, hx]; rfl⟩
  refine ⟨hR, hn, fun i x hx => ?_, fun i h1 h2 => ?_, fun i k x h1 h2 h3 => ?_⟩
  · obtain ⟨g1, rfl⟩ := hg i x hx; exact h.rng i g1
  · exact h.nb (2 * i + 1) (hg _ _ h2).1 (by omega) (hg _ _ h2).2 (hg _ _ h1).2
  · obtain ⟨g1, e1⟩ := hg i x h1
    obtain ⟨g2, e2⟩ := hg k x h2
    rcases Nat.lt_trichotomy i k with h4 | h4 | h4
    · exact absurd (e2 ▸ h.inj i k h4 g2 (e1.trans e2.symm)) h3
    · exact h4
    · exact absurd (e1 ▸ h.inj k i h4 g1 (e2.trans e1.symm)) h3
theorem TOk.up {t : Tre} (h : TOk t) : TUp t.sl t.sl.length := by
  refine ⟨fun i hi => h.rng i _ (TOk.at_ hi), fun i hi ho h1 h2 => ?_, fun i j hij hj he => ?_⟩
  · exact h.nb (i / 2) (by rw [show 2 * (i / 2) = i - 1 by omega, TOk.at_ (by omega), h2]) (by rw [show 2 * (i / 2) + 1 = i by omega, TOk.at_ hi, h1])
  · by_cases h3 : t.sl.getD j 0 = -1
    · exact h3
    · have := h.inj i j (t.sl.getD j 0) (by rw [TOk.at_ (by omega), he]) (TOk.at_ hj) h3
      omega
theorem TUp.le {sl : List Int} {k m : Nat} (h : TUp sl m) (hk : k ≤ m) : TUp sl k := ⟨fun i hi => h.rng i (by omega), fun i hi => h.nb i (by omega), fun i j h1 h2 => h.inj i j h1 (by omega)⟩
open Classical in
noncomputable def tokB (t : Tre) : Bool := decide (TOk t)
open Classical in
theorem tokB_iff {t : Tre} : tokB t = true ↔ TOk t := by unfold tokB; rw [decide_eq_true_iff]
open Classical in
theorem tokB_no {t : Tre} (h : ¬ TOk t) : tokB t = false := by unfold tokB; exact decide_eq_false h
set_option maxRecDepth 100000 in
set_option maxHeartbeats 1000000 in
theorem C_ref7_IsTree (t : Tre) (hn : t.sl.length ≤ 1000000) (w : World) (h : Rd w t.A 1 t.sl.length (enI t.sl)) : C0 Tryz.prog 35 [t.val] w (.bool (tokB t)) := by
  refine ⟨en Tryz.func35 Tryz.ntmps35 ((St.init w).share (e := .ro t.A 1 t.sl.length (enI t.sl)) h rfl rfl rfl) (h := fun F => ?_)⟩
  refine sq (h := ?_)
  refine rg (h := ?_)
  refine bxA (h := fun b0 => ?_)
  refine wy asg ?_
  refine nl (h := ?_)
  refine q_seq (h := ?_)
  refine sq (h := ?_)
  refine sq (h := ?_)
  refine rg (h := ?_)
  refine wy (by first | exact fa | exact faE) ?_
  refine wy (by first | exact ld | exact ldE) ?_
  refine cl0 (hc := fun w hS => C_ref7_within t.R 1 5 w) (h := ?_)
  refine wy notB ?_
  refine wy mv ?_
  apply brOr 9 9 18 (by exact rfl)
  · intro hb0
    have hR := win_iff.1 (by rwa [Bool.not_eq_false'] at hb0)
    have hp := pow_le_16 (k := t.R.toNat) (by omega)
    refine un (h := ?_)
    refine wy (by first | exact fa | exact faE) ?_
    refine un (h := ?_)
    refine wy (by first | exact ld | exact ldE) ?_
    refine un (h := ?_)
    refine wy lenS ?_
    refine un (h := ?_)
    refine wy (by first | exact fa | exact faE) ?_
    refine un (h := ?_)
    refine wy (by first | exact ld | exact ldE) ?_
    refine un (h := ?_)
    refine wy cvU ?_
    refine un (h := ?_)
    refine wy (shlI (hb := by rw [Int.one_mul]; omega)) ?_
    refine un (h := ?_)
    refine wy neq ?_
    refine wy (by first | exact pkT | exact pkF) ?_
    exact mg (by repeat (first | exact trivial | refine ⟨rfl, ?_⟩ | refine ⟨by rw [hb0]; rfl, ?_⟩)) slz_
  · intro hb0
    repeat (first | refine un (h := ?_) | refine sk (h := ?_) | refine WL.y (hy := pkF) (h := ?_) | refine WL.y (hy := pkT) (h := ?_))
    exact mg (by repeat (first | exact trivial | refine ⟨rfl, ?_⟩ | refine ⟨by rw [hb0]; rfl, ?_⟩)) slz_
  refine nl (h := ?_)
  refine q_seq (h := ?_)
  refine cd (by exact rfl) (fun h1 => ?_) (fun h1 => ?_)
  · skip
    have hbad : ¬ TOk t := fun hk => by
      have h9 := h1
      have h8 := hk.n
      have h7 : win t.R 1 5 = true := win_iff.2 hk.r
      rw [h7, h8] at h9
      simp at h9
    refine sq (h := ?_)
    refine rg (h := ?_)
    refine wy asg ?_
    refine nl (h := ?_)
    refine q_seq (h := ?_)
    refine rtn (h := ?_)
    refine q_then_ret (h := ?_)
    refine q_ret (hR := ?_)
    first
      | exact fun w hS => ⟨by rw [tokB_no hbad]; rfl, hS.sub .nil⟩
      | exact fun w hS => ⟨by rw [tokB_iff.2 hfin]; rfl, hS.sub .nil⟩
  · skip
    have h9 := h1
    rw [Bool.or_eq_false_iff, Bool.not_eq_false', Bool.not_eq_false', decide_eq_true_eq, Int.one_mul] at h9
    have hR := win_iff.1 h9.1
    have hN : t.sl.length = 2 ^ t.R.toNat := by have h8 := h9.2; exact_mod_cast h8
    refine skp (h := ?_)
    refine q_seq (h := ?_)
    refine sq (h := ?_)
    refine sq (h := ?_)
    refine rg (h := ?_)
    refine wy asg ?_
    refine WL.cut (by repeat (first | exact Cut.nil | apply Cut.hit | apply Cut.miss (by exact rfl))) ?_
    refine nl (h := ?_)
    refine q_seq (h := ?_)
    refine bk (h := ?_)
    refine lp (X := Nat) (I := fun i => i ≤ t.sl.length ∧ TUp t.sl i) (le := fun i => [(1, .pointer (some ⟨b0, 0, none⟩)), (3, .int .i64 i)]) (Le := fun _ => [.blk b0 24 t.cells, .ro t.A 1 t.sl.length (enI t.sl)]) (μ := fun i => t.sl.length - i) 0 ⟨Nat.zero_le _, TUp.zero _⟩ sbz_ slz_ (fun i hi => ?_)
    obtain ⟨hiL, hU⟩ := hi
    refine sq (h := ?_)
    refine sq (h := ?_)
    refine rg (h := ?_)
    refine wy mv ?_
    refine wy (by first | exact fa | exact faE) ?_
    refine wy (by first | exact ld | exact ldE) ?_
    refine wy lenS ?_
    refine wy lss ?_
    refine nl (h := ?_)
    refine q_seq (h := ?_)
    refine cd (by exact rfl) (fun h2 => ?_) (fun h2 => ?_)
    · skip
      have hin : i < t.sl.length := by have := of_decide_eq_true h2; omega
      have hxe := enI_at (TOk.at_ hin)
      refine skp (h := ?_)
      refine q_seq (h := ?_)
      refine sq (h := ?_)
      refine bk (h := ?_)
      refine sq (h := ?_)
      refine sq (h := ?_)
      refine rg (h := ?_)
      refine wy (by first | exact fa | exact faE) ?_
      refine wy (by first | exact ld | exact ldE) ?_
      refine wy mv ?_
      refine wy (ix (A := t.A) (m := t.sl.length) (hb := by omega)) ?_
      refine wy (ldE (hk := hxe)) ?_
      refine cl0 (hc := fun w hS => C_ref7_within (t.sl.getD i 0) (-1) 999 w) (h := ?_)
      refine wy notB ?_
      refine wy mv ?_
      apply brOr 21 33 54 (by exact rfl)
      · intro hb3
        refine un (h := ?_)
        refine wy mv ?_
        refine un (h := ?_)
        refine wy remI ?_
        refine un (h := ?_)
        refine wy eql ?_
        refine un (h := ?_)
        refine wy mv ?_
        apply brAnd 7 37 44 (by exact rfl)
        · intro hb4
          have ho : ((i : Nat) : Int) % 2 = 1 := of_decide_eq_true hb4
          refine un (h := ?_)
          refine wy (by first | exact fa | exact faE) ?_
          refine un (h := ?_)
          refine wy (by first | exact ld | exact ldE) ?_
          refine un (h := ?_)
          refine wy mv ?_
          refine un (h := ?_)
          refine wy (ix (A := t.A) (m := t.sl.length) (hb := by omega)) ?_
          refine un (h := ?_)
          refine wy (ldE (hk := hxe)) ?_
          refine un (h := ?_)
          refine wy eql ?_
          refine un (h := ?_)
          refine wy (by first | exact pkT | exact pkF) ?_
          exact mg (by repeat (first | exact trivial | refine ⟨rfl, ?_⟩ | refine ⟨by rw [hb4]; rfl, ?_⟩ | refine ⟨by rw [hb3]; rfl, ?_⟩)) slz_
        · intro hb4
          repeat (first | refine un (h := ?_) | refine sk (h := ?_) | refine WL.y (hy := pkF) (h := ?_) | refine WL.y (hy := pkT) (h := ?_))
          exact mg (by repeat (first | exact trivial | refine ⟨rfl, ?_⟩ | refine ⟨by rw [hb4]; rfl, ?_⟩ | refine ⟨by rw [hb3]; rfl, ?_⟩)) slz_
        refine un (h := ?_)
        refine wy mv ?_
        apply brAnd 8 45 53 (by exact rfl)
        · intro hb5
          have hio : i % 2 = 1 := by have h9 := hb5; rw [Bool.and_eq_true, decide_eq_true_eq] at h9; omega
          have hye : (enI t.sl)[((i : Int) - 1).toNat]? = some [.int .i64 (t.sl.getD (i - 1) 0)] := by rw [show ((i : Int) - 1).toNat = i - 1 by omega]; exact enI_at (TOk.at_ (by omega))
          refine un (h := ?_)
          refine wy (by first | exact fa | exact faE) ?_
          refine un (h := ?_)
          refine wy (by first | exact ld | exact ldE) ?_
          refine un (h := ?_)
          refine wy mv ?_
          refine un (h := ?_)
          refine wy subI ?_
          refine un (h := ?_)
          refine wy (ix (A := t.A) (m := t.sl.length) (hb := by omega)) ?_
          refine un (h := ?_)
          refine wy (ldE (hk := hye)) ?_
          refine un (h := ?_)
          refine wy eql ?_
          refine un (h := ?_)
          refine wy (by first | exact pkT | exact pkF) ?_
          exact mg (by repeat (first | exact trivial | refine ⟨rfl, ?_⟩ | refine ⟨by rw [hb5]; rfl, ?_⟩ | refine ⟨by rw [hb3]; rfl, ?_⟩)) slz_
        · intro hb5
          repeat (first | refine un (h := ?_) | refine sk (h := ?_) | refine WL.y (hy := pkF) (h := ?_) | refine WL.y (hy := pkT) (h := ?_))
          exact mg (by repeat (first | exact trivial | refine ⟨rfl, ?_⟩ | refine ⟨by rw [hb5]; rfl, ?_⟩ | refine ⟨by rw [hb3]; rfl, ?_⟩)) slz_
        refine wy (by first | exact pkT | exact pkF) ?_
        exact mg (by repeat (first | exact trivial | refine ⟨rfl, ?_⟩ | refine ⟨by rw [hb3]; rfl, ?_⟩)) slz_
      · intro hb3
        repeat (first | refine un (h := ?_) | refine sk (h := ?_) | refine WL.y (hy := pkF) (h := ?_) | refine WL.y (hy := pkT) (h := ?_))
        exact mg (by repeat (first | exact trivial | refine ⟨rfl, ?_⟩ | refine ⟨by rw [hb3]; rfl, ?_⟩)) slz_
      refine nl (h := ?_)
      refine q_seq (h := ?_)
      refine cd (by exact rfl) (fun h6 => ?_) (fun h6 => ?_)
      · skip
        have hbad : ¬ TOk t := fun hk => by
          have h9 := h6
          have hu := hk.up
          have h8 : win (t.sl.getD i 0) (-1) 999 = true := win_iff.2 (hu.rng i hin)
          rw [h8] at h9
          simp only [Bool.not_true, Bool.false_or, Bool.and_eq_true, decide_eq_true_eq] at h9
          exact hu.nb i hin (by omega) h9.1.2 (by have := h9.2; exact this)
        refine sq (h := ?_)
        refine rg (h := ?_)
        refine wy asg ?_
        refine nl (h := ?_)
        refine q_seq (h := ?_)
        refine rtn (h := ?_)
        refine q_then_ret (h := ?_)
        refine q_blk_ret (h := ?_)
        refine q_then_ret (h := ?_)
        refine q_then_ret (h := ?_)
        refine q_blk_ret (h := ?_)
        refine q_then_ret (h := ?_)
        refine q_ret (hR := ?_)
        first
          | exact fun w hS => ⟨by rw [tokB_no hbad]; rfl, hS.sub .nil⟩
          | exact fun w hS => ⟨by rw [tokB_iff.2 hfin]; rfl, hS.sub .nil⟩
      · skip
        have h9 := h6
        rw [Bool.or_eq_false_iff, Bool.not_eq_false'] at h9
        have hrg := win_iff.1 h9.1
        have hnb : i % 2 = 1 → t.sl.getD i 0 = -1 → t.sl.getD (i - 1) 0 = -1 → False := fun a1 a2 a3 => by
          have h8 := h9.2
          rw [a2, a3, decide_eq_true (show ((i : Nat) : Int) % 2 = 1 by omega)] at h8
          simp at h8
        refine skp (h := ?_)
        refine q_seq (h := ?_)
        refine sq (h := ?_)
        refine rg (h := ?_)
        refine wy asg ?_
        refine WL.cut (by repeat (first | exact Cut.nil | apply Cut.hit | apply Cut.miss (by exact rfl))) ?_
        refine nl (h := ?_)
        refine q_seq (h := ?_)
        refine bk (h := ?_)
        refine lp (X := Nat) (I := fun k => k ≤ i ∧ ∀ j, j < k → t.sl.getD j 0 = t.sl.getD i 0 → t.sl.getD i 0 = -1) (le := fun k => [(1, .pointer (some ⟨b0, 0, none⟩)), (3, .int .i64 i), (4, .int .i64 k)]) (Le := fun _ => [.blk b0 24 t.cells, .ro t.A 1 t.sl.length (enI t.sl)]) (μ := fun k => i - k) 0 ⟨Nat.zero_le _, fun j h9 => absurd h9 (Nat.not_lt_zero _)⟩ sbz_ slz_ (fun k hk => ?_)
        obtain ⟨hkL, hJ⟩ := hk
        refine sq (h := ?_)
        refine sq (h := ?_)
        refine rg (h := ?_)
        refine wy mv ?_
        refine wy mv ?_
        refine wy lss ?_
        refine nl (h := ?_)
        refine q_seq (h := ?_)
        refine cd (by exact rfl) (fun h7 => ?_) (fun h7 => ?_)
        · skip
          have hkn : k < i := by have := of_decide_eq_true h7; omega
          have hye := enI_at (TOk.at_ (t := t) (i := k) (by omega))
          refine skp (h := ?_)
          refine q_seq (h := ?_)
          refine sq (h := ?_)
          refine bk (h := ?_)
          refine sq (h := ?_)
          refine rgD (by kernel_rfl) [(1000000, .blk b0 24 t.cells), (1000000, .ro t.A 1 t.sl.length (enI t.sl))] (by repeat (first | exact HS.nil | (apply HS.keep; (repeat (first | exact At.here | apply At.there))) | (apply HS.ro; (repeat (first | exact Rds.ro | exact Rds.own | apply Rds.there))))) (h := ?_)
          refine tk 0 (hy := (by first | exact fa | exact faE)) (h := ?_)
          refine tk 1 (hy := (by first | exact ld | exact ldE)) (h := ?_)
          refine tk 2 (hy := mv) (h := ?_)
          refine tk 3 (hy := ix (A := t.A) (m := t.sl.length) (hb := by omega)) (h := ?_)
          refine tk 4 (hy := ldE (A := t.A) (hk := hye)) (h := ?_)
          refine tk 5 (hy := (by first | exact fa | exact faE)) (h := ?_)
          refine tk 6 (hy := (by first | exact ld | exact ldE)) (h := ?_)
          refine tk 7 (hy := mv) (h := ?_)
          refine tk 8 (hy := ix (A := t.A) (m := t.sl.length) (hb := by omega)) (h := ?_)
          refine tk 9 (hy := ldE (A := t.A) (hk := hxe)) (h := ?_)
          refine tk 10 (hy := eql) (h := ?_)
          refine tk 11 (hy := mv) (h := ?_)
          refine brH (g := 71) (by exact rfl) (fun hb8 => ?_) (fun hb8 => ?_)
          · skip
            have he71 := of_decide_eq_true hb8
            refine tk 12 (hy := (by first | exact fa | exact faE)) (h := ?_)
            refine tk 13 (hy := (by first | exact ld | exact ldE)) (h := ?_)
            refine tk 14 (hy := mv) (h := ?_)
            refine tk 15 (hy := ix (A := t.A) (m := t.sl.length) (hb := by omega)) (h := ?_)
            refine tk 16 (hy := ldE (A := t.A) (hk := hxe)) (h := ?_)
            refine tk 17 (hy := neq) (h := ?_)
            refine tk 18 (hy := (by first | exact pkT | exact pkF)) (h := ?_)
            refine dn (h := ?_)
            refine q_seq (h := ?_)
            refine cd (by exact rfl) (fun h9 => ?_) (fun h9 => ?_)
            · skip
              have hbad : ¬ TOk t := fun hk => by
                have h7 := hk.up.inj k i hkn hin he71
                have h9 : (!decide (t.sl.getD i 0 = -1)) = true := h9
                rw [decide_eq_true h7] at h9
                simp at h9
              refine sq (h := ?_)
              refine rg (h := ?_)
              refine wy asg ?_
              refine nl (h := ?_)
              refine q_seq (h := ?_)
              refine rtn (h := ?_)
              refine q_blk_ret (h := ?_)
              refine q_then_ret (h := ?_)
              refine q_then_ret (h := ?_)
              refine q_blk_ret (h := ?_)
              refine q_blk_ret (h := ?_)
              refine q_then_ret (h := ?_)
              refine q_then_ret (h := ?_)
              refine q_blk_ret (h := ?_)
              refine q_then_ret (h := ?_)
              refine q_ret (hR := ?_)
              first
                | exact fun w hS => ⟨by rw [tokB_no hbad]; rfl, hS.sub .nil⟩
                | exact fun w hS => ⟨by rw [tokB_iff.2 hfin]; rfl, hS.sub .nil⟩
            · skip
              have hne : t.sl.getD k 0 = t.sl.getD i 0 → t.sl.getD i 0 = -1 := fun a1 => by
                first
                  | exact absurd a1 he71n
                  | exact Decidable.byContradiction fun h8 => absurd (show (!decide (t.sl.getD i 0 = -1)) = false by assumption) (by rw [decide_eq_false h8]; decide)
              refine skp (h := ?_)
              refine q_blk_norm (h := ?_)
              refine q_seq (h := ?_)
              refine rg (h := ?_)
              refine wy mv ?_
              refine wy addI ?_
              refine wy asg ?_
              refine WL.cut (by repeat (first | exact Cut.nil | apply Cut.hit | apply Cut.miss (by exact rfl))) ?_
              refine nl (h := ?_)
              refine rn (x := k) (k + 1) ⟨hkn, fun j h8 h9 => by
                by_cases e : j = k
                · rw [e] at h9; exact hne h9
                · exact hJ j (by omega) h9⟩ (by omega) sbz_ slz_
          · skip
            have he71n := of_decide_eq_false hb8
            refine tkS 12 (h := ?_)
            refine tkS 13 (h := ?_)
            refine tkS 14 (h := ?_)
            refine tkS 15 (h := ?_)
            refine tkS 16 (h := ?_)
            refine tkS 17 (h := ?_)
            refine tk 18 (hy := (by first | exact pkT | exact pkF)) (h := ?_)
            refine dn (h := ?_)
            refine q_seq (h := ?_)
            refine cdF (h := ?_)
            have hne : t.sl.getD k 0 = t.sl.getD i 0 → t.sl.getD i 0 = -1 := fun a1 => by
              first
                | exact absurd a1 he71n
                | exact Decidable.byContradiction fun h8 => absurd (show (!decide (t.sl.getD i 0 = -1)) = false by assumption) (by rw [decide_eq_false h8]; decide)
            refine skp (h := ?_)
            refine q_blk_norm (h := ?_)
            refine q_seq (h := ?_)
            refine rg (h := ?_)
            refine wy mv ?_
            refine wy addI ?_
            refine wy asg ?_
            refine WL.cut (by repeat (first | exact Cut.nil | apply Cut.hit | apply Cut.miss (by exact rfl))) ?_
            refine nl (h := ?_)
            refine rn (x := k) (k + 1) ⟨hkn, fun j h8 h9 => by
              by_cases e : j = k
              · rw [e] at h9; exact hne h9
              · exact hJ j (by omega) h9⟩ (by omega) sbz_ slz_
        · skip
          have hkn : k = i := by have := of_decide_eq_false h7; omega
          rw [hkn] at hJ
          have hU2 : TUp t.sl (i + 1) := ⟨fun j hj => by
            by_cases e : j = i
            · rw [e]; exact hrg
            · exact hU.rng j (by omega), fun j hj => by
            by_cases e : j = i
            · rw [e]; exact hnb
            · exact hU.nb j (by omega), fun a j h1 h2 h3 => by
            by_cases e : j = i
            · rw [e] at h3 ⊢; exact hJ a (by omega) h3
            · exact hU.inj a j h1 (by omega) h3⟩
          refine et (h := ?_)
          refine q_then_exit (h := ?_)
          refine q_then_exit (h := ?_)
          refine q_blk_hit (h := ?_)
          refine q_blk_norm (h := ?_)
          refine q_seq (h := ?_)
          refine rg (h := ?_)
          refine wy mv ?_
          refine wy addI ?_
          refine wy asg ?_
          refine WL.cut (by repeat (first | exact Cut.nil | apply Cut.hit | apply Cut.miss (by exact rfl))) ?_
          refine nl (h := ?_)
          refine rn (x := i) (i + 1) ⟨hin, hU2⟩ (by omega) sbz_ slz_
    · skip
      have hin : i = t.sl.length := by have := of_decide_eq_false h2; omega
      rw [hin] at hU
      have hfin : TOk t := hU.ok hR hN
      refine et (h := ?_)
      refine q_then_exit (h := ?_)
      refine q_then_exit (h := ?_)
      refine q_blk_hit (h := ?_)
      refine q_seq (h := ?_)
      refine sq (h := ?_)
      refine rg (h := ?_)
      refine wy asg ?_
      refine nl (h := ?_)
      refine q_seq (h := ?_)
      refine rtn (h := ?_)
      refine q_ret (hR := ?_)
      first
        | exact fun w hS => ⟨by rw [tokB_no hbad]; rfl, hS.sub .nil⟩
        | exact fun w hS => ⟨by rw [tokB_iff.2 hfin]; rfl, hS.sub .nil⟩
theorem TOk.sz0 {t : Tre} (h : TOk t) : (t.sl.length : Int) = 2 * t.sz 0 := by
  obtain ⟨k, hk⟩ : ∃ k, t.R.toNat = k + 1 := ⟨t.R.toNat - 1, by have := h.r; omega⟩
  have hR := h.r
  unfold Tre.sz
  rw [h.n, hk, show (t.R - 1 - 0).toNat = k by omega, Nat.pow_succ]
  push_cast
  omega
set_option maxRecDepth 100000 in
theorem C_ref7_isSlip (t : Tre) (x : Sl) (ht : TOk t) (hn : t.sl.length ≤ 1000000) (w : World) (h : Rd w t.A 1 t.sl.length (enI t.sl)) : C0 Tryz.prog 36 [t.val, x.val] w (.bool (slpB t x)) := by
  have hz := ht.sz0
  refine ⟨en Tryz.func36 Tryz.ntmps36 ((St.init w).share (e := .ro t.A 1 t.sl.length (enI t.sl)) h rfl rfl rfl) (h := fun F => ?_)⟩
  refine sq (h := ?_)
  refine rg (h := ?_)
  refine bxA (h := fun b0 => ?_)
  refine bxA (h := fun b1 => ?_)
  refine wy asg ?_
  refine nl (h := ?_)
  refine q_seq (h := ?_)
  refine sq (h := ?_)
  refine sq (h := ?_)
  refine rg (h := ?_)
  refine wy (by first | exact fa | exact faE) ?_
  refine wy (by first | exact ld | exact ldE) ?_
  refine cl0 (hc := fun w hS => C_ref7_within x.player 0 999 w) (h := ?_)
  refine wy notB ?_
  refine nl (h := ?_)
  refine q_seq (h := ?_)
  refine cd (by exact rfl) (fun h0 => ?_) (fun h0 => ?_)
  · skip
    have k1 : win x.player 0 999 = false := by rwa [Bool.not_eq_true'] at h0
    refine sq (h := ?_)
    refine rg (h := ?_)
    refine wy asg ?_
    refine nl (h := ?_)
    refine q_seq (h := ?_)
    refine rtn (h := ?_)
    refine q_then_ret (h := ?_)
    refine q_ret (hR := ?_)
    exact fun w hS => ⟨by rw [slpB, k1]; rfl, hS.sub .nil⟩
  · skip
    have k1 : win x.player 0 999 = true := by rwa [Bool.not_eq_false'] at h0
    refine skp (h := ?_)
    refine q_seq (h := ?_)
    refine sq (h := ?_)
    refine sq (h := ?_)
    refine rg (h := ?_)
    refine wy (by first | exact fa | exact faE) ?_
    refine wy (by first | exact ld | exact ldE) ?_
    refine wy eql ?_
    refine nl (h := ?_)
    refine q_seq (h := ?_)
    refine cd (by exact rfl) (fun h1 => ?_) (fun h1 => ?_)
    · skip
      have k5 : decide (x.kind = 5) = true := h1
      refine sq (h := ?_)
      refine rg (h := ?_)
      refine wy (by first | exact fa | exact faE) ?_
      refine wy (by first | exact ld | exact ldE) ?_
      refine wy eql ?_
      refine wy mv ?_
      apply brAnd 8 15 23 (by exact rfl)
      · intro hb2
        refine un (h := ?_)
        refine wy (by first | exact fa | exact faE) ?_
        refine un (h := ?_)
        refine wy (by first | exact ld | exact ldE) ?_
        refine un (h := ?_)
        refine wy (by first | exact fa | exact faE) ?_
        refine un (h := ?_)
        refine wy (by first | exact ld | exact ldE) ?_
        refine un (h := ?_)
        refine wy lenS ?_
        refine un (h := ?_)
        refine wy subI ?_
        refine un (h := ?_)
        refine cl0 (hc := fun w hS => C_ref7_within x.place 0 ((t.sl.length : Int) - 1) w) (h := ?_)
        refine wy (by first | exact pkT | exact pkF) ?_
        exact mg (by repeat (first | exact trivial | refine ⟨rfl, ?_⟩ | refine ⟨by rw [hb2]; rfl, ?_⟩)) slz_
      · intro hb2
        repeat (first | refine un (h := ?_) | refine sk (h := ?_) | refine WL.y (hy := pkF) (h := ?_) | refine WL.y (hy := pkT) (h := ?_))
        exact mg (by repeat (first | exact trivial | refine ⟨rfl, ?_⟩ | refine ⟨by rw [hb2]; rfl, ?_⟩)) slz_
      refine wy mv ?_
      apply brAnd 4 24 28 (by exact rfl)
      · intro hb3
        refine un (h := ?_)
        refine wy (by first | exact fa | exact faE) ?_
        refine un (h := ?_)
        refine wy (by first | exact ld | exact ldE) ?_
        refine un (h := ?_)
        refine cl0 (hc := fun w hS => C_ref7_within x.old 0 999 w) (h := ?_)
        refine wy (by first | exact pkT | exact pkF) ?_
        exact mg (by repeat (first | exact trivial | refine ⟨rfl, ?_⟩ | refine ⟨by rw [hb3]; rfl, ?_⟩)) slz_
      · intro hb3
        repeat (first | refine un (h := ?_) | refine sk (h := ?_) | refine WL.y (hy := pkF) (h := ?_) | refine WL.y (hy := pkT) (h := ?_))
        exact mg (by repeat (first | exact trivial | refine ⟨rfl, ?_⟩ | refine ⟨by rw [hb3]; rfl, ?_⟩)) slz_
      refine wy asg ?_
      refine nl (h := ?_)
      refine q_seq (h := ?_)
      refine rtn (h := ?_)
      refine q_then_ret (h := ?_)
      refine q_ret (hR := ?_)
      exact fun w hS => ⟨by rw [slpB, k1, k5]; rfl, hS.sub .nil⟩
    · skip
      have k5 : decide (x.kind = 5) = false := h1
      refine skp (h := ?_)
      refine q_seq (h := ?_)
      refine sq (h := ?_)
      refine sq (h := ?_)
      refine rg (h := ?_)
      refine wy (by first | exact fa | exact faE) ?_
      refine wy (by first | exact ld | exact ldE) ?_
      refine cl0 (hc := fun w hS => C_ref7_within x.kind 1 4 w) (h := ?_)
      refine wy notB ?_
      refine wy mv ?_
      apply brOr 8 33 41 (by exact rfl)
      · intro hb4
        refine un (h := ?_)
        refine wy (by first | exact ldA | exact ldEA) ?_
        refine un (h := ?_)
        refine wy (by first | exact fa | exact faE) ?_
        refine un (h := ?_)
        refine wy (by first | exact ld | exact ldE) ?_
        refine un (h := ?_)
        refine wy (by first | exact fa | exact faE) ?_
        refine un (h := ?_)
        refine wy (by first | exact ld | exact ldE) ?_
        refine un (h := ?_)
        refine cl0 (hc := fun w hS => C_ref7_IsMatch t x.round x.place ht.r w) (h := ?_)
        refine un (h := ?_)
        refine wy notB ?_
        refine wy (by first | exact pkT | exact pkF) ?_
        exact mg (by repeat (first | exact trivial | refine ⟨rfl, ?_⟩ | refine ⟨by rw [hb4]; rfl, ?_⟩)) slz_
      · intro hb4
        repeat (first | refine un (h := ?_) | refine sk (h := ?_) | refine WL.y (hy := pkF) (h := ?_) | refine WL.y (hy := pkT) (h := ?_))
        exact mg (by repeat (first | exact trivial | refine ⟨rfl, ?_⟩ | refine ⟨by rw [hb4]; rfl, ?_⟩)) slz_
      refine wy mv ?_
      apply brOr 4 42 46 (by exact rfl)
      · intro hb5
        refine un (h := ?_)
        refine wy (by first | exact fa | exact faE) ?_
        refine un (h := ?_)
        refine wy (by first | exact ld | exact ldE) ?_
        refine un (h := ?_)
        refine wy neq ?_
        refine wy (by first | exact pkT | exact pkF) ?_
        exact mg (by repeat (first | exact trivial | refine ⟨rfl, ?_⟩ | refine ⟨by rw [hb5]; rfl, ?_⟩)) slz_
      · intro hb5
        repeat (first | refine un (h := ?_) | refine sk (h := ?_) | refine WL.y (hy := pkF) (h := ?_) | refine WL.y (hy := pkT) (h := ?_))
        exact mg (by repeat (first | exact trivial | refine ⟨rfl, ?_⟩ | refine ⟨by rw [hb5]; rfl, ?_⟩)) slz_
      refine nl (h := ?_)
      refine q_seq (h := ?_)
      refine cd (by exact rfl) (fun h6 => ?_) (fun h6 => ?_)
      · skip
        have k46 : ((win x.kind 1 4 && matchB t x.round x.place) && decide (x.old = 0)) = false := by
          have h9 := h6
          revert h9
          cases win x.kind 1 4 <;> cases matchB t x.round x.place <;> cases decide (x.old = 0) <;> decide
        refine sq (h := ?_)
        refine rg (h := ?_)
        refine wy asg ?_
        refine nl (h := ?_)
        refine q_seq (h := ?_)
        refine rtn (h := ?_)
        refine q_then_ret (h := ?_)
        refine q_ret (hR := ?_)
        exact fun w hS => ⟨by rw [slpB, k1, k5, cond_false, k46]; rfl, hS.sub .nil⟩
      · skip
        have h9 := h6
        rw [Bool.or_eq_false_iff, Bool.or_eq_false_iff, Bool.not_eq_false', Bool.not_eq_false', Bool.not_eq_false'] at h9
        have k46 : ((win x.kind 1 4 && matchB t x.round x.place) && decide (x.old = 0)) = true := by rw [h9.1.1, h9.1.2, h9.2]; rfl
        have hrg := match_rng h9.1.2
        refine skp (h := ?_)
        refine q_seq (h := ?_)
        refine sq (h := ?_)
        refine rg (h := ?_)
        refine wy (by first | exact fa | exact faE) ?_
        refine wy (by first | exact ld | exact ldE) ?_
        refine wy gtr ?_
        refine wy mv ?_
        apply brOr 20 50 70 (by exact rfl)
        · intro hb7
          have hr0 : x.round = 0 := by have := of_decide_eq_false hb7; omega
          have hpl : 0 ≤ x.place ∧ x.place ≤ t.sz 0 - 1 := by have := hrg.2; rw [hr0] at this; exact this
          have e1 := enI_at (TOk.at_ (t := t) (i := (2 * x.place).toNat) (by omega))
          have e2 := enI_at (TOk.at_ (t := t) (i := (2 * x.place + 1).toNat) (by omega))
          refine un (h := ?_)
          refine wy (by first | exact fa | exact faE) ?_
          refine un (h := ?_)
          refine wy (by first | exact ld | exact ldE) ?_
          refine un (h := ?_)
          refine wy (by first | exact fa | exact faE) ?_
          refine un (h := ?_)
          refine wy (by first | exact ld | exact ldE) ?_
          refine un (h := ?_)
          refine wy (mulI (hb := by omega)) ?_
          refine un (h := ?_)
          refine wy (ix (A := t.A) (m := t.sl.length) (hb := by omega)) ?_
          refine un (h := ?_)
          refine wy (ldE (hk := e1)) ?_
          refine un (h := ?_)
          refine wy neq ?_
          refine un (h := ?_)
          refine wy mv ?_
          apply brAnd 10 59 69 (by exact rfl)
          · intro hb8
            refine un (h := ?_)
            refine wy (by first | exact fa | exact faE) ?_
            refine un (h := ?_)
            refine wy (by first | exact ld | exact ldE) ?_
            refine un (h := ?_)
            refine wy (by first | exact fa | exact faE) ?_
            refine un (h := ?_)
            refine wy (by first | exact ld | exact ldE) ?_
            refine un (h := ?_)
            refine wy (mulI (hb := by omega)) ?_
            refine un (h := ?_)
            refine wy (addI (hb := by omega)) ?_
            refine un (h := ?_)
            refine wy (ix (A := t.A) (m := t.sl.length) (hb := by omega)) ?_
            refine un (h := ?_)
            refine wy (ldE (hk := e2)) ?_
            refine un (h := ?_)
            refine wy neq ?_
            refine un (h := ?_)
            refine wy (by first | exact pkT | exact pkF) ?_
            exact mg (by repeat (first | exact trivial | refine ⟨rfl, ?_⟩ | refine ⟨by rw [hb8]; rfl, ?_⟩ | refine ⟨by rw [hb7]; rfl, ?_⟩)) slz_
          · intro hb8
            repeat (first | refine un (h := ?_) | refine sk (h := ?_) | refine WL.y (hy := pkF) (h := ?_) | refine WL.y (hy := pkT) (h := ?_))
            exact mg (by repeat (first | exact trivial | refine ⟨rfl, ?_⟩ | refine ⟨by rw [hb8]; rfl, ?_⟩ | refine ⟨by rw [hb7]; rfl, ?_⟩)) slz_
          refine wy (by first | exact pkT | exact pkF) ?_
          exact mg (by repeat (first | exact trivial | refine ⟨rfl, ?_⟩ | refine ⟨by rw [hb7]; rfl, ?_⟩)) slz_
        · intro hb7
          repeat (first | refine un (h := ?_) | refine sk (h := ?_) | refine WL.y (hy := pkF) (h := ?_) | refine WL.y (hy := pkT) (h := ?_))
          exact mg (by repeat (first | exact trivial | refine ⟨rfl, ?_⟩ | refine ⟨by rw [hb7]; rfl, ?_⟩)) slz_
        refine wy asg ?_
        refine nl (h := ?_)
        refine q_seq (h := ?_)
        refine rtn (h := ?_)
        refine q_ret (hR := ?_)
        exact fun w hS => ⟨by rw [slpB, k1, k5, cond_false, k46]; rfl, hS.sub .nil⟩
def twB (o : List Sl) (x : Sl) (k : Nat) : Bool := decide (x ∈ o.take k)
theorem twB_succ {o : List Sl} {x y : Sl} {k : Nat} (h : o[k]? = some y) : twB o x (k + 1) = (twB o x k || decide (y = x)) := by
  unfold twB
  rw [List.take_add_one, h]
  simp [eq_comm]
theorem sl_ext {x y : Sl} : ([x.kind, x.round, x.place, x.player, x.old] = [y.kind, y.round, y.place, y.player, y.old]) = (x = y) := by
  cases x; cases y
  simp [Sl.mk.injEq]
section
variable {P : Program} {n : Nat} {D : List Deferred} {l : Env} {w0 : World} {L : List Ent}
theorem eqSl {a b : Operand} {t u : TypeId} {x y : Sl} (hE : EqS P t 5 := by infer_instance) (hx : ev l a = some (.agg x.cells.toArray) := by exact rfl) (hy : ev l b = some (.agg y.cells.toArray) := by exact rfl) : Yd P n D l w0 L (.binOp .eql t a b u) (.bool (decide (x = y))) := by
  have h := eqlT (P := P) (n := n) (D := D) (w0 := w0) (L := L) (u := u) (hE := hE) (hx := hx) (hy := hy)
  rwa [decide_eq_decide.2 (iff_of_eq (sl_ext (x := x) (y := y)))] at h
theorem neSl {a b : Operand} {t u : TypeId} {x y : Sl} (hE : EqS P t 5 := by infer_instance) (hx : ev l a = some (.agg x.cells.toArray) := by exact rfl) (hy : ev l b = some (.agg y.cells.toArray) := by exact rfl) : Yd P n D l w0 L (.binOp .neq t a b u) (.bool (!decide (x = y))) := by
  have h := neqT (P := P) (n := n) (D := D) (w0 := w0) (L := L) (u := u) (hE := hE) (hx := hx) (hy := hy)
  rwa [decide_eq_decide.2 (iff_of_eq (sl_ext (x := x) (y := y)))] at h
end
structure OnZ where
  (k : Nat) (A : Option Addr) (c : Nat)
set_option maxRecDepth 100000 in
set_option maxHeartbeats 1000000 in
theorem C_ref7_once (l : List Sl) (A : Option Addr) (c : Nat) (hn : l.length ≤ 1000000) (w : World) (h : Rd w A 5 l.length (encSl l)) : CR Tryz.prog 65 [.slice A l.length c] w (fun _ : Option Addr × Nat => True) (fun q => .slice q.1 (onceL l).length q.2) (fun q => [.own q.1 q.2 54 5 (onceL l).length (encSl (onceL l))]) := by
  refine ⟨en Tryz.func65 Tryz.ntmps65 ((St.init w).share (e := .ro A 5 l.length (encSl l)) h rfl rfl rfl) (h := fun F => ?_)⟩
  refine sq (h := ?_)
  refine rg (h := ?_)
  refine wy asg ?_
  refine WL.cut (by repeat (first | exact Cut.nil | apply Cut.hit | apply Cut.miss (by exact rfl))) ?_
  refine nl (h := ?_)
  refine q_seq (h := ?_)
  refine sq (h := ?_)
  refine rg (h := ?_)
  refine wy asg ?_
  refine WL.cut (by repeat (first | exact Cut.nil | apply Cut.hit | apply Cut.miss (by exact rfl))) ?_
  refine nl (h := ?_)
  refine q_seq (h := ?_)
  refine sq (h := ?_)
  refine sq (h := ?_)
  refine WC.nilOwn 54 5 (h := ?_)
  refine rg (h := ?_)
  refine wy asg ?_
  refine WL.cut (by repeat (first | exact Cut.nil | apply Cut.hit | apply Cut.miss (by exact rfl))) ?_
  refine nl (h := ?_)
  refine q_seq (h := ?_)
  refine bk (h := ?_)
  refine lp (X := OnZ) (I := fun z => z.k ≤ l.length) (le := fun z => [(0, .slice A l.length c), (3, .slice z.A (onceL (l.take z.k)).length z.c), (4, .int .i64 z.k)]) (Le := fun z => .own z.A z.c 54 5 (onceL (l.take z.k)).length (encSl (onceL (l.take z.k))) :: [.ro A 5 l.length (encSl l)]) (μ := fun z => l.length - z.k) ⟨0, none, 0⟩ (Nat.zero_le _) sbz_ slz_ (fun z hz => ?_)
  refine sq (h := ?_)
  refine sq (h := ?_)
  refine rg (h := ?_)
  refine wy mv ?_
  refine wy mv ?_
  refine wy lenS ?_
  refine wy lss ?_
  refine nl (h := ?_)
  refine q_seq (h := ?_)
  refine cd (by exact rfl) (fun h0 => ?_) (fun h0 => ?_)
  · skip
    have hkn : z.k < l.length := by have := of_decide_eq_true h0; omega
    obtain ⟨x, hx⟩ : ∃ x, l[z.k]? = some x := ⟨_, List.getElem?_eq_getElem hkn⟩
    have hxe := encSl_at hx
    have hsn : onceL (l.take (z.k + 1)) = addO (onceL (l.take z.k)) x := by rw [List.take_add_one, hx, Option.toList_some, once_snoc]
    have hol := once_len (l.take z.k)
    rw [List.length_take] at hol
    refine skp (h := ?_)
    refine q_seq (h := ?_)
    refine sq (h := ?_)
    refine bk (h := ?_)
    refine sq (h := ?_)
    refine rg (h := ?_)
    refine wy asg ?_
    refine WL.cut (by repeat (first | exact Cut.nil | apply Cut.hit | apply Cut.miss (by exact rfl))) ?_
    refine nl (h := ?_)
    refine q_seq (h := ?_)
    refine sq (h := ?_)
    refine sq (h := ?_)
    refine rg (h := ?_)
    refine wy asg ?_
    refine WL.cut (by repeat (first | exact Cut.nil | apply Cut.hit | apply Cut.miss (by exact rfl))) ?_
    refine nl (h := ?_)
    refine q_seq (h := ?_)
    refine bk (h := ?_)
    refine lp (X := Nat) (I := fun j => j ≤ (onceL (l.take z.k)).length) (le := fun j => [(0, .slice A l.length c), (3, .slice z.A (onceL (l.take z.k)).length z.c), (4, .int .i64 z.k), (5, .bool (twB (onceL (l.take z.k)) x j)), (6, .int .i64 j)]) (Le := fun _ => .own z.A z.c 54 5 (onceL (l.take z.k)).length (encSl (onceL (l.take z.k))) :: [.ro A 5 l.length (encSl l)]) (μ := fun j => (onceL (l.take z.k)).length - j) 0 (Nat.zero_le _) (by rw [show twB (onceL (l.take z.k)) x 0 = false from rfl]; repeat (first | exact trivial | refine ⟨rfl, ?_⟩)) slz_ (fun j hj => ?_)
    refine sq (h := ?_)
    refine sq (h := ?_)
    refine rg (h := ?_)
    refine wy mv ?_
    refine wy mv ?_
    refine wy lenS ?_
    refine wy lss ?_
    refine nl (h := ?_)
    refine q_seq (h := ?_)
    refine cd (by exact rfl) (fun h1 => ?_) (fun h1 => ?_)
    · skip
      have hjn : j < (onceL (l.take z.k)).length := by have := of_decide_eq_true h1; omega
      obtain ⟨y, hy⟩ : ∃ y, (onceL (l.take z.k))[j]? = some y := ⟨_, List.getElem?_eq_getElem hjn⟩
      have hye := encSl_at hy
      have htw := twB_succ (x := x) hy
      refine skp (h := ?_)
      refine q_seq (h := ?_)
      refine sq (h := ?_)
      refine bk (h := ?_)
      refine rgD (by kernel_rfl) [(1000000, .own z.A z.c 54 5 (onceL (l.take z.k)).length (encSl (onceL (l.take z.k)))), (1000000, .ro A 5 l.length (encSl l))] (by repeat (first | exact HS.nil | (apply HS.keep; (repeat (first | exact At.here | apply At.there))) | (apply HS.ro; (repeat (first | exact Rds.ro | exact Rds.own | apply Rds.there))))) (h := ?_)
      refine tk 0 (hy := mv) (h := ?_)
      refine tk 1 (hy := mv) (h := ?_)
      refine brH (g := 20) (by exact rfl) (fun hb2 => ?_) (fun hb2 => ?_)
      · skip
        have ht : twB (onceL (l.take z.k)) x j = true := hb2
        refine tkS 2 (h := ?_)
        refine tkS 3 (h := ?_)
        refine tkS 4 (h := ?_)
        refine tkS 5 (h := ?_)
        refine tkS 6 (h := ?_)
        refine tkS 7 (h := ?_)
        refine tkS 8 (h := ?_)
        refine tkS 9 (h := ?_)
        refine tkS 10 (h := ?_)
        refine tk 11 (hy := (by first | exact pkT | exact pkF)) (h := ?_)
        refine tk 12 (hy := asg) (h := ?_)
        refine dn (h := ?_)
        refine q_blk_norm (h := ?_)
        refine q_seq (h := ?_)
        refine rg (h := ?_)
        refine wy mv ?_
        refine wy addI ?_
        refine wy asg ?_
        refine WL.cut (by repeat (first | exact Cut.nil | apply Cut.hit | apply Cut.miss (by exact rfl))) ?_
        refine nl (h := ?_)
        refine rn (x := j) (j + 1) hjn (by omega) (by rw [htw]; first | (rw [ht, Bool.false_or]; repeat (first | exact trivial | refine ⟨rfl, ?_⟩)) | (rw [ht, Bool.true_or]; repeat (first | exact trivial | refine ⟨rfl, ?_⟩))) slz_
      · skip
        have ht : twB (onceL (l.take z.k)) x j = false := hb2
        refine tk 2 (hy := mv) (h := ?_)
        refine tk 3 (hy := mv) (h := ?_)
        refine tk 4 (hy := ix (m := (onceL (l.take z.k)).length) (hb := by omega)) (h := ?_)
        refine tk 5 (hy := ldEW (cs := y.cells) (hk := hye)) (h := ?_)
        refine tk 6 (hy := mv) (h := ?_)
        refine tk 7 (hy := mv) (h := ?_)
        refine tk 8 (hy := ix (A := A) (m := l.length) (hb := by omega)) (h := ?_)
        refine tk 9 (hy := ldEW (A := A) (cs := x.cells) (hk := hxe)) (h := ?_)
        refine tk 10 (hy := eqSl (x := y) (y := x)) (h := ?_)
        refine tk 11 (hy := (by first | exact pkT | exact pkF)) (h := ?_)
        refine tk 12 (hy := asg) (h := ?_)
        refine dn (h := ?_)
        refine q_blk_norm (h := ?_)
        refine q_seq (h := ?_)
        refine rg (h := ?_)
        refine wy mv ?_
        refine wy addI ?_
        refine wy asg ?_
        refine WL.cut (by repeat (first | exact Cut.nil | apply Cut.hit | apply Cut.miss (by exact rfl))) ?_
        refine nl (h := ?_)
        refine rn (x := j) (j + 1) hjn (by omega) (by rw [htw]; first | (rw [ht, Bool.false_or]; repeat (first | exact trivial | refine ⟨rfl, ?_⟩)) | (rw [ht, Bool.true_or]; repeat (first | exact trivial | refine ⟨rfl, ?_⟩))) slz_
    · skip
      have hjn : j = (onceL (l.take z.k)).length := by have := of_decide_eq_false h1; omega
      rw [hjn, twB, List.take_length]
      refine et (h := ?_)
      refine q_then_exit (h := ?_)
      refine q_then_exit (h := ?_)
      refine q_blk_hit (h := ?_)
      refine q_seq (h := ?_)
      refine sq (h := ?_)
      refine rg (h := ?_)
      refine wy mv ?_
      refine wy notB ?_
      refine nl (h := ?_)
      refine q_seq (h := ?_)
      refine cd (by exact rfl) (fun h3 => ?_) (fun h3 => ?_)
      · skip
        have hin : ¬ x ∈ onceL (l.take z.k) := of_decide_eq_false (by rwa [Bool.not_eq_true'] at h3)
        rw [addO, if_neg hin] at hsn
        refine rg (h := ?_)
        refine wy mv ?_
        refine wy mv ?_
        refine wy mv ?_
        refine wy (ix (A := A) (m := l.length) (hb := by omega)) ?_
        refine wy (ldEW (A := A) (cs := x.cells) (hk := hxe)) ?_
        refine bs (h := fun b0 => ?_)
        refine ap (es := encSl (onceL (l.take z.k))) (m := (onceL (l.take z.k)).length) (k := 1) (A := z.A) (c := z.c) (h := fun A1 c1 => ?_)
        rw [show encSl (onceL (l.take z.k)) ++ [x.cells] = encSl (onceL (l.take (z.k + 1))) by rw [hsn, encSl_snoc], show (onceL (l.take z.k)).length + 1 = (onceL (l.take (z.k + 1))).length by rw [hsn, List.length_append]; rfl]
        refine wy asg ?_
        refine WL.cut (by repeat (first | exact Cut.nil | apply Cut.hit | apply Cut.miss (by exact rfl))) ?_
        refine nl (h := ?_)
        refine q_blk_norm (h := ?_)
        refine q_seq (h := ?_)
        refine rg (h := ?_)
        refine wy mv ?_
        refine wy addI ?_
        refine wy asg ?_
        refine WL.cut (by repeat (first | exact Cut.nil | apply Cut.hit | apply Cut.miss (by exact rfl))) ?_
        refine nl (h := ?_)
        first
          | (refine rn (x := z) ⟨z.k + 1, A1, c1⟩ hkn (by dsimp only; omega) sbz_ slz_; done)
          | (refine rn (x := z) ⟨z.k + 1, z.A, z.c⟩ hkn (by dsimp only; omega) (by dsimp only; rw [hsn]; repeat (first | exact trivial | refine ⟨rfl, ?_⟩)) (by dsimp only; rw [hsn]; exact slz_); done)
      · skip
        have hin : x ∈ onceL (l.take z.k) := of_decide_eq_true (by rwa [Bool.not_eq_false'] at h3)
        rw [addO, if_pos hin] at hsn
        refine skp (h := ?_)
        refine q_blk_norm (h := ?_)
        refine q_seq (h := ?_)
        refine rg (h := ?_)
        refine wy mv ?_
        refine wy addI ?_
        refine wy asg ?_
        refine WL.cut (by repeat (first | exact Cut.nil | apply Cut.hit | apply Cut.miss (by exact rfl))) ?_
        refine nl (h := ?_)
        first
          | (refine rn (x := z) ⟨z.k + 1, A1, c1⟩ hkn (by dsimp only; omega) sbz_ slz_; done)
          | (refine rn (x := z) ⟨z.k + 1, z.A, z.c⟩ hkn (by dsimp only; omega) (by dsimp only; rw [hsn]; repeat (first | exact trivial | refine ⟨rfl, ?_⟩)) (by dsimp only; rw [hsn]; exact slz_); done)
  · skip
    have hkn : z.k = l.length := by have := of_decide_eq_false h0; omega
    refine et (h := ?_)
    refine q_then_exit (h := ?_)
    refine q_then_exit (h := ?_)
    refine q_blk_hit (h := ?_)
    refine q_seq (h := ?_)
    refine sq (h := ?_)
    refine rg (h := ?_)
    refine wy mv ?_
    refine wy asg ?_
    refine WL.cut (by repeat (first | exact Cut.nil | apply Cut.hit | apply Cut.miss (by exact rfl))) ?_
    refine nl (h := ?_)
    refine q_seq (h := ?_)
    refine rtn (h := ?_)
    refine q_ret (hR := ?_)
    exact fun w hS => ⟨(z.A, z.c), trivial, by rw [hkn, List.take_length]; rfl, by rw [hkn, List.take_length] at hS; exact hS.sub slz_⟩
theorem C_ref7_in (l : List Int) (x : Int) (A : Option Addr) (n c : Nat) (hln : l.length = n) (hn : n ≤ 1000000) (w : World) (h : Rd w A 1 n (enI l)) : C0 Tryz.prog 84 [.slice A n c, .int .i64 x] w (.bool (decide (x ∈ l))) := by
  refine ⟨en Tryz.func84 Tryz.ntmps84 ((St.init w).share (e := .ro A 1 n (enI l)) h rfl rfl rfl) (h := fun F => ?_)⟩
  refine sq (h := ?_)
  refine rg (h := ?_)
  refine wy asg ?_
  refine nl (h := ?_)
  refine q_seq (h := ?_)
  refine sq (h := ?_)
  refine sq (h := ?_)
  refine rg (h := ?_)
  refine wy asg ?_
  refine nl (h := ?_)
  refine q_seq (h := ?_)
  refine bk (h := ?_)
  refine lp (X := Nat) (I := fun k => k ≤ n ∧ ¬ x ∈ l.take k) (le := fun k => [(0, .slice A n c), (1, .int .i64 x), (5, .int .i64 k)]) (Le := fun _ => [.ro A 1 n (enI l)]) (μ := fun k => n - k) 0 ⟨Nat.zero_le _, by simp⟩ sbz_ slz_ (fun k hk => ?_)
  obtain ⟨hk1, hk2⟩ := hk
  refine sq (h := ?_)
  refine sq (h := ?_)
  refine rg (h := ?_)
  refine wy mv ?_
  refine wy mv ?_
  refine wy lenS ?_
  refine wy lss ?_
  refine nl (h := ?_)
  refine q_seq (h := ?_)
  refine cd (by exact rfl) (fun h0 => ?_) (fun h0 => ?_)
  · skip
    have hkn : k < n := by have := of_decide_eq_true h0; omega
    obtain ⟨y, hy⟩ : ∃ y, l[k]? = some y := ⟨_, List.getElem?_eq_getElem (by omega)⟩
    have hye := enI_at hy
    refine skp (h := ?_)
    refine q_seq (h := ?_)
    refine sq (h := ?_)
    refine bk (h := ?_)
    refine sq (h := ?_)
    refine rg (h := ?_)
    refine wy mv ?_
    refine wy mv ?_
    refine wy (ix (A := A) (m := n) (hb := by omega)) ?_
    refine wy (ldE (hk := hye)) ?_
    refine wy mv ?_
    refine wy eql ?_
    refine nl (h := ?_)
    refine q_seq (h := ?_)
    refine cd (by exact rfl) (fun h1 => ?_) (fun h1 => ?_)
    · skip
      have hyx : y = x := of_decide_eq_true h1
      have hyes : x ∈ l := hyx ▸ List.mem_of_getElem? hy
      refine sq (h := ?_)
      refine rg (h := ?_)
      refine wy asg ?_
      refine nl (h := ?_)
      refine q_seq (h := ?_)
      refine rtn (h := ?_)
      refine q_blk_ret (h := ?_)
      refine q_then_ret (h := ?_)
      refine q_then_ret (h := ?_)
      refine q_blk_ret (h := ?_)
      refine q_then_ret (h := ?_)
      refine q_ret (hR := ?_)
      first
        | exact fun w hS => ⟨by rw [decide_eq_true hyes]; rfl, hS.sub .nil⟩
        | exact fun w hS => ⟨by rw [decide_eq_false hno]; rfl, hS.sub .nil⟩
    · skip
      have hyx : ¬ y = x := of_decide_eq_false h1
      refine skp (h := ?_)
      refine q_blk_norm (h := ?_)
      refine q_seq (h := ?_)
      refine rg (h := ?_)
      refine wy mv ?_
      refine wy addI ?_
      refine wy asg ?_
      refine nl (h := ?_)
      refine rn (x := k) (k + 1) ⟨hkn, by rw [List.take_add_one, hy, List.mem_append]; exact fun h9 => h9.elim hk2 fun h8 => hyx (List.mem_singleton.1 h8).symm⟩ (by omega) sbz_ slz_
  · skip
    have hkn : k = n := by have := of_decide_eq_false h0; omega
    have hno : ¬ x ∈ l := fun h9 => hk2 (by rw [hkn, ← hln, List.take_length]; exact h9)
    refine et (h := ?_)
    refine q_then_exit (h := ?_)
    refine q_then_exit (h := ?_)
    refine q_blk_hit (h := ?_)
    refine q_seq (h := ?_)
    refine sq (h := ?_)
    refine rg (h := ?_)
    refine wy asg ?_
    refine nl (h := ?_)
    refine q_seq (h := ?_)
    refine rtn (h := ?_)
    refine q_ret (hR := ?_)
    first
      | exact fun w hS => ⟨by rw [decide_eq_true hyes]; rfl, hS.sub .nil⟩
      | exact fun w hS => ⟨by rw [decide_eq_false hno]; rfl, hS.sub .nil⟩
end Go.Proofs.YtmlhnajgiopfgaaGreat

namespace Go.Proofs.YtmlhnajgiopfgaaGreat
open Go Go.RowKit

theorem cand_succ {all : List Sl} {i now : Int} {j : Nat} {x : Sl} (h : all[j]? = some x) : cand (all.take (j + 1)) i now = if candB i now x = true then cand (all.take j) i now ++ [x.player] else cand (all.take j) i now := by
  unfold cand
  rw [List.take_add_one, h, Option.toList_some, List.filter_append, List.map_append, List.filter_cons]
  split
  · rfl
  · rw [List.filter_nil, List.map_nil, List.append_nil]
theorem lucky_succ {all : List Sl} {j : Nat} {x : Sl} (h : all[j]? = some x) : luckyN (all.take (j + 1)) = luckyN (all.take j) + if x.kind = 5 then 1 else 0 := by
  unfold luckyN
  rw [List.take_add_one, h, Option.toList_some, List.filter_append, List.filter_cons, List.length_append]
  by_cases e : x.kind = 5
  · rw [if_pos (decide_eq_true e), if_pos e]; rfl
  · rw [if_neg (by simp [e]), if_neg e]; rfl
theorem lucky_rng (all : List Sl) : 0 ≤ luckyN all ∧ luckyN all ≤ all.length := by
  unfold luckyN
  have := List.length_filter_le (fun s : Sl => decide (s.kind = 5)) all
  omega
theorem plG_none {all : List Sl} {sl : List Int} {k : Nat} (h : plG all sl k = none) : ∀ m, k ≤ m → plG all sl m = none
  | 0, hm => by rw [show (0 : Nat) = k by omega]; exact h
  | m + 1, hm => by
    by_cases e : k = m + 1
    · rw [← e]; exact h
    · rw [plG, plG_none h m (by omega)]
theorem plG_bad {all : List Sl} {sl : List Int} {k : Nat} {q : PSt} (h : plG all sl k = some q) (hc : chain all k ⟨sl.getD k 0, q.ever, q.used⟩ = none) : plG all sl (k + 1) = none := by rw [plG, h]; dsimp only; rw [hc]
theorem plG_next {all : List Sl} {sl : List Int} {k : Nat} {q : PSt} {s : CSt} (h : plG all sl k = some q) (hc : chain all k ⟨sl.getD k 0, q.ever, q.used⟩ = some s) : plG all sl (k + 1) = some ⟨q.out ++ [s.now], s.ever, s.used⟩ := by rw [plG, h]; dsimp only; rw [hc]
theorem players_none {t : Tre} {l : List Sl} (h : plG (onceL l) t.sl t.sl.length = none) : playersV t l = none := by unfold playersV; rw [h]
theorem players_some {t : Tre} {l : List Sl} {q : PSt} (h : plG (onceL l) t.sl t.sl.length = some q) : playersV t l = if q.used = luckyN (onceL l) then some q.out else none := by unfold playersV; rw [h]
theorem cand_len (all : List Sl) (i now : Int) : (cand all i now).length ≤ all.length := by
  unfold cand
  rw [List.length_map]
  exact List.length_filter_le ..
theorem miss_len (all : List Sl) (ever : List Int) : missN all ever ≤ all.length := List.length_filter_le ..
theorem at_getD {l : List Int} {i : Nat} (h : i < l.length) : l[i]? = some (l.getD i 0) := by rw [getD_lt h, List.getElem?_eq_getElem h]
theorem one_getD {l : List Int} {n0 : Int} (h : l.length = 1) (hn : n0 = l.getD 0 0) : l = [n0] := by
  obtain ⟨x, rfl⟩ := List.length_eq_one_iff.1 h
  rw [hn]; rfl
structure PlZ where
  (k : Nat) (q : PSt) (eA : Option Addr) (ec : Nat) (oA : Option Addr) (oc : Nat)
structure ChZ where
  (s : CSt) (g : Bool) (A : Option Addr) (c : Nat)
structure PlR where
  (b : Bool) (out : List Int) (A : Option Addr) (c : Nat)
def PlP (t : Tre) (l : List Sl) (q : PlR) : Prop := (q.b = true → playersV t l = some q.out) ∧ (q.b = false → playersV t l = none)
structure ChI (all : List Sl) (k : Nat) (s0 s : CSt) (g : Bool) : Prop where
  t : g = true → chain all k s0 = chain all k s
  f : g = false → chain all k s0 = some s
  u : 0 ≤ s.used ∧ s.used + missN all s.ever ≤ all.length
  e : s.ever.length ≤ s0.ever.length + s.used.toNat
set_option maxRecDepth 100000 in
set_option maxHeartbeats 2000000 in
theorem C_ref7_Players (t : Tre) (l : List Sl) (A : Option Addr) (c : Nat) (hn : t.sl.length ≤ 1000) (hl : l.length ≤ 1000) (w : World) (h : Rd w t.A 1 t.sl.length (enI t.sl)) (hL : Rd w A 5 l.length (encSl l)) :
    CR Tryz.prog 63 [t.val, .slice A l.length c] w (PlP t l) (fun q => .tuple #[.slice q.A q.out.length q.c, .bool q.b]) (fun q => [.own q.A q.c 3 1 q.out.length (enI q.out)]) := by
  obtain ⟨all, hall⟩ : ∃ all, all = onceL l := ⟨_, rfl⟩
  have hal : all.length ≤ l.length := by rw [hall]; exact once_len l
  refine ⟨en Tryz.func63 Tryz.ntmps63 (((St.init w).share (e := .ro t.A 1 t.sl.length (enI t.sl)) h rfl rfl rfl).share (e := .ro A 5 l.length (encSl l)) hL rfl rfl rfl) (h := fun F => ?_)⟩
  refine sq (h := ?_)
  refine rg (h := ?_)
  refine bxA (h := fun b0 => ?_)
  refine wy asg ?_
  refine WL.cut (by repeat (first | exact Cut.nil | apply Cut.hit | apply Cut.miss (by exact rfl))) ?_
  refine wy asg ?_
  refine WL.cut (by repeat (first | exact Cut.nil | apply Cut.hit | apply Cut.miss (by exact rfl))) ?_
  refine nl (h := ?_)
  refine q_seq (h := ?_)
  refine sq (h := ?_)
  refine rg (h := ?_)
  refine wy mv ?_
  refine cl (hc := fun w hS => C_ref7_once l A c (by omega) w (hS.get rdz_)) (h := fun x0 _ => ?_)
  refine wy asg ?_
  refine WL.cut (by repeat (first | exact Cut.nil | apply Cut.hit | apply Cut.miss (by exact rfl))) ?_
  refine nl (h := ?_)
  refine q_seq (h := ?_)
  refine sq (h := ?_)
  refine WC.toRo (A := x0.1) .here ?_
  rw [← hall]
  refine rg (h := ?_)
  refine bs (h := fun b1 => ?_)
  refine wy (by first | exact fa | exact faE) ?_
  refine wy (by first | exact ld | exact ldE) ?_
  refine ap (es := []) (es2 := enI t.sl) (m := 0) (k := t.sl.length) (A := some ⟨b1, 0, none⟩) (A2 := t.A) (h := fun A1 c1 => ?_)
  rw [List.nil_append, Nat.zero_add]
  refine wy asg ?_
  refine WL.cut (by repeat (first | exact Cut.nil | apply Cut.hit | apply Cut.miss (by exact rfl))) ?_
  refine nl (h := ?_)
  refine q_seq (h := ?_)
  refine sq (h := ?_)
  refine rg (h := ?_)
  refine wy asg ?_
  refine WL.cut (by repeat (first | exact Cut.nil | apply Cut.hit | apply Cut.miss (by exact rfl))) ?_
  refine nl (h := ?_)
  refine q_seq (h := ?_)
  refine sq (h := ?_)
  refine WC.nilOwn 3 1 (h := ?_)
  refine rg (h := ?_)
  refine wy asg ?_
  refine WL.cut (by repeat (first | exact Cut.nil | apply Cut.hit | apply Cut.miss (by exact rfl))) ?_
  refine nl (h := ?_)
  refine q_seq (h := ?_)
  refine sq (h := ?_)
  refine sq (h := ?_)
  refine rg (h := ?_)
  refine wy asg ?_
  refine WL.cut (by repeat (first | exact Cut.nil | apply Cut.hit | apply Cut.miss (by exact rfl))) ?_
  refine nl (h := ?_)
  refine q_seq (h := ?_)
  refine bk (h := ?_)
  refine lp (X := PlZ) (I := fun z => z.k ≤ t.sl.length ∧ plG all t.sl z.k = some z.q ∧ (0 ≤ z.q.used ∧ z.q.used + missN all z.q.ever ≤ all.length) ∧ z.q.ever.length ≤ t.sl.length + z.q.used.toNat) (le := fun z => [(2, .pointer (some ⟨b0, 0, none⟩)), (6, .slice x0.1 all.length x0.2), (7, .slice z.eA z.q.ever.length z.ec), (8, .slice z.oA z.q.out.length z.oc), (9, .int .i64 z.q.used), (10, .int .i64 z.k)]) (Le := fun z => [.own z.oA z.oc 3 1 z.q.out.length (enI z.q.out), .own z.eA z.ec 3 1 z.q.ever.length (enI z.q.ever), .blk b0 24 t.cells, .ro x0.1 5 all.length (encSl all), .ro t.A 1 t.sl.length (enI t.sl)]) (μ := fun z => t.sl.length - z.k) ⟨0, ⟨[], t.sl, 0⟩, A1, c1, none, 0⟩ ⟨Nat.zero_le _, rfl, ⟨Int.le_refl _, by have := miss_len all t.sl; dsimp only; omega⟩, Nat.le_refl _⟩ sbz_ slz_ (fun z hz => ?_)
  obtain ⟨hzk, hzq, hzu, hze⟩ := hz
  have hqn := (plG_ok all t.sl z.k z.q hzk hzq).n
  refine sq (h := ?_)
  refine sq (h := ?_)
  refine rg (h := ?_)
  refine wy mv ?_
  refine wy (by first | exact fa | exact faE) ?_
  refine wy (by first | exact ld | exact ldE) ?_
  refine wy lenS ?_
  refine wy lss ?_
  refine nl (h := ?_)
  refine q_seq (h := ?_)
  refine cd (by exact rfl) (fun h0 => ?_) (fun h0 => ?_)
  · skip
    have hkn : z.k < t.sl.length := by have := of_decide_eq_true h0; omega
    have hke := enI_at (TOk.at_ hkn)
    refine skp (h := ?_)
    refine q_seq (h := ?_)
    refine sq (h := ?_)
    refine bk (h := ?_)
    refine sq (h := ?_)
    refine rg (h := ?_)
    refine wy (by first | exact fa | exact faE) ?_
    refine wy (by first | exact ld | exact ldE) ?_
    refine wy mv ?_
    refine wy (ix (A := t.A) (m := t.sl.length) (hb := by omega)) ?_
    refine wy (ldE (hk := hke)) ?_
    refine wy asg ?_
    refine WL.cut (by repeat (first | exact Cut.nil | apply Cut.hit | apply Cut.miss (by exact rfl))) ?_
    refine nl (h := ?_)
    refine q_seq (h := ?_)
    refine sq (h := ?_)
    refine sq (h := ?_)
    refine rg (h := ?_)
    refine wy asg ?_
    refine WL.cut (by repeat (first | exact Cut.nil | apply Cut.hit | apply Cut.miss (by exact rfl))) ?_
    refine nl (h := ?_)
    refine q_seq (h := ?_)
    refine bk (h := ?_)
    refine lp (X := ChZ) (I := fun y => ChI all z.k ⟨t.sl.getD z.k 0, z.q.ever, z.q.used⟩ y.s y.g ∧ y.s.ever.length ≤ t.sl.length + y.s.used.toNat) (le := fun y => [(2, .pointer (some ⟨b0, 0, none⟩)), (6, .slice x0.1 all.length x0.2), (7, .slice y.A y.s.ever.length y.c), (8, .slice z.oA z.q.out.length z.oc), (9, .int .i64 y.s.used), (10, .int .i64 z.k), (11, .int .i64 y.s.now), (12, .bool y.g)]) (Le := fun y => [.own y.A y.c 3 1 y.s.ever.length (enI y.s.ever), .own z.oA z.oc 3 1 z.q.out.length (enI z.q.out), .blk b0 24 t.cells, .ro x0.1 5 all.length (encSl all), .ro t.A 1 t.sl.length (enI t.sl)]) (μ := fun y => if y.g = true then missN all y.s.ever + 1 else 0) ⟨⟨t.sl.getD z.k 0, z.q.ever, z.q.used⟩, true, z.eA, z.ec⟩ ⟨⟨fun _ => rfl, fun h9 => (by cases h9), hzu, Nat.le_add_right _ _⟩, hze⟩ sbz_ slz_ (fun y hy => ?_)
    obtain ⟨hy, hyl⟩ := hy
    have hyu := hy.u
    refine sq (h := ?_)
    refine sq (h := ?_)
    refine rg (h := ?_)
    refine wy mv ?_
    refine nl (h := ?_)
    refine q_seq (h := ?_)
    refine cd (by exact rfl) (fun h1 => ?_) (fun h1 => ?_)
    · skip
      have hg : y.g = true := h1
      have hyt := hy.t hg
      refine skp (h := ?_)
      refine q_seq (h := ?_)
      refine bk (h := ?_)
      refine sq (h := ?_)
      refine rg (h := ?_)
      refine wy asg ?_
      refine WL.cut (by repeat (first | exact Cut.nil | apply Cut.hit | apply Cut.miss (by exact rfl))) ?_
      refine nl (h := ?_)
      refine q_seq (h := ?_)
      refine sq (h := ?_)
      refine rg (h := ?_)
      refine wy asg ?_
      refine WL.cut (by repeat (first | exact Cut.nil | apply Cut.hit | apply Cut.miss (by exact rfl))) ?_
      refine nl (h := ?_)
      refine q_seq (h := ?_)
      refine sq (h := ?_)
      refine sq (h := ?_)
      refine WC.nilOwn 3 1 (h := ?_)
      refine rg (h := ?_)
      refine wy asg ?_
      refine WL.cut (by repeat (first | exact Cut.nil | apply Cut.hit | apply Cut.miss (by exact rfl))) ?_
      refine nl (h := ?_)
      refine q_seq (h := ?_)
      refine bk (h := ?_)
      refine lp (X := OnZ) (I := fun v => v.k ≤ all.length) (le := fun v => [(2, .pointer (some ⟨b0, 0, none⟩)), (6, .slice x0.1 all.length x0.2), (7, .slice y.A y.s.ever.length y.c), (8, .slice z.oA z.q.out.length z.oc), (9, .int .i64 y.s.used), (10, .int .i64 z.k), (11, .int .i64 y.s.now), (12, .bool false), (13, .slice v.A (cand (all.take v.k) z.k y.s.now).length v.c), (14, .int .i64 v.k)]) (Le := fun v => [.own v.A v.c 3 1 (cand (all.take v.k) z.k y.s.now).length (enI (cand (all.take v.k) z.k y.s.now)), .own y.A y.c 3 1 y.s.ever.length (enI y.s.ever), .own z.oA z.oc 3 1 z.q.out.length (enI z.q.out), .blk b0 24 t.cells, .ro x0.1 5 all.length (encSl all), .ro t.A 1 t.sl.length (enI t.sl)]) (μ := fun v => all.length - v.k) ⟨0, none, 0⟩ (Nat.zero_le _) sbz_ slz_ (fun v hv => ?_)
      refine sq (h := ?_)
      refine sq (h := ?_)
      refine rg (h := ?_)
      refine wy mv ?_
      refine wy mv ?_
      refine wy lenS ?_
      refine wy lss ?_
      refine nl (h := ?_)
      refine q_seq (h := ?_)
      refine cd (by exact rfl) (fun h2 => ?_) (fun h2 => ?_)
      · skip
        have hvn : v.k < all.length := by have := of_decide_eq_true h2; omega
        obtain ⟨x, hx⟩ : ∃ x, all[v.k]? = some x := ⟨_, List.getElem?_eq_getElem hvn⟩
        have hxe := encSl_at hx
        have hcs := cand_succ (i := (z.k : Int)) (now := y.s.now) hx
        have hcl := cand_len (all.take v.k) z.k y.s.now
        rw [List.length_take] at hcl
        refine skp (h := ?_)
        refine q_seq (h := ?_)
        refine sq (h := ?_)
        refine bk (h := ?_)
        refine sq (h := ?_)
        refine rg (h := ?_)
        refine wy mv ?_
        refine wy mv ?_
        refine wy (ix (A := x0.1) (m := all.length) (hb := by omega)) ?_
        refine wy (by first | exact fa | exact faE) ?_
        refine wy (ldE (hk := hxe)) ?_
        refine wy eql ?_
        refine wy mv ?_
        apply brAnd 8 47 55 (by exact rfl)
        · intro hb3
          refine un (h := ?_)
          refine wy mv ?_
          refine un (h := ?_)
          refine wy mv ?_
          refine un (h := ?_)
          refine wy (ix (A := x0.1) (m := all.length) (hb := by omega)) ?_
          refine un (h := ?_)
          refine wy (by first | exact fa | exact faE) ?_
          refine un (h := ?_)
          refine wy (ldE (hk := hxe)) ?_
          refine un (h := ?_)
          refine wy mv ?_
          refine un (h := ?_)
          refine wy eql ?_
          refine wy (by first | exact pkT | exact pkF) ?_
          exact mg (by repeat (first | exact trivial | refine ⟨rfl, ?_⟩ | refine ⟨by rw [hb3]; rfl, ?_⟩)) slz_
        · intro hb3
          repeat (first | refine un (h := ?_) | refine sk (h := ?_) | refine WL.y (hy := pkF) (h := ?_) | refine WL.y (hy := pkT) (h := ?_))
          exact mg (by repeat (first | exact trivial | refine ⟨rfl, ?_⟩ | refine ⟨by rw [hb3]; rfl, ?_⟩)) slz_
        refine wy mv ?_
        apply brAnd 8 56 64 (by exact rfl)
        · intro hb4
          refine un (h := ?_)
          refine wy mv ?_
          refine un (h := ?_)
          refine wy mv ?_
          refine un (h := ?_)
          refine wy (ix (A := x0.1) (m := all.length) (hb := by omega)) ?_
          refine un (h := ?_)
          refine wy (by first | exact fa | exact faE) ?_
          refine un (h := ?_)
          refine wy (ldE (hk := hxe)) ?_
          refine un (h := ?_)
          refine wy mv ?_
          refine un (h := ?_)
          refine wy eql ?_
          refine wy (by first | exact pkT | exact pkF) ?_
          exact mg (by repeat (first | exact trivial | refine ⟨rfl, ?_⟩ | refine ⟨by rw [hb4]; rfl, ?_⟩)) slz_
        · intro hb4
          repeat (first | refine un (h := ?_) | refine sk (h := ?_) | refine WL.y (hy := pkF) (h := ?_) | refine WL.y (hy := pkT) (h := ?_))
          exact mg (by repeat (first | exact trivial | refine ⟨rfl, ?_⟩ | refine ⟨by rw [hb4]; rfl, ?_⟩)) slz_
        refine nl (h := ?_)
        refine q_seq (h := ?_)
        refine cd (by exact rfl) (fun h5 => ?_) (fun h5 => ?_)
        · skip
          have hcb : candB z.k y.s.now x = true := h5
          rw [if_pos hcb] at hcs
          refine rg (h := ?_)
          refine wy mv ?_
          refine wy mv ?_
          refine wy mv ?_
          refine wy (ix (A := x0.1) (m := all.length) (hb := by omega)) ?_
          refine wy (by first | exact fa | exact faE) ?_
          refine wy (ldE (hk := hxe)) ?_
          refine bs (h := fun b2 => ?_)
          refine ap (es := enI (cand (all.take v.k) z.k y.s.now)) (m := (cand (all.take v.k) z.k y.s.now).length) (k := 1) (A := v.A) (c := v.c) (h := fun A2 c2 => ?_)
          rw [show enI (cand (all.take v.k) z.k y.s.now) ++ [[Value.int .i64 x.player]] = enI (cand (all.take (v.k + 1)) z.k y.s.now) by rw [hcs]; unfold enI; rw [List.map_append]; rfl, show (cand (all.take v.k) z.k y.s.now).length + 1 = (cand (all.take (v.k + 1)) z.k y.s.now).length by rw [hcs, List.length_append]; rfl]
          refine wy asg ?_
          refine WL.cut (by repeat (first | exact Cut.nil | apply Cut.hit | apply Cut.miss (by exact rfl))) ?_
          refine nl (h := ?_)
          refine q_blk_norm (h := ?_)
          refine q_seq (h := ?_)
          refine rg (h := ?_)
          refine wy mv ?_
          refine wy addI ?_
          refine wy asg ?_
          refine WL.cut (by repeat (first | exact Cut.nil | apply Cut.hit | apply Cut.miss (by exact rfl))) ?_
          refine nl (h := ?_)
          first
            | (refine rn (x := v) ⟨v.k + 1, A2, c2⟩ hvn (by dsimp only; omega) sbz_ slz_; done)
            | (refine rn (x := v) ⟨v.k + 1, v.A, v.c⟩ hvn (by dsimp only; omega) (by dsimp only; rw [hcs]; repeat (first | exact trivial | refine ⟨rfl, ?_⟩)) (by dsimp only; rw [hcs]; exact slz_); done)
        · skip
          have hcb : candB z.k y.s.now x = false := h5
          rw [if_neg (by rw [hcb]; decide)] at hcs
          refine skp (h := ?_)
          refine q_blk_norm (h := ?_)
          refine q_seq (h := ?_)
          refine rg (h := ?_)
          refine wy mv ?_
          refine wy addI ?_
          refine wy asg ?_
          refine WL.cut (by repeat (first | exact Cut.nil | apply Cut.hit | apply Cut.miss (by exact rfl))) ?_
          refine nl (h := ?_)
          first
            | (refine rn (x := v) ⟨v.k + 1, A2, c2⟩ hvn (by dsimp only; omega) sbz_ slz_; done)
            | (refine rn (x := v) ⟨v.k + 1, v.A, v.c⟩ hvn (by dsimp only; omega) (by dsimp only; rw [hcs]; repeat (first | exact trivial | refine ⟨rfl, ?_⟩)) (by dsimp only; rw [hcs]; exact slz_); done)
      · skip
        have hvn : v.k = all.length := by have := of_decide_eq_false h2; omega
        have hcl := cand_len (all.take v.k) z.k y.s.now
        rw [List.length_take] at hcl
        have hca : cand (all.take v.k) z.k y.s.now = cand all z.k y.s.now := by rw [hvn, List.take_length]
        obtain ⟨n0, hn0e⟩ : ∃ n0, n0 = (cand (all.take v.k) z.k y.s.now).getD 0 0 := ⟨_, rfl⟩
        refine et (h := ?_)
        refine q_then_exit (h := ?_)
        refine q_then_exit (h := ?_)
        refine q_blk_hit (h := ?_)
        refine q_seq (h := ?_)
        refine sq (h := ?_)
        refine sq (h := ?_)
        refine rg (h := ?_)
        refine wy mv ?_
        refine wy lenS ?_
        refine wy gtr ?_
        refine wy mv ?_
        apply brOr 11 76 87 (by exact rfl)
        · intro hb6
          refine un (h := ?_)
          refine wy mv ?_
          refine un (h := ?_)
          refine wy lenS ?_
          refine un (h := ?_)
          refine wy eql ?_
          refine un (h := ?_)
          refine wy mv ?_
          apply brAnd 6 80 86 (by exact rfl)
          · intro hb7
            have hl1 : (cand (all.take v.k) z.k y.s.now).length = 1 := by have := of_decide_eq_true hb7; omega
            have hcn := one_getD hl1 hn0e
            have hn0 : (enI (cand (all.take v.k) z.k y.s.now))[0]? = some [.int .i64 n0] := by rw [hcn]; rfl
            refine un (h := ?_)
            refine wy mv ?_
            refine un (h := ?_)
            refine wy mv ?_
            refine un (h := ?_)
            refine wy (ix (A := v.A) (m := (cand (all.take v.k) z.k y.s.now).length) (hb := by omega)) ?_
            refine un (h := ?_)
            refine wy (ldE (hk := hn0)) ?_
            refine un (h := ?_)
            refine cl0 (hc := fun w hS => C_ref7_in y.s.ever n0 y.A y.s.ever.length y.c rfl (by omega) w (hS.get rdz_)) (h := ?_)
            refine un (h := ?_)
            refine wy (by first | exact pkT | exact pkF) ?_
            exact mg (by repeat (first | exact trivial | refine ⟨rfl, ?_⟩ | refine ⟨by rw [hb7]; rfl, ?_⟩ | refine ⟨by rw [hb6]; rfl, ?_⟩)) slz_
          · intro hb7
            repeat (first | refine un (h := ?_) | refine sk (h := ?_) | refine WL.y (hy := pkF) (h := ?_) | refine WL.y (hy := pkT) (h := ?_))
            exact mg (by repeat (first | exact trivial | refine ⟨rfl, ?_⟩ | refine ⟨by rw [hb7]; rfl, ?_⟩ | refine ⟨by rw [hb6]; rfl, ?_⟩)) slz_
          refine wy (by first | exact pkT | exact pkF) ?_
          exact mg (by repeat (first | exact trivial | refine ⟨rfl, ?_⟩ | refine ⟨by rw [hb6]; rfl, ?_⟩)) slz_
        · intro hb6
          repeat (first | refine un (h := ?_) | refine sk (h := ?_) | refine WL.y (hy := pkF) (h := ?_) | refine WL.y (hy := pkT) (h := ?_))
          exact mg (by repeat (first | exact trivial | refine ⟨rfl, ?_⟩ | refine ⟨by rw [hb6]; rfl, ?_⟩)) slz_
        refine nl (h := ?_)
        refine q_seq (h := ?_)
        refine cd (by exact rfl) (fun h8 => ?_) (fun h8 => ?_)
        · skip
          have hbad : chain all z.k y.s = none := by
            have h9 := h8
            rw [Bool.or_eq_true, Bool.and_eq_true, decide_eq_true_eq, decide_eq_true_eq, decide_eq_true_eq] at h9
            rcases h9 with h9 | h9
            · exact chain_many (by rw [← hca]; omega)
            · have hcn := one_getD (by omega) hn0e
              exact chain_old (hca ▸ hcn) h9.2
          have hbad2 := players_none (t := t) (l := l) (by rw [← hall]; exact plG_none (plG_bad hzq (by rw [hyt]; exact hbad)) _ hkn)
          refine sq (h := ?_)
          refine WC.nilOwn 3 1 (h := ?_)
          refine rg (h := ?_)
          refine wy asg ?_
          refine WL.cut (by repeat (first | exact Cut.nil | apply Cut.hit | apply Cut.miss (by exact rfl))) ?_
          refine wy asg ?_
          refine WL.cut (by repeat (first | exact Cut.nil | apply Cut.hit | apply Cut.miss (by exact rfl))) ?_
          refine nl (h := ?_)
          refine q_seq (h := ?_)
          refine rtn (h := ?_)
          refine q_then_ret (h := ?_)
          refine q_blk_ret (h := ?_)
          refine q_then_ret (h := ?_)
          refine q_blk_ret (h := ?_)
          refine q_then_ret (h := ?_)
          refine q_blk_ret (h := ?_)
          refine q_then_ret (h := ?_)
          refine q_then_ret (h := ?_)
          refine q_blk_ret (h := ?_)
          refine q_then_ret (h := ?_)
          refine q_ret (hR := ?_)
          exact fun w hS => ⟨⟨false, [], none, 0⟩, ⟨fun h9 => (by cases h9), fun _ => hbad2⟩, rfl, hS.sub slz_⟩
        · skip
          have h87 := h8
          refine skp (h := ?_)
          refine q_seq (h := ?_)
          refine sq (h := ?_)
          refine rg (h := ?_)
          refine wy mv ?_
          refine wy lenS ?_
          refine wy eql ?_
          refine nl (h := ?_)
          refine q_seq (h := ?_)
          refine cd (by exact rfl) (fun h9 => ?_) (fun h9 => ?_)
          · skip
            have hl1 : (cand (all.take v.k) z.k y.s.now).length = 1 := by have := of_decide_eq_true h9; omega
            have hcn := one_getD hl1 hn0e
            have hn0 : (enI (cand (all.take v.k) z.k y.s.now))[0]? = some [.int .i64 n0] := by rw [hcn]; rfl
            have hni : ¬ n0 ∈ y.s.ever := fun h9 => by
              rw [Bool.or_eq_false_iff, Bool.and_eq_false_iff, decide_eq_false_iff_not, decide_eq_false_iff_not, decide_eq_false_iff_not] at h87
              rcases h87.2 with h8 | h8
              · omega
              · exact h8 h9
            have hms := miss_lt (all := all) (i := z.k) (now := y.s.now) (x := n0) (by rw [← hca, hcn]; simp) hni
            have hcw := chain_new (hca ▸ hcn) hni
            refine sq (h := ?_)
            refine rg (h := ?_)
            refine wy mv ?_
            refine wy (ix (A := v.A) (m := (cand (all.take v.k) z.k y.s.now).length) (hb := by omega)) ?_
            refine wy (ldE (hk := hn0)) ?_
            refine wy asg ?_
            refine WL.cut (by repeat (first | exact Cut.nil | apply Cut.hit | apply Cut.miss (by exact rfl))) ?_
            refine nl (h := ?_)
            refine q_seq (h := ?_)
            refine sq (h := ?_)
            refine rg (h := ?_)
            refine wy mv ?_
            refine wy mv ?_
            refine bs (h := fun b3 => ?_)
            refine ap (es := enI y.s.ever) (m := y.s.ever.length) (k := 1) (A := y.A) (c := y.c) (h := fun A3 c3 => ?_)
            rw [show enI y.s.ever ++ [[Value.int .i64 n0]] = enI (y.s.ever ++ [n0]) by unfold enI; rw [List.map_append]; rfl, show y.s.ever.length + 1 = (y.s.ever ++ [n0]).length by rw [List.length_append]; rfl]
            refine wy asg ?_
            refine WL.cut (by repeat (first | exact Cut.nil | apply Cut.hit | apply Cut.miss (by exact rfl))) ?_
            refine nl (h := ?_)
            refine q_seq (h := ?_)
            refine sq (h := ?_)
            refine rg (h := ?_)
            refine wy mv ?_
            refine wy addI ?_
            refine wy asg ?_
            refine WL.cut (by repeat (first | exact Cut.nil | apply Cut.hit | apply Cut.miss (by exact rfl))) ?_
            refine nl (h := ?_)
            refine q_seq (h := ?_)
            refine rg (h := ?_)
            refine wy asg ?_
            refine WL.cut (by repeat (first | exact Cut.nil | apply Cut.hit | apply Cut.miss (by exact rfl))) ?_
            refine nl (h := ?_)
            refine q_blk_norm (h := ?_)
            first
              | (refine rn (x := y) ⟨y.s.nxt n0, true, A3, c3⟩ ⟨⟨fun _ => hyt.trans hcw, fun h9 => (by cases h9), ⟨by dsimp only; omega, by dsimp only; omega⟩, by have := hy.e; rw [List.length_append]; show _ + 1 ≤ _; dsimp only at *; omega⟩, by show (y.s.ever ++ [n0]).length ≤ t.sl.length + (y.s.used + 1).toNat; rw [List.length_append]; show _ + 1 ≤ _; omega⟩ (by dsimp only; rw [if_pos rfl, if_pos hg]; omega) sbz_ slz_; done)
              | (refine rn (x := y) ⟨y.s, false, y.A, y.c⟩ ⟨⟨fun h9 => (by cases h9), fun _ => hyt.trans hc0, hyu, hy.e⟩, hyl⟩ (by dsimp only; rw [if_neg (by decide), if_pos hg]; omega) sbz_ slz_; done)
          · skip
            have hc0 : chain all z.k y.s = some y.s := chain_nil (by
              rw [Bool.or_eq_false_iff, decide_eq_false_iff_not] at h87
              have h8 := of_decide_eq_false h9
              rw [← hca]
              exact List.eq_nil_of_length_eq_zero (by omega))
            refine skp (h := ?_)
            refine q_blk_norm (h := ?_)
            first
              | (refine rn (x := y) ⟨y.s.nxt n0, true, A3, c3⟩ ⟨⟨fun _ => hyt.trans hcw, fun h9 => (by cases h9), ⟨by dsimp only; omega, by dsimp only; omega⟩, by have := hy.e; rw [List.length_append]; show _ + 1 ≤ _; dsimp only at *; omega⟩, by show (y.s.ever ++ [n0]).length ≤ t.sl.length + (y.s.used + 1).toNat; rw [List.length_append]; show _ + 1 ≤ _; omega⟩ (by dsimp only; rw [if_pos rfl, if_pos hg]; omega) sbz_ slz_; done)
              | (refine rn (x := y) ⟨y.s, false, y.A, y.c⟩ ⟨⟨fun h9 => (by cases h9), fun _ => hyt.trans hc0, hyu, hy.e⟩, hyl⟩ (by dsimp only; rw [if_neg (by decide), if_pos hg]; omega) sbz_ slz_; done)
    · skip
      have hg : y.g = false := h1
      have hyf := hy.f hg
      have hpn := plG_next hzq hyf
      refine et (h := ?_)
      refine q_then_exit (h := ?_)
      refine q_then_exit (h := ?_)
      refine q_blk_hit (h := ?_)
      refine q_seq (h := ?_)
      refine rg (h := ?_)
      refine wy mv ?_
      refine wy mv ?_
      refine bs (h := fun b4 => ?_)
      refine ap (es := enI z.q.out) (m := z.q.out.length) (k := 1) (A := z.oA) (c := z.oc) (h := fun A4 c4 => ?_)
      rw [show enI z.q.out ++ [[Value.int .i64 y.s.now]] = enI (z.q.out ++ [y.s.now]) by unfold enI; rw [List.map_append]; rfl, show z.q.out.length + 1 = (z.q.out ++ [y.s.now]).length by rw [List.length_append]; rfl]
      refine wy asg ?_
      refine WL.cut (by repeat (first | exact Cut.nil | apply Cut.hit | apply Cut.miss (by exact rfl))) ?_
      refine nl (h := ?_)
      refine q_blk_norm (h := ?_)
      refine q_seq (h := ?_)
      refine rg (h := ?_)
      refine wy mv ?_
      refine wy addI ?_
      refine wy asg ?_
      refine WL.cut (by repeat (first | exact Cut.nil | apply Cut.hit | apply Cut.miss (by exact rfl))) ?_
      refine nl (h := ?_)
      refine rn (x := z) ⟨z.k + 1, ⟨z.q.out ++ [y.s.now], y.s.ever, y.s.used⟩, y.A, y.c, A4, c4⟩ ⟨hkn, hpn, hy.u, by have := hy.e; have := hy.u; have := hzu.1; dsimp only at *; omega⟩ (by dsimp only; omega) sbz_ slz_
  · skip
    have hkn : z.k = t.sl.length := by have := of_decide_eq_false h0; omega
    refine et (h := ?_)
    refine q_then_exit (h := ?_)
    refine q_then_exit (h := ?_)
    refine q_blk_hit (h := ?_)
    refine q_seq (h := ?_)
    refine sq (h := ?_)
    refine sq (h := ?_)
    refine rg (h := ?_)
    refine wy asg ?_
    refine WL.cut (by repeat (first | exact Cut.nil | apply Cut.hit | apply Cut.miss (by exact rfl))) ?_
    refine nl (h := ?_)
    refine q_seq (h := ?_)
    refine bk (h := ?_)
    refine lp (X := Nat) (I := fun j => j ≤ all.length) (le := fun j => [(6, .slice x0.1 all.length x0.2), (8, .slice z.oA z.q.out.length z.oc), (9, .int .i64 (z.q.used - luckyN (all.take j))), (15, .int .i64 j)]) (Le := fun _ => [.own z.oA z.oc 3 1 z.q.out.length (enI z.q.out), .ro x0.1 5 all.length (encSl all)]) (μ := fun j => all.length - j) 0 (Nat.zero_le _) (by rw [show luckyN (all.take 0) = 0 from rfl, Int.sub_zero]; repeat (first | exact trivial | refine ⟨rfl, ?_⟩)) slz_ (fun j hj => ?_)
    refine sq (h := ?_)
    refine sq (h := ?_)
    refine rg (h := ?_)
    refine wy mv ?_
    refine wy mv ?_
    refine wy lenS ?_
    refine wy lss ?_
    refine nl (h := ?_)
    refine q_seq (h := ?_)
    refine cd (by exact rfl) (fun h10 => ?_) (fun h10 => ?_)
    · skip
      have hjn : j < all.length := by have := of_decide_eq_true h10; omega
      obtain ⟨x, hx⟩ : ∃ x, all[j]? = some x := ⟨_, List.getElem?_eq_getElem hjn⟩
      have hxe := encSl_at hx
      have hls := lucky_succ hx
      have hlr := lucky_rng (all.take j)
      rw [List.length_take] at hlr
      refine skp (h := ?_)
      refine q_seq (h := ?_)
      refine sq (h := ?_)
      refine bk (h := ?_)
      refine sq (h := ?_)
      refine rg (h := ?_)
      refine wy mv ?_
      refine wy mv ?_
      refine wy (ix (A := x0.1) (m := all.length) (hb := by omega)) ?_
      refine wy (by first | exact fa | exact faE) ?_
      refine wy (ldE (hk := hxe)) ?_
      refine wy eql ?_
      refine nl (h := ?_)
      refine q_seq (h := ?_)
      refine cd (by exact rfl) (fun h11 => ?_) (fun h11 => ?_)
      · skip
        have hx5 : x.kind = 5 := of_decide_eq_true h11
        rw [if_pos hx5] at hls
        have hsub : z.q.used - luckyN (all.take (j + 1)) = z.q.used - luckyN (all.take j) - 1 := by omega
        refine rg (h := ?_)
        refine wy mv ?_
        refine wy subI ?_
        refine wy asg ?_
        refine WL.cut (by repeat (first | exact Cut.nil | apply Cut.hit | apply Cut.miss (by exact rfl))) ?_
        refine nl (h := ?_)
        refine q_blk_norm (h := ?_)
        refine q_seq (h := ?_)
        refine rg (h := ?_)
        refine wy mv ?_
        refine wy addI ?_
        refine wy asg ?_
        refine WL.cut (by repeat (first | exact Cut.nil | apply Cut.hit | apply Cut.miss (by exact rfl))) ?_
        refine nl (h := ?_)
        refine rn (x := j) (j + 1) hjn (by omega) (by rw [hsub]; repeat (first | exact trivial | refine ⟨rfl, ?_⟩)) slz_
      · skip
        have hx5 : ¬ x.kind = 5 := of_decide_eq_false h11
        rw [if_neg hx5, Int.add_zero] at hls
        have hsub : z.q.used - luckyN (all.take (j + 1)) = z.q.used - luckyN (all.take j) := by omega
        refine skp (h := ?_)
        refine q_blk_norm (h := ?_)
        refine q_seq (h := ?_)
        refine rg (h := ?_)
        refine wy mv ?_
        refine wy addI ?_
        refine wy asg ?_
        refine WL.cut (by repeat (first | exact Cut.nil | apply Cut.hit | apply Cut.miss (by exact rfl))) ?_
        refine nl (h := ?_)
        refine rn (x := j) (j + 1) hjn (by omega) (by rw [hsub]; repeat (first | exact trivial | refine ⟨rfl, ?_⟩)) slz_
    · skip
      have hjn : j = all.length := by have := of_decide_eq_false h10; omega
      have hfin : PlP t l ⟨decide (z.q.used - luckyN (all.take j) = 0), z.q.out, z.oA, z.oc⟩ := by
        have hps := players_some (t := t) (l := l) (q := z.q) (by rw [← hall, ← hkn]; exact hzq)
        rw [hjn, List.take_length]
        rw [← hall] at hps
        refine ⟨fun h9 => ?_, fun h9 => ?_⟩
        · have := of_decide_eq_true h9
          rw [hps, if_pos (by omega)]
        · have := of_decide_eq_false h9
          rw [hps, if_neg (by omega)]
      refine et (h := ?_)
      refine q_then_exit (h := ?_)
      refine q_then_exit (h := ?_)
      refine q_blk_hit (h := ?_)
      refine q_seq (h := ?_)
      refine sq (h := ?_)
      refine rg (h := ?_)
      refine wy mv ?_
      refine wy mv ?_
      refine wy eql ?_
      refine wy asg ?_
      refine WL.cut (by repeat (first | exact Cut.nil | apply Cut.hit | apply Cut.miss (by exact rfl))) ?_
      refine wy asg ?_
      refine WL.cut (by repeat (first | exact Cut.nil | apply Cut.hit | apply Cut.miss (by exact rfl))) ?_
      refine nl (h := ?_)
      refine q_seq (h := ?_)
      refine rtn (h := ?_)
      refine q_ret (hR := ?_)
      exact fun w hS => ⟨⟨decide (z.q.used - luckyN (all.take j) = 0), z.q.out, z.oA, z.oc⟩, hfin, rfl, hS.sub slz_⟩
end Go.Proofs.YtmlhnajgiopfgaaGreat
