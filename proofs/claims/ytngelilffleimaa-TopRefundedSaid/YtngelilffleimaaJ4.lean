/- The texts of the walk, part 4. -/
import Derived.Test.YtngelilffleimaaJ3
namespace Go.Proofs.Ytngelilffleimaa
open Go Go.RowKit

theorem C_ref8_within (n lo hi : Int) (w : World) : C0 Try.prog 17 [.int .i64 n, .int .i64 lo, .int .i64 hi] w (.bool (win n lo hi)) := by
  refine ⟨en Try.func17 Try.ntmps17 (St.init w) (h := fun F => ?_)⟩
  refine sq (h := ?_)
  refine rg (h := ?_)
  refine WL.y (hy := asg) (h := ?_)
  refine nl (h := ?_)
  refine q_seq (h := ?_)
  refine sq (h := ?_)
  refine rg (h := ?_)
  refine WL.y (hy := mv) (h := ?_)
  refine WL.y (hy := mv) (h := ?_)
  refine WL.y (hy := geq) (h := ?_)
  refine WL.y (hy := mv) (h := ?_)
  apply brAnd 4 10 14 (by exact rfl)
  · intro hb0
    refine un (h := ?_)
    refine WL.y (hy := mv) (h := ?_)
    refine un (h := ?_)
    refine WL.y (hy := mv) (h := ?_)
    refine un (h := ?_)
    refine WL.y (hy := leq) (h := ?_)
    refine WL.y (hy := (by first | exact pkT | exact pkF)) (h := ?_)
    exact mg (by repeat (first | exact trivial | refine ⟨rfl, ?_⟩ | refine ⟨by rw [hb0]; rfl, ?_⟩)) (by repeat (first | exact SubL.nil | (apply SubL.cons; (repeat (first | exact At.here | apply At.there))) | exact SubL.refl _ | apply SubL.skip))
  · intro hb0
    repeat (first | refine un (h := ?_) | refine sk (h := ?_) | refine WL.y (hy := pkF) (h := ?_) | refine WL.y (hy := pkT) (h := ?_))
    exact mg (by repeat (first | exact trivial | refine ⟨rfl, ?_⟩ | refine ⟨by rw [hb0]; rfl, ?_⟩)) (by repeat (first | exact SubL.nil | (apply SubL.cons; (repeat (first | exact At.here | apply At.there))) | exact SubL.refl _ | apply SubL.skip))
  refine WL.y (hy := asg) (h := ?_)
  refine nl (h := ?_)
  refine q_seq (h := ?_)
  refine rtn (h := ?_)
  refine q_ret (hR := ?_)
  exact fun w hS => ⟨rfl, hS.sub (by repeat (first | exact SubL.nil | (apply SubL.cons; (repeat (first | exact At.here | apply At.there))) | exact SubL.refl _ | apply SubL.skip))⟩
theorem win_no {n lo hi : Int} (h : (!win n lo hi) = false) : lo ≤ n ∧ n ≤ hi := win_iff.1 (by rwa [Bool.not_eq_false'] at h)
def lenB8 (s : Sn) : Bool := (decide (1 ≤ s.1) && decide (s.1 ≤ s.2)) && decide (s.2 ≤ 600)
theorem C_ref8_isLength (s : Sn) (w : World) : C0 Try.prog 38 [.agg #[.int .i64 s.1, .int .i64 s.2]] w (.bool (lenB8 s)) := by
  refine ⟨en Try.func38 Try.ntmps38 (St.init w) (h := fun F => ?_)⟩
  refine sq (h := ?_)
  refine rg (h := ?_)
  refine bxA (h := fun b0 => ?_)
  refine WL.y (hy := asg) (h := ?_)
  refine nl (h := ?_)
  refine q_seq (h := ?_)
  refine sq (h := ?_)
  refine rg (h := ?_)
  refine WL.y (hy := (by first | exact fa | exact faE)) (h := ?_)
  refine WL.y (hy := (by first | exact ld | exact ldE)) (h := ?_)
  refine WL.y (hy := geq) (h := ?_)
  refine WL.y (hy := mv) (h := ?_)
  apply brAnd 6 6 12 (by exact rfl)
  · intro hb0
    refine un (h := ?_)
    refine WL.y (hy := (by first | exact fa | exact faE)) (h := ?_)
    refine un (h := ?_)
    refine WL.y (hy := (by first | exact ld | exact ldE)) (h := ?_)
    refine un (h := ?_)
    refine WL.y (hy := (by first | exact fa | exact faE)) (h := ?_)
    refine un (h := ?_)
    refine WL.y (hy := (by first | exact ld | exact ldE)) (h := ?_)
    refine un (h := ?_)
    refine WL.y (hy := leq) (h := ?_)
    refine WL.y (hy := (by first | exact pkT | exact pkF)) (h := ?_)
    exact mg (by repeat (first | exact trivial | refine ⟨rfl, ?_⟩ | refine ⟨by rw [hb0]; rfl, ?_⟩)) (by repeat (first | exact SubL.nil | (apply SubL.cons; (repeat (first | exact At.here | apply At.there))) | exact SubL.refl _ | apply SubL.skip))
  · intro hb0
    repeat (first | refine un (h := ?_) | refine sk (h := ?_) | refine WL.y (hy := pkF) (h := ?_) | refine WL.y (hy := pkT) (h := ?_))
    exact mg (by repeat (first | exact trivial | refine ⟨rfl, ?_⟩ | refine ⟨by rw [hb0]; rfl, ?_⟩)) (by repeat (first | exact SubL.nil | (apply SubL.cons; (repeat (first | exact At.here | apply At.there))) | exact SubL.refl _ | apply SubL.skip))
  refine WL.y (hy := mv) (h := ?_)
  apply brAnd 4 13 17 (by exact rfl)
  · intro hb1
    refine un (h := ?_)
    refine WL.y (hy := (by first | exact fa | exact faE)) (h := ?_)
    refine un (h := ?_)
    refine WL.y (hy := (by first | exact ld | exact ldE)) (h := ?_)
    refine un (h := ?_)
    refine WL.y (hy := leq) (h := ?_)
    refine WL.y (hy := (by first | exact pkT | exact pkF)) (h := ?_)
    exact mg (by repeat (first | exact trivial | refine ⟨rfl, ?_⟩ | refine ⟨by rw [hb1]; rfl, ?_⟩)) (by repeat (first | exact SubL.nil | (apply SubL.cons; (repeat (first | exact At.here | apply At.there))) | exact SubL.refl _ | apply SubL.skip))
  · intro hb1
    repeat (first | refine un (h := ?_) | refine sk (h := ?_) | refine WL.y (hy := pkF) (h := ?_) | refine WL.y (hy := pkT) (h := ?_))
    exact mg (by repeat (first | exact trivial | refine ⟨rfl, ?_⟩ | refine ⟨by rw [hb1]; rfl, ?_⟩)) (by repeat (first | exact SubL.nil | (apply SubL.cons; (repeat (first | exact At.here | apply At.there))) | exact SubL.refl _ | apply SubL.skip))
  refine WL.y (hy := asg) (h := ?_)
  refine nl (h := ?_)
  refine q_seq (h := ?_)
  refine rtn (h := ?_)
  refine q_ret (hR := ?_)
  exact fun w hS => ⟨rfl, hS.sub (by repeat (first | exact SubL.nil | (apply SubL.cons; (repeat (first | exact At.here | apply At.there))) | exact SubL.refl _ | apply SubL.skip))⟩
set_option maxRecDepth 100000 in
set_option maxHeartbeats 1000000 in
theorem C_ref8_isJob (j : Jb) (i m : Nat) (hi : i ≤ 1000000) (hm : m ≤ 1000000) (hfn : j.af.length ≤ 9223372036854775807) (hwn : j.wi.length ≤ 9223372036854775807) (w : World) (hf : Rd w j.fA 1 j.af.length (enI j.af)) (hw : Rd w j.wA 1 j.wi.length (enI j.wi)) :
    CR Try.prog 18 [.agg j.cells.toArray, .int .i64 i, .int .i64 m] w (fun b : Bool => b = true → JOk m i j) (fun b => .bool b) (fun _ => []) := by
  refine ⟨en Try.func18 Try.ntmps18 (((St.init w).share (e := .ro j.fA 1 j.af.length (enI j.af)) hf rfl rfl rfl).share (e := .ro j.wA 1 j.wi.length (enI j.wi)) hw rfl rfl rfl) (h := fun F => ?_)⟩
  refine sq (h := ?_)
  refine rg (h := ?_)
  refine bxA (h := fun b0 => ?_)
  refine WL.y (hy := asg) (h := ?_)
  refine WL.cut (by repeat (first | exact Cut.nil | apply Cut.hit | apply Cut.miss (by exact rfl))) ?_
  refine nl (h := ?_)
  refine q_seq (h := ?_)
  refine sq (h := ?_)
  refine sq (h := ?_)
  refine rg (h := ?_)
  refine WL.y (hy := (by first | exact fa | exact faE)) (h := ?_)
  refine WL.y (hy := (by first | exact ldA | exact ldEA)) (h := ?_)
  refine cl0 (hc := fun w hS => C_ref8_isLength j.len w) (h := ?_)
  refine WL.y (hy := notB) (h := ?_)
  refine WL.y (hy := mv) (h := ?_)
  apply brOr 5 13 18 (by exact rfl)
  · intro hb0
    refine un (h := ?_)
    refine WL.y (hy := (by first | exact fa | exact faE)) (h := ?_)
    refine un (h := ?_)
    refine WL.y (hy := (by first | exact ld | exact ldE)) (h := ?_)
    refine un (h := ?_)
    refine cl0 (hc := fun w hS => C_ref8_within j.due 0 2 w) (h := ?_)
    refine un (h := ?_)
    refine WL.y (hy := notB) (h := ?_)
    refine WL.y (hy := (by first | exact pkT | exact pkF)) (h := ?_)
    exact mg (by repeat (first | exact trivial | refine ⟨rfl, ?_⟩ | refine ⟨by rw [hb0]; rfl, ?_⟩)) (by repeat (first | exact SubL.nil | (apply SubL.cons; (repeat (first | exact At.here | apply At.there))) | exact SubL.refl _ | apply SubL.skip))
  · intro hb0
    repeat (first | refine un (h := ?_) | refine sk (h := ?_) | refine WL.y (hy := pkF) (h := ?_) | refine WL.y (hy := pkT) (h := ?_))
    exact mg (by repeat (first | exact trivial | refine ⟨rfl, ?_⟩ | refine ⟨by rw [hb0]; rfl, ?_⟩)) (by repeat (first | exact SubL.nil | (apply SubL.cons; (repeat (first | exact At.here | apply At.there))) | exact SubL.refl _ | apply SubL.skip))
  refine WL.y (hy := mv) (h := ?_)
  apply brOr 5 19 24 (by exact rfl)
  · intro hb1
    refine un (h := ?_)
    refine WL.y (hy := (by first | exact fa | exact faE)) (h := ?_)
    refine un (h := ?_)
    refine WL.y (hy := (by first | exact ld | exact ldE)) (h := ?_)
    refine un (h := ?_)
    refine cl0 (hc := fun w hS => C_ref8_within j.ear 0 1440 w) (h := ?_)
    refine un (h := ?_)
    refine WL.y (hy := notB) (h := ?_)
    refine WL.y (hy := (by first | exact pkT | exact pkF)) (h := ?_)
    exact mg (by repeat (first | exact trivial | refine ⟨rfl, ?_⟩ | refine ⟨by rw [hb1]; rfl, ?_⟩)) (by repeat (first | exact SubL.nil | (apply SubL.cons; (repeat (first | exact At.here | apply At.there))) | exact SubL.refl _ | apply SubL.skip))
  · intro hb1
    repeat (first | refine un (h := ?_) | refine sk (h := ?_) | refine WL.y (hy := pkF) (h := ?_) | refine WL.y (hy := pkT) (h := ?_))
    exact mg (by repeat (first | exact trivial | refine ⟨rfl, ?_⟩ | refine ⟨by rw [hb1]; rfl, ?_⟩)) (by repeat (first | exact SubL.nil | (apply SubL.cons; (repeat (first | exact At.here | apply At.there))) | exact SubL.refl _ | apply SubL.skip))
  refine nl (h := ?_)
  refine q_seq (h := ?_)
  refine cd (by exact rfl) (fun h2 => ?_) (fun h2 => ?_)
  · skip
    refine sq (h := ?_)
    refine rg (h := ?_)
    refine WL.y (hy := asg) (h := ?_)
    refine WL.cut (by repeat (first | exact Cut.nil | apply Cut.hit | apply Cut.miss (by exact rfl))) ?_
    refine nl (h := ?_)
    refine q_seq (h := ?_)
    refine rtn (h := ?_)
    refine q_then_ret (h := ?_)
    refine q_ret (hR := ?_)
    first
      | exact fun w hS => ⟨true, fun _ => ⟨⟨hl.1.1, hl.1.2, hl.2⟩, hdu, hea, hkA, hkB, fun x hx => by
          obtain ⟨i', h8, e⟩ := List.mem_iff_getElem.1 hx
          exact hkC i' x h8 (by rw [List.getElem?_eq_getElem h8, e])⟩, rfl, hS.sub (by repeat (first | exact SubL.nil | (apply SubL.cons; (repeat (first | exact At.here | apply At.there))) | exact SubL.refl _ | apply SubL.skip))⟩
      | exact fun w hS => ⟨false, fun h9 => (by cases h9), rfl, hS.sub (by repeat (first | exact SubL.nil | (apply SubL.cons; (repeat (first | exact At.here | apply At.there))) | exact SubL.refl _ | apply SubL.skip))⟩
  · skip
    have g9 := h2
    rw [Bool.or_eq_false_iff, Bool.or_eq_false_iff] at g9
    have hl := g9.1.1
    rw [Bool.not_eq_false', lenB8, Bool.and_eq_true, Bool.and_eq_true, decide_eq_true_eq, decide_eq_true_eq, decide_eq_true_eq] at hl
    have hdu := win_no g9.1.2
    have hea := win_no g9.2
    refine skp (h := ?_)
    refine q_seq (h := ?_)
    refine sq (h := ?_)
    refine sq (h := ?_)
    refine rg (h := ?_)
    refine WL.y (hy := asg) (h := ?_)
    refine WL.cut (by repeat (first | exact Cut.nil | apply Cut.hit | apply Cut.miss (by exact rfl))) ?_
    refine nl (h := ?_)
    refine q_seq (h := ?_)
    refine bk (h := ?_)
    refine lp (X := Nat) (I := fun k => k ≤ j.af.length ∧ Asc j.af (i : Int) k) (le := fun k => [(1, .int .i64 i), (2, .int .i64 m), (3, .pointer (some ⟨b0, 0, none⟩)), (7, .int .i64 k)]) (Le := fun _ => [.blk b0 45 j.cells, .ro j.fA 1 j.af.length (enI j.af), .ro j.wA 1 j.wi.length (enI j.wi)]) (μ := fun k => j.af.length - k) 0 ⟨Nat.zero_le _, Asc.zero _ _⟩ (by repeat (first | exact trivial | refine ⟨rfl, ?_⟩)) (by repeat (first | exact SubL.nil | (apply SubL.cons; (repeat (first | exact At.here | apply At.there))) | exact SubL.refl _ | apply SubL.skip)) (fun k hk => ?_)
    obtain ⟨hkL, hkA⟩ := hk
    refine sq (h := ?_)
    refine sq (h := ?_)
    refine rg (h := ?_)
    refine WL.y (hy := mv) (h := ?_)
    refine WL.y (hy := (by first | exact fa | exact faE)) (h := ?_)
    refine WL.y (hy := (by first | exact ld | exact ldE)) (h := ?_)
    refine WL.y (hy := lenS) (h := ?_)
    refine WL.y (hy := lss) (h := ?_)
    refine nl (h := ?_)
    refine q_seq (h := ?_)
    refine cd (by exact rfl) (fun h3 => ?_) (fun h3 => ?_)
    · skip
      have hkn : k < j.af.length := by have := of_decide_eq_true h3; omega
      obtain ⟨x, hx⟩ : ∃ x, j.af[k]? = some x := ⟨_, List.getElem?_eq_getElem hkn⟩
      have hxe := enI_at hx
      refine skp (h := ?_)
      refine q_seq (h := ?_)
      refine sq (h := ?_)
      refine bk (h := ?_)
      refine sq (h := ?_)
      refine rgD (by kernel_rfl) [(1000000, .blk b0 45 j.cells), (1000000, .ro j.fA 1 j.af.length (enI j.af))] (by repeat (first | exact HS.nil | (apply HS.keep; (repeat (first | exact At.here | apply At.there))) | (apply HS.ro; (repeat (first | exact Rds.ro | exact Rds.own | apply Rds.there))))) (h := ?_)
      refine tk 0 (hy := (by first | exact fa | exact faE)) (h := ?_)
      refine tk 1 (hy := (by first | exact ld | exact ldE)) (h := ?_)
      refine tk 2 (hy := mv) (h := ?_)
      refine tk 3 (hy := ix (A := j.fA) (m := j.af.length) (hb := by omega)) (h := ?_)
      refine tk 4 (hy := ldE (A := j.fA) (hk := hxe)) (h := ?_)
      refine tk 5 (hy := mv) (h := ?_)
      refine tk 6 (hy := subI (hb := by omega)) (h := ?_)
      refine one 7 (h := ?_)
      refine cl0 (hc := fun w hS => C_ref8_within x 0 ((i : Int) - 1) w) (h := ?_)
      refine nx (h := ?_)
      refine tk 8 (hy := notB) (h := ?_)
      refine tk 9 (hy := mv) (h := ?_)
      refine brH (g := 41) (by exact rfl) (fun hb4 => ?_) (fun hb4 => ?_)
      · skip
        refine tkS 10 (h := ?_)
        refine tkS 11 (h := ?_)
        refine tkS 12 (h := ?_)
        refine tkS 13 (h := ?_)
        refine tkS 14 (h := ?_)
        refine tkS 15 (h := ?_)
        refine tkS 16 (h := ?_)
        refine tkS 17 (h := ?_)
        refine tkS 18 (h := ?_)
        refine tkS 19 (h := ?_)
        refine tkS 20 (h := ?_)
        refine tkS 21 (h := ?_)
        refine tkS 22 (h := ?_)
        refine tkS 23 (h := ?_)
        refine tkS 24 (h := ?_)
        refine tkS 25 (h := ?_)
        refine tk 26 (hy := (by first | exact pkT | exact pkF)) (h := ?_)
        refine dn (h := ?_)
        refine q_seq (h := ?_)
        refine cdT (h := ?_)
        refine sq (h := ?_)
        refine rg (h := ?_)
        refine WL.y (hy := asg) (h := ?_)
        refine WL.cut (by repeat (first | exact Cut.nil | apply Cut.hit | apply Cut.miss (by exact rfl))) ?_
        refine nl (h := ?_)
        refine q_seq (h := ?_)
        refine rtn (h := ?_)
        refine q_blk_ret (h := ?_)
        refine q_then_ret (h := ?_)
        refine q_then_ret (h := ?_)
        refine q_blk_ret (h := ?_)
        refine q_then_ret (h := ?_)
        refine q_ret (hR := ?_)
        first
          | exact fun w hS => ⟨true, fun _ => ⟨⟨hl.1.1, hl.1.2, hl.2⟩, hdu, hea, hkA, hkB, fun x hx => by
              obtain ⟨i', h8, e⟩ := List.mem_iff_getElem.1 hx
              exact hkC i' x h8 (by rw [List.getElem?_eq_getElem h8, e])⟩, rfl, hS.sub (by repeat (first | exact SubL.nil | (apply SubL.cons; (repeat (first | exact At.here | apply At.there))) | exact SubL.refl _ | apply SubL.skip))⟩
          | exact fun w hS => ⟨false, fun h9 => (by cases h9), rfl, hS.sub (by repeat (first | exact SubL.nil | (apply SubL.cons; (repeat (first | exact At.here | apply At.there))) | exact SubL.refl _ | apply SubL.skip))⟩
      · skip
        have hw1 := win_no hb4
        refine tk 10 (hy := mv) (h := ?_)
        refine tk 11 (hy := gtr) (h := ?_)
        refine tk 12 (hy := mv) (h := ?_)
        refine brH (g := 44) (by exact rfl) (fun hb6 => ?_) (fun hb6 => ?_)
        · skip
          have hk0 : 0 < k := by have := of_decide_eq_true hb6; omega
          obtain ⟨y, hy⟩ : ∃ y, j.af[k - 1]? = some y := ⟨_, List.getElem?_eq_getElem (by omega)⟩
          have hye : (enI j.af)[((k : Int) - 1).toNat]? = some [.int .i64 y] := by rw [show ((k : Int) - 1).toNat = k - 1 by omega]; exact enI_at hy
          refine tk 13 (hy := (by first | exact fa | exact faE)) (h := ?_)
          refine tk 14 (hy := (by first | exact ld | exact ldE)) (h := ?_)
          refine tk 15 (hy := mv) (h := ?_)
          refine tk 16 (hy := ix (A := j.fA) (m := j.af.length) (hb := by omega)) (h := ?_)
          refine tk 17 (hy := ldE (A := j.fA) (hk := hxe)) (h := ?_)
          refine tk 18 (hy := (by first | exact fa | exact faE)) (h := ?_)
          refine tk 19 (hy := (by first | exact ld | exact ldE)) (h := ?_)
          refine tk 20 (hy := mv) (h := ?_)
          refine tk 21 (hy := subI (hb := by omega)) (h := ?_)
          refine tk 22 (hy := ix (A := j.fA) (m := j.af.length) (hb := by omega)) (h := ?_)
          refine tk 23 (hy := ldE (A := j.fA) (hk := hye)) (h := ?_)
          refine tk 24 (hy := leq) (h := ?_)
          refine tk 25 (hy := (by first | exact pkT | exact pkF)) (h := ?_)
          refine tk 26 (hy := (by first | exact pkT | exact pkF)) (h := ?_)
          refine dn (h := ?_)
          refine q_seq (h := ?_)
          refine cd (by exact rfl) (fun h7 => ?_) (fun h7 => ?_)
          · skip
            refine sq (h := ?_)
            refine rg (h := ?_)
            refine WL.y (hy := asg) (h := ?_)
            refine WL.cut (by repeat (first | exact Cut.nil | apply Cut.hit | apply Cut.miss (by exact rfl))) ?_
            refine nl (h := ?_)
            refine q_seq (h := ?_)
            refine rtn (h := ?_)
            refine q_blk_ret (h := ?_)
            refine q_then_ret (h := ?_)
            refine q_then_ret (h := ?_)
            refine q_blk_ret (h := ?_)
            refine q_then_ret (h := ?_)
            refine q_ret (hR := ?_)
            first
              | exact fun w hS => ⟨true, fun _ => ⟨⟨hl.1.1, hl.1.2, hl.2⟩, hdu, hea, hkA, hkB, fun x hx => by
                  obtain ⟨i', h8, e⟩ := List.mem_iff_getElem.1 hx
                  exact hkC i' x h8 (by rw [List.getElem?_eq_getElem h8, e])⟩, rfl, hS.sub (by repeat (first | exact SubL.nil | (apply SubL.cons; (repeat (first | exact At.here | apply At.there))) | exact SubL.refl _ | apply SubL.skip))⟩
              | exact fun w hS => ⟨false, fun h9 => (by cases h9), rfl, hS.sub (by repeat (first | exact SubL.nil | (apply SubL.cons; (repeat (first | exact At.here | apply At.there))) | exact SubL.refl _ | apply SubL.skip))⟩
          · skip
            first
              | (have hlt : ∀ y', 0 < k → j.af[k - 1]? = some y' → y' < x := fun y' _ hy' => by rw [hy] at hy'; cases hy'; have := of_decide_eq_false (show decide (x ≤ y) = false by assumption); omega
                 have hA2 := hkA.succ hx (by omega) hlt)
              | have hA2 := hkA.succ hx (by omega) hlt
            refine skp (h := ?_)
            refine q_blk_norm (h := ?_)
            refine q_seq (h := ?_)
            refine rg (h := ?_)
            refine WL.y (hy := mv) (h := ?_)
            refine WL.y (hy := addI) (h := ?_)
            refine WL.y (hy := asg) (h := ?_)
            refine WL.cut (by repeat (first | exact Cut.nil | apply Cut.hit | apply Cut.miss (by exact rfl))) ?_
            refine nl (h := ?_)
            refine rn (x := k) (k + 1) ⟨hkn, hA2⟩ (by omega) (by repeat (first | exact trivial | refine ⟨rfl, ?_⟩)) (by repeat (first | exact SubL.nil | (apply SubL.cons; (repeat (first | exact At.here | apply At.there))) | exact SubL.refl _ | apply SubL.skip))
        · skip
          have hk0 : ¬ 0 < k := by have := of_decide_eq_false hb6; omega
          have hlt : ∀ y, 0 < k → j.af[k - 1]? = some y → y < x := fun y h9 => absurd h9 hk0
          refine tkS 13 (h := ?_)
          refine tkS 14 (h := ?_)
          refine tkS 15 (h := ?_)
          refine tkS 16 (h := ?_)
          refine tkS 17 (h := ?_)
          refine tkS 18 (h := ?_)
          refine tkS 19 (h := ?_)
          refine tkS 20 (h := ?_)
          refine tkS 21 (h := ?_)
          refine tkS 22 (h := ?_)
          refine tkS 23 (h := ?_)
          refine tkS 24 (h := ?_)
          refine tk 25 (hy := (by first | exact pkT | exact pkF)) (h := ?_)
          refine tk 26 (hy := (by first | exact pkT | exact pkF)) (h := ?_)
          refine dn (h := ?_)
          refine q_seq (h := ?_)
          refine cdF (h := ?_)
          first
            | (have hlt : ∀ y', 0 < k → j.af[k - 1]? = some y' → y' < x := fun y' _ hy' => by rw [hy] at hy'; cases hy'; have := of_decide_eq_false (show decide (x ≤ y) = false by assumption); omega
               have hA2 := hkA.succ hx (by omega) hlt)
            | have hA2 := hkA.succ hx (by omega) hlt
          refine skp (h := ?_)
          refine q_blk_norm (h := ?_)
          refine q_seq (h := ?_)
          refine rg (h := ?_)
          refine WL.y (hy := mv) (h := ?_)
          refine WL.y (hy := addI) (h := ?_)
          refine WL.y (hy := asg) (h := ?_)
          refine WL.cut (by repeat (first | exact Cut.nil | apply Cut.hit | apply Cut.miss (by exact rfl))) ?_
          refine nl (h := ?_)
          refine rn (x := k) (k + 1) ⟨hkn, hA2⟩ (by omega) (by repeat (first | exact trivial | refine ⟨rfl, ?_⟩)) (by repeat (first | exact SubL.nil | (apply SubL.cons; (repeat (first | exact At.here | apply At.there))) | exact SubL.refl _ | apply SubL.skip))
    · skip
      have hkn : k = j.af.length := by have := of_decide_eq_false h3; omega
      rw [hkn] at hkA
      refine et (h := ?_)
      refine q_then_exit (h := ?_)
      refine q_then_exit (h := ?_)
      refine q_blk_hit (h := ?_)
      refine q_seq (h := ?_)
      refine sq (h := ?_)
      refine sq (h := ?_)
      refine rg (h := ?_)
      refine WL.y (hy := asg) (h := ?_)
      refine WL.cut (by repeat (first | exact Cut.nil | apply Cut.hit | apply Cut.miss (by exact rfl))) ?_
      refine nl (h := ?_)
      refine q_seq (h := ?_)
      refine bk (h := ?_)
      refine lp (X := Nat) (I := fun k => k ≤ j.wi.length ∧ Asc j.wi (m : Int) k ∧ ∀ i' x, i' < k → j.wi[i']? = some x → x ≠ (i : Int)) (le := fun k => [(1, .int .i64 i), (2, .int .i64 m), (3, .pointer (some ⟨b0, 0, none⟩)), (8, .int .i64 k)]) (Le := fun _ => [.blk b0 45 j.cells, .ro j.wA 1 j.wi.length (enI j.wi)]) (μ := fun k => j.wi.length - k) 0 ⟨Nat.zero_le _, Asc.zero _ _, fun _ _ h9 => absurd h9 (Nat.not_lt_zero _)⟩ (by repeat (first | exact trivial | refine ⟨rfl, ?_⟩)) (by repeat (first | exact SubL.nil | (apply SubL.cons; (repeat (first | exact At.here | apply At.there))) | exact SubL.refl _ | apply SubL.skip)) (fun k hk => ?_)
      obtain ⟨hkL, hkB, hkC⟩ := hk
      refine sq (h := ?_)
      refine sq (h := ?_)
      refine rg (h := ?_)
      refine WL.y (hy := mv) (h := ?_)
      refine WL.y (hy := (by first | exact fa | exact faE)) (h := ?_)
      refine WL.y (hy := (by first | exact ld | exact ldE)) (h := ?_)
      refine WL.y (hy := lenS) (h := ?_)
      refine WL.y (hy := lss) (h := ?_)
      refine nl (h := ?_)
      refine q_seq (h := ?_)
      refine cd (by exact rfl) (fun h9 => ?_) (fun h9 => ?_)
      · skip
        have hkn : k < j.wi.length := by have := of_decide_eq_true h9; omega
        obtain ⟨x, hx⟩ : ∃ x, j.wi[k]? = some x := ⟨_, List.getElem?_eq_getElem hkn⟩
        have hxe := enI_at hx
        refine skp (h := ?_)
        refine q_seq (h := ?_)
        refine sq (h := ?_)
        refine bk (h := ?_)
        refine sq (h := ?_)
        refine rgD (by kernel_rfl) [(1000000, .blk b0 45 j.cells), (1000000, .ro j.wA 1 j.wi.length (enI j.wi))] (by repeat (first | exact HS.nil | (apply HS.keep; (repeat (first | exact At.here | apply At.there))) | (apply HS.ro; (repeat (first | exact Rds.ro | exact Rds.own | apply Rds.there))))) (h := ?_)
        refine tk 0 (hy := (by first | exact fa | exact faE)) (h := ?_)
        refine tk 1 (hy := (by first | exact ld | exact ldE)) (h := ?_)
        refine tk 2 (hy := mv) (h := ?_)
        refine tk 3 (hy := ix (A := j.wA) (m := j.wi.length) (hb := by omega)) (h := ?_)
        refine tk 4 (hy := ldE (A := j.wA) (hk := hxe)) (h := ?_)
        refine tk 5 (hy := mv) (h := ?_)
        refine tk 6 (hy := subI (hb := by omega)) (h := ?_)
        refine one 7 (h := ?_)
        refine cl0 (hc := fun w hS => C_ref8_within x 0 ((m : Int) - 1) w) (h := ?_)
        refine nx (h := ?_)
        refine tk 8 (hy := notB) (h := ?_)
        refine tk 9 (hy := mv) (h := ?_)
        refine brH (g := 75) (by exact rfl) (fun hb10 => ?_) (fun hb10 => ?_)
        · skip
          refine tkS 10 (h := ?_)
          refine tkS 11 (h := ?_)
          refine tkS 12 (h := ?_)
          refine tkS 13 (h := ?_)
          refine tkS 14 (h := ?_)
          refine tkS 15 (h := ?_)
          refine tkS 16 (h := ?_)
          refine tk 17 (hy := (by first | exact pkT | exact pkF)) (h := ?_)
          refine tk 18 (hy := mv) (h := ?_)
          refine tkS 19 (h := ?_)
          refine tkS 20 (h := ?_)
          refine tkS 21 (h := ?_)
          refine tkS 22 (h := ?_)
          refine tkS 23 (h := ?_)
          refine tkS 24 (h := ?_)
          refine tkS 25 (h := ?_)
          refine tkS 26 (h := ?_)
          refine tkS 27 (h := ?_)
          refine tkS 28 (h := ?_)
          refine tkS 29 (h := ?_)
          refine tkS 30 (h := ?_)
          refine tkS 31 (h := ?_)
          refine tkS 32 (h := ?_)
          refine tkS 33 (h := ?_)
          refine tkS 34 (h := ?_)
          refine tk 35 (hy := (by first | exact pkT | exact pkF)) (h := ?_)
          refine dn (h := ?_)
          refine q_seq (h := ?_)
          refine cdT (h := ?_)
          refine sq (h := ?_)
          refine rg (h := ?_)
          refine WL.y (hy := asg) (h := ?_)
          refine WL.cut (by repeat (first | exact Cut.nil | apply Cut.hit | apply Cut.miss (by exact rfl))) ?_
          refine nl (h := ?_)
          refine q_seq (h := ?_)
          refine rtn (h := ?_)
          refine q_blk_ret (h := ?_)
          refine q_then_ret (h := ?_)
          refine q_then_ret (h := ?_)
          refine q_blk_ret (h := ?_)
          refine q_then_ret (h := ?_)
          refine q_ret (hR := ?_)
          first
            | exact fun w hS => ⟨true, fun _ => ⟨⟨hl.1.1, hl.1.2, hl.2⟩, hdu, hea, hkA, hkB, fun x hx => by
                obtain ⟨i', h8, e⟩ := List.mem_iff_getElem.1 hx
                exact hkC i' x h8 (by rw [List.getElem?_eq_getElem h8, e])⟩, rfl, hS.sub (by repeat (first | exact SubL.nil | (apply SubL.cons; (repeat (first | exact At.here | apply At.there))) | exact SubL.refl _ | apply SubL.skip))⟩
            | exact fun w hS => ⟨false, fun h9 => (by cases h9), rfl, hS.sub (by repeat (first | exact SubL.nil | (apply SubL.cons; (repeat (first | exact At.here | apply At.there))) | exact SubL.refl _ | apply SubL.skip))⟩
        · skip
          have hw2 := win_no hb10
          refine tk 10 (hy := (by first | exact fa | exact faE)) (h := ?_)
          refine tk 11 (hy := (by first | exact ld | exact ldE)) (h := ?_)
          refine tk 12 (hy := mv) (h := ?_)
          refine tk 13 (hy := ix (A := j.wA) (m := j.wi.length) (hb := by omega)) (h := ?_)
          refine tk 14 (hy := ldE (A := j.wA) (hk := hxe)) (h := ?_)
          refine tk 15 (hy := mv) (h := ?_)
          refine tk 16 (hy := eql) (h := ?_)
          refine tk 17 (hy := (by first | exact pkT | exact pkF)) (h := ?_)
          refine tk 18 (hy := mv) (h := ?_)
          refine brH (g := 84) (by exact rfl) (fun hb12 => ?_) (fun hb12 => ?_)
          · skip
            refine tkS 19 (h := ?_)
            refine tkS 20 (h := ?_)
            refine tkS 21 (h := ?_)
            refine tkS 22 (h := ?_)
            refine tkS 23 (h := ?_)
            refine tkS 24 (h := ?_)
            refine tkS 25 (h := ?_)
            refine tkS 26 (h := ?_)
            refine tkS 27 (h := ?_)
            refine tkS 28 (h := ?_)
            refine tkS 29 (h := ?_)
            refine tkS 30 (h := ?_)
            refine tkS 31 (h := ?_)
            refine tkS 32 (h := ?_)
            refine tkS 33 (h := ?_)
            refine tkS 34 (h := ?_)
            refine tk 35 (hy := (by first | exact pkT | exact pkF)) (h := ?_)
            refine dn (h := ?_)
            refine q_seq (h := ?_)
            refine cdT (h := ?_)
            refine sq (h := ?_)
            refine rg (h := ?_)
            refine WL.y (hy := asg) (h := ?_)
            refine WL.cut (by repeat (first | exact Cut.nil | apply Cut.hit | apply Cut.miss (by exact rfl))) ?_
            refine nl (h := ?_)
            refine q_seq (h := ?_)
            refine rtn (h := ?_)
            refine q_blk_ret (h := ?_)
            refine q_then_ret (h := ?_)
            refine q_then_ret (h := ?_)
            refine q_blk_ret (h := ?_)
            refine q_then_ret (h := ?_)
            refine q_ret (hR := ?_)
            first
              | exact fun w hS => ⟨true, fun _ => ⟨⟨hl.1.1, hl.1.2, hl.2⟩, hdu, hea, hkA, hkB, fun x hx => by
                  obtain ⟨i', h8, e⟩ := List.mem_iff_getElem.1 hx
                  exact hkC i' x h8 (by rw [List.getElem?_eq_getElem h8, e])⟩, rfl, hS.sub (by repeat (first | exact SubL.nil | (apply SubL.cons; (repeat (first | exact At.here | apply At.there))) | exact SubL.refl _ | apply SubL.skip))⟩
              | exact fun w hS => ⟨false, fun h9 => (by cases h9), rfl, hS.sub (by repeat (first | exact SubL.nil | (apply SubL.cons; (repeat (first | exact At.here | apply At.there))) | exact SubL.refl _ | apply SubL.skip))⟩
          · skip
            have hne : x ≠ (i : Int) := of_decide_eq_false hb12
            refine tk 19 (hy := mv) (h := ?_)
            refine tk 20 (hy := gtr) (h := ?_)
            refine tk 21 (hy := mv) (h := ?_)
            refine brH (g := 87) (by exact rfl) (fun hb14 => ?_) (fun hb14 => ?_)
            · skip
              have hk0 : 0 < k := by have := of_decide_eq_true hb14; omega
              obtain ⟨y, hy⟩ : ∃ y, j.wi[k - 1]? = some y := ⟨_, List.getElem?_eq_getElem (by omega)⟩
              have hye : (enI j.wi)[((k : Int) - 1).toNat]? = some [.int .i64 y] := by rw [show ((k : Int) - 1).toNat = k - 1 by omega]; exact enI_at hy
              refine tk 22 (hy := (by first | exact fa | exact faE)) (h := ?_)
              refine tk 23 (hy := (by first | exact ld | exact ldE)) (h := ?_)
              refine tk 24 (hy := mv) (h := ?_)
              refine tk 25 (hy := ix (A := j.wA) (m := j.wi.length) (hb := by omega)) (h := ?_)
              refine tk 26 (hy := ldE (A := j.wA) (hk := hxe)) (h := ?_)
              refine tk 27 (hy := (by first | exact fa | exact faE)) (h := ?_)
              refine tk 28 (hy := (by first | exact ld | exact ldE)) (h := ?_)
              refine tk 29 (hy := mv) (h := ?_)
              refine tk 30 (hy := subI (hb := by omega)) (h := ?_)
              refine tk 31 (hy := ix (A := j.wA) (m := j.wi.length) (hb := by omega)) (h := ?_)
              refine tk 32 (hy := ldE (A := j.wA) (hk := hye)) (h := ?_)
              refine tk 33 (hy := leq) (h := ?_)
              refine tk 34 (hy := (by first | exact pkT | exact pkF)) (h := ?_)
              refine tk 35 (hy := (by first | exact pkT | exact pkF)) (h := ?_)
              refine dn (h := ?_)
              refine q_seq (h := ?_)
              refine cd (by exact rfl) (fun h15 => ?_) (fun h15 => ?_)
              · skip
                refine sq (h := ?_)
                refine rg (h := ?_)
                refine WL.y (hy := asg) (h := ?_)
                refine WL.cut (by repeat (first | exact Cut.nil | apply Cut.hit | apply Cut.miss (by exact rfl))) ?_
                refine nl (h := ?_)
                refine q_seq (h := ?_)
                refine rtn (h := ?_)
                refine q_blk_ret (h := ?_)
                refine q_then_ret (h := ?_)
                refine q_then_ret (h := ?_)
                refine q_blk_ret (h := ?_)
                refine q_then_ret (h := ?_)
                refine q_ret (hR := ?_)
                first
                  | exact fun w hS => ⟨true, fun _ => ⟨⟨hl.1.1, hl.1.2, hl.2⟩, hdu, hea, hkA, hkB, fun x hx => by
                      obtain ⟨i', h8, e⟩ := List.mem_iff_getElem.1 hx
                      exact hkC i' x h8 (by rw [List.getElem?_eq_getElem h8, e])⟩, rfl, hS.sub (by repeat (first | exact SubL.nil | (apply SubL.cons; (repeat (first | exact At.here | apply At.there))) | exact SubL.refl _ | apply SubL.skip))⟩
                  | exact fun w hS => ⟨false, fun h9 => (by cases h9), rfl, hS.sub (by repeat (first | exact SubL.nil | (apply SubL.cons; (repeat (first | exact At.here | apply At.there))) | exact SubL.refl _ | apply SubL.skip))⟩
              · skip
                first
                  | (have hlt : ∀ y', 0 < k → j.wi[k - 1]? = some y' → y' < x := fun y' _ hy' => by rw [hy] at hy'; cases hy'; have := of_decide_eq_false (show decide (x ≤ y) = false by assumption); omega
                     have hA2 := hkB.succ hx (by omega) hlt)
                  | have hA2 := hkB.succ hx (by omega) hlt
                refine skp (h := ?_)
                refine q_blk_norm (h := ?_)
                refine q_seq (h := ?_)
                refine rg (h := ?_)
                refine WL.y (hy := mv) (h := ?_)
                refine WL.y (hy := addI) (h := ?_)
                refine WL.y (hy := asg) (h := ?_)
                refine WL.cut (by repeat (first | exact Cut.nil | apply Cut.hit | apply Cut.miss (by exact rfl))) ?_
                refine nl (h := ?_)
                refine rn (x := k) (k + 1) ⟨hkn, hA2, fun i' x' g8 g9 => by
                  by_cases e : i' = k
                  · rw [e, hx] at g9; cases g9; exact hne
                  · exact hkC i' x' (by omega) g9⟩ (by omega) (by repeat (first | exact trivial | refine ⟨rfl, ?_⟩)) (by repeat (first | exact SubL.nil | (apply SubL.cons; (repeat (first | exact At.here | apply At.there))) | exact SubL.refl _ | apply SubL.skip))
            · skip
              have hk0 : ¬ 0 < k := by have := of_decide_eq_false hb14; omega
              have hlt : ∀ y, 0 < k → j.wi[k - 1]? = some y → y < x := fun y h9 => absurd h9 hk0
              refine tkS 22 (h := ?_)
              refine tkS 23 (h := ?_)
              refine tkS 24 (h := ?_)
              refine tkS 25 (h := ?_)
              refine tkS 26 (h := ?_)
              refine tkS 27 (h := ?_)
              refine tkS 28 (h := ?_)
              refine tkS 29 (h := ?_)
              refine tkS 30 (h := ?_)
              refine tkS 31 (h := ?_)
              refine tkS 32 (h := ?_)
              refine tkS 33 (h := ?_)
              refine tk 34 (hy := (by first | exact pkT | exact pkF)) (h := ?_)
              refine tk 35 (hy := (by first | exact pkT | exact pkF)) (h := ?_)
              refine dn (h := ?_)
              refine q_seq (h := ?_)
              refine cdF (h := ?_)
              first
                | (have hlt : ∀ y', 0 < k → j.wi[k - 1]? = some y' → y' < x := fun y' _ hy' => by rw [hy] at hy'; cases hy'; have := of_decide_eq_false (show decide (x ≤ y) = false by assumption); omega
                   have hA2 := hkB.succ hx (by omega) hlt)
                | have hA2 := hkB.succ hx (by omega) hlt
              refine skp (h := ?_)
              refine q_blk_norm (h := ?_)
              refine q_seq (h := ?_)
              refine rg (h := ?_)
              refine WL.y (hy := mv) (h := ?_)
              refine WL.y (hy := addI) (h := ?_)
              refine WL.y (hy := asg) (h := ?_)
              refine WL.cut (by repeat (first | exact Cut.nil | apply Cut.hit | apply Cut.miss (by exact rfl))) ?_
              refine nl (h := ?_)
              refine rn (x := k) (k + 1) ⟨hkn, hA2, fun i' x' g8 g9 => by
                by_cases e : i' = k
                · rw [e, hx] at g9; cases g9; exact hne
                · exact hkC i' x' (by omega) g9⟩ (by omega) (by repeat (first | exact trivial | refine ⟨rfl, ?_⟩)) (by repeat (first | exact SubL.nil | (apply SubL.cons; (repeat (first | exact At.here | apply At.there))) | exact SubL.refl _ | apply SubL.skip))
      · skip
        have hkn : k = j.wi.length := by have := of_decide_eq_false h9; omega
        rw [hkn] at hkB hkC
        refine et (h := ?_)
        refine q_then_exit (h := ?_)
        refine q_then_exit (h := ?_)
        refine q_blk_hit (h := ?_)
        refine q_seq (h := ?_)
        refine sq (h := ?_)
        refine rg (h := ?_)
        refine WL.y (hy := asg) (h := ?_)
        refine WL.cut (by repeat (first | exact Cut.nil | apply Cut.hit | apply Cut.miss (by exact rfl))) ?_
        refine nl (h := ?_)
        refine q_seq (h := ?_)
        refine rtn (h := ?_)
        refine q_ret (hR := ?_)
        first
          | exact fun w hS => ⟨true, fun _ => ⟨⟨hl.1.1, hl.1.2, hl.2⟩, hdu, hea, hkA, hkB, fun x hx => by
              obtain ⟨i', h8, e⟩ := List.mem_iff_getElem.1 hx
              exact hkC i' x h8 (by rw [List.getElem?_eq_getElem h8, e])⟩, rfl, hS.sub (by repeat (first | exact SubL.nil | (apply SubL.cons; (repeat (first | exact At.here | apply At.there))) | exact SubL.refl _ | apply SubL.skip))⟩
          | exact fun w hS => ⟨false, fun h9 => (by cases h9), rfl, hS.sub (by repeat (first | exact SubL.nil | (apply SubL.cons; (repeat (first | exact At.here | apply At.there))) | exact SubL.refl _ | apply SubL.skip))⟩
end Go.Proofs.Ytngelilffleimaa

namespace Go.Proofs.Ytngelilffleimaa
open Go Go.RowKit

structure DyOk (nc : Nat) (d : Dy) : Prop where
  n : d.sp.length = nc
  s : ∀ i s, i < d.sp.length → d.sp[i]? = some s → 0 ≤ s.1 ∧ s.1 ≤ s.2 ∧ s.2 ≤ 1440
set_option maxRecDepth 100000 in
set_option maxHeartbeats 1000000 in
theorem C_ref8_Check (p : Pg) (w : World) (h : PgR w p) : CR Try.prog 5 [p.val] w (fun e : Int => e = 0 → POk p) (fun e => .int .i64 e) (fun _ => []) := by
  have hn := h.nums
  refine ⟨en Try.func5 Try.ntmps5 (((St.init w).share (e := .ro p.dA 1 p.days.length (encDy p.days)) h.d rfl rfl rfl).share (e := .ro p.jA 6 p.jobs.length (encJb p.jobs)) h.j rfl rfl rfl) (h := fun F => ?_)⟩
  refine sq (h := ?_)
  refine rg (h := ?_)
  refine bxA (h := fun b0 => ?_)
  refine WL.y (hy := asg) (h := ?_)
  refine WL.cut (by repeat (first | exact Cut.nil | apply Cut.hit | apply Cut.miss (by exact rfl))) ?_
  refine nl (h := ?_)
  refine q_seq (h := ?_)
  refine sq (h := ?_)
  refine sq (h := ?_)
  refine rg (h := ?_)
  refine WL.y (hy := (by first | exact fa | exact faE)) (h := ?_)
  refine WL.y (hy := (by first | exact ld | exact ldE)) (h := ?_)
  refine WL.y (hy := lenS) (h := ?_)
  refine cl0 (hc := fun w hS => C_ref8_within p.days.length 1 3 w) (h := ?_)
  refine WL.y (hy := notB) (h := ?_)
  refine WL.y (hy := mv) (h := ?_)
  apply brOr 8 12 20 (by exact rfl)
  · intro hb0
    have hnd := win_no hb0
    obtain ⟨d0, hd0⟩ : ∃ d, p.days[0]? = some d := ⟨_, List.getElem?_eq_getElem (by omega)⟩
    have hn0 := nc_first hd0
    refine un (h := ?_)
    refine WL.y (hy := (by first | exact fa | exact faE)) (h := ?_)
    refine un (h := ?_)
    refine WL.y (hy := (by first | exact ld | exact ldE)) (h := ?_)
    refine un (h := ?_)
    refine WL.y (hy := ix (A := p.dA) (m := p.days.length) (hb := by omega)) (h := ?_)
    refine un (h := ?_)
    refine WL.y (hy := ldE (A := p.dA) (k := 0) (hk := encDy_at hd0)) (h := ?_)
    refine un (h := ?_)
    refine WL.y (hy := lenS) (h := ?_)
    rw [hn0]
    refine un (h := ?_)
    refine cl0 (hc := fun w hS => C_ref8_within p.nc 1 3 w) (h := ?_)
    refine un (h := ?_)
    refine WL.y (hy := notB) (h := ?_)
    refine WL.y (hy := (by first | exact pkT | exact pkF)) (h := ?_)
    exact mg (by repeat (first | exact trivial | refine ⟨rfl, ?_⟩ | refine ⟨by rw [hb0]; rfl, ?_⟩)) (by repeat (first | exact SubL.nil | (apply SubL.cons; (repeat (first | exact At.here | apply At.there))) | exact SubL.refl _ | apply SubL.skip))
  · intro hb0
    repeat (first | refine un (h := ?_) | refine sk (h := ?_) | refine WL.y (hy := pkF) (h := ?_) | refine WL.y (hy := pkT) (h := ?_))
    exact mg (by repeat (first | exact trivial | refine ⟨rfl, ?_⟩ | refine ⟨by rw [hb0]; rfl, ?_⟩)) (by repeat (first | exact SubL.nil | (apply SubL.cons; (repeat (first | exact At.here | apply At.there))) | exact SubL.refl _ | apply SubL.skip))
  refine WL.y (hy := mv) (h := ?_)
  apply brOr 5 21 26 (by exact rfl)
  · intro hb1
    refine un (h := ?_)
    refine WL.y (hy := (by first | exact fa | exact faE)) (h := ?_)
    refine un (h := ?_)
    refine WL.y (hy := (by first | exact ld | exact ldE)) (h := ?_)
    refine un (h := ?_)
    refine cl0 (hc := fun w hS => C_ref8_within p.rest 0 600 w) (h := ?_)
    refine un (h := ?_)
    refine WL.y (hy := notB) (h := ?_)
    refine WL.y (hy := (by first | exact pkT | exact pkF)) (h := ?_)
    exact mg (by repeat (first | exact trivial | refine ⟨rfl, ?_⟩ | refine ⟨by rw [hb1]; rfl, ?_⟩)) (by repeat (first | exact SubL.nil | (apply SubL.cons; (repeat (first | exact At.here | apply At.there))) | exact SubL.refl _ | apply SubL.skip))
  · intro hb1
    repeat (first | refine un (h := ?_) | refine sk (h := ?_) | refine WL.y (hy := pkF) (h := ?_) | refine WL.y (hy := pkT) (h := ?_))
    exact mg (by repeat (first | exact trivial | refine ⟨rfl, ?_⟩ | refine ⟨by rw [hb1]; rfl, ?_⟩)) (by repeat (first | exact SubL.nil | (apply SubL.cons; (repeat (first | exact At.here | apply At.there))) | exact SubL.refl _ | apply SubL.skip))
  refine WL.y (hy := mv) (h := ?_)
  apply brOr 5 27 32 (by exact rfl)
  · intro hb2
    refine un (h := ?_)
    refine WL.y (hy := (by first | exact fa | exact faE)) (h := ?_)
    refine un (h := ?_)
    refine WL.y (hy := (by first | exact ld | exact ldE)) (h := ?_)
    refine un (h := ?_)
    refine WL.y (hy := lenS) (h := ?_)
    refine un (h := ?_)
    refine WL.y (hy := gtr) (h := ?_)
    refine WL.y (hy := (by first | exact pkT | exact pkF)) (h := ?_)
    exact mg (by repeat (first | exact trivial | refine ⟨rfl, ?_⟩ | refine ⟨by rw [hb2]; rfl, ?_⟩)) (by repeat (first | exact SubL.nil | (apply SubL.cons; (repeat (first | exact At.here | apply At.there))) | exact SubL.refl _ | apply SubL.skip))
  · intro hb2
    repeat (first | refine un (h := ?_) | refine sk (h := ?_) | refine WL.y (hy := pkF) (h := ?_) | refine WL.y (hy := pkT) (h := ?_))
    exact mg (by repeat (first | exact trivial | refine ⟨rfl, ?_⟩ | refine ⟨by rw [hb2]; rfl, ?_⟩)) (by repeat (first | exact SubL.nil | (apply SubL.cons; (repeat (first | exact At.here | apply At.there))) | exact SubL.refl _ | apply SubL.skip))
  refine nl (h := ?_)
  refine q_seq (h := ?_)
  refine cd (by exact rfl) (fun h3 => ?_) (fun h3 => ?_)
  · skip
    refine sq (h := ?_)
    refine rg (h := ?_)
    refine WL.y (hy := asg) (h := ?_)
    refine WL.cut (by repeat (first | exact Cut.nil | apply Cut.hit | apply Cut.miss (by exact rfl))) ?_
    refine nl (h := ?_)
    refine q_seq (h := ?_)
    refine rtn (h := ?_)
    refine q_then_ret (h := ?_)
    refine q_ret (hR := ?_)
    first
      | exact fun w hS => ⟨0, fun _ => ⟨by omega, hre, by omega, by omega, fun k d g8 g9 => ⟨(hkD k d g8 g9).n, (hkD k d g8 g9).s⟩, hkJ⟩, rfl, hS.sub (by repeat (first | exact SubL.nil | (apply SubL.cons; (repeat (first | exact At.here | apply At.there))) | exact SubL.refl _ | apply SubL.skip))⟩
      | exact fun w hS => ⟨80, fun g9 => absurd g9 (by decide), rfl, hS.sub (by repeat (first | exact SubL.nil | (apply SubL.cons; (repeat (first | exact At.here | apply At.there))) | exact SubL.refl _ | apply SubL.skip))⟩
  · skip
    have g9 := h3
    rw [Bool.or_eq_false_iff, Bool.or_eq_false_iff, Bool.or_eq_false_iff] at g9
    have hnd := win_no g9.1.1.1
    have hnc := win_no g9.1.1.2
    have hre := win_no g9.1.2
    have hnj := of_decide_eq_false g9.2
    obtain ⟨d0, hd0⟩ : ∃ d, p.days[0]? = some d := ⟨_, List.getElem?_eq_getElem (by omega)⟩
    have hn0 := nc_first hd0
    refine skp (h := ?_)
    refine q_seq (h := ?_)
    refine sq (h := ?_)
    refine sq (h := ?_)
    refine rg (h := ?_)
    refine WL.y (hy := asg) (h := ?_)
    refine WL.cut (by repeat (first | exact Cut.nil | apply Cut.hit | apply Cut.miss (by exact rfl))) ?_
    refine nl (h := ?_)
    refine q_seq (h := ?_)
    refine bk (h := ?_)
    refine lp (X := Nat) (I := fun k => k ≤ p.days.length ∧ ∀ i d, i < k → p.days[i]? = some d → DyOk p.nc d) (le := fun k => [(1, .pointer (some ⟨b0, 0, none⟩)), (3, .int .i64 k)]) (Le := fun _ => [.blk b0 25 p.cells, .ro p.dA 1 p.days.length (encDy p.days), .ro p.jA 6 p.jobs.length (encJb p.jobs)]) (μ := fun k => p.days.length - k) 0 ⟨Nat.zero_le _, fun _ _ g9 => absurd g9 (Nat.not_lt_zero _)⟩ (by repeat (first | exact trivial | refine ⟨rfl, ?_⟩)) (by repeat (first | exact SubL.nil | (apply SubL.cons; (repeat (first | exact At.here | apply At.there))) | exact SubL.refl _ | apply SubL.skip)) (fun k hk => ?_)
    obtain ⟨hkL, hkD⟩ := hk
    refine sq (h := ?_)
    refine sq (h := ?_)
    refine rg (h := ?_)
    refine WL.y (hy := mv) (h := ?_)
    refine WL.y (hy := (by first | exact fa | exact faE)) (h := ?_)
    refine WL.y (hy := (by first | exact ld | exact ldE)) (h := ?_)
    refine WL.y (hy := lenS) (h := ?_)
    refine WL.y (hy := lss) (h := ?_)
    refine nl (h := ?_)
    refine q_seq (h := ?_)
    refine cd (by exact rfl) (fun h4 => ?_) (fun h4 => ?_)
    · skip
      have hkn : k < p.days.length := by have := of_decide_eq_true h4; omega
      obtain ⟨d, hd⟩ : ∃ d, p.days[k]? = some d := ⟨_, List.getElem?_eq_getElem hkn⟩
      have hdm := List.mem_of_getElem? hd
      refine skp (h := ?_)
      refine q_seq (h := ?_)
      refine sq (h := ?_)
      refine bk (h := ?_)
      refine sq (h := ?_)
      refine sq (h := ?_)
      refine rgD (by kernel_rfl) [(1000000, .blk b0 25 p.cells), (1000000, .ro p.dA 1 p.days.length (encDy p.days))] (by repeat (first | exact HS.nil | (apply HS.keep; (repeat (first | exact At.here | apply At.there))) | (apply HS.ro; (repeat (first | exact Rds.ro | exact Rds.own | apply Rds.there))))) (h := ?_)
      refine tk 0 (hy := (by first | exact fa | exact faE)) (h := ?_)
      refine tk 1 (hy := (by first | exact ld | exact ldE)) (h := ?_)
      refine tk 2 (hy := mv) (h := ?_)
      refine tk 3 (hy := ix (A := p.dA) (m := p.days.length) (hb := by omega)) (h := ?_)
      refine tk 4 (hy := ldE (A := p.dA) (hk := encDy_at hd)) (h := ?_)
      refine tk 5 (hy := lenS) (h := ?_)
      refine tk 6 (hy := (by first | exact fa | exact faE)) (h := ?_)
      refine tk 7 (hy := (by first | exact ld | exact ldE)) (h := ?_)
      refine tk 8 (hy := ix (A := p.dA) (m := p.days.length) (hb := by omega)) (h := ?_)
      refine tk 9 (hy := ldE (A := p.dA) (k := 0) (hk := encDy_at hd0)) (h := ?_)
      refine tk 10 (hy := lenS) (h := ?_)
      refine tk 11 (hy := neq) (h := ?_)
      refine dn (h := ?_)
      refine q_seq (h := ?_)
      refine cd (by exact rfl) (fun h5 => ?_) (fun h5 => ?_)
      · skip
        refine sq (h := ?_)
        refine rg (h := ?_)
        refine WL.y (hy := asg) (h := ?_)
        refine WL.cut (by repeat (first | exact Cut.nil | apply Cut.hit | apply Cut.miss (by exact rfl))) ?_
        refine nl (h := ?_)
        refine q_seq (h := ?_)
        refine rtn (h := ?_)
        refine q_then_ret (h := ?_)
        refine q_blk_ret (h := ?_)
        refine q_then_ret (h := ?_)
        refine q_then_ret (h := ?_)
        refine q_blk_ret (h := ?_)
        refine q_then_ret (h := ?_)
        refine q_ret (hR := ?_)
        first
          | exact fun w hS => ⟨0, fun _ => ⟨by omega, hre, by omega, by omega, fun k d g8 g9 => ⟨(hkD k d g8 g9).n, (hkD k d g8 g9).s⟩, hkJ⟩, rfl, hS.sub (by repeat (first | exact SubL.nil | (apply SubL.cons; (repeat (first | exact At.here | apply At.there))) | exact SubL.refl _ | apply SubL.skip))⟩
          | exact fun w hS => ⟨80, fun g9 => absurd g9 (by decide), rfl, hS.sub (by repeat (first | exact SubL.nil | (apply SubL.cons; (repeat (first | exact At.here | apply At.there))) | exact SubL.refl _ | apply SubL.skip))⟩
      · skip
        have hdl : d.sp.length = p.nc := by have g9 := h5; rw [Bool.not_eq_false', decide_eq_true_eq] at g9; omega
        refine WC.old (h.s d hdm) ?_
        refine skp (h := ?_)
        refine q_seq (h := ?_)
        refine sq (h := ?_)
        refine rg (h := ?_)
        refine WL.y (hy := asg) (h := ?_)
        refine WL.cut (by repeat (first | exact Cut.nil | apply Cut.hit | apply Cut.miss (by exact rfl))) ?_
        refine nl (h := ?_)
        refine q_seq (h := ?_)
        refine bk (h := ?_)
        refine lp (X := Nat) (I := fun i => i ≤ d.sp.length ∧ ∀ i' s, i' < i → d.sp[i']? = some s → 0 ≤ s.1 ∧ s.1 ≤ s.2 ∧ s.2 ≤ 1440) (le := fun i => [(1, .pointer (some ⟨b0, 0, none⟩)), (3, .int .i64 k), (4, .int .i64 i)]) (Le := fun _ => [.blk b0 25 p.cells, .ro p.dA 1 p.days.length (encDy p.days), .ro p.jA 6 p.jobs.length (encJb p.jobs), .ro d.A 2 d.sp.length (encSn d.sp)]) (μ := fun i => d.sp.length - i) 0 ⟨Nat.zero_le _, fun _ _ g9 => absurd g9 (Nat.not_lt_zero _)⟩ (by repeat (first | exact trivial | refine ⟨rfl, ?_⟩)) (by repeat (first | exact SubL.nil | (apply SubL.cons; (repeat (first | exact At.here | apply At.there))) | exact SubL.refl _ | apply SubL.skip)) (fun i hi => ?_)
        obtain ⟨hiL, hiD⟩ := hi
        refine sq (h := ?_)
        refine sq (h := ?_)
        refine rg (h := ?_)
        refine WL.y (hy := mv) (h := ?_)
        refine WL.y (hy := (by first | exact fa | exact faE)) (h := ?_)
        refine WL.y (hy := (by first | exact ld | exact ldE)) (h := ?_)
        refine WL.y (hy := mv) (h := ?_)
        refine WL.y (hy := ix (A := p.dA) (m := p.days.length) (hb := by omega)) (h := ?_)
        refine WL.y (hy := ldE (A := p.dA) (hk := encDy_at hd)) (h := ?_)
        refine WL.y (hy := lenS) (h := ?_)
        refine WL.y (hy := lss) (h := ?_)
        refine nl (h := ?_)
        refine q_seq (h := ?_)
        refine cd (by exact rfl) (fun h6 => ?_) (fun h6 => ?_)
        · skip
          have hin : i < d.sp.length := by have := of_decide_eq_true h6; omega
          obtain ⟨s, hs⟩ : ∃ s, d.sp[i]? = some s := ⟨_, List.getElem?_eq_getElem hin⟩
          refine skp (h := ?_)
          refine q_seq (h := ?_)
          refine sq (h := ?_)
          refine bk (h := ?_)
          refine sq (h := ?_)
          refine rg (h := ?_)
          refine WL.y (hy := (by first | exact fa | exact faE)) (h := ?_)
          refine WL.y (hy := (by first | exact ld | exact ldE)) (h := ?_)
          refine WL.y (hy := mv) (h := ?_)
          refine WL.y (hy := ix (A := p.dA) (m := p.days.length) (hb := by omega)) (h := ?_)
          refine WL.y (hy := ldE (A := p.dA) (hk := encDy_at hd)) (h := ?_)
          refine WL.y (hy := mv) (h := ?_)
          refine WL.y (hy := ix (A := d.A) (m := d.sp.length) (hb := by omega)) (h := ?_)
          refine WL.y (hy := ldEW (A := d.A) (hk := encSn_at hs)) (h := ?_)
          refine al (h := fun b1 => ?_)
          first | refine stA (h := ?_) | refine stEA (h := ?_)
          refine nl (h := ?_)
          refine q_seq (h := ?_)
          refine sq (h := ?_)
          refine rg (h := ?_)
          refine WL.y (hy := (by first | exact fa | exact faE)) (h := ?_)
          refine WL.y (hy := (by first | exact ld | exact ldE)) (h := ?_)
          refine WL.y (hy := lss) (h := ?_)
          refine WL.y (hy := mv) (h := ?_)
          apply brOr 6 73 79 (by exact rfl)
          · intro hb7
            refine un (h := ?_)
            refine WL.y (hy := (by first | exact fa | exact faE)) (h := ?_)
            refine un (h := ?_)
            refine WL.y (hy := (by first | exact ld | exact ldE)) (h := ?_)
            refine un (h := ?_)
            refine WL.y (hy := (by first | exact fa | exact faE)) (h := ?_)
            refine un (h := ?_)
            refine WL.y (hy := (by first | exact ld | exact ldE)) (h := ?_)
            refine un (h := ?_)
            refine WL.y (hy := gtr) (h := ?_)
            refine WL.y (hy := (by first | exact pkT | exact pkF)) (h := ?_)
            exact mg (by repeat (first | exact trivial | refine ⟨rfl, ?_⟩ | refine ⟨by rw [hb7]; rfl, ?_⟩)) (by repeat (first | exact SubL.nil | (apply SubL.cons; (repeat (first | exact At.here | apply At.there))) | exact SubL.refl _ | apply SubL.skip))
          · intro hb7
            repeat (first | refine un (h := ?_) | refine sk (h := ?_) | refine WL.y (hy := pkF) (h := ?_) | refine WL.y (hy := pkT) (h := ?_))
            exact mg (by repeat (first | exact trivial | refine ⟨rfl, ?_⟩ | refine ⟨by rw [hb7]; rfl, ?_⟩)) (by repeat (first | exact SubL.nil | (apply SubL.cons; (repeat (first | exact At.here | apply At.there))) | exact SubL.refl _ | apply SubL.skip))
          refine WL.y (hy := mv) (h := ?_)
          apply brOr 4 80 84 (by exact rfl)
          · intro hb8
            refine un (h := ?_)
            refine WL.y (hy := (by first | exact fa | exact faE)) (h := ?_)
            refine un (h := ?_)
            refine WL.y (hy := (by first | exact ld | exact ldE)) (h := ?_)
            refine un (h := ?_)
            refine WL.y (hy := gtr) (h := ?_)
            refine WL.y (hy := (by first | exact pkT | exact pkF)) (h := ?_)
            exact mg (by repeat (first | exact trivial | refine ⟨rfl, ?_⟩ | refine ⟨by rw [hb8]; rfl, ?_⟩)) (by repeat (first | exact SubL.nil | (apply SubL.cons; (repeat (first | exact At.here | apply At.there))) | exact SubL.refl _ | apply SubL.skip))
          · intro hb8
            repeat (first | refine un (h := ?_) | refine sk (h := ?_) | refine WL.y (hy := pkF) (h := ?_) | refine WL.y (hy := pkT) (h := ?_))
            exact mg (by repeat (first | exact trivial | refine ⟨rfl, ?_⟩ | refine ⟨by rw [hb8]; rfl, ?_⟩)) (by repeat (first | exact SubL.nil | (apply SubL.cons; (repeat (first | exact At.here | apply At.there))) | exact SubL.refl _ | apply SubL.skip))
          refine nl (h := ?_)
          refine q_seq (h := ?_)
          refine cd (by exact rfl) (fun h9 => ?_) (fun h9 => ?_)
          · skip
            refine sq (h := ?_)
            refine rg (h := ?_)
            refine WL.y (hy := asg) (h := ?_)
            refine WL.cut (by repeat (first | exact Cut.nil | apply Cut.hit | apply Cut.miss (by exact rfl))) ?_
            refine nl (h := ?_)
            refine q_seq (h := ?_)
            refine rtn (h := ?_)
            refine q_blk_ret (h := ?_)
            refine q_then_ret (h := ?_)
            refine q_then_ret (h := ?_)
            refine q_blk_ret (h := ?_)
            refine q_blk_ret (h := ?_)
            refine q_then_ret (h := ?_)
            refine q_then_ret (h := ?_)
            refine q_blk_ret (h := ?_)
            refine q_then_ret (h := ?_)
            refine q_ret (hR := ?_)
            first
              | exact fun w hS => ⟨0, fun _ => ⟨by omega, hre, by omega, by omega, fun k d g8 g9 => ⟨(hkD k d g8 g9).n, (hkD k d g8 g9).s⟩, hkJ⟩, rfl, hS.sub (by repeat (first | exact SubL.nil | (apply SubL.cons; (repeat (first | exact At.here | apply At.there))) | exact SubL.refl _ | apply SubL.skip))⟩
              | exact fun w hS => ⟨80, fun g9 => absurd g9 (by decide), rfl, hS.sub (by repeat (first | exact SubL.nil | (apply SubL.cons; (repeat (first | exact At.here | apply At.there))) | exact SubL.refl _ | apply SubL.skip))⟩
          · skip
            have g9 := h9
            rw [Bool.or_eq_false_iff, Bool.or_eq_false_iff, decide_eq_false_iff_not, decide_eq_false_iff_not, decide_eq_false_iff_not] at g9
            have hsk : 0 ≤ s.1 ∧ s.1 ≤ s.2 ∧ s.2 ≤ 1440 := by omega
            refine skp (h := ?_)
            refine q_blk_norm (h := ?_)
            refine q_seq (h := ?_)
            refine rg (h := ?_)
            refine WL.y (hy := mv) (h := ?_)
            refine WL.y (hy := addI) (h := ?_)
            refine WL.y (hy := asg) (h := ?_)
            refine WL.cut (by repeat (first | exact Cut.nil | apply Cut.hit | apply Cut.miss (by exact rfl))) ?_
            refine nl (h := ?_)
            refine rn (x := i) (i + 1) ⟨hin, fun i' s' g8 g9 => by
              by_cases e : i' = i
              · rw [e, hs] at g9; cases g9; exact hsk
              · exact hiD i' s' (by omega) g9⟩ (by omega) (by repeat (first | exact trivial | refine ⟨rfl, ?_⟩)) (by repeat (first | exact SubL.nil | (apply SubL.cons; (repeat (first | exact At.here | apply At.there))) | exact SubL.refl _ | apply SubL.skip))
        · skip
          have hin : i = d.sp.length := by have := of_decide_eq_false h6; omega
          rw [hin] at hiD
          have hdo : DyOk p.nc d := ⟨hdl, hiD⟩
          refine et (h := ?_)
          refine q_then_exit (h := ?_)
          refine q_then_exit (h := ?_)
          refine q_blk_hit (h := ?_)
          refine q_blk_norm (h := ?_)
          refine q_seq (h := ?_)
          refine rg (h := ?_)
          refine WL.y (hy := mv) (h := ?_)
          refine WL.y (hy := addI) (h := ?_)
          refine WL.y (hy := asg) (h := ?_)
          refine WL.cut (by repeat (first | exact Cut.nil | apply Cut.hit | apply Cut.miss (by exact rfl))) ?_
          refine nl (h := ?_)
          refine rn (x := k) (k + 1) ⟨hkn, fun i' d' g8 g9 => by
            by_cases e : i' = k
            · rw [e, hd] at g9; cases g9; exact hdo
            · exact hkD i' d' (by omega) g9⟩ (by omega) (by repeat (first | exact trivial | refine ⟨rfl, ?_⟩)) (by repeat (first | exact SubL.nil | (apply SubL.cons; (repeat (first | exact At.here | apply At.there))) | exact SubL.refl _ | apply SubL.skip))
    · skip
      have hkn : k = p.days.length := by have := of_decide_eq_false h4; omega
      rw [hkn] at hkD
      refine et (h := ?_)
      refine q_then_exit (h := ?_)
      refine q_then_exit (h := ?_)
      refine q_blk_hit (h := ?_)
      refine q_seq (h := ?_)
      refine sq (h := ?_)
      refine sq (h := ?_)
      refine rg (h := ?_)
      refine WL.y (hy := asg) (h := ?_)
      refine WL.cut (by repeat (first | exact Cut.nil | apply Cut.hit | apply Cut.miss (by exact rfl))) ?_
      refine nl (h := ?_)
      refine q_seq (h := ?_)
      refine bk (h := ?_)
      refine lp (X := Nat) (I := fun k => k ≤ p.jobs.length ∧ ∀ i j, i < k → p.jobs[i]? = some j → JOk p.jobs.length i j) (le := fun k => [(1, .pointer (some ⟨b0, 0, none⟩)), (6, .int .i64 k)]) (Le := fun _ => [.blk b0 25 p.cells, .ro p.jA 6 p.jobs.length (encJb p.jobs)]) (μ := fun k => p.jobs.length - k) 0 ⟨Nat.zero_le _, fun _ _ g9 => absurd g9 (Nat.not_lt_zero _)⟩ (by repeat (first | exact trivial | refine ⟨rfl, ?_⟩)) (by repeat (first | exact SubL.nil | (apply SubL.cons; (repeat (first | exact At.here | apply At.there))) | exact SubL.refl _ | apply SubL.skip)) (fun k hk => ?_)
      obtain ⟨hkL, hkJ⟩ := hk
      refine sq (h := ?_)
      refine sq (h := ?_)
      refine rg (h := ?_)
      refine WL.y (hy := mv) (h := ?_)
      refine WL.y (hy := (by first | exact fa | exact faE)) (h := ?_)
      refine WL.y (hy := (by first | exact ld | exact ldE)) (h := ?_)
      refine WL.y (hy := lenS) (h := ?_)
      refine WL.y (hy := lss) (h := ?_)
      refine nl (h := ?_)
      refine q_seq (h := ?_)
      refine cd (by exact rfl) (fun h10 => ?_) (fun h10 => ?_)
      · skip
        have hkn : k < p.jobs.length := by have := of_decide_eq_true h10; omega
        obtain ⟨j, hj⟩ : ∃ j, p.jobs[k]? = some j := ⟨_, List.getElem?_eq_getElem hkn⟩
        have hjm := List.mem_of_getElem? hj
        refine skp (h := ?_)
        refine q_seq (h := ?_)
        refine sq (h := ?_)
        refine bk (h := ?_)
        refine sq (h := ?_)
        refine WC.old (h.f j hjm) ?_
        refine WC.old (h.w j hjm) ?_
        refine rgD (by kernel_rfl) [(1000000, .blk b0 25 p.cells), (1000000, .ro p.jA 6 p.jobs.length (encJb p.jobs))] (by repeat (first | exact HS.nil | (apply HS.keep; (repeat (first | exact At.here | apply At.there))) | (apply HS.ro; (repeat (first | exact Rds.ro | exact Rds.own | apply Rds.there))))) (h := ?_)
        refine tk 0 (hy := (by first | exact fa | exact faE)) (h := ?_)
        refine tk 1 (hy := (by first | exact ld | exact ldE)) (h := ?_)
        refine tk 2 (hy := mv) (h := ?_)
        refine tk 3 (hy := ix (A := p.jA) (m := p.jobs.length) (hb := by omega)) (h := ?_)
        refine tk 4 (hy := ldEW (A := p.jA) (hk := encJb_at hj)) (h := ?_)
        refine tk 5 (hy := mv) (h := ?_)
        refine tk 6 (hy := (by first | exact fa | exact faE)) (h := ?_)
        refine tk 7 (hy := (by first | exact ld | exact ldE)) (h := ?_)
        refine tk 8 (hy := lenS) (h := ?_)
        refine one 9 (h := ?_)
        refine cl (hc := fun w hS => C_ref8_isJob j k p.jobs.length (by omega) (by omega) (hn.fn j hjm) (hn.wn j hjm) w (hS.get (by repeat (first | exact Rds.ro | exact Rds.own | apply Rds.there))) (hS.get (by repeat (first | exact Rds.ro | exact Rds.own | apply Rds.there)))) (h := fun b hb => ?_)
        refine nx (h := ?_)
        refine tk 10 (hy := notB) (h := ?_)
        refine dn (h := ?_)
        refine q_seq (h := ?_)
        refine cd (by exact rfl) (fun h11 => ?_) (fun h11 => ?_)
        · skip
          refine sq (h := ?_)
          refine rg (h := ?_)
          refine WL.y (hy := asg) (h := ?_)
          refine WL.cut (by repeat (first | exact Cut.nil | apply Cut.hit | apply Cut.miss (by exact rfl))) ?_
          refine nl (h := ?_)
          refine q_seq (h := ?_)
          refine rtn (h := ?_)
          refine q_blk_ret (h := ?_)
          refine q_then_ret (h := ?_)
          refine q_then_ret (h := ?_)
          refine q_blk_ret (h := ?_)
          refine q_then_ret (h := ?_)
          refine q_ret (hR := ?_)
          first
            | exact fun w hS => ⟨0, fun _ => ⟨by omega, hre, by omega, by omega, fun k d g8 g9 => ⟨(hkD k d g8 g9).n, (hkD k d g8 g9).s⟩, hkJ⟩, rfl, hS.sub (by repeat (first | exact SubL.nil | (apply SubL.cons; (repeat (first | exact At.here | apply At.there))) | exact SubL.refl _ | apply SubL.skip))⟩
            | exact fun w hS => ⟨80, fun g9 => absurd g9 (by decide), rfl, hS.sub (by repeat (first | exact SubL.nil | (apply SubL.cons; (repeat (first | exact At.here | apply At.there))) | exact SubL.refl _ | apply SubL.skip))⟩
        · skip
          have hjo : JOk p.jobs.length k j := hb (by have g9 := h11; rwa [Bool.not_eq_false'] at g9)
          refine skp (h := ?_)
          refine q_blk_norm (h := ?_)
          refine q_seq (h := ?_)
          refine rg (h := ?_)
          refine WL.y (hy := mv) (h := ?_)
          refine WL.y (hy := addI) (h := ?_)
          refine WL.y (hy := asg) (h := ?_)
          refine WL.cut (by repeat (first | exact Cut.nil | apply Cut.hit | apply Cut.miss (by exact rfl))) ?_
          refine nl (h := ?_)
          refine rn (x := k) (k + 1) ⟨hkn, fun i' j' g8 g9 => by
            by_cases e : i' = k
            · subst e; rw [hj] at g9; cases g9; exact hjo
            · exact hkJ i' j' (by omega) g9⟩ (by omega) (by repeat (first | exact trivial | refine ⟨rfl, ?_⟩)) (by repeat (first | exact SubL.nil | (apply SubL.cons; (repeat (first | exact At.here | apply At.there))) | exact SubL.refl _ | apply SubL.skip))
      · skip
        have hkn : k = p.jobs.length := by have := of_decide_eq_false h10; omega
        rw [hkn] at hkJ
        refine et (h := ?_)
        refine q_then_exit (h := ?_)
        refine q_then_exit (h := ?_)
        refine q_blk_hit (h := ?_)
        refine q_seq (h := ?_)
        refine sq (h := ?_)
        refine rg (h := ?_)
        refine WL.y (hy := asg) (h := ?_)
        refine WL.cut (by repeat (first | exact Cut.nil | apply Cut.hit | apply Cut.miss (by exact rfl))) ?_
        refine nl (h := ?_)
        refine q_seq (h := ?_)
        refine rtn (h := ?_)
        refine q_ret (hR := ?_)
        first
          | exact fun w hS => ⟨0, fun _ => ⟨by omega, hre, by omega, by omega, fun k d g8 g9 => ⟨(hkD k d g8 g9).n, (hkD k d g8 g9).s⟩, hkJ⟩, rfl, hS.sub (by repeat (first | exact SubL.nil | (apply SubL.cons; (repeat (first | exact At.here | apply At.there))) | exact SubL.refl _ | apply SubL.skip))⟩
          | exact fun w hS => ⟨80, fun g9 => absurd g9 (by decide), rfl, hS.sub (by repeat (first | exact SubL.nil | (apply SubL.cons; (repeat (first | exact At.here | apply At.there))) | exact SubL.refl _ | apply SubL.skip))⟩
def hasB (l : List Se) (job : Int) : Bool := l.any fun t => decide (t.job = job)
theorem hasB_no {l : List Se} {job : Int} {k : Nat} {t : Se} (h : hasB (l.take k) job = false) (ht : l[k]? = some t) (hne : ¬ t.job = job) : hasB (l.take (k + 1)) job = false := by
  unfold hasB at h ⊢
  rw [List.take_add_one, ht, List.any_append, h]
  simp [hne]
theorem C_ref8_has (l : List Se) (job : Int) (A : Option Addr) (n c : Nat) (hn : n ≤ 9223372036854775807) (w : World) (h : Rd w A 3 n (encSe l)) : C0 Try.prog 39 [.slice A n c, .int .i64 job] w (.bool (hasB l job)) := by
  have hlen : l.length = n := by have := h.len; rwa [encSe_len] at this
  refine ⟨en Try.func39 Try.ntmps39 ((St.init w).share (e := .ro A 3 n (encSe l)) h rfl rfl rfl) (h := fun F => ?_)⟩
  refine sq (h := ?_)
  refine rg (h := ?_)
  refine WL.y (hy := asg) (h := ?_)
  refine WL.cut (by repeat (first | exact Cut.nil | apply Cut.hit | apply Cut.miss (by exact rfl))) ?_
  refine nl (h := ?_)
  refine q_seq (h := ?_)
  refine sq (h := ?_)
  refine sq (h := ?_)
  refine rg (h := ?_)
  refine WL.y (hy := asg) (h := ?_)
  refine WL.cut (by repeat (first | exact Cut.nil | apply Cut.hit | apply Cut.miss (by exact rfl))) ?_
  refine nl (h := ?_)
  refine q_seq (h := ?_)
  refine bk (h := ?_)
  refine lp (X := Nat) (I := fun k => k ≤ n ∧ hasB (l.take k) job = false) (le := fun k => [(0, .slice A n c), (1, .int .i64 job), (5, .int .i64 k)]) (Le := fun _ => [.ro A 3 n (encSe l)]) (μ := fun k => n - k) 0 ⟨Nat.zero_le _, rfl⟩ (by repeat (first | exact trivial | refine ⟨rfl, ?_⟩)) (by repeat (first | exact SubL.nil | (apply SubL.cons; (repeat (first | exact At.here | apply At.there))) | exact SubL.refl _ | apply SubL.skip)) (fun k hk => ?_)
  obtain ⟨hkL, hkH⟩ := hk
  refine sq (h := ?_)
  refine sq (h := ?_)
  refine rg (h := ?_)
  refine WL.y (hy := mv) (h := ?_)
  refine WL.y (hy := mv) (h := ?_)
  refine WL.y (hy := lenS) (h := ?_)
  refine WL.y (hy := lss) (h := ?_)
  refine nl (h := ?_)
  refine q_seq (h := ?_)
  refine cd (by exact rfl) (fun h0 => ?_) (fun h0 => ?_)
  · skip
    have hkn : k < n := by have := of_decide_eq_true h0; omega
    obtain ⟨t, ht⟩ : ∃ t, l[k]? = some t := ⟨_, List.getElem?_eq_getElem (by omega)⟩
    refine skp (h := ?_)
    refine q_seq (h := ?_)
    refine sq (h := ?_)
    refine bk (h := ?_)
    refine sq (h := ?_)
    refine rg (h := ?_)
    refine WL.y (hy := mv) (h := ?_)
    refine WL.y (hy := mv) (h := ?_)
    refine WL.y (hy := ix (A := A) (m := n) (hb := by omega)) (h := ?_)
    refine WL.y (hy := (by first | exact fa | exact faE)) (h := ?_)
    refine WL.y (hy := ldE (A := A) (hk := encSe_at ht)) (h := ?_)
    refine WL.y (hy := mv) (h := ?_)
    refine WL.y (hy := eql) (h := ?_)
    refine nl (h := ?_)
    refine q_seq (h := ?_)
    refine cd (by exact rfl) (fun h1 => ?_) (fun h1 => ?_)
    · skip
      have hE : hasB l job = true := List.any_eq_true.2 ⟨t, List.mem_of_getElem? ht, h1⟩
      refine sq (h := ?_)
      refine rg (h := ?_)
      refine WL.y (hy := asg) (h := ?_)
      refine WL.cut (by repeat (first | exact Cut.nil | apply Cut.hit | apply Cut.miss (by exact rfl))) ?_
      refine nl (h := ?_)
      refine q_seq (h := ?_)
      refine rtn (h := ?_)
      refine q_blk_ret (h := ?_)
      refine q_then_ret (h := ?_)
      refine q_then_ret (h := ?_)
      refine q_blk_ret (h := ?_)
      refine q_then_ret (h := ?_)
      refine q_ret (hR := ?_)
      rw [hE]
      exact fun w hS => ⟨rfl, hS.sub (by repeat (first | exact SubL.nil | (apply SubL.cons; (repeat (first | exact At.here | apply At.there))) | exact SubL.refl _ | apply SubL.skip))⟩
    · skip
      have hkH2 := hasB_no hkH ht (of_decide_eq_false h1)
      refine skp (h := ?_)
      refine q_blk_norm (h := ?_)
      refine q_seq (h := ?_)
      refine rg (h := ?_)
      refine WL.y (hy := mv) (h := ?_)
      refine WL.y (hy := addI) (h := ?_)
      refine WL.y (hy := asg) (h := ?_)
      refine WL.cut (by repeat (first | exact Cut.nil | apply Cut.hit | apply Cut.miss (by exact rfl))) ?_
      refine nl (h := ?_)
      refine rn (x := k) (k + 1) ⟨hkn, hkH2⟩ (by omega) (by repeat (first | exact trivial | refine ⟨rfl, ?_⟩)) (by repeat (first | exact SubL.nil | (apply SubL.cons; (repeat (first | exact At.here | apply At.there))) | exact SubL.refl _ | apply SubL.skip))
  · skip
    have hkn : k = n := by have := of_decide_eq_false h0; omega
    have hE : hasB l job = false := by rw [← hkH, hkn, ← hlen, List.take_length]
    refine et (h := ?_)
    refine q_then_exit (h := ?_)
    refine q_then_exit (h := ?_)
    refine q_blk_hit (h := ?_)
    refine q_seq (h := ?_)
    refine sq (h := ?_)
    refine rg (h := ?_)
    refine WL.y (hy := asg) (h := ?_)
    refine WL.cut (by repeat (first | exact Cut.nil | apply Cut.hit | apply Cut.miss (by exact rfl))) ?_
    refine nl (h := ?_)
    refine q_seq (h := ?_)
    refine rtn (h := ?_)
    refine q_ret (hR := ?_)
    rw [hE]
    exact fun w hS => ⟨rfl, hS.sub (by repeat (first | exact SubL.nil | (apply SubL.cons; (repeat (first | exact At.here | apply At.there))) | exact SubL.refl _ | apply SubL.skip))⟩
end Go.Proofs.Ytngelilffleimaa

namespace Go.Proofs.Ytngelilffleimaa
open Go Go.RowKit

theorem hasB_iff {l : List Se} {job : Int} : hasB l job = true ↔ ∃ t ∈ l, t.job = job := by
  unfold hasB
  rw [List.any_eq_true]
  exact ⟨fun ⟨t, h1, h2⟩ => ⟨t, h1, of_decide_eq_true h2⟩, fun ⟨t, h1, h2⟩ => ⟨t, h1, decide_eq_true h2⟩⟩
set_option maxRecDepth 100000 in
set_option maxHeartbeats 1000000 in
theorem C_ref8_MayCome (p : Pg) (hp : POk p) (l : List Se) (s : Se) (A : Option Addr) (n c : Nat) (hn : n ≤ 9223372036854775807) (w : World) (h : PgR w p) (hl : Rd w A 3 n (encSe l)) :
    CR Try.prog 19 [p.val, .slice A n c, s.val] w (fun b : Bool => b = true ↔ MayC p l s) (fun b => .bool b) (fun _ => []) := by
  have hlen : l.length = n := by have := hl.len; rwa [encSe_len] at this
  have hnd := hp.nd
  have hnj := hp.nj
  have hnc := hp.nc
  obtain ⟨d0, hd0⟩ : ∃ d, p.days[0]? = some d := ⟨_, List.getElem?_eq_getElem (by omega)⟩
  have hn0 := nc_first hd0
  refine ⟨en Try.func19 Try.ntmps19 ((((St.init w).share (e := .ro p.dA 1 p.days.length (encDy p.days)) h.d rfl rfl rfl).share (e := .ro p.jA 6 p.jobs.length (encJb p.jobs)) h.j rfl rfl rfl).share (e := .ro A 3 n (encSe l)) hl rfl rfl rfl) (h := fun F => ?_)⟩
  refine sq (h := ?_)
  refine rg (h := ?_)
  refine bxA (h := fun b0 => ?_)
  refine bxA (h := fun b1 => ?_)
  refine WL.y (hy := asg) (h := ?_)
  refine WL.cut (by repeat (first | exact Cut.nil | apply Cut.hit | apply Cut.miss (by exact rfl))) ?_
  refine nl (h := ?_)
  refine q_seq (h := ?_)
  refine sq (h := ?_)
  refine sq (h := ?_)
  refine rgD0 (by kernel_rfl) (h := ?_)
  refine tk 0 (hy := (by first | exact fa | exact faE)) (h := ?_)
  refine tk 1 (hy := (by first | exact ld | exact ldE)) (h := ?_)
  refine tk 2 (hy := (by first | exact fa | exact faE)) (h := ?_)
  refine tk 3 (hy := (by first | exact ld | exact ldE)) (h := ?_)
  refine tk 4 (hy := lenS) (h := ?_)
  refine tk 5 (hy := subI (hb := by omega)) (h := ?_)
  refine one 6 (h := ?_)
  refine cl0 (hc := fun w hS => C_ref8_within s.job 0 ((p.jobs.length : Int) - 1) w) (h := ?_)
  refine nx (h := ?_)
  refine tk 7 (hy := notB) (h := ?_)
  refine tk 8 (hy := mv) (h := ?_)
  refine brH (g := 17) (by exact rfl) (fun hb0 => ?_) (fun hb0 => ?_)
  · skip
    have hno : ¬ MayC p l s := fun hm => by
      have g9 := hm.job
      have g8 : win s.job 0 ((p.jobs.length : Int) - 1) = true := win_iff.2 (by omega)
      have g7 := hb0
      rw [g8] at g7; exact absurd g7 (by decide)
    refine tkS 9 (h := ?_)
    refine tkS 10 (h := ?_)
    refine tkS 11 (h := ?_)
    refine tkS 12 (h := ?_)
    refine tk 13 (hy := (by first | exact pkT | exact pkF)) (h := ?_)
    refine tk 14 (hy := mv) (h := ?_)
    refine tkS 15 (h := ?_)
    refine tkS 16 (h := ?_)
    refine tkS 17 (h := ?_)
    refine tkS 18 (h := ?_)
    refine tkS 19 (h := ?_)
    refine tkS 20 (h := ?_)
    refine tkS 21 (h := ?_)
    refine tkS 22 (h := ?_)
    refine tkS 23 (h := ?_)
    refine tkS 24 (h := ?_)
    refine tkS 25 (h := ?_)
    refine tkS 26 (h := ?_)
    refine tkS 27 (h := ?_)
    refine tkS 28 (h := ?_)
    refine tkS 29 (h := ?_)
    refine tkS 30 (h := ?_)
    refine tk 31 (hy := (by first | exact pkT | exact pkF)) (h := ?_)
    refine tk 32 (hy := mv) (h := ?_)
    refine tkS 33 (h := ?_)
    refine tkS 34 (h := ?_)
    refine tkS 35 (h := ?_)
    refine tkS 36 (h := ?_)
    refine tkS 37 (h := ?_)
    refine tkS 38 (h := ?_)
    refine tkS 39 (h := ?_)
    refine tkS 40 (h := ?_)
    refine tkS 41 (h := ?_)
    refine tkS 42 (h := ?_)
    refine tk 43 (hy := (by first | exact pkT | exact pkF)) (h := ?_)
    refine dn (h := ?_)
    refine q_seq (h := ?_)
    refine cdT (h := ?_)
    first
      | have hno1 : ¬ MayC p l s := hno
      | (have hno : ¬ MayC p l s := fun hm => by
           have g9 := hm.court
           have g8 : win s.court 0 ((d0.sp.length : Int) - 1) = true := win_iff.2 (by omega)
           have g7 : (!win s.court 0 ((d0.sp.length : Int) - 1)) = true := by assumption
           rw [g8] at g7; exact absurd g7 (by decide))
    refine sq (h := ?_)
    refine rg (h := ?_)
    refine WL.y (hy := asg) (h := ?_)
    refine WL.cut (by repeat (first | exact Cut.nil | apply Cut.hit | apply Cut.miss (by exact rfl))) ?_
    refine nl (h := ?_)
    refine q_seq (h := ?_)
    refine rtn (h := ?_)
    refine q_then_ret (h := ?_)
    refine q_ret (hR := ?_)
    first
      | exact fun w hS => ⟨false, ⟨fun h9 => (by cases h9), fun hm => absurd hm hno⟩, rfl, hS.sub (by repeat (first | exact SubL.nil | (apply SubL.cons; (repeat (first | exact At.here | apply At.there))) | exact SubL.refl _ | apply SubL.skip))⟩
      | exact fun w hS => ⟨true, ⟨fun _ => ⟨by omega, fun t ht he => absurd (hw2.symm.trans (hasB_iff.2 ⟨t, ht, he⟩)) (by decide), by omega, fun j' hj' => by rw [hj] at hj'; cases hj'; omega, by omega, fun t ht => by
          obtain ⟨i', g8, e⟩ := List.mem_iff_getElem.1 ht
          exact hkD i' t (by omega) (by rw [List.getElem?_eq_getElem g8, e]), fun j' hj' x hx => by
          rw [hj] at hj'; cases hj'
          obtain ⟨i', g8, e⟩ := List.mem_iff_getElem.1 hx
          exact hasB_iff.1 (hiD i' x (by omega) (by rw [List.getElem?_eq_getElem g8, e]))⟩, fun _ => rfl⟩, rfl, hS.sub (by repeat (first | exact SubL.nil | (apply SubL.cons; (repeat (first | exact At.here | apply At.there))) | exact SubL.refl _ | apply SubL.skip))⟩
  · skip
    have hw1 := win_no hb0
    obtain ⟨j, hj⟩ : ∃ j, p.jobs[s.job.toNat]? = some j := ⟨_, List.getElem?_eq_getElem (by omega)⟩
    have hjm := List.mem_of_getElem? hj
    have hjo := hp.jb _ j (by omega) hj
    have hjd := hjo.due
    refine tk 9 (hy := mv) (h := ?_)
    refine tk 10 (hy := (by first | exact fa | exact faE)) (h := ?_)
    refine tk 11 (hy := (by first | exact ld | exact ldE)) (h := ?_)
    refine one 12 (h := ?_)
    refine un (h := ?_)
    refine cl0 (hc := fun w hS => C_ref8_has l s.job A n c hn w (hS.get (by repeat (first | exact Rds.ro | exact Rds.own | apply Rds.there)))) (h := ?_)
    refine nx (h := ?_)
    refine tk 13 (hy := (by first | exact pkT | exact pkF)) (h := ?_)
    refine tk 14 (hy := mv) (h := ?_)
    refine brH (g := 23) (by exact rfl) (fun hb2 => ?_) (fun hb2 => ?_)
    · skip
      have hno : ¬ MayC p l s := fun hm => by
        obtain ⟨t, ht, he⟩ := hasB_iff.1 (show hasB l s.job = true from hb2)
        exact hm.new t ht he
      refine tkS 15 (h := ?_)
      refine tkS 16 (h := ?_)
      refine tkS 17 (h := ?_)
      refine tkS 18 (h := ?_)
      refine tkS 19 (h := ?_)
      refine tkS 20 (h := ?_)
      refine tkS 21 (h := ?_)
      refine tkS 22 (h := ?_)
      refine tkS 23 (h := ?_)
      refine tkS 24 (h := ?_)
      refine tkS 25 (h := ?_)
      refine tkS 26 (h := ?_)
      refine tkS 27 (h := ?_)
      refine tkS 28 (h := ?_)
      refine tkS 29 (h := ?_)
      refine tkS 30 (h := ?_)
      refine tk 31 (hy := (by first | exact pkT | exact pkF)) (h := ?_)
      refine tk 32 (hy := mv) (h := ?_)
      refine tkS 33 (h := ?_)
      refine tkS 34 (h := ?_)
      refine tkS 35 (h := ?_)
      refine tkS 36 (h := ?_)
      refine tkS 37 (h := ?_)
      refine tkS 38 (h := ?_)
      refine tkS 39 (h := ?_)
      refine tkS 40 (h := ?_)
      refine tkS 41 (h := ?_)
      refine tkS 42 (h := ?_)
      refine tk 43 (hy := (by first | exact pkT | exact pkF)) (h := ?_)
      refine dn (h := ?_)
      refine q_seq (h := ?_)
      refine cdT (h := ?_)
      first
        | have hno1 : ¬ MayC p l s := hno
        | (have hno : ¬ MayC p l s := fun hm => by
             have g9 := hm.court
             have g8 : win s.court 0 ((d0.sp.length : Int) - 1) = true := win_iff.2 (by omega)
             have g7 : (!win s.court 0 ((d0.sp.length : Int) - 1)) = true := by assumption
             rw [g8] at g7; exact absurd g7 (by decide))
      refine sq (h := ?_)
      refine rg (h := ?_)
      refine WL.y (hy := asg) (h := ?_)
      refine WL.cut (by repeat (first | exact Cut.nil | apply Cut.hit | apply Cut.miss (by exact rfl))) ?_
      refine nl (h := ?_)
      refine q_seq (h := ?_)
      refine rtn (h := ?_)
      refine q_then_ret (h := ?_)
      refine q_ret (hR := ?_)
      first
        | exact fun w hS => ⟨false, ⟨fun h9 => (by cases h9), fun hm => absurd hm hno⟩, rfl, hS.sub (by repeat (first | exact SubL.nil | (apply SubL.cons; (repeat (first | exact At.here | apply At.there))) | exact SubL.refl _ | apply SubL.skip))⟩
        | exact fun w hS => ⟨true, ⟨fun _ => ⟨by omega, fun t ht he => absurd (hw2.symm.trans (hasB_iff.2 ⟨t, ht, he⟩)) (by decide), by omega, fun j' hj' => by rw [hj] at hj'; cases hj'; omega, by omega, fun t ht => by
            obtain ⟨i', g8, e⟩ := List.mem_iff_getElem.1 ht
            exact hkD i' t (by omega) (by rw [List.getElem?_eq_getElem g8, e]), fun j' hj' x hx => by
            rw [hj] at hj'; cases hj'
            obtain ⟨i', g8, e⟩ := List.mem_iff_getElem.1 hx
            exact hasB_iff.1 (hiD i' x (by omega) (by rw [List.getElem?_eq_getElem g8, e]))⟩, fun _ => rfl⟩, rfl, hS.sub (by repeat (first | exact SubL.nil | (apply SubL.cons; (repeat (first | exact At.here | apply At.there))) | exact SubL.refl _ | apply SubL.skip))⟩
    · skip
      have hw2 : hasB l s.job = false := hb2
      refine tk 15 (hy := (by first | exact fa | exact faE)) (h := ?_)
      refine tk 16 (hy := (by first | exact ld | exact ldE)) (h := ?_)
      refine tk 17 (hy := (by first | exact fa | exact faE)) (h := ?_)
      refine tk 18 (hy := (by first | exact ld | exact ldE)) (h := ?_)
      refine tk 19 (hy := lenS) (h := ?_)
      refine tk 20 (hy := subI (hb := by omega)) (h := ?_)
      refine tk 21 (hy := (by first | exact fa | exact faE)) (h := ?_)
      refine tk 22 (hy := (by first | exact ld | exact ldE)) (h := ?_)
      refine tk 23 (hy := (by first | exact fa | exact faE)) (h := ?_)
      refine tk 24 (hy := (by first | exact ld | exact ldE)) (h := ?_)
      refine tk 25 (hy := ix (A := p.jA) (m := p.jobs.length) (hb := by omega)) (h := ?_)
      refine tk 26 (hy := (by first | exact fa | exact faE)) (h := ?_)
      refine tk 27 (hy := ldE (A := p.jA) (hk := encJb_at hj)) (h := ?_)
      refine tk 28 (hy := minI) (h := ?_)
      refine one 29 (h := ?_)
      refine un (h := ?_)
      refine cl0 (hc := fun w hS => C_ref8_within s.day 0 (min ((p.days.length : Int) - 1) j.due) w) (h := ?_)
      refine nx (h := ?_)
      refine tk 30 (hy := notB) (h := ?_)
      refine tk 31 (hy := (by first | exact pkT | exact pkF)) (h := ?_)
      refine tk 32 (hy := mv) (h := ?_)
      refine brH (g := 41) (by exact rfl) (fun hb4 => ?_) (fun hb4 => ?_)
      · skip
        have hno : ¬ MayC p l s := fun hm => by
          have g9 := hm.day
          have g6 := hm.due j hj
          have g8 : win s.day 0 (min ((p.days.length : Int) - 1) j.due) = true := win_iff.2 (by omega)
          have g7 := hb4
          rw [g8] at g7; exact absurd g7 (by decide)
        refine tkS 33 (h := ?_)
        refine tkS 34 (h := ?_)
        refine tkS 35 (h := ?_)
        refine tkS 36 (h := ?_)
        refine tkS 37 (h := ?_)
        refine tkS 38 (h := ?_)
        refine tkS 39 (h := ?_)
        refine tkS 40 (h := ?_)
        refine tkS 41 (h := ?_)
        refine tkS 42 (h := ?_)
        refine tk 43 (hy := (by first | exact pkT | exact pkF)) (h := ?_)
        refine dn (h := ?_)
        refine q_seq (h := ?_)
        refine cdT (h := ?_)
        first
          | have hno1 : ¬ MayC p l s := hno
          | (have hno : ¬ MayC p l s := fun hm => by
               have g9 := hm.court
               have g8 : win s.court 0 ((d0.sp.length : Int) - 1) = true := win_iff.2 (by omega)
               have g7 : (!win s.court 0 ((d0.sp.length : Int) - 1)) = true := by assumption
               rw [g8] at g7; exact absurd g7 (by decide))
        refine sq (h := ?_)
        refine rg (h := ?_)
        refine WL.y (hy := asg) (h := ?_)
        refine WL.cut (by repeat (first | exact Cut.nil | apply Cut.hit | apply Cut.miss (by exact rfl))) ?_
        refine nl (h := ?_)
        refine q_seq (h := ?_)
        refine rtn (h := ?_)
        refine q_then_ret (h := ?_)
        refine q_ret (hR := ?_)
        first
          | exact fun w hS => ⟨false, ⟨fun h9 => (by cases h9), fun hm => absurd hm hno⟩, rfl, hS.sub (by repeat (first | exact SubL.nil | (apply SubL.cons; (repeat (first | exact At.here | apply At.there))) | exact SubL.refl _ | apply SubL.skip))⟩
          | exact fun w hS => ⟨true, ⟨fun _ => ⟨by omega, fun t ht he => absurd (hw2.symm.trans (hasB_iff.2 ⟨t, ht, he⟩)) (by decide), by omega, fun j' hj' => by rw [hj] at hj'; cases hj'; omega, by omega, fun t ht => by
              obtain ⟨i', g8, e⟩ := List.mem_iff_getElem.1 ht
              exact hkD i' t (by omega) (by rw [List.getElem?_eq_getElem g8, e]), fun j' hj' x hx => by
              rw [hj] at hj'; cases hj'
              obtain ⟨i', g8, e⟩ := List.mem_iff_getElem.1 hx
              exact hasB_iff.1 (hiD i' x (by omega) (by rw [List.getElem?_eq_getElem g8, e]))⟩, fun _ => rfl⟩, rfl, hS.sub (by repeat (first | exact SubL.nil | (apply SubL.cons; (repeat (first | exact At.here | apply At.there))) | exact SubL.refl _ | apply SubL.skip))⟩
      · skip
        have hw3 := win_no hb4
        refine tk 33 (hy := (by first | exact fa | exact faE)) (h := ?_)
        refine tk 34 (hy := (by first | exact ld | exact ldE)) (h := ?_)
        refine tk 35 (hy := (by first | exact fa | exact faE)) (h := ?_)
        refine tk 36 (hy := (by first | exact ld | exact ldE)) (h := ?_)
        refine tk 37 (hy := ix (A := p.dA) (m := p.days.length) (hb := by omega)) (h := ?_)
        refine tk 38 (hy := ldE (A := p.dA) (k := 0) (hk := encDy_at hd0)) (h := ?_)
        refine tk 39 (hy := lenS) (h := ?_)
        refine tk 40 (hy := subI (hb := by omega)) (h := ?_)
        refine one 41 (h := ?_)
        refine un (h := ?_)
        refine cl0 (hc := fun w hS => C_ref8_within s.court 0 ((d0.sp.length : Int) - 1) w) (h := ?_)
        refine nx (h := ?_)
        refine tk 42 (hy := notB) (h := ?_)
        refine tk 43 (hy := (by first | exact pkT | exact pkF)) (h := ?_)
        refine dn (h := ?_)
        refine q_seq (h := ?_)
        refine cd (by exact rfl) (fun h6 => ?_) (fun h6 => ?_)
        · skip
          first
            | have hno1 : ¬ MayC p l s := hno
            | (have hno : ¬ MayC p l s := fun hm => by
                 have g9 := hm.court
                 have g8 : win s.court 0 ((d0.sp.length : Int) - 1) = true := win_iff.2 (by omega)
                 have g7 : (!win s.court 0 ((d0.sp.length : Int) - 1)) = true := by assumption
                 rw [g8] at g7; exact absurd g7 (by decide))
          refine sq (h := ?_)
          refine rg (h := ?_)
          refine WL.y (hy := asg) (h := ?_)
          refine WL.cut (by repeat (first | exact Cut.nil | apply Cut.hit | apply Cut.miss (by exact rfl))) ?_
          refine nl (h := ?_)
          refine q_seq (h := ?_)
          refine rtn (h := ?_)
          refine q_then_ret (h := ?_)
          refine q_ret (hR := ?_)
          first
            | exact fun w hS => ⟨false, ⟨fun h9 => (by cases h9), fun hm => absurd hm hno⟩, rfl, hS.sub (by repeat (first | exact SubL.nil | (apply SubL.cons; (repeat (first | exact At.here | apply At.there))) | exact SubL.refl _ | apply SubL.skip))⟩
            | exact fun w hS => ⟨true, ⟨fun _ => ⟨by omega, fun t ht he => absurd (hw2.symm.trans (hasB_iff.2 ⟨t, ht, he⟩)) (by decide), by omega, fun j' hj' => by rw [hj] at hj'; cases hj'; omega, by omega, fun t ht => by
                obtain ⟨i', g8, e⟩ := List.mem_iff_getElem.1 ht
                exact hkD i' t (by omega) (by rw [List.getElem?_eq_getElem g8, e]), fun j' hj' x hx => by
                rw [hj] at hj'; cases hj'
                obtain ⟨i', g8, e⟩ := List.mem_iff_getElem.1 hx
                exact hasB_iff.1 (hiD i' x (by omega) (by rw [List.getElem?_eq_getElem g8, e]))⟩, fun _ => rfl⟩, rfl, hS.sub (by repeat (first | exact SubL.nil | (apply SubL.cons; (repeat (first | exact At.here | apply At.there))) | exact SubL.refl _ | apply SubL.skip))⟩
        · skip
          have hw4 := win_no h6
          refine WC.old (h.f j hjm) ?_
          refine skp (h := ?_)
          refine q_seq (h := ?_)
          refine sq (h := ?_)
          refine sq (h := ?_)
          refine rg (h := ?_)
          refine WL.y (hy := asg) (h := ?_)
          refine WL.cut (by repeat (first | exact Cut.nil | apply Cut.hit | apply Cut.miss (by exact rfl))) ?_
          refine nl (h := ?_)
          refine q_seq (h := ?_)
          refine bk (h := ?_)
          refine lp (X := Nat) (I := fun k => k ≤ n ∧ ∀ i t, i < k → l[i]? = some t → t.day ≤ s.day) (le := fun k => [(1, .slice A n c), (3, .pointer (some ⟨b0, 0, none⟩)), (5, .pointer (some ⟨b1, 0, none⟩)), (7, .int .i64 k)]) (Le := fun _ => [.blk b0 25 p.cells, .blk b1 41 s.cells, .ro p.jA 6 p.jobs.length (encJb p.jobs), .ro A 3 n (encSe l), .ro j.fA 1 j.af.length (enI j.af)]) (μ := fun k => n - k) 0 ⟨Nat.zero_le _, fun _ _ g9 => absurd g9 (Nat.not_lt_zero _)⟩ (by repeat (first | exact trivial | refine ⟨rfl, ?_⟩)) (by repeat (first | exact SubL.nil | (apply SubL.cons; (repeat (first | exact At.here | apply At.there))) | exact SubL.refl _ | apply SubL.skip)) (fun k hk => ?_)
          obtain ⟨hkL, hkD⟩ := hk
          refine sq (h := ?_)
          refine sq (h := ?_)
          refine rg (h := ?_)
          refine WL.y (hy := mv) (h := ?_)
          refine WL.y (hy := mv) (h := ?_)
          refine WL.y (hy := lenS) (h := ?_)
          refine WL.y (hy := lss) (h := ?_)
          refine nl (h := ?_)
          refine q_seq (h := ?_)
          refine cd (by exact rfl) (fun h7 => ?_) (fun h7 => ?_)
          · skip
            have hkn : k < n := by have := of_decide_eq_true h7; omega
            obtain ⟨t, ht⟩ : ∃ t, l[k]? = some t := ⟨_, List.getElem?_eq_getElem (by omega)⟩
            refine skp (h := ?_)
            refine q_seq (h := ?_)
            refine sq (h := ?_)
            refine bk (h := ?_)
            refine sq (h := ?_)
            refine rgD (by kernel_rfl) [(1000000, .blk b1 41 s.cells), (1000000, .ro A 3 n (encSe l))] (by repeat (first | exact HS.nil | (apply HS.keep; (repeat (first | exact At.here | apply At.there))) | (apply HS.ro; (repeat (first | exact Rds.ro | exact Rds.own | apply Rds.there))))) (h := ?_)
            refine tk 0 (hy := mv) (h := ?_)
            refine tk 1 (hy := mv) (h := ?_)
            refine tk 2 (hy := ix (A := A) (m := n) (hb := by omega)) (h := ?_)
            refine tk 3 (hy := (by first | exact fa | exact faE)) (h := ?_)
            refine tk 4 (hy := ldE (A := A) (hk := encSe_at ht)) (h := ?_)
            refine tk 5 (hy := (by first | exact fa | exact faE)) (h := ?_)
            refine tk 6 (hy := (by first | exact ld | exact ldE)) (h := ?_)
            refine tk 7 (hy := gtr) (h := ?_)
            refine dn (h := ?_)
            refine q_seq (h := ?_)
            refine cd (by exact rfl) (fun h8 => ?_) (fun h8 => ?_)
            · skip
              have hno : ¬ MayC p l s := fun hm => by
                have g9 := hm.days t (List.mem_of_getElem? ht)
                have g8 := of_decide_eq_true h8
                omega
              refine sq (h := ?_)
              refine rg (h := ?_)
              refine WL.y (hy := asg) (h := ?_)
              refine WL.cut (by repeat (first | exact Cut.nil | apply Cut.hit | apply Cut.miss (by exact rfl))) ?_
              refine nl (h := ?_)
              refine q_seq (h := ?_)
              refine rtn (h := ?_)
              refine q_blk_ret (h := ?_)
              refine q_then_ret (h := ?_)
              refine q_then_ret (h := ?_)
              refine q_blk_ret (h := ?_)
              refine q_then_ret (h := ?_)
              refine q_ret (hR := ?_)
              first
                | exact fun w hS => ⟨false, ⟨fun h9 => (by cases h9), fun hm => absurd hm hno⟩, rfl, hS.sub (by repeat (first | exact SubL.nil | (apply SubL.cons; (repeat (first | exact At.here | apply At.there))) | exact SubL.refl _ | apply SubL.skip))⟩
                | exact fun w hS => ⟨true, ⟨fun _ => ⟨by omega, fun t ht he => absurd (hw2.symm.trans (hasB_iff.2 ⟨t, ht, he⟩)) (by decide), by omega, fun j' hj' => by rw [hj] at hj'; cases hj'; omega, by omega, fun t ht => by
                    obtain ⟨i', g8, e⟩ := List.mem_iff_getElem.1 ht
                    exact hkD i' t (by omega) (by rw [List.getElem?_eq_getElem g8, e]), fun j' hj' x hx => by
                    rw [hj] at hj'; cases hj'
                    obtain ⟨i', g8, e⟩ := List.mem_iff_getElem.1 hx
                    exact hasB_iff.1 (hiD i' x (by omega) (by rw [List.getElem?_eq_getElem g8, e]))⟩, fun _ => rfl⟩, rfl, hS.sub (by repeat (first | exact SubL.nil | (apply SubL.cons; (repeat (first | exact At.here | apply At.there))) | exact SubL.refl _ | apply SubL.skip))⟩
            · skip
              have htd : t.day ≤ s.day := by have := of_decide_eq_false h8; omega
              refine skp (h := ?_)
              refine q_blk_norm (h := ?_)
              refine q_seq (h := ?_)
              refine rg (h := ?_)
              refine WL.y (hy := mv) (h := ?_)
              refine WL.y (hy := addI) (h := ?_)
              refine WL.y (hy := asg) (h := ?_)
              refine WL.cut (by repeat (first | exact Cut.nil | apply Cut.hit | apply Cut.miss (by exact rfl))) ?_
              refine nl (h := ?_)
              refine rn (x := k) (k + 1) ⟨hkn, fun i' t' g8 g9 => by
                by_cases e : i' = k
                · rw [e, ht] at g9; cases g9; exact htd
                · exact hkD i' t' (by omega) g9⟩ (by omega) (by repeat (first | exact trivial | refine ⟨rfl, ?_⟩)) (by repeat (first | exact SubL.nil | (apply SubL.cons; (repeat (first | exact At.here | apply At.there))) | exact SubL.refl _ | apply SubL.skip))
          · skip
            have hkn : k = n := by have := of_decide_eq_false h7; omega
            refine et (h := ?_)
            refine q_then_exit (h := ?_)
            refine q_then_exit (h := ?_)
            refine q_blk_hit (h := ?_)
            refine q_seq (h := ?_)
            refine sq (h := ?_)
            refine sq (h := ?_)
            refine rg (h := ?_)
            refine WL.y (hy := asg) (h := ?_)
            refine WL.cut (by repeat (first | exact Cut.nil | apply Cut.hit | apply Cut.miss (by exact rfl))) ?_
            refine nl (h := ?_)
            refine q_seq (h := ?_)
            refine bk (h := ?_)
            refine lp (X := Nat) (I := fun i => i ≤ j.af.length ∧ ∀ i' x, i' < i → j.af[i']? = some x → hasB l x = true) (le := fun i => [(1, .slice A n c), (3, .pointer (some ⟨b0, 0, none⟩)), (5, .pointer (some ⟨b1, 0, none⟩)), (8, .int .i64 i)]) (Le := fun _ => [.blk b0 25 p.cells, .blk b1 41 s.cells, .ro p.jA 6 p.jobs.length (encJb p.jobs), .ro A 3 n (encSe l), .ro j.fA 1 j.af.length (enI j.af)]) (μ := fun i => j.af.length - i) 0 ⟨Nat.zero_le _, fun _ _ g9 => absurd g9 (Nat.not_lt_zero _)⟩ (by repeat (first | exact trivial | refine ⟨rfl, ?_⟩)) (by repeat (first | exact SubL.nil | (apply SubL.cons; (repeat (first | exact At.here | apply At.there))) | exact SubL.refl _ | apply SubL.skip)) (fun i hi => ?_)
            obtain ⟨hiL, hiD⟩ := hi
            refine sq (h := ?_)
            refine sq (h := ?_)
            refine rg (h := ?_)
            refine WL.y (hy := mv) (h := ?_)
            refine WL.y (hy := (by first | exact fa | exact faE)) (h := ?_)
            refine WL.y (hy := (by first | exact ld | exact ldE)) (h := ?_)
            refine WL.y (hy := (by first | exact fa | exact faE)) (h := ?_)
            refine WL.y (hy := (by first | exact ld | exact ldE)) (h := ?_)
            refine WL.y (hy := ix (A := p.jA) (m := p.jobs.length) (hb := by omega)) (h := ?_)
            refine WL.y (hy := (by first | exact fa | exact faE)) (h := ?_)
            refine WL.y (hy := ldE (A := p.jA) (hk := encJb_at hj)) (h := ?_)
            refine WL.y (hy := lenS) (h := ?_)
            refine WL.y (hy := lss) (h := ?_)
            refine nl (h := ?_)
            refine q_seq (h := ?_)
            refine cd (by exact rfl) (fun h9 => ?_) (fun h9 => ?_)
            · skip
              have hkn : i < j.af.length := by have := of_decide_eq_true h9; omega
              obtain ⟨x, hx⟩ : ∃ x, j.af[i]? = some x := ⟨_, List.getElem?_eq_getElem hkn⟩
              have hxe := enI_at hx
              have hfn := h.fn j hjm
              refine skp (h := ?_)
              refine q_seq (h := ?_)
              refine sq (h := ?_)
              refine bk (h := ?_)
              refine sq (h := ?_)
              refine rg (h := ?_)
              refine WL.y (hy := mv) (h := ?_)
              refine WL.y (hy := (by first | exact fa | exact faE)) (h := ?_)
              refine WL.y (hy := (by first | exact ld | exact ldE)) (h := ?_)
              refine WL.y (hy := (by first | exact fa | exact faE)) (h := ?_)
              refine WL.y (hy := (by first | exact ld | exact ldE)) (h := ?_)
              refine WL.y (hy := ix (A := p.jA) (m := p.jobs.length) (hb := by omega)) (h := ?_)
              refine WL.y (hy := (by first | exact fa | exact faE)) (h := ?_)
              refine WL.y (hy := ldE (A := p.jA) (hk := encJb_at hj)) (h := ?_)
              refine WL.y (hy := mv) (h := ?_)
              refine WL.y (hy := ix (A := j.fA) (m := j.af.length) (hb := by omega)) (h := ?_)
              refine WL.y (hy := ldE (A := j.fA) (hk := hxe)) (h := ?_)
              refine cl0 (hc := fun w hS => C_ref8_has l x A n c hn w (hS.get (by repeat (first | exact Rds.ro | exact Rds.own | apply Rds.there)))) (h := ?_)
              refine WL.y (hy := notB) (h := ?_)
              refine nl (h := ?_)
              refine q_seq (h := ?_)
              refine cd (by exact rfl) (fun h10 => ?_) (fun h10 => ?_)
              · skip
                have hno : ¬ MayC p l s := fun hm => by
                  have g9 := hasB_iff.2 (hm.af j hj x (List.mem_of_getElem? hx))
                  have g7 := h10
                  rw [g9] at g7; exact absurd g7 (by decide)
                refine sq (h := ?_)
                refine rg (h := ?_)
                refine WL.y (hy := asg) (h := ?_)
                refine WL.cut (by repeat (first | exact Cut.nil | apply Cut.hit | apply Cut.miss (by exact rfl))) ?_
                refine nl (h := ?_)
                refine q_seq (h := ?_)
                refine rtn (h := ?_)
                refine q_blk_ret (h := ?_)
                refine q_then_ret (h := ?_)
                refine q_then_ret (h := ?_)
                refine q_blk_ret (h := ?_)
                refine q_then_ret (h := ?_)
                refine q_ret (hR := ?_)
                first
                  | exact fun w hS => ⟨false, ⟨fun h9 => (by cases h9), fun hm => absurd hm hno⟩, rfl, hS.sub (by repeat (first | exact SubL.nil | (apply SubL.cons; (repeat (first | exact At.here | apply At.there))) | exact SubL.refl _ | apply SubL.skip))⟩
                  | exact fun w hS => ⟨true, ⟨fun _ => ⟨by omega, fun t ht he => absurd (hw2.symm.trans (hasB_iff.2 ⟨t, ht, he⟩)) (by decide), by omega, fun j' hj' => by rw [hj] at hj'; cases hj'; omega, by omega, fun t ht => by
                      obtain ⟨i', g8, e⟩ := List.mem_iff_getElem.1 ht
                      exact hkD i' t (by omega) (by rw [List.getElem?_eq_getElem g8, e]), fun j' hj' x hx => by
                      rw [hj] at hj'; cases hj'
                      obtain ⟨i', g8, e⟩ := List.mem_iff_getElem.1 hx
                      exact hasB_iff.1 (hiD i' x (by omega) (by rw [List.getElem?_eq_getElem g8, e]))⟩, fun _ => rfl⟩, rfl, hS.sub (by repeat (first | exact SubL.nil | (apply SubL.cons; (repeat (first | exact At.here | apply At.there))) | exact SubL.refl _ | apply SubL.skip))⟩
              · skip
                have hxh : hasB l x = true := by have g9 := h10; rwa [Bool.not_eq_false'] at g9
                refine skp (h := ?_)
                refine q_blk_norm (h := ?_)
                refine q_seq (h := ?_)
                refine rg (h := ?_)
                refine WL.y (hy := mv) (h := ?_)
                refine WL.y (hy := addI) (h := ?_)
                refine WL.y (hy := asg) (h := ?_)
                refine WL.cut (by repeat (first | exact Cut.nil | apply Cut.hit | apply Cut.miss (by exact rfl))) ?_
                refine nl (h := ?_)
                refine rn (x := i) (i + 1) ⟨hkn, fun i' x' g8 g9 => by
                  by_cases e : i' = i
                  · rw [e, hx] at g9; cases g9; exact hxh
                  · exact hiD i' x' (by omega) g9⟩ (by omega) (by repeat (first | exact trivial | refine ⟨rfl, ?_⟩)) (by repeat (first | exact SubL.nil | (apply SubL.cons; (repeat (first | exact At.here | apply At.there))) | exact SubL.refl _ | apply SubL.skip))
            · skip
              have hkn2 : i = j.af.length := by have := of_decide_eq_false h9; omega
              refine et (h := ?_)
              refine q_then_exit (h := ?_)
              refine q_then_exit (h := ?_)
              refine q_blk_hit (h := ?_)
              refine q_seq (h := ?_)
              refine sq (h := ?_)
              refine rg (h := ?_)
              refine WL.y (hy := asg) (h := ?_)
              refine WL.cut (by repeat (first | exact Cut.nil | apply Cut.hit | apply Cut.miss (by exact rfl))) ?_
              refine nl (h := ?_)
              refine q_seq (h := ?_)
              refine rtn (h := ?_)
              refine q_ret (hR := ?_)
              first
                | exact fun w hS => ⟨false, ⟨fun h9 => (by cases h9), fun hm => absurd hm hno⟩, rfl, hS.sub (by repeat (first | exact SubL.nil | (apply SubL.cons; (repeat (first | exact At.here | apply At.there))) | exact SubL.refl _ | apply SubL.skip))⟩
                | exact fun w hS => ⟨true, ⟨fun _ => ⟨by omega, fun t ht he => absurd (hw2.symm.trans (hasB_iff.2 ⟨t, ht, he⟩)) (by decide), by omega, fun j' hj' => by rw [hj] at hj'; cases hj'; omega, by omega, fun t ht => by
                    obtain ⟨i', g8, e⟩ := List.mem_iff_getElem.1 ht
                    exact hkD i' t (by omega) (by rw [List.getElem?_eq_getElem g8, e]), fun j' hj' x hx => by
                    rw [hj] at hj'; cases hj'
                    obtain ⟨i', g8, e⟩ := List.mem_iff_getElem.1 hx
                    exact hasB_iff.1 (hiD i' x (by omega) (by rw [List.getElem?_eq_getElem g8, e]))⟩, fun _ => rfl⟩, rfl, hS.sub (by repeat (first | exact SubL.nil | (apply SubL.cons; (repeat (first | exact At.here | apply At.there))) | exact SubL.refl _ | apply SubL.skip))⟩
set_option maxRecDepth 100000 in
theorem C_ref8_IsOrder (p : Pg) (hp : POk p) (o : List Se) (A : Option Addr) (n c : Nat) (hc : n ≤ c) (hn : c ≤ 9223372036854775807) (w : World) (h : PgR w p) (ho : Rd w A 3 n (encSe o)) :
    CR Try.prog 6 [p.val, .slice A n c] w (fun b : Bool => b = true ↔ OOk p o) (fun b => .bool b) (fun _ => []) := by
  have hlen : o.length = n := by have := ho.len; rwa [encSe_len] at this
  have hnj := hp.nj
  refine ⟨en Try.func6 Try.ntmps6 (((St.init w).share (e := .ro p.jA 6 p.jobs.length (encJb p.jobs)) h.j rfl rfl rfl).share (e := .ro A 3 n (encSe o)) ho rfl rfl rfl) (h := fun F => ?_)⟩
  refine sq (h := ?_)
  refine rg (h := ?_)
  refine bxA (h := fun b0 => ?_)
  refine WL.y (hy := asg) (h := ?_)
  refine WL.cut (by repeat (first | exact Cut.nil | apply Cut.hit | apply Cut.miss (by exact rfl))) ?_
  refine nl (h := ?_)
  refine q_seq (h := ?_)
  refine sq (h := ?_)
  refine sq (h := ?_)
  refine rg (h := ?_)
  refine WL.y (hy := asg) (h := ?_)
  refine WL.cut (by repeat (first | exact Cut.nil | apply Cut.hit | apply Cut.miss (by exact rfl))) ?_
  refine nl (h := ?_)
  refine q_seq (h := ?_)
  refine bk (h := ?_)
  refine lp (X := Nat) (I := fun k => k ≤ n ∧ ∀ i s, i < k → o[i]? = some s → MayC p (o.take i) s) (le := fun k => [(1, .slice A n c), (2, .pointer (some ⟨b0, 0, none⟩)), (5, .int .i64 k)]) (Le := fun _ => [.blk b0 25 p.cells, .ro p.jA 6 p.jobs.length (encJb p.jobs), .ro A 3 n (encSe o)]) (μ := fun k => n - k) 0 ⟨Nat.zero_le _, fun _ _ g9 => absurd g9 (Nat.not_lt_zero _)⟩ (by repeat (first | exact trivial | refine ⟨rfl, ?_⟩)) (by repeat (first | exact SubL.nil | (apply SubL.cons; (repeat (first | exact At.here | apply At.there))) | exact SubL.refl _ | apply SubL.skip)) (fun k hk => ?_)
  obtain ⟨hkL, hkM⟩ := hk
  refine sq (h := ?_)
  refine sq (h := ?_)
  refine rg (h := ?_)
  refine WL.y (hy := mv) (h := ?_)
  refine WL.y (hy := mv) (h := ?_)
  refine WL.y (hy := lenS) (h := ?_)
  refine WL.y (hy := lss) (h := ?_)
  refine nl (h := ?_)
  refine q_seq (h := ?_)
  refine cd (by exact rfl) (fun h0 => ?_) (fun h0 => ?_)
  · skip
    have hkn : k < n := by have := of_decide_eq_true h0; omega
    obtain ⟨s, hs⟩ : ∃ s, o[k]? = some s := ⟨_, List.getElem?_eq_getElem (by omega)⟩
    refine skp (h := ?_)
    refine q_seq (h := ?_)
    refine sq (h := ?_)
    refine bk (h := ?_)
    refine sq (h := ?_)
    refine WC.pre (A := A) (m := n) (by repeat (first | exact At.here | apply At.there)) k hkL ?_
    rw [encSe_take]
    refine rgD0 (by kernel_rfl) (h := ?_)
    refine tk 0 (hy := (by first | exact ldA | exact ldEA)) (h := ?_)
    refine tk 1 (hy := mv) (h := ?_)
    refine tk 2 (hy := mv) (h := ?_)
    refine tk 3 (hy := slP (A := A) (m := n) (cap := c) (hi' := k) (hc := by omega)) (h := ?_)
    refine tk 4 (hy := mv) (h := ?_)
    refine tk 5 (hy := mv) (h := ?_)
    refine tk 6 (hy := ix (A := A) (m := n) (hb := by omega)) (h := ?_)
    refine tk 7 (hy := ldEW (A := A) (hk := encSe_at hs)) (h := ?_)
    refine one 8 (h := ?_)
    refine cl (hc := fun w hS => C_ref8_MayCome p hp (o.take k) s A k c (by omega) w (h.old hS) (hS.get (by repeat (first | exact Rds.ro | exact Rds.own | apply Rds.there)))) (h := fun b hb => ?_)
    refine nx (h := ?_)
    refine tk 9 (hy := notB) (h := ?_)
    refine dn (h := ?_)
    refine q_seq (h := ?_)
    refine cd (by exact rfl) (fun h1 => ?_) (fun h1 => ?_)
    · skip
      have hno : ¬ OOk p o := fun hO => by
        have g9 := hb.2 (hO.at_ k s (by omega) hs)
        have g7 := h1
        rw [g9] at g7; exact absurd g7 (by decide)
      refine sq (h := ?_)
      refine rg (h := ?_)
      refine WL.y (hy := asg) (h := ?_)
      refine WL.cut (by repeat (first | exact Cut.nil | apply Cut.hit | apply Cut.miss (by exact rfl))) ?_
      refine nl (h := ?_)
      refine q_seq (h := ?_)
      refine rtn (h := ?_)
      refine q_blk_ret (h := ?_)
      refine q_then_ret (h := ?_)
      refine q_then_ret (h := ?_)
      refine q_blk_ret (h := ?_)
      refine q_then_ret (h := ?_)
      refine q_ret (hR := ?_)
      first
        | exact fun w hS => ⟨false, ⟨fun h9 => (by cases h9), fun hm => absurd hm hno⟩, rfl, hS.sub (by repeat (first | exact SubL.nil | (apply SubL.cons; (repeat (first | exact At.here | apply At.there))) | exact SubL.refl _ | apply SubL.skip))⟩
        | exact fun w hS => ⟨decide ((n : Int) = (p.jobs.length : Int)), ⟨fun g9 => ⟨by have := of_decide_eq_true g9; omega, fun i s g8 g7 => hkM i s (by omega) g7⟩, fun hO => decide_eq_true (by have := hO.n; omega)⟩, rfl, hS.sub (by repeat (first | exact SubL.nil | (apply SubL.cons; (repeat (first | exact At.here | apply At.there))) | exact SubL.refl _ | apply SubL.skip))⟩
    · skip
      have hmc : MayC p (o.take k) s := hb.1 (by have g9 := h1; rwa [Bool.not_eq_false'] at g9)
      refine skp (h := ?_)
      refine q_blk_norm (h := ?_)
      refine q_seq (h := ?_)
      refine rg (h := ?_)
      refine WL.y (hy := mv) (h := ?_)
      refine WL.y (hy := addI) (h := ?_)
      refine WL.y (hy := asg) (h := ?_)
      refine WL.cut (by repeat (first | exact Cut.nil | apply Cut.hit | apply Cut.miss (by exact rfl))) ?_
      refine nl (h := ?_)
      refine rn (x := k) (k + 1) ⟨hkn, fun i' s' g8 g9 => by
        by_cases e : i' = k
        · rw [e, hs] at g9; cases g9; rw [e]; exact hmc
        · exact hkM i' s' (by omega) g9⟩ (by omega) (by repeat (first | exact trivial | refine ⟨rfl, ?_⟩)) (by repeat (first | exact SubL.nil | (apply SubL.cons; (repeat (first | exact At.here | apply At.there))) | exact SubL.refl _ | apply SubL.skip))
  · skip
    have hkn : k = n := by have := of_decide_eq_false h0; omega
    refine et (h := ?_)
    refine q_then_exit (h := ?_)
    refine q_then_exit (h := ?_)
    refine q_blk_hit (h := ?_)
    refine q_seq (h := ?_)
    refine sq (h := ?_)
    refine rg (h := ?_)
    refine WL.y (hy := mv) (h := ?_)
    refine WL.y (hy := lenS) (h := ?_)
    refine WL.y (hy := (by first | exact fa | exact faE)) (h := ?_)
    refine WL.y (hy := (by first | exact ld | exact ldE)) (h := ?_)
    refine WL.y (hy := lenS) (h := ?_)
    refine WL.y (hy := eql) (h := ?_)
    refine WL.y (hy := asg) (h := ?_)
    refine WL.cut (by repeat (first | exact Cut.nil | apply Cut.hit | apply Cut.miss (by exact rfl))) ?_
    refine nl (h := ?_)
    refine q_seq (h := ?_)
    refine rtn (h := ?_)
    refine q_ret (hR := ?_)
    first
      | exact fun w hS => ⟨false, ⟨fun h9 => (by cases h9), fun hm => absurd hm hno⟩, rfl, hS.sub (by repeat (first | exact SubL.nil | (apply SubL.cons; (repeat (first | exact At.here | apply At.there))) | exact SubL.refl _ | apply SubL.skip))⟩
      | exact fun w hS => ⟨decide ((n : Int) = (p.jobs.length : Int)), ⟨fun g9 => ⟨by have := of_decide_eq_true g9; omega, fun i s g8 g7 => hkM i s (by omega) g7⟩, fun hO => decide_eq_true (by have := hO.n; omega)⟩, rfl, hS.sub (by repeat (first | exact SubL.nil | (apply SubL.cons; (repeat (first | exact At.here | apply At.there))) | exact SubL.refl _ | apply SubL.skip))⟩
noncomputable def ordB (p : Pg) (o : List Se) : Bool := @decide (OOk p o) (Classical.propDecidable _)
theorem ordB_iff {p : Pg} {o : List Se} : ordB p o = true ↔ OOk p o := by
  unfold ordB
  exact ⟨fun h => @of_decide_eq_true _ (Classical.propDecidable _) h, fun h => @decide_eq_true _ (Classical.propDecidable _) h⟩
theorem C_ref8_IsOrderB (p : Pg) (hp : POk p) (o : List Se) (A : Option Addr) (n c : Nat) (hc : n ≤ c) (hn : c ≤ 9223372036854775807) (w : World) (h : PgR w p) (ho : Rd w A 3 n (encSe o)) : C0 Try.prog 6 [p.val, .slice A n c] w (.bool (ordB p o)) := by
  refine ⟨Calls.mono (C_ref8_IsOrder p hp o A n c hc hn w h ho).out fun e w' ⟨b, hb, he, hs⟩ => ⟨?_, hs⟩⟩
  rw [he]
  congr 2
  cases hq : ordB p o
  · cases b
    · rfl
    · exact absurd (ordB_iff.2 (hb.1 rfl)) (by rw [hq]; decide)
  · exact hb.2 (ordB_iff.1 hq)
end Go.Proofs.Ytngelilffleimaa

namespace Go.Proofs.Ytngelilffleimaa
open Go Go.RowKit

theorem joinV_nil {gs : List Pt} {ord : List Int} {minute : Int} {s : Cr} (hw : s.ws = []) (ha : ∀ i ∈ ord, arrV gs minute i = false) : joinV gs ord minute s = s := by
  have h1 : ord.filter (arrV gs minute) = [] := List.filter_eq_nil_iff.2 fun i hi => by rw [ha i hi]; simp
  obtain ⟨fr, ps, ws, inn⟩ := s
  dsimp only at hw
  subst hw
  simp [joinV, keptV, h1]
theorem freeTo_zero {fs : List Fe} {minute : Int} (h : ∀ f ∈ fs, f.1 ≠ minute) : ∀ k, freeTo fs minute k = 0
  | 0 => rfl
  | k + 1 => by
    rw [freeTo]
    cases hk : fs[k]? with
    | none => exact freeTo_zero h k
    | some f =>
      dsimp only
      rw [freeTo_zero h k, decide_eq_false (h f (List.mem_of_getElem? hk))]; rfl
theorem minute_stay {q : Qu} {rate : Int} {ord : List Int} {minute : Int} {s : Cr} (hw : s.ws = []) (ha : ∀ i ∈ ord, arrV q.gs minute i = false) (hf : ∀ f ∈ q.fs, f.1 ≠ minute) : minuteV q rate ord minute s = s := by
  have h0 : freedV q minute s = s := by
    unfold freedV freeAll
    rw [freeTo_zero hf]
    obtain ⟨fr, ps, ws, inn⟩ := s
    simp
  have h1 := joinV_nil (gs := q.gs) (ord := ord) (minute := minute) hw ha
  unfold minuteV
  rw [h0, h1, passV_stop (.inr hw)]
  cases decide (q.opn ≤ minute) <;> rfl
theorem arr_no {gs : List Pt} {minute : Int} (h : ∀ g ∈ gs, g.at_ < minute) (i : Int) : arrV gs minute i = false := by
  unfold arrV
  cases hg : gs[i.toNat]? with
  | none => rfl
  | some g =>
    have := h g (List.mem_of_getElem? hg)
    dsimp only
    rw [decide_eq_false (by omega)]; rfl
theorem run_stay {q : Qu} {rate more : Int} {K : Nat} (hw : (runTo q rate more K).ws = []) (hg : ∀ g ∈ q.gs, g.at_ < K) (hf : ∀ f ∈ q.fs, f.1 < K) : ∀ d, runTo q rate more (K + d) = runTo q rate more K
  | 0 => rfl
  | d + 1 => by
    have ih := run_stay hw hg hf d
    rw [show K + (d + 1) = K + d + 1 from rfl, runTo, ih]
    exact minute_stay hw (fun i _ => arr_no (fun g hx => by have := hg g hx; push_cast; omega) i) (fun f hx => by have := hf f hx; push_cast; omega)

def exQ : Qu := ⟨10, 2, 3, 5, [⟨1, 0, 2, -1⟩, ⟨2, 3, 4, 12⟩, ⟨3, 3, 2, -1⟩, ⟨4, 11, 1, -1⟩], [(13, 3)]⟩
def exX : Tm := ⟨60, 120, [30, 90, 200]⟩
def exL : List Tkt := [⟨1, 1001, 0, 0⟩, ⟨2, 1001, 1, 0⟩, ⟨3, 1001, 1, 600⟩, ⟨4, 1001, 2, 0⟩]
theorem ex_g : ∀ g ∈ exQ.gs, g.at_ < ((15 : Nat) : Int) := by decide
theorem ex_f : ∀ f ∈ exQ.fs, f.1 < ((15 : Nat) : Int) := by decide
theorem ex_run {rate more : Int} {r : List Int} (h : runTo exQ rate more 15 = ⟨(runTo exQ rate more 15).free, (runTo exQ rate more 15).passing, [], r⟩) : runV exQ rate more = r := by
  have hw : (runTo exQ rate more 15).ws = [] := by rw [h]
  rw [runV, show 1441 = 15 + 1426 from rfl, run_stay hw ex_g ex_f, h]
theorem ex20 : runV exQ 2 0 = [10, -1, 12, 13] := ex_run (by kernel_rfl)
theorem ex30 : runV exQ 3 0 = [10, -1, 12, 12] := ex_run (by kernel_rfl)
theorem ex_inI {k : Nat} {more i : Int} {r : Int} {l : List Int} {rate : Int} (hr : exQ.lo + k = rate) (h : runV exQ rate more = l) (he : l.getD i.toNat 0 = r) : inI exQ more k i = r := by rw [inI, hr, h, he]
theorem ex_s2 {i more : Int} {a b : Int} (h0 : inI exQ more 0 i = a) (h1 : inI exQ more 1 i = b) : sureV exQ i more = (match (bif decide (a < 0) then none else some (min 1440 a, max (-1) a) : Option (Int × Int)) with | none => none | some z => bif decide (b < 0) then none else some (min z.1 b, max z.2 b)) := by
  have hn : nR exQ = 2 := by kernel_rfl
  have h2 : ∀ q : Qu, sureTo q i more 2 = (match (bif decide (inI q more 0 i < 0) then none else some (min 1440 (inI q more 0 i), max (-1) (inI q more 0 i)) : Option (Int × Int)) with | none => none | some z => bif decide (inI q more 1 i < 0) then none else some (min z.1 (inI q more 1 i), max z.2 (inI q more 1 i))) := fun q => rfl
  rw [sureV, hn, h2, h0, h1]
theorem ex_sure : sureP exQ 4 = ⟨12, 13, 0⟩ := by
  have hE : grpE exQ 4 = 0 := by kernel_rfl
  have hI : grpI exQ.gs 4 = 3 := by kernel_rfl
  have h : sureV exQ 3 0 = some (12, 13) := by rw [ex_s2 (ex_inI (by decide) ex20 (by rfl)) (ex_inI (by decide) ex30 (by rfl))]; rfl
  rw [sureP, hE, hI, h]; rfl
theorem ex_total : totV exX exL = 1501 := by kernel_rfl
theorem ex_are : areT exX exL = true := by kernel_rfl
structure EXA where
  (a : QA) (pA lA : Option Addr) (pc lc : Nat)
theorem C_law11_Example (w : World) : CR Try.prog 22 [] w (fun _ : EXA => True) (fun x => .tuple #[exQ.val x.a, exX.val x.pA x.pc, .slice x.lA 4 x.lc]) (fun x => [.own x.a.gA x.a.gc 59 4 4 (encPt exQ.gs), .own x.a.fA x.a.fc 64 2 1 (encF exQ.fs), .own x.pA x.pc 3 1 3 (enI exX.pl), .own x.lA x.lc 84 4 4 (encTk exL)]) := by
  refine ⟨en Try.func22 Try.ntmps22 (St.init w) (h := fun F => ?_)⟩
  refine sq (h := ?_)
  refine rg (h := ?_)
  refine al (h := fun b0 => ?_)
  refine al (h := fun b1 => ?_)
  refine WL.y (hy := asg) (h := ?_)
  refine nl (h := ?_)
  refine q_seq (h := ?_)
  refine sq (h := ?_)
  refine rg (h := ?_)
  refine WL.y (hy := bd) (h := ?_)
  refine WL.y (hy := bd) (h := ?_)
  refine WL.y (hy := bd) (h := ?_)
  refine WL.y (hy := bd) (h := ?_)
  refine WL.y (hy := bd) (h := ?_)
  refine bs (h := fun b2 => ?_)
  refine WL.y (hy := bd) (h := ?_)
  refine bs (h := fun b3 => ?_)
  refine WL.y (hy := bd) (h := ?_)
  refine al (h := fun b4 => ?_)
  first | refine stA (h := ?_) | refine stEA (h := ?_)
  refine nl (h := ?_)
  refine q_seq (h := ?_)
  refine sq (h := ?_)
  refine rg (h := ?_)
  refine WL.y (hy := (by first | exact ldA | exact ldEA)) (h := ?_)
  refine bs (h := fun b5 => ?_)
  refine WL.y (hy := bd) (h := ?_)
  refine WL.y (hy := bd) (h := ?_)
  refine WL.y (hy := bd) (h := ?_)
  refine WL.y (hy := bd) (h := ?_)
  refine WL.y (hy := bd) (h := ?_)
  refine bs (h := fun b6 => ?_)
  first | refine stA (h := ?_) | refine stEA (h := ?_)
  first | refine stA (h := ?_) | refine stEA (h := ?_)
  refine WL.y (hy := asg) (h := ?_)
  refine nl (h := ?_)
  refine q_seq (h := ?_)
  refine rtn (h := ?_)
  refine q_ret (hR := ?_)
  exact fun w hS => ⟨⟨⟨_, _, _, _⟩, _, _, _, _⟩, trivial, rfl, hS.sub (by repeat (first | exact SubL.nil | (apply SubL.cons; (repeat (first | exact At.here | apply At.there))) | exact SubL.refl _ | apply SubL.skip))⟩
end Go.Proofs.Ytngelilffleimaa

namespace Go.Proofs.Ytngelilffleimaa
open Go Go.RowKit

structure E8A where
  (dA s0 s1 jA fA oA : Option Addr) (dc c0 c1 jc fc oc : Nat)
abbrev exPg (a : E8A) : Pg := ⟨a.dA, a.dc, [⟨[(600, 900), (600, 780)], a.s0, a.c0⟩, ⟨[(600, 800), (600, 600)], a.s1, a.c1⟩], 30, a.jA, a.jc, [⟨(60, 120), [], none, 0, [], none, 0, 1, 0⟩, ⟨(60, 100), [], none, 0, [], none, 0, 1, 0⟩, ⟨(90, 150), [0, 1], a.fA, a.fc, [], none, 0, 1, 0⟩]⟩
abbrev exOr : List Se := [⟨0, 0, 0⟩, ⟨1, 0, 1⟩, ⟨2, 0, 0⟩]
theorem asc_nil (b : Int) : Asc [] b 0 := Asc.zero _ _
theorem ex8_p (a : E8A) : POk (exPg a) := by
  refine ⟨⟨of_decide_eq_true rfl, of_decide_eq_true rfl⟩, ⟨of_decide_eq_true rfl, of_decide_eq_true rfl⟩, of_decide_eq_true rfl, ⟨of_decide_eq_true rfl, of_decide_eq_true rfl⟩, fun k d hk hd => ?_, fun i j hi hj => ?_⟩
  · match k, hk with
    | 0, _ =>
      cases hd
      refine ⟨rfl, fun i s hi hs => ?_⟩
      match i, hi with
      | 0, _ => cases hs; exact of_decide_eq_true rfl
      | 1, _ => cases hs; exact of_decide_eq_true rfl
    | 1, _ =>
      cases hd
      refine ⟨rfl, fun i s hi hs => ?_⟩
      match i, hi with
      | 0, _ => cases hs; exact of_decide_eq_true rfl
      | 1, _ => cases hs; exact of_decide_eq_true rfl
  · match i, hi with
    | 0, _ => cases hj; exact ⟨of_decide_eq_true rfl, of_decide_eq_true rfl, of_decide_eq_true rfl, asc_nil _, asc_nil _, fun x hx => (by cases hx)⟩
    | 1, _ => cases hj; exact ⟨of_decide_eq_true rfl, of_decide_eq_true rfl, of_decide_eq_true rfl, asc_nil _, asc_nil _, fun x hx => (by cases hx)⟩
    | 2, _ =>
      cases hj
      refine ⟨of_decide_eq_true rfl, of_decide_eq_true rfl, of_decide_eq_true rfl, fun k x hk hx => ?_, asc_nil _, fun x hx => (by cases hx)⟩
      match k, hk with
      | 0, _ => cases hx; exact ⟨of_decide_eq_true rfl, of_decide_eq_true rfl, fun y h0 => absurd h0 (of_decide_eq_true rfl)⟩
      | 1, _ => cases hx; exact ⟨of_decide_eq_true rfl, of_decide_eq_true rfl, fun y _ hy => by cases hy; exact of_decide_eq_true rfl⟩
theorem ex8_o (a : E8A) : OOk (exPg a) exOr := by
  refine ⟨rfl, fun k s hk hs => ?_⟩
  match k, hk with
  | 0, _ =>
    cases hs
    exact ⟨of_decide_eq_true rfl, fun t ht => (by cases ht), of_decide_eq_true rfl, fun j hj => by cases hj; exact of_decide_eq_true rfl, of_decide_eq_true rfl, fun t ht => (by cases ht), fun j hj x hx => by cases hj; cases hx⟩
  | 1, _ =>
    cases hs
    refine ⟨of_decide_eq_true rfl, fun t ht => ?_, of_decide_eq_true rfl, fun j hj => by cases hj; exact of_decide_eq_true rfl, of_decide_eq_true rfl, fun t ht => ?_, fun j hj x hx => by cases hj; cases hx⟩
    · rw [List.mem_singleton.1 (show t ∈ [(⟨0, 0, 0⟩ : Se)] from ht)]; exact of_decide_eq_true rfl
    · rw [List.mem_singleton.1 (show t ∈ [(⟨0, 0, 0⟩ : Se)] from ht)]; exact of_decide_eq_true rfl
  | 2, _ =>
    cases hs
    have h2 : ∀ t ∈ exOr.take 2, t = ⟨0, 0, 0⟩ ∨ t = ⟨1, 0, 1⟩ := fun t ht => by
      rcases List.mem_cons.1 (show t ∈ [(⟨0, 0, 0⟩ : Se), ⟨1, 0, 1⟩] from ht) with h | h
      · exact .inl h
      · exact .inr (List.mem_singleton.1 h)
    refine ⟨of_decide_eq_true rfl, fun t ht => ?_, of_decide_eq_true rfl, fun j hj => by cases hj; exact of_decide_eq_true rfl, of_decide_eq_true rfl, fun t ht => ?_, fun j hj x hx => ?_⟩
    · rcases h2 t ht with rfl | rfl <;> exact of_decide_eq_true rfl
    · rcases h2 t ht with rfl | rfl <;> exact of_decide_eq_true rfl
    · cases hj
      rcases List.mem_cons.1 (show x ∈ [(0 : Int), 1] from hx) with rfl | hx
      · exact ⟨⟨0, 0, 0⟩, List.mem_cons_self, rfl⟩
      · rw [List.mem_singleton.1 hx]; exact ⟨⟨1, 0, 1⟩, List.mem_cons_of_mem _ List.mem_cons_self, rfl⟩
theorem ex8_run (a : E8A) : (runT (exPg a) hiG exOr).es = [720, 700, 900] := by rfl
theorem ex8_f (a : E8A) : FitI (exPg a) exOr := by
  intro i s d c hs hd hc
  rw [ex8_run]
  match i with
  | 0 => cases hs; cases hd; cases hc; exact of_decide_eq_true rfl
  | 1 => cases hs; cases hd; cases hc; exact of_decide_eq_true rfl
  | 2 => cases hs; cases hd; cases hc; exact of_decide_eq_true rfl
  | i + 3 => cases hs
theorem C_law8_Example (w : World) : CR Try.prog 20 [] w (fun _ : E8A => True) (fun a => .tuple #[(exPg a).val, .slice a.oA 3 a.oc]) (fun a => [.own a.dA a.dc 37 1 2 (encDy (exPg a).days), .own a.s0 a.c0 43 2 2 (encSn [(600, 900), (600, 780)]), .own a.s1 a.c1 43 2 2 (encSn [(600, 800), (600, 600)]), .own a.jA a.jc 45 6 3 (encJb (exPg a).jobs), .own a.fA a.fc 3 1 2 (enI [0, 1]), .own a.oA a.oc 41 3 3 (encSe exOr)]) := by
  refine ⟨en Try.func20 Try.ntmps20 (St.init w) (h := fun F => ?_)⟩
  refine sq (h := ?_)
  refine rg (h := ?_)
  refine al (h := fun b0 => ?_)
  refine WL.y (hy := asg) (h := ?_)
  refine nl (h := ?_)
  refine q_seq (h := ?_)
  refine sq (h := ?_)
  refine rg (h := ?_)
  refine WL.y (hy := bd) (h := ?_)
  refine WL.y (hy := bd) (h := ?_)
  refine al (h := fun b1 => ?_)
  refine al (h := fun b2 => ?_)
  first | refine stA (h := ?_) | refine stEA (h := ?_)
  first | refine stA (h := ?_) | refine stEA (h := ?_)
  refine nl (h := ?_)
  refine q_seq (h := ?_)
  refine sq (h := ?_)
  refine rg (h := ?_)
  refine WL.y (hy := bd) (h := ?_)
  refine WL.y (hy := bd) (h := ?_)
  refine bs (h := fun b3 => ?_)
  refine WL.y (hy := bd) (h := ?_)
  refine WL.y (hy := bd) (h := ?_)
  refine bs (h := fun b4 => ?_)
  refine bs (h := fun b5 => ?_)
  refine WL.y (hy := (by first | exact ldA | exact ldEA)) (h := ?_)
  refine WL.y (hy := bd) (h := ?_)
  refine WL.y (hy := (by first | exact ldA | exact ldEA)) (h := ?_)
  refine WL.y (hy := bd) (h := ?_)
  refine WL.y (hy := bd) (h := ?_)
  refine bs (h := fun b6 => ?_)
  refine WL.y (hy := bd) (h := ?_)
  refine bs (h := fun b7 => ?_)
  refine WL.y (hy := bd) (h := ?_)
  refine WL.y (hy := bd) (h := ?_)
  refine WL.y (hy := bd) (h := ?_)
  refine WL.y (hy := bd) (h := ?_)
  refine bs (h := fun b8 => ?_)
  first | refine stA (h := ?_) | refine stEA (h := ?_)
  refine WL.y (hy := asg) (h := ?_)
  refine nl (h := ?_)
  refine q_seq (h := ?_)
  refine rtn (h := ?_)
  refine q_ret (hR := ?_)
  exact fun w hS => ⟨⟨_, _, _, _, _, _, _, _, _, _, _, _⟩, trivial, rfl, hS.sub (by repeat (first | exact SubL.nil | (apply SubL.cons; (repeat (first | exact At.here | apply At.there))) | exact SubL.refl _ | apply SubL.skip))⟩
end Go.Proofs.Ytngelilffleimaa

namespace Go.Proofs.Ytngelilffleimaa
open Go Go.RowKit

theorem ex8_R {w : World} {a : E8A} (h1 : Rd w a.dA 1 2 (encDy (exPg a).days)) (h2 : Rd w a.jA 6 3 (encJb (exPg a).jobs)) (h3 : Rd w a.s0 2 2 (encSn [(600, 900), (600, 780)])) (h4 : Rd w a.s1 2 2 (encSn [(600, 800), (600, 600)])) (h5 : Rd w a.fA 1 2 (enI [0, 1])) : PgR w (exPg a) := by
  have hd : ∀ d ∈ (exPg a).days, d = ⟨[(600, 900), (600, 780)], a.s0, a.c0⟩ ∨ d = ⟨[(600, 800), (600, 600)], a.s1, a.c1⟩ := fun d hd => by
    rcases List.mem_cons.1 hd with h | h
    · exact .inl h
    · exact .inr (List.mem_singleton.1 h)
  have hj : ∀ j ∈ (exPg a).jobs, j = ⟨(60, 120), [], none, 0, [], none, 0, 1, 0⟩ ∨ j = ⟨(60, 100), [], none, 0, [], none, 0, 1, 0⟩ ∨ j = ⟨(90, 150), [0, 1], a.fA, a.fc, [], none, 0, 1, 0⟩ := fun j hj => by
    rcases List.mem_cons.1 hj with h | h
    · exact .inl h
    rcases List.mem_cons.1 h with h | h
    · exact .inr (.inl h)
    · exact .inr (.inr (List.mem_singleton.1 h))
  refine ⟨h1, h2, fun d h => ?_, fun j h => ?_, fun j h => ?_, of_decide_eq_true rfl, of_decide_eq_true rfl, fun d h => ?_, fun j h => ?_, fun j h => ?_⟩
  · rcases hd d h with rfl | rfl
    · exact h3
    · exact h4
  · rcases hj j h with rfl | rfl | rfl
    · exact Rd.nil w none 1
    · exact Rd.nil w none 1
    · exact h5
  · rcases hj j h with rfl | rfl | rfl
    · exact Rd.nil w none 1
    · exact Rd.nil w none 1
    · exact Rd.nil w none 1
  · rcases hd d h with rfl | rfl <;> exact of_decide_eq_true rfl
  · rcases hj j h with rfl | rfl | rfl <;> exact of_decide_eq_true rfl
  · rcases hj j h with rfl | rfl | rfl <;> exact of_decide_eq_true rfl
set_option maxRecDepth 100000 in
theorem C_top_admitted (w : World) : C0 Try.prog 7 [] w (.bool true) := by
  refine ⟨en Try.func7 Try.ntmps7 (St.init w) (h := fun F => ?_)⟩
  refine sq (h := ?_)
  refine rg (h := ?_)
  refine WL.y (hy := asg) (h := ?_)
  refine nl (h := ?_)
  refine q_seq (h := ?_)
  refine sq (h := ?_)
  refine rg (h := ?_)
  refine cl (hc := fun w hS => C_law8_Example w) (h := fun a _ => ?_)
  refine WL.y (hy := mv) (h := ?_)
  refine WL.y (hy := ex) (h := ?_)
  refine WL.y (hy := ex) (h := ?_)
  refine al (h := fun b0 => ?_)
  first | refine stA (h := ?_) | refine stEA (h := ?_)
  refine WL.y (hy := asg) (h := ?_)
  refine nl (h := ?_)
  refine q_seq (h := ?_)
  refine sq (h := ?_)
  refine rg (h := ?_)
  refine WL.y (hy := (by first | exact ldA | exact ldEA)) (h := ?_)
  refine WL.y (hy := mv) (h := ?_)
  refine cl0 (hc := fun w hS => C_play_Fits (exPg a) (ex8_p a) exOr (ex8_o a) (ex8_f a) a.oA 3 a.oc w (ex8_R (hS.get (by repeat (first | exact Rds.own | apply Rds.there))) (hS.get (by repeat (first | exact Rds.own | apply Rds.there))) (hS.get (by repeat (first | exact Rds.own | apply Rds.there))) (hS.get (by repeat (first | exact Rds.own | apply Rds.there))) (hS.get (by repeat (first | exact Rds.own | apply Rds.there)))) (hS.get (by repeat (first | exact Rds.own | apply Rds.there)))) (h := ?_)
  refine WL.y (hy := mv) (h := ?_)
  refine WL.y (hy := ex) (h := ?_)
  refine WL.y (hy := ex) (h := ?_)
  refine WL.y (hy := ex) (h := ?_)
  refine WL.y (hy := asg) (h := ?_)
  refine WL.y (hy := asg) (h := ?_)
  refine WL.y (hy := asg) (h := ?_)
  refine nl (h := ?_)
  refine q_seq (h := ?_)
  refine sq (h := ?_)
  refine rg (h := ?_)
  refine cl (hc := fun w hS => C_law11_Example w) (h := fun x0 _ => ?_)
  refine WL.y (hy := mv) (h := ?_)
  refine WL.y (hy := ex) (h := ?_)
  refine WL.y (hy := ex) (h := ?_)
  refine WL.y (hy := ex) (h := ?_)
  refine al (h := fun b1 => ?_)
  refine al (h := fun b2 => ?_)
  first | refine stA (h := ?_) | refine stEA (h := ?_)
  first | refine stA (h := ?_) | refine stEA (h := ?_)
  refine WL.y (hy := asg) (h := ?_)
  refine nl (h := ?_)
  refine q_seq (h := ?_)
  refine sq (h := ?_)
  refine rg (h := ?_)
  refine WL.y (hy := (by first | exact ldA | exact ldEA)) (h := ?_)
  refine WL.y (hy := mv) (h := ?_)
  refine cl0 (hc := fun w hS => C_gate_Total exX exL x0.pA x0.lA x0.pc x0.lc w ⟨hS.get (by repeat (first | exact Rds.own | apply Rds.there)), hS.get (by repeat (first | exact Rds.own | apply Rds.there)), by decide, by decide⟩) (h := ?_)
  rw [ex_total, ex_are]
  refine WL.y (hy := mv) (h := ?_)
  refine WL.y (hy := ex) (h := ?_)
  refine WL.y (hy := ex) (h := ?_)
  refine WL.y (hy := asg) (h := ?_)
  refine WL.y (hy := asg) (h := ?_)
  refine nl (h := ?_)
  refine q_seq (h := ?_)
  refine sq (h := ?_)
  refine rg (h := ?_)
  refine WL.y (hy := (by first | exact ldA | exact ldEA)) (h := ?_)
  refine cl0 (hc := fun w hS => C_gate_Sure exQ x0.a 4 (fun _ => by decide) w ⟨hS.get (by repeat (first | exact Rds.own | apply Rds.there)), hS.get (by repeat (first | exact Rds.own | apply Rds.there)), by decide, by decide⟩) (h := ?_)
  rw [ex_sure]
  refine WL.y (hy := mv) (h := ?_)
  refine WL.y (hy := ex) (h := ?_)
  refine WL.y (hy := ex) (h := ?_)
  refine al (h := fun b3 => ?_)
  first | refine stA (h := ?_) | refine stEA (h := ?_)
  refine WL.y (hy := asg) (h := ?_)
  refine nl (h := ?_)
  refine q_seq (h := ?_)
  refine sq (h := ?_)
  refine rg (h := ?_)
  refine WL.y (hy := mv) (h := ?_)
  refine WL.y (hy := eql) (h := ?_)
  refine WL.y (hy := mv) (h := ?_)
  apply brAnd 3 42 45 (by exact rfl)
  · intro hb0
    refine un (h := ?_)
    refine WL.y (hy := mv) (h := ?_)
    refine un (h := ?_)
    refine WL.y (hy := eql) (h := ?_)
    refine WL.y (hy := (by first | exact pkT | exact pkF)) (h := ?_)
    exact mg (by repeat (first | exact trivial | refine ⟨rfl, ?_⟩ | refine ⟨by rw [hb0]; rfl, ?_⟩)) (by repeat (first | exact SubL.nil | (apply SubL.cons; (repeat (first | exact At.here | apply At.there))) | exact SubL.refl _ | apply SubL.skip))
  · intro hb0
    repeat (first | refine un (h := ?_) | refine sk (h := ?_) | refine WL.y (hy := pkF) (h := ?_) | refine WL.y (hy := pkT) (h := ?_))
    exact mg (by repeat (first | exact trivial | refine ⟨rfl, ?_⟩ | refine ⟨by rw [hb0]; rfl, ?_⟩)) (by repeat (first | exact SubL.nil | (apply SubL.cons; (repeat (first | exact At.here | apply At.there))) | exact SubL.refl _ | apply SubL.skip))
  refine WL.y (hy := mv) (h := ?_)
  apply brAnd 3 46 49 (by exact rfl)
  · intro hb1
    refine un (h := ?_)
    refine WL.y (hy := mv) (h := ?_)
    refine un (h := ?_)
    refine WL.y (hy := eql) (h := ?_)
    refine WL.y (hy := (by first | exact pkT | exact pkF)) (h := ?_)
    exact mg (by repeat (first | exact trivial | refine ⟨rfl, ?_⟩ | refine ⟨by rw [hb1]; rfl, ?_⟩)) (by repeat (first | exact SubL.nil | (apply SubL.cons; (repeat (first | exact At.here | apply At.there))) | exact SubL.refl _ | apply SubL.skip))
  · intro hb1
    repeat (first | refine un (h := ?_) | refine sk (h := ?_) | refine WL.y (hy := pkF) (h := ?_) | refine WL.y (hy := pkT) (h := ?_))
    exact mg (by repeat (first | exact trivial | refine ⟨rfl, ?_⟩ | refine ⟨by rw [hb1]; rfl, ?_⟩)) (by repeat (first | exact SubL.nil | (apply SubL.cons; (repeat (first | exact At.here | apply At.there))) | exact SubL.refl _ | apply SubL.skip))
  refine WL.y (hy := mv) (h := ?_)
  apply brAnd 2 50 52 (by exact rfl)
  · intro hb2
    refine un (h := ?_)
    refine WL.y (hy := mv) (h := ?_)
    refine WL.y (hy := (by first | exact pkT | exact pkF)) (h := ?_)
    exact mg (by repeat (first | exact trivial | refine ⟨rfl, ?_⟩ | refine ⟨by rw [hb2]; rfl, ?_⟩)) (by repeat (first | exact SubL.nil | (apply SubL.cons; (repeat (first | exact At.here | apply At.there))) | exact SubL.refl _ | apply SubL.skip))
  · intro hb2
    repeat (first | refine un (h := ?_) | refine sk (h := ?_) | refine WL.y (hy := pkF) (h := ?_) | refine WL.y (hy := pkT) (h := ?_))
    exact mg (by repeat (first | exact trivial | refine ⟨rfl, ?_⟩ | refine ⟨by rw [hb2]; rfl, ?_⟩)) (by repeat (first | exact SubL.nil | (apply SubL.cons; (repeat (first | exact At.here | apply At.there))) | exact SubL.refl _ | apply SubL.skip))
  refine WL.y (hy := mv) (h := ?_)
  apply brAnd 3 53 56 (by exact rfl)
  · intro hb3
    refine un (h := ?_)
    refine WL.y (hy := mv) (h := ?_)
    refine un (h := ?_)
    refine WL.y (hy := eql) (h := ?_)
    refine WL.y (hy := (by first | exact pkT | exact pkF)) (h := ?_)
    exact mg (by repeat (first | exact trivial | refine ⟨rfl, ?_⟩ | refine ⟨by rw [hb3]; rfl, ?_⟩)) (by repeat (first | exact SubL.nil | (apply SubL.cons; (repeat (first | exact At.here | apply At.there))) | exact SubL.refl _ | apply SubL.skip))
  · intro hb3
    repeat (first | refine un (h := ?_) | refine sk (h := ?_) | refine WL.y (hy := pkF) (h := ?_) | refine WL.y (hy := pkT) (h := ?_))
    exact mg (by repeat (first | exact trivial | refine ⟨rfl, ?_⟩ | refine ⟨by rw [hb3]; rfl, ?_⟩)) (by repeat (first | exact SubL.nil | (apply SubL.cons; (repeat (first | exact At.here | apply At.there))) | exact SubL.refl _ | apply SubL.skip))
  refine WL.y (hy := mv) (h := ?_)
  apply brAnd 4 57 61 (by exact rfl)
  · intro hb4
    refine un (h := ?_)
    refine WL.y (hy := (by first | exact ldA | exact ldEA)) (h := ?_)
    refine un (h := ?_)
    refine WL.y (hy := bd) (h := ?_)
    refine un (h := ?_)
    refine WL.y (hy := eqlT) (h := ?_)
    refine WL.y (hy := (by first | exact pkT | exact pkF)) (h := ?_)
    exact mg (by repeat (first | exact trivial | refine ⟨rfl, ?_⟩ | refine ⟨by rw [hb4]; rfl, ?_⟩)) (by repeat (first | exact SubL.nil | (apply SubL.cons; (repeat (first | exact At.here | apply At.there))) | exact SubL.refl _ | apply SubL.skip))
  · intro hb4
    repeat (first | refine un (h := ?_) | refine sk (h := ?_) | refine WL.y (hy := pkF) (h := ?_) | refine WL.y (hy := pkT) (h := ?_))
    exact mg (by repeat (first | exact trivial | refine ⟨rfl, ?_⟩ | refine ⟨by rw [hb4]; rfl, ?_⟩)) (by repeat (first | exact SubL.nil | (apply SubL.cons; (repeat (first | exact At.here | apply At.there))) | exact SubL.refl _ | apply SubL.skip))
  refine WL.y (hy := asg) (h := ?_)
  refine nl (h := ?_)
  refine q_seq (h := ?_)
  refine rtn (h := ?_)
  refine q_ret (hR := ?_)
  exact fun w hS => ⟨by first | rfl | simp [resV], hS.sub .nil⟩
end Go.Proofs.Ytngelilffleimaa

namespace Go.Proofs.Ytngelilffleimaa
open Go Go.RowKit

theorem C_ref11_within (n lo hi : Int) (w : World) : C0 Try.prog 30 [.int .i64 n, .int .i64 lo, .int .i64 hi] w (.bool (win n lo hi)) := by
  refine ⟨en Try.func30 Try.ntmps30 (St.init w) (h := fun F => ?_)⟩
  refine sq (h := ?_)
  refine rg (h := ?_)
  refine WL.y (hy := asg) (h := ?_)
  refine nl (h := ?_)
  refine q_seq (h := ?_)
  refine sq (h := ?_)
  refine rg (h := ?_)
  refine WL.y (hy := mv) (h := ?_)
  refine WL.y (hy := mv) (h := ?_)
  refine WL.y (hy := geq) (h := ?_)
  refine WL.y (hy := mv) (h := ?_)
  apply brAnd 4 10 14 (by exact rfl)
  · intro hb0
    refine un (h := ?_)
    refine WL.y (hy := mv) (h := ?_)
    refine un (h := ?_)
    refine WL.y (hy := mv) (h := ?_)
    refine un (h := ?_)
    refine WL.y (hy := leq) (h := ?_)
    refine WL.y (hy := (by first | exact pkT | exact pkF)) (h := ?_)
    exact mg (by repeat (first | exact trivial | refine ⟨rfl, ?_⟩ | refine ⟨by rw [hb0]; rfl, ?_⟩)) (by repeat (first | exact SubL.nil | (apply SubL.cons; (repeat (first | exact At.here | apply At.there))) | exact SubL.refl _ | apply SubL.skip))
  · intro hb0
    repeat (first | refine un (h := ?_) | refine sk (h := ?_) | refine WL.y (hy := pkF) (h := ?_) | refine WL.y (hy := pkT) (h := ?_))
    exact mg (by repeat (first | exact trivial | refine ⟨rfl, ?_⟩ | refine ⟨by rw [hb0]; rfl, ?_⟩)) (by repeat (first | exact SubL.nil | (apply SubL.cons; (repeat (first | exact At.here | apply At.there))) | exact SubL.refl _ | apply SubL.skip))
  refine WL.y (hy := asg) (h := ?_)
  refine nl (h := ?_)
  refine q_seq (h := ?_)
  refine rtn (h := ?_)
  refine q_ret (hR := ?_)
  exact fun w hS => ⟨rfl, hS.sub (by repeat (first | exact SubL.nil | (apply SubL.cons; (repeat (first | exact At.here | apply At.there))) | exact SubL.refl _ | apply SubL.skip))⟩
theorem tHead_ref (x : Tm) (n : Nat) : (!win x.long 0 1440 || !win x.short 0 x.long || decide ((30 : Int) < x.pl.length) || decide ((40 : Int) < n)) = !tHead x n := by
  unfold tHead isT win
  rw [Bool.eq_iff_iff]
  simp only [Bool.or_eq_true, Bool.not_eq_true', Bool.and_eq_false_iff, decide_eq_true_eq, decide_eq_false_iff_not]
  omega
theorem dupT_le {l : List Tkt} {id : Int} {j k : Nat} (h : dupT l j id = true) (hk : j ≤ k) : dupT l k id = true := by
  unfold dupT at h ⊢
  rw [List.any_eq_true] at h ⊢
  obtain ⟨t, ht, he⟩ := h
  refine ⟨t, ?_, he⟩
  rw [← Nat.min_eq_left hk, ← List.take_take] at ht
  exact List.mem_of_mem_take ht
structure JK where
  (j : Nat)
def chkT (x : Tm) (l : List Tkt) : Int := bif areT x l then 0 else 111
set_option maxHeartbeats 2000000 in
theorem C_ref11_CheckTickets (x : Tm) (l : List Tkt) (pA lA : Option Addr) (pc lc : Nat) (w : World) (h : TRd w x l pA lA) : C0 Try.prog 9 [x.val pA pc, .slice lA l.length lc] w (.int .i64 (chkT x l)) := by
  obtain ⟨hp, hl, hpn, hln⟩ := h
  refine ⟨en Try.func9 Try.ntmps9 (((St.init w).share (e := .ro pA 1 x.pl.length (enI x.pl)) hp rfl rfl rfl).share (e := .ro lA 4 l.length (encTk l)) hl rfl rfl rfl) (h := fun F => ?_)⟩
  refine sq (h := ?_)
  refine rg (h := ?_)
  refine bxA (h := fun b0 => ?_)
  refine WL.y (hy := asg) (h := ?_)
  refine nl (h := ?_)
  refine q_seq (h := ?_)
  refine sq (h := ?_)
  refine sq (h := ?_)
  refine rg (h := ?_)
  refine WL.y (hy := (by first | exact fa | exact faE)) (h := ?_)
  refine WL.y (hy := (by first | exact ld | exact ldE)) (h := ?_)
  refine cl0 (hc := fun w hS => C_ref11_within ..) (h := ?_)
  refine WL.y (hy := notB) (h := ?_)
  refine WL.y (hy := mv) (h := ?_)
  apply brOr 7 13 20 (by exact rfl)
  · intro hb0
    refine un (h := ?_)
    refine WL.y (hy := (by first | exact fa | exact faE)) (h := ?_)
    refine un (h := ?_)
    refine WL.y (hy := (by first | exact ld | exact ldE)) (h := ?_)
    refine un (h := ?_)
    refine WL.y (hy := (by first | exact fa | exact faE)) (h := ?_)
    refine un (h := ?_)
    refine WL.y (hy := (by first | exact ld | exact ldE)) (h := ?_)
    refine un (h := ?_)
    refine cl0 (hc := fun w hS => C_ref11_within ..) (h := ?_)
    refine un (h := ?_)
    refine WL.y (hy := notB) (h := ?_)
    refine WL.y (hy := (by first | exact pkT | exact pkF)) (h := ?_)
    exact mg (by repeat (first | exact trivial | refine ⟨rfl, ?_⟩ | refine ⟨by rw [hb0]; rfl, ?_⟩)) (by repeat (first | exact SubL.nil | (apply SubL.cons; (repeat (first | exact At.here | apply At.there))) | exact SubL.refl _ | apply SubL.skip))
  · intro hb0
    repeat (first | refine un (h := ?_) | refine sk (h := ?_) | refine WL.y (hy := pkF) (h := ?_) | refine WL.y (hy := pkT) (h := ?_))
    exact mg (by repeat (first | exact trivial | refine ⟨rfl, ?_⟩ | refine ⟨by rw [hb0]; rfl, ?_⟩)) (by repeat (first | exact SubL.nil | (apply SubL.cons; (repeat (first | exact At.here | apply At.there))) | exact SubL.refl _ | apply SubL.skip))
  refine WL.y (hy := mv) (h := ?_)
  apply brOr 5 21 26 (by exact rfl)
  · intro hb1
    refine un (h := ?_)
    refine WL.y (hy := (by first | exact fa | exact faE)) (h := ?_)
    refine un (h := ?_)
    refine WL.y (hy := (by first | exact ld | exact ldE)) (h := ?_)
    refine un (h := ?_)
    refine WL.y (hy := lenS) (h := ?_)
    refine un (h := ?_)
    refine WL.y (hy := gtr) (h := ?_)
    refine WL.y (hy := (by first | exact pkT | exact pkF)) (h := ?_)
    exact mg (by repeat (first | exact trivial | refine ⟨rfl, ?_⟩ | refine ⟨by rw [hb1]; rfl, ?_⟩)) (by repeat (first | exact SubL.nil | (apply SubL.cons; (repeat (first | exact At.here | apply At.there))) | exact SubL.refl _ | apply SubL.skip))
  · intro hb1
    repeat (first | refine un (h := ?_) | refine sk (h := ?_) | refine WL.y (hy := pkF) (h := ?_) | refine WL.y (hy := pkT) (h := ?_))
    exact mg (by repeat (first | exact trivial | refine ⟨rfl, ?_⟩ | refine ⟨by rw [hb1]; rfl, ?_⟩)) (by repeat (first | exact SubL.nil | (apply SubL.cons; (repeat (first | exact At.here | apply At.there))) | exact SubL.refl _ | apply SubL.skip))
  refine WL.y (hy := mv) (h := ?_)
  apply brOr 4 27 31 (by exact rfl)
  · intro hb2
    refine un (h := ?_)
    refine WL.y (hy := mv) (h := ?_)
    refine un (h := ?_)
    refine WL.y (hy := lenS) (h := ?_)
    refine un (h := ?_)
    refine WL.y (hy := gtr) (h := ?_)
    refine WL.y (hy := (by first | exact pkT | exact pkF)) (h := ?_)
    exact mg (by repeat (first | exact trivial | refine ⟨rfl, ?_⟩ | refine ⟨by rw [hb2]; rfl, ?_⟩)) (by repeat (first | exact SubL.nil | (apply SubL.cons; (repeat (first | exact At.here | apply At.there))) | exact SubL.refl _ | apply SubL.skip))
  · intro hb2
    repeat (first | refine un (h := ?_) | refine sk (h := ?_) | refine WL.y (hy := pkF) (h := ?_) | refine WL.y (hy := pkT) (h := ?_))
    exact mg (by repeat (first | exact trivial | refine ⟨rfl, ?_⟩ | refine ⟨by rw [hb2]; rfl, ?_⟩)) (by repeat (first | exact SubL.nil | (apply SubL.cons; (repeat (first | exact At.here | apply At.there))) | exact SubL.refl _ | apply SubL.skip))
  refine nl (h := ?_)
  refine q_seq (h := ?_)
  refine cd (by exact rfl) (fun h3 => ?_) (fun h3 => ?_)
  · skip
    have hE : chkT x l = 111 := by rw [tHead_ref] at h3; rw [chkT, areT, (by simpa using h3 : tHead x l.length = false)]; rfl
    refine sq (h := ?_)
    refine rg (h := ?_)
    refine WL.y (hy := asg) (h := ?_)
    refine nl (h := ?_)
    refine q_seq (h := ?_)
    refine rtn (h := ?_)
    refine q_then_ret (h := ?_)
    refine q_ret (hR := ?_)
    rw [hE]
    exact fun w hS => ⟨rfl, hS.sub (by repeat (first | exact SubL.nil | (apply SubL.cons; (repeat (first | exact At.here | apply At.there))) | exact SubL.refl _ | apply SubL.skip))⟩
  · skip
    have hH : tHead x l.length = true := by rw [tHead_ref] at h3; simpa using h3
    refine skp (h := ?_)
    refine q_seq (h := ?_)
    refine sq (h := ?_)
    refine sq (h := ?_)
    refine rg (h := ?_)
    refine WL.y (hy := asg) (h := ?_)
    refine nl (h := ?_)
    refine q_seq (h := ?_)
    refine bk (h := ?_)
    refine lp (X := IZ) (I := fun z => z.k ≤ x.pl.length ∧ (x.pl.take z.k).all isT = true) (le := fun z => [(2, .pointer (some ⟨b0, 0, none⟩)), (1, .slice lA l.length lc), (5, .int .i64 z.k)]) (Le := fun z => [.blk b0 29 (x.cells pA pc), .ro pA 1 x.pl.length (enI x.pl), .ro lA 4 l.length (encTk l)]) (μ := fun z => x.pl.length - z.k) ⟨0⟩ ⟨Nat.zero_le _, rfl⟩ (by repeat (first | exact trivial | refine ⟨rfl, ?_⟩)) (by repeat (first | exact SubL.nil | (apply SubL.cons; (repeat (first | exact At.here | apply At.there))) | exact SubL.refl _ | apply SubL.skip)) (fun z hz => ?_)
    obtain ⟨hz1, hz2⟩ := hz
    refine sq (h := ?_)
    refine sq (h := ?_)
    refine rg (h := ?_)
    refine WL.y (hy := mv) (h := ?_)
    refine WL.y (hy := (by first | exact fa | exact faE)) (h := ?_)
    refine WL.y (hy := (by first | exact ld | exact ldE)) (h := ?_)
    refine WL.y (hy := lenS) (h := ?_)
    refine WL.y (hy := lss) (h := ?_)
    refine nl (h := ?_)
    refine q_seq (h := ?_)
    refine cd (by exact rfl) (fun h4 => ?_) (fun h4 => ?_)
    · skip
      have hkn : z.k < x.pl.length := by simp only [decide_eq_true_eq] at h4; omega
      obtain ⟨n, hn1⟩ : ∃ n, x.pl[z.k]? = some n := ⟨_, List.getElem?_eq_getElem hkn⟩
      have hne := enI_at hn1
      refine skp (h := ?_)
      refine q_seq (h := ?_)
      refine sq (h := ?_)
      refine bk (h := ?_)
      refine sq (h := ?_)
      refine rg (h := ?_)
      refine WL.y (hy := (by first | exact fa | exact faE)) (h := ?_)
      refine WL.y (hy := (by first | exact ld | exact ldE)) (h := ?_)
      refine WL.y (hy := mv) (h := ?_)
      refine WL.y (hy := ix (A := pA)) (h := ?_)
      refine WL.y (hy := ldE (A := pA) (hk := hne)) (h := ?_)
      refine cl0 (hc := fun w hS => C_ref11_within ..) (h := ?_)
      refine WL.y (hy := notB) (h := ?_)
      refine nl (h := ?_)
      refine q_seq (h := ?_)
      refine cd (by exact rfl) (fun h5 => ?_) (fun h5 => ?_)
      · skip
        have hE : chkT x l = 111 := by
          have h1 : isT n = false := by show win n 0 1440 = false; simpa using h5
          have h2 : x.pl.all isT = false := List.all_eq_false.2 ⟨n, List.mem_of_getElem? hn1, by rw [h1]; simp⟩
          rw [chkT, areT, h2]; simp
        refine sq (h := ?_)
        refine rg (h := ?_)
        refine WL.y (hy := asg) (h := ?_)
        refine nl (h := ?_)
        refine q_seq (h := ?_)
        refine rtn (h := ?_)
        refine q_blk_ret (h := ?_)
        refine q_then_ret (h := ?_)
        refine q_then_ret (h := ?_)
        refine q_blk_ret (h := ?_)
        refine q_then_ret (h := ?_)
        refine q_ret (hR := ?_)
        rw [hE]
        exact fun w hS => ⟨rfl, hS.sub (by repeat (first | exact SubL.nil | (apply SubL.cons; (repeat (first | exact At.here | apply At.there))) | exact SubL.refl _ | apply SubL.skip))⟩
      · skip
        have h1 : isT n = true := by show win n 0 1440 = true; simpa using h5
        refine skp (h := ?_)
        refine q_blk_norm (h := ?_)
        refine q_seq (h := ?_)
        refine rg (h := ?_)
        refine WL.y (hy := mv) (h := ?_)
        refine WL.y (hy := addI) (h := ?_)
        refine WL.y (hy := asg) (h := ?_)
        refine nl (h := ?_)
        refine rn (x := z) ⟨z.k + 1⟩ ⟨by dsimp only; omega, by dsimp only; rw [List.take_add_one, hn1, List.all_append, hz2]; simp [h1]⟩ (by dsimp only; omega) (by repeat (first | exact trivial | refine ⟨rfl, ?_⟩)) (by repeat (first | exact SubL.nil | (apply SubL.cons; (repeat (first | exact At.here | apply At.there))) | exact SubL.refl _ | apply SubL.skip))
    · skip
      have hkn : z.k = x.pl.length := by simp only [decide_eq_false_iff_not] at h4; omega
      have hP : x.pl.all isT = true := by rw [hkn, List.take_length] at hz2; exact hz2
      have hA : areT x l = tksOk x l l.length := by rw [areT, hH, hP]; rfl
      refine et (h := ?_)
      refine q_then_exit (h := ?_)
      refine q_then_exit (h := ?_)
      refine q_blk_hit (h := ?_)
      refine q_seq (h := ?_)
      refine sq (h := ?_)
      refine sq (h := ?_)
      refine rg (h := ?_)
      refine WL.y (hy := asg) (h := ?_)
      refine nl (h := ?_)
      refine q_seq (h := ?_)
      refine bk (h := ?_)
      refine lp (X := IZ) (I := fun u => u.k ≤ l.length ∧ tksOk x l u.k = true) (le := fun u => [(2, .pointer (some ⟨b0, 0, none⟩)), (1, .slice lA l.length lc), (6, .int .i64 u.k)]) (Le := fun u => [.blk b0 29 (x.cells pA pc), .ro pA 1 x.pl.length (enI x.pl), .ro lA 4 l.length (encTk l)]) (μ := fun u => l.length - u.k) ⟨0⟩ ⟨Nat.zero_le _, rfl⟩ (by repeat (first | exact trivial | refine ⟨rfl, ?_⟩)) (by repeat (first | exact SubL.nil | (apply SubL.cons; (repeat (first | exact At.here | apply At.there))) | exact SubL.refl _ | apply SubL.skip)) (fun u hu => ?_)
      obtain ⟨hu1, hu2⟩ := hu
      refine sq (h := ?_)
      refine sq (h := ?_)
      refine rg (h := ?_)
      refine WL.y (hy := mv) (h := ?_)
      refine WL.y (hy := mv) (h := ?_)
      refine WL.y (hy := lenS) (h := ?_)
      refine WL.y (hy := lss) (h := ?_)
      refine nl (h := ?_)
      refine q_seq (h := ?_)
      refine cd (by exact rfl) (fun h6 => ?_) (fun h6 => ?_)
      · skip
        have hin : u.k < l.length := by simp only [decide_eq_true_eq] at h6; omega
        obtain ⟨t, ht1⟩ : ∃ t, l[u.k]? = some t := ⟨_, List.getElem?_eq_getElem hin⟩
        have hte := encTk_at ht1
        have hst := tksOk_succ (x := x) ht1
        refine skp (h := ?_)
        refine q_seq (h := ?_)
        refine sq (h := ?_)
        refine bk (h := ?_)
        refine sq (h := ?_)
        refine rg (h := ?_)
        refine WL.y (hy := mv) (h := ?_)
        refine WL.y (hy := mv) (h := ?_)
        refine WL.y (hy := ix (A := lA)) (h := ?_)
        refine WL.y (hy := ldEA (A := lA) (hk := hte)) (h := ?_)
        refine al (h := fun b1 => ?_)
        first | refine stA (h := ?_) | refine stEA (h := ?_)
        refine nl (h := ?_)
        refine q_seq (h := ?_)
        refine sq (h := ?_)
        refine sq (h := ?_)
        refine rg (h := ?_)
        refine WL.y (hy := (by first | exact fa | exact faE)) (h := ?_)
        refine WL.y (hy := (by first | exact ld | exact ldE)) (h := ?_)
        refine cl0 (hc := fun w hS => C_ref11_within ..) (h := ?_)
        refine WL.y (hy := notB) (h := ?_)
        refine WL.y (hy := mv) (h := ?_)
        apply brOr 5 60 65 (by exact rfl)
        · intro hb7
          refine un (h := ?_)
          refine WL.y (hy := (by first | exact fa | exact faE)) (h := ?_)
          refine un (h := ?_)
          refine WL.y (hy := (by first | exact ld | exact ldE)) (h := ?_)
          refine un (h := ?_)
          refine cl0 (hc := fun w hS => C_ref11_within ..) (h := ?_)
          refine un (h := ?_)
          refine WL.y (hy := notB) (h := ?_)
          refine WL.y (hy := (by first | exact pkT | exact pkF)) (h := ?_)
          exact mg (by repeat (first | exact trivial | refine ⟨rfl, ?_⟩ | refine ⟨by rw [hb7]; rfl, ?_⟩)) (by repeat (first | exact SubL.nil | (apply SubL.cons; (repeat (first | exact At.here | apply At.there))) | exact SubL.refl _ | apply SubL.skip))
        · intro hb7
          repeat (first | refine un (h := ?_) | refine sk (h := ?_) | refine WL.y (hy := pkF) (h := ?_) | refine WL.y (hy := pkT) (h := ?_))
          exact mg (by repeat (first | exact trivial | refine ⟨rfl, ?_⟩ | refine ⟨by rw [hb7]; rfl, ?_⟩)) (by repeat (first | exact SubL.nil | (apply SubL.cons; (repeat (first | exact At.here | apply At.there))) | exact SubL.refl _ | apply SubL.skip))
        refine WL.y (hy := mv) (h := ?_)
        apply brOr 9 66 75 (by exact rfl)
        · intro hb8
          refine un (h := ?_)
          refine WL.y (hy := (by first | exact fa | exact faE)) (h := ?_)
          refine un (h := ?_)
          refine WL.y (hy := (by first | exact ld | exact ldE)) (h := ?_)
          refine un (h := ?_)
          refine WL.y (hy := (by first | exact fa | exact faE)) (h := ?_)
          refine un (h := ?_)
          refine WL.y (hy := (by first | exact ld | exact ldE)) (h := ?_)
          refine un (h := ?_)
          refine WL.y (hy := lenS) (h := ?_)
          refine un (h := ?_)
          refine WL.y (hy := subI) (h := ?_)
          refine un (h := ?_)
          refine cl0 (hc := fun w hS => C_ref11_within ..) (h := ?_)
          refine un (h := ?_)
          refine WL.y (hy := notB) (h := ?_)
          refine WL.y (hy := (by first | exact pkT | exact pkF)) (h := ?_)
          exact mg (by repeat (first | exact trivial | refine ⟨rfl, ?_⟩ | refine ⟨by rw [hb8]; rfl, ?_⟩)) (by repeat (first | exact SubL.nil | (apply SubL.cons; (repeat (first | exact At.here | apply At.there))) | exact SubL.refl _ | apply SubL.skip))
        · intro hb8
          repeat (first | refine un (h := ?_) | refine sk (h := ?_) | refine WL.y (hy := pkF) (h := ?_) | refine WL.y (hy := pkT) (h := ?_))
          exact mg (by repeat (first | exact trivial | refine ⟨rfl, ?_⟩ | refine ⟨by rw [hb8]; rfl, ?_⟩)) (by repeat (first | exact SubL.nil | (apply SubL.cons; (repeat (first | exact At.here | apply At.there))) | exact SubL.refl _ | apply SubL.skip))
        refine WL.y (hy := mv) (h := ?_)
        apply brOr 7 76 83 (by exact rfl)
        · intro hb9
          refine un (h := ?_)
          refine WL.y (hy := (by first | exact fa | exact faE)) (h := ?_)
          refine un (h := ?_)
          refine WL.y (hy := (by first | exact ld | exact ldE)) (h := ?_)
          refine un (h := ?_)
          refine WL.y (hy := (by first | exact fa | exact faE)) (h := ?_)
          refine un (h := ?_)
          refine WL.y (hy := (by first | exact ld | exact ldE)) (h := ?_)
          refine un (h := ?_)
          refine cl0 (hc := fun w hS => C_ref11_within ..) (h := ?_)
          refine un (h := ?_)
          refine WL.y (hy := notB) (h := ?_)
          refine WL.y (hy := (by first | exact pkT | exact pkF)) (h := ?_)
          exact mg (by repeat (first | exact trivial | refine ⟨rfl, ?_⟩ | refine ⟨by rw [hb9]; rfl, ?_⟩)) (by repeat (first | exact SubL.nil | (apply SubL.cons; (repeat (first | exact At.here | apply At.there))) | exact SubL.refl _ | apply SubL.skip))
        · intro hb9
          repeat (first | refine un (h := ?_) | refine sk (h := ?_) | refine WL.y (hy := pkF) (h := ?_) | refine WL.y (hy := pkT) (h := ?_))
          exact mg (by repeat (first | exact trivial | refine ⟨rfl, ?_⟩ | refine ⟨by rw [hb9]; rfl, ?_⟩)) (by repeat (first | exact SubL.nil | (apply SubL.cons; (repeat (first | exact At.here | apply At.there))) | exact SubL.refl _ | apply SubL.skip))
        refine nl (h := ?_)
        refine q_seq (h := ?_)
        refine cd (by exact rfl) (fun h10 => ?_) (fun h10 => ?_)
        · skip
          have hE : chkT x l = 111 := by rw [tk_not] at h10; rw [chkT, hA, tksOk_le (j := u.k + 1) (by rw [hst, (by simpa using h10 : tkOk x t = false)]; simp) (by omega)]; rfl
          refine sq (h := ?_)
          refine rg (h := ?_)
          refine WL.y (hy := asg) (h := ?_)
          refine nl (h := ?_)
          refine q_seq (h := ?_)
          refine rtn (h := ?_)
          refine q_then_ret (h := ?_)
          refine q_blk_ret (h := ?_)
          refine q_then_ret (h := ?_)
          refine q_then_ret (h := ?_)
          refine q_blk_ret (h := ?_)
          refine q_then_ret (h := ?_)
          refine q_ret (hR := ?_)
          rw [hE]
          exact fun w hS => ⟨rfl, hS.sub (by repeat (first | exact SubL.nil | (apply SubL.cons; (repeat (first | exact At.here | apply At.there))) | exact SubL.refl _ | apply SubL.skip))⟩
        · skip
          have hto : tkOk x t = true := by rw [tk_not] at h10; simpa using h10
          refine skp (h := ?_)
          refine q_seq (h := ?_)
          refine sq (h := ?_)
          refine rg (h := ?_)
          refine WL.y (hy := asg) (h := ?_)
          refine nl (h := ?_)
          refine q_seq (h := ?_)
          refine bk (h := ?_)
          refine lpC (X := JK) (I := fun y => y.j ≤ u.k ∧ dupT l y.j t.id = false) (le := fun y => [(2, .pointer (some ⟨b0, 0, none⟩)), (1, .slice lA l.length lc), (6, .int .i64 u.k), (7, .pointer (some ⟨b1, 0, none⟩)), (8, .int .i64 y.j)]) (μ := fun y => u.k - y.j) ⟨0⟩ ⟨Nat.zero_le _, rfl⟩ (by repeat (first | exact trivial | refine ⟨rfl, ?_⟩)) (fun y hy => ?_)
          obtain ⟨hy1, hy2⟩ := hy
          refine sq (h := ?_)
          refine sq (h := ?_)
          refine rg (h := ?_)
          refine WL.y (hy := mv) (h := ?_)
          refine WL.y (hy := mv) (h := ?_)
          refine WL.y (hy := lss) (h := ?_)
          refine nl (h := ?_)
          refine q_seq (h := ?_)
          refine cd (by exact rfl) (fun h11 => ?_) (fun h11 => ?_)
          · skip
            have hjn : y.j < u.k := by simp only [decide_eq_true_eq] at h11; omega
            obtain ⟨s, hs1⟩ : ∃ s, l[y.j]? = some s := ⟨_, List.getElem?_eq_getElem (by omega)⟩
            have hse := encTk_at hs1
            have hds := dupT_succ hs1 t.id
            refine skp (h := ?_)
            refine q_seq (h := ?_)
            refine sq (h := ?_)
            refine bk (h := ?_)
            refine sq (h := ?_)
            refine rgD0 (by kernel_rfl) (h := ?_)
            refine tk 0 (hy := mv) (h := ?_)
            refine tk 1 (hy := mv) (h := ?_)
            refine tk 2 (hy := ix (A := lA)) (h := ?_)
            refine tk 3 (hy := (by first | exact fa | exact faE)) (h := ?_)
            refine tk 4 (hy := ldE (A := lA) (hk := hse)) (h := ?_)
            refine tk 5 (hy := (by first | exact fa | exact faE)) (h := ?_)
            refine tk 6 (hy := (by first | exact ld | exact ldE)) (h := ?_)
            refine tk 7 (hy := eql) (h := ?_)
            refine dn (h := ?_)
            refine q_seq (h := ?_)
            refine cd (by exact rfl) (fun h12 => ?_) (fun h12 => ?_)
            · skip
              have hd : dupT l u.k t.id = true := dupT_le (j := y.j + 1) (by rw [hds, h12, Bool.or_true]) (by omega)
              have hE : chkT x l = 111 := by rw [chkT, hA, tksOk_le (j := u.k + 1) (by rw [hst, hd]; simp) (by omega)]; rfl
              refine sq (h := ?_)
              refine rg (h := ?_)
              refine WL.y (hy := asg) (h := ?_)
              refine nl (h := ?_)
              refine q_seq (h := ?_)
              refine rtn (h := ?_)
              refine q_blk_ret (h := ?_)
              refine q_then_ret (h := ?_)
              refine q_then_ret (h := ?_)
              refine q_blk_ret (h := ?_)
              refine q_blk_ret (h := ?_)
              refine q_then_ret (h := ?_)
              refine q_then_ret (h := ?_)
              refine q_blk_ret (h := ?_)
              refine q_then_ret (h := ?_)
              refine q_ret (hR := ?_)
              rw [hE]
              exact fun w hS => ⟨rfl, hS.sub (by repeat (first | exact SubL.nil | (apply SubL.cons; (repeat (first | exact At.here | apply At.there))) | exact SubL.refl _ | apply SubL.skip))⟩
            · skip
              have hd1 : dupT l (y.j + 1) t.id = false := by rw [hds, h12, hy2]; rfl
              refine skp (h := ?_)
              refine q_blk_norm (h := ?_)
              refine q_seq (h := ?_)
              refine rg (h := ?_)
              refine WL.y (hy := mv) (h := ?_)
              refine WL.y (hy := addI) (h := ?_)
              refine WL.y (hy := asg) (h := ?_)
              refine nl (h := ?_)
              refine rn (x := y) ⟨y.j + 1⟩ ⟨by dsimp only; omega, hd1⟩ (by dsimp only; omega) (by repeat (first | exact trivial | refine ⟨rfl, ?_⟩)) (SubL.refl _)
          · skip
            have hjn : y.j = u.k := by simp only [decide_eq_false_iff_not] at h11; omega
            have hd : dupT l u.k t.id = false := by rw [← hjn]; exact hy2
            refine et (h := ?_)
            refine q_then_exit (h := ?_)
            refine q_then_exit (h := ?_)
            refine q_blk_hit (h := ?_)
            refine q_blk_norm (h := ?_)
            refine q_seq (h := ?_)
            refine rg (h := ?_)
            refine WL.y (hy := mv) (h := ?_)
            refine WL.y (hy := addI) (h := ?_)
            refine WL.y (hy := asg) (h := ?_)
            refine nl (h := ?_)
            refine rn (x := u) ⟨u.k + 1⟩ ⟨by dsimp only; omega, by dsimp only; rw [hst, hu2, hd, hto]; rfl⟩ (by dsimp only; omega) (by repeat (first | exact trivial | refine ⟨rfl, ?_⟩)) (by repeat (first | exact SubL.nil | (apply SubL.cons; (repeat (first | exact At.here | apply At.there))) | exact SubL.refl _ | apply SubL.skip))
      · skip
        have hin : u.k = l.length := by simp only [decide_eq_false_iff_not] at h6; omega
        have hE : chkT x l = 0 := by rw [chkT, hA, ← hin, hu2]; rfl
        refine et (h := ?_)
        refine q_then_exit (h := ?_)
        refine q_then_exit (h := ?_)
        refine q_blk_hit (h := ?_)
        refine q_seq (h := ?_)
        refine sq (h := ?_)
        refine rg (h := ?_)
        refine WL.y (hy := asg) (h := ?_)
        refine nl (h := ?_)
        refine q_seq (h := ?_)
        refine rtn (h := ?_)
        refine q_ret (hR := ?_)
        rw [hE]
        exact fun w hS => ⟨rfl, hS.sub (by repeat (first | exact SubL.nil | (apply SubL.cons; (repeat (first | exact At.here | apply At.there))) | exact SubL.refl _ | apply SubL.skip))⟩
end Go.Proofs.Ytngelilffleimaa

namespace Go.Proofs.Ytngelilffleimaa
open Go Go.RowKit

def rfAt (x : Tm) (t : Tkt) : Int := rfV x t ((x.pl[t.day.toNat]?).getD 0)
theorem rfsTo_map (x : Tm) (l : List Tkt) : ∀ k, k ≤ l.length → rfsTo x l k = (l.take k).map (rfAt x)
  | 0, _ => rfl
  | k + 1, hk => by
    have hx : l[k]? = some l[k] := List.getElem?_eq_getElem (by omega)
    rw [rfsTo, hx, List.take_add_one, hx, List.map_append, ← rfsTo_map x l k (by omega)]
    rfl
theorem rfsV_map (x : Tm) (l : List Tkt) : rfsV x l = l.map (rfAt x) := by rw [rfsV, rfsTo_map x l _ (Nat.le_refl _), List.take_length]
end Go.Proofs.Ytngelilffleimaa

namespace Go.Proofs.Ytngelilffleimaa
open Go Go.RowKit

structure LeP (a b : List Int) : Prop where
  len : a.length = b.length
  le : ∀ (i : Nat) (x y : Int), a[i]? = some x → b[i]? = some y → x ≤ y
def InM (a : List Int) : Prop := ∀ x ∈ a, 0 ≤ x ∧ x ≤ 1440
theorem rf_mono {x : Tm} {t : Tkt} {m n : Int} (hs : x.short ≤ x.long) (hp : 0 ≤ t.price) (h : m ≤ n) : rfV x t n ≤ rfV x t m := by
  unfold rfV
  have hb : (bif decide (n < x.short) then t.price else bif decide (n < x.long) then t.price / 2 else 0) ≤ (bif decide (m < x.short) then t.price else bif decide (m < x.long) then t.price / 2 else 0) := by
    by_cases h1 : n < x.short
    · rw [decide_eq_true h1, decide_eq_true (show m < x.short by omega)]; exact Int.le_refl _
    · rw [decide_eq_false h1, cond_false]
      by_cases h2 : m < x.short
      · rw [decide_eq_true h2, cond_true]
        by_cases h3 : n < x.long
        · rw [decide_eq_true h3, cond_true]; omega
        · rw [decide_eq_false h3, cond_false]; exact hp
      · rw [decide_eq_false h2, cond_false]
        by_cases h3 : n < x.long
        · rw [decide_eq_true h3, decide_eq_true (show m < x.long by omega)]; exact Int.le_refl _
        · rw [decide_eq_false h3, cond_false]
          by_cases h4 : m < x.long
          · rw [decide_eq_true h4, cond_true]; omega
          · rw [decide_eq_false h4]; exact Int.le_refl _
  omega
theorem are_swap {s l : Int} {a b : List Int} {ts : List Tkt} (h : areT ⟨s, l, a⟩ ts = true) (hl : a.length = b.length) (hb : InM b) : areT ⟨s, l, b⟩ ts = true := by
  unfold areT at h ⊢
  rw [Bool.and_eq_true, Bool.and_eq_true] at h ⊢
  refine ⟨⟨?_, ?_⟩, ?_⟩
  · have := h.1.1
    unfold tHead at this ⊢
    rw [← hl]; exact this
  · exact List.all_eq_true.2 fun n hn => win_iff.2 (hb n hn)
  · have h3 := h.2
    have : ∀ k, tksOk ⟨s, l, b⟩ ts k = tksOk ⟨s, l, a⟩ ts k := fun k => by
      induction k with
      | zero => rfl
      | succ k ih =>
        rw [tksOk, tksOk, ih]
        cases ts[k]? with
        | none => rfl
        | some t => simp only [tkOk, hl]
    rw [this]; exact h3
theorem rfs_le {s l : Int} {a b : List Int} {ts : List Tkt} (h : areT ⟨s, l, a⟩ ts = true) (hab : LeP a b) {i : Nat} {x y : Int} (hx : (rfsV ⟨s, l, a⟩ ts)[i]? = some x) (hy : (rfsV ⟨s, l, b⟩ ts)[i]? = some y) : y ≤ x := by
  rw [rfsV_map, List.getElem?_map] at hx hy
  obtain ⟨t, ht, rfl⟩ := Option.map_eq_some_iff.1 hx
  rw [ht] at hy
  obtain rfl : rfAt ⟨s, l, b⟩ t = y := Option.some.inj hy
  have hok := t_ok h
  have hm := List.mem_of_getElem? ht
  have hd := (hok.tk t hm).2.2.1
  have hd' : t.day.toNat < a.length := by have := hd.2; dsimp only at this; omega
  unfold rfAt
  dsimp only
  rw [List.getElem?_eq_getElem hd', List.getElem?_eq_getElem (by rw [← hab.len]; exact hd')]
  exact rf_mono (x := ⟨s, l, a⟩) hok.s.2.1 (hok.tk t hm).2.1.1 (hab.le t.day.toNat _ _ (List.getElem?_eq_getElem hd') (List.getElem?_eq_getElem (by rw [← hab.len]; exact hd')))
def addM (a : List Int) (d : Nat) (v : Int) : List Int := a.set d (min 1440 (a.getD d 0 + v))
theorem addM_len (a : List Int) (d : Nat) (v : Int) : (addM a d v).length = a.length := List.length_set
theorem addM_in {a : List Int} (h : InM a) {d : Nat} {v : Int} (hv : 0 ≤ v) : InM (addM a d v) := by
  intro x hx
  unfold addM at hx
  rcases List.mem_or_eq_of_mem_set hx with hx | rfl
  · exact h x hx
  · have : 0 ≤ a.getD d 0 := by
      rw [List.getD_eq_getElem?_getD]
      cases e : a[d]? with
      | none => exact Int.le_refl _
      | some y => exact (h y (List.mem_of_getElem? e)).1
    omega
theorem addM_le {a b : List Int} (h : LeP a b) {d : Nat} {u v : Int} (huv : u ≤ v) : LeP (addM a d u) (addM b d v) := by
  refine ⟨by rw [addM_len, addM_len]; exact h.len, fun i x y hx hy => ?_⟩
  unfold addM at hx hy
  rw [List.getElem?_set] at hx hy
  by_cases e : d = i
  · subst e
    rw [if_pos rfl] at hx hy
    by_cases h1 : d < a.length
    · rw [if_pos h1] at hx
      rw [if_pos (by rw [← h.len]; exact h1)] at hy
      obtain rfl := Option.some.inj hx
      obtain rfl := Option.some.inj hy
      have := h.le d (a.getD d 0) (b.getD d 0) (by rw [List.getD_eq_getElem?_getD, List.getElem?_eq_getElem h1]; rfl) (by rw [List.getD_eq_getElem?_getD, List.getElem?_eq_getElem (by rw [← h.len]; exact h1)]; rfl)
      omega
    · rw [if_neg h1] at hx; cases hx
  · rw [if_neg e] at hx hy
    exact h.le i x y hx hy
theorem LeP.refl (a : List Int) : LeP a a := ⟨rfl, fun i x y hx hy => by rw [hx] at hy; cases hy; exact Int.le_refl _⟩
end Go.Proofs.Ytngelilffleimaa

namespace Go.Proofs.Ytngelilffleimaa
open Go Go.RowKit

theorem C_ref11_CheckT (s l : Int) (b : List Int) (ts : List Tkt) (pA lA : Option Addr) (nd n pc lc : Nat) (hb : b.length = nd) (hl : ts.length = n) (hnd : nd ≤ 1000) (hn : n ≤ 1000) (w : World) (h : Rd w pA 1 nd (enI b)) (h' : Rd w lA 4 n (encTk ts)) : C0 Try.prog 9 [.agg #[.int .i64 s, .int .i64 l, .slice pA nd pc], .slice lA n lc] w (.int .i64 (chkT ⟨s, l, b⟩ ts)) := by
  subst hb hl
  exact C_ref11_CheckTickets ⟨s, l, b⟩ ts pA lA pc lc w ⟨h, h', by show b.length ≤ _; omega, by omega⟩
theorem C_gate_RefundT (s l : Int) (b : List Int) (ts : List Tkt) (pA lA : Option Addr) (nd n pc lc : Nat) (hb : b.length = nd) (hl : ts.length = n) (hnd : nd ≤ 1000) (hn : n ≤ 1000) (hok : areT ⟨s, l, b⟩ ts = true) (w : World) (h : Rd w pA 1 nd (enI b)) (h' : Rd w lA 4 n (encTk ts)) :
    CR Try.prog 10 [.agg #[.int .i64 s, .int .i64 l, .slice pA nd pc], .slice lA n lc] w (fun _ : Option Addr × Nat => True) (fun r => .tuple #[.slice r.1 n r.2, .int .i64 0]) (fun r => [.own r.1 r.2 3 1 n (enI (rfsV ⟨s, l, b⟩ ts))]) := by
  subst hb hl
  refine ⟨Calls.mono (C_gate_Refund ⟨s, l, b⟩ ts pA lA pc lc w ⟨h, h', by show b.length ≤ _; omega, by omega⟩).out fun e w' ⟨r, hr, he, hs⟩ => ?_⟩
  obtain ⟨h1, h2, h3, h4⟩ := hr
  rw [hok] at h3 h4
  simp only [cond_true] at h3 h4
  have hn : r.n = ts.length := by rw [← h1, h4]; exact rfsTo_len _ _ _ (Nat.le_refl _)
  rw [h4, hn] at hs
  rw [h3, hn] at he
  exact ⟨(r.A, r.c), trivial, he, hs⟩
theorem rfs_len {x : Tm} {ts : List Tkt} : (rfsV x ts).length = ts.length := rfsTo_len _ _ _ (Nat.le_refl _)
structure LoZ where
  (k : Nat) (a b c : List Int)
structure LoI (nd : Nat) (z : LoZ) : Prop where
  ab : LeP z.a z.b
  bc : LeP z.b z.c
  ia : InM z.a
  ib : InM z.b
  ic : InM z.c
  n : z.a.length = nd
theorem LoI.start (nd : Nat) : LoI nd ⟨0, List.replicate nd 0, List.replicate nd 0, List.replicate nd 0⟩ :=
  have h : InM (List.replicate nd 0) := fun x hx => by rw [(List.mem_replicate.1 hx).2]; omega
  ⟨LeP.refl _, LeP.refl _, h, h, h, List.length_replicate⟩
theorem LoI.next {nd : Nat} {z : LoZ} (h : LoI nd z) (d : Nat) {u v y : Int} (hu : 0 ≤ u) (huv : u ≤ v) (hvy : v ≤ y) : LoI nd ⟨z.k + 1, addM z.a d u, addM z.b d v, addM z.c d y⟩ :=
  ⟨addM_le h.ab huv, addM_le h.bc hvy, addM_in h.ia hu, addM_in h.ib (by omega), addM_in h.ic (by omega), by rw [addM_len]; exact h.n⟩
theorem inM_get {a : List Int} (h : InM a) {i : Nat} (hi : i < a.length) : 0 ≤ a.getD i 0 ∧ a.getD i 0 ≤ 1440 := h _ (List.mem_of_getElem? (getD_get hi))
set_option maxRecDepth 100000 in
set_option maxHeartbeats 2000000 in
theorem K_TopRefunded (p : Pg) (v : Dx) (ts : List Tkt) (lA : Option Addr) (n lc : Nat) (w : World) (h : PgR w p) (hv : DxR w v) (hts : Rd w lA 4 n (encTk ts)) (hn : n ≤ 9223372036854775807) : C0 Try.prog 3 [p.val, v.val, .slice lA n lc] w (.bool true) := by
  have hlt : ts.length = n := by have := hts.len; rwa [encTk_len] at this
  have hon := hv.on
  have hoc := hv.oc
  have htn := hv.tn
  refine ⟨en Try.func3 Try.ntmps3 ((((((St.init w).share (e := .ro p.dA 1 p.days.length (encDy p.days)) h.d rfl rfl rfl).share (e := .ro p.jA 6 p.jobs.length (encJb p.jobs)) h.j rfl rfl rfl).share (e := .ro v.oA 3 v.o.length (encSe v.o)) hv.o rfl rfl rfl).share (e := .ro v.tA 1 v.tk.length (enI v.tk)) hv.t rfl rfl rfl).share (e := .ro lA 4 n (encTk ts)) hts rfl rfl rfl) (h := fun F => ?_)⟩
  refine sq (h := ?_)
  refine rg (h := ?_)
  refine bxA (h := fun b0 => ?_)
  refine bxA (h := fun b1 => ?_)
  refine WL.y (hy := asg) (h := ?_)
  refine WL.cut (by repeat (first | exact Cut.nil | apply Cut.hit | apply Cut.miss (by exact rfl))) ?_
  refine nl (h := ?_)
  refine q_seq (h := ?_)
  refine sq (h := ?_)
  refine sq (h := ?_)
  refine rg (h := ?_)
  refine WL.y (hy := (by first | exact ldA | exact ldEA)) (h := ?_)
  refine cl (hc := fun w hS => C_ref8_Check p w (h.old hS)) (h := fun e he => ?_)
  refine WL.y (hy := neq) (h := ?_)
  refine WL.y (hy := mv) (h := ?_)
  apply brOr 5 27 32 (by exact rfl)
  · intro hb0
    refine un (h := ?_)
    refine WL.y (hy := (by first | exact fa | exact faE)) (h := ?_)
    refine un (h := ?_)
    refine WL.y (hy := (by first | exact ld | exact ldE)) (h := ?_)
    refine un (h := ?_)
    refine WL.y (hy := lenS) (h := ?_)
    refine un (h := ?_)
    refine WL.y (hy := gtr) (h := ?_)
    refine WL.y (hy := (by first | exact pkT | exact pkF)) (h := ?_)
    exact mg (by repeat (first | exact trivial | refine ⟨rfl, ?_⟩ | refine ⟨by rw [hb0]; rfl, ?_⟩)) (by repeat (first | exact SubL.nil | (apply SubL.cons; (repeat (first | exact At.here | apply At.there))) | exact SubL.refl _ | apply SubL.skip))
  · intro hb0
    repeat (first | refine un (h := ?_) | refine sk (h := ?_) | refine WL.y (hy := pkF) (h := ?_) | refine WL.y (hy := pkT) (h := ?_))
    exact mg (by repeat (first | exact trivial | refine ⟨rfl, ?_⟩ | refine ⟨by rw [hb0]; rfl, ?_⟩)) (by repeat (first | exact SubL.nil | (apply SubL.cons; (repeat (first | exact At.here | apply At.there))) | exact SubL.refl _ | apply SubL.skip))
  refine WL.y (hy := mv) (h := ?_)
  apply brOr 6 33 39 (by exact rfl)
  · intro hb1
    have g9 := hb1
    rw [Bool.or_eq_false_iff, Bool.not_eq_false', decide_eq_true_eq] at g9
    have hp0 := he g9.1
    refine un (h := ?_)
    refine WL.y (hy := (by first | exact ldA | exact ldEA)) (h := ?_)
    refine un (h := ?_)
    refine WL.y (hy := (by first | exact fa | exact faE)) (h := ?_)
    refine un (h := ?_)
    refine WL.y (hy := (by first | exact ld | exact ldE)) (h := ?_)
    refine un (h := ?_)
    refine cl0 (hc := fun w hS => C_ref8_IsOrderB p hp0 v.o v.oA v.o.length v.oc hoc hon w (h.old hS) (hS.get (by repeat (first | exact Rds.ro | exact Rds.own | apply Rds.there)))) (h := ?_)
    refine un (h := ?_)
    refine WL.y (hy := notB) (h := ?_)
    refine WL.y (hy := (by first | exact pkT | exact pkF)) (h := ?_)
    exact mg (by repeat (first | exact trivial | refine ⟨rfl, ?_⟩ | refine ⟨by rw [hb1]; rfl, ?_⟩)) (by repeat (first | exact SubL.nil | (apply SubL.cons; (repeat (first | exact At.here | apply At.there))) | exact SubL.refl _ | apply SubL.skip))
  · intro hb1
    repeat (first | refine un (h := ?_) | refine sk (h := ?_) | refine WL.y (hy := pkF) (h := ?_) | refine WL.y (hy := pkT) (h := ?_))
    exact mg (by repeat (first | exact trivial | refine ⟨rfl, ?_⟩ | refine ⟨by rw [hb1]; rfl, ?_⟩)) (by repeat (first | exact SubL.nil | (apply SubL.cons; (repeat (first | exact At.here | apply At.there))) | exact SubL.refl _ | apply SubL.skip))
  refine WL.y (hy := mv) (h := ?_)
  apply brOr 8 40 48 (by exact rfl)
  · intro hb2
    refine un (h := ?_)
    refine WL.y (hy := (by first | exact fa | exact faE)) (h := ?_)
    refine un (h := ?_)
    refine WL.y (hy := (by first | exact ld | exact ldE)) (h := ?_)
    refine un (h := ?_)
    refine WL.y (hy := lenS) (h := ?_)
    refine un (h := ?_)
    refine WL.y (hy := (by first | exact fa | exact faE)) (h := ?_)
    refine un (h := ?_)
    refine WL.y (hy := (by first | exact ld | exact ldE)) (h := ?_)
    refine un (h := ?_)
    refine WL.y (hy := lenS) (h := ?_)
    refine un (h := ?_)
    refine WL.y (hy := neq) (h := ?_)
    refine WL.y (hy := (by first | exact pkT | exact pkF)) (h := ?_)
    exact mg (by repeat (first | exact trivial | refine ⟨rfl, ?_⟩ | refine ⟨by rw [hb2]; rfl, ?_⟩)) (by repeat (first | exact SubL.nil | (apply SubL.cons; (repeat (first | exact At.here | apply At.there))) | exact SubL.refl _ | apply SubL.skip))
  · intro hb2
    repeat (first | refine un (h := ?_) | refine sk (h := ?_) | refine WL.y (hy := pkF) (h := ?_) | refine WL.y (hy := pkT) (h := ?_))
    exact mg (by repeat (first | exact trivial | refine ⟨rfl, ?_⟩ | refine ⟨by rw [hb2]; rfl, ?_⟩)) (by repeat (first | exact SubL.nil | (apply SubL.cons; (repeat (first | exact At.here | apply At.there))) | exact SubL.refl _ | apply SubL.skip))
  refine WL.y (hy := mv) (h := ?_)
  apply brOr 4 49 53 (by exact rfl)
  · intro hb3
    refine un (h := ?_)
    refine WL.y (hy := mv) (h := ?_)
    refine un (h := ?_)
    refine WL.y (hy := lenS) (h := ?_)
    refine un (h := ?_)
    refine WL.y (hy := gtr) (h := ?_)
    refine WL.y (hy := (by first | exact pkT | exact pkF)) (h := ?_)
    exact mg (by repeat (first | exact trivial | refine ⟨rfl, ?_⟩ | refine ⟨by rw [hb3]; rfl, ?_⟩)) (by repeat (first | exact SubL.nil | (apply SubL.cons; (repeat (first | exact At.here | apply At.there))) | exact SubL.refl _ | apply SubL.skip))
  · intro hb3
    repeat (first | refine un (h := ?_) | refine sk (h := ?_) | refine WL.y (hy := pkF) (h := ?_) | refine WL.y (hy := pkT) (h := ?_))
    exact mg (by repeat (first | exact trivial | refine ⟨rfl, ?_⟩ | refine ⟨by rw [hb3]; rfl, ?_⟩)) (by repeat (first | exact SubL.nil | (apply SubL.cons; (repeat (first | exact At.here | apply At.there))) | exact SubL.refl _ | apply SubL.skip))
  refine nl (h := ?_)
  refine q_seq (h := ?_)
  refine cd (by exact rfl) (fun h4 => ?_) (fun h4 => ?_)
  · skip
    refine sq (h := ?_)
    refine rg (h := ?_)
    refine cl0 (hc := fun w hS => C_top_admitted w) (h := ?_)
    refine WL.y (hy := asg) (h := ?_)
    refine WL.cut (by repeat (first | exact Cut.nil | apply Cut.hit | apply Cut.miss (by exact rfl))) ?_
    refine nl (h := ?_)
    refine q_seq (h := ?_)
    refine rtn (h := ?_)
    refine q_then_ret (h := ?_)
    refine q_ret (hR := ?_)
    exact fun w hS => ⟨rfl, hS.sub .nil⟩
  · skip
    have g9 := h4
    simp only [Bool.or_eq_false_iff, Bool.not_eq_false', decide_eq_true_eq, decide_eq_false_iff_not] at g9
    obtain ⟨⟨⟨⟨g1, g2⟩, g3⟩, g4⟩, g5⟩ := g9
    have hp := he g1
    have hO := ordB_iff.1 g3
    have hnd := hp.nd
    have hnj := hp.nj
    have hoN := hO.n
    have htN : v.tk.length = p.jobs.length := by omega
    have hn40 : n ≤ 40 := by omega
    refine skp (h := ?_)
    refine q_seq (h := ?_)
    refine sq (h := ?_)
    refine sq (h := ?_)
    refine rg (h := ?_)
    refine WL.y (hy := (by first | exact ldA | exact ldEA)) (h := ?_)
    refine WL.y (hy := (by first | exact fa | exact faE)) (h := ?_)
    refine WL.y (hy := (by first | exact ld | exact ldE)) (h := ?_)
    refine cl (hc := fun w hS => C_play_Times p hp v.o hO v.oA v.o.length v.oc w (h.old hS) (hS.get (by repeat (first | exact Rds.ro | exact Rds.own | apply Rds.there)))) (h := fun q _ => ?_)
    refine WL.y (hy := mv) (h := ?_)
    refine WL.y (hy := ex) (h := ?_)
    refine WL.y (hy := ex) (h := ?_)
    refine WL.y (hy := ex) (h := ?_)
    refine WL.y (hy := asg) (h := ?_)
    refine WL.cut (by repeat (first | exact Cut.nil | apply Cut.hit | apply Cut.miss (by exact rfl))) ?_
    refine WL.y (hy := asg) (h := ?_)
    refine WL.cut (by repeat (first | exact Cut.nil | apply Cut.hit | apply Cut.miss (by exact rfl))) ?_
    refine WL.y (hy := asg) (h := ?_)
    refine WL.cut (by repeat (first | exact Cut.nil | apply Cut.hit | apply Cut.miss (by exact rfl))) ?_
    refine nl (h := ?_)
    refine q_seq (h := ?_)
    refine sq (h := ?_)
    refine rg (h := ?_)
    refine WL.y (hy := mv) (h := ?_)
    refine WL.y (hy := (Yd.fl (neq) (by rfl))) (h := ?_)
    refine nl (h := ?_)
    refine q_seq (h := ?_)
    refine cdF (h := ?_)
    refine skp (h := ?_)
    refine q_seq (h := ?_)
    refine ct (X := Nat × Nat × Nat) (fun _ => True) (fun x => [(2, .slice lA n lc), (3, .pointer (some ⟨b0, 0, none⟩)), (4, .pointer (some ⟨b1, 0, none⟩)), (10, .pointer (some ⟨x.1, 0, none⟩)), (11, .pointer (some ⟨x.2.1, 0, none⟩)), (12, .pointer (some ⟨x.2.2, 0, none⟩))]) (fun x => [.blk x.1 29 (v.t.cells v.pA v.pc), .blk x.2.1 29 (v.t.cells v.pA v.pc), .blk x.2.2 29 (v.t.cells v.pA v.pc), .blk b0 25 p.cells, .blk b1 31 v.cells, .ro p.dA 1 p.days.length (encDy p.days), .ro p.jA 6 p.jobs.length (encJb p.jobs), .ro v.oA 3 v.o.length (encSe v.o), .ro v.tA 1 v.tk.length (enI v.tk), .ro lA 4 n (encTk ts)]) (h1 := ?_) (h2 := ?_)
    · skip
      refine rgD0 (by kernel_rfl) (h := ?_)
      refine tk 0 (hy := (by first | exact fa | exact faE)) (h := ?_)
      refine tk 1 (hy := (by first | exact ldA | exact ldEA)) (h := ?_)
      refine tk 2 (hy := (by first | exact fa | exact faE)) (h := ?_)
      refine tk 3 (hy := (by first | exact ldA | exact ldEA)) (h := ?_)
      refine tk 4 (hy := (by first | exact fa | exact faE)) (h := ?_)
      refine tk 5 (hy := (by first | exact ldA | exact ldEA)) (h := ?_)
      refine fan [6, 7, 8] (h := ⟨⟨_, by exact rfl, ?_⟩, ⟨_, by exact rfl, ?_⟩, ⟨_, by exact rfl, ?_⟩, trivial⟩)
      · skip
        refine al (h := fun bl => ?_)
        refine nx (h := ?_)
        refine two 7 8 (h1 := ?_) (h2 := ?_)
        · skip
          refine al (h := fun bm => ?_)
          refine nx (h := ?_)
          refine one 8 (h := ?_)
          refine al (h := fun bh => ?_)
          refine nx (h := ?_)
          refine one 9 (h := ?_)
          first | refine stA (h := ?_) | refine stEA (h := ?_)
          refine nx (h := ?_)
          refine one 10 (h := ?_)
          first | refine stA (h := ?_) | refine stEA (h := ?_)
          refine nx (h := ?_)
          refine one 11 (h := ?_)
          first | refine stA (h := ?_) | refine stEA (h := ?_)
          refine nx (h := ?_)
          refine dn (h := ?_)
          exact ctn (x := (bl, bm, bh)) trivial (by repeat (first | exact trivial | refine ⟨rfl, ?_⟩)) (by repeat (first | exact SubL.nil | (apply SubL.cons; (repeat (first | exact At.here | apply At.there))) | exact SubL.refl _ | apply SubL.skip))
        · skip
          refine al (h := fun bh => ?_)
          refine nx (h := ?_)
          refine one 7 (h := ?_)
          refine al (h := fun bm => ?_)
          refine nx (h := ?_)
          refine one 9 (h := ?_)
          first | refine stA (h := ?_) | refine stEA (h := ?_)
          refine nx (h := ?_)
          refine one 10 (h := ?_)
          first | refine stA (h := ?_) | refine stEA (h := ?_)
          refine nx (h := ?_)
          refine one 11 (h := ?_)
          first | refine stA (h := ?_) | refine stEA (h := ?_)
          refine nx (h := ?_)
          refine dn (h := ?_)
          exact ctn (x := (bl, bm, bh)) trivial (by repeat (first | exact trivial | refine ⟨rfl, ?_⟩)) (by repeat (first | exact SubL.nil | (apply SubL.cons; (repeat (first | exact At.here | apply At.there))) | exact SubL.refl _ | apply SubL.skip))
      · skip
        refine al (h := fun bm => ?_)
        refine nx (h := ?_)
        refine two 6 8 (h1 := ?_) (h2 := ?_)
        · skip
          refine al (h := fun bl => ?_)
          refine nx (h := ?_)
          refine one 8 (h := ?_)
          refine al (h := fun bh => ?_)
          refine nx (h := ?_)
          refine one 9 (h := ?_)
          first | refine stA (h := ?_) | refine stEA (h := ?_)
          refine nx (h := ?_)
          refine one 10 (h := ?_)
          first | refine stA (h := ?_) | refine stEA (h := ?_)
          refine nx (h := ?_)
          refine one 11 (h := ?_)
          first | refine stA (h := ?_) | refine stEA (h := ?_)
          refine nx (h := ?_)
          refine dn (h := ?_)
          exact ctn (x := (bl, bm, bh)) trivial (by repeat (first | exact trivial | refine ⟨rfl, ?_⟩)) (by repeat (first | exact SubL.nil | (apply SubL.cons; (repeat (first | exact At.here | apply At.there))) | exact SubL.refl _ | apply SubL.skip))
        · skip
          refine al (h := fun bh => ?_)
          refine nx (h := ?_)
          refine one 6 (h := ?_)
          refine al (h := fun bl => ?_)
          refine nx (h := ?_)
          refine one 9 (h := ?_)
          first | refine stA (h := ?_) | refine stEA (h := ?_)
          refine nx (h := ?_)
          refine one 10 (h := ?_)
          first | refine stA (h := ?_) | refine stEA (h := ?_)
          refine nx (h := ?_)
          refine one 11 (h := ?_)
          first | refine stA (h := ?_) | refine stEA (h := ?_)
          refine nx (h := ?_)
          refine dn (h := ?_)
          exact ctn (x := (bl, bm, bh)) trivial (by repeat (first | exact trivial | refine ⟨rfl, ?_⟩)) (by repeat (first | exact SubL.nil | (apply SubL.cons; (repeat (first | exact At.here | apply At.there))) | exact SubL.refl _ | apply SubL.skip))
      · skip
        refine al (h := fun bh => ?_)
        refine nx (h := ?_)
        refine two 6 7 (h1 := ?_) (h2 := ?_)
        · skip
          refine al (h := fun bl => ?_)
          refine nx (h := ?_)
          refine one 7 (h := ?_)
          refine al (h := fun bm => ?_)
          refine nx (h := ?_)
          refine one 9 (h := ?_)
          first | refine stA (h := ?_) | refine stEA (h := ?_)
          refine nx (h := ?_)
          refine one 10 (h := ?_)
          first | refine stA (h := ?_) | refine stEA (h := ?_)
          refine nx (h := ?_)
          refine one 11 (h := ?_)
          first | refine stA (h := ?_) | refine stEA (h := ?_)
          refine nx (h := ?_)
          refine dn (h := ?_)
          exact ctn (x := (bl, bm, bh)) trivial (by repeat (first | exact trivial | refine ⟨rfl, ?_⟩)) (by repeat (first | exact SubL.nil | (apply SubL.cons; (repeat (first | exact At.here | apply At.there))) | exact SubL.refl _ | apply SubL.skip))
        · skip
          refine al (h := fun bm => ?_)
          refine nx (h := ?_)
          refine one 6 (h := ?_)
          refine al (h := fun bl => ?_)
          refine nx (h := ?_)
          refine one 9 (h := ?_)
          first | refine stA (h := ?_) | refine stEA (h := ?_)
          refine nx (h := ?_)
          refine one 10 (h := ?_)
          first | refine stA (h := ?_) | refine stEA (h := ?_)
          refine nx (h := ?_)
          refine one 11 (h := ?_)
          first | refine stA (h := ?_) | refine stEA (h := ?_)
          refine nx (h := ?_)
          refine dn (h := ?_)
          exact ctn (x := (bl, bm, bh)) trivial (by repeat (first | exact trivial | refine ⟨rfl, ?_⟩)) (by repeat (first | exact SubL.nil | (apply SubL.cons; (repeat (first | exact At.here | apply At.there))) | exact SubL.refl _ | apply SubL.skip))
    rintro ⟨bl, bm, bh⟩ -
    refine ct (X := Nat × Nat × Nat) (fun _ => True) (fun x => [(2, .slice lA n lc), (3, .pointer (some ⟨b0, 0, none⟩)), (4, .pointer (some ⟨b1, 0, none⟩)), (10, .pointer (some ⟨bl, 0, none⟩)), (11, .pointer (some ⟨bm, 0, none⟩)), (12, .pointer (some ⟨bh, 0, none⟩))]) (fun x => [.blk bl 29 [.int .i64 v.t.short, .int .i64 v.t.long, .slice (some ⟨x.1, 0, none⟩) p.days.length p.days.length], .blk bm 29 [.int .i64 v.t.short, .int .i64 v.t.long, .slice (some ⟨x.2.1, 0, none⟩) p.days.length p.days.length], .blk bh 29 [.int .i64 v.t.short, .int .i64 v.t.long, .slice (some ⟨x.2.2, 0, none⟩) p.days.length p.days.length], .own (some ⟨x.1, 0, none⟩) p.days.length 3 1 p.days.length (enI (List.replicate p.days.length 0)), .own (some ⟨x.2.1, 0, none⟩) p.days.length 3 1 p.days.length (enI (List.replicate p.days.length 0)), .own (some ⟨x.2.2, 0, none⟩) p.days.length 3 1 p.days.length (enI (List.replicate p.days.length 0)), .blk b0 25 p.cells, .blk b1 31 v.cells, .ro p.jA 6 p.jobs.length (encJb p.jobs), .ro v.oA 3 v.o.length (encSe v.o), .ro v.tA 1 v.tk.length (enI v.tk), .ro lA 4 n (encTk ts)]) (h1 := ?_) (h2 := ?_)
    · skip
      refine rgD (by kernel_rfl) [(1000000, .blk b0 25 p.cells)] (by repeat (first | exact HS.nil | (apply HS.keep; (repeat (first | exact At.here | apply At.there))) | (apply HS.ro; (repeat (first | exact Rds.ro | exact Rds.own | apply Rds.there))))) (h := ?_)
      refine tk 0 (hy := (by first | exact fa | exact faE)) (h := ?_)
      refine tk 1 (hy := (by first | exact ld | exact ldE)) (h := ?_)
      refine tk 2 (hy := lenS) (h := ?_)
      refine tk 4 (hy := (by first | exact fa | exact faE)) (h := ?_)
      refine tk 5 (hy := (by first | exact ld | exact ldE)) (h := ?_)
      refine tk 6 (hy := lenS) (h := ?_)
      refine tk 8 (hy := (by first | exact fa | exact faE)) (h := ?_)
      refine tk 9 (hy := (by first | exact ld | exact ldE)) (h := ?_)
      refine tk 10 (hy := lenS) (h := ?_)
      refine fan [3, 7, 11] (h := ⟨⟨_, by exact rfl, ?_⟩, ⟨_, by exact rfl, ?_⟩, ⟨_, by exact rfl, ?_⟩, trivial⟩)
      · skip
        refine mks p.days.length (hx := by exact rfl) (hy := by exact rfl) (h := fun mA => ?_)
        rw [enI_rep8]
        refine nx (h := ?_)
        refine tk 12 (hy := (by first | exact fa | exact faE)) (h := ?_)
        refine fan [7, 11, 13] (h := ⟨⟨_, by exact rfl, ?_⟩, ⟨_, by exact rfl, ?_⟩, ⟨_, by exact rfl, ?_⟩, trivial⟩)
        · skip
          refine mks p.days.length (hx := by exact rfl) (hy := by exact rfl) (h := fun mB => ?_)
          rw [enI_rep8]
          refine nx (h := ?_)
          refine two 11 13 (h1 := ?_) (h2 := ?_)
          · skip
            refine mks p.days.length (hx := by exact rfl) (hy := by exact rfl) (h := fun mC => ?_)
            rw [enI_rep8]
            refine nx (h := ?_)
            refine one 13 (h := ?_)
            first | refine st (h := ?_) | refine stE (h := ?_)
            refine nx (h := ?_)
            refine tk 14 (hy := (by first | exact fa | exact faE)) (h := ?_)
            refine one 15 (h := ?_)
            first | refine st (h := ?_) | refine stE (h := ?_)
            refine nx (h := ?_)
            refine tk 16 (hy := (by first | exact fa | exact faE)) (h := ?_)
            refine one 17 (h := ?_)
            first | refine st (h := ?_) | refine stE (h := ?_)
            refine nx (h := ?_)
            refine dn (h := ?_)
            exact ctn (x := (mA, mB, mC)) trivial (by repeat (first | exact trivial | refine ⟨rfl, ?_⟩)) (by repeat (first | exact SubL.nil | (apply SubL.cons; (repeat (first | exact At.here | apply At.there))) | exact SubL.refl _ | apply SubL.skip))
          · skip
            first | refine st (h := ?_) | refine stE (h := ?_)
            refine nx (h := ?_)
            refine tk 14 (hy := (by first | exact fa | exact faE)) (h := ?_)
            refine two 11 15 (h1 := ?_) (h2 := ?_)
            · skip
              refine mks p.days.length (hx := by exact rfl) (hy := by exact rfl) (h := fun mC => ?_)
              rw [enI_rep8]
              refine nx (h := ?_)
              refine one 15 (h := ?_)
              first | refine st (h := ?_) | refine stE (h := ?_)
              refine nx (h := ?_)
              refine tk 16 (hy := (by first | exact fa | exact faE)) (h := ?_)
              refine one 17 (h := ?_)
              first | refine st (h := ?_) | refine stE (h := ?_)
              refine nx (h := ?_)
              refine dn (h := ?_)
              exact ctn (x := (mA, mB, mC)) trivial (by repeat (first | exact trivial | refine ⟨rfl, ?_⟩)) (by repeat (first | exact SubL.nil | (apply SubL.cons; (repeat (first | exact At.here | apply At.there))) | exact SubL.refl _ | apply SubL.skip))
            · skip
              first | refine st (h := ?_) | refine stE (h := ?_)
              refine nx (h := ?_)
              refine one 11 (h := ?_)
              refine mks p.days.length (hx := by exact rfl) (hy := by exact rfl) (h := fun mC => ?_)
              rw [enI_rep8]
              refine nx (h := ?_)
              refine tk 16 (hy := (by first | exact fa | exact faE)) (h := ?_)
              refine one 17 (h := ?_)
              first | refine st (h := ?_) | refine stE (h := ?_)
              refine nx (h := ?_)
              refine dn (h := ?_)
              exact ctn (x := (mA, mB, mC)) trivial (by repeat (first | exact trivial | refine ⟨rfl, ?_⟩)) (by repeat (first | exact SubL.nil | (apply SubL.cons; (repeat (first | exact At.here | apply At.there))) | exact SubL.refl _ | apply SubL.skip))
        · skip
          refine mks p.days.length (hx := by exact rfl) (hy := by exact rfl) (h := fun mC => ?_)
          rw [enI_rep8]
          refine nx (h := ?_)
          refine two 7 13 (h1 := ?_) (h2 := ?_)
          · skip
            refine mks p.days.length (hx := by exact rfl) (hy := by exact rfl) (h := fun mB => ?_)
            rw [enI_rep8]
            refine nx (h := ?_)
            refine one 13 (h := ?_)
            first | refine st (h := ?_) | refine stE (h := ?_)
            refine nx (h := ?_)
            refine tk 14 (hy := (by first | exact fa | exact faE)) (h := ?_)
            refine one 15 (h := ?_)
            first | refine st (h := ?_) | refine stE (h := ?_)
            refine nx (h := ?_)
            refine tk 16 (hy := (by first | exact fa | exact faE)) (h := ?_)
            refine one 17 (h := ?_)
            first | refine st (h := ?_) | refine stE (h := ?_)
            refine nx (h := ?_)
            refine dn (h := ?_)
            exact ctn (x := (mA, mB, mC)) trivial (by repeat (first | exact trivial | refine ⟨rfl, ?_⟩)) (by repeat (first | exact SubL.nil | (apply SubL.cons; (repeat (first | exact At.here | apply At.there))) | exact SubL.refl _ | apply SubL.skip))
          · skip
            first | refine st (h := ?_) | refine stE (h := ?_)
            refine nx (h := ?_)
            refine one 7 (h := ?_)
            refine mks p.days.length (hx := by exact rfl) (hy := by exact rfl) (h := fun mB => ?_)
            rw [enI_rep8]
            refine nx (h := ?_)
            refine tk 14 (hy := (by first | exact fa | exact faE)) (h := ?_)
            refine one 15 (h := ?_)
            first | refine st (h := ?_) | refine stE (h := ?_)
            refine nx (h := ?_)
            refine tk 16 (hy := (by first | exact fa | exact faE)) (h := ?_)
            refine one 17 (h := ?_)
            first | refine st (h := ?_) | refine stE (h := ?_)
            refine nx (h := ?_)
            refine dn (h := ?_)
            exact ctn (x := (mA, mB, mC)) trivial (by repeat (first | exact trivial | refine ⟨rfl, ?_⟩)) (by repeat (first | exact SubL.nil | (apply SubL.cons; (repeat (first | exact At.here | apply At.there))) | exact SubL.refl _ | apply SubL.skip))
        · skip
          first | refine st (h := ?_) | refine stE (h := ?_)
          refine nx (h := ?_)
          refine two 7 11 (h1 := ?_) (h2 := ?_)
          · skip
            refine mks p.days.length (hx := by exact rfl) (hy := by exact rfl) (h := fun mB => ?_)
            rw [enI_rep8]
            refine nx (h := ?_)
            refine tk 14 (hy := (by first | exact fa | exact faE)) (h := ?_)
            refine two 11 15 (h1 := ?_) (h2 := ?_)
            · skip
              refine mks p.days.length (hx := by exact rfl) (hy := by exact rfl) (h := fun mC => ?_)
              rw [enI_rep8]
              refine nx (h := ?_)
              refine one 15 (h := ?_)
              first | refine st (h := ?_) | refine stE (h := ?_)
              refine nx (h := ?_)
              refine tk 16 (hy := (by first | exact fa | exact faE)) (h := ?_)
              refine one 17 (h := ?_)
              first | refine st (h := ?_) | refine stE (h := ?_)
              refine nx (h := ?_)
              refine dn (h := ?_)
              exact ctn (x := (mA, mB, mC)) trivial (by repeat (first | exact trivial | refine ⟨rfl, ?_⟩)) (by repeat (first | exact SubL.nil | (apply SubL.cons; (repeat (first | exact At.here | apply At.there))) | exact SubL.refl _ | apply SubL.skip))
            · skip
              first | refine st (h := ?_) | refine stE (h := ?_)
              refine nx (h := ?_)
              refine one 11 (h := ?_)
              refine mks p.days.length (hx := by exact rfl) (hy := by exact rfl) (h := fun mC => ?_)
              rw [enI_rep8]
              refine nx (h := ?_)
              refine tk 16 (hy := (by first | exact fa | exact faE)) (h := ?_)
              refine one 17 (h := ?_)
              first | refine st (h := ?_) | refine stE (h := ?_)
              refine nx (h := ?_)
              refine dn (h := ?_)
              exact ctn (x := (mA, mB, mC)) trivial (by repeat (first | exact trivial | refine ⟨rfl, ?_⟩)) (by repeat (first | exact SubL.nil | (apply SubL.cons; (repeat (first | exact At.here | apply At.there))) | exact SubL.refl _ | apply SubL.skip))
          · skip
            refine mks p.days.length (hx := by exact rfl) (hy := by exact rfl) (h := fun mC => ?_)
            rw [enI_rep8]
            refine nx (h := ?_)
            refine one 7 (h := ?_)
            refine mks p.days.length (hx := by exact rfl) (hy := by exact rfl) (h := fun mB => ?_)
            rw [enI_rep8]
            refine nx (h := ?_)
            refine tk 14 (hy := (by first | exact fa | exact faE)) (h := ?_)
            refine one 15 (h := ?_)
            first | refine st (h := ?_) | refine stE (h := ?_)
            refine nx (h := ?_)
            refine tk 16 (hy := (by first | exact fa | exact faE)) (h := ?_)
            refine one 17 (h := ?_)
            first | refine st (h := ?_) | refine stE (h := ?_)
            refine nx (h := ?_)
            refine dn (h := ?_)
            exact ctn (x := (mA, mB, mC)) trivial (by repeat (first | exact trivial | refine ⟨rfl, ?_⟩)) (by repeat (first | exact SubL.nil | (apply SubL.cons; (repeat (first | exact At.here | apply At.there))) | exact SubL.refl _ | apply SubL.skip))
      · skip
        refine mks p.days.length (hx := by exact rfl) (hy := by exact rfl) (h := fun mB => ?_)
        rw [enI_rep8]
        refine nx (h := ?_)
        refine two 3 11 (h1 := ?_) (h2 := ?_)
        · skip
          refine mks p.days.length (hx := by exact rfl) (hy := by exact rfl) (h := fun mA => ?_)
          rw [enI_rep8]
          refine nx (h := ?_)
          refine tk 12 (hy := (by first | exact fa | exact faE)) (h := ?_)
          refine two 11 13 (h1 := ?_) (h2 := ?_)
          · skip
            refine mks p.days.length (hx := by exact rfl) (hy := by exact rfl) (h := fun mC => ?_)
            rw [enI_rep8]
            refine nx (h := ?_)
            refine one 13 (h := ?_)
            first | refine st (h := ?_) | refine stE (h := ?_)
            refine nx (h := ?_)
            refine tk 14 (hy := (by first | exact fa | exact faE)) (h := ?_)
            refine one 15 (h := ?_)
            first | refine st (h := ?_) | refine stE (h := ?_)
            refine nx (h := ?_)
            refine tk 16 (hy := (by first | exact fa | exact faE)) (h := ?_)
            refine one 17 (h := ?_)
            first | refine st (h := ?_) | refine stE (h := ?_)
            refine nx (h := ?_)
            refine dn (h := ?_)
            exact ctn (x := (mA, mB, mC)) trivial (by repeat (first | exact trivial | refine ⟨rfl, ?_⟩)) (by repeat (first | exact SubL.nil | (apply SubL.cons; (repeat (first | exact At.here | apply At.there))) | exact SubL.refl _ | apply SubL.skip))
          · skip
            first | refine st (h := ?_) | refine stE (h := ?_)
            refine nx (h := ?_)
            refine tk 14 (hy := (by first | exact fa | exact faE)) (h := ?_)
            refine two 11 15 (h1 := ?_) (h2 := ?_)
            · skip
              refine mks p.days.length (hx := by exact rfl) (hy := by exact rfl) (h := fun mC => ?_)
              rw [enI_rep8]
              refine nx (h := ?_)
              refine one 15 (h := ?_)
              first | refine st (h := ?_) | refine stE (h := ?_)
              refine nx (h := ?_)
              refine tk 16 (hy := (by first | exact fa | exact faE)) (h := ?_)
              refine one 17 (h := ?_)
              first | refine st (h := ?_) | refine stE (h := ?_)
              refine nx (h := ?_)
              refine dn (h := ?_)
              exact ctn (x := (mA, mB, mC)) trivial (by repeat (first | exact trivial | refine ⟨rfl, ?_⟩)) (by repeat (first | exact SubL.nil | (apply SubL.cons; (repeat (first | exact At.here | apply At.there))) | exact SubL.refl _ | apply SubL.skip))
            · skip
              first | refine st (h := ?_) | refine stE (h := ?_)
              refine nx (h := ?_)
              refine one 11 (h := ?_)
              refine mks p.days.length (hx := by exact rfl) (hy := by exact rfl) (h := fun mC => ?_)
              rw [enI_rep8]
              refine nx (h := ?_)
              refine tk 16 (hy := (by first | exact fa | exact faE)) (h := ?_)
              refine one 17 (h := ?_)
              first | refine st (h := ?_) | refine stE (h := ?_)
              refine nx (h := ?_)
              refine dn (h := ?_)
              exact ctn (x := (mA, mB, mC)) trivial (by repeat (first | exact trivial | refine ⟨rfl, ?_⟩)) (by repeat (first | exact SubL.nil | (apply SubL.cons; (repeat (first | exact At.here | apply At.there))) | exact SubL.refl _ | apply SubL.skip))
        · skip
          refine mks p.days.length (hx := by exact rfl) (hy := by exact rfl) (h := fun mC => ?_)
          rw [enI_rep8]
          refine nx (h := ?_)
          refine one 3 (h := ?_)
          refine mks p.days.length (hx := by exact rfl) (hy := by exact rfl) (h := fun mA => ?_)
          rw [enI_rep8]
          refine nx (h := ?_)
          refine tk 12 (hy := (by first | exact fa | exact faE)) (h := ?_)
          refine one 13 (h := ?_)
          first | refine st (h := ?_) | refine stE (h := ?_)
          refine nx (h := ?_)
          refine tk 14 (hy := (by first | exact fa | exact faE)) (h := ?_)
          refine one 15 (h := ?_)
          first | refine st (h := ?_) | refine stE (h := ?_)
          refine nx (h := ?_)
          refine tk 16 (hy := (by first | exact fa | exact faE)) (h := ?_)
          refine one 17 (h := ?_)
          first | refine st (h := ?_) | refine stE (h := ?_)
          refine nx (h := ?_)
          refine dn (h := ?_)
          exact ctn (x := (mA, mB, mC)) trivial (by repeat (first | exact trivial | refine ⟨rfl, ?_⟩)) (by repeat (first | exact SubL.nil | (apply SubL.cons; (repeat (first | exact At.here | apply At.there))) | exact SubL.refl _ | apply SubL.skip))
      · skip
        refine mks p.days.length (hx := by exact rfl) (hy := by exact rfl) (h := fun mC => ?_)
        rw [enI_rep8]
        refine nx (h := ?_)
        refine two 3 7 (h1 := ?_) (h2 := ?_)
        · skip
          refine mks p.days.length (hx := by exact rfl) (hy := by exact rfl) (h := fun mA => ?_)
          rw [enI_rep8]
          refine nx (h := ?_)
          refine tk 12 (hy := (by first | exact fa | exact faE)) (h := ?_)
          refine two 7 13 (h1 := ?_) (h2 := ?_)
          · skip
            refine mks p.days.length (hx := by exact rfl) (hy := by exact rfl) (h := fun mB => ?_)
            rw [enI_rep8]
            refine nx (h := ?_)
            refine one 13 (h := ?_)
            first | refine st (h := ?_) | refine stE (h := ?_)
            refine nx (h := ?_)
            refine tk 14 (hy := (by first | exact fa | exact faE)) (h := ?_)
            refine one 15 (h := ?_)
            first | refine st (h := ?_) | refine stE (h := ?_)
            refine nx (h := ?_)
            refine tk 16 (hy := (by first | exact fa | exact faE)) (h := ?_)
            refine one 17 (h := ?_)
            first | refine st (h := ?_) | refine stE (h := ?_)
            refine nx (h := ?_)
            refine dn (h := ?_)
            exact ctn (x := (mA, mB, mC)) trivial (by repeat (first | exact trivial | refine ⟨rfl, ?_⟩)) (by repeat (first | exact SubL.nil | (apply SubL.cons; (repeat (first | exact At.here | apply At.there))) | exact SubL.refl _ | apply SubL.skip))
          · skip
            first | refine st (h := ?_) | refine stE (h := ?_)
            refine nx (h := ?_)
            refine one 7 (h := ?_)
            refine mks p.days.length (hx := by exact rfl) (hy := by exact rfl) (h := fun mB => ?_)
            rw [enI_rep8]
            refine nx (h := ?_)
            refine tk 14 (hy := (by first | exact fa | exact faE)) (h := ?_)
            refine one 15 (h := ?_)
            first | refine st (h := ?_) | refine stE (h := ?_)
            refine nx (h := ?_)
            refine tk 16 (hy := (by first | exact fa | exact faE)) (h := ?_)
            refine one 17 (h := ?_)
            first | refine st (h := ?_) | refine stE (h := ?_)
            refine nx (h := ?_)
            refine dn (h := ?_)
            exact ctn (x := (mA, mB, mC)) trivial (by repeat (first | exact trivial | refine ⟨rfl, ?_⟩)) (by repeat (first | exact SubL.nil | (apply SubL.cons; (repeat (first | exact At.here | apply At.there))) | exact SubL.refl _ | apply SubL.skip))
        · skip
          refine mks p.days.length (hx := by exact rfl) (hy := by exact rfl) (h := fun mB => ?_)
          rw [enI_rep8]
          refine nx (h := ?_)
          refine one 3 (h := ?_)
          refine mks p.days.length (hx := by exact rfl) (hy := by exact rfl) (h := fun mA => ?_)
          rw [enI_rep8]
          refine nx (h := ?_)
          refine tk 12 (hy := (by first | exact fa | exact faE)) (h := ?_)
          refine one 13 (h := ?_)
          first | refine st (h := ?_) | refine stE (h := ?_)
          refine nx (h := ?_)
          refine tk 14 (hy := (by first | exact fa | exact faE)) (h := ?_)
          refine one 15 (h := ?_)
          first | refine st (h := ?_) | refine stE (h := ?_)
          refine nx (h := ?_)
          refine tk 16 (hy := (by first | exact fa | exact faE)) (h := ?_)
          refine one 17 (h := ?_)
          first | refine st (h := ?_) | refine stE (h := ?_)
          refine nx (h := ?_)
          refine dn (h := ?_)
          exact ctn (x := (mA, mB, mC)) trivial (by repeat (first | exact trivial | refine ⟨rfl, ?_⟩)) (by repeat (first | exact SubL.nil | (apply SubL.cons; (repeat (first | exact At.here | apply At.there))) | exact SubL.refl _ | apply SubL.skip))
    rintro ⟨m1, m2, m3⟩ -
    refine sq (h := ?_)
    refine sq (h := ?_)
    refine rg (h := ?_)
    refine WL.y (hy := asg) (h := ?_)
    refine WL.cut (by repeat (first | exact Cut.nil | apply Cut.hit | apply Cut.miss (by exact rfl))) ?_
    refine nl (h := ?_)
    refine q_seq (h := ?_)
    refine bk (h := ?_)
    refine lp (X := LoZ) (I := fun z => z.k ≤ v.o.length ∧ LoI p.days.length z) (le := fun z => [(2, .slice lA n lc), (3, .pointer (some ⟨b0, 0, none⟩)), (4, .pointer (some ⟨b1, 0, none⟩)), (10, .pointer (some ⟨bl, 0, none⟩)), (11, .pointer (some ⟨bm, 0, none⟩)), (12, .pointer (some ⟨bh, 0, none⟩)), (13, .int .i64 z.k)]) (Le := fun z => [.blk bl 29 [.int .i64 v.t.short, .int .i64 v.t.long, .slice (some ⟨m1, 0, none⟩) p.days.length p.days.length], .blk bm 29 [.int .i64 v.t.short, .int .i64 v.t.long, .slice (some ⟨m2, 0, none⟩) p.days.length p.days.length], .blk bh 29 [.int .i64 v.t.short, .int .i64 v.t.long, .slice (some ⟨m3, 0, none⟩) p.days.length p.days.length], .own (some ⟨m1, 0, none⟩) p.days.length 3 1 p.days.length (enI z.a), .own (some ⟨m2, 0, none⟩) p.days.length 3 1 p.days.length (enI z.b), .own (some ⟨m3, 0, none⟩) p.days.length 3 1 p.days.length (enI z.c), .blk b0 25 p.cells, .blk b1 31 v.cells, .ro p.jA 6 p.jobs.length (encJb p.jobs), .ro v.oA 3 v.o.length (encSe v.o), .ro v.tA 1 v.tk.length (enI v.tk), .ro lA 4 n (encTk ts)]) (μ := fun z => v.o.length - z.k) ⟨0, List.replicate p.days.length 0, List.replicate p.days.length 0, List.replicate p.days.length 0⟩ ⟨Nat.zero_le _, LoI.start _⟩ (by repeat (first | exact trivial | refine ⟨rfl, ?_⟩)) (by repeat (first | exact SubL.nil | (apply SubL.cons; (repeat (first | exact At.here | apply At.there))) | exact SubL.refl _ | apply SubL.skip)) (fun z hz => ?_)
    obtain ⟨hzk, hzI⟩ := hz
    refine sq (h := ?_)
    refine sq (h := ?_)
    refine rg (h := ?_)
    refine WL.y (hy := mv) (h := ?_)
    refine WL.y (hy := (by first | exact fa | exact faE)) (h := ?_)
    refine WL.y (hy := (by first | exact ld | exact ldE)) (h := ?_)
    refine WL.y (hy := lenS) (h := ?_)
    refine WL.y (hy := lss) (h := ?_)
    refine nl (h := ?_)
    refine q_seq (h := ?_)
    refine cd (by exact rfl) (fun h6 => ?_) (fun h6 => ?_)
    · skip
      have hkn : z.k < v.o.length := by have := of_decide_eq_true h6; omega
      obtain ⟨s, hs⟩ : ∃ s, v.o[z.k]? = some s := ⟨_, List.getElem?_eq_getElem hkn⟩
      have hm := hO.at_ z.k s hkn hs
      have hmj := hm.job
      have hmd := hm.day
      obtain ⟨j, hj⟩ : ∃ j, p.jobs[s.job.toNat]? = some j := ⟨_, List.getElem?_eq_getElem (by omega)⟩
      have hjl := (hp.jb _ j (by omega) hj).len
      obtain ⟨t, ht⟩ : ∃ t, v.tk[s.job.toNat]? = some t := ⟨_, List.getElem?_eq_getElem (by omega)⟩
      have hte := enI_at ht
      have hla := hzI.n
      have hlb := hzI.ab.len
      have hlc := hzI.bc.len
      have ga := inM_get hzI.ia (i := s.day.toNat) (by omega)
      have gb := inM_get hzI.ib (i := s.day.toNat) (by omega)
      have gc := inM_get hzI.ic (i := s.day.toNat) (by omega)
      have ea := enI_at (getD_get (l := z.a) (i := s.day.toNat) (by omega))
      have eb := enI_at (getD_get (l := z.b) (i := s.day.toNat) (by omega))
      have ec := enI_at (getD_get (l := z.c) (i := s.day.toNat) (by omega))
      refine skp (h := ?_)
      refine q_seq (h := ?_)
      refine sq (h := ?_)
      refine bk (h := ?_)
      refine sq (h := ?_)
      refine rgD0 (by kernel_rfl) (h := ?_)
      refine tk 0 (hy := (by first | exact fa | exact faE)) (h := ?_)
      refine tk 1 (hy := (by first | exact ld | exact ldE)) (h := ?_)
      refine tk 2 (hy := mv) (h := ?_)
      refine tk 3 (hy := ix (A := v.oA) (m := v.o.length) (hb := by omega)) (h := ?_)
      refine tk 4 (hy := (by first | exact fa | exact faE)) (h := ?_)
      refine tk 5 (hy := ldE (A := v.oA) (hk := encSe_at hs)) (h := ?_)
      refine tk 6 (hy := (by first | exact fa | exact faE)) (h := ?_)
      refine tk 7 (hy := (by first | exact ld | exact ldE)) (h := ?_)
      refine tk 8 (hy := mv) (h := ?_)
      refine tk 9 (hy := ix (A := v.oA) (m := v.o.length) (hb := by omega)) (h := ?_)
      refine tk 10 (hy := (by first | exact fa | exact faE)) (h := ?_)
      refine tk 11 (hy := ldE (A := v.oA) (hk := encSe_at hs)) (h := ?_)
      refine tk 12 (hy := asg) (h := ?_)
      refine tk 13 (hy := asg) (h := ?_)
      refine dn (h := ?_)
      refine q_seq (h := ?_)
      refine sq (h := ?_)
      refine rg (h := ?_)
      refine WL.y (hy := (by first | exact fa | exact faE)) (h := ?_)
      refine WL.y (hy := (by first | exact ld | exact ldE)) (h := ?_)
      refine WL.y (hy := mv) (h := ?_)
      refine WL.y (hy := ix (A := p.jA) (m := p.jobs.length) (hb := by omega)) (h := ?_)
      refine WL.y (hy := (by first | exact fa | exact faE)) (h := ?_)
      refine WL.y (hy := ldEA (A := p.jA) (hk := encJb_at hj)) (h := ?_)
      refine al (h := fun b2 => ?_)
      first | refine stA (h := ?_) | refine stEA (h := ?_)
      refine nl (h := ?_)
      refine q_seq (h := ?_)
      refine sq (h := ?_)
      refine sq (h := ?_)
      refine rgD (by kernel_rfl) [(1000000, .blk b1 31 v.cells), (1000000, .blk b2 43 [.int .i64 j.len.1, .int .i64 j.len.2]), (1000000, .ro v.tA 1 v.tk.length (enI v.tk))] (by repeat (first | exact HS.nil | (apply HS.keep; (repeat (first | exact At.here | apply At.there))) | (apply HS.ro; (repeat (first | exact Rds.ro | exact Rds.own | apply Rds.there))))) (h := ?_)
      refine tk 0 (hy := (by first | exact fa | exact faE)) (h := ?_)
      refine tk 1 (hy := (by first | exact ld | exact ldE)) (h := ?_)
      refine tk 2 (hy := mv) (h := ?_)
      refine tk 3 (hy := ix (A := v.tA) (m := v.tk.length) (hb := by omega)) (h := ?_)
      refine tk 4 (hy := ldE (A := v.tA) (hk := hte)) (h := ?_)
      refine tk 5 (hy := (by first | exact fa | exact faE)) (h := ?_)
      refine tk 6 (hy := (by first | exact ld | exact ldE)) (h := ?_)
      refine tk 7 (hy := lss) (h := ?_)
      refine tk 8 (hy := mv) (h := ?_)
      refine brH (g := 119) (by exact rfl) (fun hb7 => ?_) (fun hb7 => ?_)
      · skip
        refine tkS 9 (h := ?_)
        refine tkS 10 (h := ?_)
        refine tkS 11 (h := ?_)
        refine tkS 12 (h := ?_)
        refine tkS 13 (h := ?_)
        refine tkS 14 (h := ?_)
        refine tkS 15 (h := ?_)
        refine tkS 16 (h := ?_)
        refine tk 17 (hy := (by first | exact pkT | exact pkF)) (h := ?_)
        refine dn (h := ?_)
        refine q_seq (h := ?_)
        refine cdT (h := ?_)
        refine sq (h := ?_)
        refine rg (h := ?_)
        refine cl0 (hc := fun w hS => C_top_admitted w) (h := ?_)
        refine WL.y (hy := asg) (h := ?_)
        refine WL.cut (by repeat (first | exact Cut.nil | apply Cut.hit | apply Cut.miss (by exact rfl))) ?_
        refine nl (h := ?_)
        refine q_seq (h := ?_)
        refine rtn (h := ?_)
        refine q_then_ret (h := ?_)
        refine q_blk_ret (h := ?_)
        refine q_then_ret (h := ?_)
        refine q_then_ret (h := ?_)
        refine q_blk_ret (h := ?_)
        refine q_then_ret (h := ?_)
        refine q_ret (hR := ?_)
        exact fun w hS => ⟨rfl, hS.sub .nil⟩
      · skip
        have ht1 := of_decide_eq_false hb7
        refine tk 9 (hy := (by first | exact fa | exact faE)) (h := ?_)
        refine tk 10 (hy := (by first | exact ld | exact ldE)) (h := ?_)
        refine tk 11 (hy := mv) (h := ?_)
        refine tk 12 (hy := ix (A := v.tA) (m := v.tk.length) (hb := by omega)) (h := ?_)
        refine tk 13 (hy := ldE (A := v.tA) (hk := hte)) (h := ?_)
        refine tk 14 (hy := (by first | exact fa | exact faE)) (h := ?_)
        refine tk 15 (hy := (by first | exact ld | exact ldE)) (h := ?_)
        refine tk 16 (hy := gtr) (h := ?_)
        refine tk 17 (hy := (by first | exact pkT | exact pkF)) (h := ?_)
        refine dn (h := ?_)
        refine q_seq (h := ?_)
        refine cd (by exact rfl) (fun h9 => ?_) (fun h9 => ?_)
        · skip
          refine sq (h := ?_)
          refine rg (h := ?_)
          refine cl0 (hc := fun w hS => C_top_admitted w) (h := ?_)
          refine WL.y (hy := asg) (h := ?_)
          refine WL.cut (by repeat (first | exact Cut.nil | apply Cut.hit | apply Cut.miss (by exact rfl))) ?_
          refine nl (h := ?_)
          refine q_seq (h := ?_)
          refine rtn (h := ?_)
          refine q_then_ret (h := ?_)
          refine q_blk_ret (h := ?_)
          refine q_then_ret (h := ?_)
          refine q_then_ret (h := ?_)
          refine q_blk_ret (h := ?_)
          refine q_then_ret (h := ?_)
          refine q_ret (hR := ?_)
          exact fun w hS => ⟨rfl, hS.sub .nil⟩
        · skip
          have ht2 := of_decide_eq_false h9
          have hzN := hzI.next s.day.toNat (u := j.len.1) (v := t) (y := j.len.2) (by omega) (by omega) (by omega)
          refine skp (h := ?_)
          refine q_seq (h := ?_)
          refine sq (h := ?_)
          refine rgD (by kernel_rfl) [(13, .own (some ⟨m1, 0, none⟩) p.days.length 3 1 p.days.length (enI z.a)), (1000000, .blk bl 29 [.int .i64 v.t.short, .int .i64 v.t.long, .slice (some ⟨m1, 0, none⟩) p.days.length p.days.length]), (1000000, .blk b2 43 [.int .i64 j.len.1, .int .i64 j.len.2])] (by repeat (first | exact HS.nil | (apply HS.keep; (repeat (first | exact At.here | apply At.there))) | (apply HS.ro; (repeat (first | exact Rds.ro | exact Rds.own | apply Rds.there))))) (h := ?_)
          refine tk 0 (hy := (by first | exact fa | exact faE)) (h := ?_)
          refine tk 1 (hy := (by first | exact ld | exact ldE)) (h := ?_)
          refine tk 2 (hy := mv) (h := ?_)
          refine tk 3 (hy := (by first | exact fa | exact faE)) (h := ?_)
          refine tk 4 (hy := (by first | exact ld | exact ldE)) (h := ?_)
          refine tk 5 (hy := mv) (h := ?_)
          refine tk 6 (hy := ix (A := some ⟨m1, 0, none⟩) (m := p.days.length) (hb := by omega)) (h := ?_)
          refine tk 7 (hy := ldE (A := some ⟨m1, 0, none⟩) (hk := ea)) (h := ?_)
          refine tk 8 (hy := (by first | exact fa | exact faE)) (h := ?_)
          refine tk 9 (hy := (by first | exact ld | exact ldE)) (h := ?_)
          refine tk 10 (hy := addI (hb := by omega)) (h := ?_)
          refine tk 11 (hy := minI) (h := ?_)
          refine one 12 (h := ?_)
          refine WL.y (hy := ix (A := some ⟨m1, 0, none⟩) (m := p.days.length) (hb := by omega)) (h := ?_)
          refine nx (h := ?_)
          refine one 13 (h := ?_)
          refine stE (A := some ⟨m1, 0, none⟩) (k := s.day.toNat) (j := 0) (hk := ea) (h := ?_)
          rw [enI_put8]
          refine nx (h := ?_)
          refine dn (h := ?_)
          refine q_seq (h := ?_)
          refine sq (h := ?_)
          refine rgD (by kernel_rfl) [(16, .own (some ⟨m2, 0, none⟩) p.days.length 3 1 p.days.length (enI z.b)), (1000000, .blk bm 29 [.int .i64 v.t.short, .int .i64 v.t.long, .slice (some ⟨m2, 0, none⟩) p.days.length p.days.length]), (1000000, .blk b1 31 v.cells), (1000000, .ro v.tA 1 v.tk.length (enI v.tk))] (by repeat (first | exact HS.nil | (apply HS.keep; (repeat (first | exact At.here | apply At.there))) | (apply HS.ro; (repeat (first | exact Rds.ro | exact Rds.own | apply Rds.there))))) (h := ?_)
          refine tk 0 (hy := (by first | exact fa | exact faE)) (h := ?_)
          refine tk 1 (hy := (by first | exact ld | exact ldE)) (h := ?_)
          refine tk 2 (hy := mv) (h := ?_)
          refine tk 3 (hy := (by first | exact fa | exact faE)) (h := ?_)
          refine tk 4 (hy := (by first | exact ld | exact ldE)) (h := ?_)
          refine tk 5 (hy := mv) (h := ?_)
          refine tk 6 (hy := ix (A := some ⟨m2, 0, none⟩) (m := p.days.length) (hb := by omega)) (h := ?_)
          refine tk 7 (hy := ldE (A := some ⟨m2, 0, none⟩) (hk := eb)) (h := ?_)
          refine tk 8 (hy := (by first | exact fa | exact faE)) (h := ?_)
          refine tk 9 (hy := (by first | exact ld | exact ldE)) (h := ?_)
          refine tk 10 (hy := mv) (h := ?_)
          refine tk 11 (hy := ix (A := v.tA) (m := v.tk.length) (hb := by omega)) (h := ?_)
          refine tk 12 (hy := ldE (A := v.tA) (hk := hte)) (h := ?_)
          refine tk 13 (hy := addI (hb := by omega)) (h := ?_)
          refine tk 14 (hy := minI) (h := ?_)
          refine one 15 (h := ?_)
          refine WL.y (hy := ix (A := some ⟨m2, 0, none⟩) (m := p.days.length) (hb := by omega)) (h := ?_)
          refine nx (h := ?_)
          refine one 16 (h := ?_)
          refine stE (A := some ⟨m2, 0, none⟩) (k := s.day.toNat) (j := 0) (hk := eb) (h := ?_)
          rw [enI_put8]
          refine nx (h := ?_)
          refine dn (h := ?_)
          refine q_seq (h := ?_)
          refine rgD (by kernel_rfl) [(13, .own (some ⟨m3, 0, none⟩) p.days.length 3 1 p.days.length (enI z.c)), (1000000, .blk bh 29 [.int .i64 v.t.short, .int .i64 v.t.long, .slice (some ⟨m3, 0, none⟩) p.days.length p.days.length]), (1000000, .blk b2 43 [.int .i64 j.len.1, .int .i64 j.len.2])] (by repeat (first | exact HS.nil | (apply HS.keep; (repeat (first | exact At.here | apply At.there))) | (apply HS.ro; (repeat (first | exact Rds.ro | exact Rds.own | apply Rds.there))))) (h := ?_)
          refine tk 0 (hy := (by first | exact fa | exact faE)) (h := ?_)
          refine tk 1 (hy := (by first | exact ld | exact ldE)) (h := ?_)
          refine tk 2 (hy := mv) (h := ?_)
          refine tk 3 (hy := (by first | exact fa | exact faE)) (h := ?_)
          refine tk 4 (hy := (by first | exact ld | exact ldE)) (h := ?_)
          refine tk 5 (hy := mv) (h := ?_)
          refine tk 6 (hy := ix (A := some ⟨m3, 0, none⟩) (m := p.days.length) (hb := by omega)) (h := ?_)
          refine tk 7 (hy := ldE (A := some ⟨m3, 0, none⟩) (hk := ec)) (h := ?_)
          refine tk 8 (hy := (by first | exact fa | exact faE)) (h := ?_)
          refine tk 9 (hy := (by first | exact ld | exact ldE)) (h := ?_)
          refine tk 10 (hy := addI (hb := by omega)) (h := ?_)
          refine tk 11 (hy := minI) (h := ?_)
          refine one 12 (h := ?_)
          refine WL.y (hy := ix (A := some ⟨m3, 0, none⟩) (m := p.days.length) (hb := by omega)) (h := ?_)
          refine nx (h := ?_)
          refine one 13 (h := ?_)
          refine stE (A := some ⟨m3, 0, none⟩) (k := s.day.toNat) (j := 0) (hk := ec) (h := ?_)
          rw [enI_put8]
          refine nx (h := ?_)
          refine dn (h := ?_)
          refine q_blk_norm (h := ?_)
          refine q_seq (h := ?_)
          refine rg (h := ?_)
          refine WL.y (hy := mv) (h := ?_)
          refine WL.y (hy := addI) (h := ?_)
          refine WL.y (hy := asg) (h := ?_)
          refine WL.cut (by repeat (first | exact Cut.nil | apply Cut.hit | apply Cut.miss (by exact rfl))) ?_
          refine nl (h := ?_)
          refine rn (x := z) ⟨z.k + 1, addM z.a s.day.toNat j.len.1, addM z.b s.day.toNat t, addM z.c s.day.toNat j.len.2⟩ ⟨hkn, hzN⟩ (by dsimp only; omega) (by repeat (first | exact trivial | refine ⟨rfl, ?_⟩)) (by repeat (first | exact SubL.nil | (apply SubL.cons; (repeat (first | exact At.here | apply At.there))) | exact SubL.refl _ | apply SubL.skip))
    · skip
      have hla := hzI.n
      have hlb := hzI.ab.len
      have hlc := hzI.bc.len
      refine et (h := ?_)
      refine q_then_exit (h := ?_)
      refine q_then_exit (h := ?_)
      refine q_blk_hit (h := ?_)
      refine q_seq (h := ?_)
      refine sq (h := ?_)
      refine sq (h := ?_)
      refine rg (h := ?_)
      refine WL.y (hy := (by first | exact ldA | exact ldEA)) (h := ?_)
      refine WL.y (hy := mv) (h := ?_)
      refine cl0 (hc := fun w hS => C_ref11_CheckT v.t.short v.t.long z.b ts (some ⟨m2, 0, none⟩) lA p.days.length n p.days.length lc (by omega) hlt (by omega) (by omega) w (hS.get (by repeat (first | exact Rds.ro | exact Rds.own | apply Rds.there))) (hS.get (by repeat (first | exact Rds.ro | exact Rds.own | apply Rds.there)))) (h := ?_)
      refine WL.y (hy := neq) (h := ?_)
      refine nl (h := ?_)
      refine q_seq (h := ?_)
      refine cd (by exact rfl) (fun h10 => ?_) (fun h10 => ?_)
      · skip
        refine sq (h := ?_)
        refine rg (h := ?_)
        refine cl0 (hc := fun w hS => C_top_admitted w) (h := ?_)
        refine WL.y (hy := asg) (h := ?_)
        refine WL.cut (by repeat (first | exact Cut.nil | apply Cut.hit | apply Cut.miss (by exact rfl))) ?_
        refine nl (h := ?_)
        refine q_seq (h := ?_)
        refine rtn (h := ?_)
        refine q_then_ret (h := ?_)
        refine q_ret (hR := ?_)
        exact fun w hS => ⟨rfl, hS.sub .nil⟩
      · skip
        have haB : areT ⟨v.t.short, v.t.long, z.b⟩ ts = true := by
          have g9 := h10
          rw [Bool.not_eq_false', decide_eq_true_eq, chkT] at g9
          cases e : areT ⟨v.t.short, v.t.long, z.b⟩ ts
          · rw [e] at g9; cases g9
          · rfl
        have haA := are_swap haB (b := z.a) (by omega) hzI.ia
        have haC := are_swap haB (b := z.c) (by omega) hzI.ic
        refine skp (h := ?_)
        refine q_seq (h := ?_)
        refine sq (h := ?_)
        refine rg (h := ?_)
        refine WL.y (hy := (by first | exact ldA | exact ldEA)) (h := ?_)
        refine WL.y (hy := mv) (h := ?_)
        refine cl (hc := fun w hS => C_gate_RefundT v.t.short v.t.long z.a ts (some ⟨m1, 0, none⟩) lA p.days.length n p.days.length lc (by omega) hlt (by omega) (by omega) haA w (hS.get (by repeat (first | exact Rds.ro | exact Rds.own | apply Rds.there))) (hS.get (by repeat (first | exact Rds.ro | exact Rds.own | apply Rds.there)))) (h := fun r1 _ => ?_)
        refine WL.y (hy := mv) (h := ?_)
        refine WL.y (hy := ex) (h := ?_)
        refine WL.y (hy := ex) (h := ?_)
        refine WL.y (hy := asg) (h := ?_)
        refine WL.y (hy := asg) (h := ?_)
        refine nl (h := ?_)
        refine q_seq (h := ?_)
        refine sq (h := ?_)
        refine rg (h := ?_)
        refine WL.y (hy := (by first | exact ldA | exact ldEA)) (h := ?_)
        refine WL.y (hy := mv) (h := ?_)
        refine cl (hc := fun w hS => C_gate_RefundT v.t.short v.t.long z.b ts (some ⟨m2, 0, none⟩) lA p.days.length n p.days.length lc (by omega) hlt (by omega) (by omega) haB w (hS.get (by repeat (first | exact Rds.ro | exact Rds.own | apply Rds.there))) (hS.get (by repeat (first | exact Rds.ro | exact Rds.own | apply Rds.there)))) (h := fun r2 _ => ?_)
        refine WL.y (hy := mv) (h := ?_)
        refine WL.y (hy := ex) (h := ?_)
        refine WL.y (hy := ex) (h := ?_)
        refine WL.y (hy := asg) (h := ?_)
        refine WL.y (hy := asg) (h := ?_)
        refine nl (h := ?_)
        refine q_seq (h := ?_)
        refine sq (h := ?_)
        refine rg (h := ?_)
        refine WL.y (hy := (by first | exact ldA | exact ldEA)) (h := ?_)
        refine WL.y (hy := mv) (h := ?_)
        refine cl (hc := fun w hS => C_gate_RefundT v.t.short v.t.long z.c ts (some ⟨m3, 0, none⟩) lA p.days.length n p.days.length lc (by omega) hlt (by omega) (by omega) haC w (hS.get (by repeat (first | exact Rds.ro | exact Rds.own | apply Rds.there))) (hS.get (by repeat (first | exact Rds.ro | exact Rds.own | apply Rds.there)))) (h := fun r3 _ => ?_)
        refine WL.y (hy := mv) (h := ?_)
        refine WL.y (hy := ex) (h := ?_)
        refine WL.y (hy := ex) (h := ?_)
        refine WL.y (hy := asg) (h := ?_)
        refine WL.y (hy := asg) (h := ?_)
        refine nl (h := ?_)
        refine q_seq (h := ?_)
        refine sq (h := ?_)
        refine sq (h := ?_)
        refine rg (h := ?_)
        refine WL.y (hy := mv) (h := ?_)
        refine WL.y (hy := neq) (h := ?_)
        refine WL.y (hy := mv) (h := ?_)
        apply brOr 3 197 200 (by exact rfl)
        · intro hb11
          refine un (h := ?_)
          refine WL.y (hy := mv) (h := ?_)
          refine un (h := ?_)
          refine WL.y (hy := neq) (h := ?_)
          refine WL.y (hy := (by first | exact pkT | exact pkF)) (h := ?_)
          exact mg (by repeat (first | exact trivial | refine ⟨rfl, ?_⟩ | refine ⟨by rw [hb11]; rfl, ?_⟩)) (by repeat (first | exact SubL.nil | (apply SubL.cons; (repeat (first | exact At.here | apply At.there))) | exact SubL.refl _ | apply SubL.skip))
        · intro hb11
          repeat (first | refine un (h := ?_) | refine sk (h := ?_) | refine WL.y (hy := pkF) (h := ?_) | refine WL.y (hy := pkT) (h := ?_))
          exact mg (by repeat (first | exact trivial | refine ⟨rfl, ?_⟩ | refine ⟨by rw [hb11]; rfl, ?_⟩)) (by repeat (first | exact SubL.nil | (apply SubL.cons; (repeat (first | exact At.here | apply At.there))) | exact SubL.refl _ | apply SubL.skip))
        refine WL.y (hy := mv) (h := ?_)
        apply brOr 3 201 204 (by exact rfl)
        · intro hb12
          refine un (h := ?_)
          refine WL.y (hy := mv) (h := ?_)
          refine un (h := ?_)
          refine WL.y (hy := neq) (h := ?_)
          refine WL.y (hy := (by first | exact pkT | exact pkF)) (h := ?_)
          exact mg (by repeat (first | exact trivial | refine ⟨rfl, ?_⟩ | refine ⟨by rw [hb12]; rfl, ?_⟩)) (by repeat (first | exact SubL.nil | (apply SubL.cons; (repeat (first | exact At.here | apply At.there))) | exact SubL.refl _ | apply SubL.skip))
        · intro hb12
          repeat (first | refine un (h := ?_) | refine sk (h := ?_) | refine WL.y (hy := pkF) (h := ?_) | refine WL.y (hy := pkT) (h := ?_))
          exact mg (by repeat (first | exact trivial | refine ⟨rfl, ?_⟩ | refine ⟨by rw [hb12]; rfl, ?_⟩)) (by repeat (first | exact SubL.nil | (apply SubL.cons; (repeat (first | exact At.here | apply At.there))) | exact SubL.refl _ | apply SubL.skip))
        refine WL.y (hy := mv) (h := ?_)
        apply brOr 6 205 211 (by exact rfl)
        · intro hb13
          refine un (h := ?_)
          refine WL.y (hy := mv) (h := ?_)
          refine un (h := ?_)
          refine WL.y (hy := lenS) (h := ?_)
          refine un (h := ?_)
          refine WL.y (hy := mv) (h := ?_)
          refine un (h := ?_)
          refine WL.y (hy := lenS) (h := ?_)
          refine un (h := ?_)
          refine WL.y (hy := neq) (h := ?_)
          refine WL.y (hy := (by first | exact pkT | exact pkF)) (h := ?_)
          exact mg (by repeat (first | exact trivial | refine ⟨rfl, ?_⟩ | refine ⟨by rw [hb13]; rfl, ?_⟩)) (by repeat (first | exact SubL.nil | (apply SubL.cons; (repeat (first | exact At.here | apply At.there))) | exact SubL.refl _ | apply SubL.skip))
        · intro hb13
          repeat (first | refine un (h := ?_) | refine sk (h := ?_) | refine WL.y (hy := pkF) (h := ?_) | refine WL.y (hy := pkT) (h := ?_))
          exact mg (by repeat (first | exact trivial | refine ⟨rfl, ?_⟩ | refine ⟨by rw [hb13]; rfl, ?_⟩)) (by repeat (first | exact SubL.nil | (apply SubL.cons; (repeat (first | exact At.here | apply At.there))) | exact SubL.refl _ | apply SubL.skip))
        refine WL.y (hy := mv) (h := ?_)
        apply brOr 6 212 218 (by exact rfl)
        · intro hb14
          refine un (h := ?_)
          refine WL.y (hy := mv) (h := ?_)
          refine un (h := ?_)
          refine WL.y (hy := lenS) (h := ?_)
          refine un (h := ?_)
          refine WL.y (hy := mv) (h := ?_)
          refine un (h := ?_)
          refine WL.y (hy := lenS) (h := ?_)
          refine un (h := ?_)
          refine WL.y (hy := neq) (h := ?_)
          refine WL.y (hy := (by first | exact pkT | exact pkF)) (h := ?_)
          exact mg (by repeat (first | exact trivial | refine ⟨rfl, ?_⟩ | refine ⟨by rw [hb14]; rfl, ?_⟩)) (by repeat (first | exact SubL.nil | (apply SubL.cons; (repeat (first | exact At.here | apply At.there))) | exact SubL.refl _ | apply SubL.skip))
        · intro hb14
          repeat (first | refine un (h := ?_) | refine sk (h := ?_) | refine WL.y (hy := pkF) (h := ?_) | refine WL.y (hy := pkT) (h := ?_))
          exact mg (by repeat (first | exact trivial | refine ⟨rfl, ?_⟩ | refine ⟨by rw [hb14]; rfl, ?_⟩)) (by repeat (first | exact SubL.nil | (apply SubL.cons; (repeat (first | exact At.here | apply At.there))) | exact SubL.refl _ | apply SubL.skip))
        refine WL.y (hy := mv) (h := ?_)
        apply brOr 6 219 225 (by exact rfl)
        · intro hb15
          refine un (h := ?_)
          refine WL.y (hy := mv) (h := ?_)
          refine un (h := ?_)
          refine WL.y (hy := lenS) (h := ?_)
          refine un (h := ?_)
          refine WL.y (hy := mv) (h := ?_)
          refine un (h := ?_)
          refine WL.y (hy := lenS) (h := ?_)
          refine un (h := ?_)
          refine WL.y (hy := neq) (h := ?_)
          refine WL.y (hy := (by first | exact pkT | exact pkF)) (h := ?_)
          exact mg (by repeat (first | exact trivial | refine ⟨rfl, ?_⟩ | refine ⟨by rw [hb15]; rfl, ?_⟩)) (by repeat (first | exact SubL.nil | (apply SubL.cons; (repeat (first | exact At.here | apply At.there))) | exact SubL.refl _ | apply SubL.skip))
        · intro hb15
          repeat (first | refine un (h := ?_) | refine sk (h := ?_) | refine WL.y (hy := pkF) (h := ?_) | refine WL.y (hy := pkT) (h := ?_))
          exact mg (by repeat (first | exact trivial | refine ⟨rfl, ?_⟩ | refine ⟨by rw [hb15]; rfl, ?_⟩)) (by repeat (first | exact SubL.nil | (apply SubL.cons; (repeat (first | exact At.here | apply At.there))) | exact SubL.refl _ | apply SubL.skip))
        refine nl (h := ?_)
        refine q_seq (h := ?_)
        refine cd (by exact rfl) (fun h16 => ?_) (fun h16 => ?_)
        · skip
          have h0 := h16
          simp at h0
        · skip
          refine skp (h := ?_)
          refine q_seq (h := ?_)
          refine sq (h := ?_)
          refine sq (h := ?_)
          refine rg (h := ?_)
          refine WL.y (hy := asg) (h := ?_)
          refine WL.cut (by repeat (first | exact Cut.nil | apply Cut.hit | apply Cut.miss (by exact rfl))) ?_
          refine nl (h := ?_)
          refine q_seq (h := ?_)
          refine bk (h := ?_)
          refine lp (X := Nat) (I := fun k => k ≤ n) (le := fun k => [(2, .slice lA n lc), (17, .slice r1.1 n r1.2), (19, .slice r2.1 n r2.2), (21, .slice r3.1 n r3.2), (23, .int .i64 k)]) (Le := fun _ => [.own r1.1 r1.2 3 1 n (enI (rfsV ⟨v.t.short, v.t.long, z.a⟩ ts)), .own r2.1 r2.2 3 1 n (enI (rfsV ⟨v.t.short, v.t.long, z.b⟩ ts)), .own r3.1 r3.2 3 1 n (enI (rfsV ⟨v.t.short, v.t.long, z.c⟩ ts))]) (μ := fun k => n - k) 0 (Nat.zero_le _) (by repeat (first | exact trivial | refine ⟨rfl, ?_⟩)) (by repeat (first | exact SubL.nil | (apply SubL.cons; (repeat (first | exact At.here | apply At.there))) | exact SubL.refl _ | apply SubL.skip)) (fun k hk => ?_)
          refine sq (h := ?_)
          refine sq (h := ?_)
          refine rg (h := ?_)
          refine WL.y (hy := mv) (h := ?_)
          refine WL.y (hy := mv) (h := ?_)
          refine WL.y (hy := lenS) (h := ?_)
          refine WL.y (hy := lss) (h := ?_)
          refine nl (h := ?_)
          refine q_seq (h := ?_)
          refine cd (by exact rfl) (fun h17 => ?_) (fun h17 => ?_)
          · skip
            have hkn : k < n := by have := of_decide_eq_true h17; omega
            obtain ⟨y1, hy1⟩ : ∃ y, (rfsV ⟨v.t.short, v.t.long, z.a⟩ ts)[k]? = some y := ⟨_, List.getElem?_eq_getElem (by rw [rfs_len]; omega)⟩
            obtain ⟨y2, hy2⟩ : ∃ y, (rfsV ⟨v.t.short, v.t.long, z.b⟩ ts)[k]? = some y := ⟨_, List.getElem?_eq_getElem (by rw [rfs_len]; omega)⟩
            obtain ⟨y3, hy3⟩ : ∃ y, (rfsV ⟨v.t.short, v.t.long, z.c⟩ ts)[k]? = some y := ⟨_, List.getElem?_eq_getElem (by rw [rfs_len]; omega)⟩
            have l21 := rfs_le haA hzI.ab hy1 hy2
            have l32 := rfs_le haB hzI.bc hy2 hy3
            have e1 := enI_at hy1
            have e2 := enI_at hy2
            have e3 := enI_at hy3
            refine skp (h := ?_)
            refine q_seq (h := ?_)
            refine sq (h := ?_)
            refine bk (h := ?_)
            refine sq (h := ?_)
            refine rgD0 (by kernel_rfl) (h := ?_)
            refine tk 0 (hy := mv) (h := ?_)
            refine tk 1 (hy := mv) (h := ?_)
            refine tk 2 (hy := ix (A := r2.1) (m := n) (hb := by omega)) (h := ?_)
            refine tk 3 (hy := ldE (A := r2.1) (hk := e2)) (h := ?_)
            refine tk 4 (hy := mv) (h := ?_)
            refine tk 5 (hy := mv) (h := ?_)
            refine tk 6 (hy := ix (A := r1.1) (m := n) (hb := by omega)) (h := ?_)
            refine tk 7 (hy := ldE (A := r1.1) (hk := e1)) (h := ?_)
            refine tk 8 (hy := (Yd.fl (gtr) (by refine decide_eq_false ?_; omega))) (h := ?_)
            refine tk 9 (hy := mv) (h := ?_)
            refine tk 10 (hy := mv) (h := ?_)
            refine tk 11 (hy := mv) (h := ?_)
            refine tk 12 (hy := ix (A := r2.1) (m := n) (hb := by omega)) (h := ?_)
            refine tk 13 (hy := ldE (A := r2.1) (hk := e2)) (h := ?_)
            refine tk 14 (hy := mv) (h := ?_)
            refine tk 15 (hy := mv) (h := ?_)
            refine tk 16 (hy := ix (A := r3.1) (m := n) (hb := by omega)) (h := ?_)
            refine tk 17 (hy := ldE (A := r3.1) (hk := e3)) (h := ?_)
            refine tk 18 (hy := (Yd.fl (lss) (by refine decide_eq_false ?_; omega))) (h := ?_)
            refine tk 19 (hy := (by first | exact pkT | exact pkF)) (h := ?_)
            refine dn (h := ?_)
            refine q_seq (h := ?_)
            refine cdF (h := ?_)
            refine skp (h := ?_)
            refine q_blk_norm (h := ?_)
            refine q_seq (h := ?_)
            refine rg (h := ?_)
            refine WL.y (hy := mv) (h := ?_)
            refine WL.y (hy := addI) (h := ?_)
            refine WL.y (hy := asg) (h := ?_)
            refine WL.cut (by repeat (first | exact Cut.nil | apply Cut.hit | apply Cut.miss (by exact rfl))) ?_
            refine nl (h := ?_)
            refine rn (x := k) (k + 1) hkn (by omega) (by repeat (first | exact trivial | refine ⟨rfl, ?_⟩)) (by repeat (first | exact SubL.nil | (apply SubL.cons; (repeat (first | exact At.here | apply At.there))) | exact SubL.refl _ | apply SubL.skip))
          · skip
            refine et (h := ?_)
            refine q_then_exit (h := ?_)
            refine q_then_exit (h := ?_)
            refine q_blk_hit (h := ?_)
            refine q_seq (h := ?_)
            refine sq (h := ?_)
            refine rg (h := ?_)
            refine cl0 (hc := fun w hS => C_top_admitted w) (h := ?_)
            refine WL.y (hy := asg) (h := ?_)
            refine WL.cut (by repeat (first | exact Cut.nil | apply Cut.hit | apply Cut.miss (by exact rfl))) ?_
            refine nl (h := ?_)
            refine q_seq (h := ?_)
            refine rtn (h := ?_)
            refine q_ret (hR := ?_)
            exact fun w hS => ⟨rfl, hS.sub .nil⟩
end Go.Proofs.Ytngelilffleimaa
