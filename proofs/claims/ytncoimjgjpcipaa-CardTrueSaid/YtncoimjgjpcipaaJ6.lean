/- The texts of the walk, part 6. -/
import Derived.Test.YtncoimjgjpcipaaJ5
namespace Go.Proofs.Ytncoimjgjpcipaa
open Go Go.RowKit

def tstV (s : Sc) (x : Nt) : Bool := bif decide (x.kind = 3) then decide (s.p = x.pair) else bif decide (x.kind = 4) then decide (s.g = x.pair) && decide (s.p = (0, 0)) else
  bif decide (x.kind = 5) then decide (wonV s.st = x.pair) && (decide (s.g = (0, 0)) && decide (s.p = (0, 0))) else bif decide (x.kind = 6) then decide (0 ≤ s.server) && decide (s.server % 2 = x.side) else bif decide (x.kind = 7) then decide (s.winner = x.side) else false
set_option maxRecDepth 100000 in
theorem C_ref3_True (s : Sc) (A : Option Addr) (c : Nat) (x : Nt) (w : World) (h : Rd w A 2 s.st.length (encP s.st)) (hn : s.st.length ≤ 1000000) : C0 Try.prog 20 [s.val A c, x.val] w (.bool (tstV s x)) := by
  refine ⟨en Try.func20 Try.ntmps20 ((St.init w).share (e := .ro A 2 s.st.length (encP s.st)) h rfl rfl rfl) (h := fun F => ?_)⟩
  refine sq (h := ?_)
  refine rg (h := ?_)
  refine bxA (h := fun b0 => ?_)
  refine bxA (h := fun b1 => ?_)
  refine WL.y (hy := asg) (h := ?_)
  refine WL.cut (by repeat (first | exact Cut.nil | apply Cut.hit | apply Cut.miss (by exact rfl))) ?_
  refine nl (h := ?_)
  refine q_seq (h := ?_)
  refine sq (h := ?_)
  refine rg (h := ?_)
  refine WL.y (hy := (by first | exact fa | exact faE)) (h := ?_)
  refine WL.y (hy := (by first | exact ldA | exact ldEA)) (h := ?_)
  refine al (h := fun b2 => ?_)
  first | refine stA (h := ?_) | refine stEA (h := ?_)
  refine nl (h := ?_)
  refine q_seq (h := ?_)
  refine sq (h := ?_)
  refine rg (h := ?_)
  refine WL.y (hy := (by first | exact fa | exact faE)) (h := ?_)
  refine WL.y (hy := (by first | exact ldA | exact ldEA)) (h := ?_)
  refine WL.y (hy := bd) (h := ?_)
  refine WL.y (hy := eqlT) (h := ?_)
  refine WL.y (hy := asg) (h := ?_)
  refine nl (h := ?_)
  refine q_seq (h := ?_)
  refine sq (h := ?_)
  refine sq (h := ?_)
  refine rg (h := ?_)
  refine WL.y (hy := (by first | exact fa | exact faE)) (h := ?_)
  refine WL.y (hy := (by first | exact ld | exact ldE)) (h := ?_)
  refine nl (h := ?_)
  refine q_seq (h := ?_)
  refine bk (h := ?_)
  refine sq (h := ?_)
  refine rg (h := ?_)
  refine WL.y (hy := eql) (h := ?_)
  refine WL.y (hy := asg) (h := ?_)
  refine nl (h := ?_)
  refine q_seq (h := ?_)
  refine cd (by exact rfl) (fun h0 => ?_) (fun h0 => ?_)
  · skip
    have k3 : x.kind = 3 := of_decide_eq_true h0
    refine sq (h := ?_)
    refine rg (h := ?_)
    refine WL.y (hy := (by first | exact fa | exact faE)) (h := ?_)
    refine WL.y (hy := (by first | exact ldA | exact ldEA)) (h := ?_)
    refine WL.y (hy := (by first | exact fa | exact faE)) (h := ?_)
    refine WL.y (hy := (by first | exact ldA | exact ldEA)) (h := ?_)
    refine WL.y (hy := eqlT) (h := ?_)
    refine WL.y (hy := asg) (h := ?_)
    refine WL.cut (by repeat (first | exact Cut.nil | apply Cut.hit | apply Cut.miss (by exact rfl))) ?_
    refine nl (h := ?_)
    refine q_seq (h := ?_)
    refine rtn (h := ?_)
    refine q_blk_ret (h := ?_)
    refine q_then_ret (h := ?_)
    refine q_ret (hR := ?_)
    refine fun w hS => ⟨?_, hS.sub (by repeat (first | exact SubL.nil | (apply SubL.cons; (repeat (first | exact At.here | apply At.there))) | exact SubL.refl _ | apply SubL.skip))⟩
    clear hS
    clear h
    simp_all [tstV, Prod.ext_iff, resV, Bool.and_assoc]
  · skip
    have k3 : ¬ x.kind = 3 := of_decide_eq_false h0
    refine sq (h := ?_)
    refine rg (h := ?_)
    refine WL.y (hy := eql) (h := ?_)
    refine WL.y (hy := asg) (h := ?_)
    refine nl (h := ?_)
    refine q_seq (h := ?_)
    refine cd (by exact rfl) (fun h1 => ?_) (fun h1 => ?_)
    · skip
      have k4 : x.kind = 4 := of_decide_eq_true h1
      refine sq (h := ?_)
      refine rg (h := ?_)
      refine WL.y (hy := (by first | exact fa | exact faE)) (h := ?_)
      refine WL.y (hy := (by first | exact ldA | exact ldEA)) (h := ?_)
      refine WL.y (hy := (by first | exact fa | exact faE)) (h := ?_)
      refine WL.y (hy := (by first | exact ldA | exact ldEA)) (h := ?_)
      refine WL.y (hy := eqlT) (h := ?_)
      refine WL.y (hy := mv) (h := ?_)
      apply brAnd 2 29 31 (by exact rfl)
      · intro hb2
        refine un (h := ?_)
        refine WL.y (hy := mv) (h := ?_)
        refine WL.y (hy := (by first | exact pkT | exact pkF)) (h := ?_)
        exact mg (by repeat (first | exact trivial | refine ⟨rfl, ?_⟩ | refine ⟨by rw [hb2]; rfl, ?_⟩)) (by repeat (first | exact SubL.nil | (apply SubL.cons; (repeat (first | exact At.here | apply At.there))) | exact SubL.refl _ | apply SubL.skip))
      · intro hb2
        repeat (first | refine un (h := ?_) | refine sk (h := ?_) | refine WL.y (hy := pkF) (h := ?_) | refine WL.y (hy := pkT) (h := ?_))
        exact mg (by repeat (first | exact trivial | refine ⟨rfl, ?_⟩ | refine ⟨by rw [hb2]; rfl, ?_⟩)) (by repeat (first | exact SubL.nil | (apply SubL.cons; (repeat (first | exact At.here | apply At.there))) | exact SubL.refl _ | apply SubL.skip))
      refine WL.y (hy := asg) (h := ?_)
      refine WL.cut (by repeat (first | exact Cut.nil | apply Cut.hit | apply Cut.miss (by exact rfl))) ?_
      refine nl (h := ?_)
      refine q_seq (h := ?_)
      refine rtn (h := ?_)
      refine q_blk_ret (h := ?_)
      refine q_then_ret (h := ?_)
      refine q_ret (hR := ?_)
      refine fun w hS => ⟨?_, hS.sub (by repeat (first | exact SubL.nil | (apply SubL.cons; (repeat (first | exact At.here | apply At.there))) | exact SubL.refl _ | apply SubL.skip))⟩
      clear hS
      clear h
      simp_all [tstV, Prod.ext_iff, resV, Bool.and_assoc]
    · skip
      have k4 : ¬ x.kind = 4 := of_decide_eq_false h1
      refine sq (h := ?_)
      refine rg (h := ?_)
      refine WL.y (hy := eql) (h := ?_)
      refine WL.y (hy := asg) (h := ?_)
      refine nl (h := ?_)
      refine q_seq (h := ?_)
      refine cd (by exact rfl) (fun h3 => ?_) (fun h3 => ?_)
      · skip
        have k5 : x.kind = 5 := of_decide_eq_true h3
        refine sq (h := ?_)
        refine rgD (by kernel_rfl) [(1000000, .blk b0 55 (s.cells A c)), (1000000, .blk b1 40 x.cells), (1000000, .blk b2 44 [.slice A s.st.length c, .int .i64 s.g.1, .int .i64 s.g.2, .int .i64 s.p.1, .int .i64 s.p.2])] (by repeat (first | exact HS.nil | (apply HS.keep; (repeat (first | exact At.here | apply At.there))) | (apply HS.ro; (repeat (first | exact Rds.ro | exact Rds.own | apply Rds.there))))) (h := ?_)
        refine tk 0 (hy := (by first | exact fa | exact faE)) (h := ?_)
        refine tk 1 (hy := (by first | exact ld | exact ldE)) (h := ?_)
        refine tk 3 (hy := (by first | exact fa | exact faE)) (h := ?_)
        refine tk 4 (hy := (by first | exact ldA | exact ldEA)) (h := ?_)
        refine one 2 (h := ?_)
        refine cl0 (hc := fun w hS => C_ref1_Won s.st A s.st.length c w (hS.get (by repeat (first | exact Rds.ro | exact Rds.own | apply Rds.there))) hn) (h := ?_)
        refine nx (h := ?_)
        refine tk 5 (hy := eqlT) (h := ?_)
        refine tk 6 (hy := mv) (h := ?_)
        refine brH (g := 40) (by exact rfl) (fun hb4 => ?_) (fun hb4 => ?_)
        · skip
          refine tk 7 (hy := (by first | exact fa | exact faE)) (h := ?_)
          refine tk 8 (hy := (by first | exact ldA | exact ldEA)) (h := ?_)
          refine tk 9 (hy := bd) (h := ?_)
          refine tk 10 (hy := eqlT) (h := ?_)
          refine tk 11 (hy := (by first | exact pkT | exact pkF)) (h := ?_)
          refine tk 12 (hy := mv) (h := ?_)
          refine brH (g := 46) (by exact rfl) (fun hb5 => ?_) (fun hb5 => ?_)
          · skip
            refine tk 13 (hy := mv) (h := ?_)
            refine tk 14 (hy := (by first | exact pkT | exact pkF)) (h := ?_)
            refine tk 15 (hy := asg) (h := ?_)
            refine dn (h := ?_)
            refine q_seq (h := ?_)
            refine rtn (h := ?_)
            refine q_blk_ret (h := ?_)
            refine q_then_ret (h := ?_)
            refine q_ret (hR := ?_)
            refine fun w hS => ⟨?_, hS.sub (by repeat (first | exact SubL.nil | (apply SubL.cons; (repeat (first | exact At.here | apply At.there))) | exact SubL.refl _ | apply SubL.skip))⟩
            clear hS
            clear h
            simp_all [tstV, Prod.ext_iff, resV, Bool.and_assoc]
          · skip
            refine tkS 13 (h := ?_)
            refine tk 14 (hy := (by first | exact pkT | exact pkF)) (h := ?_)
            refine tk 15 (hy := asg) (h := ?_)
            refine dn (h := ?_)
            refine q_seq (h := ?_)
            refine rtn (h := ?_)
            refine q_blk_ret (h := ?_)
            refine q_then_ret (h := ?_)
            refine q_ret (hR := ?_)
            refine fun w hS => ⟨?_, hS.sub (by repeat (first | exact SubL.nil | (apply SubL.cons; (repeat (first | exact At.here | apply At.there))) | exact SubL.refl _ | apply SubL.skip))⟩
            clear hS
            clear h
            simp_all [tstV, Prod.ext_iff, resV, Bool.and_assoc]
        · skip
          refine tkS 7 (h := ?_)
          refine tkS 8 (h := ?_)
          refine tkS 9 (h := ?_)
          refine tkS 10 (h := ?_)
          refine tk 11 (hy := (by first | exact pkT | exact pkF)) (h := ?_)
          refine tk 12 (hy := mv) (h := ?_)
          refine tkS 13 (h := ?_)
          refine tk 14 (hy := (by first | exact pkT | exact pkF)) (h := ?_)
          refine tk 15 (hy := asg) (h := ?_)
          refine dn (h := ?_)
          refine q_seq (h := ?_)
          refine rtn (h := ?_)
          refine q_blk_ret (h := ?_)
          refine q_then_ret (h := ?_)
          refine q_ret (hR := ?_)
          refine fun w hS => ⟨?_, hS.sub (by repeat (first | exact SubL.nil | (apply SubL.cons; (repeat (first | exact At.here | apply At.there))) | exact SubL.refl _ | apply SubL.skip))⟩
          clear hS
          clear h
          simp_all [tstV, Prod.ext_iff, resV, Bool.and_assoc]
      · skip
        have k5 : ¬ x.kind = 5 := of_decide_eq_false h3
        refine sq (h := ?_)
        refine rg (h := ?_)
        refine WL.y (hy := eql) (h := ?_)
        refine WL.y (hy := asg) (h := ?_)
        refine nl (h := ?_)
        refine q_seq (h := ?_)
        refine cd (by exact rfl) (fun h6 => ?_) (fun h6 => ?_)
        · skip
          have k6 : x.kind = 6 := of_decide_eq_true h6
          refine sq (h := ?_)
          refine rg (h := ?_)
          refine WL.y (hy := (by first | exact fa | exact faE)) (h := ?_)
          refine WL.y (hy := (by first | exact ld | exact ldE)) (h := ?_)
          refine WL.y (hy := geq) (h := ?_)
          refine WL.y (hy := mv) (h := ?_)
          apply brAnd 7 54 61 (by exact rfl)
          · intro hb7
            have hs0 : 0 ≤ s.server := of_decide_eq_true hb7
            refine un (h := ?_)
            refine WL.y (hy := (by first | exact fa | exact faE)) (h := ?_)
            refine un (h := ?_)
            refine WL.y (hy := (by first | exact ld | exact ldE)) (h := ?_)
            refine un (h := ?_)
            refine WL.y (hy := remI) (h := ?_)
            refine un (h := ?_)
            refine WL.y (hy := (by first | exact fa | exact faE)) (h := ?_)
            refine un (h := ?_)
            refine WL.y (hy := (by first | exact ld | exact ldE)) (h := ?_)
            refine un (h := ?_)
            refine WL.y (hy := eql) (h := ?_)
            refine WL.y (hy := (by first | exact pkT | exact pkF)) (h := ?_)
            exact mg (by repeat (first | exact trivial | refine ⟨rfl, ?_⟩ | refine ⟨by rw [hb7]; rfl, ?_⟩)) (by repeat (first | exact SubL.nil | (apply SubL.cons; (repeat (first | exact At.here | apply At.there))) | exact SubL.refl _ | apply SubL.skip))
          · intro hb7
            repeat (first | refine un (h := ?_) | refine sk (h := ?_) | refine WL.y (hy := pkF) (h := ?_) | refine WL.y (hy := pkT) (h := ?_))
            exact mg (by repeat (first | exact trivial | refine ⟨rfl, ?_⟩ | refine ⟨by rw [hb7]; rfl, ?_⟩)) (by repeat (first | exact SubL.nil | (apply SubL.cons; (repeat (first | exact At.here | apply At.there))) | exact SubL.refl _ | apply SubL.skip))
          refine WL.y (hy := asg) (h := ?_)
          refine WL.cut (by repeat (first | exact Cut.nil | apply Cut.hit | apply Cut.miss (by exact rfl))) ?_
          refine nl (h := ?_)
          refine q_seq (h := ?_)
          refine rtn (h := ?_)
          refine q_blk_ret (h := ?_)
          refine q_then_ret (h := ?_)
          refine q_ret (hR := ?_)
          refine fun w hS => ⟨?_, hS.sub (by repeat (first | exact SubL.nil | (apply SubL.cons; (repeat (first | exact At.here | apply At.there))) | exact SubL.refl _ | apply SubL.skip))⟩
          clear hS
          clear h
          simp_all [tstV, Prod.ext_iff, resV, Bool.and_assoc]
        · skip
          have k6 : ¬ x.kind = 6 := of_decide_eq_false h6
          refine sq (h := ?_)
          refine rg (h := ?_)
          refine WL.y (hy := eql) (h := ?_)
          refine WL.y (hy := asg) (h := ?_)
          refine nl (h := ?_)
          refine q_seq (h := ?_)
          refine cd (by exact rfl) (fun h8 => ?_) (fun h8 => ?_)
          · skip
            have k7 : x.kind = 7 := of_decide_eq_true h8
            refine sq (h := ?_)
            refine rg (h := ?_)
            refine WL.y (hy := (by first | exact fa | exact faE)) (h := ?_)
            refine WL.y (hy := (by first | exact ld | exact ldE)) (h := ?_)
            refine WL.y (hy := (by first | exact fa | exact faE)) (h := ?_)
            refine WL.y (hy := (by first | exact ld | exact ldE)) (h := ?_)
            refine WL.y (hy := eql) (h := ?_)
            refine WL.y (hy := asg) (h := ?_)
            refine WL.cut (by repeat (first | exact Cut.nil | apply Cut.hit | apply Cut.miss (by exact rfl))) ?_
            refine nl (h := ?_)
            refine q_seq (h := ?_)
            refine rtn (h := ?_)
            refine q_blk_ret (h := ?_)
            refine q_then_ret (h := ?_)
            refine q_ret (hR := ?_)
            refine fun w hS => ⟨?_, hS.sub (by repeat (first | exact SubL.nil | (apply SubL.cons; (repeat (first | exact At.here | apply At.there))) | exact SubL.refl _ | apply SubL.skip))⟩
            clear hS
            clear h
            simp_all [tstV, Prod.ext_iff, resV, Bool.and_assoc]
          · skip
            have k7 : ¬ x.kind = 7 := of_decide_eq_false h8
            refine skp (h := ?_)
            refine q_blk_norm (h := ?_)
            refine q_seq (h := ?_)
            refine sq (h := ?_)
            refine rg (h := ?_)
            refine WL.y (hy := asg) (h := ?_)
            refine WL.cut (by repeat (first | exact Cut.nil | apply Cut.hit | apply Cut.miss (by exact rfl))) ?_
            refine nl (h := ?_)
            refine q_seq (h := ?_)
            refine rtn (h := ?_)
            refine q_ret (hR := ?_)
            refine fun w hS => ⟨?_, hS.sub (by repeat (first | exact SubL.nil | (apply SubL.cons; (repeat (first | exact At.here | apply At.there))) | exact SubL.refl _ | apply SubL.skip))⟩
            clear hS
            clear h
            simp_all [tstV, Prod.ext_iff, resV, Bool.and_assoc]
theorem tst_hold {f : Fmt} {m : MS} (hmf : m.f = f) (hr : Rch m) (hfs : 0 ≤ m.first ∧ m.first ≤ 1) {x : Nt} (h : 3 ≤ x.kind ∧ x.kind ≤ 7) : tstV m.sc x = holdS f x (spotOf m) := by
  subst hmf
  unfold tstV holdS
  rw [← rch_win hr, ← rch_srv hfs hr]
  show (bif decide (x.kind = 3) then decide (m.p = x.pair) else bif decide (x.kind = 4) then decide (m.g = x.pair) && decide (m.p = (0, 0)) else
    bif decide (x.kind = 5) then decide (wonV m.st = x.pair) && (decide (m.g = (0, 0)) && decide (m.p = (0, 0))) else bif decide (x.kind = 6) then decide (0 ≤ m.server) && decide (m.server % 2 = x.side) else bif decide (x.kind = 7) then decide (m.winner = x.side) else false) =
    (bif decide (x.kind = 3) then decide (m.p = x.pair) else bif decide (x.kind = 4) then decide (m.g = x.pair) && decide (m.p = (0, 0)) else
    bif decide (x.kind = 5) then decide (wonV m.st = x.pair) && (decide (m.g = (0, 0)) && decide (m.p = (0, 0))) else bif decide (x.kind = 6) then decide (0 ≤ m.server) && decide (m.server % 2 = x.side) else decide (m.winner = x.side))
  by_cases h7 : x.kind = 7
  · rw [h7]; rfl
  · cases h3 : decide (x.kind = 3)
    · cases h4 : decide (x.kind = 4)
      · cases h5 : decide (x.kind = 5)
        · cases h6 : decide (x.kind = 6)
          · simp only [decide_eq_false_iff_not] at h3 h4 h5 h6; omega
          · rfl
        · rfl
      · rfl
    · rfl
theorem T_ref1_PointU' (f : Fmt) (m : MS) (hmf : m.f = f) (side K : Int) (sA : Option Addr) (sc : Nat) (gA : Option Addr) (gc : Nat) (U : List Row) (hUs : (⟨sA, 2, m.st.length, encP m.st⟩ : Row) ∈ U) (hUg : (⟨gA, 7, m.gs.length, encG m.gs⟩ : Row) ∈ U) (hf : f.Ok) (hB : m.Bd K) (hK : K ≤ 990) (hi : m.Inv) (hs : side = 0 ∨ side = 1) :
    Tr Try.prog 51 [f.val, (refOf m).val sA sc gA gc, .int .i64 side] [manyE true U] (fun x : RU => PtU U (refOf (pointV m side)) x) (fun x => (refOf (pointV m side)).val x.sA x.sc x.gA x.gc) (fun x => [manyE true x.U]) := by
  subst hmf
  have h := T_ref1_PointU m.f (refOf m) side K sA sc gA gc U hUs hUg hf (refBd hB hK)
  rw [sim_point hf (by have := hB.fst; omega) hi hs] at h
  exact h
end Go.Proofs.Ytncoimjgjpcipaa

namespace Go.Proofs.Ytncoimjgjpcipaa
open Go Go.RowKit

structure MtA where
  (m : MS) (sA gA : Option Addr) (sc gc : Nat)
abbrev MtA.cells (q : MtA) : List Value := (refOf q.m).cells q.sA q.sc q.gA q.gc
def encM (l : List MtA) : List (List Value) := l.map MtA.cells
theorem encM_at {l : List MtA} {k : Nat} {q : MtA} (h : l[k]? = some q) : (encM l)[k]? = some q.cells := by unfold encM; rw [List.getElem?_map, h]; rfl
theorem encM_snoc (l : List MtA) (q : MtA) : encM l ++ [q.cells] = encM (l ++ [q]) := by unfold encM; rw [List.map_append]; rfl
theorem encB_get {l : List Bool} {k : Nat} {b : Bool} (h : l[k]? = some b) : (encB l)[k]? = some [.bool b] := by unfold encB; rw [List.getElem?_map, h]; rfl
theorem encB_set (l : List Bool) (k : Nat) (b : Bool) : (encB l).set k [.bool b] = encB (l.set k b) := by unfold encB; rw [List.map_set]
theorem encB_rep (n : Nat) : List.replicate n [Value.bool false] = encB (List.replicate n false) := by unfold encB; rw [List.map_replicate]
theorem bset_at {l : List Bool} {i t : Nat} (v : Bool) (h : i < l.length) : (l.set i v)[t]? = some true ↔ if t = i then v = true else l[t]? = some true := by
  rw [List.getElem?_set]
  by_cases e : i = t
  · subst e; rw [if_pos rfl, if_pos h, if_pos rfl]; simp
  · rw [if_neg e, if_neg (fun h => e h.symm)]
theorem rep_no (n t : Nat) : ¬ (List.replicate n false)[t]? = some true := fun h => by
  rw [List.getElem?_replicate] at h
  split at h <;> cases h
structure MtsI (f : Fmt) (first : Int) (ps : List Int) (k : Nat) (ms : List MtA) (U : List Row) : Prop where
  len : ms.length = k + 1
  ok : ∀ i q, ms[i]? = some q → playTo f first ps i = some q.m ∧ (⟨q.sA, 2, q.m.st.length, encP q.m.st⟩ : Row) ∈ U ∧ (⟨q.gA, 7, q.m.gs.length, encG q.m.gs⟩ : Row) ∈ U
theorem MtsI.snoc {f : Fmt} {first : Int} {ps : List Int} {k : Nat} {ms : List MtA} {U : List Row} (h : MtsI f first ps k ms U) {m : MS} {x : RU} (hm : playTo f first ps (k + 1) = some m) (hx : PtU U (refOf m) x) : MtsI f first ps (k + 1) (ms ++ [⟨m, x.sA, x.gA, x.sc, x.gc⟩]) x.U := by
  refine ⟨by rw [List.length_append, h.len]; rfl, fun i q hq => ?_⟩
  by_cases e : i < ms.length
  · rw [List.getElem?_append_left e] at hq
    obtain ⟨h1, h2, h3⟩ := h.ok i q hq
    exact ⟨h1, hx.sub _ h2, hx.sub _ h3⟩
  · rw [List.getElem?_append_right (by omega)] at hq
    have hl := h.len
    cases hd : i - ms.length with
    | succ d => rw [hd] at hq; simp at hq
    | zero =>
      rw [hd] at hq
      obtain rfl : (⟨m, x.sA, x.gA, x.sc, x.gc⟩ : MtA) = q := by simpa using hq
      rw [show i = k + 1 by omega]
      exact ⟨hm, hx.s, hx.g⟩
structure MOk (f : Fmt) (cf first : Int) (xs : List Nt) (ps : List Int) : Prop where
  fs : first = 0 ∨ first = 1
  cf : cf = -1 ∨ cf = first
  n : ps.length ≤ 600
  pl : ∃ m, playTo f first ps ps.length = some m
  fit : Fit f first ps xs xs.length ps.length
theorem fit_le {f : Fmt} {first : Int} {ps : List Int} {xs : List Nt} : ∀ {j n : Nat}, Fit f first ps xs j n → n ≤ ps.length
  | 0, n, h => by rw [show n = 0 from h]; exact Nat.zero_le _
  | j + 1, n, h => by
    obtain ⟨x, m, _, hm, hh⟩ := h
    have := fit_le hm
    unfold hitV at hh
    split at hh
    · exact hh.2.1
    · split at hh
      · exact hh.2.2
      · rw [hh.1]; exact this
structure KI (f : Fmt) (first : Int) (ps : List Int) (x : Nt) (bs : List Bool) (n i : Nat) (bt : List Bool) : Prop where
  len : bt.length = n + 1
  ok : ∀ t, bt[t]? = some true ↔ ∃ m, m < i ∧ bs[m]? = some true ∧ hitV f first ps x m t
section
variable {f : Fmt} {first : Int} {ps : List Int} {x : Nt} {bs bt : List Bool} {n i : Nat}
theorem KI.start : KI f first ps x bs n 0 (List.replicate (n + 1) false) := ⟨List.length_replicate .., fun t => ⟨fun h => absurd h (rep_no _ _), fun ⟨m, hm, _⟩ => absurd hm (Nat.not_lt_zero _)⟩⟩
theorem KI.next (h : KI f first ps x bs n i bt) {bu : List Bool} (hl : bu.length = n + 1) (hb : ∀ t, bu[t]? = some true ↔ bt[t]? = some true ∨ (bs[i]? = some true ∧ hitV f first ps x i t)) : KI f first ps x bs n (i + 1) bu := by
  refine ⟨hl, fun t => ?_⟩
  rw [hb t, h.ok t]
  constructor
  · rintro (⟨m, hm, hr⟩ | hr)
    · exact ⟨m, by omega, hr⟩
    · exact ⟨i, by omega, hr⟩
  · rintro ⟨m, hm, hr⟩
    by_cases e : m = i
    · subst e; exact .inr hr
    · exact .inl ⟨m, by omega, hr⟩
theorem KI.skip (h : KI f first ps x bs n i bt) (hn : ∀ t, ¬ (bs[i]? = some true ∧ hitV f first ps x i t)) : KI f first ps x bs n (i + 1) bt := h.next h.len fun t => ⟨.inl, fun h => h.elim id fun h => absurd h (hn t)⟩
theorem KI.one (h : KI f first ps x bs n i bt) (hk : x.kind = 1) (hbi : bs[i]? = some true) (hl : ps.length = n) (hin : i + 1 ≤ n) (hs : x.side = -1 ∨ ps[i]? = some x.side) : KI f first ps x bs n (i + 1) (bt.set (i + 1) true) := by
  refine h.next (by rw [List.length_set]; exact h.len) fun t => ?_
  rw [bset_at true (by rw [h.len]; omega)]
  unfold hitV
  rw [if_pos hk]
  by_cases e : t = i + 1
  · rw [if_pos e]; exact ⟨fun _ => .inr ⟨hbi, e, by omega, hs⟩, fun _ => rfl⟩
  · rw [if_neg e]; exact ⟨.inl, fun h => h.elim id fun h => absurd h.2.1 e⟩
theorem KI.one_no (h : KI f first ps x bs n i bt) (hk : x.kind = 1) (hl : ps.length = n) (hs : ¬ (i + 1 ≤ n ∧ (x.side = -1 ∨ ps[i]? = some x.side))) : KI f first ps x bs n (i + 1) bt := h.skip fun t ⟨_, ht⟩ => by
  unfold hitV at ht
  rw [if_pos hk] at ht
  exact hs ⟨by omega, ht.2.2⟩
theorem KI.test (h : KI f first ps x bs n i bt) (h1 : x.kind ≠ 1) (h2 : x.kind ≠ 2) (hbi : bs[i]? = some true) (hin : i ≤ n) {v : Bool} (hv : bt[i]? = some v) {u : Bool} (hu : u = holdS f x (spS f first ps i)) : KI f first ps x bs n (i + 1) (bt.set i (v || u)) := by
  refine h.next (by rw [List.length_set]; exact h.len) fun t => ?_
  rw [bset_at _ (by rw [h.len]; omega)]
  unfold hitV
  rw [if_neg h1, if_neg h2]
  by_cases e : t = i
  · subst e
    rw [if_pos rfl, hv, Bool.or_eq_true, hu, Option.some.injEq]
    exact ⟨fun h => h.imp id fun h => ⟨hbi, rfl, h⟩, fun h => h.imp id fun h => h.2.2⟩
  · rw [if_neg e]; exact ⟨.inl, fun h => h.elim id fun h => absurd h.2.1 e⟩
structure PI (x : Nt) (bt : List Bool) (n i k : Nat) (bu : List Bool) : Prop where
  len : bu.length = n + 1
  kb : x.pair.1 ≤ (k : Int) ∧ ((k : Int) = x.pair.1 ∨ ((k : Int) ≤ x.pair.2 + 1 ∧ i + k ≤ n + 1))
  ok : ∀ t, bu[t]? = some true ↔ bt[t]? = some true ∨ ∃ j : Nat, x.pair.1 ≤ (j : Int) ∧ j < k ∧ t = i + j
theorem PI.start (hl : bt.length = n + 1) {k : Nat} (hk : (k : Int) = x.pair.1) : PI x bt n i k bt := ⟨hl, ⟨by omega, .inl hk⟩, fun t => ⟨.inl, fun h => h.elim id fun ⟨j, h1, h2, _⟩ => by omega⟩⟩
theorem PI.next {k : Nat} {bu : List Bool} (h : PI x bt n i k bu) (h1 : (k : Int) ≤ x.pair.2) (h2 : i + k < n + 1) : PI x bt n i (k + 1) (bu.set (i + k) true) := by
  have hk := h.kb
  refine ⟨by rw [List.length_set]; exact h.len, ⟨by omega, .inr ⟨by omega, by omega⟩⟩, fun t => ?_⟩
  rw [bset_at true (by rw [h.len]; omega), h.ok t]
  by_cases e : t = i + k
  · rw [if_pos e]; exact ⟨fun _ => .inr ⟨k, hk.1, by omega, e⟩, fun _ => rfl⟩
  · rw [if_neg e]
    refine ⟨fun h => h.imp id fun ⟨j, a, b, c⟩ => ⟨j, a, by omega, c⟩, fun h => h.imp id fun ⟨j, a, b, c⟩ => ⟨j, a, ?_, c⟩⟩
    by_cases e2 : j = k
    · subst e2; exact absurd c e
    · omega
theorem PI.done {k : Nat} {bu : List Bool} (h : PI x bt n i k bu) (hx : x.kind = 2) (hr : 0 ≤ x.pair.1 ∧ x.pair.1 ≤ x.pair.2) (hin : i ≤ n) (hk : ¬ ((k : Int) ≤ x.pair.2 ∧ i + k < n + 1)) (hbi : bs[i]? = some true) (hl : ps.length = n) (hK : KI f first ps x bs n i bt) : KI f first ps x bs n (i + 1) bu := by
  have hkk := h.kb
  refine hK.next h.len fun t => ?_
  rw [h.ok t]
  unfold hitV
  rw [if_neg (show ¬ x.kind = 1 by omega), if_pos hx]
  constructor
  · rintro (h | ⟨j, h1, h2, rfl⟩)
    · exact .inl h
    · exact .inr ⟨hbi, ⟨by omega, by omega⟩, by omega, by omega⟩
  · rintro (h | ⟨_, ⟨h1, h2⟩, h3, h4⟩)
    · exact .inl h
    · exact .inr ⟨t - i, by omega, by omega, by omega⟩
end
structure IZ where
  (k : Nat) (ms : List MtA) (l : MtA) (A : Option Addr) (c : Nat) (U : List Row)
structure JZ where
  (j : Nat) (bs : List Bool) (A : Option Addr) (c : Nat)
structure MKZ where
  (i : Nat) (bt : List Bool)
set_option maxRecDepth 100000 in
set_option maxHeartbeats 1000000 in
theorem C_ref3_IsMatch (f : Fmt) (cf : Int) (xs : List Nt) (A : Option Addr) (na c : Nat) (first : Int) (ps : List Int) (P : Option Addr) (n cp : Nat) (w : World) (h : Rd w A 4 na (encN xs)) (h' : Rd w P 1 n (encI ps)) (hn : n ≤ 9223372036854775807) (hx0 : na ≤ 60) (hck : chkC f cf xs = 0) :
    CR Try.prog 21 [.agg (cardC f cf A na c).toArray, .int .i64 first, .slice P n cp] w (fun b : Bool => b = true ↔ MOk f cf first xs ps) (fun b => .bool b) (fun _ => []) := by
  have hlx : xs.length = na := by have := h.len; rwa [encN_len] at this
  have hlp : ps.length = n := by have := h'.len; rwa [encI_len] at this
  obtain ⟨hc0, hf, hcf, hl30, hmk, -⟩ := chk_facts hck
  refine ⟨en Try.func21 Try.ntmps21 (((St.init w).share (e := .ro A 4 na (encN xs)) h rfl rfl rfl).share (e := .ro P 1 n (encI ps)) h' rfl rfl rfl) (h := fun F => ?_)⟩
  refine sq (h := ?_)
  refine rg (h := ?_)
  refine bxA (h := fun b0 => ?_)
  refine WL.y (hy := asg) (h := ?_)
  refine nl (h := ?_)
  refine q_seq (h := ?_)
  refine sq (h := ?_)
  refine sq (h := ?_)
  refine rg (h := ?_)
  refine WL.y (hy := mv) (h := ?_)
  refine cl0 (hc := fun w hS => C_ref3_within ..) (h := ?_)
  refine WL.y (hy := notB) (h := ?_)
  refine WL.y (hy := mv) (h := ?_)
  apply brOr 10 20 30 (by exact rfl)
  · intro hb0
    refine un (h := ?_)
    refine WL.y (hy := (by first | exact fa | exact faE)) (h := ?_)
    refine un (h := ?_)
    refine WL.y (hy := (by first | exact ld | exact ldE)) (h := ?_)
    refine un (h := ?_)
    refine WL.y (hy := neq) (h := ?_)
    refine un (h := ?_)
    refine WL.y (hy := mv) (h := ?_)
    apply brAnd 5 24 29 (by exact rfl)
    · intro hb1
      refine un (h := ?_)
      refine WL.y (hy := (by first | exact fa | exact faE)) (h := ?_)
      refine un (h := ?_)
      refine WL.y (hy := (by first | exact ld | exact ldE)) (h := ?_)
      refine un (h := ?_)
      refine WL.y (hy := mv) (h := ?_)
      refine un (h := ?_)
      refine WL.y (hy := neq) (h := ?_)
      refine un (h := ?_)
      refine WL.y (hy := (by first | exact pkT | exact pkF)) (h := ?_)
      exact mg (by repeat (first | exact trivial | refine ⟨rfl, ?_⟩ | refine ⟨by rw [hb1]; rfl, ?_⟩ | refine ⟨by rw [hb0]; rfl, ?_⟩)) (by repeat (first | exact SubL.nil | (apply SubL.cons; (repeat (first | exact At.here | apply At.there))) | exact SubL.refl _ | apply SubL.skip))
    · intro hb1
      repeat (first | refine un (h := ?_) | refine sk (h := ?_) | refine WL.y (hy := pkF) (h := ?_) | refine WL.y (hy := pkT) (h := ?_))
      exact mg (by repeat (first | exact trivial | refine ⟨rfl, ?_⟩ | refine ⟨by rw [hb1]; rfl, ?_⟩ | refine ⟨by rw [hb0]; rfl, ?_⟩)) (by repeat (first | exact SubL.nil | (apply SubL.cons; (repeat (first | exact At.here | apply At.there))) | exact SubL.refl _ | apply SubL.skip))
    refine WL.y (hy := (by first | exact pkT | exact pkF)) (h := ?_)
    exact mg (by repeat (first | exact trivial | refine ⟨rfl, ?_⟩ | refine ⟨by rw [hb0]; rfl, ?_⟩)) (by repeat (first | exact SubL.nil | (apply SubL.cons; (repeat (first | exact At.here | apply At.there))) | exact SubL.refl _ | apply SubL.skip))
  · intro hb0
    repeat (first | refine un (h := ?_) | refine sk (h := ?_) | refine WL.y (hy := pkF) (h := ?_) | refine WL.y (hy := pkT) (h := ?_))
    exact mg (by repeat (first | exact trivial | refine ⟨rfl, ?_⟩ | refine ⟨by rw [hb0]; rfl, ?_⟩)) (by repeat (first | exact SubL.nil | (apply SubL.cons; (repeat (first | exact At.here | apply At.there))) | exact SubL.refl _ | apply SubL.skip))
  refine WL.y (hy := mv) (h := ?_)
  apply brOr 4 31 35 (by exact rfl)
  · intro hb2
    refine un (h := ?_)
    refine WL.y (hy := mv) (h := ?_)
    refine un (h := ?_)
    refine WL.y (hy := lenS) (h := ?_)
    refine un (h := ?_)
    refine WL.y (hy := gtr) (h := ?_)
    refine WL.y (hy := (by first | exact pkT | exact pkF)) (h := ?_)
    exact mg (by repeat (first | exact trivial | refine ⟨rfl, ?_⟩ | refine ⟨by rw [hb2]; rfl, ?_⟩)) (by repeat (first | exact SubL.nil | (apply SubL.cons; (repeat (first | exact At.here | apply At.there))) | exact SubL.refl _ | apply SubL.skip))
  · intro hb2
    repeat (first | refine un (h := ?_) | refine sk (h := ?_) | refine WL.y (hy := pkF) (h := ?_) | refine WL.y (hy := pkT) (h := ?_))
    exact mg (by repeat (first | exact trivial | refine ⟨rfl, ?_⟩ | refine ⟨by rw [hb2]; rfl, ?_⟩)) (by repeat (first | exact SubL.nil | (apply SubL.cons; (repeat (first | exact At.here | apply At.there))) | exact SubL.refl _ | apply SubL.skip))
  refine nl (h := ?_)
  refine q_seq (h := ?_)
  refine cd (by exact rfl) (fun h3 => ?_) (fun h3 => ?_)
  · skip
    have hno : ¬ MOk f cf first xs ps := fun hM => by
      have h0 := h3
      have h1 := hM.fs
      have h2 := hM.cf
      have h3 := hM.n
      simp [wi] at h0
      omega
    refine sq (h := ?_)
    refine rg (h := ?_)
    refine WL.y (hy := asg) (h := ?_)
    refine nl (h := ?_)
    refine q_seq (h := ?_)
    refine rtn (h := ?_)
    refine q_then_ret (h := ?_)
    refine q_ret (hR := ?_)
    exact fun w hS => ⟨false, ⟨fun h9 => (by cases h9), fun h9 => absurd h9 hno⟩, rfl, hS.sub (by repeat (first | exact SubL.nil | (apply SubL.cons; (repeat (first | exact At.here | apply At.there))) | exact SubL.refl _ | apply SubL.skip))⟩
  · skip
    have hfc : (first = 0 ∨ first = 1) ∧ (cf = -1 ∨ cf = first) ∧ n ≤ 600 := by
      have h0 := h3
      simp [wi] at h0
      omega
    obtain ⟨hfs, hfc2, hn6⟩ := hfc
    refine skp (h := ?_)
    refine q_seq (h := ?_)
    refine sq (h := ?_)
    refine rg (h := ?_)
    refine WL.y (hy := (by first | exact fa | exact faE)) (h := ?_)
    refine WL.y (hy := (by first | exact ldA | exact ldEA)) (h := ?_)
    refine WL.y (hy := mv) (h := ?_)
    refine cl0 (hc := fun w hS => C_ref1_Begin _ _ (by assumption) w) (h := ?_)
    refine al (h := fun b1 => ?_)
    first | refine stA (h := ?_) | refine stEA (h := ?_)
    refine nl (h := ?_)
    refine q_seq (h := ?_)
    refine sq (h := ?_)
    refine rg (h := ?_)
    refine WL.y (hy := (by first | exact ldA | exact ldEA)) (h := ?_)
    refine bs (h := fun b2 => ?_)
    refine WL.y (hy := asg) (h := ?_)
    refine nl (h := ?_)
    refine q_seq (h := ?_)
    refine sq (h := ?_)
    refine sq (h := ?_)
    refine WC.nilOwn 38 2 (h := ?_)
    refine WC.nilOwn 146 7 (h := ?_)
    refine WC.many0 (h := ?_)
    refine WC.manyAdd (A := none) (size := 2) (by repeat (first | exact At.here | apply At.there)) (by repeat (first | exact At.here | apply At.there)) ?_
    refine WC.manyAdd (A := none) (size := 7) (by repeat (first | exact At.here | apply At.there)) (by repeat (first | exact At.here | apply At.there)) ?_
    rw [List.nil_append]
    refine rg (h := ?_)
    refine WL.y (hy := asg) (h := ?_)
    refine WL.cut (by repeat (first | exact Cut.nil | apply Cut.hit | apply Cut.miss (by exact rfl))) ?_
    refine nl (h := ?_)
    refine q_seq (h := ?_)
    refine bk (h := ?_)
    refine lp (X := IZ) (I := fun z => z.k ≤ n ∧ MtsI f first ps z.k z.ms z.U ∧ z.ms[z.k]? = some z.l) (le := fun z => [(1, .int .i64 first), (2, .slice P n cp), (3, .pointer (some ⟨b0, 0, none⟩)), (7, .pointer (some ⟨b1, 0, none⟩)), (8, .slice z.A (z.k + 1) z.c), (9, .int .i64 z.k)]) (Le := fun z => [.blk b1 73 z.l.cells, .own z.A z.c 73 12 (z.k + 1) (encM z.ms), manyE true z.U, .blk b0 26 (cardC f cf A na c), .ro P 1 n (encI ps), .ro A 4 na (encN xs)]) (μ := fun z => n - z.k) ⟨0, [⟨beginV f first, none, none, 0, 0⟩], ⟨beginV f first, none, none, 0, 0⟩, some ⟨b2, 0, none⟩, 1, [⟨none, 2, 0, []⟩] ++ [⟨none, 7, 0, []⟩]⟩ ⟨Nat.zero_le _, ⟨rfl, fun i q hq => by
      cases i with
      | succ i => simp at hq
      | zero =>
        obtain rfl : (⟨beginV f first, none, none, 0, 0⟩ : MtA) = q := by simpa using hq
        exact ⟨rfl, List.mem_append_left _ (List.mem_singleton.2 rfl), List.mem_append_right _ (List.mem_singleton.2 rfl)⟩⟩, rfl⟩ (by repeat (first | exact trivial | refine ⟨rfl, ?_⟩)) (by repeat (first | exact SubL.nil | (apply SubL.cons; (repeat (first | exact At.here | apply At.there))) | exact SubL.refl _ | apply SubL.skip)) (fun z hz => ?_)
    obtain ⟨hzk, hzm, hzl⟩ := hz
    obtain ⟨hzp, -, -⟩ := hzm.ok z.k z.l hzl
    obtain ⟨hzf, hz1, hzi⟩ := playTo_inv hf hzp
    have hzb := playTo_bd hf hfs (by omega) hzp
    refine sq (h := ?_)
    refine sq (h := ?_)
    refine rg (h := ?_)
    refine WL.y (hy := mv) (h := ?_)
    refine WL.y (hy := mv) (h := ?_)
    refine WL.y (hy := lenS) (h := ?_)
    refine WL.y (hy := lss) (h := ?_)
    refine nl (h := ?_)
    refine q_seq (h := ?_)
    refine cd (by exact rfl) (fun h4 => ?_) (fun h4 => ?_)
    · skip
      have hkn : z.k < n := by have := of_decide_eq_true h4; omega
      obtain ⟨p, hp⟩ : ∃ p, ps[z.k]? = some p := ⟨_, List.getElem?_eq_getElem (by omega)⟩
      have hpe := encI_at hp
      have hstep := playTo_succ hzp hp
      refine skp (h := ?_)
      refine q_seq (h := ?_)
      refine sq (h := ?_)
      refine bk (h := ?_)
      refine sq (h := ?_)
      refine sq (h := ?_)
      refine rg (h := ?_)
      refine WL.y (hy := mv) (h := ?_)
      refine WL.y (hy := mv) (h := ?_)
      refine WL.y (hy := ix (A := P) (m := n) (hb := by omega)) (h := ?_)
      refine WL.y (hy := ldE (A := P) (hk := hpe)) (h := ?_)
      refine cl0 (hc := fun w hS => C_ref3_within ..) (h := ?_)
      refine WL.y (hy := notB) (h := ?_)
      refine WL.y (hy := mv) (h := ?_)
      apply brOr 5 54 59 (by exact rfl)
      · intro hb5
        refine un (h := ?_)
        refine WL.y (hy := (by first | exact fa | exact faE)) (h := ?_)
        refine un (h := ?_)
        refine WL.y (hy := (by first | exact fa | exact faE)) (h := ?_)
        refine un (h := ?_)
        refine WL.y (hy := (by first | exact ld | exact ldE)) (h := ?_)
        refine un (h := ?_)
        refine WL.y (hy := geq) (h := ?_)
        refine WL.y (hy := (by first | exact pkT | exact pkF)) (h := ?_)
        exact mg (by repeat (first | exact trivial | refine ⟨rfl, ?_⟩ | refine ⟨by rw [hb5]; rfl, ?_⟩)) (by repeat (first | exact SubL.nil | (apply SubL.cons; (repeat (first | exact At.here | apply At.there))) | exact SubL.refl _ | apply SubL.skip))
      · intro hb5
        repeat (first | refine un (h := ?_) | refine sk (h := ?_) | refine WL.y (hy := pkF) (h := ?_) | refine WL.y (hy := pkT) (h := ?_))
        exact mg (by repeat (first | exact trivial | refine ⟨rfl, ?_⟩ | refine ⟨by rw [hb5]; rfl, ?_⟩)) (by repeat (first | exact SubL.nil | (apply SubL.cons; (repeat (first | exact At.here | apply At.there))) | exact SubL.refl _ | apply SubL.skip))
      refine nl (h := ?_)
      refine q_seq (h := ?_)
      refine cd (by exact rfl) (fun h6 => ?_) (fun h6 => ?_)
      · skip
        have hb' : (sideBad p || decide (0 ≤ z.l.m.winner)) = true := by rw [← side_wi]; exact h6
        have hno : ¬ MOk f cf first xs ps := fun hM => by
          rw [hb'] at hstep
          obtain ⟨m9, h9⟩ := hM.pl
          rw [playTo_none (k := ps.length) hstep (by omega)] at h9
          cases h9
        refine sq (h := ?_)
        refine rg (h := ?_)
        refine WL.y (hy := asg) (h := ?_)
        refine nl (h := ?_)
        refine q_seq (h := ?_)
        refine rtn (h := ?_)
        refine q_then_ret (h := ?_)
        refine q_blk_ret (h := ?_)
        refine q_then_ret (h := ?_)
        refine q_then_ret (h := ?_)
        refine q_blk_ret (h := ?_)
        refine q_then_ret (h := ?_)
        refine q_ret (hR := ?_)
        exact fun w hS => ⟨false, ⟨fun h9 => (by cases h9), fun h9 => absurd h9 hno⟩, rfl, hS.sub (by repeat (first | exact SubL.nil | (apply SubL.cons; (repeat (first | exact At.here | apply At.there))) | exact SubL.refl _ | apply SubL.skip))⟩
      · skip
        have hb' : (sideBad p || decide (0 ≤ z.l.m.winner)) = false := by rw [← side_wi]; exact h6
        have hnx : playTo f first ps (z.k + 1) = some (pointV z.l.m p) := by rw [hstep, hb']; rfl
        have h2' := Bool.or_eq_false_iff.1 hb'
        have hsd := side_ok h2'.1
        have hin : z.l.m.Inv := by
          rcases hzi with hi | hd
          · exact hi
          · have h1 := hd.w
            have h2 := h2'.2
            rw [decide_eq_false_iff_not] at h2
            omega
        obtain ⟨_, hUs, hUg⟩ := hzm.ok z.k z.l hzl
        refine skp (h := ?_)
        refine q_seq (h := ?_)
        refine sq (h := ?_)
        refine rgD (by kernel_rfl) [(8, .blk b1 73 z.l.cells), (1000000, .blk b0 26 (cardC f cf A na c)), (1000000, .ro P 1 n (encI ps))] (by repeat (first | exact HS.nil | (apply HS.keep; (repeat (first | exact At.here | apply At.there))) | (apply HS.ro; (repeat (first | exact Rds.ro | exact Rds.own | apply Rds.there))))) (h := ?_)
        refine tk 0 (hy := (by first | exact fa | exact faE)) (h := ?_)
        refine tk 1 (hy := (by first | exact ldA | exact ldEA)) (h := ?_)
        refine tk 2 (hy := (by first | exact ldA | exact ldEA)) (h := ?_)
        refine tk 3 (hy := mv) (h := ?_)
        refine tk 4 (hy := mv) (h := ?_)
        refine tk 5 (hy := ix (A := P) (m := n) (hb := by omega)) (h := ?_)
        refine tk 6 (hy := ldE (A := P) (hk := hpe)) (h := ?_)
        refine one 7 (h := ?_)
        refine clT (hc := T_ref1_PointU' f z.l.m hzf p z.k z.l.sA z.l.sc z.l.gA z.l.gc z.U hUs hUg hf hzb (by omega) hin hsd) (h := fun xu hxu => ?_)
        refine nx (h := ?_)
        refine one 8 (h := ?_)
        first | refine stA (h := ?_) | refine stEA (h := ?_)
        refine nx (h := ?_)
        refine dn (h := ?_)
        refine q_seq (h := ?_)
        refine rg (h := ?_)
        refine WL.y (hy := mv) (h := ?_)
        refine WL.y (hy := (by first | exact ldA | exact ldEA)) (h := ?_)
        refine bs (h := fun b3 => ?_)
        refine ap (es := encM z.ms) (m := z.k + 1) (k := 1) (A := z.A) (c := z.c) (h := fun A1 c1 => ?_)
        rw [show encM z.ms ++ [(refOf (pointV z.l.m p)).cells xu.sA xu.sc xu.gA xu.gc] = encM (z.ms ++ [⟨pointV z.l.m p, xu.sA, xu.gA, xu.sc, xu.gc⟩]) from encM_snoc z.ms ⟨pointV z.l.m p, xu.sA, xu.gA, xu.sc, xu.gc⟩]
        refine WL.y (hy := asg) (h := ?_)
        refine nl (h := ?_)
        refine q_blk_norm (h := ?_)
        refine q_seq (h := ?_)
        refine rg (h := ?_)
        refine WL.y (hy := mv) (h := ?_)
        refine WL.y (hy := addI) (h := ?_)
        refine WL.y (hy := asg) (h := ?_)
        refine WL.cut (by repeat (first | exact Cut.nil | apply Cut.hit | apply Cut.miss (by exact rfl))) ?_
        refine nl (h := ?_)
        refine rn (x := z) ⟨z.k + 1, z.ms ++ [⟨pointV z.l.m p, xu.sA, xu.gA, xu.sc, xu.gc⟩], ⟨pointV z.l.m p, xu.sA, xu.gA, xu.sc, xu.gc⟩, A1, c1, xu.U⟩ ⟨by dsimp only; omega, hzm.snoc hnx hxu, by have := hzm.len; dsimp only; rw [List.getElem?_append_right (by omega), show z.k + 1 - z.ms.length = 0 by omega]; rfl⟩ (by dsimp only; omega) (by repeat (first | exact trivial | refine ⟨rfl, ?_⟩)) (by repeat (first | exact SubL.nil | (apply SubL.cons; (repeat (first | exact At.here | apply At.there))) | exact SubL.refl _ | apply SubL.skip))
    · skip
      have hkn : z.k = n := by have := of_decide_eq_false h4; omega
      rw [hkn] at hzm hzp
      obtain ⟨zm, hzme⟩ : ∃ y : IZ, y = z := ⟨_, rfl⟩
      rw [hkn, ← hzme]
      rw [← hzme] at hzm hzp hzl
      have hml := hzm.len
      have hpc := (play_spot hf hzp).2
      have hst0 : ((List.replicate (n + 1) false).set 0 true).length = n + 1 := by rw [List.length_set, List.length_replicate]
      refine et (h := ?_)
      refine q_then_exit (h := ?_)
      refine q_then_exit (h := ?_)
      refine q_blk_hit (h := ?_)
      refine q_seq (h := ?_)
      refine sq (h := ?_)
      refine rg (h := ?_)
      refine WL.y (hy := mv) (h := ?_)
      refine WL.y (hy := lenS) (h := ?_)
      refine mks (n + 1) (hx := by exact rfl) (hy := by exact rfl) (h := fun bE => ?_)
      rw [encB_rep]
      refine WL.y (hy := asg) (h := ?_)
      refine WL.cut (by repeat (first | exact Cut.nil | apply Cut.hit | apply Cut.miss (by exact rfl))) ?_
      refine nl (h := ?_)
      refine q_seq (h := ?_)
      refine sq (h := ?_)
      refine rg (h := ?_)
      refine WL.y (hy := mv) (h := ?_)
      refine WL.y (hy := ix (A := some ⟨bE, 0, none⟩) (m := n + 1) (hb := by omega)) (h := ?_)
      refine stE (A := some ⟨bE, 0, none⟩) (k := 0) (j := 0) (hk := encB_get (b := false) (by rw [List.getElem?_replicate, if_pos (Nat.succ_pos n)])) (h := ?_)
      rw [show (encB (List.replicate (n + 1) false)).set 0 ([Value.bool false].set 0 (.bool true)) = encB ((List.replicate (n + 1) false).set 0 true) from encB_set _ _ _]
      refine nl (h := ?_)
      refine q_seq (h := ?_)
      refine sq (h := ?_)
      refine sq (h := ?_)
      refine rg (h := ?_)
      refine WL.y (hy := asg) (h := ?_)
      refine WL.cut (by repeat (first | exact Cut.nil | apply Cut.hit | apply Cut.miss (by exact rfl))) ?_
      refine nl (h := ?_)
      refine q_seq (h := ?_)
      refine bk (h := ?_)
      refine lp (X := JZ) (I := fun v => v.j ≤ na ∧ v.bs.length = n + 1 ∧ ∀ t, v.bs[t]? = some true ↔ Fit f first ps xs v.j t) (le := fun v => [(2, .slice P n cp), (3, .pointer (some ⟨b0, 0, none⟩)), (8, .slice zm.A (n + 1) zm.c), (10, .slice v.A (n + 1) v.c), (11, .int .i64 v.j)]) (Le := fun v => [.own v.A v.c 4 1 (n + 1) (encB v.bs), .own zm.A zm.c 73 12 (n + 1) (encM zm.ms), manyE true zm.U, .blk b0 26 (cardC f cf A na c), .ro P 1 n (encI ps), .ro A 4 na (encN xs)]) (μ := fun v => na - v.j) ⟨0, (List.replicate (n + 1) false).set 0 true, some ⟨bE, 0, none⟩, n + 1⟩ ⟨Nat.zero_le _, hst0, fun t => by
        rw [bset_at true (by rw [List.length_replicate]; omega)]
        show _ ↔ t = 0
        by_cases e : t = 0
        · rw [if_pos e]; exact ⟨fun _ => e, fun _ => rfl⟩
        · rw [if_neg e]; exact ⟨fun h9 => absurd h9 (rep_no _ _), fun h9 => absurd h9 e⟩⟩ (by repeat (first | exact trivial | refine ⟨rfl, ?_⟩)) (by repeat (first | exact SubL.nil | (apply SubL.cons; (repeat (first | exact At.here | apply At.there))) | exact SubL.refl _ | apply SubL.skip)) (fun v hv => ?_)
      obtain ⟨hvj, hvl, hvb⟩ := hv
      refine sq (h := ?_)
      refine sq (h := ?_)
      refine rg (h := ?_)
      refine WL.y (hy := mv) (h := ?_)
      refine WL.y (hy := (by first | exact fa | exact faE)) (h := ?_)
      refine WL.y (hy := (by first | exact ld | exact ldE)) (h := ?_)
      refine WL.y (hy := lenS) (h := ?_)
      refine WL.y (hy := lss) (h := ?_)
      refine nl (h := ?_)
      refine q_seq (h := ?_)
      refine cd (by exact rfl) (fun h7 => ?_) (fun h7 => ?_)
      · skip
        have hjn : v.j < na := by have := of_decide_eq_true h7; omega
        obtain ⟨x, hx⟩ : ∃ x, xs[v.j]? = some x := ⟨_, List.getElem?_eq_getElem (by omega)⟩
        have hxe := encN_at hx
        have hxm := mk_kind (hmk x (List.mem_of_getElem? hx))
        refine skp (h := ?_)
        refine q_seq (h := ?_)
        refine sq (h := ?_)
        refine bk (h := ?_)
        refine sq (h := ?_)
        refine rg (h := ?_)
        refine WL.y (hy := (by first | exact fa | exact faE)) (h := ?_)
        refine WL.y (hy := (by first | exact ld | exact ldE)) (h := ?_)
        refine WL.y (hy := mv) (h := ?_)
        refine WL.y (hy := ix (A := A) (m := na) (hb := by omega)) (h := ?_)
        refine WL.y (hy := ldEA (A := A) (hk := hxe)) (h := ?_)
        refine al (h := fun b4 => ?_)
        first | refine stA (h := ?_) | refine stEA (h := ?_)
        refine nl (h := ?_)
        refine q_seq (h := ?_)
        refine sq (h := ?_)
        refine rg (h := ?_)
        refine WL.y (hy := mv) (h := ?_)
        refine WL.y (hy := lenS) (h := ?_)
        refine mks (n + 1) (hx := by exact rfl) (hy := by exact rfl) (h := fun bM => ?_)
        rw [encB_rep]
        refine WL.y (hy := asg) (h := ?_)
        refine nl (h := ?_)
        refine q_seq (h := ?_)
        refine sq (h := ?_)
        refine sq (h := ?_)
        refine rg (h := ?_)
        refine WL.y (hy := asg) (h := ?_)
        refine WL.cut (by repeat (first | exact Cut.nil | apply Cut.hit | apply Cut.miss (by exact rfl))) ?_
        refine nl (h := ?_)
        refine q_seq (h := ?_)
        refine bk (h := ?_)
        refine lp (X := MKZ) (I := fun y => y.i ≤ n + 1 ∧ KI f first ps x v.bs n y.i y.bt) (le := fun y => [(2, .slice P n cp), (3, .pointer (some ⟨b0, 0, none⟩)), (8, .slice zm.A (n + 1) zm.c), (10, .slice v.A (n + 1) v.c), (11, .int .i64 v.j), (12, .pointer (some ⟨b4, 0, none⟩)), (13, .slice (some ⟨bM, 0, none⟩) (n + 1) (n + 1)), (14, .int .i64 y.i)]) (Le := fun y => [.own (some ⟨bM, 0, none⟩) (n + 1) 4 1 (n + 1) (encB y.bt), .blk b4 40 x.cells, .own v.A v.c 4 1 (n + 1) (encB v.bs), .own zm.A zm.c 73 12 (n + 1) (encM zm.ms), manyE true zm.U, .blk b0 26 (cardC f cf A na c), .ro P 1 n (encI ps), .ro A 4 na (encN xs)]) (μ := fun y => n + 1 - y.i) ⟨0, List.replicate (n + 1) false⟩ ⟨Nat.zero_le _, KI.start⟩ (by repeat (first | exact trivial | refine ⟨rfl, ?_⟩)) (by repeat (first | exact SubL.nil | (apply SubL.cons; (repeat (first | exact At.here | apply At.there))) | exact SubL.refl _ | apply SubL.skip)) (fun y hy => ?_)
        obtain ⟨hyi, hyK⟩ := hy
        refine sq (h := ?_)
        refine sq (h := ?_)
        refine rg (h := ?_)
        refine WL.y (hy := mv) (h := ?_)
        refine WL.y (hy := mv) (h := ?_)
        refine WL.y (hy := lenS) (h := ?_)
        refine WL.y (hy := lss) (h := ?_)
        refine nl (h := ?_)
        refine q_seq (h := ?_)
        refine cd (by exact rfl) (fun h8 => ?_) (fun h8 => ?_)
        · skip
          have hin1 : y.i < n + 1 := by have := of_decide_eq_true h8; omega
          obtain ⟨e, he⟩ : ∃ e, v.bs[y.i]? = some e := ⟨_, List.getElem?_eq_getElem (by omega)⟩
          have hee := encB_get he
          refine skp (h := ?_)
          refine q_seq (h := ?_)
          refine sq (h := ?_)
          refine bk (h := ?_)
          refine sq (h := ?_)
          refine sq (h := ?_)
          refine rg (h := ?_)
          refine WL.y (hy := mv) (h := ?_)
          refine WL.y (hy := mv) (h := ?_)
          refine WL.y (hy := ix (A := v.A) (m := n + 1) (hb := by omega)) (h := ?_)
          refine WL.y (hy := ldE (A := v.A) (k := y.i) (hk := hee)) (h := ?_)
          refine WL.y (hy := notB) (h := ?_)
          refine nl (h := ?_)
          refine q_seq (h := ?_)
          refine cd (by exact rfl) (fun h9 => ?_) (fun h9 => ?_)
          · skip
            have hKn := hyK.skip (fun t ⟨g9, _⟩ => by rw [he] at g9; have g8 : (!e) = true := h9; cases Option.some.inj g9; cases g8)
            refine et (h := ?_)
            refine q_then_exit (h := ?_)
            refine q_blk_hit (h := ?_)
            refine q_seq (h := ?_)
            refine rg (h := ?_)
            refine WL.y (hy := mv) (h := ?_)
            refine WL.y (hy := addI) (h := ?_)
            refine WL.y (hy := asg) (h := ?_)
            refine WL.cut (by repeat (first | exact Cut.nil | apply Cut.hit | apply Cut.miss (by exact rfl))) ?_
            refine nl (h := ?_)
            first
              | (refine rn (x := y) ⟨y.i + 1, y.bt⟩ ⟨by dsimp only; omega, hKn⟩ (by dsimp only; omega) (by repeat (first | exact trivial | refine ⟨rfl, ?_⟩)) (by repeat (first | exact SubL.nil | (apply SubL.cons; (repeat (first | exact At.here | apply At.there))) | exact SubL.refl _ | apply SubL.skip)); done)
              | (refine rn (x := y) ⟨y.i + 1, y.bt.set (y.i + 1) true⟩ ⟨by dsimp only; omega, hKn⟩ (by dsimp only; omega) (by repeat (first | exact trivial | refine ⟨rfl, ?_⟩)) (by repeat (first | exact SubL.nil | (apply SubL.cons; (repeat (first | exact At.here | apply At.there))) | exact SubL.refl _ | apply SubL.skip)); done)
              | (refine rn (x := y) ⟨y.i + 1, g.2⟩ ⟨by dsimp only; omega, hKn⟩ (by dsimp only; omega) (by repeat (first | exact trivial | refine ⟨rfl, ?_⟩)) (by repeat (first | exact SubL.nil | (apply SubL.cons; (repeat (first | exact At.here | apply At.there))) | exact SubL.refl _ | apply SubL.skip)); done)
              | (refine rn (x := y) ⟨y.i + 1, y.bt.set y.i (v1 || tstV q.m.sc x)⟩ ⟨by dsimp only; omega, hKn⟩ (by dsimp only; omega) (by repeat (first | exact trivial | refine ⟨rfl, ?_⟩)) (by repeat (first | exact SubL.nil | (apply SubL.cons; (repeat (first | exact At.here | apply At.there))) | exact SubL.refl _ | apply SubL.skip)); done)
          · skip
            have he1 : e = true := by have g8 : (!e) = false := h9; simpa using g8
            rw [he1] at he
            refine skp (h := ?_)
            refine q_seq (h := ?_)
            refine sq (h := ?_)
            refine rg (h := ?_)
            refine WL.y (hy := (by first | exact fa | exact faE)) (h := ?_)
            refine WL.y (hy := (by first | exact ld | exact ldE)) (h := ?_)
            refine nl (h := ?_)
            refine q_seq (h := ?_)
            refine bk (h := ?_)
            refine sq (h := ?_)
            refine rg (h := ?_)
            refine WL.y (hy := eql) (h := ?_)
            refine WL.y (hy := asg) (h := ?_)
            refine nl (h := ?_)
            refine q_seq (h := ?_)
            refine cd (by exact rfl) (fun h10 => ?_) (fun h10 => ?_)
            · skip
              have hk1 : x.kind = 1 := of_decide_eq_true h10
              refine sq (h := ?_)
              refine rgD (by kernel_rfl) [(1000000, .blk b4 40 x.cells), (1000000, .ro P 1 n (encI ps))] (by repeat (first | exact HS.nil | (apply HS.keep; (repeat (first | exact At.here | apply At.there))) | (apply HS.ro; (repeat (first | exact Rds.ro | exact Rds.own | apply Rds.there))))) (h := ?_)
              refine tk 0 (hy := mv) (h := ?_)
              refine tk 1 (hy := addI (hb := by omega)) (h := ?_)
              refine tk 2 (hy := mv) (h := ?_)
              refine tk 3 (hy := lenS) (h := ?_)
              refine tk 4 (hy := lss) (h := ?_)
              refine tk 5 (hy := mv) (h := ?_)
              refine brH (g := 137) (by exact rfl) (fun hb11 => ?_) (fun hb11 => ?_)
              · skip
                have hin : y.i + 1 ≤ n := by have := of_decide_eq_true hb11; omega
                obtain ⟨p, hp⟩ : ∃ p, ps[y.i]? = some p := ⟨_, List.getElem?_eq_getElem (by omega)⟩
                have hpe := encI_at hp
                refine tk 6 (hy := (by first | exact fa | exact faE)) (h := ?_)
                refine tk 7 (hy := (by first | exact ld | exact ldE)) (h := ?_)
                refine tk 8 (hy := eql) (h := ?_)
                refine tk 9 (hy := mv) (h := ?_)
                refine brH (g := 141) (by exact rfl) (fun hb12 => ?_) (fun hb12 => ?_)
                · skip
                  have hs1 : x.side = -1 := of_decide_eq_true hb12
                  refine tkS 10 (h := ?_)
                  refine tkS 11 (h := ?_)
                  refine tkS 12 (h := ?_)
                  refine tkS 13 (h := ?_)
                  refine tkS 14 (h := ?_)
                  refine tkS 15 (h := ?_)
                  refine tkS 16 (h := ?_)
                  refine tk 17 (hy := (by first | exact pkT | exact pkF)) (h := ?_)
                  refine tk 18 (hy := (by first | exact pkT | exact pkF)) (h := ?_)
                  refine dn (h := ?_)
                  refine q_seq (h := ?_)
                  refine cdT (h := ?_)
                  have hKn := hyK.one hk1 he hlp hin (by first | exact .inl hs1 | exact .inr (by rw [hp]; exact congrArg some (of_decide_eq_true (by assumption))))
                  refine rg (h := ?_)
                  refine WL.y (hy := mv) (h := ?_)
                  refine WL.y (hy := mv) (h := ?_)
                  refine WL.y (hy := addI (hb := by omega)) (h := ?_)
                  refine WL.y (hy := ix (A := some ⟨bM, 0, none⟩) (m := n + 1) (hb := by omega)) (h := ?_)
                  refine stE (A := some ⟨bM, 0, none⟩) (k := y.i + 1) (j := 0) (hk := encB_get (List.getElem?_eq_getElem (by have := hyK.len; omega))) (h := ?_)
                  rw [show (encB y.bt).set (y.i + 1) ([Value.bool _].set 0 (.bool true)) = encB (y.bt.set (y.i + 1) true) from encB_set _ _ _]
                  refine nl (h := ?_)
                  refine q_blk_norm (h := ?_)
                  refine q_blk_norm (h := ?_)
                  refine q_seq (h := ?_)
                  refine rg (h := ?_)
                  refine WL.y (hy := mv) (h := ?_)
                  refine WL.y (hy := addI) (h := ?_)
                  refine WL.y (hy := asg) (h := ?_)
                  refine WL.cut (by repeat (first | exact Cut.nil | apply Cut.hit | apply Cut.miss (by exact rfl))) ?_
                  refine nl (h := ?_)
                  first
                    | (refine rn (x := y) ⟨y.i + 1, y.bt⟩ ⟨by dsimp only; omega, hKn⟩ (by dsimp only; omega) (by repeat (first | exact trivial | refine ⟨rfl, ?_⟩)) (by repeat (first | exact SubL.nil | (apply SubL.cons; (repeat (first | exact At.here | apply At.there))) | exact SubL.refl _ | apply SubL.skip)); done)
                    | (refine rn (x := y) ⟨y.i + 1, y.bt.set (y.i + 1) true⟩ ⟨by dsimp only; omega, hKn⟩ (by dsimp only; omega) (by repeat (first | exact trivial | refine ⟨rfl, ?_⟩)) (by repeat (first | exact SubL.nil | (apply SubL.cons; (repeat (first | exact At.here | apply At.there))) | exact SubL.refl _ | apply SubL.skip)); done)
                    | (refine rn (x := y) ⟨y.i + 1, g.2⟩ ⟨by dsimp only; omega, hKn⟩ (by dsimp only; omega) (by repeat (first | exact trivial | refine ⟨rfl, ?_⟩)) (by repeat (first | exact SubL.nil | (apply SubL.cons; (repeat (first | exact At.here | apply At.there))) | exact SubL.refl _ | apply SubL.skip)); done)
                    | (refine rn (x := y) ⟨y.i + 1, y.bt.set y.i (v1 || tstV q.m.sc x)⟩ ⟨by dsimp only; omega, hKn⟩ (by dsimp only; omega) (by repeat (first | exact trivial | refine ⟨rfl, ?_⟩)) (by repeat (first | exact SubL.nil | (apply SubL.cons; (repeat (first | exact At.here | apply At.there))) | exact SubL.refl _ | apply SubL.skip)); done)
                · skip
                  have hs1 : ¬ x.side = -1 := of_decide_eq_false hb12
                  refine tk 10 (hy := mv) (h := ?_)
                  refine tk 11 (hy := mv) (h := ?_)
                  refine tk 12 (hy := ix (A := P) (m := n) (hb := by omega)) (h := ?_)
                  refine tk 13 (hy := ldE (A := P) (k := y.i) (hk := hpe)) (h := ?_)
                  refine tk 14 (hy := (by first | exact fa | exact faE)) (h := ?_)
                  refine tk 15 (hy := (by first | exact ld | exact ldE)) (h := ?_)
                  refine tk 16 (hy := eql) (h := ?_)
                  refine tk 17 (hy := (by first | exact pkT | exact pkF)) (h := ?_)
                  refine tk 18 (hy := (by first | exact pkT | exact pkF)) (h := ?_)
                  refine dn (h := ?_)
                  refine q_seq (h := ?_)
                  refine cd (by exact rfl) (fun h14 => ?_) (fun h14 => ?_)
                  · skip
                    have hKn := hyK.one hk1 he hlp hin (by first | exact .inl hs1 | exact .inr (by rw [hp]; exact congrArg some (of_decide_eq_true (by assumption))))
                    refine rg (h := ?_)
                    refine WL.y (hy := mv) (h := ?_)
                    refine WL.y (hy := mv) (h := ?_)
                    refine WL.y (hy := addI (hb := by omega)) (h := ?_)
                    refine WL.y (hy := ix (A := some ⟨bM, 0, none⟩) (m := n + 1) (hb := by omega)) (h := ?_)
                    refine stE (A := some ⟨bM, 0, none⟩) (k := y.i + 1) (j := 0) (hk := encB_get (List.getElem?_eq_getElem (by have := hyK.len; omega))) (h := ?_)
                    rw [show (encB y.bt).set (y.i + 1) ([Value.bool _].set 0 (.bool true)) = encB (y.bt.set (y.i + 1) true) from encB_set _ _ _]
                    refine nl (h := ?_)
                    refine q_blk_norm (h := ?_)
                    refine q_blk_norm (h := ?_)
                    refine q_seq (h := ?_)
                    refine rg (h := ?_)
                    refine WL.y (hy := mv) (h := ?_)
                    refine WL.y (hy := addI) (h := ?_)
                    refine WL.y (hy := asg) (h := ?_)
                    refine WL.cut (by repeat (first | exact Cut.nil | apply Cut.hit | apply Cut.miss (by exact rfl))) ?_
                    refine nl (h := ?_)
                    first
                      | (refine rn (x := y) ⟨y.i + 1, y.bt⟩ ⟨by dsimp only; omega, hKn⟩ (by dsimp only; omega) (by repeat (first | exact trivial | refine ⟨rfl, ?_⟩)) (by repeat (first | exact SubL.nil | (apply SubL.cons; (repeat (first | exact At.here | apply At.there))) | exact SubL.refl _ | apply SubL.skip)); done)
                      | (refine rn (x := y) ⟨y.i + 1, y.bt.set (y.i + 1) true⟩ ⟨by dsimp only; omega, hKn⟩ (by dsimp only; omega) (by repeat (first | exact trivial | refine ⟨rfl, ?_⟩)) (by repeat (first | exact SubL.nil | (apply SubL.cons; (repeat (first | exact At.here | apply At.there))) | exact SubL.refl _ | apply SubL.skip)); done)
                      | (refine rn (x := y) ⟨y.i + 1, g.2⟩ ⟨by dsimp only; omega, hKn⟩ (by dsimp only; omega) (by repeat (first | exact trivial | refine ⟨rfl, ?_⟩)) (by repeat (first | exact SubL.nil | (apply SubL.cons; (repeat (first | exact At.here | apply At.there))) | exact SubL.refl _ | apply SubL.skip)); done)
                      | (refine rn (x := y) ⟨y.i + 1, y.bt.set y.i (v1 || tstV q.m.sc x)⟩ ⟨by dsimp only; omega, hKn⟩ (by dsimp only; omega) (by repeat (first | exact trivial | refine ⟨rfl, ?_⟩)) (by repeat (first | exact SubL.nil | (apply SubL.cons; (repeat (first | exact At.here | apply At.there))) | exact SubL.refl _ | apply SubL.skip)); done)
                  · skip
                    have hKn := hyK.one_no hk1 hlp (by first | exact fun h9 => hin h9.1 | exact fun h9 => h9.2.elim hs1 (fun h8 => by rw [hp] at h8; have h7 : decide (p = x.side) = false := (by assumption); exact of_decide_eq_false h7 (Option.some.inj h8)))
                    refine skp (h := ?_)
                    refine q_blk_norm (h := ?_)
                    refine q_blk_norm (h := ?_)
                    refine q_seq (h := ?_)
                    refine rg (h := ?_)
                    refine WL.y (hy := mv) (h := ?_)
                    refine WL.y (hy := addI) (h := ?_)
                    refine WL.y (hy := asg) (h := ?_)
                    refine WL.cut (by repeat (first | exact Cut.nil | apply Cut.hit | apply Cut.miss (by exact rfl))) ?_
                    refine nl (h := ?_)
                    first
                      | (refine rn (x := y) ⟨y.i + 1, y.bt⟩ ⟨by dsimp only; omega, hKn⟩ (by dsimp only; omega) (by repeat (first | exact trivial | refine ⟨rfl, ?_⟩)) (by repeat (first | exact SubL.nil | (apply SubL.cons; (repeat (first | exact At.here | apply At.there))) | exact SubL.refl _ | apply SubL.skip)); done)
                      | (refine rn (x := y) ⟨y.i + 1, y.bt.set (y.i + 1) true⟩ ⟨by dsimp only; omega, hKn⟩ (by dsimp only; omega) (by repeat (first | exact trivial | refine ⟨rfl, ?_⟩)) (by repeat (first | exact SubL.nil | (apply SubL.cons; (repeat (first | exact At.here | apply At.there))) | exact SubL.refl _ | apply SubL.skip)); done)
                      | (refine rn (x := y) ⟨y.i + 1, g.2⟩ ⟨by dsimp only; omega, hKn⟩ (by dsimp only; omega) (by repeat (first | exact trivial | refine ⟨rfl, ?_⟩)) (by repeat (first | exact SubL.nil | (apply SubL.cons; (repeat (first | exact At.here | apply At.there))) | exact SubL.refl _ | apply SubL.skip)); done)
                      | (refine rn (x := y) ⟨y.i + 1, y.bt.set y.i (v1 || tstV q.m.sc x)⟩ ⟨by dsimp only; omega, hKn⟩ (by dsimp only; omega) (by repeat (first | exact trivial | refine ⟨rfl, ?_⟩)) (by repeat (first | exact SubL.nil | (apply SubL.cons; (repeat (first | exact At.here | apply At.there))) | exact SubL.refl _ | apply SubL.skip)); done)
              · skip
                have hin : ¬ y.i + 1 ≤ n := by have := of_decide_eq_false hb11; omega
                refine tkS 6 (h := ?_)
                refine tkS 7 (h := ?_)
                refine tkS 8 (h := ?_)
                refine tkS 9 (h := ?_)
                refine tkS 10 (h := ?_)
                refine tkS 11 (h := ?_)
                refine tkS 12 (h := ?_)
                refine tkS 13 (h := ?_)
                refine tkS 14 (h := ?_)
                refine tkS 15 (h := ?_)
                refine tkS 16 (h := ?_)
                refine tkS 17 (h := ?_)
                refine tk 18 (hy := (by first | exact pkT | exact pkF)) (h := ?_)
                refine dn (h := ?_)
                refine q_seq (h := ?_)
                refine cdF (h := ?_)
                have hKn := hyK.one_no hk1 hlp (by first | exact fun h9 => hin h9.1 | exact fun h9 => h9.2.elim hs1 (fun h8 => by rw [hp] at h8; have h7 : decide (p = x.side) = false := (by assumption); exact of_decide_eq_false h7 (Option.some.inj h8)))
                refine skp (h := ?_)
                refine q_blk_norm (h := ?_)
                refine q_blk_norm (h := ?_)
                refine q_seq (h := ?_)
                refine rg (h := ?_)
                refine WL.y (hy := mv) (h := ?_)
                refine WL.y (hy := addI) (h := ?_)
                refine WL.y (hy := asg) (h := ?_)
                refine WL.cut (by repeat (first | exact Cut.nil | apply Cut.hit | apply Cut.miss (by exact rfl))) ?_
                refine nl (h := ?_)
                first
                  | (refine rn (x := y) ⟨y.i + 1, y.bt⟩ ⟨by dsimp only; omega, hKn⟩ (by dsimp only; omega) (by repeat (first | exact trivial | refine ⟨rfl, ?_⟩)) (by repeat (first | exact SubL.nil | (apply SubL.cons; (repeat (first | exact At.here | apply At.there))) | exact SubL.refl _ | apply SubL.skip)); done)
                  | (refine rn (x := y) ⟨y.i + 1, y.bt.set (y.i + 1) true⟩ ⟨by dsimp only; omega, hKn⟩ (by dsimp only; omega) (by repeat (first | exact trivial | refine ⟨rfl, ?_⟩)) (by repeat (first | exact SubL.nil | (apply SubL.cons; (repeat (first | exact At.here | apply At.there))) | exact SubL.refl _ | apply SubL.skip)); done)
                  | (refine rn (x := y) ⟨y.i + 1, g.2⟩ ⟨by dsimp only; omega, hKn⟩ (by dsimp only; omega) (by repeat (first | exact trivial | refine ⟨rfl, ?_⟩)) (by repeat (first | exact SubL.nil | (apply SubL.cons; (repeat (first | exact At.here | apply At.there))) | exact SubL.refl _ | apply SubL.skip)); done)
                  | (refine rn (x := y) ⟨y.i + 1, y.bt.set y.i (v1 || tstV q.m.sc x)⟩ ⟨by dsimp only; omega, hKn⟩ (by dsimp only; omega) (by repeat (first | exact trivial | refine ⟨rfl, ?_⟩)) (by repeat (first | exact SubL.nil | (apply SubL.cons; (repeat (first | exact At.here | apply At.there))) | exact SubL.refl _ | apply SubL.skip)); done)
            · skip
              have hk1 : ¬ x.kind = 1 := of_decide_eq_false h10
              refine sq (h := ?_)
              refine rg (h := ?_)
              refine WL.y (hy := eql) (h := ?_)
              refine WL.y (hy := asg) (h := ?_)
              refine nl (h := ?_)
              refine q_seq (h := ?_)
              refine cd (by exact rfl) (fun h16 => ?_) (fun h16 => ?_)
              · skip
                have hk2 : x.kind = 2 := of_decide_eq_true h16
                have hpb := hxm.2.2.1 hk2
                obtain ⟨a, ha⟩ : ∃ a : Nat, (a : Int) = x.pair.1 := ⟨x.pair.1.toNat, by omega⟩
                refine sq (h := ?_)
                refine rg (h := ?_)
                refine WL.y (hy := (by first | exact fa | exact faE)) (h := ?_)
                refine WL.y (hy := (by first | exact fa | exact faE)) (h := ?_)
                refine WL.y (hy := (by first | exact ld | exact ldE)) (h := ?_)
                refine WL.y (hy := asg) (h := ?_)
                refine WL.cut (by repeat (first | exact Cut.nil | apply Cut.hit | apply Cut.miss (by exact rfl))) ?_
                refine nl (h := ?_)
                refine q_seq (h := ?_)
                refine bk (h := ?_)
                refine lp (X := Nat × List Bool) (I := fun g => PI x y.bt n y.i g.1 g.2) (le := fun g => [(2, .slice P n cp), (3, .pointer (some ⟨b0, 0, none⟩)), (8, .slice zm.A (n + 1) zm.c), (10, .slice v.A (n + 1) v.c), (11, .int .i64 v.j), (12, .pointer (some ⟨b4, 0, none⟩)), (13, .slice (some ⟨bM, 0, none⟩) (n + 1) (n + 1)), (14, .int .i64 y.i), (15, .int .i64 g.1)]) (Le := fun g => [.own (some ⟨bM, 0, none⟩) (n + 1) 4 1 (n + 1) (encB g.2), .blk b4 40 x.cells, .own v.A v.c 4 1 (n + 1) (encB v.bs), .own zm.A zm.c 73 12 (n + 1) (encM zm.ms), manyE true zm.U, .blk b0 26 (cardC f cf A na c), .ro P 1 n (encI ps), .ro A 4 na (encN xs)]) (μ := fun g => n + 1 - g.1) (a, y.bt) (PI.start hyK.len ha) (by repeat (first | exact trivial | refine ⟨rfl, ?_⟩ | refine ⟨by rw [ha]; rfl, ?_⟩)) (by repeat (first | exact SubL.nil | (apply SubL.cons; (repeat (first | exact At.here | apply At.there))) | exact SubL.refl _ | apply SubL.skip)) (fun g hg => ?_)
                have hgk := hg.kb
                refine sq (h := ?_)
                refine sq (h := ?_)
                refine rg (h := ?_)
                refine WL.y (hy := mv) (h := ?_)
                refine WL.y (hy := (by first | exact fa | exact faE)) (h := ?_)
                refine WL.y (hy := (by first | exact fa | exact faE)) (h := ?_)
                refine WL.y (hy := (by first | exact ld | exact ldE)) (h := ?_)
                refine WL.y (hy := leq) (h := ?_)
                refine WL.y (hy := mv) (h := ?_)
                apply brAnd 7 165 172 (by exact rfl)
                · intro hb17
                  refine un (h := ?_)
                  refine WL.y (hy := mv) (h := ?_)
                  refine un (h := ?_)
                  refine WL.y (hy := mv) (h := ?_)
                  refine un (h := ?_)
                  refine WL.y (hy := addI (hb := by omega)) (h := ?_)
                  refine un (h := ?_)
                  refine WL.y (hy := mv) (h := ?_)
                  refine un (h := ?_)
                  refine WL.y (hy := lenS) (h := ?_)
                  refine un (h := ?_)
                  refine WL.y (hy := lss) (h := ?_)
                  refine WL.y (hy := (by first | exact pkT | exact pkF)) (h := ?_)
                  exact mg (by repeat (first | exact trivial | refine ⟨rfl, ?_⟩ | refine ⟨by rw [hb17]; rfl, ?_⟩)) (by repeat (first | exact SubL.nil | (apply SubL.cons; (repeat (first | exact At.here | apply At.there))) | exact SubL.refl _ | apply SubL.skip))
                · intro hb17
                  repeat (first | refine un (h := ?_) | refine sk (h := ?_) | refine WL.y (hy := pkF) (h := ?_) | refine WL.y (hy := pkT) (h := ?_))
                  exact mg (by repeat (first | exact trivial | refine ⟨rfl, ?_⟩ | refine ⟨by rw [hb17]; rfl, ?_⟩)) (by repeat (first | exact SubL.nil | (apply SubL.cons; (repeat (first | exact At.here | apply At.there))) | exact SubL.refl _ | apply SubL.skip))
                refine nl (h := ?_)
                refine q_seq (h := ?_)
                refine cd (by exact rfl) (fun h18 => ?_) (fun h18 => ?_)
                · skip
                  have hk9 : (g.1 : Int) ≤ x.pair.2 ∧ y.i + g.1 < n + 1 := by
                    have g9 := h18
                    rw [Bool.and_eq_true, decide_eq_true_eq, decide_eq_true_eq] at g9
                    omega
                  have hgn := hg.next hk9.1 hk9.2
                  refine skp (h := ?_)
                  refine q_seq (h := ?_)
                  refine sq (h := ?_)
                  refine bk (h := ?_)
                  refine rg (h := ?_)
                  refine WL.y (hy := mv) (h := ?_)
                  refine WL.y (hy := mv) (h := ?_)
                  refine WL.y (hy := mv) (h := ?_)
                  refine WL.y (hy := addI (hb := by omega)) (h := ?_)
                  refine WL.y (hy := ix (A := some ⟨bM, 0, none⟩) (m := n + 1) (hb := by omega)) (h := ?_)
                  refine stE (A := some ⟨bM, 0, none⟩) (k := y.i + g.1) (j := 0) (hk := encB_get (List.getElem?_eq_getElem (by have := hg.len; omega))) (h := ?_)
                  rw [show (encB g.2).set (y.i + g.1) ([Value.bool _].set 0 (.bool true)) = encB (g.2.set (y.i + g.1) true) from encB_set _ _ _]
                  refine nl (h := ?_)
                  refine q_blk_norm (h := ?_)
                  refine q_seq (h := ?_)
                  refine rg (h := ?_)
                  refine WL.y (hy := mv) (h := ?_)
                  refine WL.y (hy := addI) (h := ?_)
                  refine WL.y (hy := asg) (h := ?_)
                  refine WL.cut (by repeat (first | exact Cut.nil | apply Cut.hit | apply Cut.miss (by exact rfl))) ?_
                  refine nl (h := ?_)
                  refine rn (x := g) (g.1 + 1, g.2.set (y.i + g.1) true) hgn (by dsimp only; omega) (by repeat (first | exact trivial | refine ⟨rfl, ?_⟩)) (by repeat (first | exact SubL.nil | (apply SubL.cons; (repeat (first | exact At.here | apply At.there))) | exact SubL.refl _ | apply SubL.skip))
                · skip
                  have hk9 : ¬ ((g.1 : Int) ≤ x.pair.2 ∧ y.i + g.1 < n + 1) := fun g8 => by
                    have g9 := h18
                    rw [Bool.and_eq_false_iff, decide_eq_false_iff_not, decide_eq_false_iff_not] at g9
                    omega
                  have hKn := hg.done hk2 ⟨hpb.2.1, hpb.2.2.1⟩ (by omega) hk9 he hlp hyK
                  refine et (h := ?_)
                  refine q_then_exit (h := ?_)
                  refine q_then_exit (h := ?_)
                  refine q_blk_hit (h := ?_)
                  refine q_blk_norm (h := ?_)
                  refine q_blk_norm (h := ?_)
                  refine q_seq (h := ?_)
                  refine rg (h := ?_)
                  refine WL.y (hy := mv) (h := ?_)
                  refine WL.y (hy := addI) (h := ?_)
                  refine WL.y (hy := asg) (h := ?_)
                  refine WL.cut (by repeat (first | exact Cut.nil | apply Cut.hit | apply Cut.miss (by exact rfl))) ?_
                  refine nl (h := ?_)
                  first
                    | (refine rn (x := y) ⟨y.i + 1, y.bt⟩ ⟨by dsimp only; omega, hKn⟩ (by dsimp only; omega) (by repeat (first | exact trivial | refine ⟨rfl, ?_⟩)) (by repeat (first | exact SubL.nil | (apply SubL.cons; (repeat (first | exact At.here | apply At.there))) | exact SubL.refl _ | apply SubL.skip)); done)
                    | (refine rn (x := y) ⟨y.i + 1, y.bt.set (y.i + 1) true⟩ ⟨by dsimp only; omega, hKn⟩ (by dsimp only; omega) (by repeat (first | exact trivial | refine ⟨rfl, ?_⟩)) (by repeat (first | exact SubL.nil | (apply SubL.cons; (repeat (first | exact At.here | apply At.there))) | exact SubL.refl _ | apply SubL.skip)); done)
                    | (refine rn (x := y) ⟨y.i + 1, g.2⟩ ⟨by dsimp only; omega, hKn⟩ (by dsimp only; omega) (by repeat (first | exact trivial | refine ⟨rfl, ?_⟩)) (by repeat (first | exact SubL.nil | (apply SubL.cons; (repeat (first | exact At.here | apply At.there))) | exact SubL.refl _ | apply SubL.skip)); done)
                    | (refine rn (x := y) ⟨y.i + 1, y.bt.set y.i (v1 || tstV q.m.sc x)⟩ ⟨by dsimp only; omega, hKn⟩ (by dsimp only; omega) (by repeat (first | exact trivial | refine ⟨rfl, ?_⟩)) (by repeat (first | exact SubL.nil | (apply SubL.cons; (repeat (first | exact At.here | apply At.there))) | exact SubL.refl _ | apply SubL.skip)); done)
              · skip
                have hk2 : ¬ x.kind = 2 := of_decide_eq_false h16
                obtain ⟨q, hq⟩ : ∃ q, zm.ms[y.i]? = some q := ⟨_, List.getElem?_eq_getElem (by omega)⟩
                have hqe := encM_at hq
                obtain ⟨hqp, hqs, _⟩ := hzm.ok y.i q hq
                obtain ⟨hqf, hq1, hqi⟩ := playTo_inv hf hqp
                have hqb := playTo_bd hf hfs (by omega) hqp
                have hql : q.m.st.length ≤ 1000000 := by have := hqb.s; omega
                obtain ⟨v1, hv1⟩ : ∃ v1, y.bt[y.i]? = some v1 := ⟨_, List.getElem?_eq_getElem (by have := hyK.len; omega)⟩
                have hv1e := encB_get hv1
                have hKn := hyK.test hk1 hk2 he (by omega) hv1 ((tst_hold (x := x) hqf (playTo_rch hf hqp) (by rw [hq1]; omega) (by have := hxm.1; omega)).trans (by rw [(play_spot hf hqp).1]))
                refine sq (h := ?_)
                refine rg (h := ?_)
                refine WL.y (hy := mv) (h := ?_)
                refine WL.y (hy := mv) (h := ?_)
                refine WL.y (hy := ix (A := zm.A) (m := n + 1) (hb := by omega)) (h := ?_)
                refine WL.y (hy := (by first | exact fa | exact faE)) (h := ?_)
                refine WL.y (hy := ldEA (A := zm.A) (k := y.i) (hk := hqe)) (h := ?_)
                refine al (h := fun b5 => ?_)
                first | refine stA (h := ?_) | refine stEA (h := ?_)
                refine nl (h := ?_)
                refine q_seq (h := ?_)
                refine sq (h := ?_)
                refine WC.getRow hqs (by repeat (first | exact At.here | apply At.there)) ?_
                refine rgD (by kernel_rfl) [(8, .blk b5 55 [.slice q.sA q.m.st.length q.sc, .int .i64 q.m.g.1, .int .i64 q.m.g.2, .int .i64 q.m.p.1, .int .i64 q.m.p.2, .int .i64 0, .int .i64 q.m.ends, .int .i64 q.m.balls, .int .i64 q.m.winner]), (1000000, .own zm.A zm.c 73 12 (n + 1) (encM zm.ms)), (1000000, .blk b0 26 (cardC f cf A na c))] (by repeat (first | exact HS.nil | (apply HS.keep; (repeat (first | exact At.here | apply At.there))) | (apply HS.ro; (repeat (first | exact Rds.ro | exact Rds.own | apply Rds.there))))) (h := ?_)
                refine tk 0 (hy := (by first | exact fa | exact faE)) (h := ?_)
                refine tk 1 (hy := (by first | exact ldA | exact ldEA)) (h := ?_)
                refine tk 2 (hy := mv) (h := ?_)
                refine tk 3 (hy := mv) (h := ?_)
                refine tk 4 (hy := ix (A := zm.A) (m := n + 1) (hb := by omega)) (h := ?_)
                refine tk 5 (hy := ldEA (A := zm.A) (k := y.i) (hk := hqe)) (h := ?_)
                refine one 6 (h := ?_)
                refine cl0 (hc := fun w hS => C_ref1_Next f q.m hqf q.sA q.sc q.gA q.gc hf (by rw [hq1]; omega) hqi hqb w (hS.get (by repeat (first | exact Rds.ro | exact Rds.own | apply Rds.there)))) (h := ?_)
                refine nx (h := ?_)
                refine tk 7 (hy := (by first | exact fa | exact faE)) (h := ?_)
                refine one 8 (h := ?_)
                first | refine st (h := ?_) | refine stE (h := ?_)
                refine nx (h := ?_)
                refine dn (h := ?_)
                refine q_seq (h := ?_)
                refine rg (h := ?_)
                refine WL.y (hy := mv) (h := ?_)
                refine WL.y (hy := mv) (h := ?_)
                refine WL.y (hy := mv) (h := ?_)
                refine WL.y (hy := mv) (h := ?_)
                refine WL.y (hy := ix (A := some ⟨bM, 0, none⟩) (m := n + 1) (hb := by omega)) (h := ?_)
                refine WL.y (hy := ldE (A := some ⟨bM, 0, none⟩) (k := y.i) (hk := hv1e)) (h := ?_)
                refine WL.y (hy := mv) (h := ?_)
                apply brOr 4 124 128 (by exact rfl)
                · intro hb19
                  refine un (h := ?_)
                  refine WL.y (hy := (by first | exact ldA | exact ldEA)) (h := ?_)
                  refine un (h := ?_)
                  refine WL.y (hy := (by first | exact ldA | exact ldEA)) (h := ?_)
                  refine un (h := ?_)
                  refine cl0 (hc := fun w hS => C_ref3_True q.m.sc q.sA q.sc x w (hS.get (by repeat (first | exact Rds.ro | exact Rds.own | apply Rds.there))) hql) (h := ?_)
                  refine WL.y (hy := (by first | exact pkT | exact pkF)) (h := ?_)
                  exact mg (by repeat (first | exact trivial | refine ⟨rfl, ?_⟩ | refine ⟨by rw [hb19]; rfl, ?_⟩)) (by repeat (first | exact SubL.nil | (apply SubL.cons; (repeat (first | exact At.here | apply At.there))) | exact SubL.refl _ | apply SubL.skip))
                · intro hb19
                  repeat (first | refine un (h := ?_) | refine sk (h := ?_) | refine WL.y (hy := pkF) (h := ?_) | refine WL.y (hy := pkT) (h := ?_))
                  exact mg (by repeat (first | exact trivial | refine ⟨rfl, ?_⟩ | refine ⟨by rw [hb19]; rfl, ?_⟩)) (by repeat (first | exact SubL.nil | (apply SubL.cons; (repeat (first | exact At.here | apply At.there))) | exact SubL.refl _ | apply SubL.skip))
                refine WL.y (hy := ix (A := some ⟨bM, 0, none⟩) (m := n + 1) (hb := by omega)) (h := ?_)
                refine stE (A := some ⟨bM, 0, none⟩) (k := y.i) (j := 0) (hk := hv1e) (h := ?_)
                rw [show (encB y.bt).set y.i ([Value.bool v1].set 0 (.bool (v1 || tstV q.m.sc x))) = encB (y.bt.set y.i (v1 || tstV q.m.sc x)) from encB_set _ _ _]
                refine nl (h := ?_)
                refine q_blk_norm (h := ?_)
                refine q_blk_norm (h := ?_)
                refine q_seq (h := ?_)
                refine rg (h := ?_)
                refine WL.y (hy := mv) (h := ?_)
                refine WL.y (hy := addI) (h := ?_)
                refine WL.y (hy := asg) (h := ?_)
                refine WL.cut (by repeat (first | exact Cut.nil | apply Cut.hit | apply Cut.miss (by exact rfl))) ?_
                refine nl (h := ?_)
                first
                  | (refine rn (x := y) ⟨y.i + 1, y.bt⟩ ⟨by dsimp only; omega, hKn⟩ (by dsimp only; omega) (by repeat (first | exact trivial | refine ⟨rfl, ?_⟩)) (by repeat (first | exact SubL.nil | (apply SubL.cons; (repeat (first | exact At.here | apply At.there))) | exact SubL.refl _ | apply SubL.skip)); done)
                  | (refine rn (x := y) ⟨y.i + 1, y.bt.set (y.i + 1) true⟩ ⟨by dsimp only; omega, hKn⟩ (by dsimp only; omega) (by repeat (first | exact trivial | refine ⟨rfl, ?_⟩)) (by repeat (first | exact SubL.nil | (apply SubL.cons; (repeat (first | exact At.here | apply At.there))) | exact SubL.refl _ | apply SubL.skip)); done)
                  | (refine rn (x := y) ⟨y.i + 1, g.2⟩ ⟨by dsimp only; omega, hKn⟩ (by dsimp only; omega) (by repeat (first | exact trivial | refine ⟨rfl, ?_⟩)) (by repeat (first | exact SubL.nil | (apply SubL.cons; (repeat (first | exact At.here | apply At.there))) | exact SubL.refl _ | apply SubL.skip)); done)
                  | (refine rn (x := y) ⟨y.i + 1, y.bt.set y.i (v1 || tstV q.m.sc x)⟩ ⟨by dsimp only; omega, hKn⟩ (by dsimp only; omega) (by repeat (first | exact trivial | refine ⟨rfl, ?_⟩)) (by repeat (first | exact SubL.nil | (apply SubL.cons; (repeat (first | exact At.here | apply At.there))) | exact SubL.refl _ | apply SubL.skip)); done)
        · skip
          have hin1 : y.i = n + 1 := by have := of_decide_eq_false h8; omega
          have hvn : ∀ t, y.bt[t]? = some true ↔ Fit f first ps xs (v.j + 1) t := fun t => by
            rw [hyK.ok t]
            constructor
            · rintro ⟨m, _, hm, hh⟩
              exact ⟨x, m, hx, (hvb m).1 hm, hh⟩
            · rintro ⟨x', m, hx', hm, hh⟩
              rw [hx] at hx'; cases hx'
              exact ⟨m, by have := fit_le hm; omega, (hvb m).2 hm, hh⟩
          refine et (h := ?_)
          refine q_then_exit (h := ?_)
          refine q_then_exit (h := ?_)
          refine q_blk_hit (h := ?_)
          refine q_seq (h := ?_)
          refine rg (h := ?_)
          refine WL.y (hy := mv) (h := ?_)
          refine WL.y (hy := asg) (h := ?_)
          refine WL.cut (by repeat (first | exact Cut.nil | apply Cut.hit | apply Cut.miss (by exact rfl))) ?_
          refine nl (h := ?_)
          refine q_blk_norm (h := ?_)
          refine q_seq (h := ?_)
          refine rg (h := ?_)
          refine WL.y (hy := mv) (h := ?_)
          refine WL.y (hy := addI) (h := ?_)
          refine WL.y (hy := asg) (h := ?_)
          refine WL.cut (by repeat (first | exact Cut.nil | apply Cut.hit | apply Cut.miss (by exact rfl))) ?_
          refine nl (h := ?_)
          refine rn (x := v) ⟨v.j + 1, y.bt, some ⟨bM, 0, none⟩, n + 1⟩ ⟨by dsimp only; omega, hyK.len, hvn⟩ (by dsimp only; omega) (by repeat (first | exact trivial | refine ⟨rfl, ?_⟩)) (by repeat (first | exact SubL.nil | (apply SubL.cons; (repeat (first | exact At.here | apply At.there))) | exact SubL.refl _ | apply SubL.skip))
      · skip
        have hjn : v.j = na := by have := of_decide_eq_false h7; omega
        rw [hjn] at hvb
        obtain ⟨r, hr⟩ : ∃ r, v.bs[n]? = some r := ⟨_, List.getElem?_eq_getElem (by omega)⟩
        have hre := encB_get hr
        refine et (h := ?_)
        refine q_then_exit (h := ?_)
        refine q_then_exit (h := ?_)
        refine q_blk_hit (h := ?_)
        refine q_seq (h := ?_)
        refine sq (h := ?_)
        refine rg (h := ?_)
        refine WL.y (hy := mv) (h := ?_)
        refine WL.y (hy := mv) (h := ?_)
        refine WL.y (hy := lenS) (h := ?_)
        refine WL.y (hy := ix (A := v.A) (m := n + 1) (hb := by omega)) (h := ?_)
        refine WL.y (hy := ldE (A := v.A) (k := n) (hk := hre)) (h := ?_)
        refine WL.y (hy := asg) (h := ?_)
        refine nl (h := ?_)
        refine q_seq (h := ?_)
        refine rtn (h := ?_)
        refine q_ret (hR := ?_)
        exact fun w hS => ⟨r, ⟨fun h9 => ⟨hfs, hfc2, by omega, ⟨zm.l.m, by rw [hlp]; exact hzp⟩, by rw [hlx, hlp]; exact (hvb n).1 (h9 ▸ hr)⟩, fun hM => by
          have h9 := (hvb n).2 (by have := hM.fit; rwa [hlx, hlp] at this)
          rw [hr] at h9; exact Option.some.inj h9⟩, rfl, hS.sub (by repeat (first | exact SubL.nil | (apply SubL.cons; (repeat (first | exact At.here | apply At.there))) | exact SubL.refl _ | apply SubL.skip))⟩
end Go.Proofs.Ytncoimjgjpcipaa

namespace Go.Proofs.Ytncoimjgjpcipaa
open Go Go.RowKit

noncomputable def mokB (f : Fmt) (cf first : Int) (xs : List Nt) (ps : List Int) : Bool := @decide (MOk f cf first xs ps) (Classical.propDecidable _)
theorem mokB_iff {f : Fmt} {cf first : Int} {xs : List Nt} {ps : List Int} : mokB f cf first xs ps = true ↔ MOk f cf first xs ps := @decide_eq_true_iff _ (Classical.propDecidable _)
theorem C_ref3_IsMatchB (f : Fmt) (cf : Int) (xs : List Nt) (A : Option Addr) (na c : Nat) (first : Int) (ps : List Int) (P : Option Addr) (n cp : Nat) (w : World) (h : Rd w A 4 na (encN xs)) (h' : Rd w P 1 n (encI ps)) (hn : n ≤ 9223372036854775807) (hx0 : na ≤ 60) (hck : chkC f cf xs = 0) :
    C0 Try.prog 21 [.agg (cardC f cf A na c).toArray, .int .i64 first, .slice P n cp] w (.bool (mokB f cf first xs ps)) := by
  refine ⟨Calls.mono (C_ref3_IsMatch f cf xs A na c first ps P n cp w h h' hn hx0 hck).out fun e w' ⟨b, hb, he, hs⟩ => ⟨?_, hs⟩⟩
  rw [he]
  congr 2
  rw [Bool.eq_iff_iff, hb, mokB_iff]
structure TrM (f : Fmt) (cf first : Int) (xs : List Nt) (ps : List Int) (m : MS) : Prop where
  o : playO f first ps = some m
  k : spotOf m ∈ keyC (crowdC f cf xs)
  lo : (cntC f cf xs).1 ≤ ps.length
  hi : (ps.length : Int) ≤ (cntC f cf xs).2
  f : m.f = f
  fs : m.first = first
  r : Rch m
theorem MOk.play {f : Fmt} {cf first : Int} {xs : List Nt} {ps : List Int} (h : MOk f cf first xs ps) (hR : Rdy f cf xs) : ∃ m, TrM f cf first xs ps m := by
  obtain ⟨m, hm⟩ := h.pl
  obtain ⟨h1, h2⟩ := play_can hR.ok hm
  have h3 := h.fs
  obtain ⟨e, he, e1, e2, e3⟩ := true_match h1 (beg_in h.fs h.cf) h.fit
  obtain ⟨_, _, s3⟩ := span_le (crowdC f cf xs) (600, 0)
  have s4 := s3 e he
  have hc0 := (chk_facts hR.c).1
  have hp : preE f first ps.length = 0 := by
    have hs : sideBad first = false := by rcases h3 with rfl | rfl <;> rfl
    unfold preE
    rw [hc0, hs, decide_eq_false (show ¬ (600 : Int) < ps.length by have := h.n; omega)]; rfl
  refine ⟨m, by rw [playO, hp]; exact hm, by rw [h2, ← e1]; exact List.mem_map.2 ⟨e, he, rfl⟩, ?_, ?_, (playTo_inv hR.ok hm).1, (playTo_inv hR.ok hm).2.1, playTo_rch hR.ok hm⟩
  · show (spanC _ _).1 ≤ _; omega
  · show _ ≤ (spanC _ _).2; omega
theorem TrM.bad {f : Fmt} {cf first : Int} {xs : List Nt} {ps : List Int} {m : MS} (h : TrM f cf first xs ps m) (hR : Rdy f cf xs) : badC f cf xs = -1 ∧ fewV f cf xs = 0 ∧ posE f cf xs = 0 ∧ cntV f cf xs = cntC f cf xs := by
  have h1 := hR.bad_key.2 ⟨_, h.k⟩
  have h2 : posE f cf xs = 0 := by rw [hR.pos, if_pos h1]
  exact ⟨h1, (few_zero hR.cf xs).2 h1, h2, by rw [cntV, h2]; rfl⟩
theorem fnd_succR {zs : List BA} {b : Brd} {j : Nat} {y : BA} (h : zs[j]? = some y) : fndX zs b (j + 1) = (fndX zs b j || decide (y.b = b)) := by
  rw [fnd_succ h]
  congr 1
  exact decide_eq_decide.2 ⟨fun e => e.symm, fun e => e.symm⟩
end Go.Proofs.Ytncoimjgjpcipaa

namespace Go.Proofs.Ytncoimjgjpcipaa
open Go Go.RowKit

set_option maxRecDepth 100000 in
theorem K_CardTrue (f : Fmt) (cf : Int) (xs : List Nt) (A : Option Addr) (n c : Nat) (first : Int) (ps : List Int) (P : Option Addr) (np cp : Nat) (w : World) (h : Rd w A 4 n (encN xs)) (h' : Rd w P 1 np (encI ps)) (hn : n ≤ 9223372036854775807) (hnp : np ≤ 9223372036854775807) : C0 Try.prog 6 [.agg (cardC f cf A n c).toArray, .agg #[.int .i64 first, .slice P np cp]] w (.bool true) := by
  have hlen : xs.length = n := by have := h.len; rwa [encN_len] at this
  have hlp : ps.length = np := by have := h'.len; rwa [encI_len] at this
  refine ⟨en Try.func6 Try.ntmps6 (((St.init w).share (e := .ro A 4 n (encN xs)) h rfl rfl rfl).share (e := .ro P 1 np (encI ps)) h' rfl rfl rfl) (h := fun F => ?_)⟩
  refine sq (h := ?_)
  refine rg (h := ?_)
  refine bxA (h := fun b0 => ?_)
  refine bxA (h := fun b1 => ?_)
  refine WL.y (hy := asg) (h := ?_)
  refine nl (h := ?_)
  refine q_seq (h := ?_)
  refine sq (h := ?_)
  refine sq (h := ?_)
  refine rg (h := ?_)
  refine WL.y (hy := (by first | exact ldA | exact ldEA)) (h := ?_)
  refine cl0 (hc := fun w hS => C_law3_ready f cf xs A n c w (hS.get (by repeat (first | exact Rds.ro | exact Rds.own | apply Rds.there))) hn) (h := ?_)
  refine WL.y (hy := notB) (h := ?_)
  refine WL.y (hy := mv) (h := ?_)
  apply brOr 5 20 25 (by exact rfl)
  · intro hb0
    refine un (h := ?_)
    refine WL.y (hy := (by first | exact fa | exact faE)) (h := ?_)
    refine un (h := ?_)
    refine WL.y (hy := (by first | exact ld | exact ldE)) (h := ?_)
    refine un (h := ?_)
    refine WL.y (hy := lenS) (h := ?_)
    refine un (h := ?_)
    refine WL.y (hy := gtr) (h := ?_)
    refine WL.y (hy := (by first | exact pkT | exact pkF)) (h := ?_)
    exact mg (by repeat (first | exact trivial | refine ⟨rfl, ?_⟩ | refine ⟨by rw [hb0]; rfl, ?_⟩)) (by repeat (first | exact SubL.nil | (apply SubL.cons; (repeat (first | exact At.here | apply At.there))) | exact SubL.refl _ | apply SubL.skip))
  · intro hb0
    repeat (first | refine un (h := ?_) | refine sk (h := ?_) | refine WL.y (hy := pkF) (h := ?_) | refine WL.y (hy := pkT) (h := ?_))
    exact mg (by repeat (first | exact trivial | refine ⟨rfl, ?_⟩ | refine ⟨by rw [hb0]; rfl, ?_⟩)) (by repeat (first | exact SubL.nil | (apply SubL.cons; (repeat (first | exact At.here | apply At.there))) | exact SubL.refl _ | apply SubL.skip))
  refine WL.y (hy := mv) (h := ?_)
  apply brOr 8 26 34 (by exact rfl)
  · intro hb1
    have h0 := hb1
    simp only [Bool.or_eq_false_iff, Bool.not_eq_false', decide_eq_false_iff_not] at h0
    have hR0 := rdy_facts h0.1
    have hn0 := hR0.n
    refine un (h := ?_)
    refine WL.y (hy := (by first | exact ldA | exact ldEA)) (h := ?_)
    refine un (h := ?_)
    refine WL.y (hy := (by first | exact fa | exact faE)) (h := ?_)
    refine un (h := ?_)
    refine WL.y (hy := (by first | exact ld | exact ldE)) (h := ?_)
    refine un (h := ?_)
    refine WL.y (hy := (by first | exact fa | exact faE)) (h := ?_)
    refine un (h := ?_)
    refine WL.y (hy := (by first | exact ld | exact ldE)) (h := ?_)
    refine un (h := ?_)
    refine cl0 (hc := fun w hS => C_ref3_IsMatchB f cf xs A n c first ps P np cp w (hS.get (by repeat (first | exact Rds.ro | exact Rds.own | apply Rds.there))) (hS.get (by repeat (first | exact Rds.ro | exact Rds.own | apply Rds.there))) hnp (by omega) hR0.c) (h := ?_)
    refine un (h := ?_)
    refine WL.y (hy := notB) (h := ?_)
    refine WL.y (hy := (by first | exact pkT | exact pkF)) (h := ?_)
    exact mg (by repeat (first | exact trivial | refine ⟨rfl, ?_⟩ | refine ⟨by rw [hb1]; rfl, ?_⟩)) (by repeat (first | exact SubL.nil | (apply SubL.cons; (repeat (first | exact At.here | apply At.there))) | exact SubL.refl _ | apply SubL.skip))
  · intro hb1
    repeat (first | refine un (h := ?_) | refine sk (h := ?_) | refine WL.y (hy := pkF) (h := ?_) | refine WL.y (hy := pkT) (h := ?_))
    exact mg (by repeat (first | exact trivial | refine ⟨rfl, ?_⟩ | refine ⟨by rw [hb1]; rfl, ?_⟩)) (by repeat (first | exact SubL.nil | (apply SubL.cons; (repeat (first | exact At.here | apply At.there))) | exact SubL.refl _ | apply SubL.skip))
  refine nl (h := ?_)
  refine q_seq (h := ?_)
  refine cd (by exact rfl) (fun h2 => ?_) (fun h2 => ?_)
  · skip
    refine sq (h := ?_)
    refine rg (h := ?_)
    refine cl0 (hc := fun w hS => C_law3_works w) (h := ?_)
    refine WL.y (hy := asg) (h := ?_)
    refine nl (h := ?_)
    refine q_seq (h := ?_)
    refine rtn (h := ?_)
    refine q_then_ret (h := ?_)
    refine q_ret (hR := ?_)
    exact fun w hS => ⟨rfl, hS.sub (by repeat (first | exact SubL.nil | (apply SubL.cons; (repeat (first | exact At.here | apply At.there))) | exact SubL.refl _ | apply SubL.skip))⟩
  · skip
    have h0 := h2
    simp only [Bool.or_eq_false_iff, Bool.not_eq_false', decide_eq_false_iff_not] at h0
    have hR := rdy_facts h0.1.1
    have hM := mokB_iff.1 h0.2
    have hn12 := hR.n
    obtain ⟨m, hT⟩ := hM.play hR
    obtain ⟨ht1, ht2, ht3, ht4⟩ := hT.bad hR
    have htl := hT.lo
    have hth := hT.hi
    rw [hlp] at htl hth
    have hms : m.st.length ≤ 9223372036854775807 := by
      obtain ⟨m9, hm9⟩ := hM.pl
      have e9 : some m = some m9 := by
        have g9 := hT.o
        unfold playO at g9
        rw [← hm9]
        cases hq : !decide (preE f first ps.length = 0)
        · rw [hq] at g9; exact g9.symm
        · rw [hq] at g9; cases g9
      cases e9
      have := (playTo_bd hR.ok hM.fs (by omega) hm9).s
      omega
    refine skp (h := ?_)
    refine q_seq (h := ?_)
    refine sq (h := ?_)
    refine rg (h := ?_)
    refine WL.y (hy := (by first | exact ldA | exact ldEA)) (h := ?_)
    refine cl0 (hc := fun w hS => C_card_First f cf xs A n c w (hS.get (by repeat (first | exact Rds.ro | exact Rds.own | apply Rds.there))) hn (fun _ => by have := hR.m; omega)) (h := ?_)
    rw [hR.all, hR.c, ht1]
    refine WL.y (hy := mv) (h := ?_)
    refine WL.y (hy := ex) (h := ?_)
    refine WL.y (hy := ex) (h := ?_)
    refine WL.y (hy := asg) (h := ?_)
    refine WL.y (hy := asg) (h := ?_)
    refine nl (h := ?_)
    refine q_seq (h := ?_)
    refine sq (h := ?_)
    refine rg (h := ?_)
    refine WL.y (hy := (by first | exact ldA | exact ldEA)) (h := ?_)
    refine cl0 (hc := fun w hS => C_card_Fewest f cf xs A n c w (hS.get (by repeat (first | exact Rds.ro | exact Rds.own | apply Rds.there))) hn hR.sm) (h := ?_)
    rw [hR.few, hR.c, ht2]
    refine WL.y (hy := mv) (h := ?_)
    refine WL.y (hy := ex) (h := ?_)
    refine WL.y (hy := ex) (h := ?_)
    refine WL.y (hy := asg) (h := ?_)
    refine WL.y (hy := asg) (h := ?_)
    refine nl (h := ?_)
    refine q_seq (h := ?_)
    refine sq (h := ?_)
    refine rg (h := ?_)
    refine WL.y (hy := (by first | exact ldA | exact ldEA)) (h := ?_)
    refine cl (hc := fun w hS => C_card_BoardsT f cf xs A n c w (hS.get (by repeat (first | exact Rds.ro | exact Rds.own | apply Rds.there))) hn (fun _ => by have := hR.m; omega) hR.b) (h := fun qa hqa => ?_)
    rw [ht3]
    have hqal := hqa.len
    refine WL.y (hy := mv) (h := ?_)
    refine WL.y (hy := ex) (h := ?_)
    refine WL.y (hy := ex) (h := ?_)
    refine WL.y (hy := asg) (h := ?_)
    refine WL.y (hy := asg) (h := ?_)
    refine nl (h := ?_)
    refine q_seq (h := ?_)
    refine sq (h := ?_)
    refine rg (h := ?_)
    refine WL.y (hy := (by first | exact ldA | exact ldEA)) (h := ?_)
    refine cl0 (hc := fun w hS => C_card_Count f cf xs A n c w (hS.get (by repeat (first | exact Rds.ro | exact Rds.own | apply Rds.there))) hn (fun _ => by have := hR.m; omega)) (h := ?_)
    rw [ht3, ht4]
    refine WL.y (hy := mv) (h := ?_)
    refine WL.y (hy := ex) (h := ?_)
    refine WL.y (hy := ex) (h := ?_)
    refine al (h := fun b2 => ?_)
    first | refine stA (h := ?_) | refine stEA (h := ?_)
    refine WL.y (hy := asg) (h := ?_)
    refine nl (h := ?_)
    refine q_seq (h := ?_)
    refine sq (h := ?_)
    refine rg (h := ?_)
    refine WL.y (hy := (by first | exact fa | exact faE)) (h := ?_)
    refine WL.y (hy := (by first | exact ldA | exact ldEA)) (h := ?_)
    refine WL.y (hy := (by first | exact fa | exact faE)) (h := ?_)
    refine WL.y (hy := (by first | exact ld | exact ldE)) (h := ?_)
    refine WL.y (hy := (by first | exact fa | exact faE)) (h := ?_)
    refine WL.y (hy := (by first | exact ld | exact ldE)) (h := ?_)
    refine cl (hc := fun w hS => C_score_Play f first ps P np cp w (hS.get (by repeat (first | exact Rds.ro | exact Rds.own | apply Rds.there))) hnp) (h := fun u _ => ?_)
    rw [playE_some hT.o, hT.o]
    refine WL.y (hy := mv) (h := ?_)
    refine WL.y (hy := ex) (h := ?_)
    refine WL.y (hy := ex) (h := ?_)
    refine al (h := fun b3 => ?_)
    first | refine stA (h := ?_) | refine stEA (h := ?_)
    refine WL.y (hy := asg) (h := ?_)
    refine nl (h := ?_)
    refine q_seq (h := ?_)
    refine sq (h := ?_)
    refine sq (h := ?_)
    refine rg (h := ?_)
    refine WL.y (hy := mv) (h := ?_)
    refine WL.y (hy := neq) (h := ?_)
    refine WL.y (hy := mv) (h := ?_)
    apply brOr 3 68 71 (by exact rfl)
    · intro hb3
      refine un (h := ?_)
      refine WL.y (hy := mv) (h := ?_)
      refine un (h := ?_)
      refine WL.y (hy := neq) (h := ?_)
      refine WL.y (hy := (by first | exact pkT | exact pkF)) (h := ?_)
      exact mg (by repeat (first | exact trivial | refine ⟨rfl, ?_⟩ | refine ⟨by rw [hb3]; rfl, ?_⟩)) (by repeat (first | exact SubL.nil | (apply SubL.cons; (repeat (first | exact At.here | apply At.there))) | exact SubL.refl _ | apply SubL.skip))
    · intro hb3
      repeat (first | refine un (h := ?_) | refine sk (h := ?_) | refine WL.y (hy := pkF) (h := ?_) | refine WL.y (hy := pkT) (h := ?_))
      exact mg (by repeat (first | exact trivial | refine ⟨rfl, ?_⟩ | refine ⟨by rw [hb3]; rfl, ?_⟩)) (by repeat (first | exact SubL.nil | (apply SubL.cons; (repeat (first | exact At.here | apply At.there))) | exact SubL.refl _ | apply SubL.skip))
    refine WL.y (hy := mv) (h := ?_)
    apply brOr 3 72 75 (by exact rfl)
    · intro hb4
      refine un (h := ?_)
      refine WL.y (hy := mv) (h := ?_)
      refine un (h := ?_)
      refine WL.y (hy := neq) (h := ?_)
      refine WL.y (hy := (by first | exact pkT | exact pkF)) (h := ?_)
      exact mg (by repeat (first | exact trivial | refine ⟨rfl, ?_⟩ | refine ⟨by rw [hb4]; rfl, ?_⟩)) (by repeat (first | exact SubL.nil | (apply SubL.cons; (repeat (first | exact At.here | apply At.there))) | exact SubL.refl _ | apply SubL.skip))
    · intro hb4
      repeat (first | refine un (h := ?_) | refine sk (h := ?_) | refine WL.y (hy := pkF) (h := ?_) | refine WL.y (hy := pkT) (h := ?_))
      exact mg (by repeat (first | exact trivial | refine ⟨rfl, ?_⟩ | refine ⟨by rw [hb4]; rfl, ?_⟩)) (by repeat (first | exact SubL.nil | (apply SubL.cons; (repeat (first | exact At.here | apply At.there))) | exact SubL.refl _ | apply SubL.skip))
    refine WL.y (hy := mv) (h := ?_)
    apply brOr 3 76 79 (by exact rfl)
    · intro hb5
      refine un (h := ?_)
      refine WL.y (hy := mv) (h := ?_)
      refine un (h := ?_)
      refine WL.y (hy := neq) (h := ?_)
      refine WL.y (hy := (by first | exact pkT | exact pkF)) (h := ?_)
      exact mg (by repeat (first | exact trivial | refine ⟨rfl, ?_⟩ | refine ⟨by rw [hb5]; rfl, ?_⟩)) (by repeat (first | exact SubL.nil | (apply SubL.cons; (repeat (first | exact At.here | apply At.there))) | exact SubL.refl _ | apply SubL.skip))
    · intro hb5
      repeat (first | refine un (h := ?_) | refine sk (h := ?_) | refine WL.y (hy := pkF) (h := ?_) | refine WL.y (hy := pkT) (h := ?_))
      exact mg (by repeat (first | exact trivial | refine ⟨rfl, ?_⟩ | refine ⟨by rw [hb5]; rfl, ?_⟩)) (by repeat (first | exact SubL.nil | (apply SubL.cons; (repeat (first | exact At.here | apply At.there))) | exact SubL.refl _ | apply SubL.skip))
    refine WL.y (hy := mv) (h := ?_)
    apply brOr 3 80 83 (by exact rfl)
    · intro hb6
      refine un (h := ?_)
      refine WL.y (hy := mv) (h := ?_)
      refine un (h := ?_)
      refine WL.y (hy := neq) (h := ?_)
      refine WL.y (hy := (by first | exact pkT | exact pkF)) (h := ?_)
      exact mg (by repeat (first | exact trivial | refine ⟨rfl, ?_⟩ | refine ⟨by rw [hb6]; rfl, ?_⟩)) (by repeat (first | exact SubL.nil | (apply SubL.cons; (repeat (first | exact At.here | apply At.there))) | exact SubL.refl _ | apply SubL.skip))
    · intro hb6
      repeat (first | refine un (h := ?_) | refine sk (h := ?_) | refine WL.y (hy := pkF) (h := ?_) | refine WL.y (hy := pkT) (h := ?_))
      exact mg (by repeat (first | exact trivial | refine ⟨rfl, ?_⟩ | refine ⟨by rw [hb6]; rfl, ?_⟩)) (by repeat (first | exact SubL.nil | (apply SubL.cons; (repeat (first | exact At.here | apply At.there))) | exact SubL.refl _ | apply SubL.skip))
    refine WL.y (hy := mv) (h := ?_)
    apply brOr 3 84 87 (by exact rfl)
    · intro hb7
      refine un (h := ?_)
      refine WL.y (hy := mv) (h := ?_)
      refine un (h := ?_)
      refine WL.y (hy := neq) (h := ?_)
      refine WL.y (hy := (by first | exact pkT | exact pkF)) (h := ?_)
      exact mg (by repeat (first | exact trivial | refine ⟨rfl, ?_⟩ | refine ⟨by rw [hb7]; rfl, ?_⟩)) (by repeat (first | exact SubL.nil | (apply SubL.cons; (repeat (first | exact At.here | apply At.there))) | exact SubL.refl _ | apply SubL.skip))
    · intro hb7
      repeat (first | refine un (h := ?_) | refine sk (h := ?_) | refine WL.y (hy := pkF) (h := ?_) | refine WL.y (hy := pkT) (h := ?_))
      exact mg (by repeat (first | exact trivial | refine ⟨rfl, ?_⟩ | refine ⟨by rw [hb7]; rfl, ?_⟩)) (by repeat (first | exact SubL.nil | (apply SubL.cons; (repeat (first | exact At.here | apply At.there))) | exact SubL.refl _ | apply SubL.skip))
    refine WL.y (hy := mv) (h := ?_)
    apply brOr 3 88 91 (by exact rfl)
    · intro hb8
      refine un (h := ?_)
      refine WL.y (hy := mv) (h := ?_)
      refine un (h := ?_)
      refine WL.y (hy := neq) (h := ?_)
      refine WL.y (hy := (by first | exact pkT | exact pkF)) (h := ?_)
      exact mg (by repeat (first | exact trivial | refine ⟨rfl, ?_⟩ | refine ⟨by rw [hb8]; rfl, ?_⟩)) (by repeat (first | exact SubL.nil | (apply SubL.cons; (repeat (first | exact At.here | apply At.there))) | exact SubL.refl _ | apply SubL.skip))
    · intro hb8
      repeat (first | refine un (h := ?_) | refine sk (h := ?_) | refine WL.y (hy := pkF) (h := ?_) | refine WL.y (hy := pkT) (h := ?_))
      exact mg (by repeat (first | exact trivial | refine ⟨rfl, ?_⟩ | refine ⟨by rw [hb8]; rfl, ?_⟩)) (by repeat (first | exact SubL.nil | (apply SubL.cons; (repeat (first | exact At.here | apply At.there))) | exact SubL.refl _ | apply SubL.skip))
    refine WL.y (hy := mv) (h := ?_)
    apply brOr 7 92 99 (by exact rfl)
    · intro hb9
      refine un (h := ?_)
      refine WL.y (hy := (by first | exact fa | exact faE)) (h := ?_)
      refine un (h := ?_)
      refine WL.y (hy := (by first | exact ld | exact ldE)) (h := ?_)
      refine un (h := ?_)
      refine WL.y (hy := lenS) (h := ?_)
      refine un (h := ?_)
      refine WL.y (hy := (by first | exact fa | exact faE)) (h := ?_)
      refine un (h := ?_)
      refine WL.y (hy := (by first | exact ld | exact ldE)) (h := ?_)
      refine un (h := ?_)
      refine WL.y (hy := lss) (h := ?_)
      refine WL.y (hy := (by first | exact pkT | exact pkF)) (h := ?_)
      exact mg (by repeat (first | exact trivial | refine ⟨rfl, ?_⟩ | refine ⟨by rw [hb9]; rfl, ?_⟩)) (by repeat (first | exact SubL.nil | (apply SubL.cons; (repeat (first | exact At.here | apply At.there))) | exact SubL.refl _ | apply SubL.skip))
    · intro hb9
      repeat (first | refine un (h := ?_) | refine sk (h := ?_) | refine WL.y (hy := pkF) (h := ?_) | refine WL.y (hy := pkT) (h := ?_))
      exact mg (by repeat (first | exact trivial | refine ⟨rfl, ?_⟩ | refine ⟨by rw [hb9]; rfl, ?_⟩)) (by repeat (first | exact SubL.nil | (apply SubL.cons; (repeat (first | exact At.here | apply At.there))) | exact SubL.refl _ | apply SubL.skip))
    refine WL.y (hy := mv) (h := ?_)
    apply brOr 7 100 107 (by exact rfl)
    · intro hb10
      refine un (h := ?_)
      refine WL.y (hy := (by first | exact fa | exact faE)) (h := ?_)
      refine un (h := ?_)
      refine WL.y (hy := (by first | exact ld | exact ldE)) (h := ?_)
      refine un (h := ?_)
      refine WL.y (hy := lenS) (h := ?_)
      refine un (h := ?_)
      refine WL.y (hy := (by first | exact fa | exact faE)) (h := ?_)
      refine un (h := ?_)
      refine WL.y (hy := (by first | exact ld | exact ldE)) (h := ?_)
      refine un (h := ?_)
      refine WL.y (hy := gtr) (h := ?_)
      refine WL.y (hy := (by first | exact pkT | exact pkF)) (h := ?_)
      exact mg (by repeat (first | exact trivial | refine ⟨rfl, ?_⟩ | refine ⟨by rw [hb10]; rfl, ?_⟩)) (by repeat (first | exact SubL.nil | (apply SubL.cons; (repeat (first | exact At.here | apply At.there))) | exact SubL.refl _ | apply SubL.skip))
    · intro hb10
      repeat (first | refine un (h := ?_) | refine sk (h := ?_) | refine WL.y (hy := pkF) (h := ?_) | refine WL.y (hy := pkT) (h := ?_))
      exact mg (by repeat (first | exact trivial | refine ⟨rfl, ?_⟩ | refine ⟨by rw [hb10]; rfl, ?_⟩)) (by repeat (first | exact SubL.nil | (apply SubL.cons; (repeat (first | exact At.here | apply At.there))) | exact SubL.refl _ | apply SubL.skip))
    refine nl (h := ?_)
    refine q_seq (h := ?_)
    refine cd (by exact rfl) (fun h11 => ?_) (fun h11 => ?_)
    · skip
      have h0 := h11
      simp only [Bool.or_eq_true, decide_eq_true_eq, Bool.not_eq_true', decide_eq_false_iff_not, not_true_eq_false, false_or] at h0
      exfalso
      omega
    · skip
      refine skp (h := ?_)
      refine q_seq (h := ?_)
      refine sq (h := ?_)
      refine rg (h := ?_)
      refine WL.y (hy := asg) (h := ?_)
      refine WL.cut (by repeat (first | exact Cut.nil | apply Cut.hit | apply Cut.miss (by exact rfl))) ?_
      refine nl (h := ?_)
      refine q_seq (h := ?_)
      refine sq (h := ?_)
      refine sq (h := ?_)
      refine rg (h := ?_)
      refine WL.y (hy := asg) (h := ?_)
      refine nl (h := ?_)
      refine q_seq (h := ?_)
      refine bk (h := ?_)
      refine lp (X := Nat) (I := fun i => i ≤ qa.zs.length) (le := fun i => [(9, .slice qa.A qa.zs.length qa.c), (13, .pointer (some ⟨b3, 0, none⟩)), (15, .bool (fndX qa.zs ⟨m.st, m.g, m.p⟩ i)), (16, .int .i64 i)]) (Le := fun _ => [.blk b3 55 ((scO (some m)).cells u.1 u.2), .own u.1 u.2 38 2 (scO (some m)).st.length (encP (scO (some m)).st), .own qa.A qa.c 44 5 qa.zs.length (encX qa.zs), manyE true (qa.zs.map rowX)]) (μ := fun i => qa.zs.length - i) 0 (Nat.zero_le _) (by repeat (first | exact trivial | refine ⟨rfl, ?_⟩)) (by repeat (first | exact SubL.nil | (apply SubL.cons; (repeat (first | exact At.here | apply At.there))) | exact SubL.refl _ | apply SubL.skip)) (fun i hi => ?_)
      refine sq (h := ?_)
      refine sq (h := ?_)
      refine rg (h := ?_)
      refine WL.y (hy := mv) (h := ?_)
      refine WL.y (hy := mv) (h := ?_)
      refine WL.y (hy := lenS) (h := ?_)
      refine WL.y (hy := lss) (h := ?_)
      refine nl (h := ?_)
      refine q_seq (h := ?_)
      refine cd (by exact rfl) (fun h12 => ?_) (fun h12 => ?_)
      · skip
        have hin : i < qa.zs.length := by have := of_decide_eq_true h12; omega
        obtain ⟨x1, hx1⟩ : ∃ x, qa.zs[i]? = some x := ⟨_, List.getElem?_eq_getElem hin⟩
        have hfs := fnd_succR (b := ⟨m.st, m.g, m.p⟩) hx1
        refine skp (h := ?_)
        refine q_seq (h := ?_)
        refine sq (h := ?_)
        refine bk (h := ?_)
        refine rgD (by kernel_rfl) [(1000000, .own qa.A qa.c 44 5 qa.zs.length (encX qa.zs)), (1000000, .blk b3 55 ((scO (some m)).cells u.1 u.2))] (by repeat (first | exact HS.nil | (apply HS.keep; (repeat (first | exact At.here | apply At.there))) | (apply HS.ro; (repeat (first | exact Rds.ro | exact Rds.own | apply Rds.there))))) (h := ?_)
        refine tk 0 (hy := mv) (h := ?_)
        refine tk 1 (hy := mv) (h := ?_)
        refine brH (g := 115) (by exact rfl) (fun hb13 => ?_) (fun hb13 => ?_)
        · skip
          rw [hb13, Bool.true_or] at hfs
          refine tkS 2 (h := ?_)
          refine tkS 3 (h := ?_)
          refine tkS 4 (h := ?_)
          refine tkS 5 (h := ?_)
          refine tkS 6 (h := ?_)
          refine tkS 7 (h := ?_)
          refine tkS 8 (h := ?_)
          refine tk 9 (hy := (by first | exact pkT | exact pkF)) (h := ?_)
          refine tk 10 (hy := asg) (h := ?_)
          refine dn (h := ?_)
          refine q_blk_norm (h := ?_)
          refine q_seq (h := ?_)
          refine rg (h := ?_)
          refine WL.y (hy := mv) (h := ?_)
          refine WL.y (hy := addI) (h := ?_)
          refine WL.y (hy := asg) (h := ?_)
          refine nl (h := ?_)
          refine rn (x := i) (i + 1) hin (by omega) (by rw [hfs]; repeat (first | exact trivial | refine ⟨rfl, ?_⟩)) (by repeat (first | exact SubL.nil | (apply SubL.cons; (repeat (first | exact At.here | apply At.there))) | exact SubL.refl _ | apply SubL.skip))
        · skip
          rw [hb13, Bool.false_or] at hfs
          refine tk 2 (hy := mv) (h := ?_)
          refine tk 3 (hy := mv) (h := ?_)
          refine tk 4 (hy := ix (A := qa.A) (m := qa.zs.length)) (h := ?_)
          refine tk 5 (hy := ldEW (A := qa.A) (k := i) (cs := x1.cells) (hk := encX_at hx1)) (h := ?_)
          refine tk 6 (hy := (by first | exact fa | exact faE)) (h := ?_)
          refine tk 7 (hy := (by first | exact ldA | exact ldEA)) (h := ?_)
          refine one 8 (h := ?_)
          refine un (h := ?_)
          refine cl0 (hc := fun w hS => C_ref3_SameBoard x1.b ⟨m.st, m.g, m.p⟩ x1.A u.1 x1.b.st.length x1.c m.st.length u.2 w (many_ok (List.mem_of_getElem? hx1) w (hS.ok _ (by repeat (first | exact List.mem_cons_self | apply List.mem_cons_of_mem)))) (hS.get (by repeat (first | exact Rds.ro | exact Rds.own | apply Rds.there))) (by have := (hqa.sm x1 (List.mem_of_getElem? hx1)).n; omega) (by omega)) (h := ?_)
          refine nx (h := ?_)
          refine tk 9 (hy := (by first | exact pkT | exact pkF)) (h := ?_)
          refine tk 10 (hy := asg) (h := ?_)
          refine dn (h := ?_)
          refine q_blk_norm (h := ?_)
          refine q_seq (h := ?_)
          refine rg (h := ?_)
          refine WL.y (hy := mv) (h := ?_)
          refine WL.y (hy := addI) (h := ?_)
          refine WL.y (hy := asg) (h := ?_)
          refine nl (h := ?_)
          refine rn (x := i) (i + 1) hin (by omega) (by rw [hfs]; repeat (first | exact trivial | refine ⟨rfl, ?_⟩)) (by repeat (first | exact SubL.nil | (apply SubL.cons; (repeat (first | exact At.here | apply At.there))) | exact SubL.refl _ | apply SubL.skip))
      · skip
        have hin : i = qa.zs.length := by have := of_decide_eq_false h12; omega
        rw [hin, fnd_mem (b := ⟨m.st, m.g, m.p⟩) (zs := qa.zs) (by rw [hqa.yes ht3]; exact ((boards_facts _).2 _).2 ⟨spotOf m, hT.k, rfl⟩)]
        refine et (h := ?_)
        refine q_then_exit (h := ?_)
        refine q_then_exit (h := ?_)
        refine q_blk_hit (h := ?_)
        refine q_seq (h := ?_)
        refine sq (h := ?_)
        refine rg (h := ?_)
        refine WL.y (hy := mv) (h := ?_)
        refine WL.y (hy := mv) (h := ?_)
        apply brAnd 2 125 127 (by exact rfl)
        · intro hb14
          refine un (h := ?_)
          refine cl0 (hc := fun w hS => C_law3_works w) (h := ?_)
          refine WL.y (hy := (by first | exact pkT | exact pkF)) (h := ?_)
          exact mg (by repeat (first | exact trivial | refine ⟨rfl, ?_⟩ | refine ⟨by rw [hb14]; rfl, ?_⟩)) (by repeat (first | exact SubL.nil | (apply SubL.cons; (repeat (first | exact At.here | apply At.there))) | exact SubL.refl _ | apply SubL.skip))
        · intro hb14
          repeat (first | refine un (h := ?_) | refine sk (h := ?_) | refine WL.y (hy := pkF) (h := ?_) | refine WL.y (hy := pkT) (h := ?_))
          exact mg (by repeat (first | exact trivial | refine ⟨rfl, ?_⟩ | refine ⟨by rw [hb14]; rfl, ?_⟩)) (by repeat (first | exact SubL.nil | (apply SubL.cons; (repeat (first | exact At.here | apply At.there))) | exact SubL.refl _ | apply SubL.skip))
        refine WL.y (hy := asg) (h := ?_)
        refine nl (h := ?_)
        refine q_seq (h := ?_)
        refine rtn (h := ?_)
        refine q_ret (hR := ?_)
        exact fun w hS => ⟨rfl, hS.sub (by repeat (first | exact SubL.nil | (apply SubL.cons; (repeat (first | exact At.here | apply At.there))) | exact SubL.refl _ | apply SubL.skip))⟩
end Go.Proofs.Ytncoimjgjpcipaa
