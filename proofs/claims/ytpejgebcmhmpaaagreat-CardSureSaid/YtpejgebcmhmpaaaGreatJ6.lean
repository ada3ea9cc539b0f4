/- The texts of the walk, part 6. -/
import Derived.Test.YtpejgebcmhmpaaaGreatJ5
namespace Go.Proofs.YtpejgebcmhmpaaaGreat
open Go Go.RowKit

def tstV (s : Sc) (x : Nt) : Bool := bif decide (x.kind = 3) then decide (s.p = x.pair) else bif decide (x.kind = 4) then decide (s.g = x.pair) && decide (s.p = (0, 0)) else
  bif decide (x.kind = 5) then decide (wonV s.st = x.pair) && (decide (s.g = (0, 0)) && decide (s.p = (0, 0))) else bif decide (x.kind = 6) then decide (0 ≤ s.server) && decide (s.server % 2 = x.side) else bif decide (x.kind = 7) then decide (s.winner = x.side) else false
set_option maxRecDepth 100000 in
theorem C_ref3_True (s : Sc) (A : Option Addr) (c : Nat) (x : Nt) (w : World) (h : Rd w A 2 s.st.length (encP s.st)) (hn : s.st.length ≤ 1000000) : C0 Tryz.prog 53 [s.val A c, x.val] w (.bool (tstV s x)) := by
  refine ⟨en Tryz.func53 Tryz.ntmps53 ((St.init w).share (e := .ro A 2 s.st.length (encP s.st)) h rfl rfl rfl) (h := fun F => ?_)⟩
  refine sq (h := ?_)
  refine rg (h := ?_)
  refine bxA (h := fun b0 => ?_)
  refine bxA (h := fun b1 => ?_)
  refine WL.y (hy := asg) (h := ?_)
  refine WL.cut (by repeat (first | exact Cut.nil | apply Cut.hit | apply Cut.miss (by exact rfl))) ?_
  refine nl (h := ?_)
  refine q_seq (h := ?_)
  refine sq (h := ?_)
  refine rg (h := ?_)
  refine WL.y (hy := (by first | exact fa | exact faE)) (h := ?_)
  refine WL.y (hy := (by first | exact ldA | exact ldEA)) (h := ?_)
  refine al (h := fun b2 => ?_)
  first | refine stA (h := ?_) | refine stEA (h := ?_)
  refine nl (h := ?_)
  refine q_seq (h := ?_)
  refine sq (h := ?_)
  refine rg (h := ?_)
  refine WL.y (hy := (by first | exact fa | exact faE)) (h := ?_)
  refine WL.y (hy := (by first | exact ldA | exact ldEA)) (h := ?_)
  refine WL.y (hy := bd) (h := ?_)
  refine WL.y (hy := eqlT) (h := ?_)
  refine WL.y (hy := asg) (h := ?_)
  refine nl (h := ?_)
  refine q_seq (h := ?_)
  refine sq (h := ?_)
  refine sq (h := ?_)
  refine rg (h := ?_)
  refine WL.y (hy := (by first | exact fa | exact faE)) (h := ?_)
  refine WL.y (hy := (by first | exact ld | exact ldE)) (h := ?_)
  refine nl (h := ?_)
  refine q_seq (h := ?_)
  refine bk (h := ?_)
  refine sq (h := ?_)
  refine rg (h := ?_)
  refine WL.y (hy := eql) (h := ?_)
  refine WL.y (hy := asg) (h := ?_)
  refine nl (h := ?_)
  refine q_seq (h := ?_)
  refine cd (by exact rfl) (fun h0 => ?_) (fun h0 => ?_)
  · skip
    have k3 : x.kind = 3 := of_decide_eq_true h0
    refine sq (h := ?_)
    refine rg (h := ?_)
    refine WL.y (hy := (by first | exact fa | exact faE)) (h := ?_)
    refine WL.y (hy := (by first | exact ldA | exact ldEA)) (h := ?_)
    refine WL.y (hy := (by first | exact fa | exact faE)) (h := ?_)
    refine WL.y (hy := (by first | exact ldA | exact ldEA)) (h := ?_)
    refine WL.y (hy := eqlT) (h := ?_)
    refine WL.y (hy := asg) (h := ?_)
    refine WL.cut (by repeat (first | exact Cut.nil | apply Cut.hit | apply Cut.miss (by exact rfl))) ?_
    refine nl (h := ?_)
    refine q_seq (h := ?_)
    refine rtn (h := ?_)
    refine q_blk_ret (h := ?_)
    refine q_then_ret (h := ?_)
    refine q_ret (hR := ?_)
    refine fun w hS => ⟨?_, hS.sub (by repeat (first | exact SubL.nil | (apply SubL.cons; (repeat (first | exact At.here | apply At.there))) | exact SubL.refl _ | apply SubL.skip))⟩
    clear hS
    clear h
    simp_all [tstV, Prod.ext_iff, resV, Bool.and_assoc]
  · skip
    have k3 : ¬ x.kind = 3 := of_decide_eq_false h0
    refine sq (h := ?_)
    refine rg (h := ?_)
    refine WL.y (hy := eql) (h := ?_)
    refine WL.y (hy := asg) (h := ?_)
    refine nl (h := ?_)
    refine q_seq (h := ?_)
    refine cd (by exact rfl) (fun h1 => ?_) (fun h1 => ?_)
    · skip
      have k4 : x.kind = 4 := of_decide_eq_true h1
      refine sq (h := ?_)
      refine rg (h := ?_)
      refine WL.y (hy := (by first | exact fa | exact faE)) (h := ?_)
      refine WL.y (hy := (by first | exact ldA | exact ldEA)) (h := ?_)
      refine WL.y (hy := (by first | exact fa | exact faE)) (h := ?_)
      refine WL.y (hy := (by first | exact ldA | exact ldEA)) (h := ?_)
      refine WL.y (hy := eqlT) (h := ?_)
      refine WL.y (hy := mv) (h := ?_)
      apply brAnd 2 29 31 (by exact rfl)
      · intro hb2
        refine un (h := ?_)
        refine WL.y (hy := mv) (h := ?_)
        refine WL.y (hy := (by first | exact pkT | exact pkF)) (h := ?_)
        exact mg (by repeat (first | exact trivial | refine ⟨rfl, ?_⟩ | refine ⟨by rw [hb2]; rfl, ?_⟩)) (by repeat (first | exact SubL.nil | (apply SubL.cons; (repeat (first | exact At.here | apply At.there))) | exact SubL.refl _ | apply SubL.skip))
      · intro hb2
        repeat (first | refine un (h := ?_) | refine sk (h := ?_) | refine WL.y (hy := pkF) (h := ?_) | refine WL.y (hy := pkT) (h := ?_))
        exact mg (by repeat (first | exact trivial | refine ⟨rfl, ?_⟩ | refine ⟨by rw [hb2]; rfl, ?_⟩)) (by repeat (first | exact SubL.nil | (apply SubL.cons; (repeat (first | exact At.here | apply At.there))) | exact SubL.refl _ | apply SubL.skip))
      refine WL.y (hy := asg) (h := ?_)
      refine WL.cut (by repeat (first | exact Cut.nil | apply Cut.hit | apply Cut.miss (by exact rfl))) ?_
      refine nl (h := ?_)
      refine q_seq (h := ?_)
      refine rtn (h := ?_)
      refine q_blk_ret (h := ?_)
      refine q_then_ret (h := ?_)
      refine q_ret (hR := ?_)
      refine fun w hS => ⟨?_, hS.sub (by repeat (first | exact SubL.nil | (apply SubL.cons; (repeat (first | exact At.here | apply At.there))) | exact SubL.refl _ | apply SubL.skip))⟩
      clear hS
      clear h
      simp_all [tstV, Prod.ext_iff, resV, Bool.and_assoc]
    · skip
      have k4 : ¬ x.kind = 4 := of_decide_eq_false h1
      refine sq (h := ?_)
      refine rg (h := ?_)
      refine WL.y (hy := eql) (h := ?_)
      refine WL.y (hy := asg) (h := ?_)
      refine nl (h := ?_)
      refine q_seq (h := ?_)
      refine cd (by exact rfl) (fun h3 => ?_) (fun h3 => ?_)
      · skip
        have k5 : x.kind = 5 := of_decide_eq_true h3
        refine sq (h := ?_)
        refine rgD (by kernel_rfl) [(1000000, .blk b0 54 (s.cells A c)), (1000000, .blk b1 45 x.cells), (1000000, .blk b2 52 [.slice A s.st.length c, .int .i64 s.g.1, .int .i64 s.g.2, .int .i64 s.p.1, .int .i64 s.p.2])] (by repeat (first | exact HS.nil | (apply HS.keep; (repeat (first | exact At.here | apply At.there))) | (apply HS.ro; (repeat (first | exact Rds.ro | exact Rds.own | apply Rds.there))))) (h := ?_)
        refine tk 0 (hy := (by first | exact fa | exact faE)) (h := ?_)
        refine tk 1 (hy := (by first | exact ld | exact ldE)) (h := ?_)
        refine tk 3 (hy := (by first | exact fa | exact faE)) (h := ?_)
        refine tk 4 (hy := (by first | exact ldA | exact ldEA)) (h := ?_)
        refine one 2 (h := ?_)
        refine cl0 (hc := fun w hS => C_ref1_Won s.st A s.st.length c w (hS.get (by repeat (first | exact Rds.ro | exact Rds.own | apply Rds.there))) hn) (h := ?_)
        refine nx (h := ?_)
        refine tk 5 (hy := eqlT) (h := ?_)
        refine tk 6 (hy := mv) (h := ?_)
        refine brH (g := 40) (by exact rfl) (fun hb4 => ?_) (fun hb4 => ?_)
        · skip
          refine tk 7 (hy := (by first | exact fa | exact faE)) (h := ?_)
          refine tk 8 (hy := (by first | exact ldA | exact ldEA)) (h := ?_)
          refine tk 9 (hy := bd) (h := ?_)
          refine tk 10 (hy := eqlT) (h := ?_)
          refine tk 11 (hy := (by first | exact pkT | exact pkF)) (h := ?_)
          refine tk 12 (hy := mv) (h := ?_)
          refine brH (g := 46) (by exact rfl) (fun hb5 => ?_) (fun hb5 => ?_)
          · skip
            refine tk 13 (hy := mv) (h := ?_)
            refine tk 14 (hy := (by first | exact pkT | exact pkF)) (h := ?_)
            refine tk 15 (hy := asg) (h := ?_)
            refine dn (h := ?_)
            refine q_seq (h := ?_)
            refine rtn (h := ?_)
            refine q_blk_ret (h := ?_)
            refine q_then_ret (h := ?_)
            refine q_ret (hR := ?_)
            refine fun w hS => ⟨?_, hS.sub (by repeat (first | exact SubL.nil | (apply SubL.cons; (repeat (first | exact At.here | apply At.there))) | exact SubL.refl _ | apply SubL.skip))⟩
            clear hS
            clear h
            simp_all [tstV, Prod.ext_iff, resV, Bool.and_assoc]
          · skip
            refine tkS 13 (h := ?_)
            refine tk 14 (hy := (by first | exact pkT | exact pkF)) (h := ?_)
            refine tk 15 (hy := asg) (h := ?_)
            refine dn (h := ?_)
            refine q_seq (h := ?_)
            refine rtn (h := ?_)
            refine q_blk_ret (h := ?_)
            refine q_then_ret (h := ?_)
            refine q_ret (hR := ?_)
            refine fun w hS => ⟨?_, hS.sub (by repeat (first | exact SubL.nil | (apply SubL.cons; (repeat (first | exact At.here | apply At.there))) | exact SubL.refl _ | apply SubL.skip))⟩
            clear hS
            clear h
            simp_all [tstV, Prod.ext_iff, resV, Bool.and_assoc]
        · skip
          refine tkS 7 (h := ?_)
          refine tkS 8 (h := ?_)
          refine tkS 9 (h := ?_)
          refine tkS 10 (h := ?_)
          refine tk 11 (hy := (by first | exact pkT | exact pkF)) (h := ?_)
          refine tk 12 (hy := mv) (h := ?_)
          refine tkS 13 (h := ?_)
          refine tk 14 (hy := (by first | exact pkT | exact pkF)) (h := ?_)
          refine tk 15 (hy := asg) (h := ?_)
          refine dn (h := ?_)
          refine q_seq (h := ?_)
          refine rtn (h := ?_)
          refine q_blk_ret (h := ?_)
          refine q_then_ret (h := ?_)
          refine q_ret (hR := ?_)
          refine fun w hS => ⟨?_, hS.sub (by repeat (first | exact SubL.nil | (apply SubL.cons; (repeat (first | exact At.here | apply At.there))) | exact SubL.refl _ | apply SubL.skip))⟩
          clear hS
          clear h
          simp_all [tstV, Prod.ext_iff, resV, Bool.and_assoc]
      · skip
        have k5 : ¬ x.kind = 5 := of_decide_eq_false h3
        refine sq (h := ?_)
        refine rg (h := ?_)
        refine WL.y (hy := eql) (h := ?_)
        refine WL.y (hy := asg) (h := ?_)
        refine nl (h := ?_)
        refine q_seq (h := ?_)
        refine cd (by exact rfl) (fun h6 => ?_) (fun h6 => ?_)
        · skip
          have k6 : x.kind = 6 := of_decide_eq_true h6
          refine sq (h := ?_)
          refine rg (h := ?_)
          refine WL.y (hy := (by first | exact fa | exact faE)) (h := ?_)
          refine WL.y (hy := (by first | exact ld | exact ldE)) (h := ?_)
          refine WL.y (hy := geq) (h := ?_)
          refine WL.y (hy := mv) (h := ?_)
          apply brAnd 7 54 61 (by exact rfl)
          · intro hb7
            have hs0 : 0 ≤ s.server := of_decide_eq_true hb7
            refine un (h := ?_)
            refine WL.y (hy := (by first | exact fa | exact faE)) (h := ?_)
            refine un (h := ?_)
            refine WL.y (hy := (by first | exact ld | exact ldE)) (h := ?_)
            refine un (h := ?_)
            refine WL.y (hy := remI) (h := ?_)
            refine un (h := ?_)
            refine WL.y (hy := (by first | exact fa | exact faE)) (h := ?_)
            refine un (h := ?_)
            refine WL.y (hy := (by first | exact ld | exact ldE)) (h := ?_)
            refine un (h := ?_)
            refine WL.y (hy := eql) (h := ?_)
            refine WL.y (hy := (by first | exact pkT | exact pkF)) (h := ?_)
            exact mg (by repeat (first | exact trivial | refine ⟨rfl, ?_⟩ | refine ⟨by rw [hb7]; rfl, ?_⟩)) (by repeat (first | exact SubL.nil | (apply SubL.cons; (repeat (first | exact At.here | apply At.there))) | exact SubL.refl _ | apply SubL.skip))
          · intro hb7
            repeat (first | refine un (h := ?_) | refine sk (h := ?_) | refine WL.y (hy := pkF) (h := ?_) | refine WL.y (hy := pkT) (h := ?_))
            exact mg (by repeat (first | exact trivial | refine ⟨rfl, ?_⟩ | refine ⟨by rw [hb7]; rfl, ?_⟩)) (by repeat (first | exact SubL.nil | (apply SubL.cons; (repeat (first | exact At.here | apply At.there))) | exact SubL.refl _ | apply SubL.skip))
          refine WL.y (hy := asg) (h := ?_)
          refine WL.cut (by repeat (first | exact Cut.nil | apply Cut.hit | apply Cut.miss (by exact rfl))) ?_
          refine nl (h := ?_)
          refine q_seq (h := ?_)
          refine rtn (h := ?_)
          refine q_blk_ret (h := ?_)
          refine q_then_ret (h := ?_)
          refine q_ret (hR := ?_)
          refine fun w hS => ⟨?_, hS.sub (by repeat (first | exact SubL.nil | (apply SubL.cons; (repeat (first | exact At.here | apply At.there))) | exact SubL.refl _ | apply SubL.skip))⟩
          clear hS
          clear h
          simp_all [tstV, Prod.ext_iff, resV, Bool.and_assoc]
        · skip
          have k6 : ¬ x.kind = 6 := of_decide_eq_false h6
          refine sq (h := ?_)
          refine rg (h := ?_)
          refine WL.y (hy := eql) (h := ?_)
          refine WL.y (hy := asg) (h := ?_)
          refine nl (h := ?_)
          refine q_seq (h := ?_)
          refine cd (by exact rfl) (fun h8 => ?_) (fun h8 => ?_)
          · skip
            have k7 : x.kind = 7 := of_decide_eq_true h8
            refine sq (h := ?_)
            refine rg (h := ?_)
            refine WL.y (hy := (by first | exact fa | exact faE)) (h := ?_)
            refine WL.y (hy := (by first | exact ld | exact ldE)) (h := ?_)
            refine WL.y (hy := (by first | exact fa | exact faE)) (h := ?_)
            refine WL.y (hy := (by first | exact ld | exact ldE)) (h := ?_)
            refine WL.y (hy := eql) (h := ?_)
            refine WL.y (hy := asg) (h := ?_)
            refine WL.cut (by repeat (first | exact Cut.nil | apply Cut.hit | apply Cut.miss (by exact rfl))) ?_
            refine nl (h := ?_)
            refine q_seq (h := ?_)
            refine rtn (h := ?_)
            refine q_blk_ret (h := ?_)
            refine q_then_ret (h := ?_)
            refine q_ret (hR := ?_)
            refine fun w hS => ⟨?_, hS.sub (by repeat (first | exact SubL.nil | (apply SubL.cons; (repeat (first | exact At.here | apply At.there))) | exact SubL.refl _ | apply SubL.skip))⟩
            clear hS
            clear h
            simp_all [tstV, Prod.ext_iff, resV, Bool.and_assoc]
          · skip
            have k7 : ¬ x.kind = 7 := of_decide_eq_false h8
            refine skp (h := ?_)
            refine q_blk_norm (h := ?_)
            refine q_seq (h := ?_)
            refine sq (h := ?_)
            refine rg (h := ?_)
            refine WL.y (hy := asg) (h := ?_)
            refine WL.cut (by repeat (first | exact Cut.nil | apply Cut.hit | apply Cut.miss (by exact rfl))) ?_
            refine nl (h := ?_)
            refine q_seq (h := ?_)
            refine rtn (h := ?_)
            refine q_ret (hR := ?_)
            refine fun w hS => ⟨?_, hS.sub (by repeat (first | exact SubL.nil | (apply SubL.cons; (repeat (first | exact At.here | apply At.there))) | exact SubL.refl _ | apply SubL.skip))⟩
            clear hS
            clear h
            simp_all [tstV, Prod.ext_iff, resV, Bool.and_assoc]
theorem tst_hold {f : Fmt} {m : MS} (hmf : m.f = f) (hr : Rch m) (hfs : 0 ≤ m.first ∧ m.first ≤ 1) {x : Nt} (h : 3 ≤ x.kind ∧ x.kind ≤ 7) : tstV m.sc x = holdS f x (spotOf m) := by
  subst hmf
  unfold tstV holdS
  rw [← rch_win hr, ← rch_srv hfs hr]
  show (bif decide (x.kind = 3) then decide (m.p = x.pair) else bif decide (x.kind = 4) then decide (m.g = x.pair) && decide (m.p = (0, 0)) else
    bif decide (x.kind = 5) then decide (wonV m.st = x.pair) && (decide (m.g = (0, 0)) && decide (m.p = (0, 0))) else bif decide (x.kind = 6) then decide (0 ≤ m.server) && decide (m.server % 2 = x.side) else bif decide (x.kind = 7) then decide (m.winner = x.side) else false) =
    (bif decide (x.kind = 3) then decide (m.p = x.pair) else bif decide (x.kind = 4) then decide (m.g = x.pair) && decide (m.p = (0, 0)) else
    bif decide (x.kind = 5) then decide (wonV m.st = x.pair) && (decide (m.g = (0, 0)) && decide (m.p = (0, 0))) else bif decide (x.kind = 6) then decide (0 ≤ m.server) && decide (m.server % 2 = x.side) else decide (m.winner = x.side))
  by_cases h7 : x.kind = 7
  · rw [h7]; rfl
  · cases h3 : decide (x.kind = 3)
    · cases h4 : decide (x.kind = 4)
      · cases h5 : decide (x.kind = 5)
        · cases h6 : decide (x.kind = 6)
          · simp only [decide_eq_false_iff_not] at h3 h4 h5 h6; omega
          · rfl
        · rfl
      · rfl
    · rfl
theorem T_ref1_PointU' (f : Fmt) (m : MS) (hmf : m.f = f) (side K : Int) (sA : Option Addr) (sc : Nat) (gA : Option Addr) (gc : Nat) (U : List Row) (hUs : (⟨sA, 2, m.st.length, encP m.st⟩ : Row) ∈ U) (hUg : (⟨gA, 7, m.gs.length, encG m.gs⟩ : Row) ∈ U) (hf : f.Ok) (hB : m.Bd K) (hK : K ≤ 990) (hi : m.Inv) (hs : side = 0 ∨ side = 1) :
    Tr Tryz.prog 51 [f.val, (refOf m).val sA sc gA gc, .int .i64 side] [manyE true U] (fun x : RU => PtU U (refOf (pointV m side)) x) (fun x => (refOf (pointV m side)).val x.sA x.sc x.gA x.gc) (fun x => [manyE true x.U]) := by
  subst hmf
  have h := T_ref1_PointU m.f (refOf m) side K sA sc gA gc U hUs hUg hf (refBd hB hK)
  rw [sim_point hf (by have := hB.fst; omega) hi hs] at h
  exact h
end Go.Proofs.YtpejgebcmhmpaaaGreat

namespace Go.Proofs.YtpejgebcmhmpaaaGreat
open Go Go.RowKit

structure MtA where
  (m : MS) (sA gA : Option Addr) (sc gc : Nat)
abbrev MtA.cells (q : MtA) : List Value := (refOf q.m).cells q.sA q.sc q.gA q.gc
theorem bset_at {l : List Bool} {i t : Nat} (v : Bool) (h : i < l.length) : (l.set i v)[t]? = some true ↔ if t = i then v = true else l[t]? = some true := by
  rw [List.getElem?_set]
  by_cases e : i = t
  · subst e; rw [if_pos rfl, if_pos h, if_pos rfl]; simp
  · rw [if_neg e, if_neg (fun h => e h.symm)]
theorem rep_no (n t : Nat) : ¬ (List.replicate n false)[t]? = some true := fun h => by
  rw [List.getElem?_replicate] at h
  split at h <;> cases h
structure MtsI (f : Fmt) (first : Int) (ps : List Int) (k : Nat) (ms : List MtA) (U : List Row) : Prop where
  len : ms.length = k + 1
  ok : ∀ i q, ms[i]? = some q → playTo f first ps i = some q.m ∧ (⟨q.sA, 2, q.m.st.length, encP q.m.st⟩ : Row) ∈ U ∧ (⟨q.gA, 7, q.m.gs.length, encG q.m.gs⟩ : Row) ∈ U
theorem MtsI.snoc {f : Fmt} {first : Int} {ps : List Int} {k : Nat} {ms : List MtA} {U : List Row} (h : MtsI f first ps k ms U) {m : MS} {x : RU} (hm : playTo f first ps (k + 1) = some m) (hx : PtU U (refOf m) x) : MtsI f first ps (k + 1) (ms ++ [⟨m, x.sA, x.gA, x.sc, x.gc⟩]) x.U := by
  refine ⟨by rw [List.length_append, h.len]; rfl, fun i q hq => ?_⟩
  by_cases e : i < ms.length
  · rw [List.getElem?_append_left e] at hq
    obtain ⟨h1, h2, h3⟩ := h.ok i q hq
    exact ⟨h1, hx.sub _ h2, hx.sub _ h3⟩
  · rw [List.getElem?_append_right (by omega)] at hq
    have hl := h.len
    cases hd : i - ms.length with
    | succ d => rw [hd] at hq; simp at hq
    | zero =>
      rw [hd] at hq
      obtain rfl : (⟨m, x.sA, x.gA, x.sc, x.gc⟩ : MtA) = q := by simpa using hq
      rw [show i = k + 1 by omega]
      exact ⟨hm, hx.s, hx.g⟩
structure MOk (f : Fmt) (cf first : Int) (xs : List Nt) (ps : List Int) : Prop where
  fs : first = 0 ∨ first = 1
  cf : cf = -1 ∨ cf = first
  n : ps.length ≤ 600
  pl : ∃ m, playTo f first ps ps.length = some m
  fit : Fit f first ps xs xs.length ps.length
structure KI (f : Fmt) (first : Int) (ps : List Int) (x : Nt) (bs : List Bool) (n i : Nat) (bt : List Bool) : Prop where
  len : bt.length = n + 1
  ok : ∀ t, bt[t]? = some true ↔ ∃ m, m < i ∧ bs[m]? = some true ∧ hitV f first ps x m t
section
variable {f : Fmt} {first : Int} {ps : List Int} {x : Nt} {bs bt : List Bool} {n i : Nat}
theorem KI.start : KI f first ps x bs n 0 (List.replicate (n + 1) false) := ⟨List.length_replicate .., fun t => ⟨fun h => absurd h (rep_no _ _), fun ⟨m, hm, _⟩ => absurd hm (Nat.not_lt_zero _)⟩⟩
theorem KI.next (h : KI f first ps x bs n i bt) {bu : List Bool} (hl : bu.length = n + 1) (hb : ∀ t, bu[t]? = some true ↔ bt[t]? = some true ∨ (bs[i]? = some true ∧ hitV f first ps x i t)) : KI f first ps x bs n (i + 1) bu := by
  refine ⟨hl, fun t => ?_⟩
  rw [hb t, h.ok t]
  constructor
  · rintro (⟨m, hm, hr⟩ | hr)
    · exact ⟨m, by omega, hr⟩
    · exact ⟨i, by omega, hr⟩
  · rintro ⟨m, hm, hr⟩
    by_cases e : m = i
    · subst e; exact .inr hr
    · exact .inl ⟨m, by omega, hr⟩
theorem KI.skip (h : KI f first ps x bs n i bt) (hn : ∀ t, ¬ (bs[i]? = some true ∧ hitV f first ps x i t)) : KI f first ps x bs n (i + 1) bt := h.next h.len fun t => ⟨.inl, fun h => h.elim id fun h => absurd h (hn t)⟩
theorem KI.one (h : KI f first ps x bs n i bt) (hk : x.kind = 1) (hbi : bs[i]? = some true) (hl : ps.length = n) (hin : i + 1 ≤ n) (hs : x.side = -1 ∨ ps[i]? = some x.side) : KI f first ps x bs n (i + 1) (bt.set (i + 1) true) := by
  refine h.next (by rw [List.length_set]; exact h.len) fun t => ?_
  rw [bset_at true (by rw [h.len]; omega)]
  unfold hitV
  rw [if_pos hk]
  by_cases e : t = i + 1
  · rw [if_pos e]; exact ⟨fun _ => .inr ⟨hbi, e, by omega, hs⟩, fun _ => rfl⟩
  · rw [if_neg e]; exact ⟨.inl, fun h => h.elim id fun h => absurd h.2.1 e⟩
theorem KI.test (h : KI f first ps x bs n i bt) (h1 : x.kind ≠ 1) (h2 : x.kind ≠ 2) (hbi : bs[i]? = some true) (hin : i ≤ n) {v : Bool} (hv : bt[i]? = some v) {u : Bool} (hu : u = holdS f x (spS f first ps i)) : KI f first ps x bs n (i + 1) (bt.set i (v || u)) := by
  refine h.next (by rw [List.length_set]; exact h.len) fun t => ?_
  rw [bset_at _ (by rw [h.len]; omega)]
  unfold hitV
  rw [if_neg h1, if_neg h2]
  by_cases e : t = i
  · subst e
    rw [if_pos rfl, hv, Bool.or_eq_true, hu, Option.some.injEq]
    exact ⟨fun h => h.imp id fun h => ⟨hbi, rfl, h⟩, fun h => h.imp id fun h => h.2.2⟩
  · rw [if_neg e]; exact ⟨.inl, fun h => h.elim id fun h => absurd h.2.1 e⟩
structure PI (x : Nt) (bt : List Bool) (n i k : Nat) (bu : List Bool) : Prop where
  len : bu.length = n + 1
  kb : x.pair.1 ≤ (k : Int) ∧ ((k : Int) = x.pair.1 ∨ ((k : Int) ≤ x.pair.2 + 1 ∧ i + k ≤ n + 1))
  ok : ∀ t, bu[t]? = some true ↔ bt[t]? = some true ∨ ∃ j : Nat, x.pair.1 ≤ (j : Int) ∧ j < k ∧ t = i + j
theorem PI.start (hl : bt.length = n + 1) {k : Nat} (hk : (k : Int) = x.pair.1) : PI x bt n i k bt := ⟨hl, ⟨by omega, .inl hk⟩, fun t => ⟨.inl, fun h => h.elim id fun ⟨j, h1, h2, _⟩ => by omega⟩⟩
theorem PI.next {k : Nat} {bu : List Bool} (h : PI x bt n i k bu) (h1 : (k : Int) ≤ x.pair.2) (h2 : i + k < n + 1) : PI x bt n i (k + 1) (bu.set (i + k) true) := by
  have hk := h.kb
  refine ⟨by rw [List.length_set]; exact h.len, ⟨by omega, .inr ⟨by omega, by omega⟩⟩, fun t => ?_⟩
  rw [bset_at true (by rw [h.len]; omega), h.ok t]
  by_cases e : t = i + k
  · rw [if_pos e]; exact ⟨fun _ => .inr ⟨k, hk.1, by omega, e⟩, fun _ => rfl⟩
  · rw [if_neg e]
    refine ⟨fun h => h.imp id fun ⟨j, a, b, c⟩ => ⟨j, a, by omega, c⟩, fun h => h.imp id fun ⟨j, a, b, c⟩ => ⟨j, a, ?_, c⟩⟩
    by_cases e2 : j = k
    · subst e2; exact absurd c e
    · omega
theorem PI.done {k : Nat} {bu : List Bool} (h : PI x bt n i k bu) (hx : x.kind = 2) (hr : 0 ≤ x.pair.1 ∧ x.pair.1 ≤ x.pair.2) (hin : i ≤ n) (hk : ¬ ((k : Int) ≤ x.pair.2 ∧ i + k < n + 1)) (hbi : bs[i]? = some true) (hl : ps.length = n) (hK : KI f first ps x bs n i bt) : KI f first ps x bs n (i + 1) bu := by
  have hkk := h.kb
  refine hK.next h.len fun t => ?_
  rw [h.ok t]
  unfold hitV
  rw [if_neg (show ¬ x.kind = 1 by omega), if_pos hx]
  constructor
  · rintro (h | ⟨j, h1, h2, rfl⟩)
    · exact .inl h
    · exact .inr ⟨hbi, ⟨by omega, by omega⟩, by omega, by omega⟩
  · rintro (h | ⟨_, ⟨h1, h2⟩, h3, h4⟩)
    · exact .inl h
    · exact .inr ⟨t - i, by omega, by omega, by omega⟩
end
end Go.Proofs.YtpejgebcmhmpaaaGreat

namespace Go.Proofs.YtpejgebcmhmpaaaGreat
open Go Go.RowKit

noncomputable def mokB (f : Fmt) (cf first : Int) (xs : List Nt) (ps : List Int) : Bool := @decide (MOk f cf first xs ps) (Classical.propDecidable _)
structure TrM (f : Fmt) (cf first : Int) (xs : List Nt) (ps : List Int) (m : MS) : Prop where
  o : playO f first ps = some m
  k : spotOf m ∈ keyC (crowdC f cf xs)
  lo : (cntC f cf xs).1 ≤ ps.length
  hi : (ps.length : Int) ≤ (cntC f cf xs).2
  f : m.f = f
  fs : m.first = first
  r : Rch m
theorem MOk.play {f : Fmt} {cf first : Int} {xs : List Nt} {ps : List Int} (h : MOk f cf first xs ps) (hR : Rdy f cf xs) : ∃ m, TrM f cf first xs ps m := by
  obtain ⟨m, hm⟩ := h.pl
  obtain ⟨h1, h2⟩ := play_can hR.ok hm
  have h3 := h.fs
  obtain ⟨e, he, e1, e2, e3⟩ := true_match h1 (beg_in h.fs h.cf) h.fit
  obtain ⟨_, _, s3⟩ := span_le (crowdC f cf xs) (600, 0)
  have s4 := s3 e he
  have hc0 := (chk_facts hR.c).1
  have hp : preE f first ps.length = 0 := by
    have hs : sideBad first = false := by rcases h3 with rfl | rfl <;> rfl
    unfold preE
    rw [hc0, hs, decide_eq_false (show ¬ (600 : Int) < ps.length by have := h.n; omega)]; rfl
  refine ⟨m, by rw [playO, hp]; exact hm, by rw [h2, ← e1]; exact List.mem_map.2 ⟨e, he, rfl⟩, ?_, ?_, (playTo_inv hR.ok hm).1, (playTo_inv hR.ok hm).2.1, playTo_rch hR.ok hm⟩
  · show (spanC _ _).1 ≤ _; omega
  · show _ ≤ (spanC _ _).2; omega
end Go.Proofs.YtpejgebcmhmpaaaGreat

namespace Go.Proofs.YtpejgebcmhmpaaaGreat
open Go Go.RowKit

theorem Rdy.sureE {f : Fmt} {cf : Int} {xs : List Nt} (h : Rdy f cf xs) {x : Nt} (hx : mkV x = true) (h3 : 3 ≤ x.kind) : sureE f cf xs x = posE f cf xs ∧ sureV f cf xs x = (decide (posE f cf xs = 0) && sureB f cf xs x) := by
  have e : Go.Proofs.YtpejgebcmhmpaaaGreat.sureE f cf xs x = posE f cf xs := by
    unfold Go.Proofs.YtpejgebcmhmpaaaGreat.sureE
    rw [decide_eq_true h.c, cond_true, decide_eq_false (show ¬ x.kind < 3 by omega), hx]; rfl
  exact ⟨e, by unfold sureV; rw [e]⟩
theorem TrM.st {f : Fmt} {cf first : Int} {xs : List Nt} {ps : List Int} {m : MS} (h : TrM f cf first xs ps m) (hM : MOk f cf first xs ps) (hf : f.Ok) : m.st.length ≤ 1000000 := by
  obtain ⟨m9, hm9⟩ := hM.pl
  have e9 : some m = some m9 := by
    have g9 := h.o
    unfold playO at g9
    rw [← hm9]
    cases hq : !decide (preE f first ps.length = 0)
    · rw [hq] at g9; exact g9.symm
    · rw [hq] at g9; cases g9
  cases e9
  have := (playTo_bd hf hM.fs (by have := hM.n; omega) hm9).s
  have := hM.n
  omega
theorem Rdy.more {f : Fmt} {cf : Int} {xs : List Nt} (h : Rdy f cf xs) {x : Nt} (hx : mkV x = true) (h3 : 3 ≤ x.kind) : chkC f cf (xs ++ [x]) = 0 ∧ mostS (xs ++ [x]) ≤ 20 ∧ (crowdC f cf (xs ++ [x])).length ≤ 4194304 := by
  obtain ⟨c1, c2, c3, c4, c5, c6⟩ := chk_facts h.c
  have hmk : ∀ y ∈ xs ++ [x], mkV y = true := fun y hy => by
    rcases List.mem_append.1 hy with hy | hy
    · exact h.mks y hy
    · rw [List.mem_singleton.1 hy]; exact hx
  have e1 : misS (xs ++ [x]) = misS xs := by
    unfold misS
    rw [List.map_append, List.sum_append]
    show _ + (misN x + 0) = _
    unfold misN
    rw [decide_eq_false (show ¬ x.kind = 2 by omega)]
    show _ + ((0 : Int) + 0) = _
    omega
  have e2 : mostS (xs ++ [x]) = mostS xs := by
    unfold mostS
    rw [List.map_append, List.sum_append]
    show _ + (mostN x + 0) = _
    unfold mostN
    rw [if_neg (by omega), if_neg (by omega)]
    omega
  have hl : (xs ++ [x]).length = xs.length + 1 := by rw [List.length_append]; rfl
  have h1 := h.n
  have h2 := h.m
  have h4 := h.mis
  obtain ⟨g1, g2, g3⟩ := exp_mis hmk
  have g4 := crowd_len f cf (xs ++ [x])
  have he : expS (xs ++ [x]) ≤ 21 := by omega
  have hp : 2 ^ expS (xs ++ [x]) ≤ 2 ^ 21 := Nat.pow_le_pow_right (by omega) he
  exact ⟨chk_of c1 c3 (by omega) hmk (by omega), by omega, by omega⟩
end Go.Proofs.YtpejgebcmhmpaaaGreat

namespace Go.Proofs.YtpejgebcmhmpaaaGreat
open Go Go.RowKit

theorem playTo_take {f : Fmt} {first : Int} {xs : List Int} {n : Nat} : ∀ {k : Nat}, k ≤ n → playTo f first (xs.take n) k = playTo f first xs k
  | 0, _ => rfl
  | k + 1, hk => by rw [playTo, playTo, playTo_take (n := n) (k := k) (by omega), List.getElem?_take, if_pos (by omega)]
theorem fit_snoc {f : Fmt} {first : Int} {ps : List Int} {xs : List Nt} {x : Nt} : ∀ {j n : Nat}, j ≤ xs.length → (Fit f first ps (xs ++ [x]) j n ↔ Fit f first ps xs j n)
  | 0, n, _ => Iff.rfl
  | j + 1, n, h => by
    show (∃ y m, (xs ++ [x])[j]? = some y ∧ Fit f first ps (xs ++ [x]) j m ∧ hitV f first ps y m n) ↔ ∃ y m, xs[j]? = some y ∧ Fit f first ps xs j m ∧ hitV f first ps y m n
    rw [List.getElem?_append_left (by omega)]
    exact ⟨fun ⟨y, m, a, b, c⟩ => ⟨y, m, a, (fit_snoc (by omega)).1 b, c⟩, fun ⟨y, m, a, b, c⟩ => ⟨y, m, a, (fit_snoc (by omega)).2 b, c⟩⟩
structure TcI (f : Fmt) (cf first : Int) (ps : List Int) (k : Nat) (ys : List Nt) (ex : Bool) : Prop where
  len : ys.length ≤ 2 * k
  fit : Fit f first ps ys ys.length k
  ex : ex = true → ∀ s ∈ keyC (crowdC f cf ys), s = spS f first ps k
section
variable {f : Fmt} {cf first : Int} {ps : List Int} {k : Nat} {ys : List Nt} {ex : Bool}
theorem TcI.start (h : ex = true → cf = first) (hf : first = 0 ∨ first = 1) : TcI f cf first ps 0 [] ex := by
  refine ⟨Nat.le_refl _, rfl, fun he s hs => ?_⟩
  have e := h he
  subst e
  obtain ⟨b, hb, hc, rfl⟩ := beg_cases hs
  have : cf = b := by omega
  subst this; rfl
theorem crowd_snoc {xs : List Nt} {x : Nt} {s : Spot} : s ∈ keyC (crowdC f cf (xs ++ [x])) ↔ ∃ t, t ∈ keyC (crowdC f cf xs) ∧ Rel f x t s := by
  unfold crowdC
  rw [List.foldl_append]
  exact after_mem
theorem TcI.add (h : TcI f cf first ps k ys ex) {x : Nt} {n : Nat} (hh : hitV f first ps x k n) (hl : ys.length + 1 ≤ 2 * n) {ey : Bool} (hx : ey = true → ex = true ∧ ∀ u, Rel f x (spS f first ps k) u → u = spS f first ps n) : TcI f cf first ps n (ys ++ [x]) ey := by
  refine ⟨by rw [List.length_append]; exact hl, ?_, fun he s hs => ?_⟩
  · rw [List.length_append]
    exact ⟨x, k, by rw [List.getElem?_append_right (Nat.le_refl _), Nat.sub_self]; rfl, (fit_snoc (Nat.le_refl _)).2 h.fit, hh⟩
  · obtain ⟨h1, h2⟩ := hx he
    obtain ⟨t, ht, hr⟩ := crowd_snoc.1 hs
    rw [h.ex h1 t ht] at hr
    exact h2 s hr
theorem TcI.point (h : TcI f cf first ps k ys ex) (hk : k < ps.length) (hc : CanP f first ps) {p : Int} (hp : ps[k]? = some p) : TcI f cf first ps (k + 1) (ys ++ [⟨1, p, (0, 0)⟩]) ex := by
  have hl := h.len
  refine h.add ?_ (by omega) fun he => ⟨he, fun u hu => ?_⟩
  · unfold hitV; rw [if_pos rfl]; exact ⟨rfl, by omega, .inr hp⟩
  · unfold Rel at hu
    rw [if_pos rfl] at hu
    obtain ⟨q, hq, hs, hn⟩ := hu
    have hpq : p = q := by
      rcases hs with hs | hs
      · have := (hc k p hp).1
        have hs : p = -1 := hs
        omega
      · exact hs
    subst hpq
    rw [can_nxt hc hp] at hn
    exact (Option.some.inj hn).symm
theorem TcI.some_ (h : TcI f cf first ps k ys ex) (hk : k < ps.length) : TcI f cf first ps (k + 1) (ys ++ [⟨1, -1, (0, 0)⟩]) false := by
  have hl := h.len
  refine h.add ?_ (by omega) fun he => by cases he
  unfold hitV; rw [if_pos rfl]; exact ⟨rfl, by omega, .inl rfl⟩
theorem TcI.miss (h : TcI f cf first ps k ys ex) (hk : k < ps.length) : TcI f cf first ps (k + 1) (ys ++ [⟨2, 0, (0, 1)⟩]) false := by
  have hl := h.len
  refine h.add ?_ (by omega) fun he => by cases he
  unfold hitV
  rw [if_neg (by decide), if_pos rfl]
  exact ⟨⟨by show (k : Int) + 0 ≤ _; omega, by show _ ≤ (k : Int) + 1; omega⟩, by omega, by omega⟩
theorem TcI.call (h : TcI f cf first ps k ys ex) (hl : ys.length + 1 ≤ 2 * k) {x : Nt} (h3 : 3 ≤ x.kind) (hh : holdS f x (spS f first ps k) = true) : TcI f cf first ps k (ys ++ [x]) ex := by
  refine h.add ?_ hl fun he => ⟨he, fun u hu => ?_⟩
  · unfold hitV; rw [if_neg (by omega), if_neg (by omega)]; exact ⟨rfl, hh⟩
  · unfold Rel at hu
    rw [if_neg (by omega), if_neg (by omega)] at hu
    exact hu.1.symm
end
end Go.Proofs.YtpejgebcmhmpaaaGreat

namespace Go.Proofs.YtpejgebcmhmpaaaGreat
open Go Go.RowKit

structure StA where
  (m : MS) (sA gA : Option Addr) (sc gc : Nat) (ps : List Int) (pA : Option Addr) (pc : Nat) (mn : Mn)
abbrev StA.cells (s : StA) : List Value := [.slice s.sA s.m.st.length s.sc, .int .i64 s.m.g.1, .int .i64 s.m.g.2, .int .i64 s.m.p.1, .int .i64 s.m.p.2, .int .i64 0, .int .i64 s.m.ends, .int .i64 s.m.balls, .int .i64 s.m.winner, .int .i64 s.m.first, .slice s.gA s.m.gs.length s.gc, .bool (freshV s.m.f s.m.ties), .slice s.pA s.ps.length s.pc, .int .i64 s.mn.1, .int .i64 s.mn.2.1, .int .i64 s.mn.2.2]
abbrev StA.val (s : StA) : Value := .agg s.cells.toArray
def encY (l : List StA) : List (List Value) := l.map StA.cells
theorem encY_at {l : List StA} {k : Nat} {s : StA} (h : l[k]? = some s) : (encY l)[k]? = some s.cells := by unfold encY; rw [List.getElem?_map, h]; rfl
theorem encY_set (l : List StA) (k : Nat) (s : StA) : (encY l).set k s.cells = encY (l.set k s) := by unfold encY; rw [List.map_set]
theorem encY_snoc (l : List StA) (s : StA) : encY l ++ [s.cells] = encY (l ++ [s]) := by unfold encY; rw [List.map_append]; rfl
def enA (s : StA) : En := (spotOf s.m, s.mn)
structure StK (f : Fmt) (K : Int) (U : List Row) (s : StA) : Prop where
  fs : s.m.first = 0 ∨ s.m.first = 1
  pl : playTo f s.m.first s.ps s.ps.length = some s.m
  n : (s.ps.length : Int) ≤ K
  us : (⟨s.sA, 2, s.m.st.length, encP s.m.st⟩ : Row) ∈ U
  ug : (⟨s.gA, 7, s.m.gs.length, encG s.m.gs⟩ : Row) ∈ U
  up : (⟨s.pA, 1, s.ps.length, encI s.ps⟩ : Row) ∈ U
  lo : 0 ≤ s.mn.1 ∧ s.mn.1 ≤ K
  hi : 0 ≤ s.mn.2.1 ∧ s.mn.2.1 ≤ K
  out : 0 ≤ s.mn.2.2 ∧ s.mn.2.2 ≤ 100
theorem StK.mono {f : Fmt} {K K' : Int} {U U' : List Row} {s : StA} (h : StK f K U s) (hK : K ≤ K') (hU : ∀ r ∈ U, r ∈ U') : StK f K' U' s :=
  ⟨h.fs, h.pl, by have := h.n; omega, hU _ h.us, hU _ h.ug, hU _ h.up, by have := h.lo; omega, by have := h.hi; omega, h.out⟩
theorem playTo_app {f : Fmt} {first : Int} {ps qs : List Int} {k : Nat} (h : k ≤ ps.length) : playTo f first (ps ++ qs) k = playTo f first ps k := by
  have := playTo_take (f := f) (first := first) (xs := ps ++ qs) (n := ps.length) h
  rw [List.take_left] at this
  exact this.symm
section
variable {f : Fmt} {K : Int} {U : List Row} {s : StA}
theorem StK.bd (hf : f.Ok) (h : StK f K U s) (hK : K ≤ 900) : s.m.Bd s.ps.length := playTo_bd hf h.fs (by have := h.n; omega) h.pl
theorem StK.inv (hf : f.Ok) (h : StK f K U s) : s.m.f = f ∧ (s.m.Inv ∨ s.m.Done) ∧ Rch s.m := ⟨(playTo_inv hf h.pl).1, (playTo_inv hf h.pl).2.2, playTo_rch hf h.pl⟩
theorem StK.go (hf : f.Ok) (h : StK f K U s) (hw : s.m.winner < 0) {p : Int} (hp : p = 0 ∨ p = 1) : s.m.Inv ∧ nxtS f (spotOf s.m) p = some (spotOf (pointV s.m p)) ∧ playTo f s.m.first (s.ps ++ [p]) (s.ps ++ [p]).length = some (pointV s.m p) ∧ (pointV s.m p).first = s.m.first := by
  obtain ⟨h1, h2, h3⟩ := h.inv hf
  have hi : s.m.Inv := h2.elim id fun hd => by have := hd.w; omega
  have h4 := (spot_step (h1 ▸ hf) hi h3.cnt hp).1
  rw [h1] at h4
  have h5 : playTo f s.m.first (s.ps ++ [p]) (s.ps ++ [p]).length = some (pointV s.m p) := by
    rw [List.length_append]
    show playTo f s.m.first (s.ps ++ [p]) (s.ps.length + 1) = _
    rw [playTo_succ (by rw [playTo_app (Nat.le_refl _)]; exact h.pl) (by rw [List.getElem?_append_right (Nat.le_refl _), Nat.sub_self]; rfl)]
    have hb : sideBad p = false := by rcases hp with rfl | rfl <;> rfl
    rw [hb, decide_eq_false (by omega)]; rfl
  exact ⟨hi, h4, h5, (playTo_inv hf h5).2.1⟩
theorem StK.stop (hf : f.Ok) (h : StK f K U s) (hw : ¬ s.m.winner < 0) (p : Int) : nxtS f (spotOf s.m) p = none := by
  obtain ⟨h1, h2, h3⟩ := h.inv hf
  rcases h3.inv with hi | ⟨_, ht, _⟩
  · have := hi.w; omega
  · have ht2 : topS (spotOf s.m) = f.sets := by rw [← h1]; exact ht
    rw [nxtS, decide_eq_true ht2]; rfl
end
def joinA (x s : StA) : StA := { x with mn := joinE x.mn s.mn }
def addS : List StA → StA → List StA
  | [], s => [s]
  | x :: l, s => if spotOf x.m = spotOf s.m then joinA x s :: l else x :: addS l s
theorem addS_en (l : List StA) (s : StA) : (addS l s).map enA = putC (l.map enA) (enA s) := by
  induction l with
  | nil => rfl
  | cons x l ih =>
    rw [addS, List.map_cons, putC]
    by_cases e : spotOf x.m = spotOf s.m
    · rw [if_pos e, if_pos (show (enA x).1 = (enA s).1 from e)]; rfl
    · rw [if_neg e, if_neg (show ¬ (enA x).1 = (enA s).1 from e), List.map_cons, ih]
theorem addS_hit {l : List StA} {s x : StA} {k : Nat} (hn : ∀ i y, i < k → l[i]? = some y → spotOf y.m ≠ spotOf s.m) (hx : l[k]? = some x) (he : spotOf x.m = spotOf s.m) : addS l s = l.set k (joinA x s) := by
  induction l generalizing k with
  | nil => simp at hx
  | cons y l ih =>
    rw [addS]
    cases k with
    | zero =>
      simp only [List.getElem?_cons_zero, Option.some.injEq] at hx
      subst hx
      rw [if_pos he]; rfl
    | succ k =>
      rw [if_neg (hn 0 y (Nat.succ_pos k) rfl), List.set_cons_succ, ih (k := k) (fun i z hi hz => hn (i + 1) z (by omega) (by simpa using hz)) (by simpa using hx)]
theorem addS_miss {l : List StA} {s : StA} (hn : ∀ y ∈ l, spotOf y.m ≠ spotOf s.m) : addS l s = l ++ [s] := by
  induction l with
  | nil => rfl
  | cons y l ih => rw [addS, if_neg (hn y (by simp)), ih fun z hz => hn z (by simp [hz])]; rfl
theorem addS_ok {f : Fmt} {K : Int} {U : List Row} {l : List StA} {s : StA} (h : ∀ x ∈ l, StK f K U x) (hs : StK f K U s) : ∀ x ∈ addS l s, StK f K U x := by
  induction l with
  | nil => exact fun x hx => by rw [List.mem_singleton.1 hx]; exact hs
  | cons y l ih =>
    intro x hx
    rw [addS] at hx
    by_cases e : spotOf y.m = spotOf s.m
    · rw [if_pos e] at hx
      rcases List.mem_cons.1 hx with rfl | hx
      · have h1 := h y (by simp)
        have a1 := h1.lo
        have a2 := h1.hi
        have a3 := h1.out
        have b1 := hs.lo
        have b2 := hs.hi
        have b3 := hs.out
        exact ⟨h1.fs, h1.pl, h1.n, h1.us, h1.ug, h1.up, by show 0 ≤ min y.mn.1 s.mn.1 ∧ min y.mn.1 s.mn.1 ≤ K; omega, by show 0 ≤ max y.mn.2.1 s.mn.2.1 ∧ max y.mn.2.1 s.mn.2.1 ≤ K; omega, by show 0 ≤ min y.mn.2.2 s.mn.2.2 ∧ min y.mn.2.2 s.mn.2.2 ≤ 100; omega⟩
      · exact h x (by simp [hx])
    · rw [if_neg e] at hx
      rcases List.mem_cons.1 hx with rfl | hx
      · exact h x (by simp)
      · exact ih (fun z hz => h z (by simp [hz])) x hx
theorem spot_eq {m m' : MS} : spotOf m = spotOf m' ↔ m.first = m'.first ∧ (⟨m.st, m.g, m.p⟩ : Brd) = ⟨m'.st, m'.g, m'.p⟩ := by
  unfold spotOf
  constructor
  · intro h
    injection h with h1 h2 h3 h4
    rw [h1, h2, h3, h4]; exact ⟨rfl, rfl⟩
  · rintro ⟨h1, h2⟩
    injection h2 with h2 h3 h4
    rw [h1, h2, h3, h4]
end Go.Proofs.YtpejgebcmhmpaaaGreat

namespace Go.Proofs.YtpejgebcmhmpaaaGreat
open Go Go.RowKit

def sqN : Nat → List (List Int)
  | 0 => [[]]
  | k + 1 => (sqN k).flatMap fun r => [r ++ [0], r ++ [1]]
theorem sqN_len : ∀ k, (sqN k).length = 2 ^ k
  | 0 => rfl
  | k + 1 => by
    rw [sqN, Nat.pow_succ, ← sqN_len k]
    generalize sqN k = l
    induction l with
    | nil => rfl
    | cons x l ih => rw [List.flatMap_cons, List.length_append, ih]; simp only [List.length_cons, List.length_nil]; omega
theorem sqN_mem : ∀ {ps : List Int}, (∀ p ∈ ps, p = 0 ∨ p = 1) → ps ∈ sqN ps.length := fun {ps} h => by
  obtain ⟨n, hn⟩ : ∃ n, ps.length = n := ⟨_, rfl⟩
  induction n generalizing ps with
  | zero => rw [List.eq_nil_of_length_eq_zero hn]; exact List.mem_singleton.2 rfl
  | succ n ih =>
    have hne : ps ≠ [] := fun e => by rw [e] at hn; cases hn
    obtain ⟨r, p, rfl⟩ : ∃ r p, ps = r ++ [p] := ⟨ps.dropLast, ps.getLast hne, (List.dropLast_concat_getLast hne).symm⟩
    have hl : r.length = n := by rw [List.length_append] at hn; simpa using hn
    have h1 := ih (ps := r) (fun p hp => h p (List.mem_append_left _ hp)) hl
    rw [hl] at h1
    rw [hn, sqN, List.mem_flatMap]
    refine ⟨r, h1, ?_⟩
    rcases h p (by simp) with rfl | rfl <;> simp
def sqS (f : Fmt) (k : Nat) : List Spot := ((sqN k).map fun r => spS f 0 r r.length) ++ (sqN k).map fun r => spS f 1 r r.length
def allS (f : Fmt) : Nat → List Spot
  | 0 => sqS f 0
  | k + 1 => allS f k ++ sqS f (k + 1)
theorem allS_len (f : Fmt) : ∀ k, (allS f k).length + 2 = 2 ^ (k + 2)
  | 0 => by show (sqS f 0).length + 2 = 4; unfold sqS; rw [List.length_append, List.length_map, List.length_map, sqN_len]
  | k + 1 => by
    have h1 := allS_len f k
    rw [allS, List.length_append]
    unfold sqS
    rw [List.length_append, List.length_map, List.length_map, sqN_len]
    rw [Nat.pow_succ 2 (k + 2), ← h1, Nat.pow_succ 2 k]
    have h2 : 2 ^ (k + 2) = 2 ^ k * 2 * 2 := by rw [Nat.pow_succ, Nat.pow_succ]
    omega
theorem allS_sub (f : Fmt) {s : Spot} {k : Nat} : ∀ {n : Nat}, k ≤ n → s ∈ sqS f k → s ∈ allS f n
  | 0, h, hs => by rw [show k = 0 by omega] at hs; exact hs
  | n + 1, h, hs => by
    by_cases e : k = n + 1
    · subst e; exact List.mem_append_right _ hs
    · exact List.mem_append_left _ (allS_sub f (n := n) (by omega) hs)
theorem stk_spot {f : Fmt} (hf : f.Ok) {K : Int} {U : List Row} {s : StA} (h : StK f K U s) {n : Nat} (hn : K ≤ (n : Int)) : spotOf s.m ∈ allS f n := by
  obtain ⟨h1, h2⟩ := play_can hf h.pl
  have h3 := h.n
  refine allS_sub f (k := s.ps.length) (by omega) ?_
  have hm : s.ps ∈ sqN s.ps.length := sqN_mem fun p hp => by
    obtain ⟨i, hi, e⟩ := List.mem_iff_getElem.1 hp
    exact (h1 i p (by rw [List.getElem?_eq_getElem hi, e])).1
  rw [h2]
  unfold sqS
  rcases h.fs with e | e
  · exact List.mem_append_left _ (List.mem_map.2 ⟨s.ps, hm, by rw [e]⟩)
  · exact List.mem_append_right _ (List.mem_map.2 ⟨s.ps, hm, by rw [e]⟩)
theorem stk_len {f : Fmt} (hf : f.Ok) {K : Int} {U : List Row} {l : List StA} (hk : Keys (l.map enA)) (h : ∀ x ∈ l, StK f K U x) (hK : K ≤ 22) : l.length ≤ 16777216 := by
  unfold Keys at hk
  have h1 : (((l.map enA).map (·.1)).length) ≤ (allS f 22).length := List.Nodup.length_le_of_subset hk fun s hs => by
    obtain ⟨e, he, rfl⟩ := List.mem_map.1 hs
    obtain ⟨x, hx, rfl⟩ := List.mem_map.1 he
    exact stk_spot hf (h x hx) (n := 22) (by exact hK)
  have h2 := allS_len f 22
  rw [List.length_map, List.length_map] at h1
  have h3 : (2 : Nat) ^ (22 + 2) = 16777216 := by decide
  omega
abbrev StA.up (s : StA) (v : Mn) : StA := ⟨s.m, s.sA, s.gA, s.sc, s.gc, s.ps, s.pA, s.pc, v⟩
set_option maxRecDepth 100000 in
theorem T_added (f : Fmt) (hf : f.Ok) (K : Int) (hK : K ≤ 900) (l : List StA) (s : StA) (A : Option Addr) (c : Nat) (U : List Row) (hok : ∀ x ∈ l, StK f K U x) (hs : StK f K U s) (hl : l.length ≤ 50000000) :
    Tr Tryz.prog 89 [.slice A l.length c, s.val] [.own A c 91 16 l.length (encY l), manyE true U] (fun _ : Option Addr × Nat => True) (fun p => .slice p.1 (addS l s).length p.2) (fun p => [.own p.1 p.2 91 16 (addS l s).length (encY (addS l s)), manyE true U]) := by
  refine ⟨fun w0 w R hst => ?_⟩
  have hsn : s.m.st.length ≤ 1000000 := by have := (hs.bd hf hK).s; have := hs.n; omega
  refine en Tryz.func89 Tryz.ntmps89 hst (h := fun F => ?_)
  refine sq (h := ?_)
  refine rg (h := ?_)
  refine bxA (h := fun b0 => ?_)
  refine WL.y (hy := asg) (h := ?_)
  refine WL.cut (by repeat (first | exact Cut.nil | apply Cut.hit | apply Cut.miss (by exact rfl))) ?_
  refine nl (h := ?_)
  refine q_seq (h := ?_)
  refine sq (h := ?_)
  refine sq (h := ?_)
  refine rg (h := ?_)
  refine WL.y (hy := asg) (h := ?_)
  refine WL.cut (by repeat (first | exact Cut.nil | apply Cut.hit | apply Cut.miss (by exact rfl))) ?_
  refine nl (h := ?_)
  refine q_seq (h := ?_)
  refine bk (h := ?_)
  refine lp (X := Nat) (I := fun k => k ≤ l.length ∧ ∀ i y, i < k → l[i]? = some y → spotOf y.m ≠ spotOf s.m) (le := fun k => [(0, .slice A l.length c), (3, .pointer (some ⟨b0, 0, none⟩)), (5, .int .i64 k)]) (Le := fun _ => .blk b0 91 s.cells :: .own A c 91 16 l.length (encY l) :: manyE true U :: R) (μ := fun k => l.length - k) 0 ⟨Nat.zero_le _, fun i y hi => absurd hi (Nat.not_lt_zero _)⟩ (by repeat (first | exact trivial | refine ⟨rfl, ?_⟩)) (by repeat (first | exact SubL.nil | (apply SubL.cons; (repeat (first | exact At.here | apply At.there))) | exact SubL.refl _ | apply SubL.skip)) (fun k hk => ?_)
  refine sq (h := ?_)
  refine sq (h := ?_)
  refine rg (h := ?_)
  refine WL.y (hy := mv) (h := ?_)
  refine WL.y (hy := mv) (h := ?_)
  refine WL.y (hy := lenS) (h := ?_)
  refine WL.y (hy := lss) (h := ?_)
  refine nl (h := ?_)
  refine q_seq (h := ?_)
  refine cd (by exact rfl) (fun h0 => ?_) (fun h0 => ?_)
  · skip
    have hkn : k < l.length := by have := of_decide_eq_true h0; omega
    obtain ⟨y, hy⟩ : ∃ y, l[k]? = some y := ⟨_, List.getElem?_eq_getElem hkn⟩
    have hym := hok y (List.mem_of_getElem? hy)
    have hyn : y.m.st.length ≤ 1000000 := by have := (hym.bd hf hK).s; have := hym.n; omega
    have hy1 : (l.set k (y.up (min y.mn.1 s.mn.1, y.mn.2.1, y.mn.2.2)))[k]? = some (y.up (min y.mn.1 s.mn.1, y.mn.2.1, y.mn.2.2)) := List.getElem?_set_self hkn
    have hy2 : (l.set k (y.up (min y.mn.1 s.mn.1, max y.mn.2.1 s.mn.2.1, y.mn.2.2)))[k]? = some (y.up (min y.mn.1 s.mn.1, max y.mn.2.1 s.mn.2.1, y.mn.2.2)) := List.getElem?_set_self hkn
    refine skp (h := ?_)
    refine q_seq (h := ?_)
    refine sq (h := ?_)
    refine bk (h := ?_)
    refine sq (h := ?_)
    refine rgD (by kernel_rfl) [(1000000, .own A c 91 16 l.length (encY l)), (1000000, .blk b0 91 s.cells)] (by repeat (first | exact HS.nil | (apply HS.keep; (repeat (first | exact At.here | apply At.there))) | (apply HS.ro; (repeat (first | exact Rds.ro | exact Rds.own | apply Rds.there))))) (h := ?_)
    refine tk 0 (hy := mv) (h := ?_)
    refine tk 1 (hy := mv) (h := ?_)
    refine tk 2 (hy := ix (A := A) (m := l.length)) (h := ?_)
    refine tk 3 (hy := (by first | exact fa | exact faE)) (h := ?_)
    refine tk 4 (hy := (by first | exact fa | exact faE)) (h := ?_)
    refine tk 5 (hy := ldE (A := A) (k := k) (hk := encY_at hy)) (h := ?_)
    refine tk 6 (hy := (by first | exact fa | exact faE)) (h := ?_)
    refine tk 7 (hy := (by first | exact fa | exact faE)) (h := ?_)
    refine tk 8 (hy := (by first | exact ld | exact ldE)) (h := ?_)
    refine tk 9 (hy := eql) (h := ?_)
    refine tk 10 (hy := mv) (h := ?_)
    refine brH (g := 22) (by exact rfl) (fun hb1 => ?_) (fun hb1 => ?_)
    · skip
      have hfe : y.m.first = s.m.first := of_decide_eq_true hb1
      refine tk 11 (hy := mv) (h := ?_)
      refine tk 12 (hy := mv) (h := ?_)
      refine tk 13 (hy := ix (A := A) (m := l.length)) (h := ?_)
      refine tk 14 (hy := (by first | exact fa | exact faE)) (h := ?_)
      refine tk 15 (hy := (by first | exact fa | exact faE)) (h := ?_)
      refine tk 16 (hy := (by first | exact fa | exact faE)) (h := ?_)
      refine tk 17 (hy := ldEA (A := A) (k := k) (hk := encY_at hy)) (h := ?_)
      refine tk 18 (hy := (by first | exact fa | exact faE)) (h := ?_)
      refine tk 19 (hy := (by first | exact fa | exact faE)) (h := ?_)
      refine tk 20 (hy := (by first | exact fa | exact faE)) (h := ?_)
      refine tk 21 (hy := (by first | exact ldA | exact ldEA)) (h := ?_)
      refine one 22 (h := ?_)
      refine un (h := ?_)
      refine cl0 (hc := fun w hS => C_ref3_SameBoard ⟨y.m.st, y.m.g, y.m.p⟩ ⟨s.m.st, s.m.g, s.m.p⟩ y.sA s.sA y.m.st.length y.sc s.m.st.length s.sc w (hS.many (by repeat (first | exact At.here | apply At.there)) hym.us) (hS.many (by repeat (first | exact At.here | apply At.there)) hs.us) (by omega) (by omega)) (h := ?_)
      refine nx (h := ?_)
      refine tk 23 (hy := (by first | exact pkT | exact pkF)) (h := ?_)
      refine dn (h := ?_)
      refine q_seq (h := ?_)
      refine cd (by exact rfl) (fun h2 => ?_) (fun h2 => ?_)
      · skip
        have hE : addS l s = l.set k (joinA y s) := addS_hit hk.2 hy (spot_eq.2 ⟨hfe, of_decide_eq_true h2⟩)
        refine sq (h := ?_)
        refine rgD (by kernel_rfl) [(12, .own A c 91 16 l.length (encY l)), (1000000, .blk b0 91 s.cells)] (by repeat (first | exact HS.nil | (apply HS.keep; (repeat (first | exact At.here | apply At.there))) | (apply HS.ro; (repeat (first | exact Rds.ro | exact Rds.own | apply Rds.there))))) (h := ?_)
        refine tk 0 (hy := mv) (h := ?_)
        refine tk 1 (hy := mv) (h := ?_)
        refine tk 2 (hy := mv) (h := ?_)
        refine tk 3 (hy := mv) (h := ?_)
        refine tk 4 (hy := ix (A := A) (m := l.length)) (h := ?_)
        refine tk 5 (hy := (by first | exact fa | exact faE)) (h := ?_)
        refine tk 6 (hy := ldE (A := A) (k := k) (hk := encY_at hy)) (h := ?_)
        refine tk 7 (hy := (by first | exact fa | exact faE)) (h := ?_)
        refine tk 8 (hy := (by first | exact ld | exact ldE)) (h := ?_)
        refine tk 9 (hy := minI) (h := ?_)
        refine one 10 (h := ?_)
        refine WL.y (hy := ix (A := A) (m := l.length) (hb := by omega)) (h := ?_)
        refine nx (h := ?_)
        refine tk 11 (hy := (by first | exact fa | exact faE)) (h := ?_)
        refine one 12 (h := ?_)
        refine stE (A := A) (k := k) (j := 13) (hk := encY_at hy) (h := ?_)
        rw [show (encY l).set k (y.cells.set 13 (Value.int .i64 (min y.mn.1 s.mn.1))) = encY (l.set k (y.up (min y.mn.1 s.mn.1, y.mn.2.1, y.mn.2.2))) from encY_set l k (y.up (min y.mn.1 s.mn.1, y.mn.2.1, y.mn.2.2))]
        refine nx (h := ?_)
        refine dn (h := ?_)
        refine q_seq (h := ?_)
        refine sq (h := ?_)
        refine rgD (by kernel_rfl) [(12, .own A c 91 16 l.length (encY (l.set k (y.up (min y.mn.1 s.mn.1, y.mn.2.1, y.mn.2.2))))), (1000000, .blk b0 91 s.cells)] (by repeat (first | exact HS.nil | (apply HS.keep; (repeat (first | exact At.here | apply At.there))) | (apply HS.ro; (repeat (first | exact Rds.ro | exact Rds.own | apply Rds.there))))) (h := ?_)
        refine tk 0 (hy := mv) (h := ?_)
        refine tk 1 (hy := mv) (h := ?_)
        refine tk 2 (hy := mv) (h := ?_)
        refine tk 3 (hy := mv) (h := ?_)
        refine tk 4 (hy := ix (A := A) (m := l.length)) (h := ?_)
        refine tk 5 (hy := (by first | exact fa | exact faE)) (h := ?_)
        refine tk 6 (hy := ldE (A := A) (k := k) (hk := encY_at hy1)) (h := ?_)
        refine tk 7 (hy := (by first | exact fa | exact faE)) (h := ?_)
        refine tk 8 (hy := (by first | exact ld | exact ldE)) (h := ?_)
        refine tk 9 (hy := maxI) (h := ?_)
        refine one 10 (h := ?_)
        refine WL.y (hy := ix (A := A) (m := l.length) (hb := by omega)) (h := ?_)
        refine nx (h := ?_)
        refine tk 11 (hy := (by first | exact fa | exact faE)) (h := ?_)
        refine one 12 (h := ?_)
        refine stE (A := A) (k := k) (j := 14) (hk := encY_at hy1) (h := ?_)
        rw [show (encY (l.set k (y.up (min y.mn.1 s.mn.1, y.mn.2.1, y.mn.2.2)))).set k ((y.up (min y.mn.1 s.mn.1, y.mn.2.1, y.mn.2.2)).cells.set 14 (Value.int .i64 (max y.mn.2.1 s.mn.2.1))) = encY (l.set k (y.up (min y.mn.1 s.mn.1, max y.mn.2.1 s.mn.2.1, y.mn.2.2))) from (encY_set _ k (y.up (min y.mn.1 s.mn.1, max y.mn.2.1 s.mn.2.1, y.mn.2.2))).trans (by rw [List.set_set])]
        refine nx (h := ?_)
        refine dn (h := ?_)
        refine q_seq (h := ?_)
        refine sq (h := ?_)
        refine rgD (by kernel_rfl) [(12, .own A c 91 16 l.length (encY (l.set k (y.up (min y.mn.1 s.mn.1, max y.mn.2.1 s.mn.2.1, y.mn.2.2))))), (1000000, .blk b0 91 s.cells)] (by repeat (first | exact HS.nil | (apply HS.keep; (repeat (first | exact At.here | apply At.there))) | (apply HS.ro; (repeat (first | exact Rds.ro | exact Rds.own | apply Rds.there))))) (h := ?_)
        refine tk 0 (hy := mv) (h := ?_)
        refine tk 1 (hy := mv) (h := ?_)
        refine tk 2 (hy := mv) (h := ?_)
        refine tk 3 (hy := mv) (h := ?_)
        refine tk 4 (hy := ix (A := A) (m := l.length)) (h := ?_)
        refine tk 5 (hy := (by first | exact fa | exact faE)) (h := ?_)
        refine tk 6 (hy := ldE (A := A) (k := k) (hk := encY_at hy2)) (h := ?_)
        refine tk 7 (hy := (by first | exact fa | exact faE)) (h := ?_)
        refine tk 8 (hy := (by first | exact ld | exact ldE)) (h := ?_)
        refine tk 9 (hy := minI) (h := ?_)
        refine one 10 (h := ?_)
        refine WL.y (hy := ix (A := A) (m := l.length) (hb := by omega)) (h := ?_)
        refine nx (h := ?_)
        refine tk 11 (hy := (by first | exact fa | exact faE)) (h := ?_)
        refine one 12 (h := ?_)
        refine stE (A := A) (k := k) (j := 15) (hk := encY_at hy2) (h := ?_)
        rw [show (encY (l.set k (y.up (min y.mn.1 s.mn.1, max y.mn.2.1 s.mn.2.1, y.mn.2.2)))).set k ((y.up (min y.mn.1 s.mn.1, max y.mn.2.1 s.mn.2.1, y.mn.2.2)).cells.set 15 (Value.int .i64 (min y.mn.2.2 s.mn.2.2))) = encY (l.set k (joinA y s)) from (encY_set _ k (joinA y s)).trans (by rw [List.set_set])]
        refine nx (h := ?_)
        refine dn (h := ?_)
        refine q_seq (h := ?_)
        refine sq (h := ?_)
        refine rg (h := ?_)
        refine WL.y (hy := mv) (h := ?_)
        refine WL.y (hy := asg) (h := ?_)
        refine WL.cut (by repeat (first | exact Cut.nil | apply Cut.hit | apply Cut.miss (by exact rfl))) ?_
        refine nl (h := ?_)
        refine q_seq (h := ?_)
        refine rtn (h := ?_)
        refine q_blk_ret (h := ?_)
        refine q_then_ret (h := ?_)
        refine q_then_ret (h := ?_)
        refine q_blk_ret (h := ?_)
        refine q_then_ret (h := ?_)
        refine q_ret (hR := ?_)
        first
          | (rw [hE, List.length_set]; exact fun w hS => ⟨(A, c), trivial, rfl, hS.sub (by repeat (first | exact SubL.nil | (apply SubL.cons; (repeat (first | exact At.here | apply At.there))) | exact SubL.refl _ | apply SubL.skip))⟩)
          | (rw [hE, List.length_append]; exact fun w hS => ⟨(A1, c1), trivial, rfl, hS.sub (by repeat (first | exact SubL.nil | (apply SubL.cons; (repeat (first | exact At.here | apply At.there))) | exact SubL.refl _ | apply SubL.skip))⟩)
      · skip
        have hne : spotOf y.m ≠ spotOf s.m := by
          first
            | exact fun e => hfe (spot_eq.1 e).1
            | exact fun e => of_decide_eq_false (show decide ((⟨y.m.st, y.m.g, y.m.p⟩ : Brd) = ⟨s.m.st, s.m.g, s.m.p⟩) = false by assumption) (spot_eq.1 e).2
        refine skp (h := ?_)
        refine q_blk_norm (h := ?_)
        refine q_seq (h := ?_)
        refine rg (h := ?_)
        refine WL.y (hy := mv) (h := ?_)
        refine WL.y (hy := addI) (h := ?_)
        refine WL.y (hy := asg) (h := ?_)
        refine WL.cut (by repeat (first | exact Cut.nil | apply Cut.hit | apply Cut.miss (by exact rfl))) ?_
        refine nl (h := ?_)
        refine rn (x := k) (k + 1) ⟨hkn, fun i z hi hz => by
          by_cases e : i = k
          · subst e; rw [hy] at hz; cases hz; exact hne
          · exact hk.2 i z (by omega) hz⟩ (by omega) (by repeat (first | exact trivial | refine ⟨rfl, ?_⟩)) (by repeat (first | exact SubL.nil | (apply SubL.cons; (repeat (first | exact At.here | apply At.there))) | exact SubL.refl _ | apply SubL.skip))
    · skip
      have hfe : ¬ y.m.first = s.m.first := of_decide_eq_false hb1
      refine tkS 11 (h := ?_)
      refine tkS 12 (h := ?_)
      refine tkS 13 (h := ?_)
      refine tkS 14 (h := ?_)
      refine tkS 15 (h := ?_)
      refine tkS 16 (h := ?_)
      refine tkS 17 (h := ?_)
      refine tkS 18 (h := ?_)
      refine tkS 19 (h := ?_)
      refine tkS 20 (h := ?_)
      refine tkS 21 (h := ?_)
      refine tkS 22 (h := ?_)
      refine tk 23 (hy := (by first | exact pkT | exact pkF)) (h := ?_)
      refine dn (h := ?_)
      refine q_seq (h := ?_)
      refine cdF (h := ?_)
      have hne : spotOf y.m ≠ spotOf s.m := by
        first
          | exact fun e => hfe (spot_eq.1 e).1
          | exact fun e => of_decide_eq_false (show decide ((⟨y.m.st, y.m.g, y.m.p⟩ : Brd) = ⟨s.m.st, s.m.g, s.m.p⟩) = false by assumption) (spot_eq.1 e).2
      refine skp (h := ?_)
      refine q_blk_norm (h := ?_)
      refine q_seq (h := ?_)
      refine rg (h := ?_)
      refine WL.y (hy := mv) (h := ?_)
      refine WL.y (hy := addI) (h := ?_)
      refine WL.y (hy := asg) (h := ?_)
      refine WL.cut (by repeat (first | exact Cut.nil | apply Cut.hit | apply Cut.miss (by exact rfl))) ?_
      refine nl (h := ?_)
      refine rn (x := k) (k + 1) ⟨hkn, fun i z hi hz => by
        by_cases e : i = k
        · subst e; rw [hy] at hz; cases hz; exact hne
        · exact hk.2 i z (by omega) hz⟩ (by omega) (by repeat (first | exact trivial | refine ⟨rfl, ?_⟩)) (by repeat (first | exact SubL.nil | (apply SubL.cons; (repeat (first | exact At.here | apply At.there))) | exact SubL.refl _ | apply SubL.skip))
  · skip
    have hkn : k = l.length := by have := of_decide_eq_false h0; omega
    have hE : addS l s = l ++ [s] := addS_miss fun y hy => by
      obtain ⟨i, hi, e⟩ := List.mem_iff_getElem.1 hy
      exact hk.2 i y (by omega) (by rw [List.getElem?_eq_getElem hi, e])
    refine et (h := ?_)
    refine q_then_exit (h := ?_)
    refine q_then_exit (h := ?_)
    refine q_blk_hit (h := ?_)
    refine q_seq (h := ?_)
    refine sq (h := ?_)
    refine rg (h := ?_)
    refine WL.y (hy := mv) (h := ?_)
    refine WL.y (hy := (by first | exact ldA | exact ldEA)) (h := ?_)
    refine bs (h := fun b1 => ?_)
    refine ap (es := encY l) (m := l.length) (k := 1) (A := A) (c := c) (h := fun A1 c1 => ?_)
    rw [encY_snoc]
    refine WL.y (hy := asg) (h := ?_)
    refine WL.cut (by repeat (first | exact Cut.nil | apply Cut.hit | apply Cut.miss (by exact rfl))) ?_
    refine nl (h := ?_)
    refine q_seq (h := ?_)
    refine rtn (h := ?_)
    refine q_ret (hR := ?_)
    first
      | (rw [hE, List.length_set]; exact fun w hS => ⟨(A, c), trivial, rfl, hS.sub (by repeat (first | exact SubL.nil | (apply SubL.cons; (repeat (first | exact At.here | apply At.there))) | exact SubL.refl _ | apply SubL.skip))⟩)
      | (rw [hE, List.length_append]; exact fun w hS => ⟨(A1, c1), trivial, rfl, hS.sub (by repeat (first | exact SubL.nil | (apply SubL.cons; (repeat (first | exact At.here | apply At.there))) | exact SubL.refl _ | apply SubL.skip))⟩)
end Go.Proofs.YtpejgebcmhmpaaaGreat

namespace Go.Proofs.YtpejgebcmhmpaaaGreat
open Go Go.RowKit

structure SpI (f : Fmt) (K : Int) (U : List Row) (es : List En) (out : List StA) (U' : List Row) : Prop where
  en : out.map enA = normC es
  ok : ∀ x ∈ out, StK f K U' x
  sub : ∀ r ∈ U, r ∈ U'
theorem SpI.add {f : Fmt} {K : Int} {U : List Row} {es : List En} {out : List StA} {U' U2 : List Row} (h : SpI f K U es out U') (hU : ∀ r ∈ U', r ∈ U2) {s : StA} (hs : StK f K U2 s) : SpI f K U (es ++ [enA s]) (addS out s) U2 :=
  ⟨by rw [addS_en, h.en, norm_snoc], addS_ok (fun x hx => (h.ok x hx).mono (Int.le_refl _) hU) hs, fun r hr => hU r (h.sub r hr)⟩
theorem SpI.keys {f : Fmt} {K : Int} {U : List Row} {es : List En} {out : List StA} {U' : List Row} (h : SpI f K U es out U') : Keys (out.map enA) := by rw [h.en]; exact norm_nodup _
def goP (f : Fmt) (side : Int) (e : En) : Nat → List En
  | 0 => []
  | k + 1 => goP f side e k ++ goE f side e (k : Int)
theorem stepI_succ {f : Fmt} {side : Int} {l : List StA} {i : Nat} {y : StA} (h : l[i]? = some y) : stepI f ((l.take (i + 1)).map enA) side = stepI f ((l.take i).map enA) side ++ goP f side (enA y) 2 := by
  unfold stepI
  rw [List.take_add_one, h, List.map_append, List.flatMap_append]
  show _ ++ ((goE f side (enA y) 0 ++ goE f side (enA y) 1) ++ []) = _ ++ (([] ++ goE f side (enA y) ((0 : Nat) : Int)) ++ goE f side (enA y) ((1 : Nat) : Int))
  rw [List.append_nil, List.nil_append]; rfl
theorem goE_yes {f : Fmt} {side p : Int} {y : StA} {u : Spot} (hs : side = -1 ∨ side = p) (hn : nxtS f (spotOf y.m) p = some u) : goE f side (enA y) p = [upE (enA y) u] := by
  unfold goE
  rw [if_pos hs, show (enA y).1 = spotOf y.m from rfl, hn]
theorem goE_no {f : Fmt} {side p : Int} {y : StA} (h : ¬ ((side = -1 ∨ side = p) ∧ nxtS f (spotOf y.m) p ≠ none)) : goE f side (enA y) p = [] := by
  unfold goE
  by_cases hs : side = -1 ∨ side = p
  · rw [if_pos hs, show (enA y).1 = spotOf y.m from rfl]
    cases hn : nxtS f (spotOf y.m) p with
    | none => rfl
    | some u => exact absurd ⟨hs, by rw [hn]; simp⟩ h
  · rw [if_neg hs]
structure SPZ where
  (i : Nat) (out : List StA) (A : Option Addr) (c : Nat) (U : List Row)
structure StR where
  (l : List StA) (A : Option Addr) (c : Nat) (U : List Row)
set_option maxRecDepth 100000 in
set_option maxHeartbeats 1000000 in
theorem T_step (f : Fmt) (hf : f.Ok) (K : Int) (hK : K ≤ 21) (l : List StA) (side : Int) (A : Option Addr) (c : Nat) (U : List Row) (hok : ∀ x ∈ l, StK f K U x) (hl : l.length ≤ 50000000) :
    Tr Tryz.prog 90 [f.val, .slice A l.length c, .int .i64 side] [.own A c 91 16 l.length (encY l), manyE true U] (fun q : StR => SpI f (K + 1) U (stepI f (l.map enA) side) q.l q.U) (fun q => .slice q.A q.l.length q.c) (fun q => [.own q.A q.c 91 16 q.l.length (encY q.l), manyE true q.U]) := by
  refine ⟨fun w0 w R hst => ?_⟩
  refine en Tryz.func90 Tryz.ntmps90 hst (h := fun F => ?_)
  refine sq (h := ?_)
  refine rg (h := ?_)
  refine bxA (h := fun b0 => ?_)
  refine WL.y (hy := asg) (h := ?_)
  refine WL.cut (by repeat (first | exact Cut.nil | apply Cut.hit | apply Cut.miss (by exact rfl))) ?_
  refine nl (h := ?_)
  refine q_seq (h := ?_)
  refine sq (h := ?_)
  refine rg (h := ?_)
  refine WL.y (hy := asg) (h := ?_)
  refine WL.cut (by repeat (first | exact Cut.nil | apply Cut.hit | apply Cut.miss (by exact rfl))) ?_
  refine nl (h := ?_)
  refine q_seq (h := ?_)
  refine sq (h := ?_)
  refine sq (h := ?_)
  refine WC.nilOwn 91 16 (h := ?_)
  refine rg (h := ?_)
  refine WL.y (hy := asg) (h := ?_)
  refine WL.cut (by repeat (first | exact Cut.nil | apply Cut.hit | apply Cut.miss (by exact rfl))) ?_
  refine nl (h := ?_)
  refine q_seq (h := ?_)
  refine bk (h := ?_)
  refine lp (X := SPZ) (I := fun z => z.i ≤ l.length ∧ SpI f (K + 1) U (stepI f ((l.take z.i).map enA) side) z.out z.U) (le := fun z => [(1, .slice A l.length c), (2, .int .i64 side), (3, .pointer (some ⟨b0, 0, none⟩)), (7, .slice z.A z.out.length z.c), (8, .int .i64 z.i)]) (Le := fun z => .own z.A z.c 91 16 z.out.length (encY z.out) :: manyE true z.U :: .own A c 91 16 l.length (encY l) :: .blk b0 23 f.cells :: R) (μ := fun z => l.length - z.i) ⟨0, [], none, 0, U⟩ ⟨Nat.zero_le _, ⟨rfl, fun x hx => (by cases hx), fun _ h => h⟩⟩ (by repeat (first | exact trivial | refine ⟨rfl, ?_⟩)) (by repeat (first | exact SubL.nil | (apply SubL.cons; (repeat (first | exact At.here | apply At.there))) | exact SubL.refl _ | apply SubL.skip)) (fun z hz => ?_)
  obtain ⟨hzi, hzI⟩ := hz
  refine sq (h := ?_)
  refine sq (h := ?_)
  refine rg (h := ?_)
  refine WL.y (hy := mv) (h := ?_)
  refine WL.y (hy := mv) (h := ?_)
  refine WL.y (hy := lenS) (h := ?_)
  refine WL.y (hy := lss) (h := ?_)
  refine nl (h := ?_)
  refine q_seq (h := ?_)
  refine cd (by exact rfl) (fun h0 => ?_) (fun h0 => ?_)
  · skip
    have hin : z.i < l.length := by have := of_decide_eq_true h0; omega
    obtain ⟨y, hy⟩ : ∃ y, l[z.i]? = some y := ⟨_, List.getElem?_eq_getElem hin⟩
    have hyk := hok y (List.mem_of_getElem? hy)
    obtain ⟨hy1, hy2, hy3⟩ := hyk.inv hf
    have hyb := hyk.bd hf (by omega)
    have hyn := hyk.n
    refine skp (h := ?_)
    refine q_seq (h := ?_)
    refine sq (h := ?_)
    refine bk (h := ?_)
    refine sq (h := ?_)
    refine rg (h := ?_)
    refine WL.y (hy := asg) (h := ?_)
    refine WL.cut (by repeat (first | exact Cut.nil | apply Cut.hit | apply Cut.miss (by exact rfl))) ?_
    refine nl (h := ?_)
    refine q_seq (h := ?_)
    refine bk (h := ?_)
    refine lp (X := SPZ) (I := fun v => v.i ≤ 2 ∧ SpI f (K + 1) U (stepI f ((l.take z.i).map enA) side ++ goP f side (enA y) v.i) v.out v.U) (le := fun v => [(1, .slice A l.length c), (2, .int .i64 side), (3, .pointer (some ⟨b0, 0, none⟩)), (7, .slice v.A v.out.length v.c), (8, .int .i64 z.i), (9, .int .i64 v.i)]) (Le := fun v => .own v.A v.c 91 16 v.out.length (encY v.out) :: manyE true v.U :: .own A c 91 16 l.length (encY l) :: .blk b0 23 f.cells :: R) (μ := fun v => 2 - v.i) ⟨0, z.out, z.A, z.c, z.U⟩ ⟨Nat.zero_le _, by rw [show goP f side (enA y) 0 = [] from rfl, List.append_nil]; exact hzI⟩ (by repeat (first | exact trivial | refine ⟨rfl, ?_⟩)) (by repeat (first | exact SubL.nil | (apply SubL.cons; (repeat (first | exact At.here | apply At.there))) | exact SubL.refl _ | apply SubL.skip)) (fun v hv => ?_)
    obtain ⟨hvi, hvI⟩ := hv
    refine sq (h := ?_)
    refine sq (h := ?_)
    refine rg (h := ?_)
    refine WL.y (hy := mv) (h := ?_)
    refine WL.y (hy := lss) (h := ?_)
    refine nl (h := ?_)
    refine q_seq (h := ?_)
    refine cd (by exact rfl) (fun h1 => ?_) (fun h1 => ?_)
    · skip
      have hp2 : v.i < 2 := by have := of_decide_eq_true h1; omega
      have hp01 : (v.i : Int) = 0 ∨ (v.i : Int) = 1 := by omega
      refine skp (h := ?_)
      refine q_seq (h := ?_)
      refine sq (h := ?_)
      refine bk (h := ?_)
      refine sq (h := ?_)
      refine rg (h := ?_)
      refine WL.y (hy := mv) (h := ?_)
      refine WL.y (hy := mv) (h := ?_)
      refine WL.y (hy := ix (A := A) (m := l.length) (hb := by omega)) (h := ?_)
      refine WL.y (hy := (by first | exact fa | exact faE)) (h := ?_)
      refine WL.y (hy := (by first | exact fa | exact faE)) (h := ?_)
      refine WL.y (hy := (by first | exact fa | exact faE)) (h := ?_)
      refine WL.y (hy := ldE (A := A) (k := z.i) (hk := encY_at hy)) (h := ?_)
      refine WL.y (hy := lss) (h := ?_)
      refine WL.y (hy := mv) (h := ?_)
      apply brAnd 8 29 37 (by exact rfl)
      · intro hb2
        refine un (h := ?_)
        refine WL.y (hy := mv) (h := ?_)
        refine un (h := ?_)
        refine WL.y (hy := eql) (h := ?_)
        refine un (h := ?_)
        refine WL.y (hy := mv) (h := ?_)
        apply brOr 4 32 36 (by exact rfl)
        · intro hb3
          refine un (h := ?_)
          refine WL.y (hy := mv) (h := ?_)
          refine un (h := ?_)
          refine WL.y (hy := mv) (h := ?_)
          refine un (h := ?_)
          refine WL.y (hy := eql) (h := ?_)
          refine un (h := ?_)
          refine WL.y (hy := (by first | exact pkT | exact pkF)) (h := ?_)
          exact mg (by repeat (first | exact trivial | refine ⟨rfl, ?_⟩ | refine ⟨by rw [hb3]; rfl, ?_⟩ | refine ⟨by rw [hb2]; rfl, ?_⟩)) (by repeat (first | exact SubL.nil | (apply SubL.cons; (repeat (first | exact At.here | apply At.there))) | exact SubL.refl _ | apply SubL.skip))
        · intro hb3
          repeat (first | refine un (h := ?_) | refine sk (h := ?_) | refine WL.y (hy := pkF) (h := ?_) | refine WL.y (hy := pkT) (h := ?_))
          exact mg (by repeat (first | exact trivial | refine ⟨rfl, ?_⟩ | refine ⟨by rw [hb3]; rfl, ?_⟩ | refine ⟨by rw [hb2]; rfl, ?_⟩)) (by repeat (first | exact SubL.nil | (apply SubL.cons; (repeat (first | exact At.here | apply At.there))) | exact SubL.refl _ | apply SubL.skip))
        refine WL.y (hy := (by first | exact pkT | exact pkF)) (h := ?_)
        exact mg (by repeat (first | exact trivial | refine ⟨rfl, ?_⟩ | refine ⟨by rw [hb2]; rfl, ?_⟩)) (by repeat (first | exact SubL.nil | (apply SubL.cons; (repeat (first | exact At.here | apply At.there))) | exact SubL.refl _ | apply SubL.skip))
      · intro hb2
        repeat (first | refine un (h := ?_) | refine sk (h := ?_) | refine WL.y (hy := pkF) (h := ?_) | refine WL.y (hy := pkT) (h := ?_))
        exact mg (by repeat (first | exact trivial | refine ⟨rfl, ?_⟩ | refine ⟨by rw [hb2]; rfl, ?_⟩)) (by repeat (first | exact SubL.nil | (apply SubL.cons; (repeat (first | exact At.here | apply At.there))) | exact SubL.refl _ | apply SubL.skip))
      refine nl (h := ?_)
      refine q_seq (h := ?_)
      refine cd (by exact rfl) (fun h4 => ?_) (fun h4 => ?_)
      · skip
        have h9' := h4
        rw [Bool.and_eq_true, Bool.or_eq_true, decide_eq_true_eq, decide_eq_true_eq, decide_eq_true_eq] at h9'
        obtain ⟨hgi, hgn, hgp, hgf⟩ := hyk.go hf h9'.1 hp01
        have hus := hvI.sub _ hyk.us
        have hug := hvI.sub _ hyk.ug
        have hup := hvI.sub _ hyk.up
        have hge := goE_yes h9'.2 hgn
        have hlo := hyk.lo
        have hhi := hyk.hi
        have hou := hyk.out
        have hvl := stk_len hf hvI.keys hvI.ok (by omega)
        refine sq (h := ?_)
        refine rg (h := ?_)
        refine WL.y (hy := mv) (h := ?_)
        refine WL.y (hy := mv) (h := ?_)
        refine WL.y (hy := ix (A := A) (m := l.length) (hb := by omega)) (h := ?_)
        refine WL.y (hy := ldEW (A := A) (k := z.i) (cs := y.cells) (hk := encY_at hy)) (h := ?_)
        refine al (h := fun b1 => ?_)
        first | refine stA (h := ?_) | refine stEA (h := ?_)
        refine nl (h := ?_)
        refine q_seq (h := ?_)
        refine sq (h := ?_)
        refine rg (h := ?_)
        refine WL.y (hy := (by first | exact ldA | exact ldEA)) (h := ?_)
        refine WL.y (hy := (by first | exact fa | exact faE)) (h := ?_)
        refine WL.y (hy := (by first | exact ldA | exact ldEA)) (h := ?_)
        refine WL.y (hy := mv) (h := ?_)
        refine clT (hc := T_ref1_PointU' f y.m hy1 (v.i : Int) y.ps.length y.sA y.sc y.gA y.gc v.U hus hug hf hyb (by omega) hgi hp01) (h := fun xu hxu => ?_)
        refine WL.y (hy := (by first | exact fa | exact faE)) (h := ?_)
        first | refine stA (h := ?_) | refine stEA (h := ?_)
        refine nl (h := ?_)
        refine q_seq (h := ?_)
        refine sq (h := ?_)
        refine WC.getRow (hxu.sub _ hup) (by repeat (first | exact At.here | apply At.there)) ?_
        refine rg (h := ?_)
        refine bs (h := fun b2 => ?_)
        refine WL.y (hy := (by first | exact fa | exact faE)) (h := ?_)
        refine WL.y (hy := (by first | exact ld | exact ldE)) (h := ?_)
        refine ap (es := []) (es2 := encI y.ps) (m := 0) (k := y.ps.length) (A := some ⟨b2, 0, none⟩) (A2 := y.pA) (h := fun A1 c1 => ?_)
        refine WL.y (hy := mv) (h := ?_)
        refine bs (h := fun b3 => ?_)
        refine ap (es := [] ++ encI y.ps) (m := 0 + y.ps.length) (k := 1) (A := A1) (c := c1) (h := fun A2 c2 => ?_)
        rw [show [] ++ encI y.ps ++ [[Value.int .i64 (v.i : Int)]] = encI (y.ps ++ [(v.i : Int)]) by rw [List.nil_append]; unfold encI; rw [List.map_append]; rfl, show 0 + y.ps.length + 1 = (y.ps ++ [(v.i : Int)]).length by rw [List.length_append, Nat.zero_add]; rfl]
        refine WL.y (hy := (by first | exact fa | exact faE)) (h := ?_)
        first | refine st (h := ?_) | refine stE (h := ?_)
        refine nl (h := ?_)
        refine q_seq (h := ?_)
        refine sq (h := ?_)
        refine WC.manyAdd (A := A2) (by repeat (first | exact At.here | apply At.there)) (by repeat (first | exact At.here | apply At.there)) ?_
        obtain ⟨U2, hU2⟩ : ∃ U2, U2 = xu.U ++ [(⟨A2, 1, (y.ps ++ [(v.i : Int)]).length, encI (y.ps ++ [(v.i : Int)])⟩ : Row)] := ⟨_, rfl⟩
        rw [← hU2]
        have hsub2 : ∀ r ∈ xu.U, r ∈ U2 := fun r hr => by rw [hU2]; exact List.mem_append_left _ hr
        have hs2 : StK f (K + 1) U2 ⟨pointV y.m (v.i : Int), xu.sA, xu.gA, xu.sc, xu.gc, y.ps ++ [(v.i : Int)], A2, c2, (y.mn.1 + 1, y.mn.2.1 + 1, y.mn.2.2)⟩ := ⟨by rw [show (StA.m ⟨pointV y.m (v.i : Int), xu.sA, xu.gA, xu.sc, xu.gc, y.ps ++ [(v.i : Int)], A2, c2, (y.mn.1 + 1, y.mn.2.1 + 1, y.mn.2.2)⟩).first = y.m.first from hgf]; exact hyk.fs, by rw [show (StA.m ⟨pointV y.m (v.i : Int), xu.sA, xu.gA, xu.sc, xu.gc, y.ps ++ [(v.i : Int)], A2, c2, (y.mn.1 + 1, y.mn.2.1 + 1, y.mn.2.2)⟩).first = y.m.first from hgf]; exact hgp, by show (((y.ps ++ [(v.i : Int)]).length : Nat) : Int) ≤ K + 1; rw [List.length_append]; show ((y.ps.length + 1 : Nat) : Int) ≤ K + 1; omega, hsub2 _ hxu.s, hsub2 _ hxu.g, by rw [hU2]; exact List.mem_append_right _ (List.mem_singleton.2 rfl), by show 0 ≤ y.mn.1 + 1 ∧ y.mn.1 + 1 ≤ K + 1; omega, by show 0 ≤ y.mn.2.1 + 1 ∧ y.mn.2.1 + 1 ≤ K + 1; omega, hou⟩
        have hvn : SpI f (K + 1) U (stepI f ((l.take z.i).map enA) side ++ goP f side (enA y) (v.i + 1)) (addS v.out ⟨pointV y.m (v.i : Int), xu.sA, xu.gA, xu.sc, xu.gc, y.ps ++ [(v.i : Int)], A2, c2, (y.mn.1 + 1, y.mn.2.1 + 1, y.mn.2.2)⟩) U2 := by
          have h9' := hvI.add (fun r hr => hsub2 r (hxu.sub r hr)) hs2
          show SpI f (K + 1) U (_ ++ (goP f side (enA y) v.i ++ goE f side (enA y) (v.i : Int))) _ _
          rw [hge, ← List.append_assoc]; exact h9'
        refine rg (h := ?_)
        refine WL.y (hy := (by first | exact fa | exact faE)) (h := ?_)
        refine WL.y (hy := (by first | exact ld | exact ldE)) (h := ?_)
        refine WL.y (hy := addI (hb := by omega)) (h := ?_)
        refine WL.y (hy := (by first | exact fa | exact faE)) (h := ?_)
        first | refine st (h := ?_) | refine stE (h := ?_)
        refine nl (h := ?_)
        refine q_seq (h := ?_)
        refine sq (h := ?_)
        refine rg (h := ?_)
        refine WL.y (hy := (by first | exact fa | exact faE)) (h := ?_)
        refine WL.y (hy := (by first | exact ld | exact ldE)) (h := ?_)
        refine WL.y (hy := addI (hb := by omega)) (h := ?_)
        refine WL.y (hy := (by first | exact fa | exact faE)) (h := ?_)
        first | refine st (h := ?_) | refine stE (h := ?_)
        refine nl (h := ?_)
        refine q_seq (h := ?_)
        refine rg (h := ?_)
        refine WL.y (hy := mv) (h := ?_)
        refine WL.y (hy := (by first | exact ldA | exact ldEA)) (h := ?_)
        refine clT (hc := T_added f hf (K + 1) (by omega) v.out ⟨pointV y.m (v.i : Int), xu.sA, xu.gA, xu.sc, xu.gc, y.ps ++ [(v.i : Int)], A2, c2, (y.mn.1 + 1, y.mn.2.1 + 1, y.mn.2.2)⟩ v.A v.c U2 (fun x hx => (hvI.ok x hx).mono (Int.le_refl _) fun r hr => hsub2 r (hxu.sub r hr)) hs2 (by omega)) (h := fun q _ => ?_)
        refine WL.y (hy := asg) (h := ?_)
        refine WL.cut (by repeat (first | exact Cut.nil | apply Cut.hit | apply Cut.miss (by exact rfl))) ?_
        refine nl (h := ?_)
        refine q_blk_norm (h := ?_)
        refine q_seq (h := ?_)
        refine rg (h := ?_)
        refine WL.y (hy := mv) (h := ?_)
        refine WL.y (hy := addI) (h := ?_)
        refine WL.y (hy := asg) (h := ?_)
        refine WL.cut (by repeat (first | exact Cut.nil | apply Cut.hit | apply Cut.miss (by exact rfl))) ?_
        refine nl (h := ?_)
        first
          | (refine rn (x := v) ⟨v.i + 1, addS v.out ⟨pointV y.m (v.i : Int), xu.sA, xu.gA, xu.sc, xu.gc, y.ps ++ [(v.i : Int)], A2, c2, (y.mn.1 + 1, y.mn.2.1 + 1, y.mn.2.2)⟩, q.1, q.2, U2⟩ ⟨hp2, hvn⟩ (by dsimp only; omega) (by repeat (first | exact trivial | refine ⟨rfl, ?_⟩)) (by repeat (first | exact SubL.nil | (apply SubL.cons; (repeat (first | exact At.here | apply At.there))) | exact SubL.refl _ | apply SubL.skip)); done)
          | (refine rn (x := v) ⟨v.i + 1, v.out, v.A, v.c, v.U⟩ ⟨hp2, hvn⟩ (by dsimp only; omega) (by repeat (first | exact trivial | refine ⟨rfl, ?_⟩)) (by repeat (first | exact SubL.nil | (apply SubL.cons; (repeat (first | exact At.here | apply At.there))) | exact SubL.refl _ | apply SubL.skip)); done)
      · skip
        have hge : goE f side (enA y) (v.i : Int) = [] := goE_no fun ⟨g1, g2⟩ => by
          have h9' := h4
          rw [Bool.and_eq_false_iff, Bool.or_eq_false_iff, decide_eq_false_iff_not, decide_eq_false_iff_not, decide_eq_false_iff_not] at h9'
          rcases h9' with h8' | ⟨h8', h7'⟩
          · exact g2 (hyk.stop hf h8' _)
          · rcases g1 with g1 | g1
            · exact h8' g1
            · exact h7' g1
        have hvn : SpI f (K + 1) U (stepI f ((l.take z.i).map enA) side ++ goP f side (enA y) (v.i + 1)) v.out v.U := by
          show SpI f (K + 1) U (_ ++ (goP f side (enA y) v.i ++ goE f side (enA y) (v.i : Int))) v.out v.U
          rw [hge, List.append_nil]; exact hvI
        refine skp (h := ?_)
        refine q_blk_norm (h := ?_)
        refine q_seq (h := ?_)
        refine rg (h := ?_)
        refine WL.y (hy := mv) (h := ?_)
        refine WL.y (hy := addI) (h := ?_)
        refine WL.y (hy := asg) (h := ?_)
        refine WL.cut (by repeat (first | exact Cut.nil | apply Cut.hit | apply Cut.miss (by exact rfl))) ?_
        refine nl (h := ?_)
        first
          | (refine rn (x := v) ⟨v.i + 1, addS v.out ⟨pointV y.m (v.i : Int), xu.sA, xu.gA, xu.sc, xu.gc, y.ps ++ [(v.i : Int)], A2, c2, (y.mn.1 + 1, y.mn.2.1 + 1, y.mn.2.2)⟩, q.1, q.2, U2⟩ ⟨hp2, hvn⟩ (by dsimp only; omega) (by repeat (first | exact trivial | refine ⟨rfl, ?_⟩)) (by repeat (first | exact SubL.nil | (apply SubL.cons; (repeat (first | exact At.here | apply At.there))) | exact SubL.refl _ | apply SubL.skip)); done)
          | (refine rn (x := v) ⟨v.i + 1, v.out, v.A, v.c, v.U⟩ ⟨hp2, hvn⟩ (by dsimp only; omega) (by repeat (first | exact trivial | refine ⟨rfl, ?_⟩)) (by repeat (first | exact SubL.nil | (apply SubL.cons; (repeat (first | exact At.here | apply At.there))) | exact SubL.refl _ | apply SubL.skip)); done)
    · skip
      have hp2 : v.i = 2 := by have := of_decide_eq_false h1; omega
      rw [hp2, ← stepI_succ hy] at hvI
      refine et (h := ?_)
      refine q_then_exit (h := ?_)
      refine q_then_exit (h := ?_)
      refine q_blk_hit (h := ?_)
      refine q_blk_norm (h := ?_)
      refine q_seq (h := ?_)
      refine rg (h := ?_)
      refine WL.y (hy := mv) (h := ?_)
      refine WL.y (hy := addI) (h := ?_)
      refine WL.y (hy := asg) (h := ?_)
      refine WL.cut (by repeat (first | exact Cut.nil | apply Cut.hit | apply Cut.miss (by exact rfl))) ?_
      refine nl (h := ?_)
      refine rn (x := z) ⟨z.i + 1, v.out, v.A, v.c, v.U⟩ ⟨hin, hvI⟩ (by dsimp only; omega) (by repeat (first | exact trivial | refine ⟨rfl, ?_⟩)) (by repeat (first | exact SubL.nil | (apply SubL.cons; (repeat (first | exact At.here | apply At.there))) | exact SubL.refl _ | apply SubL.skip))
  · skip
    have hin : z.i = l.length := by have := of_decide_eq_false h0; omega
    rw [hin, List.take_length] at hzI
    refine et (h := ?_)
    refine q_then_exit (h := ?_)
    refine q_then_exit (h := ?_)
    refine q_blk_hit (h := ?_)
    refine q_seq (h := ?_)
    refine sq (h := ?_)
    refine rg (h := ?_)
    refine WL.y (hy := mv) (h := ?_)
    refine WL.y (hy := asg) (h := ?_)
    refine WL.cut (by repeat (first | exact Cut.nil | apply Cut.hit | apply Cut.miss (by exact rfl))) ?_
    refine nl (h := ?_)
    refine q_seq (h := ?_)
    refine rtn (h := ?_)
    refine q_ret (hR := ?_)
    exact fun w hS => ⟨⟨z.out, z.A, z.c, z.U⟩, hzI, rfl, hS.sub (by repeat (first | exact SubL.nil | (apply SubL.cons; (repeat (first | exact At.here | apply At.there))) | exact SubL.refl _ | apply SubL.skip))⟩
theorem fold_en (b : List StA) : ∀ a : List StA, (b.foldl addS a).map enA = joinC (a.map enA) (b.map enA) := by
  induction b with
  | nil => exact fun a => rfl
  | cons x b ih => exact fun a => by rw [List.foldl_cons, ih, addS_en]; rfl
theorem fold_ok {f : Fmt} {K : Int} {U : List Row} (b : List StA) : ∀ a : List StA, (∀ x ∈ a, StK f K U x) → (∀ x ∈ b, StK f K U x) → ∀ x ∈ b.foldl addS a, StK f K U x := by
  induction b with
  | nil => exact fun a h _ => h
  | cons y b ih => exact fun a h hb => by rw [List.foldl_cons]; exact ih _ (addS_ok h (hb y (by simp))) fun x hx => hb x (by simp [hx])
structure JoZ where
  (k : Nat) (A : Option Addr) (c : Nat)
set_option maxRecDepth 100000 in
theorem T_joined (f : Fmt) (hf : f.Ok) (K : Int) (hK : K ≤ 22) (a b : List StA) (A B : Option Addr) (c d : Nat) (U : List Row) (ha : ∀ x ∈ a, StK f K U x) (hb : ∀ x ∈ b, StK f K U x) (hka : Keys (a.map enA)) (hbl : b.length ≤ 50000000) :
    Tr Tryz.prog 64 [.slice A a.length c, .slice B b.length d] [.own A c 91 16 a.length (encY a), .own B d 91 16 b.length (encY b), manyE true U] (fun _ : Option Addr × Nat => True) (fun q => .slice q.1 (b.foldl addS a).length q.2) (fun q => [.own q.1 q.2 91 16 (b.foldl addS a).length (encY (b.foldl addS a)), .own B d 91 16 b.length (encY b), manyE true U]) := by
  refine ⟨fun w0 w R hst => ?_⟩
  have hal := stk_len hf hka ha hK
  refine en Tryz.func64 Tryz.ntmps64 hst (h := fun F => ?_)
  refine sq (h := ?_)
  refine rg (h := ?_)
  refine WL.y (hy := asg) (h := ?_)
  refine WL.cut (by repeat (first | exact Cut.nil | apply Cut.hit | apply Cut.miss (by exact rfl))) ?_
  refine nl (h := ?_)
  refine q_seq (h := ?_)
  refine sq (h := ?_)
  refine rg (h := ?_)
  refine bs (h := fun b0 => ?_)
  refine WL.y (hy := mv) (h := ?_)
  refine ap (es := []) (es2 := encY a) (m := 0) (k := a.length) (A := some ⟨b0, 0, none⟩) (A2 := A) (h := fun A1 c1 => ?_)
  rw [List.nil_append, Nat.zero_add]
  refine WL.y (hy := asg) (h := ?_)
  refine WL.cut (by repeat (first | exact Cut.nil | apply Cut.hit | apply Cut.miss (by exact rfl))) ?_
  refine nl (h := ?_)
  refine q_seq (h := ?_)
  refine sq (h := ?_)
  refine sq (h := ?_)
  refine rg (h := ?_)
  refine WL.y (hy := asg) (h := ?_)
  refine WL.cut (by repeat (first | exact Cut.nil | apply Cut.hit | apply Cut.miss (by exact rfl))) ?_
  refine nl (h := ?_)
  refine q_seq (h := ?_)
  refine bk (h := ?_)
  refine lp (X := JoZ) (I := fun z => z.k ≤ b.length) (le := fun z => [(1, .slice B b.length d), (5, .slice z.A ((b.take z.k).foldl addS a).length z.c), (6, .int .i64 z.k)]) (Le := fun z => .own z.A z.c 91 16 ((b.take z.k).foldl addS a).length (encY ((b.take z.k).foldl addS a)) :: .own B d 91 16 b.length (encY b) :: manyE true U :: R) (μ := fun z => b.length - z.k) ⟨0, A1, c1⟩ (Nat.zero_le _) (by repeat (first | exact trivial | refine ⟨rfl, ?_⟩)) (by repeat (first | exact SubL.nil | (apply SubL.cons; (repeat (first | exact At.here | apply At.there))) | exact SubL.refl _ | apply SubL.skip)) (fun z hz => ?_)
  refine sq (h := ?_)
  refine sq (h := ?_)
  refine rg (h := ?_)
  refine WL.y (hy := mv) (h := ?_)
  refine WL.y (hy := mv) (h := ?_)
  refine WL.y (hy := lenS) (h := ?_)
  refine WL.y (hy := lss) (h := ?_)
  refine nl (h := ?_)
  refine q_seq (h := ?_)
  refine cd (by exact rfl) (fun h0 => ?_) (fun h0 => ?_)
  · skip
    have hkn : z.k < b.length := by have := of_decide_eq_true h0; omega
    obtain ⟨y, hy⟩ : ∃ y, b[z.k]? = some y := ⟨_, List.getElem?_eq_getElem hkn⟩
    have hzo := fold_ok (b.take z.k) a ha fun x hx => hb x (List.mem_of_mem_take hx)
    have hzk2 : Keys (((b.take z.k).foldl addS a).map enA) := by rw [fold_en]; exact join_keys _ hka
    have hzl := stk_len hf hzk2 hzo hK
    have hfs : (b.take (z.k + 1)).foldl addS a = addS ((b.take z.k).foldl addS a) y := by rw [List.take_add_one, hy, List.foldl_append]; rfl
    refine skp (h := ?_)
    refine q_seq (h := ?_)
    refine sq (h := ?_)
    refine bk (h := ?_)
    refine rg (h := ?_)
    refine WL.y (hy := mv) (h := ?_)
    refine WL.y (hy := mv) (h := ?_)
    refine WL.y (hy := mv) (h := ?_)
    refine WL.y (hy := ix (A := B) (m := b.length) (hb := by omega)) (h := ?_)
    refine WL.y (hy := ldEW (A := B) (k := z.k) (cs := y.cells) (hk := encY_at hy)) (h := ?_)
    refine clT (hc := T_added f hf K (by omega) ((b.take z.k).foldl addS a) y z.A z.c U hzo (hb y (List.mem_of_getElem? hy)) (by omega)) (h := fun q _ => ?_)
    rw [← hfs]
    refine WL.y (hy := asg) (h := ?_)
    refine WL.cut (by repeat (first | exact Cut.nil | apply Cut.hit | apply Cut.miss (by exact rfl))) ?_
    refine nl (h := ?_)
    refine q_blk_norm (h := ?_)
    refine q_seq (h := ?_)
    refine rg (h := ?_)
    refine WL.y (hy := mv) (h := ?_)
    refine WL.y (hy := addI) (h := ?_)
    refine WL.y (hy := asg) (h := ?_)
    refine WL.cut (by repeat (first | exact Cut.nil | apply Cut.hit | apply Cut.miss (by exact rfl))) ?_
    refine nl (h := ?_)
    refine rn (x := z) ⟨z.k + 1, q.1, q.2⟩ hkn (by dsimp only; omega) (by repeat (first | exact trivial | refine ⟨rfl, ?_⟩)) (by repeat (first | exact SubL.nil | (apply SubL.cons; (repeat (first | exact At.here | apply At.there))) | exact SubL.refl _ | apply SubL.skip))
  · skip
    have hkn : z.k = b.length := by have := of_decide_eq_false h0; omega
    rw [hkn, List.take_length]
    refine et (h := ?_)
    refine q_then_exit (h := ?_)
    refine q_then_exit (h := ?_)
    refine q_blk_hit (h := ?_)
    refine q_seq (h := ?_)
    refine sq (h := ?_)
    refine rg (h := ?_)
    refine WL.y (hy := mv) (h := ?_)
    refine WL.y (hy := asg) (h := ?_)
    refine WL.cut (by repeat (first | exact Cut.nil | apply Cut.hit | apply Cut.miss (by exact rfl))) ?_
    refine nl (h := ?_)
    refine q_seq (h := ?_)
    refine rtn (h := ?_)
    refine q_ret (hR := ?_)
    exact fun w hS => ⟨(z.A, z.c), trivial, rfl, hS.sub (by repeat (first | exact SubL.nil | (apply SubL.cons; (repeat (first | exact At.here | apply At.there))) | exact SubL.refl _ | apply SubL.skip))⟩
theorem C_ref3_Score (f : Fmt) (hf : f.Ok) (K : Int) (hK : K ≤ 900) (U : List Row) (s : StA) (hs : StK f K U s) (w : World) (h : Rd w s.sA 2 s.m.st.length (encP s.m.st)) : C0 Tryz.prog 57 [f.val, s.val] w (s.m.sc.val s.sA s.sc) := by
  obtain ⟨h1, h2, h3⟩ := hs.inv hf
  have hfs := hs.fs
  refine ⟨en Tryz.func57 Tryz.ntmps57 ((St.init w).share (e := .ro s.sA 2 s.m.st.length (encP s.m.st)) h rfl rfl rfl) (h := fun F => ?_)⟩
  refine sq (h := ?_)
  refine rg (h := ?_)
  refine bxA (h := fun b0 => ?_)
  refine bxA (h := fun b1 => ?_)
  refine al (h := fun b2 => ?_)
  refine nl (h := ?_)
  refine q_seq (h := ?_)
  refine sq (h := ?_)
  refine rg (h := ?_)
  refine WL.y (hy := (by first | exact fa | exact faE)) (h := ?_)
  refine WL.y (hy := (by first | exact fa | exact faE)) (h := ?_)
  refine WL.y (hy := (by first | exact ldA | exact ldEA)) (h := ?_)
  refine al (h := fun b3 => ?_)
  first | refine stA (h := ?_) | refine stEA (h := ?_)
  refine nl (h := ?_)
  refine q_seq (h := ?_)
  refine sq (h := ?_)
  refine rg (h := ?_)
  refine WL.y (hy := (by first | exact ldA | exact ldEA)) (h := ?_)
  refine WL.y (hy := (by first | exact fa | exact faE)) (h := ?_)
  refine WL.y (hy := (by first | exact ldA | exact ldEA)) (h := ?_)
  refine cl0 (hc := fun w hS => C_ref1_Next f s.m h1 s.sA s.sc s.gA s.gc hf (by omega) h2 (hs.bd hf hK) w (hS.get (by repeat (first | exact Rds.ro | exact Rds.own | apply Rds.there)))) (h := ?_)
  refine WL.y (hy := (by first | exact fa | exact faE)) (h := ?_)
  first | refine st (h := ?_) | refine stE (h := ?_)
  refine nl (h := ?_)
  refine q_seq (h := ?_)
  refine sq (h := ?_)
  refine rg (h := ?_)
  refine WL.y (hy := (by first | exact ldA | exact ldEA)) (h := ?_)
  first | refine stA (h := ?_) | refine stEA (h := ?_)
  refine nl (h := ?_)
  refine q_seq (h := ?_)
  refine rtn (h := ?_)
  refine q_ret (hR := ?_)
  exact fun w hS => ⟨rfl, hS.sub (by repeat (first | exact SubL.nil | (apply SubL.cons; (repeat (first | exact At.here | apply At.there))) | exact SubL.refl _ | apply SubL.skip))⟩
end Go.Proofs.YtpejgebcmhmpaaaGreat

namespace Go.Proofs.YtpejgebcmhmpaaaGreat
open Go Go.RowKit

structure AfI (f : Fmt) (K : Int) (U : List Row) (es : List En) (l : List StA) (U' : List Row) : Prop where
  en : l.map enA = es
  ok : ∀ x ∈ l, StK f K U' x
  sub : ∀ r ∈ U, r ∈ U'
theorem SpI.af {f : Fmt} {K : Int} {U U' : List Row} {es : List En} {l : List StA} (h : SpI f K U es l U') : AfI f K U (normC es) l U' := ⟨h.en, h.ok, h.sub⟩
theorem AfI.mono {f : Fmt} {K K' : Int} {U U' U2 : List Row} {es : List En} {l : List StA} (h : AfI f K U es l U') (hK : K ≤ K') (hU : ∀ r ∈ U', r ∈ U2) : AfI f K' U es l U2 := ⟨h.en, fun x hx => (h.ok x hx).mono hK hU, fun r hr => hU r (h.sub r hr)⟩
theorem AfI.len {f : Fmt} {K : Int} {U U' : List Row} {es : List En} {l : List StA} (h : AfI f K U es l U') (hf : f.Ok) (hk : Keys es) (hK : K ≤ 22) : l.length ≤ 16777216 := stk_len hf (by rw [h.en]; exact hk) h.ok hK
theorem AfI.num {f : Fmt} {K : Int} {U U' : List Row} {es : List En} {l : List StA} (h : AfI f K U es l U') : es.length = l.length := by rw [← h.en, List.length_map]
theorem iter_keys {f : Fmt} {es : List En} (h : Keys es) : ∀ n, Keys (iterC f es n)
  | 0 => h
  | _ + 1 => norm_nodup _
theorem missI_yes (f : Fmt) (es : List En) {a : Int} {n : Nat} (h : a ≤ (n : Int)) : normC (missI f es a (n + 1)) = joinC (normC (missI f es a n)) (iterC f es n) := by
  rw [missI, if_pos h]; unfold normC joinC; rw [List.foldl_append]
theorem missI_no (f : Fmt) (es : List En) {a : Int} {n : Nat} (h : ¬ a ≤ (n : Int)) : normC (missI f es a (n + 1)) = normC (missI f es a n) := by
  rw [missI, if_neg h, List.append_nil]
theorem AfI.join {f : Fmt} {K : Int} {U U' : List Row} {es es' : List En} {a b : List StA} (ha : AfI f K U es a U') (hb : AfI f K U es' b U') : AfI f K U (joinC es es') (b.foldl addS a) U' :=
  ⟨by rw [fold_en, ha.en, hb.en], fold_ok b a ha.ok hb.ok, ha.sub⟩
theorem test_succ {f : Fmt} {x : Nt} {l : List StA} {i : Nat} {y : StA} (h : l[i]? = some y) : testC f x ((l.take (i + 1)).map enA) = testC f x ((l.take i).map enA) ++ (if holdS f x (spotOf y.m) then [enA y] else []) := by
  unfold testC
  rw [List.take_add_one, h, List.map_append, List.filter_append]
  congr 1
  show List.filter _ [enA y] = _
  rw [List.filter_cons, List.filter_nil]; rfl
theorem AfI.test {f : Fmt} {K : Int} {U U' : List Row} {es : List En} {out : List StA} {y : StA} (h : AfI f K U es out U') (hy : StK f K U' y) : AfI f K U (es ++ [enA y]) (out ++ [y]) U' :=
  ⟨by rw [List.map_append, h.en]; rfl, fun x hx => by
    rcases List.mem_append.1 hx with hx | hx
    · exact h.ok x hx
    · rw [List.mem_singleton.1 hx]; exact hy, h.sub⟩
theorem StK.tst {f : Fmt} {K : Int} {U : List Row} {s : StA} (h : StK f K U s) (hf : f.Ok) {x : Nt} (hx : 3 ≤ x.kind ∧ x.kind ≤ 7) : tstV s.m.sc x = holdS f x (spotOf s.m) := by
  obtain ⟨h1, h2, h3⟩ := h.inv hf
  exact tst_hold h1 h3 (by have := h.fs; omega) hx
theorem after_one {f : Fmt} {es : List En} {x : Nt} (h : x.kind = 1) : afterC f es x = normC (stepI f es x.side) := by unfold afterC; rw [if_pos h]; rfl
theorem after_two {f : Fmt} {es : List En} {x : Nt} (h : x.kind = 2) : afterC f es x = normC (missI f es x.pair.1 (x.pair.2.toNat + 1)) := by unfold afterC; rw [if_neg (by omega), if_pos h]; rfl
theorem after_test {f : Fmt} {es : List En} {x : Nt} (h1 : ¬ x.kind = 1) (h2 : ¬ x.kind = 2) : afterC f es x = testC f x es := by unfold afterC; rw [if_neg h1, if_neg h2]
theorem most_one {x : Nt} (h : x.kind = 1) : mostN x = 1 := by unfold mostN; rw [if_pos h]
theorem most_two {x : Nt} (h : x.kind = 2) : mostN x = x.pair.2 := by unfold mostN; rw [if_neg (by omega), if_pos h]
theorem most_test {x : Nt} (h1 : ¬ x.kind = 1) (h2 : ¬ x.kind = 2) : mostN x = 0 := by unfold mostN; rw [if_neg h1, if_neg h2]
end Go.Proofs.YtpejgebcmhmpaaaGreat

namespace Go.Proofs.YtpejgebcmhmpaaaGreat
open Go Go.RowKit

structure MzI (f : Fmt) (K B : Int) (U : List Row) (es : List En) (a : Int) (n : Nat) (o l : List StA) (U' : List Row) : Prop where
  o : AfI f B U (normC (missI f es a n)) o U'
  l : AfI f (K + (n : Int)) U (iterC f es n) l U'
theorem MzI.start {f : Fmt} {K B : Int} {U : List Row} {l : List StA} (h : ∀ s ∈ l, StK f K U s) (a : Int) : MzI f K B U (l.map enA) a 0 [] l U :=
  ⟨⟨rfl, fun x hx => (by cases hx), fun _ h => h⟩, ⟨rfl, fun x hx => (h x hx).mono (by omega) (fun _ h => h), fun _ h => h⟩⟩
section
variable {f : Fmt} {K B : Int} {U U' : List Row} {es : List En} {a : Int} {n : Nat} {o l : List StA} {q : StR}
theorem MzI.iter (h : MzI f K B U es a n o l U') (hq : SpI f (K + (n : Int) + 1) U' (stepI f (l.map enA) (-1)) q.l q.U) : AfI f (K + ((n + 1 : Nat) : Int)) U (iterC f es (n + 1)) q.l q.U :=
  ⟨by rw [hq.en, h.l.en]; rfl, fun x hx => (hq.ok x hx).mono (by omega) (fun _ h => h), fun r hr => hq.sub r (h.l.sub r hr)⟩
theorem MzI.yes (h : MzI f K B U es a n o l U') (ha : a ≤ (n : Int)) (hB : K + (n : Int) ≤ B) (hq : SpI f (K + (n : Int) + 1) U' (stepI f (l.map enA) (-1)) q.l q.U) : MzI f K B U es a (n + 1) (l.foldl addS o) q.l q.U :=
  ⟨by rw [missI_yes f es ha]; exact (h.o.join (h.l.mono hB fun _ h => h)).mono (Int.le_refl _) hq.sub, h.iter hq⟩
theorem MzI.no (h : MzI f K B U es a n o l U') (ha : ¬ a ≤ (n : Int)) (hq : SpI f (K + (n : Int) + 1) U' (stepI f (l.map enA) (-1)) q.l q.U) : MzI f K B U es a (n + 1) o q.l q.U :=
  ⟨by rw [missI_no f es ha]; exact h.o.mono (Int.le_refl _) hq.sub, h.iter hq⟩
end
structure AfZ where
  (n : Nat) (o : List StA) (oA : Option Addr) (oc : Nat) (l : List StA) (lA : Option Addr) (lc : Nat) (U : List Row)
structure TsZ where
  (i : Nat) (o : List StA) (A : Option Addr) (c : Nat)
set_option maxRecDepth 100000 in
set_option maxHeartbeats 1000000 in
theorem T_After (f : Fmt) (hf : f.Ok) (K : Int) (l : List StA) (x : Nt) (A : Option Addr) (c : Nat) (U : List Row) (hk : Keys (l.map enA)) (hok : ∀ s ∈ l, StK f K U s) (hx : mkV x = true) (hK0 : 0 ≤ K) (hK : K + mostN x ≤ 20) :
    Tr Tryz.prog 65 [f.val, .slice A l.length c, x.val] [.own A c 91 16 l.length (encY l), manyE true U] (fun q : StR => AfI f (K + mostN x) U (afterC f (l.map enA) x) q.l q.U) (fun q => .slice q.A q.l.length q.c) (fun q => [.own q.A q.c 91 16 q.l.length (encY q.l), manyE true q.U]) := by
  refine ⟨fun w0 w R hst => ?_⟩
  have hxk := mk_kind hx
  have hm0 := (most_bd hx).1
  have hlen := stk_len hf hk hok (by omega)
  refine en Tryz.func65 Tryz.ntmps65 hst (h := fun F => ?_)
  refine sq (h := ?_)
  refine rg (h := ?_)
  refine bxA (h := fun b0 => ?_)
  refine bxA (h := fun b1 => ?_)
  refine WL.y (hy := asg) (h := ?_)
  refine WL.cut (by repeat (first | exact Cut.nil | apply Cut.hit | apply Cut.miss (by exact rfl))) ?_
  refine nl (h := ?_)
  refine q_seq (h := ?_)
  refine sq (h := ?_)
  refine rg (h := ?_)
  refine WL.y (hy := asg) (h := ?_)
  refine WL.cut (by repeat (first | exact Cut.nil | apply Cut.hit | apply Cut.miss (by exact rfl))) ?_
  refine nl (h := ?_)
  refine q_seq (h := ?_)
  refine sq (h := ?_)
  refine sq (h := ?_)
  refine rg (h := ?_)
  refine WL.y (hy := (by first | exact fa | exact faE)) (h := ?_)
  refine WL.y (hy := (by first | exact ld | exact ldE)) (h := ?_)
  refine nl (h := ?_)
  refine q_seq (h := ?_)
  refine bk (h := ?_)
  refine sq (h := ?_)
  refine rg (h := ?_)
  refine WL.y (hy := eql) (h := ?_)
  refine WL.y (hy := asg) (h := ?_)
  refine nl (h := ?_)
  refine q_seq (h := ?_)
  refine cd (by exact rfl) (fun h0 => ?_) (fun h0 => ?_)
  · skip
    have k1 : x.kind = 1 := of_decide_eq_true h0
    refine sq (h := ?_)
    refine rg (h := ?_)
    refine WL.y (hy := (by first | exact ldA | exact ldEA)) (h := ?_)
    refine WL.y (hy := mv) (h := ?_)
    refine WL.y (hy := (by first | exact fa | exact faE)) (h := ?_)
    refine WL.y (hy := (by first | exact ld | exact ldE)) (h := ?_)
    refine clT (hc := T_step f hf K (by omega) l x.side A c U hok (by omega)) (h := fun q hq => ?_)
    refine WL.y (hy := asg) (h := ?_)
    refine WL.cut (by repeat (first | exact Cut.nil | apply Cut.hit | apply Cut.miss (by exact rfl))) ?_
    refine nl (h := ?_)
    refine q_seq (h := ?_)
    refine rtn (h := ?_)
    refine q_blk_ret (h := ?_)
    refine q_then_ret (h := ?_)
    refine q_ret (hR := ?_)
    exact fun w hS => ⟨q, by rw [after_one k1, most_one k1]; exact hq.af, rfl, hS.sub (by repeat (first | exact SubL.nil | (apply SubL.cons; (repeat (first | exact At.here | apply At.there))) | exact SubL.refl _ | apply SubL.skip))⟩
  · skip
    have k1 : ¬ x.kind = 1 := of_decide_eq_false h0
    refine sq (h := ?_)
    refine rg (h := ?_)
    refine WL.y (hy := eql) (h := ?_)
    refine WL.y (hy := asg) (h := ?_)
    refine nl (h := ?_)
    refine q_seq (h := ?_)
    refine cd (by exact rfl) (fun h1 => ?_) (fun h1 => ?_)
    · skip
      have k2 : x.kind = 2 := of_decide_eq_true h1
      have hpb := hxk.2.2.1 k2
      have hm2 := most_two k2
      refine sq (h := ?_)
      refine sq (h := ?_)
      refine WC.nilOwn 91 16 (h := ?_)
      refine rg (h := ?_)
      refine WL.y (hy := asg) (h := ?_)
      refine WL.cut (by repeat (first | exact Cut.nil | apply Cut.hit | apply Cut.miss (by exact rfl))) ?_
      refine nl (h := ?_)
      refine q_seq (h := ?_)
      refine bk (h := ?_)
      refine lp (X := AfZ) (I := fun z => z.n ≤ x.pair.2.toNat + 1 ∧ MzI f K (K + mostN x) U (l.map enA) x.pair.1 z.n z.o z.l z.U) (le := fun z => [(1, .slice z.lA z.l.length z.lc), (3, .pointer (some ⟨b0, 0, none⟩)), (5, .pointer (some ⟨b1, 0, none⟩)), (7, .slice z.oA z.o.length z.oc), (8, .int .i64 z.n)]) (Le := fun z => .own z.oA z.oc 91 16 z.o.length (encY z.o) :: .own z.lA z.lc 91 16 z.l.length (encY z.l) :: manyE true z.U :: .blk b0 23 f.cells :: .blk b1 45 x.cells :: R) (μ := fun z => x.pair.2.toNat + 1 - z.n) ⟨0, [], none, 0, l, A, c, U⟩ ⟨Nat.zero_le _, MzI.start hok _⟩ (by repeat (first | exact trivial | refine ⟨rfl, ?_⟩)) (by repeat (first | exact SubL.nil | (apply SubL.cons; (repeat (first | exact At.here | apply At.there))) | exact SubL.refl _ | apply SubL.skip)) (fun z hz => ?_)
      obtain ⟨hzn, hz⟩ := hz
      refine sq (h := ?_)
      refine sq (h := ?_)
      refine rg (h := ?_)
      refine WL.y (hy := mv) (h := ?_)
      refine WL.y (hy := (by first | exact fa | exact faE)) (h := ?_)
      refine WL.y (hy := (by first | exact fa | exact faE)) (h := ?_)
      refine WL.y (hy := (by first | exact ld | exact ldE)) (h := ?_)
      refine WL.y (hy := leq) (h := ?_)
      refine nl (h := ?_)
      refine q_seq (h := ?_)
      refine cd (by exact rfl) (fun h2 => ?_) (fun h2 => ?_)
      · skip
        have hnb : z.n ≤ x.pair.2.toNat := by have := of_decide_eq_true h2; omega
        have hl2 := hz.l.len hf (iter_keys hk _) (by omega)
        refine skp (h := ?_)
        refine q_seq (h := ?_)
        refine sq (h := ?_)
        refine bk (h := ?_)
        refine sq (h := ?_)
        refine sq (h := ?_)
        refine rg (h := ?_)
        refine WL.y (hy := mv) (h := ?_)
        refine WL.y (hy := (by first | exact fa | exact faE)) (h := ?_)
        refine WL.y (hy := (by first | exact fa | exact faE)) (h := ?_)
        refine WL.y (hy := (by first | exact ld | exact ldE)) (h := ?_)
        refine WL.y (hy := geq) (h := ?_)
        refine nl (h := ?_)
        refine q_seq (h := ?_)
        refine cd (by exact rfl) (fun h3 => ?_) (fun h3 => ?_)
        · skip
          have hza : x.pair.1 ≤ (z.n : Int) := of_decide_eq_true h3
          refine rg (h := ?_)
          refine WL.y (hy := mv) (h := ?_)
          refine WL.y (hy := mv) (h := ?_)
          refine clT (hc := T_joined f hf (K + mostN x) (by omega) z.o z.l z.oA z.lA z.oc z.lc z.U hz.o.ok (hz.l.mono (by omega) fun _ h => h).ok (by rw [hz.o.en]; exact norm_nodup _) (by omega)) (h := fun q _ => ?_)
          refine WL.y (hy := asg) (h := ?_)
          refine WL.cut (by repeat (first | exact Cut.nil | apply Cut.hit | apply Cut.miss (by exact rfl))) ?_
          refine nl (h := ?_)
          refine q_seq (h := ?_)
          refine rg (h := ?_)
          refine WL.y (hy := (by first | exact ldA | exact ldEA)) (h := ?_)
          refine WL.y (hy := mv) (h := ?_)
          refine clT (hc := T_step f hf (K + (z.n : Int)) (by omega) z.l (-1) z.lA z.lc z.U hz.l.ok (by omega)) (h := fun q2 hq2 => ?_)
          refine WL.y (hy := asg) (h := ?_)
          refine WL.cut (by repeat (first | exact Cut.nil | apply Cut.hit | apply Cut.miss (by exact rfl))) ?_
          refine nl (h := ?_)
          refine q_blk_norm (h := ?_)
          refine q_seq (h := ?_)
          refine rg (h := ?_)
          refine WL.y (hy := mv) (h := ?_)
          refine WL.y (hy := addI) (h := ?_)
          refine WL.y (hy := asg) (h := ?_)
          refine WL.cut (by repeat (first | exact Cut.nil | apply Cut.hit | apply Cut.miss (by exact rfl))) ?_
          refine nl (h := ?_)
          first
            | (refine rn (x := z) ⟨z.n + 1, z.l.foldl addS z.o, q.1, q.2, q2.l, q2.A, q2.c, q2.U⟩ ⟨by dsimp only; omega, hz.yes hza (by omega) hq2⟩ (by dsimp only; omega) (by repeat (first | exact trivial | refine ⟨rfl, ?_⟩)) (by repeat (first | exact SubL.nil | (apply SubL.cons; (repeat (first | exact At.here | apply At.there))) | exact SubL.refl _ | apply SubL.skip)); done)
            | (refine rn (x := z) ⟨z.n + 1, z.o, z.oA, z.oc, q2.l, q2.A, q2.c, q2.U⟩ ⟨by dsimp only; omega, hz.no hza hq2⟩ (by dsimp only; omega) (by repeat (first | exact trivial | refine ⟨rfl, ?_⟩)) (by repeat (first | exact SubL.nil | (apply SubL.cons; (repeat (first | exact At.here | apply At.there))) | exact SubL.refl _ | apply SubL.skip)); done)
        · skip
          have hza : ¬ x.pair.1 ≤ (z.n : Int) := of_decide_eq_false h3
          refine skp (h := ?_)
          refine q_seq (h := ?_)
          refine rg (h := ?_)
          refine WL.y (hy := (by first | exact ldA | exact ldEA)) (h := ?_)
          refine WL.y (hy := mv) (h := ?_)
          refine clT (hc := T_step f hf (K + (z.n : Int)) (by omega) z.l (-1) z.lA z.lc z.U hz.l.ok (by omega)) (h := fun q2 hq2 => ?_)
          refine WL.y (hy := asg) (h := ?_)
          refine WL.cut (by repeat (first | exact Cut.nil | apply Cut.hit | apply Cut.miss (by exact rfl))) ?_
          refine nl (h := ?_)
          refine q_blk_norm (h := ?_)
          refine q_seq (h := ?_)
          refine rg (h := ?_)
          refine WL.y (hy := mv) (h := ?_)
          refine WL.y (hy := addI) (h := ?_)
          refine WL.y (hy := asg) (h := ?_)
          refine WL.cut (by repeat (first | exact Cut.nil | apply Cut.hit | apply Cut.miss (by exact rfl))) ?_
          refine nl (h := ?_)
          first
            | (refine rn (x := z) ⟨z.n + 1, z.l.foldl addS z.o, q.1, q.2, q2.l, q2.A, q2.c, q2.U⟩ ⟨by dsimp only; omega, hz.yes hza (by omega) hq2⟩ (by dsimp only; omega) (by repeat (first | exact trivial | refine ⟨rfl, ?_⟩)) (by repeat (first | exact SubL.nil | (apply SubL.cons; (repeat (first | exact At.here | apply At.there))) | exact SubL.refl _ | apply SubL.skip)); done)
            | (refine rn (x := z) ⟨z.n + 1, z.o, z.oA, z.oc, q2.l, q2.A, q2.c, q2.U⟩ ⟨by dsimp only; omega, hz.no hza hq2⟩ (by dsimp only; omega) (by repeat (first | exact trivial | refine ⟨rfl, ?_⟩)) (by repeat (first | exact SubL.nil | (apply SubL.cons; (repeat (first | exact At.here | apply At.there))) | exact SubL.refl _ | apply SubL.skip)); done)
      · skip
        have hnb : z.n = x.pair.2.toNat + 1 := by have := of_decide_eq_false h2; omega
        refine et (h := ?_)
        refine q_then_exit (h := ?_)
        refine q_then_exit (h := ?_)
        refine q_blk_hit (h := ?_)
        refine q_seq (h := ?_)
        refine sq (h := ?_)
        refine rg (h := ?_)
        refine WL.y (hy := mv) (h := ?_)
        refine WL.y (hy := asg) (h := ?_)
        refine WL.cut (by repeat (first | exact Cut.nil | apply Cut.hit | apply Cut.miss (by exact rfl))) ?_
        refine nl (h := ?_)
        refine q_seq (h := ?_)
        refine rtn (h := ?_)
        refine q_blk_ret (h := ?_)
        refine q_then_ret (h := ?_)
        refine q_ret (hR := ?_)
        exact fun w hS => ⟨⟨z.o, z.oA, z.oc, z.U⟩, by rw [after_two k2, ← hnb]; exact hz.o, rfl, hS.sub (by repeat (first | exact SubL.nil | (apply SubL.cons; (repeat (first | exact At.here | apply At.there))) | exact SubL.refl _ | apply SubL.skip))⟩
    · skip
      have k2 : ¬ x.kind = 2 := of_decide_eq_false h1
      have hm3 := most_test k1 k2
      refine skp (h := ?_)
      refine q_blk_norm (h := ?_)
      refine q_seq (h := ?_)
      refine sq (h := ?_)
      refine sq (h := ?_)
      refine WC.nilOwn 91 16 (h := ?_)
      refine rg (h := ?_)
      refine WL.y (hy := asg) (h := ?_)
      refine WL.cut (by repeat (first | exact Cut.nil | apply Cut.hit | apply Cut.miss (by exact rfl))) ?_
      refine nl (h := ?_)
      refine q_seq (h := ?_)
      refine bk (h := ?_)
      refine lp (X := TsZ) (I := fun z => z.i ≤ l.length ∧ AfI f K U (testC f x ((l.take z.i).map enA)) z.o U) (le := fun z => [(1, .slice A l.length c), (3, .pointer (some ⟨b0, 0, none⟩)), (5, .pointer (some ⟨b1, 0, none⟩)), (7, .slice z.A z.o.length z.c), (9, .int .i64 z.i)]) (Le := fun z => .own z.A z.c 91 16 z.o.length (encY z.o) :: .own A c 91 16 l.length (encY l) :: manyE true U :: .blk b0 23 f.cells :: .blk b1 45 x.cells :: R) (μ := fun z => l.length - z.i) ⟨0, [], none, 0⟩ ⟨Nat.zero_le _, ⟨rfl, fun x hx => (by cases hx), fun _ h => h⟩⟩ (by repeat (first | exact trivial | refine ⟨rfl, ?_⟩)) (by repeat (first | exact SubL.nil | (apply SubL.cons; (repeat (first | exact At.here | apply At.there))) | exact SubL.refl _ | apply SubL.skip)) (fun z hz => ?_)
      obtain ⟨hzi, hzT⟩ := hz
      refine sq (h := ?_)
      refine sq (h := ?_)
      refine rg (h := ?_)
      refine WL.y (hy := mv) (h := ?_)
      refine WL.y (hy := mv) (h := ?_)
      refine WL.y (hy := lenS) (h := ?_)
      refine WL.y (hy := lss) (h := ?_)
      refine nl (h := ?_)
      refine q_seq (h := ?_)
      refine cd (by exact rfl) (fun h4 => ?_) (fun h4 => ?_)
      · skip
        have hin : z.i < l.length := by have := of_decide_eq_true h4; omega
        obtain ⟨y, hy⟩ : ∃ y, l[z.i]? = some y := ⟨_, List.getElem?_eq_getElem hin⟩
        have hyk := hok y (List.mem_of_getElem? hy)
        have hyn : y.m.st.length ≤ 1000000 := by have := (hyk.bd hf (by omega)).s; have := hyk.n; omega
        have hts := test_succ (f := f) (x := x) hy
        have hol := hzT.num
        have hol2 : (testC f x ((l.take z.i).map enA)).length ≤ z.i := by
          unfold testC; exact Nat.le_trans (List.length_filter_le _ _) (by rw [List.length_map, List.length_take]; omega)
        refine skp (h := ?_)
        refine q_seq (h := ?_)
        refine sq (h := ?_)
        refine bk (h := ?_)
        refine sq (h := ?_)
        refine rgD (by kernel_rfl) [(1000000, .own A c 91 16 l.length (encY l)), (1000000, .blk b0 23 f.cells), (1000000, .blk b1 45 x.cells)] (by repeat (first | exact HS.nil | (apply HS.keep; (repeat (first | exact At.here | apply At.there))) | (apply HS.ro; (repeat (first | exact Rds.ro | exact Rds.own | apply Rds.there))))) (h := ?_)
        refine tk 0 (hy := (by first | exact ldA | exact ldEA)) (h := ?_)
        refine tk 1 (hy := mv) (h := ?_)
        refine tk 2 (hy := mv) (h := ?_)
        refine tk 3 (hy := ix (A := A) (m := l.length)) (h := ?_)
        refine tk 4 (hy := ldEW (A := A) (k := z.i) (cs := y.cells) (hk := encY_at hy)) (h := ?_)
        refine tk 6 (hy := (by first | exact ldA | exact ldEA)) (h := ?_)
        refine one 5 (h := ?_)
        refine cl0 (hc := fun w hS => C_ref3_Score f hf K (by omega) U y hyk w (hS.many (by repeat (first | exact At.here | apply At.there)) hyk.us)) (h := ?_)
        refine nx (h := ?_)
        refine one 7 (h := ?_)
        refine cl0 (hc := fun w hS => C_ref3_True y.m.sc y.sA y.sc x w (hS.many (by repeat (first | exact At.here | apply At.there)) hyk.us) hyn) (h := ?_)
        refine nx (h := ?_)
        refine dn (h := ?_)
        refine q_seq (h := ?_)
        refine cd (by exact rfl) (fun h5 => ?_) (fun h5 => ?_)
        · skip
          have htt : holdS f x (spotOf y.m) = true := by rw [← hyk.tst hf (by omega)]; exact h5
          rw [htt, if_pos rfl] at hts
          refine rg (h := ?_)
          refine WL.y (hy := mv) (h := ?_)
          refine WL.y (hy := mv) (h := ?_)
          refine WL.y (hy := mv) (h := ?_)
          refine WL.y (hy := ix (A := A) (m := l.length) (hb := by omega)) (h := ?_)
          refine WL.y (hy := ldEW (A := A) (k := z.i) (cs := y.cells) (hk := encY_at hy)) (h := ?_)
          refine bs (h := fun b2 => ?_)
          refine ap (es := encY z.o) (m := z.o.length) (k := 1) (A := z.A) (c := z.c) (h := fun A1 c1 => ?_)
          rw [encY_snoc, show z.o.length + 1 = (z.o ++ [y]).length by rw [List.length_append]; rfl]
          refine WL.y (hy := asg) (h := ?_)
          refine WL.cut (by repeat (first | exact Cut.nil | apply Cut.hit | apply Cut.miss (by exact rfl))) ?_
          refine nl (h := ?_)
          refine q_blk_norm (h := ?_)
          refine q_seq (h := ?_)
          refine rg (h := ?_)
          refine WL.y (hy := mv) (h := ?_)
          refine WL.y (hy := addI) (h := ?_)
          refine WL.y (hy := asg) (h := ?_)
          refine WL.cut (by repeat (first | exact Cut.nil | apply Cut.hit | apply Cut.miss (by exact rfl))) ?_
          refine nl (h := ?_)
          first
            | (refine rn (x := z) ⟨z.i + 1, z.o ++ [y], A1, c1⟩ ⟨hin, by dsimp only; rw [hts]; exact hzT.test hyk⟩ (by dsimp only; omega) (by repeat (first | exact trivial | refine ⟨rfl, ?_⟩)) (by repeat (first | exact SubL.nil | (apply SubL.cons; (repeat (first | exact At.here | apply At.there))) | exact SubL.refl _ | apply SubL.skip)); done)
            | (refine rn (x := z) ⟨z.i + 1, z.o, z.A, z.c⟩ ⟨hin, by dsimp only; rw [hts]; exact hzT⟩ (by dsimp only; omega) (by repeat (first | exact trivial | refine ⟨rfl, ?_⟩)) (by repeat (first | exact SubL.nil | (apply SubL.cons; (repeat (first | exact At.here | apply At.there))) | exact SubL.refl _ | apply SubL.skip)); done)
        · skip
          have htt : holdS f x (spotOf y.m) = false := by rw [← hyk.tst hf (by omega)]; exact h5
          rw [htt, if_neg (by decide), List.append_nil] at hts
          refine skp (h := ?_)
          refine q_blk_norm (h := ?_)
          refine q_seq (h := ?_)
          refine rg (h := ?_)
          refine WL.y (hy := mv) (h := ?_)
          refine WL.y (hy := addI) (h := ?_)
          refine WL.y (hy := asg) (h := ?_)
          refine WL.cut (by repeat (first | exact Cut.nil | apply Cut.hit | apply Cut.miss (by exact rfl))) ?_
          refine nl (h := ?_)
          first
            | (refine rn (x := z) ⟨z.i + 1, z.o ++ [y], A1, c1⟩ ⟨hin, by dsimp only; rw [hts]; exact hzT.test hyk⟩ (by dsimp only; omega) (by repeat (first | exact trivial | refine ⟨rfl, ?_⟩)) (by repeat (first | exact SubL.nil | (apply SubL.cons; (repeat (first | exact At.here | apply At.there))) | exact SubL.refl _ | apply SubL.skip)); done)
            | (refine rn (x := z) ⟨z.i + 1, z.o, z.A, z.c⟩ ⟨hin, by dsimp only; rw [hts]; exact hzT⟩ (by dsimp only; omega) (by repeat (first | exact trivial | refine ⟨rfl, ?_⟩)) (by repeat (first | exact SubL.nil | (apply SubL.cons; (repeat (first | exact At.here | apply At.there))) | exact SubL.refl _ | apply SubL.skip)); done)
      · skip
        have hin : z.i = l.length := by have := of_decide_eq_false h4; omega
        rw [hin, List.take_length] at hzT
        refine et (h := ?_)
        refine q_then_exit (h := ?_)
        refine q_then_exit (h := ?_)
        refine q_blk_hit (h := ?_)
        refine q_seq (h := ?_)
        refine sq (h := ?_)
        refine rg (h := ?_)
        refine WL.y (hy := mv) (h := ?_)
        refine WL.y (hy := asg) (h := ?_)
        refine WL.cut (by repeat (first | exact Cut.nil | apply Cut.hit | apply Cut.miss (by exact rfl))) ?_
        refine nl (h := ?_)
        refine q_seq (h := ?_)
        refine rtn (h := ?_)
        refine q_ret (hR := ?_)
        exact fun w hS => ⟨⟨z.o, z.A, z.c, U⟩, by rw [after_test k1 k2, hm3, Int.add_zero]; exact hzT, rfl, hS.sub (by repeat (first | exact SubL.nil | (apply SubL.cons; (repeat (first | exact At.here | apply At.there))) | exact SubL.refl _ | apply SubL.skip))⟩
end Go.Proofs.YtpejgebcmhmpaaaGreat

namespace Go.Proofs.YtpejgebcmhmpaaaGreat
open Go Go.RowKit

def nilU : List Row := [⟨none, 2, 0, []⟩] ++ [⟨none, 7, 0, []⟩] ++ [⟨none, 1, 0, []⟩]
def begS (f : Fmt) (k : Nat) : StA := ⟨beginV f (k : Int), none, none, 0, 0, [], none, 0, (0, 0, 0)⟩
def begA (f : Fmt) (cf : Int) : Nat → List StA
  | 0 => []
  | k + 1 => begA f cf k ++ if cf = -1 ∨ cf = (k : Int) then [begS f k] else []
theorem begA_en (f : Fmt) (cf : Int) : ∀ k, (begA f cf k).map enA = begTo cf k
  | 0 => rfl
  | k + 1 => by
    rw [begA, begTo, List.map_append, begA_en f cf k]
    by_cases h : cf = -1 ∨ cf = (k : Int)
    · rw [if_pos h, if_pos h]
      show _ ++ [enA (begS f k)] = _
      rw [show enA (begS f k) = ((⟨(k : Int), [], (0, 0), (0, 0)⟩ : Spot), ((0, 0, 0) : Mn)) from Prod.ext (begin_spot f (k : Int)) rfl]
    · rw [if_neg h, if_neg h]; rfl
theorem begA_len (f : Fmt) (cf : Int) : ∀ k, (begA f cf k).length ≤ k
  | 0 => Nat.le_refl _
  | k + 1 => by
    rw [begA, List.length_append]
    have := begA_len f cf k
    by_cases h : cf = -1 ∨ cf = (k : Int)
    · rw [if_pos h]; show _ + 1 ≤ _; omega
    · rw [if_neg h]; show _ + 0 ≤ _; omega
theorem begS_ok (f : Fmt) {k : Nat} (hk : k < 2) : StK f 0 nilU (begS f k) :=
  ⟨by show (k : Int) = 0 ∨ (k : Int) = 1; omega, rfl, Int.le_refl _, by unfold nilU; exact List.mem_append_left _ (List.mem_append_left _ (List.mem_singleton.2 rfl)), by unfold nilU; exact List.mem_append_left _ (List.mem_append_right _ (List.mem_singleton.2 rfl)), by unfold nilU; exact List.mem_append_right _ (List.mem_singleton.2 rfl), ⟨Int.le_refl _, Int.le_refl _⟩, ⟨Int.le_refl _, Int.le_refl _⟩, ⟨Int.le_refl _, by show (0 : Int) ≤ 100; omega⟩⟩
theorem begA_ok (f : Fmt) (cf : Int) : ∀ k, k ≤ 2 → ∀ x ∈ begA f cf k, StK f 0 nilU x
  | 0, _, x, hx => by cases hx
  | k + 1, hk, x, hx => by
    rw [begA] at hx
    rcases List.mem_append.1 hx with hx | hx
    · exact begA_ok f cf k (by omega) x hx
    · by_cases h : cf = -1 ∨ cf = (k : Int)
      · rw [if_pos h] at hx; rw [List.mem_singleton.1 hx]; exact begS_ok f (by omega)
      · rw [if_neg h] at hx; cases hx
theorem begA_af (f : Fmt) (cf : Int) : AfI f 0 nilU (begC cf) (begA f cf 2) nilU := ⟨by rw [begA_en, begTo_two], begA_ok f cf 2 (Nat.le_refl _), fun _ h => h⟩
structure BgZ where
  (k : Nat) (A : Option Addr) (c : Nat)
set_option maxRecDepth 100000 in
theorem C_ref3_begin (f : Fmt) (hf : f.Ok) (cf : Int) (A : Option Addr) (n c : Nat) (w : World) : CR Tryz.prog 63 [.agg (cardC f cf A n c).toArray] w (fun _ : Option Addr × Nat => True) (fun q => .slice q.1 (begA f cf 2).length q.2) (fun q => [.own q.1 q.2 91 16 (begA f cf 2).length (encY (begA f cf 2))]) := by
  refine ⟨en Tryz.func63 Tryz.ntmps63 (St.init w) (h := fun F => ?_)⟩
  refine sq (h := ?_)
  refine rg (h := ?_)
  refine bxA (h := fun b0 => ?_)
  refine WL.y (hy := asg) (h := ?_)
  refine WL.cut (by repeat (first | exact Cut.nil | apply Cut.hit | apply Cut.miss (by exact rfl))) ?_
  refine nl (h := ?_)
  refine q_seq (h := ?_)
  refine sq (h := ?_)
  refine rg (h := ?_)
  refine WL.y (hy := asg) (h := ?_)
  refine WL.cut (by repeat (first | exact Cut.nil | apply Cut.hit | apply Cut.miss (by exact rfl))) ?_
  refine nl (h := ?_)
  refine q_seq (h := ?_)
  refine sq (h := ?_)
  refine sq (h := ?_)
  refine WC.nilOwn 91 16 (h := ?_)
  refine rg (h := ?_)
  refine WL.y (hy := asg) (h := ?_)
  refine WL.cut (by repeat (first | exact Cut.nil | apply Cut.hit | apply Cut.miss (by exact rfl))) ?_
  refine nl (h := ?_)
  refine q_seq (h := ?_)
  refine bk (h := ?_)
  refine lp (X := BgZ) (I := fun z => z.k ≤ 2) (le := fun z => [(1, .pointer (some ⟨b0, 0, none⟩)), (3, .slice z.A (begA f cf z.k).length z.c), (4, .int .i64 z.k)]) (Le := fun z => [.own z.A z.c 91 16 (begA f cf z.k).length (encY (begA f cf z.k)), .blk b0 26 (cardC f cf A n c)]) (μ := fun z => 2 - z.k) ⟨0, none, 0⟩ (Nat.zero_le _) (by repeat (first | exact trivial | refine ⟨rfl, ?_⟩)) (by repeat (first | exact SubL.nil | (apply SubL.cons; (repeat (first | exact At.here | apply At.there))) | exact SubL.refl _ | apply SubL.skip)) (fun z hz => ?_)
  refine sq (h := ?_)
  refine sq (h := ?_)
  refine rg (h := ?_)
  refine WL.y (hy := mv) (h := ?_)
  refine WL.y (hy := lss) (h := ?_)
  refine nl (h := ?_)
  refine q_seq (h := ?_)
  refine cd (by exact rfl) (fun h0 => ?_) (fun h0 => ?_)
  · skip
    have hk2 : z.k < 2 := by have := of_decide_eq_true h0; omega
    have hbl := begA_len f cf z.k
    refine skp (h := ?_)
    refine q_seq (h := ?_)
    refine sq (h := ?_)
    refine bk (h := ?_)
    refine sq (h := ?_)
    refine rg (h := ?_)
    refine WL.y (hy := (by first | exact fa | exact faE)) (h := ?_)
    refine WL.y (hy := (by first | exact ld | exact ldE)) (h := ?_)
    refine WL.y (hy := eql) (h := ?_)
    refine WL.y (hy := mv) (h := ?_)
    apply brOr 5 12 17 (by exact rfl)
    · intro hb1
      refine un (h := ?_)
      refine WL.y (hy := (by first | exact fa | exact faE)) (h := ?_)
      refine un (h := ?_)
      refine WL.y (hy := (by first | exact ld | exact ldE)) (h := ?_)
      refine un (h := ?_)
      refine WL.y (hy := mv) (h := ?_)
      refine un (h := ?_)
      refine WL.y (hy := eql) (h := ?_)
      refine WL.y (hy := (by first | exact pkT | exact pkF)) (h := ?_)
      exact mg (by repeat (first | exact trivial | refine ⟨rfl, ?_⟩ | refine ⟨by rw [hb1]; rfl, ?_⟩)) (by repeat (first | exact SubL.nil | (apply SubL.cons; (repeat (first | exact At.here | apply At.there))) | exact SubL.refl _ | apply SubL.skip))
    · intro hb1
      repeat (first | refine un (h := ?_) | refine sk (h := ?_) | refine WL.y (hy := pkF) (h := ?_) | refine WL.y (hy := pkT) (h := ?_))
      exact mg (by repeat (first | exact trivial | refine ⟨rfl, ?_⟩ | refine ⟨by rw [hb1]; rfl, ?_⟩)) (by repeat (first | exact SubL.nil | (apply SubL.cons; (repeat (first | exact At.here | apply At.there))) | exact SubL.refl _ | apply SubL.skip))
    refine nl (h := ?_)
    refine q_seq (h := ?_)
    refine cd (by exact rfl) (fun h2 => ?_) (fun h2 => ?_)
    · skip
      have hck : cf = -1 ∨ cf = (z.k : Int) := by
        have g9 := h2
        rwa [Bool.or_eq_true, decide_eq_true_eq, decide_eq_true_eq] at g9
      have hE : begA f cf (z.k + 1) = begA f cf z.k ++ [begS f z.k] := by rw [begA, if_pos hck]
      refine rg (h := ?_)
      refine WL.y (hy := mv) (h := ?_)
      refine WL.y (hy := (by first | exact fa | exact faE)) (h := ?_)
      refine WL.y (hy := (by first | exact ldA | exact ldEA)) (h := ?_)
      refine WL.y (hy := mv) (h := ?_)
      refine cl0 (hc := fun w hS => C_ref1_Begin _ _ (by assumption) w) (h := ?_)
      refine WL.y (hy := bd) (h := ?_)
      refine bs (h := fun b1 => ?_)
      refine ap (es := encY (begA f cf z.k)) (m := (begA f cf z.k).length) (k := 1) (A := z.A) (c := z.c) (es2 := [(begS f z.k).cells]) (h := fun A1 c1 => ?_)
      rw [show encY (begA f cf z.k) ++ [(begS f z.k).cells] = encY (begA f cf z.k ++ [begS f z.k]) from encY_snoc _ (begS f z.k), show (begA f cf z.k).length + 1 = (begA f cf z.k ++ [begS f z.k]).length by rw [List.length_append]; rfl, ← hE]
      refine WL.y (hy := asg) (h := ?_)
      refine WL.cut (by repeat (first | exact Cut.nil | apply Cut.hit | apply Cut.miss (by exact rfl))) ?_
      refine nl (h := ?_)
      refine q_blk_norm (h := ?_)
      refine q_seq (h := ?_)
      refine rg (h := ?_)
      refine WL.y (hy := mv) (h := ?_)
      refine WL.y (hy := addI) (h := ?_)
      refine WL.y (hy := asg) (h := ?_)
      refine WL.cut (by repeat (first | exact Cut.nil | apply Cut.hit | apply Cut.miss (by exact rfl))) ?_
      refine nl (h := ?_)
      first
        | (refine rn (x := z) ⟨z.k + 1, A1, c1⟩ hk2 (by dsimp only; omega) (by repeat (first | exact trivial | refine ⟨rfl, ?_⟩)) (by repeat (first | exact SubL.nil | (apply SubL.cons; (repeat (first | exact At.here | apply At.there))) | exact SubL.refl _ | apply SubL.skip)); done)
        | (refine rn (x := z) ⟨z.k + 1, z.A, z.c⟩ hk2 (by dsimp only; omega) (by dsimp only; rw [hE]; repeat (first | exact trivial | refine ⟨rfl, ?_⟩)) (by dsimp only; rw [hE]; repeat (first | exact SubL.nil | (apply SubL.cons; (repeat (first | exact At.here | apply At.there))) | exact SubL.refl _ | apply SubL.skip)); done)
    · skip
      have hck : ¬ (cf = -1 ∨ cf = (z.k : Int)) := fun g8 => by
        have g9 := h2
        rw [Bool.or_eq_false_iff, decide_eq_false_iff_not, decide_eq_false_iff_not] at g9
        omega
      have hE : begA f cf (z.k + 1) = begA f cf z.k := by rw [begA, if_neg hck, List.append_nil]
      refine skp (h := ?_)
      refine q_blk_norm (h := ?_)
      refine q_seq (h := ?_)
      refine rg (h := ?_)
      refine WL.y (hy := mv) (h := ?_)
      refine WL.y (hy := addI) (h := ?_)
      refine WL.y (hy := asg) (h := ?_)
      refine WL.cut (by repeat (first | exact Cut.nil | apply Cut.hit | apply Cut.miss (by exact rfl))) ?_
      refine nl (h := ?_)
      first
        | (refine rn (x := z) ⟨z.k + 1, A1, c1⟩ hk2 (by dsimp only; omega) (by repeat (first | exact trivial | refine ⟨rfl, ?_⟩)) (by repeat (first | exact SubL.nil | (apply SubL.cons; (repeat (first | exact At.here | apply At.there))) | exact SubL.refl _ | apply SubL.skip)); done)
        | (refine rn (x := z) ⟨z.k + 1, z.A, z.c⟩ hk2 (by dsimp only; omega) (by dsimp only; rw [hE]; repeat (first | exact trivial | refine ⟨rfl, ?_⟩)) (by dsimp only; rw [hE]; repeat (first | exact SubL.nil | (apply SubL.cons; (repeat (first | exact At.here | apply At.there))) | exact SubL.refl _ | apply SubL.skip)); done)
  · skip
    have hk2 : z.k = 2 := by have := of_decide_eq_false h0; omega
    rw [hk2]
    refine et (h := ?_)
    refine q_then_exit (h := ?_)
    refine q_then_exit (h := ?_)
    refine q_blk_hit (h := ?_)
    refine q_seq (h := ?_)
    refine sq (h := ?_)
    refine rg (h := ?_)
    refine WL.y (hy := mv) (h := ?_)
    refine WL.y (hy := asg) (h := ?_)
    refine WL.cut (by repeat (first | exact Cut.nil | apply Cut.hit | apply Cut.miss (by exact rfl))) ?_
    refine nl (h := ?_)
    refine q_seq (h := ?_)
    refine rtn (h := ?_)
    refine q_ret (hR := ?_)
    exact fun w hS => ⟨(z.A, z.c), trivial, rfl, hS.sub (by repeat (first | exact SubL.nil | (apply SubL.cons; (repeat (first | exact At.here | apply At.there))) | exact SubL.refl _ | apply SubL.skip))⟩
theorem mst_rng {xs : List Nt} (h : ∀ x ∈ xs, mkV x = true) (k : Nat) : 0 ≤ mostS (xs.take k) ∧ mostS (xs.take k) ≤ mostS xs :=
  ⟨(sub_sums (ys := []) (List.nil_sublist _) (fun x hx => h x (List.mem_of_mem_take hx))).2, (sub_sums (List.take_sublist k xs) h).2⟩
structure SkZ where
  (k : Nat) (l : List StA) (A : Option Addr) (c : Nat) (U : List Row)
set_option maxRecDepth 100000 in
theorem C_ref3_stands (f : Fmt) (cf : Int) (xs : List Nt) (A : Option Addr) (n c : Nat) (w : World) (h : Rd w A 4 n (encN xs)) (hck : chkC f cf xs = 0) (hms : mostS xs ≤ 20) :
    CR Tryz.prog 38 [.agg (cardC f cf A n c).toArray] w (fun q : StR => AfI f (mostS xs) nilU (if badC f cf xs = -1 then crowdC f cf xs else []) q.l q.U) (fun q => .tuple #[.slice q.A q.l.length q.c, .int .i64 (badC f cf xs)]) (fun q => [.own q.A q.c 91 16 q.l.length (encY q.l), manyE true q.U]) := by
  have hlen : xs.length = n := by have := h.len; rwa [encN_len] at this
  obtain ⟨_, hf, hcf, hl30, hmk, -⟩ := chk_facts hck
  refine ⟨en Tryz.func38 Tryz.ntmps38 ((St.init w).share (e := .ro A 4 n (encN xs)) h rfl rfl rfl) (h := fun F => ?_)⟩
  refine sq (h := ?_)
  refine rg (h := ?_)
  refine bxA (h := fun b0 => ?_)
  refine WL.y (hy := asg) (h := ?_)
  refine WL.cut (by repeat (first | exact Cut.nil | apply Cut.hit | apply Cut.miss (by exact rfl))) ?_
  refine WL.y (hy := asg) (h := ?_)
  refine WL.cut (by repeat (first | exact Cut.nil | apply Cut.hit | apply Cut.miss (by exact rfl))) ?_
  refine nl (h := ?_)
  refine q_seq (h := ?_)
  refine sq (h := ?_)
  refine rg (h := ?_)
  refine WL.y (hy := (by first | exact ldA | exact ldEA)) (h := ?_)
  refine cl (hc := fun w hS => C_ref3_begin f hf cf A n c w) (h := fun q0 _ => ?_)
  refine WL.y (hy := asg) (h := ?_)
  refine WL.cut (by repeat (first | exact Cut.nil | apply Cut.hit | apply Cut.miss (by exact rfl))) ?_
  refine nl (h := ?_)
  refine q_seq (h := ?_)
  refine sq (h := ?_)
  refine sq (h := ?_)
  refine WC.nilOwn 43 2 (h := ?_)
  refine WC.nilOwn 140 7 (h := ?_)
  refine WC.nilOwn 3 1 (h := ?_)
  refine WC.many0 (h := ?_)
  refine WC.manyAdd (A := none) (size := 2) (by repeat (first | exact At.here | apply At.there)) (by repeat (first | exact At.here | apply At.there)) ?_
  refine WC.manyAdd (A := none) (size := 7) (by repeat (first | exact At.here | apply At.there)) (by repeat (first | exact At.here | apply At.there)) ?_
  refine WC.manyAdd (A := none) (size := 1) (by repeat (first | exact At.here | apply At.there)) (by repeat (first | exact At.here | apply At.there)) ?_
  rw [List.nil_append, show ([⟨none, 2, 0, []⟩] ++ [⟨none, 7, 0, []⟩] ++ [⟨none, 1, 0, []⟩] : List Row) = nilU from rfl]
  refine rg (h := ?_)
  refine WL.y (hy := asg) (h := ?_)
  refine WL.cut (by repeat (first | exact Cut.nil | apply Cut.hit | apply Cut.miss (by exact rfl))) ?_
  refine nl (h := ?_)
  refine q_seq (h := ?_)
  refine bk (h := ?_)
  refine lp (X := SkZ) (I := fun z => z.k ≤ n ∧ AfI f (mostS (xs.take z.k)) nilU (crowdC f cf (xs.take z.k)) z.l z.U ∧ ∀ j, j ≤ z.k → crowdC f cf (xs.take j) ≠ []) (le := fun z => [(1, .pointer (some ⟨b0, 0, none⟩)), (4, .slice z.A z.l.length z.c), (5, .int .i64 z.k)]) (Le := fun z => [.own z.A z.c 91 16 z.l.length (encY z.l), manyE true z.U, .blk b0 26 (cardC f cf A n c), .ro A 4 n (encN xs)]) (μ := fun z => n - z.k) ⟨0, begA f cf 2, q0.1, q0.2, nilU⟩ ⟨Nat.zero_le _, begA_af f cf, fun j hj => by rw [Nat.le_zero.1 hj]; exact beg_ne hcf⟩ (by repeat (first | exact trivial | refine ⟨rfl, ?_⟩)) (by repeat (first | exact SubL.nil | (apply SubL.cons; (repeat (first | exact At.here | apply At.there))) | exact SubL.refl _ | apply SubL.skip)) (fun z hz => ?_)
  obtain ⟨hzk, hzA, hzn⟩ := hz
  refine sq (h := ?_)
  refine sq (h := ?_)
  refine rg (h := ?_)
  refine WL.y (hy := mv) (h := ?_)
  refine WL.y (hy := (by first | exact fa | exact faE)) (h := ?_)
  refine WL.y (hy := (by first | exact ld | exact ldE)) (h := ?_)
  refine WL.y (hy := lenS) (h := ?_)
  refine WL.y (hy := lss) (h := ?_)
  refine nl (h := ?_)
  refine q_seq (h := ?_)
  refine cd (by exact rfl) (fun h0 => ?_) (fun h0 => ?_)
  · skip
    have hkn : z.k < n := by have := of_decide_eq_true h0; omega
    obtain ⟨x, hx⟩ : ∃ x, xs[z.k]? = some x := ⟨_, List.getElem?_eq_getElem (by omega)⟩
    have hxe := encN_at hx
    have hxm := hmk x (List.mem_of_getElem? hx)
    have hm1 := mst_rng hmk z.k
    have hm2 := mst_rng hmk (z.k + 1)
    have hm3 := mostS_succ hx
    have hcs := crowd_succ f cf hx
    refine skp (h := ?_)
    refine q_seq (h := ?_)
    refine sq (h := ?_)
    refine bk (h := ?_)
    refine sq (h := ?_)
    refine WC.cut 4 (by exact rfl) (by repeat (first | exact Cut.nil | apply Cut.hit | apply Cut.miss (by exact rfl))) ?_
    refine rgD (by kernel_rfl) [(8, .own z.A z.c 91 16 z.l.length (encY z.l)), (1000000, .blk b0 26 (cardC f cf A n c)), (1000000, .ro A 4 n (encN xs))] (by repeat (first | exact HS.nil | (apply HS.keep; (repeat (first | exact At.here | apply At.there))) | (apply HS.ro; (repeat (first | exact Rds.ro | exact Rds.own | apply Rds.there))))) (h := ?_)
    refine tk 0 (hy := (by first | exact fa | exact faE)) (h := ?_)
    refine tk 1 (hy := (by first | exact ldA | exact ldEA)) (h := ?_)
    refine tk 2 (hy := mv) (h := ?_)
    refine tk 3 (hy := (by first | exact fa | exact faE)) (h := ?_)
    refine tk 4 (hy := (by first | exact ld | exact ldE)) (h := ?_)
    refine tk 5 (hy := mv) (h := ?_)
    refine tk 6 (hy := ix (A := A) (m := n) (hb := by omega)) (h := ?_)
    refine tk 7 (hy := ldEA (A := A) (hk := hxe)) (h := ?_)
    refine one 8 (h := ?_)
    refine clT (hc := T_After f hf (mostS (xs.take z.k)) z.l x z.A z.c z.U (by rw [hzA.en]; exact crowd_keys _ _ _) hzA.ok hxm hm1.1 (by omega)) (h := fun q hq => ?_)
    have hqA : AfI f (mostS (xs.take (z.k + 1))) nilU (crowdC f cf (xs.take (z.k + 1))) q.l q.U := by
      rw [hcs, hm3, ← hzA.en]
      exact ⟨hq.en, hq.ok, fun r hr => hq.sub r (hzA.sub r hr)⟩
    refine nx (h := ?_)
    refine tk 9 (hy := asg) (h := ?_)
    refine dn (h := ?_)
    refine q_seq (h := ?_)
    refine sq (h := ?_)
    refine rg (h := ?_)
    refine WL.y (hy := mv) (h := ?_)
    refine WL.y (hy := lenS) (h := ?_)
    refine WL.y (hy := eql) (h := ?_)
    refine nl (h := ?_)
    refine q_seq (h := ?_)
    refine cd (by exact rfl) (fun h1 => ?_) (fun h1 => ?_)
    · skip
      have hql : q.l = [] := List.eq_nil_of_length_eq_zero (by have := of_decide_eq_true h1; omega)
      have hE : badC f cf xs = (z.k : Int) := bad_at (by omega) (by rw [← hqA.en, hql]; rfl) hzn
      refine sq (h := ?_)
      refine rg (h := ?_)
      refine WL.y (hy := mv) (h := ?_)
      refine WL.y (hy := asg) (h := ?_)
      refine WL.cut (by repeat (first | exact Cut.nil | apply Cut.hit | apply Cut.miss (by exact rfl))) ?_
      refine WL.y (hy := asg) (h := ?_)
      refine WL.cut (by repeat (first | exact Cut.nil | apply Cut.hit | apply Cut.miss (by exact rfl))) ?_
      refine nl (h := ?_)
      refine q_seq (h := ?_)
      refine rtn (h := ?_)
      refine q_blk_ret (h := ?_)
      refine q_then_ret (h := ?_)
      refine q_then_ret (h := ?_)
      refine q_blk_ret (h := ?_)
      refine q_then_ret (h := ?_)
      refine q_ret (hR := ?_)
      rw [hE, if_neg (by omega)]
      exact fun w hS => ⟨⟨[], none, 0, q.U⟩, ⟨rfl, fun x hx => (by cases hx), hqA.sub⟩, rfl, (hS.nilOwn 91 16).sub (by repeat (first | exact SubL.nil | (apply SubL.cons; (repeat (first | exact At.here | apply At.there))) | exact SubL.refl _ | apply SubL.skip))⟩
    · skip
      have hne : crowdC f cf (xs.take (z.k + 1)) ≠ [] := fun e => by
        have g9 := hqA.num
        rw [e] at g9
        have g8 := of_decide_eq_false h1
        apply g8
        rw [← g9]; rfl
      refine skp (h := ?_)
      refine q_blk_norm (h := ?_)
      refine q_seq (h := ?_)
      refine rg (h := ?_)
      refine WL.y (hy := mv) (h := ?_)
      refine WL.y (hy := addI) (h := ?_)
      refine WL.y (hy := asg) (h := ?_)
      refine WL.cut (by repeat (first | exact Cut.nil | apply Cut.hit | apply Cut.miss (by exact rfl))) ?_
      refine nl (h := ?_)
      refine rn (x := z) ⟨z.k + 1, q.l, q.A, q.c, q.U⟩ ⟨hkn, hqA, fun j hj => by
        by_cases e : j = z.k + 1
        · subst e; exact hne
        · exact hzn j (by dsimp only at hj; omega)⟩ (by dsimp only; omega) (by repeat (first | exact trivial | refine ⟨rfl, ?_⟩)) (by repeat (first | exact SubL.nil | (apply SubL.cons; (repeat (first | exact At.here | apply At.there))) | exact SubL.refl _ | apply SubL.skip))
  · skip
    have hkn : z.k = n := by have := of_decide_eq_false h0; omega
    have htk : xs.take z.k = xs := by rw [hkn, ← hlen, List.take_length]
    rw [htk] at hzA
    have hne : crowdC f cf xs ≠ [] := by rw [← htk]; exact hzn _ (Nat.le_refl _)
    have hE : badC f cf xs = -1 := (bad_none hcf).2 hne
    refine et (h := ?_)
    refine q_then_exit (h := ?_)
    refine q_then_exit (h := ?_)
    refine q_blk_hit (h := ?_)
    refine q_seq (h := ?_)
    refine sq (h := ?_)
    refine rg (h := ?_)
    refine WL.y (hy := mv) (h := ?_)
    refine WL.y (hy := asg) (h := ?_)
    refine WL.cut (by repeat (first | exact Cut.nil | apply Cut.hit | apply Cut.miss (by exact rfl))) ?_
    refine WL.y (hy := asg) (h := ?_)
    refine WL.cut (by repeat (first | exact Cut.nil | apply Cut.hit | apply Cut.miss (by exact rfl))) ?_
    refine nl (h := ?_)
    refine q_seq (h := ?_)
    refine rtn (h := ?_)
    refine q_ret (hR := ?_)
    rw [hE, if_pos rfl]
    exact fun w hS => ⟨⟨z.l, z.A, z.c, z.U⟩, hzA, rfl, hS.sub (by repeat (first | exact SubL.nil | (apply SubL.cons; (repeat (first | exact At.here | apply At.there))) | exact SubL.refl _ | apply SubL.skip))⟩
theorem chk_or (f : Fmt) (cf : Int) (xs : List Nt) : chkC f cf xs = 0 ∨ chkC f cf xs = 30 := by
  unfold chkC
  cases headB f cf xs.length
  · cases (!xs.all mkV)
    · cases decide (600 < mostS xs)
      · exact .inl rfl
      · exact .inr rfl
    · exact .inr rfl
  · exact .inr rfl
structure KnI (f : Fmt) (cf : Int) (xs : List Nt) (q : StR) : Prop where
  no : posE f cf xs ≠ 0 → q.l = []
  yes : posE f cf xs = 0 → AfI f (mostS xs) nilU (crowdC f cf xs) q.l q.U
theorem C_ref3_known (f : Fmt) (cf : Int) (xs : List Nt) (A : Option Addr) (n c : Nat) (w : World) (h : Rd w A 4 n (encN xs)) (hn : n ≤ 9223372036854775807) (hsm : chkC f cf xs = 0 → mostS xs ≤ 20) :
    CR Tryz.prog 48 [.agg (cardC f cf A n c).toArray] w (KnI f cf xs) (fun q => .tuple #[.slice q.A q.l.length q.c, .int .i64 (posE f cf xs)]) (fun q => [.own q.A q.c 91 16 q.l.length (encY q.l), manyE true q.U]) := by
  refine ⟨en Tryz.func48 Tryz.ntmps48 ((St.init w).share (e := .ro A 4 n (encN xs)) h rfl rfl rfl) (h := fun F => ?_)⟩
  refine sq (h := ?_)
  refine rg (h := ?_)
  refine bxA (h := fun b0 => ?_)
  refine WL.y (hy := asg) (h := ?_)
  refine WL.cut (by repeat (first | exact Cut.nil | apply Cut.hit | apply Cut.miss (by exact rfl))) ?_
  refine WL.y (hy := asg) (h := ?_)
  refine WL.cut (by repeat (first | exact Cut.nil | apply Cut.hit | apply Cut.miss (by exact rfl))) ?_
  refine nl (h := ?_)
  refine q_seq (h := ?_)
  refine sq (h := ?_)
  refine sq (h := ?_)
  refine rg (h := ?_)
  refine WL.y (hy := (by first | exact ldA | exact ldEA)) (h := ?_)
  refine cl0 (hc := fun w hS => C_ref3_Check f cf xs A n c w (hS.get (by repeat (first | exact Rds.ro | exact Rds.own | apply Rds.there))) hn) (h := ?_)
  refine WL.y (hy := neq) (h := ?_)
  refine nl (h := ?_)
  refine q_seq (h := ?_)
  refine cd (by exact rfl) (fun h0 => ?_) (fun h0 => ?_)
  · skip
    have hck : ¬ chkC f cf xs = 0 := by have g9 := h0; simpa using g9
    have hE : posE f cf xs = 30 := by rw [posE, decide_eq_false hck]; exact (chk_or f cf xs).resolve_left hck
    refine sq (h := ?_)
    refine rg (h := ?_)
    refine WL.y (hy := asg) (h := ?_)
    refine WL.cut (by repeat (first | exact Cut.nil | apply Cut.hit | apply Cut.miss (by exact rfl))) ?_
    refine WL.y (hy := asg) (h := ?_)
    refine WL.cut (by repeat (first | exact Cut.nil | apply Cut.hit | apply Cut.miss (by exact rfl))) ?_
    refine nl (h := ?_)
    refine q_seq (h := ?_)
    refine rtn (h := ?_)
    refine q_then_ret (h := ?_)
    refine q_ret (hR := ?_)
    rw [hE]
    exact fun w hS => ⟨⟨[], none, 0, []⟩, ⟨fun _ => rfl, fun g9 => absurd (g9.symm.trans hE) (by decide)⟩, rfl, ((hS.many0).nilOwn 91 16).sub (by repeat (first | exact SubL.nil | (apply SubL.cons; (repeat (first | exact At.here | apply At.there))) | exact SubL.refl _ | apply SubL.skip))⟩
  · skip
    have hck : chkC f cf xs = 0 := by have g9 := h0; simpa using g9
    refine skp (h := ?_)
    refine q_seq (h := ?_)
    refine sq (h := ?_)
    refine rg (h := ?_)
    refine WL.y (hy := (by first | exact ldA | exact ldEA)) (h := ?_)
    refine cl (hc := fun w hS => C_ref3_stands f cf xs A n c w (hS.get (by repeat (first | exact Rds.ro | exact Rds.own | apply Rds.there))) hck (hsm hck)) (h := fun q hq => ?_)
    refine WL.y (hy := mv) (h := ?_)
    refine WL.y (hy := ex) (h := ?_)
    refine WL.y (hy := ex) (h := ?_)
    refine WL.y (hy := asg) (h := ?_)
    refine WL.y (hy := asg) (h := ?_)
    refine nl (h := ?_)
    refine q_seq (h := ?_)
    refine sq (h := ?_)
    refine sq (h := ?_)
    refine rg (h := ?_)
    refine WL.y (hy := mv) (h := ?_)
    refine WL.y (hy := geq) (h := ?_)
    refine nl (h := ?_)
    refine q_seq (h := ?_)
    refine cd (by exact rfl) (fun h1 => ?_) (fun h1 => ?_)
    · skip
      have hb0 : 0 ≤ badC f cf xs := of_decide_eq_true h1
      have hE : posE f cf xs = 3 := by rw [posE, decide_eq_true hck, decide_eq_true hb0]; rfl
      refine sq (h := ?_)
      refine rg (h := ?_)
      refine WL.y (hy := asg) (h := ?_)
      refine WL.cut (by repeat (first | exact Cut.nil | apply Cut.hit | apply Cut.miss (by exact rfl))) ?_
      refine WL.y (hy := asg) (h := ?_)
      refine WL.cut (by repeat (first | exact Cut.nil | apply Cut.hit | apply Cut.miss (by exact rfl))) ?_
      refine nl (h := ?_)
      refine q_seq (h := ?_)
      refine rtn (h := ?_)
      refine q_then_ret (h := ?_)
      refine q_ret (hR := ?_)
      rw [hE]
      exact fun w hS => ⟨⟨[], none, 0, q.U⟩, ⟨fun _ => rfl, fun g9 => absurd (g9.symm.trans hE) (by decide)⟩, rfl, (hS.nilOwn 91 16).sub (by repeat (first | exact SubL.nil | (apply SubL.cons; (repeat (first | exact At.here | apply At.there))) | exact SubL.refl _ | apply SubL.skip))⟩
    · skip
      have hb0 : badC f cf xs = -1 := by
        have g9 := of_decide_eq_false h1
        have := bad_rng f cf xs
        omega
      have hE : posE f cf xs = 0 := by rw [posE, decide_eq_true hck, hb0]; rfl
      rw [if_pos hb0] at hq
      refine skp (h := ?_)
      refine q_seq (h := ?_)
      refine sq (h := ?_)
      refine rg (h := ?_)
      refine WL.y (hy := mv) (h := ?_)
      refine WL.y (hy := asg) (h := ?_)
      refine WL.cut (by repeat (first | exact Cut.nil | apply Cut.hit | apply Cut.miss (by exact rfl))) ?_
      refine WL.y (hy := asg) (h := ?_)
      refine WL.cut (by repeat (first | exact Cut.nil | apply Cut.hit | apply Cut.miss (by exact rfl))) ?_
      refine nl (h := ?_)
      refine q_seq (h := ?_)
      refine rtn (h := ?_)
      refine q_ret (hR := ?_)
      rw [hE]
      exact fun w hS => ⟨q, ⟨fun g9 => absurd hE g9, fun _ => hq⟩, rfl, hS.sub (by repeat (first | exact SubL.nil | (apply SubL.cons; (repeat (first | exact At.here | apply At.there))) | exact SubL.refl _ | apply SubL.skip))⟩
end Go.Proofs.YtpejgebcmhmpaaaGreat

namespace Go.Proofs.YtpejgebcmhmpaaaGreat
open Go Go.RowKit

theorem far_facts {f : Fmt} {cf : Int} {xs : List Nt} (h : farC f cf xs = false) : xs.length ≤ 60 ∧ (chkC f cf xs = 0 → Rdy f cf xs) := by
  unfold farC at h
  rw [Bool.or_eq_false_iff, decide_eq_false_iff_not] at h
  refine ⟨by omega, fun hc => ?_⟩
  have h2 := h.2
  rw [decide_eq_true hc, Bool.true_and, Bool.or_eq_false_iff, decide_eq_false_iff_not, decide_eq_false_iff_not] at h2
  exact rdy_of hc (by omega) (by omega)
end Go.Proofs.YtpejgebcmhmpaaaGreat

namespace Go.Proofs.YtpejgebcmhmpaaaGreat
open Go Go.RowKit

theorem AfI.keys {f : Fmt} {K : Int} {U U' : List Row} {es : List En} {l : List StA} (h : AfI f K U es l U') : keyC es = l.map fun s => spotOf s.m := by
  rw [← h.en]; unfold keyC; rw [List.map_map]; rfl
set_option maxRecDepth 100000 in
theorem C_ref3_Sure (f : Fmt) (cf : Int) (xs : List Nt) (x : Nt) (A : Option Addr) (n c : Nat) (w : World) (h : Rd w A 4 n (encN xs)) (hn : n ≤ 9223372036854775807) (hsm : chkC f cf xs = 0 → mostS xs ≤ 20) :
    C0 Tryz.prog 26 [.agg (cardC f cf A n c).toArray, x.val] w (.tuple #[.bool (sureV f cf xs x), .int .i64 (sureE f cf xs x)]) := by
  refine ⟨en Tryz.func26 Tryz.ntmps26 ((St.init w).share (e := .ro A 4 n (encN xs)) h rfl rfl rfl) (h := fun F => ?_)⟩
  refine sq (h := ?_)
  refine rg (h := ?_)
  refine bxA (h := fun b0 => ?_)
  refine bxA (h := fun b1 => ?_)
  refine WL.y (hy := asg) (h := ?_)
  refine WL.cut (by repeat (first | exact Cut.nil | apply Cut.hit | apply Cut.miss (by exact rfl))) ?_
  refine WL.y (hy := asg) (h := ?_)
  refine WL.cut (by repeat (first | exact Cut.nil | apply Cut.hit | apply Cut.miss (by exact rfl))) ?_
  refine nl (h := ?_)
  refine q_seq (h := ?_)
  refine sq (h := ?_)
  refine sq (h := ?_)
  refine rg (h := ?_)
  refine WL.y (hy := (by first | exact ldA | exact ldEA)) (h := ?_)
  refine cl0 (hc := fun w hS => C_ref3_Check f cf xs A n c w (hS.get (by repeat (first | exact Rds.ro | exact Rds.own | apply Rds.there))) hn) (h := ?_)
  refine WL.y (hy := neq) (h := ?_)
  refine nl (h := ?_)
  refine q_seq (h := ?_)
  refine cd (by exact rfl) (fun h0 => ?_) (fun h0 => ?_)
  · skip
    have hcn : chkC f cf xs ≠ 0 := by have g9 := h0; simpa using g9
    have hE : sureE f cf xs x = 30 := by rw [sureE, decide_eq_false hcn]; exact (chk_or f cf xs).resolve_left hcn
    have hV : sureV f cf xs x = false := by rw [sureV, hE]; rfl
    refine sq (h := ?_)
    refine rg (h := ?_)
    refine WL.y (hy := asg) (h := ?_)
    refine WL.cut (by repeat (first | exact Cut.nil | apply Cut.hit | apply Cut.miss (by exact rfl))) ?_
    refine WL.y (hy := asg) (h := ?_)
    refine WL.cut (by repeat (first | exact Cut.nil | apply Cut.hit | apply Cut.miss (by exact rfl))) ?_
    refine nl (h := ?_)
    refine q_seq (h := ?_)
    refine rtn (h := ?_)
    refine q_then_ret (h := ?_)
    refine q_ret (hR := ?_)
    first
      | (rw [hV, hE]; exact fun w hS => ⟨rfl, hS.sub .nil⟩)
      | (rw [hV, hE, hp]; exact fun w hS => ⟨rfl, hS.sub .nil⟩)
  · skip
    have hcn : chkC f cf xs = 0 := by have g9 := h0; simpa using g9
    refine skp (h := ?_)
    refine q_seq (h := ?_)
    refine sq (h := ?_)
    refine sq (h := ?_)
    refine rg (h := ?_)
    refine WL.y (hy := (by first | exact fa | exact faE)) (h := ?_)
    refine WL.y (hy := (by first | exact ld | exact ldE)) (h := ?_)
    refine cl0 (hc := fun w hS => C_ref3_within ..) (h := ?_)
    refine WL.y (hy := notB) (h := ?_)
    refine WL.y (hy := mv) (h := ?_)
    apply brOr 4 16 20 (by exact rfl)
    · intro hb1
      refine un (h := ?_)
      refine WL.y (hy := (by first | exact ldA | exact ldEA)) (h := ?_)
      refine un (h := ?_)
      refine cl0 (hc := fun w hS => C_ref3_IsMark _ w) (h := ?_)
      refine un (h := ?_)
      refine WL.y (hy := notB) (h := ?_)
      refine WL.y (hy := (by first | exact pkT | exact pkF)) (h := ?_)
      exact mg (by repeat (first | exact trivial | refine ⟨rfl, ?_⟩ | refine ⟨by rw [hb1]; rfl, ?_⟩)) (by repeat (first | exact SubL.nil | (apply SubL.cons; (repeat (first | exact At.here | apply At.there))) | exact SubL.refl _ | apply SubL.skip))
    · intro hb1
      repeat (first | refine un (h := ?_) | refine sk (h := ?_) | refine WL.y (hy := pkF) (h := ?_) | refine WL.y (hy := pkT) (h := ?_))
      exact mg (by repeat (first | exact trivial | refine ⟨rfl, ?_⟩ | refine ⟨by rw [hb1]; rfl, ?_⟩)) (by repeat (first | exact SubL.nil | (apply SubL.cons; (repeat (first | exact At.here | apply At.there))) | exact SubL.refl _ | apply SubL.skip))
    refine nl (h := ?_)
    refine q_seq (h := ?_)
    refine cd (by exact rfl) (fun h2 => ?_) (fun h2 => ?_)
    · skip
      have hE : sureE f cf xs x = 1 := by
        have h' : (decide (x.kind < 3) || !mkV x) = true := by
          have g9 := h2
          rw [Bool.or_eq_true, Bool.not_eq_true', Bool.not_eq_true'] at g9
          rw [Bool.or_eq_true, Bool.not_eq_true', decide_eq_true_eq]
          by_cases hm : mkV x = true
          · rcases g9 with g9 | g9
            · left
              have g8 := (mk_kind hm).1
              have g7 : ¬ (wi x.kind 3 7 = true) := by rw [g9]; decide
              rw [wi_iff] at g7
              omega
            · rw [hm] at g9; cases g9
          · right; simpa using hm
        rw [sureE, decide_eq_true hcn, h']; rfl
      have hV : sureV f cf xs x = false := by rw [sureV, hE]; rfl
      refine sq (h := ?_)
      refine rg (h := ?_)
      refine WL.y (hy := asg) (h := ?_)
      refine WL.cut (by repeat (first | exact Cut.nil | apply Cut.hit | apply Cut.miss (by exact rfl))) ?_
      refine WL.y (hy := asg) (h := ?_)
      refine WL.cut (by repeat (first | exact Cut.nil | apply Cut.hit | apply Cut.miss (by exact rfl))) ?_
      refine nl (h := ?_)
      refine q_seq (h := ?_)
      refine rtn (h := ?_)
      refine q_then_ret (h := ?_)
      refine q_ret (hR := ?_)
      first
        | (rw [hV, hE]; exact fun w hS => ⟨rfl, hS.sub .nil⟩)
        | (rw [hV, hE, hp]; exact fun w hS => ⟨rfl, hS.sub .nil⟩)
    · skip
      have hxk : (3 ≤ x.kind ∧ x.kind ≤ 7) ∧ mkV x = true := by
        have g9 := h2
        rw [Bool.or_eq_false_iff, Bool.not_eq_false', Bool.not_eq_false', wi_iff] at g9
        exact g9
      have hE : sureE f cf xs x = posE f cf xs := by
        have h' : (decide (x.kind < 3) || !mkV x) = false := by rw [hxk.2, decide_eq_false (by omega)]; rfl
        rw [sureE, decide_eq_true hcn, h']; rfl
      refine skp (h := ?_)
      refine q_seq (h := ?_)
      refine sq (h := ?_)
      refine rg (h := ?_)
      refine WL.y (hy := (by first | exact ldA | exact ldEA)) (h := ?_)
      refine cl (hc := fun w hS => C_ref3_known f cf xs A n c w (hS.get (by repeat (first | exact Rds.ro | exact Rds.own | apply Rds.there))) hn hsm) (h := fun q hq => ?_)
      refine WL.y (hy := mv) (h := ?_)
      refine WL.y (hy := ex) (h := ?_)
      refine WL.y (hy := ex) (h := ?_)
      refine WL.y (hy := asg) (h := ?_)
      refine WL.y (hy := asg) (h := ?_)
      refine nl (h := ?_)
      refine q_seq (h := ?_)
      refine sq (h := ?_)
      refine sq (h := ?_)
      refine rg (h := ?_)
      refine WL.y (hy := mv) (h := ?_)
      refine WL.y (hy := neq) (h := ?_)
      refine nl (h := ?_)
      refine q_seq (h := ?_)
      refine cd (by exact rfl) (fun h3 => ?_) (fun h3 => ?_)
      · skip
        have hp : ¬ posE f cf xs = 0 := by have g9 := h3; simpa using g9
        have hV : sureV f cf xs x = false := by rw [sureV, hE, decide_eq_false hp]; rfl
        refine sq (h := ?_)
        refine rg (h := ?_)
        refine WL.y (hy := mv) (h := ?_)
        refine WL.y (hy := asg) (h := ?_)
        refine WL.cut (by repeat (first | exact Cut.nil | apply Cut.hit | apply Cut.miss (by exact rfl))) ?_
        refine WL.y (hy := asg) (h := ?_)
        refine WL.cut (by repeat (first | exact Cut.nil | apply Cut.hit | apply Cut.miss (by exact rfl))) ?_
        refine nl (h := ?_)
        refine q_seq (h := ?_)
        refine rtn (h := ?_)
        refine q_then_ret (h := ?_)
        refine q_ret (hR := ?_)
        first
          | (rw [hV, hE]; exact fun w hS => ⟨rfl, hS.sub .nil⟩)
          | (rw [hV, hE, hp]; exact fun w hS => ⟨rfl, hS.sub .nil⟩)
      · skip
        have hp : posE f cf xs = 0 := by have g9 := h3; simpa using g9
        have hA := hq.yes hp
        obtain ⟨_, hf, hcf, _, hmk, _⟩ := chk_facts hcn
        have hms := hsm hcn
        have hql := hA.len hf (crowd_keys _ _ _) (by omega)
        have hks := hA.keys
        refine skp (h := ?_)
        refine q_seq (h := ?_)
        refine sq (h := ?_)
        refine sq (h := ?_)
        refine rg (h := ?_)
        refine WL.y (hy := asg) (h := ?_)
        refine WL.cut (by repeat (first | exact Cut.nil | apply Cut.hit | apply Cut.miss (by exact rfl))) ?_
        refine nl (h := ?_)
        refine q_seq (h := ?_)
        refine bk (h := ?_)
        refine lp (X := Nat) (I := fun k => k ≤ q.l.length ∧ ∀ i y, i < k → q.l[i]? = some y → holdS f x (spotOf y.m) = true) (le := fun k => [(2, .pointer (some ⟨b0, 0, none⟩)), (3, .pointer (some ⟨b1, 0, none⟩)), (6, .slice q.A q.l.length q.c), (8, .int .i64 k)]) (Le := fun _ => [.own q.A q.c 91 16 q.l.length (encY q.l), manyE true q.U, .blk b0 26 (cardC f cf A n c), .blk b1 45 x.cells]) (μ := fun k => q.l.length - k) 0 ⟨Nat.zero_le _, fun i y hi => absurd hi (Nat.not_lt_zero _)⟩ (by repeat (first | exact trivial | refine ⟨rfl, ?_⟩)) (by repeat (first | exact SubL.nil | (apply SubL.cons; (repeat (first | exact At.here | apply At.there))) | exact SubL.refl _ | apply SubL.skip)) (fun k hk => ?_)
        refine sq (h := ?_)
        refine sq (h := ?_)
        refine rg (h := ?_)
        refine WL.y (hy := mv) (h := ?_)
        refine WL.y (hy := mv) (h := ?_)
        refine WL.y (hy := lenS) (h := ?_)
        refine WL.y (hy := lss) (h := ?_)
        refine nl (h := ?_)
        refine q_seq (h := ?_)
        refine cd (by exact rfl) (fun h4 => ?_) (fun h4 => ?_)
        · skip
          have hkn : k < q.l.length := by have := of_decide_eq_true h4; omega
          obtain ⟨y, hy⟩ : ∃ y, q.l[k]? = some y := ⟨_, List.getElem?_eq_getElem hkn⟩
          have hyk := hA.ok y (List.mem_of_getElem? hy)
          have hyn : y.m.st.length ≤ 1000000 := by have := (hyk.bd hf (by omega)).s; have := hyk.n; omega
          have hts := hyk.tst hf hxk.1
          refine skp (h := ?_)
          refine q_seq (h := ?_)
          refine sq (h := ?_)
          refine bk (h := ?_)
          refine sq (h := ?_)
          refine rgD (by kernel_rfl) [(1000000, .own q.A q.c 91 16 q.l.length (encY q.l)), (1000000, .blk b0 26 (cardC f cf A n c)), (1000000, .blk b1 45 x.cells)] (by repeat (first | exact HS.nil | (apply HS.keep; (repeat (first | exact At.here | apply At.there))) | (apply HS.ro; (repeat (first | exact Rds.ro | exact Rds.own | apply Rds.there))))) (h := ?_)
          refine tk 0 (hy := (by first | exact fa | exact faE)) (h := ?_)
          refine tk 1 (hy := (by first | exact ldA | exact ldEA)) (h := ?_)
          refine tk 2 (hy := mv) (h := ?_)
          refine tk 3 (hy := mv) (h := ?_)
          refine tk 4 (hy := ix (A := q.A) (m := q.l.length) (hb := by omega)) (h := ?_)
          refine tk 5 (hy := ldEW (A := q.A) (k := k) (cs := y.cells) (hk := encY_at hy)) (h := ?_)
          refine tk 7 (hy := (by first | exact ldA | exact ldEA)) (h := ?_)
          refine one 6 (h := ?_)
          refine cl0 (hc := fun w hS => C_ref3_Score f hf (mostS xs) (by omega) q.U y hyk w (hS.many (by repeat (first | exact At.here | apply At.there)) hyk.us)) (h := ?_)
          refine nx (h := ?_)
          refine one 8 (h := ?_)
          refine cl0 (hc := fun w hS => C_ref3_True y.m.sc y.sA y.sc x w (hS.many (by repeat (first | exact At.here | apply At.there)) hyk.us) hyn) (h := ?_)
          refine nx (h := ?_)
          refine tk 9 (hy := notB) (h := ?_)
          refine dn (h := ?_)
          refine q_seq (h := ?_)
          refine cd (by exact rfl) (fun h5 => ?_) (fun h5 => ?_)
          · skip
            have hV : sureV f cf xs x = false := by
              have g8 : tstV y.m.sc x = false := by have g9 := h5; simpa using g9
              rw [hts] at g8
              unfold sureV sureB
              rw [Bool.and_eq_false_iff]
              right
              cases h7 : (keyC (crowdC f cf xs)).all (holdS f x)
              · rfl
              · have := List.all_eq_true.1 h7 (spotOf y.m) (by rw [hks]; exact List.mem_map.2 ⟨y, List.mem_of_getElem? hy, rfl⟩)
                rw [g8] at this; cases this
            refine sq (h := ?_)
            refine rg (h := ?_)
            refine WL.y (hy := asg) (h := ?_)
            refine WL.cut (by repeat (first | exact Cut.nil | apply Cut.hit | apply Cut.miss (by exact rfl))) ?_
            refine WL.y (hy := asg) (h := ?_)
            refine WL.cut (by repeat (first | exact Cut.nil | apply Cut.hit | apply Cut.miss (by exact rfl))) ?_
            refine nl (h := ?_)
            refine q_seq (h := ?_)
            refine rtn (h := ?_)
            refine q_blk_ret (h := ?_)
            refine q_then_ret (h := ?_)
            refine q_then_ret (h := ?_)
            refine q_blk_ret (h := ?_)
            refine q_then_ret (h := ?_)
            refine q_ret (hR := ?_)
            first
              | (rw [hV, hE]; exact fun w hS => ⟨rfl, hS.sub .nil⟩)
              | (rw [hV, hE, hp]; exact fun w hS => ⟨rfl, hS.sub .nil⟩)
          · skip
            have hHy : holdS f x (spotOf y.m) = true := by rw [← hts]; have g9 := h5; simpa using g9
            refine skp (h := ?_)
            refine q_blk_norm (h := ?_)
            refine q_seq (h := ?_)
            refine rg (h := ?_)
            refine WL.y (hy := mv) (h := ?_)
            refine WL.y (hy := addI) (h := ?_)
            refine WL.y (hy := asg) (h := ?_)
            refine WL.cut (by repeat (first | exact Cut.nil | apply Cut.hit | apply Cut.miss (by exact rfl))) ?_
            refine nl (h := ?_)
            refine rn (x := k) (k + 1) ⟨hkn, fun i y' hi hy' => by
              by_cases e : i = k
              · subst e; rw [hy] at hy'; cases hy'; exact hHy
              · exact hk.2 i y' (by omega) hy'⟩ (by omega) (by repeat (first | exact trivial | refine ⟨rfl, ?_⟩)) (by repeat (first | exact SubL.nil | (apply SubL.cons; (repeat (first | exact At.here | apply At.there))) | exact SubL.refl _ | apply SubL.skip))
        · skip
          have hkn : k = q.l.length := by have := of_decide_eq_false h4; omega
          have hV : sureV f cf xs x = true := by
            rw [sureV, hE, hp]
            show sureB f cf xs x = true
            refine List.all_eq_true.2 fun s hs => ?_
            rw [hks] at hs
            obtain ⟨y, hy, rfl⟩ := List.mem_map.1 hs
            obtain ⟨i, hi, e⟩ := List.mem_iff_getElem.1 hy
            exact hk.2 i y (by omega) (by rw [List.getElem?_eq_getElem hi, e])
          refine et (h := ?_)
          refine q_then_exit (h := ?_)
          refine q_then_exit (h := ?_)
          refine q_blk_hit (h := ?_)
          refine q_seq (h := ?_)
          refine sq (h := ?_)
          refine rg (h := ?_)
          refine WL.y (hy := asg) (h := ?_)
          refine WL.cut (by repeat (first | exact Cut.nil | apply Cut.hit | apply Cut.miss (by exact rfl))) ?_
          refine WL.y (hy := asg) (h := ?_)
          refine WL.cut (by repeat (first | exact Cut.nil | apply Cut.hit | apply Cut.miss (by exact rfl))) ?_
          refine nl (h := ?_)
          refine q_seq (h := ?_)
          refine rtn (h := ?_)
          refine q_ret (hR := ?_)
          first
            | (rw [hV, hE]; exact fun w hS => ⟨rfl, hS.sub .nil⟩)
            | (rw [hV, hE, hp]; exact fun w hS => ⟨rfl, hS.sub .nil⟩)
end Go.Proofs.YtpejgebcmhmpaaaGreat

namespace Go.Proofs.YtpejgebcmhmpaaaGreat
open Go Go.RowKit

def incA (s : StA) : StA := s.up (s.mn.1, s.mn.2.1, s.mn.2.2 + 1)
def incT (l : List StA) (i : Nat) : List StA := (l.take i).map incA ++ l.drop i
theorem incT_end (l : List StA) : incT l l.length = l.map incA := by unfold incT; rw [List.take_length, List.drop_length, List.append_nil]
theorem incT_at {l : List StA} {i : Nat} {y : StA} (h : l[i]? = some y) : (incT l i)[i]? = some y := by
  have hi := (List.getElem?_eq_some_iff.1 h).1
  unfold incT
  rw [List.getElem?_append_right (by rw [List.length_map, List.length_take]; omega), List.length_map, List.length_take, Nat.min_eq_left (by omega), Nat.sub_self, List.getElem?_drop]
  exact h
theorem incT_set {l : List StA} {i : Nat} {y : StA} (h : l[i]? = some y) : (incT l i).set i (incA y) = incT l (i + 1) := by
  have hi := (List.getElem?_eq_some_iff.1 h).1
  unfold incT
  rw [drop_at h, List.set_append_right _ _ (by rw [List.length_map, List.length_take]; omega), List.length_map, List.length_take, Nat.min_eq_left (by omega), Nat.sub_self, List.take_add_one, h, List.map_append, List.append_assoc]
  rfl
theorem few_succ (f : Fmt) (cf : Int) {xs : List Nt} {k : Nat} {x : Nt} (h : xs[k]? = some x) : fewR f cf xs (k + 1) = joinC ((fewR f cf xs k).map outU) (afterC f (fewR f cf xs k) x) := by rw [fewR, h]
theorem few_outs {f : Fmt} {cf : Int} {xs : List Nt} {k : Nat} (hk : k ≤ xs.length) {K : Int} {U U' : List Row} {l : List StA} (h : AfI f K U (fewR f cf xs k) l U') : ∀ y ∈ l, 0 ≤ y.mn.2.2 ∧ y.mn.2.2 ≤ (k : Int) := by
  intro y hy
  obtain ⟨i, e, hl⟩ := (few_mo f cf xs k hk).2.1 (enA y) (by rw [← h.en]; exact List.mem_map.2 ⟨y, hy, rfl⟩)
  have h2 := lft_le hl
  have h3 : y.mn.2.2 = (i : Int) := e
  omega
theorem inc_ok {f : Fmt} {K : Int} {U : List Row} {l : List StA} (h : ∀ y ∈ l, StK f K U y) {k : Nat} (hk : k ≤ 60) (ho : ∀ y ∈ l, 0 ≤ y.mn.2.2 ∧ y.mn.2.2 ≤ (k : Int)) : ∀ y ∈ l.map incA, StK f K U y := by
  intro y hy
  obtain ⟨s, hs, rfl⟩ := List.mem_map.1 hy
  have h1 := h s hs
  have h2 := ho s hs
  exact ⟨h1.fs, h1.pl, h1.n, h1.us, h1.ug, h1.up, h1.lo, h1.hi, by show 0 ≤ s.mn.2.2 + 1 ∧ s.mn.2.2 + 1 ≤ 100; omega⟩
theorem inc_en (l : List StA) : (l.map incA).map enA = (l.map enA).map outU := by rw [List.map_map, List.map_map]; rfl
def minO (l : List StA) (n : Int) : Int := (l.map enA).foldl (fun n e => min n e.2.2.2) n
theorem minO_succ {l : List StA} {k : Nat} {y : StA} (h : l[k]? = some y) (n : Int) : minO (l.take (k + 1)) n = min (minO (l.take k) n) y.mn.2.2 := by
  unfold minO
  rw [List.take_add_one, h, List.map_append, List.foldl_append]; rfl
set_option maxRecDepth 100000 in
set_option maxHeartbeats 1000000 in
theorem C_ref3_Fewest (f : Fmt) (cf : Int) (xs : List Nt) (A : Option Addr) (n c : Nat) (w : World) (h : Rd w A 4 n (encN xs)) (hn : n ≤ 9223372036854775807) (hsm : chkC f cf xs = 0 → mostS xs ≤ 20) :
    C0 Tryz.prog 28 [.agg (cardC f cf A n c).toArray] w (.tuple #[.int .i64 (fewB f cf xs), .int .i64 (chkC f cf xs)]) := by
  have hlen : xs.length = n := by have := h.len; rwa [encN_len] at this
  refine ⟨en Tryz.func28 Tryz.ntmps28 ((St.init w).share (e := .ro A 4 n (encN xs)) h rfl rfl rfl) (h := fun F => ?_)⟩
  refine sq (h := ?_)
  refine rg (h := ?_)
  refine bxA (h := fun b0 => ?_)
  refine WL.y (hy := asg) (h := ?_)
  refine WL.cut (by repeat (first | exact Cut.nil | apply Cut.hit | apply Cut.miss (by exact rfl))) ?_
  refine WL.y (hy := asg) (h := ?_)
  refine WL.cut (by repeat (first | exact Cut.nil | apply Cut.hit | apply Cut.miss (by exact rfl))) ?_
  refine nl (h := ?_)
  refine q_seq (h := ?_)
  refine sq (h := ?_)
  refine sq (h := ?_)
  refine rg (h := ?_)
  refine WL.y (hy := (by first | exact ldA | exact ldEA)) (h := ?_)
  refine cl0 (hc := fun w hS => C_ref3_Check f cf xs A n c w (hS.get (by repeat (first | exact Rds.ro | exact Rds.own | apply Rds.there))) hn) (h := ?_)
  refine WL.y (hy := neq) (h := ?_)
  refine nl (h := ?_)
  refine q_seq (h := ?_)
  refine cd (by exact rfl) (fun h0 => ?_) (fun h0 => ?_)
  · skip
    have hcn : chkC f cf xs ≠ 0 := by have g9 := h0; simpa using g9
    have hE : fewB f cf xs = 0 := by rw [fewB, decide_eq_false hcn]; rfl
    have hE2 := (chk_or f cf xs).resolve_left hcn
    refine sq (h := ?_)
    refine rg (h := ?_)
    refine WL.y (hy := asg) (h := ?_)
    refine WL.cut (by repeat (first | exact Cut.nil | apply Cut.hit | apply Cut.miss (by exact rfl))) ?_
    refine WL.y (hy := asg) (h := ?_)
    refine WL.cut (by repeat (first | exact Cut.nil | apply Cut.hit | apply Cut.miss (by exact rfl))) ?_
    refine nl (h := ?_)
    refine q_seq (h := ?_)
    refine rtn (h := ?_)
    refine q_then_ret (h := ?_)
    refine q_ret (hR := ?_)
    rw [hE, hE2]
    exact fun w hS => ⟨rfl, hS.sub .nil⟩
  · skip
    have hcn : chkC f cf xs = 0 := by have g9 := h0; simpa using g9
    obtain ⟨_, hf, hcf, hl30, hmk, _⟩ := chk_facts hcn
    have hms := hsm hcn
    refine skp (h := ?_)
    refine q_seq (h := ?_)
    refine sq (h := ?_)
    refine rg (h := ?_)
    refine WL.y (hy := (by first | exact ldA | exact ldEA)) (h := ?_)
    refine cl (hc := fun w hS => C_ref3_begin f hf cf A n c w) (h := fun q0 _ => ?_)
    refine WL.y (hy := asg) (h := ?_)
    refine WL.cut (by repeat (first | exact Cut.nil | apply Cut.hit | apply Cut.miss (by exact rfl))) ?_
    refine nl (h := ?_)
    refine q_seq (h := ?_)
    refine sq (h := ?_)
    refine sq (h := ?_)
    refine WC.nilOwn 43 2 (h := ?_)
    refine WC.nilOwn 140 7 (h := ?_)
    refine WC.nilOwn 3 1 (h := ?_)
    refine WC.many0 (h := ?_)
    refine WC.manyAdd (A := none) (size := 2) (by repeat (first | exact At.here | apply At.there)) (by repeat (first | exact At.here | apply At.there)) ?_
    refine WC.manyAdd (A := none) (size := 7) (by repeat (first | exact At.here | apply At.there)) (by repeat (first | exact At.here | apply At.there)) ?_
    refine WC.manyAdd (A := none) (size := 1) (by repeat (first | exact At.here | apply At.there)) (by repeat (first | exact At.here | apply At.there)) ?_
    rw [List.nil_append, show ([⟨none, 2, 0, []⟩] ++ [⟨none, 7, 0, []⟩] ++ [⟨none, 1, 0, []⟩] : List Row) = nilU from rfl]
    refine rg (h := ?_)
    refine WL.y (hy := asg) (h := ?_)
    refine WL.cut (by repeat (first | exact Cut.nil | apply Cut.hit | apply Cut.miss (by exact rfl))) ?_
    refine nl (h := ?_)
    refine q_seq (h := ?_)
    refine bk (h := ?_)
    refine lp (X := SkZ) (I := fun z => z.k ≤ n ∧ AfI f (mostS (xs.take z.k)) nilU (fewR f cf xs z.k) z.l z.U) (le := fun z => [(1, .pointer (some ⟨b0, 0, none⟩)), (4, .slice z.A z.l.length z.c), (5, .int .i64 z.k)]) (Le := fun z => [.own z.A z.c 91 16 z.l.length (encY z.l), manyE true z.U, .blk b0 26 (cardC f cf A n c), .ro A 4 n (encN xs)]) (μ := fun z => n - z.k) ⟨0, begA f cf 2, q0.1, q0.2, nilU⟩ ⟨Nat.zero_le _, begA_af f cf⟩ (by repeat (first | exact trivial | refine ⟨rfl, ?_⟩)) (by repeat (first | exact SubL.nil | (apply SubL.cons; (repeat (first | exact At.here | apply At.there))) | exact SubL.refl _ | apply SubL.skip)) (fun z hz => ?_)
    obtain ⟨hzk, hzA⟩ := hz
    refine sq (h := ?_)
    refine sq (h := ?_)
    refine rg (h := ?_)
    refine WL.y (hy := mv) (h := ?_)
    refine WL.y (hy := (by first | exact fa | exact faE)) (h := ?_)
    refine WL.y (hy := (by first | exact ld | exact ldE)) (h := ?_)
    refine WL.y (hy := lenS) (h := ?_)
    refine WL.y (hy := lss) (h := ?_)
    refine nl (h := ?_)
    refine q_seq (h := ?_)
    refine cd (by exact rfl) (fun h1 => ?_) (fun h1 => ?_)
    · skip
      have hkn : z.k < n := by have := of_decide_eq_true h1; omega
      obtain ⟨x, hx⟩ : ∃ x, xs[z.k]? = some x := ⟨_, List.getElem?_eq_getElem (by omega)⟩
      have hxe := encN_at hx
      have hxm := hmk x (List.mem_of_getElem? hx)
      have hm1 := mst_rng hmk z.k
      have hm2 := mst_rng hmk (z.k + 1)
      have hm3 := mostS_succ hx
      have hmx := (most_bd hxm).1
      have hcs := few_succ f cf hx
      have hfk := (few_mo f cf xs z.k (by omega)).1
      have hzl := hzA.len hf hfk (by omega)
      have hzo := few_outs (by omega) hzA
      refine skp (h := ?_)
      refine q_seq (h := ?_)
      refine sq (h := ?_)
      refine bk (h := ?_)
      refine sq (h := ?_)
      refine rg (h := ?_)
      refine bs (h := fun b1 => ?_)
      refine WL.y (hy := mv) (h := ?_)
      refine ap (es := []) (es2 := encY z.l) (m := 0) (k := z.l.length) (A2 := z.A) (h := fun A1 c1 => ?_)
      rw [show [] ++ encY z.l = encY (incT z.l 0) from rfl, Nat.zero_add]
      refine WL.y (hy := asg) (h := ?_)
      refine WL.cut (by repeat (first | exact Cut.nil | apply Cut.hit | apply Cut.miss (by exact rfl))) ?_
      refine nl (h := ?_)
      refine q_seq (h := ?_)
      refine sq (h := ?_)
      refine sq (h := ?_)
      refine rg (h := ?_)
      refine WL.y (hy := asg) (h := ?_)
      refine WL.cut (by repeat (first | exact Cut.nil | apply Cut.hit | apply Cut.miss (by exact rfl))) ?_
      refine nl (h := ?_)
      refine q_seq (h := ?_)
      refine bk (h := ?_)
      refine lp (X := Nat) (I := fun i => i ≤ z.l.length) (le := fun i => [(1, .pointer (some ⟨b0, 0, none⟩)), (4, .slice z.A z.l.length z.c), (5, .int .i64 z.k), (6, .slice A1 z.l.length c1), (7, .int .i64 i)]) (Le := fun i => [.own A1 c1 91 16 z.l.length (encY (incT z.l i)), .own z.A z.c 91 16 z.l.length (encY z.l), manyE true z.U, .blk b0 26 (cardC f cf A n c), .ro A 4 n (encN xs)]) (μ := fun i => z.l.length - i) 0 (Nat.zero_le _) (by repeat (first | exact trivial | refine ⟨rfl, ?_⟩)) (by repeat (first | exact SubL.nil | (apply SubL.cons; (repeat (first | exact At.here | apply At.there))) | exact SubL.refl _ | apply SubL.skip)) (fun i hi => ?_)
      refine sq (h := ?_)
      refine sq (h := ?_)
      refine rg (h := ?_)
      refine WL.y (hy := mv) (h := ?_)
      refine WL.y (hy := mv) (h := ?_)
      refine WL.y (hy := lenS) (h := ?_)
      refine WL.y (hy := lss) (h := ?_)
      refine nl (h := ?_)
      refine q_seq (h := ?_)
      refine cd (by exact rfl) (fun h2 => ?_) (fun h2 => ?_)
      · skip
        have hin : i < z.l.length := by have := of_decide_eq_true h2; omega
        obtain ⟨y, hy⟩ : ∃ y, z.l[i]? = some y := ⟨_, List.getElem?_eq_getElem hin⟩
        have hya := incT_at hy
        have hyo := hzo y (List.mem_of_getElem? hy)
        have hys := incT_set hy
        refine skp (h := ?_)
        refine q_seq (h := ?_)
        refine sq (h := ?_)
        refine bk (h := ?_)
        refine rg (h := ?_)
        refine WL.y (hy := mv) (h := ?_)
        refine WL.y (hy := mv) (h := ?_)
        refine WL.y (hy := ix (A := A1) (m := z.l.length) (hb := by omega)) (h := ?_)
        refine WL.y (hy := (by first | exact fa | exact faE)) (h := ?_)
        refine WL.y (hy := ldE (A := A1) (k := i) (hk := encY_at hya)) (h := ?_)
        refine WL.y (hy := addI (hb := by omega)) (h := ?_)
        refine WL.y (hy := ix (A := A1) (m := z.l.length) (hb := by omega)) (h := ?_)
        refine WL.y (hy := (by first | exact fa | exact faE)) (h := ?_)
        refine stE (A := A1) (k := i) (j := 15) (hk := encY_at hya) (h := ?_)
        rw [show (encY (incT z.l i)).set i (y.cells.set 15 (Value.int .i64 (y.mn.2.2 + 1))) = encY (incT z.l (i + 1)) from (encY_set (incT z.l i) i (incA y)).trans (by rw [hys])]
        refine nl (h := ?_)
        refine q_blk_norm (h := ?_)
        refine q_seq (h := ?_)
        refine rg (h := ?_)
        refine WL.y (hy := mv) (h := ?_)
        refine WL.y (hy := addI) (h := ?_)
        refine WL.y (hy := asg) (h := ?_)
        refine WL.cut (by repeat (first | exact Cut.nil | apply Cut.hit | apply Cut.miss (by exact rfl))) ?_
        refine nl (h := ?_)
        refine rn (x := i) (i + 1) hin (by omega) (by repeat (first | exact trivial | refine ⟨rfl, ?_⟩)) (by repeat (first | exact SubL.nil | (apply SubL.cons; (repeat (first | exact At.here | apply At.there))) | exact SubL.refl _ | apply SubL.skip))
      · skip
        have hin : i = z.l.length := by have := of_decide_eq_false h2; omega
        rw [hin, incT_end]
        refine et (h := ?_)
        refine q_then_exit (h := ?_)
        refine q_then_exit (h := ?_)
        refine q_blk_hit (h := ?_)
        refine q_seq (h := ?_)
        refine WC.cut 4 (by exact rfl) (by repeat (first | exact Cut.nil | apply Cut.hit | apply Cut.miss (by exact rfl))) ?_
        refine rgD (by kernel_rfl) [(9, .own z.A z.c 91 16 z.l.length (encY z.l)), (1000000, .blk b0 26 (cardC f cf A n c)), (1000000, .ro A 4 n (encN xs))] (by repeat (first | exact HS.nil | (apply HS.keep; (repeat (first | exact At.here | apply At.there))) | (apply HS.ro; (repeat (first | exact Rds.ro | exact Rds.own | apply Rds.there))))) (h := ?_)
        refine tk 0 (hy := mv) (h := ?_)
        refine tk 1 (hy := (by first | exact fa | exact faE)) (h := ?_)
        refine tk 2 (hy := (by first | exact ldA | exact ldEA)) (h := ?_)
        refine tk 3 (hy := mv) (h := ?_)
        refine tk 4 (hy := (by first | exact fa | exact faE)) (h := ?_)
        refine tk 5 (hy := (by first | exact ld | exact ldE)) (h := ?_)
        refine tk 6 (hy := mv) (h := ?_)
        refine tk 7 (hy := ix (A := A) (m := n) (hb := by omega)) (h := ?_)
        refine tk 8 (hy := ldEA (A := A) (hk := hxe)) (h := ?_)
        refine one 9 (h := ?_)
        refine clT (hc := T_After f hf (mostS (xs.take z.k)) z.l x z.A z.c z.U (by rw [hzA.en]; exact hfk) hzA.ok hxm hm1.1 (by omega)) (h := fun q hq => ?_)
        refine nx (h := ?_)
        refine one 10 (h := ?_)
        have hJ := T_joined f hf (mostS (xs.take (z.k + 1))) (by omega) (z.l.map incA) q.l A1 q.A c1 q.c q.U (fun y hy => (inc_ok hzA.ok (by omega) hzo y hy).mono (by omega) hq.sub) (fun y hy => (hq.ok y hy).mono (by omega) fun _ h => h) (by rw [inc_en, hzA.en]; exact outU_keys hfk) (by have := (hq.len hf (after_keys f x (by rw [hzA.en]; exact hfk)) (by omega)); omega)
        rw [List.length_map] at hJ
        refine clT (hc := hJ) (h := fun q2 _ => ?_)
        have hzn : AfI f (mostS (xs.take (z.k + 1))) nilU (fewR f cf xs (z.k + 1)) (q.l.foldl addS (z.l.map incA)) q.U := by
          refine ⟨?_, fold_ok q.l _ (fun y hy => (inc_ok hzA.ok (by omega) hzo y hy).mono (by omega) hq.sub) (fun y hy => (hq.ok y hy).mono (by omega) fun _ h => h), fun r hr => hq.sub r (hzA.sub r hr)⟩
          rw [fold_en, inc_en, hq.en, hzA.en, hcs]
        refine nx (h := ?_)
        refine tk 11 (hy := asg) (h := ?_)
        refine dn (h := ?_)
        refine q_blk_norm (h := ?_)
        refine q_seq (h := ?_)
        refine rg (h := ?_)
        refine WL.y (hy := mv) (h := ?_)
        refine WL.y (hy := addI) (h := ?_)
        refine WL.y (hy := asg) (h := ?_)
        refine WL.cut (by repeat (first | exact Cut.nil | apply Cut.hit | apply Cut.miss (by exact rfl))) ?_
        refine nl (h := ?_)
        refine rn (x := z) ⟨z.k + 1, q.l.foldl addS (z.l.map incA), q2.1, q2.2, q.U⟩ ⟨hkn, hzn⟩ (by dsimp only; omega) (by repeat (first | exact trivial | refine ⟨rfl, ?_⟩)) (by repeat (first | exact SubL.nil | (apply SubL.cons; (repeat (first | exact At.here | apply At.there))) | exact SubL.refl _ | apply SubL.skip))
    · skip
      have hkn : z.k = n := by have := of_decide_eq_false h1; omega
      have hfk := (few_mo f cf xs z.k (by omega)).1
      have hm1 := mst_rng hmk z.k
      have hzl := hzA.len hf hfk (by omega)
      have hfv : fewB f cf xs = minO z.l (n : Int) := by
        rw [fewB, decide_eq_true hcn, cond_true]
        unfold fewV minO
        rw [hzA.en, hkn, hlen]
      refine et (h := ?_)
      refine q_then_exit (h := ?_)
      refine q_then_exit (h := ?_)
      refine q_blk_hit (h := ?_)
      refine q_seq (h := ?_)
      refine sq (h := ?_)
      refine rg (h := ?_)
      refine WL.y (hy := (by first | exact fa | exact faE)) (h := ?_)
      refine WL.y (hy := (by first | exact ld | exact ldE)) (h := ?_)
      refine WL.y (hy := lenS) (h := ?_)
      refine WL.y (hy := asg) (h := ?_)
      refine WL.cut (by repeat (first | exact Cut.nil | apply Cut.hit | apply Cut.miss (by exact rfl))) ?_
      refine nl (h := ?_)
      refine q_seq (h := ?_)
      refine sq (h := ?_)
      refine sq (h := ?_)
      refine rg (h := ?_)
      refine WL.y (hy := asg) (h := ?_)
      refine WL.cut (by repeat (first | exact Cut.nil | apply Cut.hit | apply Cut.miss (by exact rfl))) ?_
      refine nl (h := ?_)
      refine q_seq (h := ?_)
      refine bk (h := ?_)
      refine lp (X := Nat) (I := fun i => i ≤ z.l.length) (le := fun i => [(4, .slice z.A z.l.length z.c), (8, .int .i64 (minO (z.l.take i) (n : Int))), (9, .int .i64 i)]) (Le := fun _ => [.own z.A z.c 91 16 z.l.length (encY z.l)]) (μ := fun i => z.l.length - i) 0 (Nat.zero_le _) (by repeat (first | exact trivial | refine ⟨rfl, ?_⟩)) (by repeat (first | exact SubL.nil | (apply SubL.cons; (repeat (first | exact At.here | apply At.there))) | exact SubL.refl _ | apply SubL.skip)) (fun i hi => ?_)
      refine sq (h := ?_)
      refine sq (h := ?_)
      refine rg (h := ?_)
      refine WL.y (hy := mv) (h := ?_)
      refine WL.y (hy := mv) (h := ?_)
      refine WL.y (hy := lenS) (h := ?_)
      refine WL.y (hy := lss) (h := ?_)
      refine nl (h := ?_)
      refine q_seq (h := ?_)
      refine cd (by exact rfl) (fun h3 => ?_) (fun h3 => ?_)
      · skip
        have hin : i < z.l.length := by have := of_decide_eq_true h3; omega
        obtain ⟨y, hy⟩ : ∃ y, z.l[i]? = some y := ⟨_, List.getElem?_eq_getElem hin⟩
        have hmn := minO_succ hy (n : Int)
        refine skp (h := ?_)
        refine q_seq (h := ?_)
        refine sq (h := ?_)
        refine bk (h := ?_)
        refine rg (h := ?_)
        refine WL.y (hy := mv) (h := ?_)
        refine WL.y (hy := mv) (h := ?_)
        refine WL.y (hy := mv) (h := ?_)
        refine WL.y (hy := ix (A := z.A) (m := z.l.length) (hb := by omega)) (h := ?_)
        refine WL.y (hy := (by first | exact fa | exact faE)) (h := ?_)
        refine WL.y (hy := ldE (A := z.A) (k := i) (hk := encY_at hy)) (h := ?_)
        refine WL.y (hy := minI) (h := ?_)
        refine WL.y (hy := asg) (h := ?_)
        refine WL.cut (by repeat (first | exact Cut.nil | apply Cut.hit | apply Cut.miss (by exact rfl))) ?_
        refine nl (h := ?_)
        refine q_blk_norm (h := ?_)
        refine q_seq (h := ?_)
        refine rg (h := ?_)
        refine WL.y (hy := mv) (h := ?_)
        refine WL.y (hy := addI) (h := ?_)
        refine WL.y (hy := asg) (h := ?_)
        refine WL.cut (by repeat (first | exact Cut.nil | apply Cut.hit | apply Cut.miss (by exact rfl))) ?_
        refine nl (h := ?_)
        refine rn (x := i) (i + 1) hin (by omega) (by rw [hmn]; repeat (first | exact trivial | refine ⟨rfl, ?_⟩)) (by repeat (first | exact SubL.nil | (apply SubL.cons; (repeat (first | exact At.here | apply At.there))) | exact SubL.refl _ | apply SubL.skip))
      · skip
        have hin : i = z.l.length := by have := of_decide_eq_false h3; omega
        rw [hin, List.take_length, ← hfv]
        refine et (h := ?_)
        refine q_then_exit (h := ?_)
        refine q_then_exit (h := ?_)
        refine q_blk_hit (h := ?_)
        refine q_seq (h := ?_)
        refine sq (h := ?_)
        refine rg (h := ?_)
        refine WL.y (hy := mv) (h := ?_)
        refine WL.y (hy := asg) (h := ?_)
        refine WL.cut (by repeat (first | exact Cut.nil | apply Cut.hit | apply Cut.miss (by exact rfl))) ?_
        refine WL.y (hy := asg) (h := ?_)
        refine WL.cut (by repeat (first | exact Cut.nil | apply Cut.hit | apply Cut.miss (by exact rfl))) ?_
        refine nl (h := ?_)
        refine q_seq (h := ?_)
        refine rtn (h := ?_)
        refine q_ret (hR := ?_)
        rw [hcn]
        exact fun w hS => ⟨rfl, hS.sub .nil⟩
end Go.Proofs.YtpejgebcmhmpaaaGreat

namespace Go.Proofs.YtpejgebcmhmpaaaGreat
open Go Go.RowKit

set_option maxRecDepth 100000 in
theorem K_CardSure (f : Fmt) (cf : Int) (xs : List Nt) (A : Option Addr) (n c : Nat) (x : Nt) (w : World) (h : Rd w A 4 n (encN xs)) (hn : n ≤ 9223372036854775807) : C0 Tryz.prog 6 [.agg (cardC f cf A n c).toArray, x.val] w (.bool true) := by
  have hlen : xs.length = n := by have := h.len; rwa [encN_len] at this
  refine ⟨en Tryz.func6 Tryz.ntmps6 ((St.init w).share (e := .ro A 4 n (encN xs)) h rfl rfl rfl) (h := fun F => ?_)⟩
  refine sq (h := ?_)
  refine rg (h := ?_)
  refine bxA (h := fun b0 => ?_)
  refine bxA (h := fun b1 => ?_)
  refine WL.y (hy := asg) (h := ?_)
  refine WL.cut (by repeat (first | exact Cut.nil | apply Cut.hit | apply Cut.miss (by exact rfl))) ?_
  refine nl (h := ?_)
  refine q_seq (h := ?_)
  refine sq (h := ?_)
  refine sq (h := ?_)
  refine rg (h := ?_)
  refine WL.y (hy := (by first | exact ldA | exact ldEA)) (h := ?_)
  refine cl0 (hc := fun w hS => C_law3_Far f cf xs A n c w (hS.get (by repeat (first | exact Rds.ro | exact Rds.own | apply Rds.there))) hn) (h := ?_)
  refine nl (h := ?_)
  refine q_seq (h := ?_)
  refine cd (by exact rfl) (fun h0 => ?_) (fun h0 => ?_)
  · skip
    refine sq (h := ?_)
    refine rg (h := ?_)
    refine cl0 (hc := fun w hS => C_law3_works w) (h := ?_)
    refine WL.y (hy := asg) (h := ?_)
    refine WL.cut (by repeat (first | exact Cut.nil | apply Cut.hit | apply Cut.miss (by exact rfl))) ?_
    refine nl (h := ?_)
    refine q_seq (h := ?_)
    refine rtn (h := ?_)
    refine q_then_ret (h := ?_)
    refine q_ret (hR := ?_)
    first
      | exact fun w hS => ⟨rfl, hS.sub (by repeat (first | exact SubL.nil | (apply SubL.cons; (repeat (first | exact At.here | apply At.there))) | exact SubL.refl _ | apply SubL.skip))⟩
      | exact fun w hS => ⟨by simp [resV], hS.sub (by repeat (first | exact SubL.nil | (apply SubL.cons; (repeat (first | exact At.here | apply At.there))) | exact SubL.refl _ | apply SubL.skip))⟩
  · skip
    have hF := far_facts h0
    refine skp (h := ?_)
    refine q_seq (h := ?_)
    refine sq (h := ?_)
    refine rg (h := ?_)
    refine WL.y (hy := (by first | exact ldA | exact ldEA)) (h := ?_)
    refine cl (hc := fun w hS => C_ref3_Copy f cf xs A n c w (hS.get (by repeat (first | exact Rds.ro | exact Rds.own | apply Rds.there))) (by have := hF.1; omega)) (h := fun q _ => ?_)
    refine al (h := fun b2 => ?_)
    first | refine stA (h := ?_) | refine stEA (h := ?_)
    refine nl (h := ?_)
    refine q_seq (h := ?_)
    refine sq (h := ?_)
    refine rg (h := ?_)
    refine WL.y (hy := (by first | exact ldA | exact ldEA)) (h := ?_)
    refine WL.y (hy := (by first | exact ldA | exact ldEA)) (h := ?_)
    refine cl0 (hc := fun w hS => C_card_Sure f cf xs x q.1 n q.2 w (hS.get (by repeat (first | exact Rds.ro | exact Rds.own | apply Rds.there))) hn (fun hc => by have := (hF.2 hc).m; omega)) (h := ?_)
    refine WL.y (hy := mv) (h := ?_)
    refine WL.y (hy := ex) (h := ?_)
    refine WL.y (hy := ex) (h := ?_)
    refine WL.y (hy := asg) (h := ?_)
    refine WL.y (hy := asg) (h := ?_)
    refine nl (h := ?_)
    refine q_seq (h := ?_)
    refine sq (h := ?_)
    refine rg (h := ?_)
    refine WL.y (hy := (by first | exact ldA | exact ldEA)) (h := ?_)
    refine WL.y (hy := (by first | exact ldA | exact ldEA)) (h := ?_)
    refine cl0 (hc := fun w hS => C_ref3_Sure f cf xs x A n c w (hS.get (by repeat (first | exact Rds.ro | exact Rds.own | apply Rds.there))) hn (fun hc => (hF.2 hc).m)) (h := ?_)
    refine WL.y (hy := mv) (h := ?_)
    refine WL.y (hy := ex) (h := ?_)
    refine WL.y (hy := ex) (h := ?_)
    refine WL.y (hy := asg) (h := ?_)
    refine WL.y (hy := asg) (h := ?_)
    refine nl (h := ?_)
    refine q_seq (h := ?_)
    refine sq (h := ?_)
    refine rg (h := ?_)
    refine WL.y (hy := (by first | exact ldA | exact ldEA)) (h := ?_)
    refine cl0 (hc := fun w hS => C_card_Fewest f cf xs q.1 n q.2 w (hS.get (by repeat (first | exact Rds.ro | exact Rds.own | apply Rds.there))) hn (fun hc => ⟨(hF.2 hc).n, (hF.2 hc).m⟩)) (h := ?_)
    refine WL.y (hy := mv) (h := ?_)
    refine WL.y (hy := ex) (h := ?_)
    refine WL.y (hy := ex) (h := ?_)
    refine WL.y (hy := asg) (h := ?_)
    refine WL.y (hy := asg) (h := ?_)
    refine nl (h := ?_)
    refine q_seq (h := ?_)
    refine sq (h := ?_)
    refine rg (h := ?_)
    refine WL.y (hy := (by first | exact ldA | exact ldEA)) (h := ?_)
    refine cl0 (hc := fun w hS => C_ref3_Fewest f cf xs A n c w (hS.get (by repeat (first | exact Rds.ro | exact Rds.own | apply Rds.there))) hn (fun hc => (hF.2 hc).m)) (h := ?_)
    refine WL.y (hy := mv) (h := ?_)
    refine WL.y (hy := ex) (h := ?_)
    refine WL.y (hy := ex) (h := ?_)
    refine WL.y (hy := asg) (h := ?_)
    refine WL.y (hy := asg) (h := ?_)
    refine nl (h := ?_)
    refine q_seq (h := ?_)
    refine sq (h := ?_)
    refine rg (h := ?_)
    refine WL.y (hy := mv) (h := ?_)
    refine WL.y (hy := mv) (h := ?_)
    refine WL.y (hy := eqlB) (h := ?_)
    refine WL.y (hy := mv) (h := ?_)
    apply brAnd 4 44 48 (by exact rfl)
    · intro hb1
      refine un (h := ?_)
      refine WL.y (hy := mv) (h := ?_)
      refine un (h := ?_)
      refine WL.y (hy := mv) (h := ?_)
      refine un (h := ?_)
      refine WL.y (hy := eql) (h := ?_)
      refine WL.y (hy := (by first | exact pkT | exact pkF)) (h := ?_)
      exact mg (by repeat (first | exact trivial | refine ⟨rfl, ?_⟩ | refine ⟨by rw [hb1]; rfl, ?_⟩)) (by repeat (first | exact SubL.nil | (apply SubL.cons; (repeat (first | exact At.here | apply At.there))) | exact SubL.refl _ | apply SubL.skip))
    · intro hb1
      repeat (first | refine un (h := ?_) | refine sk (h := ?_) | refine WL.y (hy := pkF) (h := ?_) | refine WL.y (hy := pkT) (h := ?_))
      exact mg (by repeat (first | exact trivial | refine ⟨rfl, ?_⟩ | refine ⟨by rw [hb1]; rfl, ?_⟩)) (by repeat (first | exact SubL.nil | (apply SubL.cons; (repeat (first | exact At.here | apply At.there))) | exact SubL.refl _ | apply SubL.skip))
    refine WL.y (hy := mv) (h := ?_)
    apply brAnd 4 49 53 (by exact rfl)
    · intro hb2
      refine un (h := ?_)
      refine WL.y (hy := mv) (h := ?_)
      refine un (h := ?_)
      refine WL.y (hy := mv) (h := ?_)
      refine un (h := ?_)
      refine WL.y (hy := eql) (h := ?_)
      refine WL.y (hy := (by first | exact pkT | exact pkF)) (h := ?_)
      exact mg (by repeat (first | exact trivial | refine ⟨rfl, ?_⟩ | refine ⟨by rw [hb2]; rfl, ?_⟩)) (by repeat (first | exact SubL.nil | (apply SubL.cons; (repeat (first | exact At.here | apply At.there))) | exact SubL.refl _ | apply SubL.skip))
    · intro hb2
      repeat (first | refine un (h := ?_) | refine sk (h := ?_) | refine WL.y (hy := pkF) (h := ?_) | refine WL.y (hy := pkT) (h := ?_))
      exact mg (by repeat (first | exact trivial | refine ⟨rfl, ?_⟩ | refine ⟨by rw [hb2]; rfl, ?_⟩)) (by repeat (first | exact SubL.nil | (apply SubL.cons; (repeat (first | exact At.here | apply At.there))) | exact SubL.refl _ | apply SubL.skip))
    refine WL.y (hy := mv) (h := ?_)
    apply brAnd 4 54 58 (by exact rfl)
    · intro hb3
      refine un (h := ?_)
      refine WL.y (hy := mv) (h := ?_)
      refine un (h := ?_)
      refine WL.y (hy := mv) (h := ?_)
      refine un (h := ?_)
      refine WL.y (hy := eql) (h := ?_)
      refine WL.y (hy := (by first | exact pkT | exact pkF)) (h := ?_)
      exact mg (by repeat (first | exact trivial | refine ⟨rfl, ?_⟩ | refine ⟨by rw [hb3]; rfl, ?_⟩)) (by repeat (first | exact SubL.nil | (apply SubL.cons; (repeat (first | exact At.here | apply At.there))) | exact SubL.refl _ | apply SubL.skip))
    · intro hb3
      repeat (first | refine un (h := ?_) | refine sk (h := ?_) | refine WL.y (hy := pkF) (h := ?_) | refine WL.y (hy := pkT) (h := ?_))
      exact mg (by repeat (first | exact trivial | refine ⟨rfl, ?_⟩ | refine ⟨by rw [hb3]; rfl, ?_⟩)) (by repeat (first | exact SubL.nil | (apply SubL.cons; (repeat (first | exact At.here | apply At.there))) | exact SubL.refl _ | apply SubL.skip))
    refine WL.y (hy := mv) (h := ?_)
    apply brAnd 2 59 61 (by exact rfl)
    · intro hb4
      refine un (h := ?_)
      refine cl0 (hc := fun w hS => C_law3_works w) (h := ?_)
      refine WL.y (hy := (by first | exact pkT | exact pkF)) (h := ?_)
      exact mg (by repeat (first | exact trivial | refine ⟨rfl, ?_⟩ | refine ⟨by rw [hb4]; rfl, ?_⟩)) (by repeat (first | exact SubL.nil | (apply SubL.cons; (repeat (first | exact At.here | apply At.there))) | exact SubL.refl _ | apply SubL.skip))
    · intro hb4
      repeat (first | refine un (h := ?_) | refine sk (h := ?_) | refine WL.y (hy := pkF) (h := ?_) | refine WL.y (hy := pkT) (h := ?_))
      exact mg (by repeat (first | exact trivial | refine ⟨rfl, ?_⟩ | refine ⟨by rw [hb4]; rfl, ?_⟩)) (by repeat (first | exact SubL.nil | (apply SubL.cons; (repeat (first | exact At.here | apply At.there))) | exact SubL.refl _ | apply SubL.skip))
    refine WL.y (hy := asg) (h := ?_)
    refine WL.cut (by repeat (first | exact Cut.nil | apply Cut.hit | apply Cut.miss (by exact rfl))) ?_
    refine nl (h := ?_)
    refine q_seq (h := ?_)
    refine rtn (h := ?_)
    refine q_ret (hR := ?_)
    first
      | exact fun w hS => ⟨rfl, hS.sub (by repeat (first | exact SubL.nil | (apply SubL.cons; (repeat (first | exact At.here | apply At.there))) | exact SubL.refl _ | apply SubL.skip))⟩
      | exact fun w hS => ⟨by simp [resV], hS.sub (by repeat (first | exact SubL.nil | (apply SubL.cons; (repeat (first | exact At.here | apply At.there))) | exact SubL.refl _ | apply SubL.skip))⟩
end Go.Proofs.YtpejgebcmhmpaaaGreat
