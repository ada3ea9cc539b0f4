/- The law of all rates. -/
import Derived.Test.YtbcclgfobiholaaGW
import Derived.Test.YtbcclgfobiholaaK39
namespace Go.Proofs.Ytbcclgfobiholaa
open Go Go.RowKit

section
variable {P : Program} {Q : Exit → Act → World → Prop} {n : Nat} {D : List Deferred} {l : Env} {w0 : World} {L : List Ent} {F : Fence}
theorem rnL {X : Type} {I : X → Prop} {le : X → Env} {Le : X → List Ent} {μ : X → Nat} {x : X} (x' : X) (hs : Sub (le x') l) (hL : SubL (Le x') L) (hμ : μ x' < μ x) (hI : I x') :
    WQ F P (Exit.then (LI I le Le μ n D w0 x) Q) .normal n D l w0 L := rn x' hI hμ hs hL
end
structure WZ where
  (j : Nat) (e0 e1 nv kn : Bool)
abbrev wL (q : Qu) (a : QA) (x : Ask) (lo hi tl th : Int) (k : Nat) (b0 b1 b2 b3 b4 : Nat) (e0 e1 : Bool) : List Ent := [.blk b0 27 (q.cells a), .blk b1 47 [.int .i64 x.rate, .int .i64 x.minute, .int .i64 x.id], .blk b2 23 [.int .i64 lo, .int .i64 hi], .blk b3 23 [.int .i64 tl, .int .i64 th], .blk b4 62 [.bool e0, .bool e1, .bool (orTo (pP q x.minute tl) k), .bool (orTo (pP q x.minute th) k)], .ro a.gA 4 q.gs.length (encPt q.gs), .ro a.fA 2 q.fs.length (encF q.fs)]
set_option maxRecDepth 100000 in
set_option maxHeartbeats 8000000 in
theorem K_GateWithin (q : Qu) (a : QA) (x : Ask) (w : World) (h : QRd w q a) : C0 Try.prog 11 [q.val a, x.val] w (.bool true) := by
  obtain ⟨hg, hf, hgn, hfn⟩ := h
  refine ⟨en Try.func11 Try.ntmps11 (((St.init w).share (e := .ro a.gA 4 q.gs.length (encPt q.gs)) hg rfl rfl rfl).share (e := .ro a.fA 2 q.fs.length (encF q.fs)) hf rfl rfl rfl) (h := fun F => ?_)⟩
  refine sq (h := ?_)
  refine rg (h := ?_)
  refine bxA (h := fun b0 => ?_)
  refine bxA (h := fun b1 => ?_)
  refine WL.y (hy := asg) (h := ?_)
  refine nl (h := ?_)
  refine q_seq (h := ?_)
  refine sq (h := ?_)
  refine sq (h := ?_)
  refine rg (h := ?_)
  refine WL.y (hy := (by first | exact ldA | exact ldEA)) (h := ?_)
  refine WL.y (hy := (by first | exact fa | exact faE)) (h := ?_)
  refine WL.y (hy := (by first | exact ld | exact ldE)) (h := ?_)
  refine cl0 (hc := fun w hS => C_law11_ready q a x.rate w ⟨hS.get, hS.get, hgn, hfn⟩) (h := ?_)
  refine WL.y (hy := notB) (h := ?_)
  refine WL.y (hy := mv) (h := ?_)
  apply brOr 4 22 26 (by exact rfl)
  · intro hb0
    refine un (h := ?_)
    refine WL.y (hy := (by first | exact fa | exact faE)) (h := ?_)
    refine un (h := ?_)
    refine WL.y (hy := (by first | exact ld | exact ldE)) (h := ?_)
    refine un (h := ?_)
    refine WL.y (hy := lss) (h := ?_)
    refine WL.y (hy := (by first | exact pkT | exact pkF)) (h := ?_)
    exact mg (by repeat (first | exact trivial | refine ⟨rfl, ?_⟩ | refine ⟨by rw [hb0]; rfl, ?_⟩)) (by repeat (first | exact SubL.nil | (apply SubL.cons; (repeat (first | exact At.here | apply At.there))) | exact SubL.refl _ | apply SubL.skip))
  · intro hb0
    repeat (first | refine un (h := ?_) | refine sk (h := ?_) | refine WL.y (hy := pkF) (h := ?_) | refine WL.y (hy := pkT) (h := ?_))
    exact mg (by repeat (first | exact trivial | refine ⟨rfl, ?_⟩ | refine ⟨by rw [hb0]; rfl, ?_⟩)) (by repeat (first | exact SubL.nil | (apply SubL.cons; (repeat (first | exact At.here | apply At.there))) | exact SubL.refl _ | apply SubL.skip))
  refine WL.y (hy := mv) (h := ?_)
  apply brOr 4 27 31 (by exact rfl)
  · intro hb1
    refine un (h := ?_)
    refine WL.y (hy := (by first | exact fa | exact faE)) (h := ?_)
    refine un (h := ?_)
    refine WL.y (hy := (by first | exact ld | exact ldE)) (h := ?_)
    refine un (h := ?_)
    refine WL.y (hy := gtr) (h := ?_)
    refine WL.y (hy := (by first | exact pkT | exact pkF)) (h := ?_)
    exact mg (by repeat (first | exact trivial | refine ⟨rfl, ?_⟩ | refine ⟨by rw [hb1]; rfl, ?_⟩)) (by repeat (first | exact SubL.nil | (apply SubL.cons; (repeat (first | exact At.here | apply At.there))) | exact SubL.refl _ | apply SubL.skip))
  · intro hb1
    repeat (first | refine un (h := ?_) | refine sk (h := ?_) | refine WL.y (hy := pkF) (h := ?_) | refine WL.y (hy := pkT) (h := ?_))
    exact mg (by repeat (first | exact trivial | refine ⟨rfl, ?_⟩ | refine ⟨by rw [hb1]; rfl, ?_⟩)) (by repeat (first | exact SubL.nil | (apply SubL.cons; (repeat (first | exact At.here | apply At.there))) | exact SubL.refl _ | apply SubL.skip))
  refine nl (h := ?_)
  refine q_seq (h := ?_)
  refine cd (by exact rfl) (fun h2 => ?_) (fun h2 => ?_)
  · skip
    refine sq (h := ?_)
    refine rg (h := ?_)
    refine cl0 (hc := fun w hS => C_law11_works w) (h := ?_)
    refine WL.y (hy := asg) (h := ?_)
    refine nl (h := ?_)
    refine q_seq (h := ?_)
    refine rtn (h := ?_)
    refine q_then_ret (h := ?_)
    refine q_ret (hR := ?_)
    exact fun w hS => ⟨rfl, hS.sub (by repeat (first | exact SubL.nil | (apply SubL.cons; (repeat (first | exact At.here | apply At.there))) | exact SubL.refl _ | apply SubL.skip))⟩
  · skip
    obtain ⟨hrd, hm0, hm1⟩ : rdyV q x.rate = true ∧ 0 ≤ x.minute ∧ x.minute ≤ 1440 := by
      simp only [Bool.or_eq_false_iff, Bool.not_eq_false', decide_eq_false_iff_not] at h2
      exact ⟨h2.1.1, by omega, by omega⟩
    have hR := rdy_ok hrd
    have hq := hR.o
    have hqr := hq.r
    have hgl := hq.g
    have hn6 := hR.n
    have hSr := sure_ok hR.b x.id
    have hnR : (nR q : Int) = q.hi - q.lo + 1 := by unfold nR; omega
    have hgr := grp_rng q.gs x.id
    obtain ⟨hT1, hT2⟩ := insTo_spec (q := q) x.minute (nR q)
    have hI : insP q x.minute = ⟨(insTo q x.minute (nR q)).1, (insTo q x.minute (nR q)).2, 0⟩ := by
      have : isT x.minute = true := win_iff.2 ⟨hm0, hm1⟩
      rw [insP, hR.b, this]; rfl
    generalize hi0 : grpI q.gs x.id = i0 at hgr
    generalize hP : sureP q x.id = P
    rw [hP] at hSr
    generalize hTl : (insTo q x.minute (nR q)).1 = tl at hT1 hT2 hI
    generalize hTh : (insTo q x.minute (nR q)).2 = th at hT1 hT2 hI
    refine skp (h := ?_)
    refine q_seq (h := ?_)
    refine sq (h := ?_)
    refine rg (h := ?_)
    refine WL.y (hy := (by first | exact ldA | exact ldEA)) (h := ?_)
    refine WL.y (hy := (by first | exact fa | exact faE)) (h := ?_)
    refine WL.y (hy := (by first | exact ld | exact ldE)) (h := ?_)
    refine cl0 (hc := fun w hS => C_gate_Sure q a x.id (fun _ => by omega) w ⟨hS.get, hS.get, hgn, hfn⟩) (h := ?_)
    rw [hP]
    refine WL.y (hy := mv) (h := ?_)
    refine WL.y (hy := ex) (h := ?_)
    refine WL.y (hy := ex) (h := ?_)
    refine al (h := fun b2 => ?_)
    first | refine stA (h := ?_) | refine stEA (h := ?_)
    refine WL.y (hy := asg) (h := ?_)
    refine nl (h := ?_)
    refine q_seq (h := ?_)
    refine sq (h := ?_)
    refine rg (h := ?_)
    refine WL.y (hy := (by first | exact ldA | exact ldEA)) (h := ?_)
    refine WL.y (hy := (by first | exact fa | exact faE)) (h := ?_)
    refine WL.y (hy := (by first | exact ld | exact ldE)) (h := ?_)
    refine cl0 (hc := fun w hS => C_gate_Inside q a x.minute (fun _ => by omega) w ⟨hS.get, hS.get, hgn, hfn⟩) (h := ?_)
    rw [hI]
    refine WL.y (hy := mv) (h := ?_)
    refine WL.y (hy := ex) (h := ?_)
    refine WL.y (hy := ex) (h := ?_)
    refine al (h := fun b3 => ?_)
    first | refine stA (h := ?_) | refine stEA (h := ?_)
    refine WL.y (hy := asg) (h := ?_)
    refine nl (h := ?_)
    refine q_seq (h := ?_)
    refine sq (h := ?_)
    refine sq (h := ?_)
    refine rg (h := ?_)
    refine WL.y (hy := mv) (h := ?_)
    refine WL.y (hy := (Yd.fl (neq) (by rfl))) (h := ?_)
    refine nl (h := ?_)
    refine q_seq (h := ?_)
    refine cdF (h := ?_)
    refine skp (h := ?_)
    refine q_seq (h := ?_)
    refine sq (h := ?_)
    refine rg (h := ?_)
    refine al (h := fun b4 => ?_)
    refine nl (h := ?_)
    refine q_seq (h := ?_)
    refine sq (h := ?_)
    refine rg (h := ?_)
    refine WL.y (hy := asg) (h := ?_)
    refine WL.y (hy := asg) (h := ?_)
    refine nl (h := ?_)
    refine q_seq (h := ?_)
    refine sq (h := ?_)
    refine sq (h := ?_)
    refine rg (h := ?_)
    refine WL.y (hy := (by first | exact fa | exact faE)) (h := ?_)
    refine WL.y (hy := (by first | exact fa | exact faE)) (h := ?_)
    refine WL.y (hy := (by first | exact ld | exact ldE)) (h := ?_)
    refine WL.y (hy := asg) (h := ?_)
    refine nl (h := ?_)
    refine q_seq (h := ?_)
    refine bk (h := ?_)
    refine lp (X := IZ) (I := fun z => z.k ≤ nR q) (le := fun z => [(2, .pointer (some ⟨b0, 0, none⟩)), (3, .pointer (some ⟨b1, 0, none⟩)), (5, .pointer (some ⟨b2, 0, none⟩)), (6, .int .i64 P.err), (7, .pointer (some ⟨b3, 0, none⟩)), (9, .pointer (some ⟨b4, 0, none⟩)), (10, .bool (orTo (pN q i0) z.k)), (11, .bool (orTo (pK i0) z.k)), (12, .int .i64 (q.lo + z.k))]) (Le := fun z => wL q a x P.low P.high tl th z.k b0 b1 b2 b3 b4 (orTo (pE q i0 P.low) z.k) (orTo (pE q i0 P.high) z.k)) (μ := fun z => nR q - z.k) ⟨0⟩ (Nat.zero_le _) (by repeat (first | exact trivial | refine ⟨rfl, ?_⟩ | refine ⟨by show some (Value.int .i64 q.lo) = some (Value.int .i64 (q.lo + ((0 : Nat) : Int))); congr 2; omega, ?_⟩)) (by repeat (first | exact SubL.nil | (apply SubL.cons; (repeat (first | exact At.here | apply At.there))) | exact SubL.refl _ | apply SubL.skip)) (fun z hz => ?_)
    refine sq (h := ?_)
    refine sq (h := ?_)
    refine rg (h := ?_)
    refine WL.y (hy := mv) (h := ?_)
    refine WL.y (hy := (by first | exact fa | exact faE)) (h := ?_)
    refine WL.y (hy := (by first | exact fa | exact faE)) (h := ?_)
    refine WL.y (hy := (by first | exact ld | exact ldE)) (h := ?_)
    refine WL.y (hy := leq) (h := ?_)
    refine nl (h := ?_)
    refine q_seq (h := ?_)
    refine cd (by exact rfl) (fun h4 => ?_) (fun h4 => ?_)
    · skip
      have hkn : z.k < nR q := by simp only [decide_eq_true_eq] at h4; omega
      have hR2 : Rdy q (q.lo + z.k) := ⟨hR.b, hR.o, hR.n, hR.p, hR.d, by omega⟩
      have hrl := runV_len hq (rate := q.lo + z.k) (more := 0) (by omega)
      refine skp (h := ?_)
      refine q_seq (h := ?_)
      refine sq (h := ?_)
      refine bk (h := ?_)
      refine sq (h := ?_)
      refine rg (h := ?_)
      refine WL.y (hy := (by first | exact ldA | exact ldEA)) (h := ?_)
      refine WL.y (hy := mv) (h := ?_)
      refine cl (hc := fun w hS => C_gate_Enter2 q a (q.lo + z.k) hR2 w ⟨hS.get, hS.get, hgn, hfn⟩) (h := fun x0 _ => ?_)
      refine WL.y (hy := mv) (h := ?_)
      refine WL.y (hy := ex) (h := ?_)
      refine WL.y (hy := ex) (h := ?_)
      refine WL.y (hy := asg) (h := ?_)
      refine WL.y (hy := asg) (h := ?_)
      refine nl (h := ?_)
      refine q_seq (h := ?_)
      refine sq (h := ?_)
      refine sq (h := ?_)
      refine rg (h := ?_)
      refine WL.y (hy := mv) (h := ?_)
      refine WL.y (hy := (Yd.fl (neq) (by rfl))) (h := ?_)
      refine WL.y (hy := mv) (h := ?_)
      refine un (h := ?_)
      refine WL.y (hy := mv) (h := ?_)
      refine un (h := ?_)
      refine WL.y (hy := lenS) (h := ?_)
      refine un (h := ?_)
      refine WL.y (hy := (by first | exact fa | exact faE)) (h := ?_)
      refine un (h := ?_)
      refine WL.y (hy := (by first | exact ld | exact ldE)) (h := ?_)
      refine un (h := ?_)
      refine WL.y (hy := lenS) (h := ?_)
      refine un (h := ?_)
      refine WL.y (hy := (Yd.fl (neq) (by simp))) (h := ?_)
      refine WL.y (hy := (by first | exact pkT | exact pkF)) (h := ?_)
      refine nl (h := ?_)
      refine q_seq (h := ?_)
      refine cdF (h := ?_)
      refine skp (h := ?_)
      refine q_seq (h := ?_)
      refine sq (h := ?_)
      refine rg (h := ?_)
      refine WL.y (hy := asg) (h := ?_)
      refine nl (h := ?_)
      refine q_seq (h := ?_)
      refine sq (h := ?_)
      refine sq (h := ?_)
      refine rg (h := ?_)
      refine WL.y (hy := asg) (h := ?_)
      refine nl (h := ?_)
      refine q_seq (h := ?_)
      refine bk (h := ?_)
      refine lp (X := WZ) (I := fun y => y.j ≤ q.gs.length ∧ y.e0 = (orTo (pE q i0 P.low) z.k || (dnV i0 y.j && decide (inI q 0 z.k i0 = P.low))) ∧ y.e1 = (orTo (pE q i0 P.high) z.k || (dnV i0 y.j && decide (inI q 0 z.k i0 = P.high))) ∧ y.nv = (orTo (pN q i0) z.k || (dnV i0 y.j && decide (inI q 0 z.k i0 < 0))) ∧ y.kn = (orTo (pK i0) z.k || (dnV i0 y.j && true))) (le := fun y => [(2, .pointer (some ⟨b0, 0, none⟩)), (3, .pointer (some ⟨b1, 0, none⟩)), (5, .pointer (some ⟨b2, 0, none⟩)), (6, .int .i64 P.err), (7, .pointer (some ⟨b3, 0, none⟩)), (9, .pointer (some ⟨b4, 0, none⟩)), (10, .bool y.nv), (11, .bool y.kn), (12, .int .i64 (q.lo + z.k)), (13, .slice x0.1 q.gs.length x0.2), (15, .int .i64 (insNTo q.gs x.minute (runV q (q.lo + z.k) 0) y.j)), (16, .int .i64 y.j)]) (Le := fun y => .own x0.1 x0.2 3 1 q.gs.length (enI (runV q (q.lo + z.k) 0)) :: wL q a x P.low P.high tl th z.k b0 b1 b2 b3 b4 y.e0 y.e1) (μ := fun y => q.gs.length - y.j) ⟨0, orTo (pE q i0 P.low) z.k, orTo (pE q i0 P.high) z.k, orTo (pN q i0) z.k, orTo (pK i0) z.k⟩ (by
        have hd0 : dnV i0 0 = false := by unfold dnV; rw [Bool.eq_false_iff]; simp only [ne_eq, Bool.and_eq_true, decide_eq_true_eq]; omega
        refine ⟨Nat.zero_le _, ?_, ?_, ?_, ?_⟩ <;> simp only [hd0, Bool.false_and, Bool.or_false]) (by repeat (first | exact trivial | refine ⟨rfl, ?_⟩)) (by repeat (first | exact SubL.nil | (apply SubL.cons; (repeat (first | exact At.here | apply At.there))) | exact SubL.refl _ | apply SubL.skip)) (fun y hy => ?_)
      obtain ⟨hy1, hy2, hy3, hy4, hy5⟩ := hy
      refine sq (h := ?_)
      refine sq (h := ?_)
      refine rg (h := ?_)
      refine WL.y (hy := mv) (h := ?_)
      refine WL.y (hy := mv) (h := ?_)
      refine WL.y (hy := lenS) (h := ?_)
      refine WL.y (hy := lss) (h := ?_)
      refine nl (h := ?_)
      refine q_seq (h := ?_)
      refine cd (by exact rfl) (fun h6 => ?_) (fun h6 => ?_)
      · skip
        have hjn : y.j < q.gs.length := by simp only [decide_eq_true_eq] at h6; omega
        obtain ⟨g, hg1⟩ : ∃ g, q.gs[y.j]? = some g := ⟨_, List.getElem?_eq_getElem hjn⟩
        have hge := encPt_at hg1
        have hgp := pt_rng (hq.pt g (List.mem_of_getElem? hg1))
        obtain ⟨v, hv⟩ : ∃ v, (runV q (q.lo + z.k) 0)[y.j]? = some v := ⟨_, List.getElem?_eq_getElem (by omega)⟩
        have hve := enI_at hv
        have hst1 := insNTo_succ (gs := q.gs) (u := x.minute) hv
        rw [sz_eq hg1] at hst1
        have hir := insNTo_rng hq x.minute (runV q (q.lo + z.k) 0) (by omega) y.j (by omega)
        have hgu := grp_uniq hq hg1 x.id
        rw [hi0] at hgu
        refine skp (h := ?_)
        refine q_seq (h := ?_)
        refine sq (h := ?_)
        refine bk (h := ?_)
        refine ct (X := Unit) (fun _ => True) (fun _ => [(2, .pointer (some ⟨b0, 0, none⟩)), (3, .pointer (some ⟨b1, 0, none⟩)), (5, .pointer (some ⟨b2, 0, none⟩)), (6, .int .i64 P.err), (7, .pointer (some ⟨b3, 0, none⟩)), (9, .pointer (some ⟨b4, 0, none⟩)), (10, .bool y.nv), (11, .bool y.kn), (12, .int .i64 (q.lo + z.k)), (13, .slice x0.1 q.gs.length x0.2), (15, .int .i64 (insNTo q.gs x.minute (runV q (q.lo + z.k) 0) (y.j + 1))), (16, .int .i64 y.j)]) (fun _ => .own x0.1 x0.2 3 1 q.gs.length (enI (runV q (q.lo + z.k) 0)) :: wL q a x P.low P.high tl th z.k b0 b1 b2 b3 b4 y.e0 y.e1) (h1 := ?_) (h2 := ?_)
        · skip
          refine sq (h := ?_)
          refine rgD0 (by kernel_rfl) (h := ?_)
          refine tk 0 (hy := mv) (h := ?_)
          refine tk 1 (hy := mv) (h := ?_)
          refine tk 2 (hy := ix (A := x0.1)) (h := ?_)
          refine tk 3 (hy := ldE (A := x0.1) (hk := hve)) (h := ?_)
          refine tk 4 (hy := geq) (h := ?_)
          refine tk 5 (hy := mv) (h := ?_)
          refine brH (g := 86) (by exact rfl) (fun hb7 => ?_) (fun hb7 => ?_)
          · skip
            refine tk 6 (hy := mv) (h := ?_)
            refine tk 7 (hy := mv) (h := ?_)
            refine tk 8 (hy := ix (A := x0.1)) (h := ?_)
            refine tk 9 (hy := ldE (A := x0.1) (hk := hve)) (h := ?_)
            refine tk 10 (hy := (by first | exact fa | exact faE)) (h := ?_)
            refine tk 11 (hy := (by first | exact ld | exact ldE)) (h := ?_)
            refine tk 12 (hy := leq) (h := ?_)
            refine tk 13 (hy := (by first | exact pkT | exact pkF)) (h := ?_)
            refine dn (h := ?_)
            refine q_seq (h := ?_)
            refine cd (by exact rfl) (fun h8 => ?_) (fun h8 => ?_)
            · skip
              have hst : insNTo q.gs x.minute (runV q (q.lo + z.k) 0) (y.j + 1) = insNTo q.gs x.minute (runV q (q.lo + z.k) 0) y.j + g.size := by
                have hw : win v 0 x.minute = true := by
                  rw [win_iff]
                  simp only [decide_eq_true_eq, decide_eq_false_iff_not] at *
                  omega
                rw [hst1, hw]; rfl
              refine rg (h := ?_)
              refine WL.y (hy := mv) (h := ?_)
              refine WL.y (hy := (by first | exact fa | exact faE)) (h := ?_)
              refine WL.y (hy := (by first | exact ld | exact ldE)) (h := ?_)
              refine WL.y (hy := mv) (h := ?_)
              refine WL.y (hy := ix (A := a.gA)) (h := ?_)
              refine WL.y (hy := (by first | exact fa | exact faE)) (h := ?_)
              refine WL.y (hy := ldE (A := a.gA) (hk := hge)) (h := ?_)
              refine WL.y (hy := addI) (h := ?_)
              refine WL.y (hy := asg) (h := ?_)
              refine nl (h := ?_)
              exact ctn () trivial (by rw [hst]; repeat (first | exact trivial | refine ⟨rfl, ?_⟩)) (by repeat (first | exact SubL.nil | (apply SubL.cons; (repeat (first | exact At.here | apply At.there))) | exact SubL.refl _ | apply SubL.skip))
            · skip
              have hst : insNTo q.gs x.minute (runV q (q.lo + z.k) 0) (y.j + 1) = insNTo q.gs x.minute (runV q (q.lo + z.k) 0) y.j := by
                have hw : win v 0 x.minute = false := by
                  rw [← Bool.not_eq_true, win_iff]
                  simp only [decide_eq_true_eq, decide_eq_false_iff_not] at *
                  omega
                rw [hst1, hw]; simp
              refine skp (h := ?_)
              exact ctn () trivial (by rw [hst]; repeat (first | exact trivial | refine ⟨rfl, ?_⟩)) (by repeat (first | exact SubL.nil | (apply SubL.cons; (repeat (first | exact At.here | apply At.there))) | exact SubL.refl _ | apply SubL.skip))
          · skip
            refine tkS 6 (h := ?_)
            refine tkS 7 (h := ?_)
            refine tkS 8 (h := ?_)
            refine tkS 9 (h := ?_)
            refine tkS 10 (h := ?_)
            refine tkS 11 (h := ?_)
            refine tkS 12 (h := ?_)
            refine tk 13 (hy := (by first | exact pkT | exact pkF)) (h := ?_)
            refine dn (h := ?_)
            refine q_seq (h := ?_)
            refine cdF (h := ?_)
            have hst : insNTo q.gs x.minute (runV q (q.lo + z.k) 0) (y.j + 1) = insNTo q.gs x.minute (runV q (q.lo + z.k) 0) y.j := by
              have hw : win v 0 x.minute = false := by
                rw [← Bool.not_eq_true, win_iff]
                simp only [decide_eq_true_eq, decide_eq_false_iff_not] at *
                omega
              rw [hst1, hw]; simp
            refine skp (h := ?_)
            exact ctn () trivial (by rw [hst]; repeat (first | exact trivial | refine ⟨rfl, ?_⟩)) (by repeat (first | exact SubL.nil | (apply SubL.cons; (repeat (first | exact At.here | apply At.there))) | exact SubL.refl _ | apply SubL.skip))
        rintro ⟨⟩ -
        refine sq (h := ?_)
        refine sq (h := ?_)
        refine rgD0 (by kernel_rfl) (h := ?_)
        refine tk 0 (hy := (by first | exact fa | exact faE)) (h := ?_)
        refine tk 1 (hy := (by first | exact ld | exact ldE)) (h := ?_)
        refine tk 2 (hy := mv) (h := ?_)
        refine tk 3 (hy := ix (A := a.gA)) (h := ?_)
        refine tk 4 (hy := (by first | exact fa | exact faE)) (h := ?_)
        refine tk 5 (hy := ldE (A := a.gA) (hk := hge)) (h := ?_)
        refine tk 6 (hy := (by first | exact fa | exact faE)) (h := ?_)
        refine tk 7 (hy := (by first | exact ld | exact ldE)) (h := ?_)
        refine tk 8 (hy := neq) (h := ?_)
        refine dn (h := ?_)
        refine q_seq (h := ?_)
        refine cd (by exact rfl) (fun h10 => ?_) (fun h10 => ?_)
        · skip
          have hne : i0 ≠ (y.j : Int) := by
            rw [hgu] at h10; simpa using h10
          refine et (h := ?_)
          refine q_then_exit (h := ?_)
          refine q_blk_hit (h := ?_)
          refine q_seq (h := ?_)
          refine rg (h := ?_)
          refine WL.y (hy := mv) (h := ?_)
          refine WL.y (hy := addI) (h := ?_)
          refine WL.y (hy := asg) (h := ?_)
          refine nl (h := ?_)
          first
            | (refine rn (x := y) ⟨y.j + 1, y.e0, y.e1, y.nv, y.kn⟩ ⟨by dsimp only; omega, dn_skip hy2 hne, dn_skip hy3 hne, dn_skip hy4 hne, dn_skip hy5 hne⟩ (by dsimp only; omega) (by repeat (first | exact trivial | refine ⟨rfl, ?_⟩)) (by repeat (first | exact SubL.nil | (apply SubL.cons; (repeat (first | exact At.here | apply At.there))) | exact SubL.refl _ | apply SubL.skip)))
            | (refine rnL (x := y) ⟨y.j + 1, _, _, y.nv || decide (v < 0), true⟩ (by repeat (first | exact trivial | refine ⟨rfl, ?_⟩)) (by repeat (first | exact SubL.nil | (apply SubL.cons; (repeat (first | exact At.here | apply At.there))) | exact SubL.refl _ | apply SubL.skip)) (by dsimp only; omega) ⟨by dsimp only; omega, dn_step (c' := decide (v = P.low)) hy2 hie (by rw [hvi]) ?_, dn_step (c' := decide (v = P.high)) hy3 hie (by rw [hvi]) ?_, dn_step (c' := decide (v < 0)) hy4 hie (by rw [hvi]) rfl, dn_step (c' := true) hy5 hie rfl (by rw [Bool.or_true])⟩
               · exact he
               · first | (rw [show y.e1 = true by assumption]; rfl) | (rw [show y.e1 = false by assumption]; rfl))
        · skip
          have hie : i0 = (y.j : Int) := by
            rw [hgu] at h10; simpa using h10
          have hvi : inI q 0 z.k i0 = v := by
            show inAt (runV q (q.lo + z.k) 0) i0 = v
            rw [hie]; exact inAt_get hv
          have hrg := fun he => hSr.rng (by rw [hi0]; omega) he z.k hkn
          rw [hi0, hvi] at hrg
          refine skp (h := ?_)
          refine q_seq (h := ?_)
          refine sq (h := ?_)
          refine rg (h := ?_)
          refine WL.y (hy := asg) (h := ?_)
          refine nl (h := ?_)
          refine q_seq (h := ?_)
          refine sq (h := ?_)
          refine WC.sub (l' := [(2, .pointer (some ⟨b0, 0, none⟩)), (3, .pointer (some ⟨b1, 0, none⟩)), (5, .pointer (some ⟨b2, 0, none⟩)), (6, .int .i64 P.err), (7, .pointer (some ⟨b3, 0, none⟩)), (9, .pointer (some ⟨b4, 0, none⟩)), (10, .bool y.nv), (11, .bool true), (12, .int .i64 (q.lo + z.k)), (13, .slice x0.1 q.gs.length x0.2), (15, .int .i64 (insNTo q.gs x.minute (runV q (q.lo + z.k) 0) (y.j + 1))), (16, .int .i64 y.j)]) (by repeat (first | exact trivial | refine ⟨rfl, ?_⟩)) ?_
          refine rg (h := ?_)
          refine WL.y (hy := mv) (h := ?_)
          refine WL.y (hy := mv) (h := ?_)
          apply brOr 6 113 119 (by exact rfl)
          · intro hb11
            refine un (h := ?_)
            refine WL.y (hy := mv) (h := ?_)
            refine un (h := ?_)
            refine WL.y (hy := mv) (h := ?_)
            refine un (h := ?_)
            refine WL.y (hy := ix (A := x0.1)) (h := ?_)
            refine un (h := ?_)
            refine WL.y (hy := ldE (A := x0.1) (hk := hve)) (h := ?_)
            refine un (h := ?_)
            refine WL.y (hy := lss) (h := ?_)
            refine WL.y (hy := (by first | exact pkT | exact pkF)) (h := ?_)
            exact mg (by repeat (first | exact trivial | refine ⟨rfl, ?_⟩ | refine ⟨by rw [hb11]; rfl, ?_⟩)) (by repeat (first | exact SubL.nil | (apply SubL.cons; (repeat (first | exact At.here | apply At.there))) | exact SubL.refl _ | apply SubL.skip))
          · intro hb11
            repeat (first | refine un (h := ?_) | refine sk (h := ?_) | refine WL.y (hy := pkF) (h := ?_) | refine WL.y (hy := pkT) (h := ?_))
            exact mg (by repeat (first | exact trivial | refine ⟨rfl, ?_⟩ | refine ⟨by rw [hb11]; rfl, ?_⟩)) (by repeat (first | exact SubL.nil | (apply SubL.cons; (repeat (first | exact At.here | apply At.there))) | exact SubL.refl _ | apply SubL.skip))
          refine WL.y (hy := asg) (h := ?_)
          refine nl (h := ?_)
          refine q_seq (h := ?_)
          refine ct (X := Unit) (fun _ => True) (fun _ => [(2, .pointer (some ⟨b0, 0, none⟩)), (3, .pointer (some ⟨b1, 0, none⟩)), (5, .pointer (some ⟨b2, 0, none⟩)), (6, .int .i64 P.err), (7, .pointer (some ⟨b3, 0, none⟩)), (9, .pointer (some ⟨b4, 0, none⟩)), (10, .bool (y.nv || decide (v < 0))), (11, .bool true), (12, .int .i64 (q.lo + z.k)), (13, .slice x0.1 q.gs.length x0.2), (15, .int .i64 (insNTo q.gs x.minute (runV q (q.lo + z.k) 0) (y.j + 1))), (16, .int .i64 y.j)]) (fun _ => .own x0.1 x0.2 3 1 q.gs.length (enI (runV q (q.lo + z.k) 0)) :: wL q a x P.low P.high tl th z.k b0 b1 b2 b3 b4 y.e0 y.e1) (h1 := ?_) (h2 := ?_)
          · skip
            refine sq (h := ?_)
            refine rgD0 (by kernel_rfl) (h := ?_)
            refine tk 0 (hy := mv) (h := ?_)
            refine tk 1 (hy := eql) (h := ?_)
            refine tk 2 (hy := mv) (h := ?_)
            refine brH (g := 122) (by exact rfl) (fun hb12 => ?_) (fun hb12 => ?_)
            · skip
              have q0 : P.err = 0 := of_decide_eq_true hb12
              have q1 := hrg q0
              refine tk 3 (hy := mv) (h := ?_)
              refine tk 4 (hy := mv) (h := ?_)
              refine tk 5 (hy := ix (A := x0.1)) (h := ?_)
              refine tk 6 (hy := ldE (A := x0.1) (hk := hve)) (h := ?_)
              refine tk 7 (hy := (by first | exact fa | exact faE)) (h := ?_)
              refine tk 8 (hy := (by first | exact ld | exact ldE)) (h := ?_)
              refine tk 9 (hy := (Yd.fl (lss) (by refine decide_eq_false ?_; omega))) (h := ?_)
              refine tk 10 (hy := mv) (h := ?_)
              refine tk 11 (hy := mv) (h := ?_)
              refine tk 12 (hy := mv) (h := ?_)
              refine tk 13 (hy := ix (A := x0.1)) (h := ?_)
              refine tk 14 (hy := ldE (A := x0.1) (hk := hve)) (h := ?_)
              refine tk 15 (hy := (by first | exact fa | exact faE)) (h := ?_)
              refine tk 16 (hy := (by first | exact ld | exact ldE)) (h := ?_)
              refine tk 17 (hy := (Yd.fl (gtr) (by refine decide_eq_false ?_; omega))) (h := ?_)
              refine tk 18 (hy := (by first | exact pkT | exact pkF)) (h := ?_)
              refine tk 19 (hy := (by first | exact pkT | exact pkF)) (h := ?_)
              refine dn (h := ?_)
              refine q_seq (h := ?_)
              refine cdF (h := ?_)
              refine skp (h := ?_)
              exact ctn () trivial (by repeat (first | exact trivial | refine ⟨rfl, ?_⟩)) (by repeat (first | exact SubL.nil | (apply SubL.cons; (repeat (first | exact At.here | apply At.there))) | exact SubL.refl _ | apply SubL.skip))
            · skip
              refine tkS 3 (h := ?_)
              refine tkS 4 (h := ?_)
              refine tkS 5 (h := ?_)
              refine tkS 6 (h := ?_)
              refine tkS 7 (h := ?_)
              refine tkS 8 (h := ?_)
              refine tkS 9 (h := ?_)
              refine tkS 10 (h := ?_)
              refine tkS 11 (h := ?_)
              refine tkS 12 (h := ?_)
              refine tkS 13 (h := ?_)
              refine tkS 14 (h := ?_)
              refine tkS 15 (h := ?_)
              refine tkS 16 (h := ?_)
              refine tkS 17 (h := ?_)
              refine tkS 18 (h := ?_)
              refine tk 19 (hy := (by first | exact pkT | exact pkF)) (h := ?_)
              refine dn (h := ?_)
              refine q_seq (h := ?_)
              refine cdF (h := ?_)
              refine skp (h := ?_)
              exact ctn () trivial (by repeat (first | exact trivial | refine ⟨rfl, ?_⟩)) (by repeat (first | exact SubL.nil | (apply SubL.cons; (repeat (first | exact At.here | apply At.there))) | exact SubL.refl _ | apply SubL.skip))
          rintro ⟨⟩ -
          refine ct (X := Bool) (fun e => e = (y.e0 || decide (v = P.low))) (fun _ => [(2, .pointer (some ⟨b0, 0, none⟩)), (3, .pointer (some ⟨b1, 0, none⟩)), (5, .pointer (some ⟨b2, 0, none⟩)), (6, .int .i64 P.err), (7, .pointer (some ⟨b3, 0, none⟩)), (9, .pointer (some ⟨b4, 0, none⟩)), (10, .bool (y.nv || decide (v < 0))), (11, .bool true), (12, .int .i64 (q.lo + z.k)), (13, .slice x0.1 q.gs.length x0.2), (15, .int .i64 (insNTo q.gs x.minute (runV q (q.lo + z.k) 0) (y.j + 1))), (16, .int .i64 y.j)]) (fun e => .own x0.1 x0.2 3 1 q.gs.length (enI (runV q (q.lo + z.k) 0)) :: wL q a x P.low P.high tl th z.k b0 b1 b2 b3 b4 e y.e1) (h1 := ?_) (h2 := ?_)
          · skip
            refine rgD (by kernel_rfl) [(12, .blk b4 62 [.bool y.e0, .bool y.e1, .bool (orTo (pP q x.minute tl) z.k), .bool (orTo (pP q x.minute th) z.k)]), (1000000, .blk b2 23 [.int .i64 P.low, .int .i64 P.high]), (1000000, .own x0.1 x0.2 3 1 q.gs.length (enI (runV q (q.lo + z.k) 0)))] (by repeat (first | exact HS.nil | (apply HS.keep; (repeat (first | exact At.here | apply At.there))) | (apply HS.ro; (repeat (first | exact Rds.ro | exact Rds.own | apply Rds.there))))) (h := ?_)
            refine tk 0 (hy := ixA) (h := ?_)
            refine tk 1 (hy := (by first | exact ld | exact ldE)) (h := ?_)
            refine tk 2 (hy := mv) (h := ?_)
            refine brH (g := 142) (by exact rfl) (fun hb15 => ?_) (fun hb15 => ?_)
            · skip
              refine tkS 3 (h := ?_)
              refine tkS 4 (h := ?_)
              refine tkS 5 (h := ?_)
              refine tkS 6 (h := ?_)
              refine tkS 7 (h := ?_)
              refine tkS 8 (h := ?_)
              refine tkS 9 (h := ?_)
              refine tk 10 (hy := (by first | exact pkT | exact pkF)) (h := ?_)
              refine tk 11 (hy := ixA) (h := ?_)
              refine one 12 (h := ?_)
              first | refine st (h := ?_) | refine stE (h := ?_)
              refine nx (h := ?_)
              refine dn (h := ?_)
              first
                | exact ctn true (by rw [show y.e0 = true by assumption]; rfl) (by repeat (first | exact trivial | refine ⟨rfl, ?_⟩)) (by repeat (first | exact SubL.nil | (apply SubL.cons; (repeat (first | exact At.here | apply At.there))) | exact SubL.refl _ | apply SubL.skip))
                | exact ctn (decide (v = P.low)) (by rw [show y.e0 = false by assumption]; rfl) (by repeat (first | exact trivial | refine ⟨rfl, ?_⟩)) (by repeat (first | exact SubL.nil | (apply SubL.cons; (repeat (first | exact At.here | apply At.there))) | exact SubL.refl _ | apply SubL.skip))
            · skip
              refine tk 3 (hy := mv) (h := ?_)
              refine tk 4 (hy := mv) (h := ?_)
              refine tk 5 (hy := ix (A := x0.1)) (h := ?_)
              refine tk 6 (hy := ldE (A := x0.1) (hk := hve)) (h := ?_)
              refine tk 7 (hy := (by first | exact fa | exact faE)) (h := ?_)
              refine tk 8 (hy := (by first | exact ld | exact ldE)) (h := ?_)
              refine tk 9 (hy := eql) (h := ?_)
              refine tk 10 (hy := (by first | exact pkT | exact pkF)) (h := ?_)
              refine tk 11 (hy := ixA) (h := ?_)
              refine one 12 (h := ?_)
              first | refine st (h := ?_) | refine stE (h := ?_)
              refine nx (h := ?_)
              refine dn (h := ?_)
              first
                | exact ctn true (by rw [show y.e0 = true by assumption]; rfl) (by repeat (first | exact trivial | refine ⟨rfl, ?_⟩)) (by repeat (first | exact SubL.nil | (apply SubL.cons; (repeat (first | exact At.here | apply At.there))) | exact SubL.refl _ | apply SubL.skip))
                | exact ctn (decide (v = P.low)) (by rw [show y.e0 = false by assumption]; rfl) (by repeat (first | exact trivial | refine ⟨rfl, ?_⟩)) (by repeat (first | exact SubL.nil | (apply SubL.cons; (repeat (first | exact At.here | apply At.there))) | exact SubL.refl _ | apply SubL.skip))
          intro e he
          refine rgD (by kernel_rfl) [(12, .blk b4 62 [.bool e, .bool y.e1, .bool (orTo (pP q x.minute tl) z.k), .bool (orTo (pP q x.minute th) z.k)]), (1000000, .blk b2 23 [.int .i64 P.low, .int .i64 P.high]), (1000000, .own x0.1 x0.2 3 1 q.gs.length (enI (runV q (q.lo + z.k) 0)))] (by repeat (first | exact HS.nil | (apply HS.keep; (repeat (first | exact At.here | apply At.there))) | (apply HS.ro; (repeat (first | exact Rds.ro | exact Rds.own | apply Rds.there))))) (h := ?_)
          refine tk 0 (hy := ixA) (h := ?_)
          refine tk 1 (hy := (by first | exact ld | exact ldE)) (h := ?_)
          refine tk 2 (hy := mv) (h := ?_)
          refine brH (g := 154) (by exact rfl) (fun hb16 => ?_) (fun hb16 => ?_)
          · skip
            refine tkS 3 (h := ?_)
            refine tkS 4 (h := ?_)
            refine tkS 5 (h := ?_)
            refine tkS 6 (h := ?_)
            refine tkS 7 (h := ?_)
            refine tkS 8 (h := ?_)
            refine tkS 9 (h := ?_)
            refine tk 10 (hy := (by first | exact pkT | exact pkF)) (h := ?_)
            refine tk 11 (hy := ixA) (h := ?_)
            refine one 12 (h := ?_)
            first | refine st (h := ?_) | refine stE (h := ?_)
            refine nx (h := ?_)
            refine dn (h := ?_)
            refine q_blk_norm (h := ?_)
            refine q_seq (h := ?_)
            refine rg (h := ?_)
            refine WL.y (hy := mv) (h := ?_)
            refine WL.y (hy := addI) (h := ?_)
            refine WL.y (hy := asg) (h := ?_)
            refine nl (h := ?_)
            first
              | (refine rn (x := y) ⟨y.j + 1, y.e0, y.e1, y.nv, y.kn⟩ ⟨by dsimp only; omega, dn_skip hy2 hne, dn_skip hy3 hne, dn_skip hy4 hne, dn_skip hy5 hne⟩ (by dsimp only; omega) (by repeat (first | exact trivial | refine ⟨rfl, ?_⟩)) (by repeat (first | exact SubL.nil | (apply SubL.cons; (repeat (first | exact At.here | apply At.there))) | exact SubL.refl _ | apply SubL.skip)))
              | (refine rnL (x := y) ⟨y.j + 1, _, _, y.nv || decide (v < 0), true⟩ (by repeat (first | exact trivial | refine ⟨rfl, ?_⟩)) (by repeat (first | exact SubL.nil | (apply SubL.cons; (repeat (first | exact At.here | apply At.there))) | exact SubL.refl _ | apply SubL.skip)) (by dsimp only; omega) ⟨by dsimp only; omega, dn_step (c' := decide (v = P.low)) hy2 hie (by rw [hvi]) ?_, dn_step (c' := decide (v = P.high)) hy3 hie (by rw [hvi]) ?_, dn_step (c' := decide (v < 0)) hy4 hie (by rw [hvi]) rfl, dn_step (c' := true) hy5 hie rfl (by rw [Bool.or_true])⟩
                 · exact he
                 · first | (rw [show y.e1 = true by assumption]; rfl) | (rw [show y.e1 = false by assumption]; rfl))
          · skip
            refine tk 3 (hy := mv) (h := ?_)
            refine tk 4 (hy := mv) (h := ?_)
            refine tk 5 (hy := ix (A := x0.1)) (h := ?_)
            refine tk 6 (hy := ldE (A := x0.1) (hk := hve)) (h := ?_)
            refine tk 7 (hy := (by first | exact fa | exact faE)) (h := ?_)
            refine tk 8 (hy := (by first | exact ld | exact ldE)) (h := ?_)
            refine tk 9 (hy := eql) (h := ?_)
            refine tk 10 (hy := (by first | exact pkT | exact pkF)) (h := ?_)
            refine tk 11 (hy := ixA) (h := ?_)
            refine one 12 (h := ?_)
            first | refine st (h := ?_) | refine stE (h := ?_)
            refine nx (h := ?_)
            refine dn (h := ?_)
            refine q_blk_norm (h := ?_)
            refine q_seq (h := ?_)
            refine rg (h := ?_)
            refine WL.y (hy := mv) (h := ?_)
            refine WL.y (hy := addI) (h := ?_)
            refine WL.y (hy := asg) (h := ?_)
            refine nl (h := ?_)
            first
              | (refine rn (x := y) ⟨y.j + 1, y.e0, y.e1, y.nv, y.kn⟩ ⟨by dsimp only; omega, dn_skip hy2 hne, dn_skip hy3 hne, dn_skip hy4 hne, dn_skip hy5 hne⟩ (by dsimp only; omega) (by repeat (first | exact trivial | refine ⟨rfl, ?_⟩)) (by repeat (first | exact SubL.nil | (apply SubL.cons; (repeat (first | exact At.here | apply At.there))) | exact SubL.refl _ | apply SubL.skip)))
              | (refine rnL (x := y) ⟨y.j + 1, _, _, y.nv || decide (v < 0), true⟩ (by repeat (first | exact trivial | refine ⟨rfl, ?_⟩)) (by repeat (first | exact SubL.nil | (apply SubL.cons; (repeat (first | exact At.here | apply At.there))) | exact SubL.refl _ | apply SubL.skip)) (by dsimp only; omega) ⟨by dsimp only; omega, dn_step (c' := decide (v = P.low)) hy2 hie (by rw [hvi]) ?_, dn_step (c' := decide (v = P.high)) hy3 hie (by rw [hvi]) ?_, dn_step (c' := decide (v < 0)) hy4 hie (by rw [hvi]) rfl, dn_step (c' := true) hy5 hie rfl (by rw [Bool.or_true])⟩
                 · exact he
                 · first | (rw [show y.e1 = true by assumption]; rfl) | (rw [show y.e1 = false by assumption]; rfl))
      · skip
        have hjn : y.j = q.gs.length := by simp only [decide_eq_false_iff_not] at h6; omega
        have hNv : insNTo q.gs x.minute (runV q (q.lo + z.k) 0) y.j = insN q x.minute (runV q (q.lo + z.k) 0) := by rw [insN, hrl, hjn]
        rw [hjn] at hy2 hy3 hy4 hy5
        have E0 : y.e0 = orTo (pE q i0 P.low) (z.k + 1) := dn_end hy2 (by omega)
        have E1 : y.e1 = orTo (pE q i0 P.high) (z.k + 1) := dn_end hy3 (by omega)
        have E2 : y.nv = orTo (pN q i0) (z.k + 1) := dn_end hy4 (by omega)
        have E3 : y.kn = orTo (pK i0) (z.k + 1) := by
          have := dn_end (c := true) hy5 (by omega)
          rw [Bool.and_true] at this
          exact this
        rw [hNv, E0, E1, E2, E3]
        have hNr := hT1 z.k hkn
        have hP0 : orTo (pP q x.minute tl) (z.k + 1) = (orTo (pP q x.minute tl) z.k || decide (insN q x.minute (runV q (q.lo + z.k) 0) = tl)) := rfl
        have hP1 : orTo (pP q x.minute th) (z.k + 1) = (orTo (pP q x.minute th) z.k || decide (insN q x.minute (runV q (q.lo + z.k) 0) = th)) := rfl
        refine et (h := ?_)
        refine q_then_exit (h := ?_)
        refine q_then_exit (h := ?_)
        refine q_blk_hit (h := ?_)
        refine q_seq (h := ?_)
        refine sq (h := ?_)
        refine sq (h := ?_)
        refine rg (h := ?_)
        refine WL.y (hy := mv) (h := ?_)
        refine WL.y (hy := (by first | exact fa | exact faE)) (h := ?_)
        refine WL.y (hy := (by first | exact ld | exact ldE)) (h := ?_)
        refine WL.y (hy := lss) (h := ?_)
        refine WL.y (hy := mv) (h := ?_)
        apply brOr 5 168 173 (by exact rfl)
        · intro hb17
          refine un (h := ?_)
          refine WL.y (hy := mv) (h := ?_)
          refine un (h := ?_)
          refine WL.y (hy := (by first | exact fa | exact faE)) (h := ?_)
          refine un (h := ?_)
          refine WL.y (hy := (by first | exact ld | exact ldE)) (h := ?_)
          refine un (h := ?_)
          refine WL.y (hy := gtr) (h := ?_)
          refine WL.y (hy := (by first | exact pkT | exact pkF)) (h := ?_)
          exact mg (by repeat (first | exact trivial | refine ⟨rfl, ?_⟩ | refine ⟨by rw [hb17]; rfl, ?_⟩)) (by repeat (first | exact SubL.nil | (apply SubL.cons; (repeat (first | exact At.here | apply At.there))) | exact SubL.refl _ | apply SubL.skip))
        · intro hb17
          repeat (first | refine un (h := ?_) | refine sk (h := ?_) | refine WL.y (hy := pkF) (h := ?_) | refine WL.y (hy := pkT) (h := ?_))
          exact mg (by repeat (first | exact trivial | refine ⟨rfl, ?_⟩ | refine ⟨by rw [hb17]; rfl, ?_⟩)) (by repeat (first | exact SubL.nil | (apply SubL.cons; (repeat (first | exact At.here | apply At.there))) | exact SubL.refl _ | apply SubL.skip))
        refine nl (h := ?_)
        refine q_seq (h := ?_)
        refine cd (by exact rfl) (fun h18 => ?_) (fun h18 => ?_)
        · skip
          exfalso
          simp only [Bool.or_eq_true, decide_eq_true_eq] at h18
          omega
        · skip
          refine skp (h := ?_)
          refine q_seq (h := ?_)
          refine sq (h := ?_)
          refine rg (h := ?_)
          refine WL.y (hy := ixA) (h := ?_)
          refine WL.y (hy := (by first | exact ld | exact ldE)) (h := ?_)
          refine WL.y (hy := mv) (h := ?_)
          apply brOr 5 176 181 (by exact rfl)
          · intro hb19
            refine un (h := ?_)
            refine WL.y (hy := mv) (h := ?_)
            refine un (h := ?_)
            refine WL.y (hy := (by first | exact fa | exact faE)) (h := ?_)
            refine un (h := ?_)
            refine WL.y (hy := (by first | exact ld | exact ldE)) (h := ?_)
            refine un (h := ?_)
            refine WL.y (hy := eql) (h := ?_)
            refine WL.y (hy := (by first | exact pkT | exact pkF)) (h := ?_)
            exact mg (by repeat (first | exact trivial | refine ⟨rfl, ?_⟩ | refine ⟨by rw [hb19]; rfl, ?_⟩)) (by repeat (first | exact SubL.nil | (apply SubL.cons; (repeat (first | exact At.here | apply At.there))) | exact SubL.refl _ | apply SubL.skip))
          · intro hb19
            repeat (first | refine un (h := ?_) | refine sk (h := ?_) | refine WL.y (hy := pkF) (h := ?_) | refine WL.y (hy := pkT) (h := ?_))
            exact mg (by repeat (first | exact trivial | refine ⟨rfl, ?_⟩ | refine ⟨by rw [hb19]; rfl, ?_⟩)) (by repeat (first | exact SubL.nil | (apply SubL.cons; (repeat (first | exact At.here | apply At.there))) | exact SubL.refl _ | apply SubL.skip))
          refine WL.y (hy := ixA) (h := ?_)
          first | refine st (h := ?_) | refine stE (h := ?_)
          refine nl (h := ?_)
          refine q_seq (h := ?_)
          refine rg (h := ?_)
          refine WL.y (hy := ixA) (h := ?_)
          refine WL.y (hy := (by first | exact ld | exact ldE)) (h := ?_)
          refine WL.y (hy := mv) (h := ?_)
          apply brOr 5 185 190 (by exact rfl)
          · intro hb20
            refine un (h := ?_)
            refine WL.y (hy := mv) (h := ?_)
            refine un (h := ?_)
            refine WL.y (hy := (by first | exact fa | exact faE)) (h := ?_)
            refine un (h := ?_)
            refine WL.y (hy := (by first | exact ld | exact ldE)) (h := ?_)
            refine un (h := ?_)
            refine WL.y (hy := eql) (h := ?_)
            refine WL.y (hy := (by first | exact pkT | exact pkF)) (h := ?_)
            exact mg (by repeat (first | exact trivial | refine ⟨rfl, ?_⟩ | refine ⟨by rw [hb20]; rfl, ?_⟩)) (by repeat (first | exact SubL.nil | (apply SubL.cons; (repeat (first | exact At.here | apply At.there))) | exact SubL.refl _ | apply SubL.skip))
          · intro hb20
            repeat (first | refine un (h := ?_) | refine sk (h := ?_) | refine WL.y (hy := pkF) (h := ?_) | refine WL.y (hy := pkT) (h := ?_))
            exact mg (by repeat (first | exact trivial | refine ⟨rfl, ?_⟩ | refine ⟨by rw [hb20]; rfl, ?_⟩)) (by repeat (first | exact SubL.nil | (apply SubL.cons; (repeat (first | exact At.here | apply At.there))) | exact SubL.refl _ | apply SubL.skip))
          refine WL.y (hy := ixA) (h := ?_)
          first | refine st (h := ?_) | refine stE (h := ?_)
          refine nl (h := ?_)
          refine q_blk_norm (h := ?_)
          refine q_seq (h := ?_)
          refine rg (h := ?_)
          refine WL.y (hy := mv) (h := ?_)
          refine WL.y (hy := addI) (h := ?_)
          refine WL.y (hy := asg) (h := ?_)
          refine nl (h := ?_)
          refine rn (x := z) ⟨z.k + 1⟩ (by dsimp only; omega) (by dsimp only; omega) (by repeat (first | exact trivial | refine ⟨rfl, ?_⟩ | refine ⟨by show some (Value.int .i64 (q.lo + (z.k : Int) + 1)) = some (Value.int .i64 (q.lo + ((z.k + 1 : Nat) : Int))); congr 2; omega, ?_⟩)) (by dsimp only [wL]; rw [hP0, hP1]; repeat (first | exact SubL.nil | (apply SubL.cons; (repeat (first | exact At.here | apply At.there))) | exact SubL.refl _ | apply SubL.skip))
    · skip
      have hkn : z.k = nR q := by simp only [decide_eq_false_iff_not] at h4; omega
      rw [hkn]
      refine et (h := ?_)
      refine q_then_exit (h := ?_)
      refine q_then_exit (h := ?_)
      refine q_blk_hit (h := ?_)
      refine q_seq (h := ?_)
      refine sq (h := ?_)
      refine sq (h := ?_)
      refine rg (h := ?_)
      refine WL.y (hy := mv) (h := ?_)
      refine WL.y (hy := notB) (h := ?_)
      refine nl (h := ?_)
      refine q_seq (h := ?_)
      refine cd (by exact rfl) (fun h21 => ?_) (fun h21 => ?_)
      · skip
        have hlt : i0 < 0 := by
          rw [Bool.not_eq_true'] at h21
          have := orTo_no h21 0 (by omega)
          simpa [pK] using this
        have hPe : P.err = 1 := hSr.none (by rw [hi0]; exact hlt)
        refine sq (h := ?_)
        refine rg (h := ?_)
        refine WL.y (hy := mv) (h := ?_)
        refine WL.y (hy := (Yd.tr (eql) (by refine decide_eq_true ?_; omega))) (h := ?_)
        refine WL.y (hy := mv) (h := ?_)
        refine un (h := ?_)
        refine cl0 (hc := fun w hS => C_law11_works w) (h := ?_)
        refine WL.y (hy := (by first | exact pkT | exact pkF)) (h := ?_)
        refine WL.y (hy := asg) (h := ?_)
        refine nl (h := ?_)
        refine q_seq (h := ?_)
        refine rtn (h := ?_)
        refine q_then_ret (h := ?_)
        refine q_ret (hR := ?_)
        exact fun w hS => ⟨rfl, hS.sub (by repeat (first | exact SubL.nil | (apply SubL.cons; (repeat (first | exact At.here | apply At.there))) | exact SubL.refl _ | apply SubL.skip))⟩
      · skip
        have hge0 : 0 ≤ i0 := by
          rw [Bool.not_eq_false'] at h21
          obtain ⟨j, _, hj⟩ := orTo_iff.1 h21
          exact of_decide_eq_true hj
        refine skp (h := ?_)
        refine q_seq (h := ?_)
        refine sq (h := ?_)
        refine sq (h := ?_)
        refine rg (h := ?_)
        refine WL.y (hy := mv) (h := ?_)
        refine nl (h := ?_)
        refine q_seq (h := ?_)
        refine cd (by exact rfl) (fun h22 => ?_) (fun h22 => ?_)
        · skip
          have hPe : P.err = 3 := hSr.never (by rw [hi0]; exact hge0) (by rw [hi0]; exact h22)
          refine sq (h := ?_)
          refine rg (h := ?_)
          refine WL.y (hy := mv) (h := ?_)
          refine WL.y (hy := (Yd.tr (eql) (by refine decide_eq_true ?_; omega))) (h := ?_)
          refine WL.y (hy := mv) (h := ?_)
          refine un (h := ?_)
          refine cl0 (hc := fun w hS => C_law11_works w) (h := ?_)
          refine WL.y (hy := (by first | exact pkT | exact pkF)) (h := ?_)
          refine WL.y (hy := asg) (h := ?_)
          refine nl (h := ?_)
          refine q_seq (h := ?_)
          refine rtn (h := ?_)
          refine q_then_ret (h := ?_)
          refine q_ret (hR := ?_)
          exact fun w hS => ⟨rfl, hS.sub (by repeat (first | exact SubL.nil | (apply SubL.cons; (repeat (first | exact At.here | apply At.there))) | exact SubL.refl _ | apply SubL.skip))⟩
        · skip
          have hPo := hSr.ok (by rw [hi0]; exact hge0) (by rw [hi0]; exact h22)
          rw [hi0] at hPo
          obtain ⟨hPe, hE0, hE1⟩ := hPo
          obtain ⟨⟨i2, i3, i4⟩, i5, i6, i7⟩ := hT2 (by omega)
          have hE2 : orTo (pP q x.minute tl) (nR q) = true := orTo_iff.2 ⟨i2, i3, decide_eq_true i4⟩
          have hE3 : orTo (pP q x.minute th) (nR q) = true := orTo_iff.2 ⟨i5, i6, decide_eq_true i7⟩
          rw [hE0, hE1]
          dsimp only [wL]
          rw [hE2, hE3]
          refine skp (h := ?_)
          refine q_seq (h := ?_)
          refine sq (h := ?_)
          refine rg (h := ?_)
          refine WL.y (hy := mv) (h := ?_)
          refine WL.y (hy := (Yd.tr (eql) (by refine decide_eq_true ?_; omega))) (h := ?_)
          refine WL.y (hy := mv) (h := ?_)
          refine un (h := ?_)
          refine WL.y (hy := ixA) (h := ?_)
          refine un (h := ?_)
          refine WL.y (hy := (by first | exact ld | exact ldE)) (h := ?_)
          refine WL.y (hy := (by first | exact pkT | exact pkF)) (h := ?_)
          refine WL.y (hy := mv) (h := ?_)
          refine un (h := ?_)
          refine WL.y (hy := ixA) (h := ?_)
          refine un (h := ?_)
          refine WL.y (hy := (by first | exact ld | exact ldE)) (h := ?_)
          refine WL.y (hy := (by first | exact pkT | exact pkF)) (h := ?_)
          refine WL.y (hy := mv) (h := ?_)
          refine un (h := ?_)
          refine WL.y (hy := ixA) (h := ?_)
          refine un (h := ?_)
          refine WL.y (hy := (by first | exact ld | exact ldE)) (h := ?_)
          refine WL.y (hy := (by first | exact pkT | exact pkF)) (h := ?_)
          refine WL.y (hy := mv) (h := ?_)
          refine un (h := ?_)
          refine WL.y (hy := ixA) (h := ?_)
          refine un (h := ?_)
          refine WL.y (hy := (by first | exact ld | exact ldE)) (h := ?_)
          refine WL.y (hy := (by first | exact pkT | exact pkF)) (h := ?_)
          refine WL.y (hy := mv) (h := ?_)
          refine un (h := ?_)
          refine cl0 (hc := fun w hS => C_law11_works w) (h := ?_)
          refine WL.y (hy := (by first | exact pkT | exact pkF)) (h := ?_)
          refine WL.y (hy := asg) (h := ?_)
          refine nl (h := ?_)
          refine q_seq (h := ?_)
          refine rtn (h := ?_)
          refine q_ret (hR := ?_)
          exact fun w hS => ⟨rfl, hS.sub (by repeat (first | exact SubL.nil | (apply SubL.cons; (repeat (first | exact At.here | apply At.there))) | exact SubL.refl _ | apply SubL.skip))⟩
end Go.Proofs.Ytbcclgfobiholaa
