/- Walks of gate, ten: Sure, Inside, Enough. -/
import Derived.Test.YtbcclgfobiholaaG9
namespace Go.Proofs.Ytbcclgfobiholaa
open Go Go.RowKit

/-- A loop whose heap stays as it is. -/
theorem lpC {F : Fence} {P : Program} {Q : Exit → Act → World → Prop} {n : Nat} {D : List Deferred} {l : Env} {w0 : World} {L : List Ent} {X : Type} (I : X → Prop) (le : X → Env) (μ : X → Nat) (x0 : X) {body : Code} (h0 : I x0) (hs : Sub (le x0) l)
    (round : ∀ x, I x → WC F P body (Exit.then (LI I le (fun _ => L) μ n D w0 x) Q) n D (le x) w0 L) : WC F P (.loop body) Q n D l w0 L :=
  lp I le (fun _ => L) μ x0 h0 hs (SubL.refl L) round
structure SpE where
  (low high err : Int)
abbrev SpE.val (s : SpE) : Value := .tuple #[.agg #[.int .i64 s.low, .int .i64 s.high], .int .i64 s.err]
def sureP (q : Qu) (id : Int) : SpE := bif !decide (grpE q id = 0) then ⟨0, 0, grpE q id⟩ else match sureV q (grpI q.gs id) 0 with
  | some s => ⟨s.1, s.2, 0⟩
  | none => ⟨0, 0, 3⟩
theorem grp_ok {q : Qu} {id : Int} (h : grpE q id = 0) : qOk q = true ∧ q.Ok ∧ grpN q id = grpI q.gs id ∧ 0 ≤ grpI q.gs id ∧ grpI q.gs id < q.gs.length := by
  have hN : grpN q id = grpI q.gs id := by rw [grpN, h]; rfl
  unfold grpE at h
  cases hb : qOk q
  · rw [hb] at h; cases h
  · rw [hb] at h
    simp only [Bool.not_true, cond_false] at h
    cases hd : decide (grpI q.gs id < 0)
    · have := of_decide_eq_false hd
      have := grp_rng q.gs id
      exact ⟨rfl, q_ok hb, hN, by omega, by omega⟩
    · rw [hd] at h; cases h
theorem C_gate_Sure (q : Qu) (a : QA) (id : Int) (hn : qOk q = true → q.gs.length ≤ 12) (w : World) (h : QRd w q a) : C0 Try.prog 15 [q.val a, .int .i64 id] w (sureP q id).val := by
  obtain ⟨hg, hf, hgn, hfn⟩ := h
  refine ⟨en Try.func15 Try.ntmps15 (((St.init w).share (e := .ro a.gA 4 q.gs.length (encPt q.gs)) hg rfl rfl rfl).share (e := .ro a.fA 2 q.fs.length (encF q.fs)) hf rfl rfl rfl) (h := fun F => ?_)⟩
  refine sq (h := ?_)
  refine rg (h := ?_)
  refine bxA (h := fun b0 => ?_)
  refine al (h := fun b1 => ?_)
  refine WL.y (hy := asg) (h := ?_)
  refine nl (h := ?_)
  refine q_seq (h := ?_)
  refine sq (h := ?_)
  refine rg (h := ?_)
  refine WL.y (hy := (by first | exact ldA | exact ldEA)) (h := ?_)
  refine WL.y (hy := mv) (h := ?_)
  refine cl0 (hc := fun w hS => C_gate_group q a id w ⟨hS.get, hS.get, hgn, hfn⟩) (h := ?_)
  refine WL.y (hy := mv) (h := ?_)
  refine WL.y (hy := ex) (h := ?_)
  refine WL.y (hy := ex) (h := ?_)
  refine WL.y (hy := asg) (h := ?_)
  refine WL.y (hy := asg) (h := ?_)
  refine nl (h := ?_)
  refine q_seq (h := ?_)
  refine sq (h := ?_)
  refine sq (h := ?_)
  refine rg (h := ?_)
  refine WL.y (hy := mv) (h := ?_)
  refine WL.y (hy := neq) (h := ?_)
  refine nl (h := ?_)
  refine q_seq (h := ?_)
  refine cd (by exact rfl) (fun h0 => ?_) (fun h0 => ?_)
  · skip
    have hE : sureP q id = ⟨0, 0, grpE q id⟩ := by rw [sureP, h0]; rfl
    refine sq (h := ?_)
    refine rg (h := ?_)
    refine WL.y (hy := bd) (h := ?_)
    refine WL.y (hy := mv) (h := ?_)
    first | refine stA (h := ?_) | refine stEA (h := ?_)
    refine WL.y (hy := asg) (h := ?_)
    refine nl (h := ?_)
    refine q_seq (h := ?_)
    refine rtn (h := ?_)
    refine q_then_ret (h := ?_)
    refine q_ret (hR := ?_)
    rw [hE]
    exact fun w hS => ⟨rfl, hS.sub (by repeat (first | exact SubL.nil | (apply SubL.cons; (repeat (first | exact At.here | apply At.there))) | exact SubL.refl _ | apply SubL.skip))⟩
  · skip
    have hge : grpE q id = 0 := by simpa using h0
    obtain ⟨hqb, hq, hN, hi0, hi1⟩ := grp_ok hge
    rw [hN]
    refine skp (h := ?_)
    refine q_seq (h := ?_)
    refine sq (h := ?_)
    refine rg (h := ?_)
    refine WL.y (hy := (by first | exact ldA | exact ldEA)) (h := ?_)
    refine WL.y (hy := mv) (h := ?_)
    refine cl (hc := fun w hS => C_gate_sure q a (grpI q.gs id) 0 hq (hn hqb) ⟨hi0, hi1⟩ (by omega) w ⟨hS.get, hS.get, hgn, hfn⟩) (h := fun x0 hx0 => ?_)
    refine WL.y (hy := mv) (h := ?_)
    refine WL.y (hy := ex) (h := ?_)
    refine WL.y (hy := ex) (h := ?_)
    refine al (h := fun b2 => ?_)
    first | refine stA (h := ?_) | refine stEA (h := ?_)
    refine WL.y (hy := asg) (h := ?_)
    refine nl (h := ?_)
    refine q_seq (h := ?_)
    refine sq (h := ?_)
    refine sq (h := ?_)
    refine rg (h := ?_)
    refine WL.y (hy := mv) (h := ?_)
    refine WL.y (hy := notB) (h := ?_)
    refine nl (h := ?_)
    refine q_seq (h := ?_)
    refine cd (by exact rfl) (fun h1 => ?_) (fun h1 => ?_)
    · skip
      have hE : sureP q id = ⟨0, 0, 3⟩ := by
        have h1 : sureV q (grpI q.gs id) 0 = none := by cases hs : sureV q (grpI q.gs id) 0 with | none => rfl | some s => rw [hs] at h1; cases h1
        rw [sureP, hge, h1]; rfl
      refine sq (h := ?_)
      refine rg (h := ?_)
      refine WL.y (hy := bd) (h := ?_)
      first | refine stA (h := ?_) | refine stEA (h := ?_)
      refine WL.y (hy := asg) (h := ?_)
      refine nl (h := ?_)
      refine q_seq (h := ?_)
      refine rtn (h := ?_)
      refine q_then_ret (h := ?_)
      refine q_ret (hR := ?_)
      rw [hE]
      exact fun w hS => ⟨rfl, hS.sub (by repeat (first | exact SubL.nil | (apply SubL.cons; (repeat (first | exact At.here | apply At.there))) | exact SubL.refl _ | apply SubL.skip))⟩
    · skip
      obtain ⟨s, hs⟩ : ∃ s, sureV q (grpI q.gs id) 0 = some s := by cases hs : sureV q (grpI q.gs id) 0 with | none => (rw [hs] at h1; cases h1) | some s => exact ⟨s, rfl⟩
      obtain rfl := hx0 s hs
      have hE : sureP q id = ⟨x0.1, x0.2, 0⟩ := by rw [sureP, hge, hs]; rfl
      refine skp (h := ?_)
      refine q_seq (h := ?_)
      refine sq (h := ?_)
      refine rg (h := ?_)
      refine WL.y (hy := (by first | exact ldA | exact ldEA)) (h := ?_)
      first | refine stA (h := ?_) | refine stEA (h := ?_)
      refine WL.y (hy := asg) (h := ?_)
      refine nl (h := ?_)
      refine q_seq (h := ?_)
      refine rtn (h := ?_)
      refine q_ret (hR := ?_)
      rw [hE]
      exact fun w hS => ⟨rfl, hS.sub (by repeat (first | exact SubL.nil | (apply SubL.cons; (repeat (first | exact At.here | apply At.there))) | exact SubL.refl _ | apply SubL.skip))⟩

/-! #### inside -/
def insNTo (gs : List Pt) (minute : Int) (inn : List Int) : Nat → Int
  | 0 => 0
  | k + 1 => match inn[k]? with
    | some x => insNTo gs minute inn k + (bif win x 0 minute then szV gs k else 0)
    | none => insNTo gs minute inn k
def insN (q : Qu) (minute : Int) (inn : List Int) : Int := insNTo q.gs minute inn inn.length
def insTo (q : Qu) (minute : Int) : Nat → Int × Int
  | 0 => (0, 0)
  | k + 1 => bif decide (k = 0) then (insN q minute (runV q (q.lo + k) 0), insN q minute (runV q (q.lo + k) 0)) else (min (insTo q minute k).1 (insN q minute (runV q (q.lo + k) 0)), max (insTo q minute k).2 (insN q minute (runV q (q.lo + k) 0)))
def insP (q : Qu) (minute : Int) : SpE := bif !qOk q then ⟨0, 0, 110⟩ else bif !isT minute then ⟨0, 0, 1⟩ else ⟨(insTo q minute (nR q)).1, (insTo q minute (nR q)).2, 0⟩
theorem insNTo_rng {q : Qu} (hq : q.Ok) (minute : Int) (inn : List Int) (hl : inn.length ≤ q.gs.length) : ∀ k : Nat, k ≤ inn.length → 0 ≤ insNTo q.gs minute inn k ∧ insNTo q.gs minute inn k ≤ 20 * k
  | 0, _ => by simp [insNTo]
  | k + 1, hk => by
    have ih := insNTo_rng hq minute inn hl k (by omega)
    have hx : inn[k]? = some inn[k] := List.getElem?_eq_getElem (by omega)
    have hs := szV_rng hq (i := (k : Int)) (by omega)
    rw [insNTo, hx]
    show 0 ≤ insNTo q.gs minute inn k + (bif win inn[k] 0 minute then szV q.gs k else 0) ∧ insNTo q.gs minute inn k + (bif win inn[k] 0 minute then szV q.gs k else 0) ≤ _
    cases win inn[k] 0 minute <;> simp only [cond_true, cond_false] <;> omega
structure IZ where
  (k : Nat)
set_option maxHeartbeats 2000000 in
theorem C_gate_Inside (q : Qu) (a : QA) (minute : Int) (hn : qOk q = true → q.gs.length ≤ 12) (w : World) (h : QRd w q a) : C0 Try.prog 33 [q.val a, .int .i64 minute] w (insP q minute).val := by
  obtain ⟨hg, hf, hgn, hfn⟩ := h
  refine ⟨enM Try.func33 Try.ntmps33 (((St.init w).share (e := .ro a.gA 4 q.gs.length (encPt q.gs)) hg rfl rfl rfl).share (e := .ro a.fA 2 q.fs.length (encF q.fs)) hf rfl rfl rfl) (h := ?_)⟩
  refine sq (h := ?_)
  refine rg (h := ?_)
  refine bxA (h := fun b0 => ?_)
  refine bx (h := fun b1 => ?_)
  refine al (h := fun b2 => ?_)
  refine WL.y (hy := asg) (h := ?_)
  refine nl (h := ?_)
  refine q_seq (h := ?_)
  refine sq (h := ?_)
  refine sq (h := ?_)
  refine rg (h := ?_)
  refine WL.y (hy := (by first | exact ldA | exact ldEA)) (h := ?_)
  refine cl0 (hc := fun w hS => C_gate_Check q a w ⟨hS.get, hS.get, hgn, hfn⟩) (h := ?_)
  refine WL.y (hy := asg) (h := ?_)
  refine nl (h := ?_)
  refine q_seq (h := ?_)
  refine sq (h := ?_)
  refine rg (h := ?_)
  refine WL.y (hy := mv) (h := ?_)
  refine WL.y (hy := neq) (h := ?_)
  refine nl (h := ?_)
  refine q_seq (h := ?_)
  refine cd (by exact rfl) (fun h0 => ?_) (fun h0 => ?_)
  · skip
    have hb : qOk q = false := chkQ_no h0
    have hE : insP q minute = ⟨0, 0, chkQ q⟩ := by rw [insP, chkQ, hb]; rfl
    refine sq (h := ?_)
    refine rg (h := ?_)
    refine WL.y (hy := bd) (h := ?_)
    refine WL.y (hy := mv) (h := ?_)
    first | refine stA (h := ?_) | refine stEA (h := ?_)
    refine WL.y (hy := asg) (h := ?_)
    refine nl (h := ?_)
    refine q_seq (h := ?_)
    refine rtn (h := ?_)
    refine q_then_ret (h := ?_)
    refine q_retM0 (hR := ?_)
    rw [hE]
    exact fun w hS => ⟨rfl, hS.sub (by repeat (first | exact SubL.nil | (apply SubL.cons; (repeat (first | exact At.here | apply At.there))) | exact SubL.refl _ | apply SubL.skip))⟩
  · skip
    obtain ⟨hq, hqb⟩ := chkQ_ok h0
    have hgl40 := hq.g
    refine skp (h := ?_)
    refine q_seq (h := ?_)
    refine sq (h := ?_)
    refine sq (h := ?_)
    refine rg (h := ?_)
    refine WL.y (hy := (by first | exact ld | exact ldE)) (h := ?_)
    refine cl0 (hc := fun w hS => C_gate_isTime ..) (h := ?_)
    refine WL.y (hy := notB) (h := ?_)
    refine nl (h := ?_)
    refine q_seq (h := ?_)
    refine cd (by exact rfl) (fun h1 => ?_) (fun h1 => ?_)
    · skip
      have hE : insP q minute = ⟨0, 0, 1⟩ := by rw [insP, hqb, h1]; rfl
      refine sq (h := ?_)
      refine rg (h := ?_)
      refine WL.y (hy := bd) (h := ?_)
      first | refine stA (h := ?_) | refine stEA (h := ?_)
      refine WL.y (hy := asg) (h := ?_)
      refine nl (h := ?_)
      refine q_seq (h := ?_)
      refine rtn (h := ?_)
      refine q_then_ret (h := ?_)
      refine q_retM0 (hR := ?_)
      rw [hE]
      exact fun w hS => ⟨rfl, hS.sub (by repeat (first | exact SubL.nil | (apply SubL.cons; (repeat (first | exact At.here | apply At.there))) | exact SubL.refl _ | apply SubL.skip))⟩
    · skip
      have htm : (!isT minute) = false := h1
      refine skp (h := ?_)
      refine q_seq (h := ?_)
      refine sq (h := ?_)
      refine rg (h := ?_)
      refine WL.y (hy := bd) (h := ?_)
      refine al (h := fun b3 => ?_)
      refine al (h := fun b4 => ?_)
      first | refine stA (h := ?_) | refine stEA (h := ?_)
      first | refine st (h := ?_) | refine stE (h := ?_)
      refine nl (h := ?_)
      refine q_seq (h := ?_)
      refine sq (h := ?_)
      refine sq (h := ?_)
      refine rg (h := ?_)
      refine WL.y (hy := (by first | exact ldA | exact ldEA)) (h := ?_)
      refine cl (hc := fun w hS => C_gate_rates q a 0 w) (h := fun x0 _ => ?_)
      refine nl (h := ?_)
      refine q_seq (h := ?_)
      refine bk (h := ?_)
      refine rf (f := 60) inferInstance (fun k (z : Int × Int) => z = insTo q minute k) (fun k z => [.blk b3 23 [.int .i64 z.1, .int .i64 z.2], .blk b4 4 [.bool (decide (k = 0))], .blk b1 3 [.int .i64 minute], .blk b0 27 (q.cells a), .blk b2 23 [.int .i64 0, .int .i64 0]]) (fun _ => False) (fun _ => .skip) (fun _ => []) (0, 0) (It_rates q a x0.1 x0.2 0 hq (hn hqb) (by omega)) (by exact rfl) (fun _ _ => rfl) (by rfl) rfl (by repeat (first | exact SubL.nil | (apply SubL.cons; (repeat (first | exact At.here | apply At.there))) | exact SubL.refl _ | apply SubL.skip)) (fun fn tmps lb rb k p z hk hφ hz => ?_) (fun rb z hz => ?_) (fun _ _ h => h.elim)
      · skip
        have hrl := runV_len hq (rate := q.lo + k) (more := 0) (by omega)
        refine rg (h := ?_)
        refine WL.y (hy := asg) (h := ?_)
        refine nl (h := ?_)
        refine bgn (h := ?_)
        refine bk (h := ?_)
        refine sq (h := ?_)
        refine rg (h := ?_)
        refine WL.y (hy := asg) (h := ?_)
        refine nl (h := ?_)
        refine q_seq (h := ?_)
        refine sq (h := ?_)
        refine sq (h := ?_)
        refine rg (h := ?_)
        refine WL.y (hy := mv) (h := ?_)
        refine WL.y (hy := lenS) (h := ?_)
        refine WL.y (hy := mv) (h := ?_)
        refine nl (h := ?_)
        refine q_seq (h := ?_)
        refine bk (h := ?_)
        refine lpC (X := IZ) (I := fun y => y.k ≤ q.gs.length) (le := fun y => [(2, .pointer (some ⟨b0, 0, none⟩)), (3, .pointer (some ⟨b1, 0, none⟩)), (7, .pointer (some ⟨b3, 0, none⟩)), (8, .pointer (some ⟨b4, 0, none⟩)), (10, .int .i64 (insNTo q.gs minute (runV q (q.lo + k) 0) y.k)), (27, .slice p.1 q.gs.length p.2), (28, .int .i64 q.gs.length), (29, .int .i64 y.k)]) (μ := fun y => q.gs.length - y.k) ⟨0⟩ (Nat.zero_le _) (by repeat (first | exact trivial | refine ⟨rfl, ?_⟩)) (fun y hy => ?_)
        refine sq (h := ?_)
        refine rg (h := ?_)
        refine WL.y (hy := lss) (h := ?_)
        refine nl (h := ?_)
        refine q_seq (h := ?_)
        refine sq (h := ?_)
        refine cd (by exact rfl) (fun h2 => ?_) (fun h2 => ?_)
        · skip
          have hyn : y.k < q.gs.length := by simp only [decide_eq_true_eq] at h2; omega
          obtain ⟨x, hx⟩ : ∃ x, (runV q (q.lo + k) 0)[y.k]? = some x := ⟨_, List.getElem?_eq_getElem (by omega)⟩
          have hxe := enI_at hx
          obtain ⟨g, hg1⟩ : ∃ g, q.gs[y.k]? = some g := ⟨_, List.getElem?_eq_getElem hyn⟩
          have hge := encPt_at hg1
          have hszg : szV q.gs y.k = g.size := by rw [szV, Int.toNat_natCast, hg1]
          have hgo := pt_rng (hq.pt g (List.mem_of_getElem? hg1))
          have hnr := insNTo_rng hq minute (runV q (q.lo + k) 0) (by omega) y.k (by omega)
          have hns : insNTo q.gs minute (runV q (q.lo + k) 0) (y.k + 1) = insNTo q.gs minute (runV q (q.lo + k) 0) y.k + (bif win x 0 minute then szV q.gs y.k else 0) := by rw [insNTo, hx]
          refine skp (h := ?_)
          refine q_seq (h := ?_)
          refine sq (h := ?_)
          refine bk (h := ?_)
          refine sq (h := ?_)
          refine rg (h := ?_)
          refine WL.y (hy := mv) (h := ?_)
          refine WL.y (hy := ix (A := p.1) (m := q.gs.length)) (h := ?_)
          refine WL.y (hy := ldE (A := p.1) (hk := hxe)) (h := ?_)
          refine WL.y (hy := asg) (h := ?_)
          refine WL.y (hy := asg) (h := ?_)
          refine nl (h := ?_)
          refine q_seq (h := ?_)
          refine sq (h := ?_)
          refine rg (h := ?_)
          refine WL.y (hy := mv) (h := ?_)
          refine WL.y (hy := (by first | exact ld | exact ldE)) (h := ?_)
          refine cl0 (hc := fun w hS => C_gate_within ..) (h := ?_)
          refine nl (h := ?_)
          refine q_seq (h := ?_)
          refine cd (by exact rfl) (fun h3 => ?_) (fun h3 => ?_)
          · skip
            have hns2 : insNTo q.gs minute (runV q (q.lo + k) 0) (y.k + 1) = insNTo q.gs minute (runV q (q.lo + k) 0) y.k + g.size := by rw [hns, h3, hszg]; rfl
            refine rg (h := ?_)
            refine WL.y (hy := mv) (h := ?_)
            refine WL.y (hy := (by first | exact fa | exact faE)) (h := ?_)
            refine WL.y (hy := (by first | exact ld | exact ldE)) (h := ?_)
            refine WL.y (hy := mv) (h := ?_)
            refine WL.y (hy := ix (A := a.gA) (m := q.gs.length)) (h := ?_)
            refine WL.y (hy := (by first | exact fa | exact faE)) (h := ?_)
            refine WL.y (hy := ldE (A := a.gA) (hk := hge)) (h := ?_)
            refine WL.y (hy := addI) (h := ?_)
            refine WL.y (hy := asg) (h := ?_)
            refine nl (h := ?_)
            refine q_blk_norm (h := ?_)
            refine q_seq (h := ?_)
            refine rg (h := ?_)
            refine WL.y (hy := addI) (h := ?_)
            refine WL.y (hy := mv) (h := ?_)
            refine nl (h := ?_)
            refine rn (x := y) ⟨y.k + 1⟩ (by dsimp only; omega) (by dsimp only; omega) (by dsimp only; rw [hns2]; repeat (first | exact trivial | refine ⟨rfl, ?_⟩)) (SubL.refl _)
          · skip
            have hns2 : insNTo q.gs minute (runV q (q.lo + k) 0) (y.k + 1) = insNTo q.gs minute (runV q (q.lo + k) 0) y.k := by rw [hns, h3]; simp
            refine skp (h := ?_)
            refine q_blk_norm (h := ?_)
            refine q_seq (h := ?_)
            refine rg (h := ?_)
            refine WL.y (hy := addI) (h := ?_)
            refine WL.y (hy := mv) (h := ?_)
            refine nl (h := ?_)
            refine rn (x := y) ⟨y.k + 1⟩ (by dsimp only; omega) (by dsimp only; omega) (by dsimp only; rw [hns2]; repeat (first | exact trivial | refine ⟨rfl, ?_⟩)) (SubL.refl _)
        · skip
          have hyn : y.k = q.gs.length := by simp only [decide_eq_false_iff_not] at h2; omega
          have hNv : insNTo q.gs minute (runV q (q.lo + k) 0) y.k = insN q minute (runV q (q.lo + k) 0) := by rw [insN, hrl, hyn]
          rw [hNv]
          refine et (h := ?_)
          refine q_then_exit (h := ?_)
          refine q_then_exit (h := ?_)
          refine q_blk_hit (h := ?_)
          refine q_seq (h := ?_)
          refine sq (h := ?_)
          refine sq (h := ?_)
          refine rg (h := ?_)
          refine WL.y (hy := (by first | exact ld | exact ldE)) (h := ?_)
          refine nl (h := ?_)
          refine q_seq (h := ?_)
          refine cd (by exact rfl) (fun h4 => ?_) (fun h4 => ?_)
          · skip
            have hnext : insTo q minute (k + 1) = (min (insN q minute (runV q (q.lo + k) 0)) (insN q minute (runV q (q.lo + k) 0)), max (insN q minute (runV q (q.lo + k) 0)) (insN q minute (runV q (q.lo + k) 0))) := by rw [insTo, h4, Int.min_self, Int.max_self]; rfl
            have hfl : decide (k + 1 = 0) = false := rfl
            refine rg (h := ?_)
            refine WL.y (hy := mv) (h := ?_)
            refine WL.y (hy := mv) (h := ?_)
            refine WL.y (hy := bd) (h := ?_)
            first | refine stA (h := ?_) | refine stEA (h := ?_)
            first | refine st (h := ?_) | refine stE (h := ?_)
            refine nl (h := ?_)
            refine q_seq (h := ?_)
            refine rg (h := ?_)
            refine WL.y (hy := (by first | exact fa | exact faE)) (h := ?_)
            refine WL.y (hy := (by first | exact ld | exact ldE)) (h := ?_)
            refine WL.y (hy := mv) (h := ?_)
            refine WL.y (hy := minI) (h := ?_)
            refine WL.y (hy := (by first | exact fa | exact faE)) (h := ?_)
            refine WL.y (hy := (by first | exact ld | exact ldE)) (h := ?_)
            refine WL.y (hy := mv) (h := ?_)
            refine WL.y (hy := maxI) (h := ?_)
            refine WL.y (hy := bd) (h := ?_)
            first | refine stA (h := ?_) | refine stEA (h := ?_)
            refine nl (h := ?_)
            refine q_blk_norm (h := ?_)
            refine rdN (y := insTo q minute (k + 1)) rfl (hs := by rw [hnext]; dsimp only; rw [hfl]; repeat (first | exact SubL.nil | (apply SubL.cons; (repeat (first | exact At.here | apply At.there))) | exact SubL.refl _ | apply SubL.skip))
          · skip
            have hnext : insTo q minute (k + 1) = (min z.1 (insN q minute (runV q (q.lo + k) 0)), max z.2 (insN q minute (runV q (q.lo + k) 0))) := by rw [insTo, h4, hz]; rfl
            have hfl : decide (k + 1 = 0) = decide (k = 0) := by rw [h4]; rfl
            refine skp (h := ?_)
            refine q_seq (h := ?_)
            refine rg (h := ?_)
            refine WL.y (hy := (by first | exact fa | exact faE)) (h := ?_)
            refine WL.y (hy := (by first | exact ld | exact ldE)) (h := ?_)
            refine WL.y (hy := mv) (h := ?_)
            refine WL.y (hy := minI) (h := ?_)
            refine WL.y (hy := (by first | exact fa | exact faE)) (h := ?_)
            refine WL.y (hy := (by first | exact ld | exact ldE)) (h := ?_)
            refine WL.y (hy := mv) (h := ?_)
            refine WL.y (hy := maxI) (h := ?_)
            refine WL.y (hy := bd) (h := ?_)
            first | refine stA (h := ?_) | refine stEA (h := ?_)
            refine nl (h := ?_)
            refine q_blk_norm (h := ?_)
            refine rdN (y := insTo q minute (k + 1)) rfl (hs := by rw [hnext]; dsimp only; rw [hfl]; repeat (first | exact SubL.nil | (apply SubL.cons; (repeat (first | exact At.here | apply At.there))) | exact SubL.refl _ | apply SubL.skip))
      subst hz
      have hE : insP q minute = ⟨(insTo q minute (nR q)).1, (insTo q minute (nR q)).2, 0⟩ := by rw [insP, hqb, htm]; rfl
      refine q_blk_norm (h := ?_)
      refine q_seq (h := ?_)
      refine sq (h := ?_)
      refine rg (h := ?_)
      refine WL.y (hy := (by first | exact ldA | exact ldEA)) (h := ?_)
      first | refine stA (h := ?_) | refine stEA (h := ?_)
      refine WL.y (hy := asg) (h := ?_)
      refine nl (h := ?_)
      refine q_seq (h := ?_)
      refine rtn (h := ?_)
      refine q_retM (hR := ?_)
      rw [hE]
      exact fun w hS => ⟨rfl, hS.sub (by repeat (first | exact SubL.nil | (apply SubL.cons; (repeat (first | exact At.here | apply At.there))) | exact SubL.refl _ | apply SubL.skip))⟩

/-! #### enough -/
def pplTo (gs : List Pt) : Nat → Int
  | 0 => 0
  | k + 1 => match gs[k]? with
    | some g => pplTo gs k + g.size
    | none => pplTo gs k
def pplV (gs : List Pt) : Int := pplTo gs gs.length
theorem pplTo_rng {q : Qu} (hq : q.Ok) : ∀ k : Nat, k ≤ q.gs.length → 0 ≤ pplTo q.gs k ∧ pplTo q.gs k ≤ 20 * k
  | 0, _ => by simp [pplTo]
  | k + 1, hk => by
    have ih := pplTo_rng hq k (by omega)
    have hx : q.gs[k]? = some q.gs[k] := List.getElem?_eq_getElem (by omega)
    have := pt_rng (hq.pt _ (List.mem_of_getElem? hx))
    rw [pplTo, hx]
    simp only
    omega
def enouI (q : Qu) (i : Int) : Int := idxF (fun m => (sureV q i (m : Int)).isSome) (pplV q.gs).toNat.succ
structure PE where
  (n err : Int)
def enouP (q : Qu) (id : Int) : PE := bif !decide (grpE q id = 0) then ⟨0, grpE q id⟩ else bif decide (enouI q (grpI q.gs id) < 0) then ⟨0, 3⟩ else ⟨enouI q (grpI q.gs id), 0⟩
abbrev PE.val (e : PE) : Value := .tuple #[.int .i64 e.n, .int .i64 e.err]
set_option maxHeartbeats 1000000 in
theorem C_gate_Enough (q : Qu) (a : QA) (id : Int) (hn : qOk q = true → q.gs.length ≤ 12) (w : World) (h : QRd w q a) : C0 Try.prog 17 [q.val a, .int .i64 id] w (enouP q id).val := by
  obtain ⟨hg, hf, hgn, hfn⟩ := h
  refine ⟨en Try.func17 Try.ntmps17 (((St.init w).share (e := .ro a.gA 4 q.gs.length (encPt q.gs)) hg rfl rfl rfl).share (e := .ro a.fA 2 q.fs.length (encF q.fs)) hf rfl rfl rfl) (h := fun F => ?_)⟩
  refine sq (h := ?_)
  refine rg (h := ?_)
  refine bxA (h := fun b0 => ?_)
  refine WL.y (hy := asg) (h := ?_)
  refine WL.y (hy := asg) (h := ?_)
  refine nl (h := ?_)
  refine q_seq (h := ?_)
  refine sq (h := ?_)
  refine rg (h := ?_)
  refine WL.y (hy := (by first | exact ldA | exact ldEA)) (h := ?_)
  refine WL.y (hy := mv) (h := ?_)
  refine cl0 (hc := fun w hS => C_gate_group q a id w ⟨hS.get, hS.get, hgn, hfn⟩) (h := ?_)
  refine WL.y (hy := mv) (h := ?_)
  refine WL.y (hy := ex) (h := ?_)
  refine WL.y (hy := ex) (h := ?_)
  refine WL.y (hy := asg) (h := ?_)
  refine WL.y (hy := asg) (h := ?_)
  refine nl (h := ?_)
  refine q_seq (h := ?_)
  refine sq (h := ?_)
  refine sq (h := ?_)
  refine rg (h := ?_)
  refine WL.y (hy := mv) (h := ?_)
  refine WL.y (hy := neq) (h := ?_)
  refine nl (h := ?_)
  refine q_seq (h := ?_)
  refine cd (by exact rfl) (fun h0 => ?_) (fun h0 => ?_)
  · skip
    have hE : enouP q id = ⟨0, grpE q id⟩ := by rw [enouP, h0]; rfl
    refine sq (h := ?_)
    refine rg (h := ?_)
    refine WL.y (hy := mv) (h := ?_)
    refine WL.y (hy := asg) (h := ?_)
    refine WL.y (hy := asg) (h := ?_)
    refine nl (h := ?_)
    refine q_seq (h := ?_)
    refine rtn (h := ?_)
    refine q_then_ret (h := ?_)
    refine q_ret (hR := ?_)
    rw [hE]
    exact fun w hS => ⟨rfl, hS.sub (by repeat (first | exact SubL.nil | (apply SubL.cons; (repeat (first | exact At.here | apply At.there))) | exact SubL.refl _ | apply SubL.skip))⟩
  · skip
    have hge0 : grpE q id = 0 := by simpa using h0
    obtain ⟨hqb, hq, hN, hi0, hi1⟩ := grp_ok hge0
    have hgl40 := hq.g
    have hEn : enouP q id = bif decide (enouI q (grpI q.gs id) < 0) then ⟨0, 3⟩ else ⟨enouI q (grpI q.gs id), 0⟩ := by rw [enouP, hge0]; rfl
    rw [hN]
    refine skp (h := ?_)
    refine q_seq (h := ?_)
    refine sq (h := ?_)
    refine rg (h := ?_)
    refine WL.y (hy := asg) (h := ?_)
    refine nl (h := ?_)
    refine q_seq (h := ?_)
    refine sq (h := ?_)
    refine sq (h := ?_)
    refine rg (h := ?_)
    refine WL.y (hy := (by first | exact fa | exact faE)) (h := ?_)
    refine WL.y (hy := (by first | exact ld | exact ldE)) (h := ?_)
    refine WL.y (hy := lenS) (h := ?_)
    refine WL.y (hy := mv) (h := ?_)
    refine nl (h := ?_)
    refine q_seq (h := ?_)
    refine bk (h := ?_)
    refine lp (X := IZ) (I := fun z => z.k ≤ q.gs.length) (le := fun z => [(2, .pointer (some ⟨b0, 0, none⟩)), (6, .int .i64 (grpI q.gs id)), (8, .int .i64 (pplTo q.gs z.k)), (24, .slice a.gA q.gs.length a.gc), (25, .int .i64 q.gs.length), (26, .int .i64 z.k)]) (Le := fun z => [.blk b0 27 (q.cells a), .ro a.gA 4 q.gs.length (encPt q.gs), .ro a.fA 2 q.fs.length (encF q.fs)]) (μ := fun z => q.gs.length - z.k) ⟨0⟩ (Nat.zero_le _) (by repeat (first | exact trivial | refine ⟨rfl, ?_⟩)) (by repeat (first | exact SubL.nil | (apply SubL.cons; (repeat (first | exact At.here | apply At.there))) | exact SubL.refl _ | apply SubL.skip)) (fun z hz => ?_)
    refine sq (h := ?_)
    refine rg (h := ?_)
    refine WL.y (hy := lss) (h := ?_)
    refine nl (h := ?_)
    refine q_seq (h := ?_)
    refine sq (h := ?_)
    refine cd (by exact rfl) (fun h1 => ?_) (fun h1 => ?_)
    · skip
      have hkn : z.k < q.gs.length := by simp only [decide_eq_true_eq] at h1; omega
      obtain ⟨g, hg1⟩ : ∃ g, q.gs[z.k]? = some g := ⟨_, List.getElem?_eq_getElem hkn⟩
      have hge := encPt_at hg1
      have hgo := pt_rng (hq.pt g (List.mem_of_getElem? hg1))
      have hpr := pplTo_rng hq z.k (by omega)
      have hps : pplTo q.gs (z.k + 1) = pplTo q.gs z.k + g.size := by rw [pplTo, hg1]
      refine skp (h := ?_)
      refine q_seq (h := ?_)
      refine sq (h := ?_)
      refine bk (h := ?_)
      refine sq (h := ?_)
      refine rg (h := ?_)
      refine WL.y (hy := ix (A := a.gA) (m := q.gs.length)) (h := ?_)
      refine WL.y (hy := ldEA (A := a.gA) (hk := hge)) (h := ?_)
      refine al (h := fun b1 => ?_)
      first | refine stA (h := ?_) | refine stEA (h := ?_)
      refine nl (h := ?_)
      refine q_seq (h := ?_)
      refine rg (h := ?_)
      refine WL.y (hy := mv) (h := ?_)
      refine WL.y (hy := (by first | exact fa | exact faE)) (h := ?_)
      refine WL.y (hy := (by first | exact ld | exact ldE)) (h := ?_)
      refine WL.y (hy := addI) (h := ?_)
      refine WL.y (hy := asg) (h := ?_)
      refine nl (h := ?_)
      refine q_blk_norm (h := ?_)
      refine q_seq (h := ?_)
      refine rg (h := ?_)
      refine WL.y (hy := addI) (h := ?_)
      refine WL.y (hy := mv) (h := ?_)
      refine nl (h := ?_)
      refine rn (x := z) ⟨z.k + 1⟩ (by dsimp only; omega) (by dsimp only; omega) (by dsimp only; rw [hps]; repeat (first | exact trivial | refine ⟨rfl, ?_⟩)) (by repeat (first | exact SubL.nil | (apply SubL.cons; (repeat (first | exact At.here | apply At.there))) | exact SubL.refl _ | apply SubL.skip))
    · skip
      have hkn : z.k = q.gs.length := by simp only [decide_eq_false_iff_not] at h1; omega
      have hpv : pplTo q.gs z.k = pplV q.gs := by rw [hkn]; rfl
      rw [hpv]
      have hpr := pplTo_rng hq q.gs.length (Nat.le_refl _)
      rw [show pplTo q.gs q.gs.length = pplV q.gs from rfl] at hpr
      refine et (h := ?_)
      refine q_then_exit (h := ?_)
      refine q_then_exit (h := ?_)
      refine q_blk_hit (h := ?_)
      refine q_seq (h := ?_)
      refine sq (h := ?_)
      refine sq (h := ?_)
      refine rg (h := ?_)
      refine WL.y (hy := mv) (h := ?_)
      refine WL.y (hy := addI) (h := ?_)
      refine WL.y (hy := mv) (h := ?_)
      refine nl (h := ?_)
      refine q_seq (h := ?_)
      refine bk (h := ?_)
      refine lp (X := IZ) (I := fun u => u.k ≤ (pplV q.gs).toNat.succ ∧ ∀ j, j < u.k → (sureV q (grpI q.gs id) (j : Int)).isSome = false) (le := fun u => [(2, .pointer (some ⟨b0, 0, none⟩)), (6, .int .i64 (grpI q.gs id)), (36, .int .i64 (pplV q.gs + 1)), (37, .int .i64 u.k)]) (Le := fun u => [.blk b0 27 (q.cells a), .ro a.gA 4 q.gs.length (encPt q.gs), .ro a.fA 2 q.fs.length (encF q.fs)]) (μ := fun u => (pplV q.gs).toNat.succ - u.k) ⟨0⟩ ⟨Nat.zero_le _, fun j hj => by cases hj⟩ (by repeat (first | exact trivial | refine ⟨rfl, ?_⟩)) (by repeat (first | exact SubL.nil | (apply SubL.cons; (repeat (first | exact At.here | apply At.there))) | exact SubL.refl _ | apply SubL.skip)) (fun u hu => ?_)
      obtain ⟨hu1, hu2⟩ := hu
      refine sq (h := ?_)
      refine rg (h := ?_)
      refine WL.y (hy := lss) (h := ?_)
      refine nl (h := ?_)
      refine q_seq (h := ?_)
      refine sq (h := ?_)
      refine cd (by exact rfl) (fun h2 => ?_) (fun h2 => ?_)
      · skip
        have hmn : u.k < (pplV q.gs).toNat.succ := by have := of_decide_eq_true h2; omega
        refine skp (h := ?_)
        refine q_seq (h := ?_)
        refine sq (h := ?_)
        refine bk (h := ?_)
        refine sq (h := ?_)
        refine rg (h := ?_)
        refine WL.y (hy := mv) (h := ?_)
        refine WL.y (hy := asg) (h := ?_)
        refine nl (h := ?_)
        refine q_seq (h := ?_)
        refine sq (h := ?_)
        refine rg (h := ?_)
        refine WL.y (hy := (by first | exact ldA | exact ldEA)) (h := ?_)
        refine WL.y (hy := mv) (h := ?_)
        refine WL.y (hy := mv) (h := ?_)
        refine cl (hc := fun w hS => C_gate_sure q a (grpI q.gs id) u.k hq (hn hqb) ⟨hi0, hi1⟩ (by omega) w ⟨hS.get, hS.get, hgn, hfn⟩) (h := fun x0 hx0 => ?_)
        refine WL.y (hy := mv) (h := ?_)
        refine WL.y (hy := ex) (h := ?_)
        refine WL.y (hy := ex) (h := ?_)
        refine al (h := fun b2 => ?_)
        first | refine stA (h := ?_) | refine stEA (h := ?_)
        refine WL.y (hy := asg) (h := ?_)
        refine nl (h := ?_)
        refine q_seq (h := ?_)
        refine sq (h := ?_)
        refine rg (h := ?_)
        refine WL.y (hy := mv) (h := ?_)
        refine nl (h := ?_)
        refine q_seq (h := ?_)
        refine cd (by exact rfl) (fun h3 => ?_) (fun h3 => ?_)
        · skip
          have hI : enouI q (grpI q.gs id) = u.k := (idxF_spec _ _).uniq (.inl ⟨u.k, hmn, rfl, h3, hu2⟩)
          have hE : enouP q id = ⟨u.k, 0⟩ := by rw [hEn, hI, decide_eq_false (by omega)]; rfl
          refine sq (h := ?_)
          refine rg (h := ?_)
          refine WL.y (hy := mv) (h := ?_)
          refine WL.y (hy := asg) (h := ?_)
          refine WL.y (hy := asg) (h := ?_)
          refine nl (h := ?_)
          refine q_seq (h := ?_)
          refine rtn (h := ?_)
          refine q_blk_ret (h := ?_)
          refine q_then_ret (h := ?_)
          refine q_then_ret (h := ?_)
          refine q_blk_ret (h := ?_)
          refine q_then_ret (h := ?_)
          refine q_ret (hR := ?_)
          rw [hE]
          exact fun w hS => ⟨rfl, hS.sub (by repeat (first | exact SubL.nil | (apply SubL.cons; (repeat (first | exact At.here | apply At.there))) | exact SubL.refl _ | apply SubL.skip))⟩
        · skip
          refine skp (h := ?_)
          refine q_blk_norm (h := ?_)
          refine q_seq (h := ?_)
          refine rg (h := ?_)
          refine WL.y (hy := addI) (h := ?_)
          refine WL.y (hy := mv) (h := ?_)
          refine nl (h := ?_)
          refine rn (x := u) ⟨u.k + 1⟩ ⟨by dsimp only; omega, fun j hj => by
            rcases Nat.lt_succ_iff_lt_or_eq.1 hj with h | rfl
            · exact hu2 j h
            · assumption⟩ (by dsimp only; omega) (by repeat (first | exact trivial | refine ⟨rfl, ?_⟩)) (by repeat (first | exact SubL.nil | (apply SubL.cons; (repeat (first | exact At.here | apply At.there))) | exact SubL.refl _ | apply SubL.skip))
      · skip
        have hmn : u.k = (pplV q.gs).toNat.succ := by have := of_decide_eq_false h2; omega
        have hI : enouI q (grpI q.gs id) = -1 := (idxF_spec _ _).uniq (.inr ⟨rfl, by rw [← hmn]; exact hu2⟩)
        have hE : enouP q id = ⟨0, 3⟩ := by rw [hEn, hI]; rfl
        refine et (h := ?_)
        refine q_then_exit (h := ?_)
        refine q_then_exit (h := ?_)
        refine q_blk_hit (h := ?_)
        refine q_seq (h := ?_)
        refine sq (h := ?_)
        refine rg (h := ?_)
        refine WL.y (hy := asg) (h := ?_)
        refine WL.y (hy := asg) (h := ?_)
        refine nl (h := ?_)
        refine q_seq (h := ?_)
        refine rtn (h := ?_)
        refine q_ret (hR := ?_)
        rw [hE]
        exact fun w hS => ⟨rfl, hS.sub (by repeat (first | exact SubL.nil | (apply SubL.cons; (repeat (first | exact At.here | apply At.there))) | exact SubL.refl _ | apply SubL.skip))⟩
end Go.Proofs.Ytbcclgfobiholaa
