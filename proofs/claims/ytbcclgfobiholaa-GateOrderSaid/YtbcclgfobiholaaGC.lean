/- Walks of gate, twelve: the law's Example, works. -/
import Derived.Test.YtbcclgfobiholaaGB
namespace Go.Proofs.Ytbcclgfobiholaa
open Go Go.RowKit

/-! #### what stays -/
theorem joinV_nil {gs : List Pt} {ord : List Int} {minute : Int} {s : Cr} (hw : s.ws = []) (ha : ∀ i ∈ ord, arrV gs minute i = false) : joinV gs ord minute s = s := by
  have h1 : ord.filter (arrV gs minute) = [] := List.filter_eq_nil_iff.2 fun i hi => by rw [ha i hi]; simp
  obtain ⟨fr, ps, ws, inn⟩ := s
  dsimp only at hw
  subst hw
  simp [joinV, keptV, h1]
theorem freeTo_zero {fs : List Fe} {minute : Int} (h : ∀ f ∈ fs, f.1 ≠ minute) : ∀ k, freeTo fs minute k = 0
  | 0 => rfl
  | k + 1 => by
    rw [freeTo]
    cases hk : fs[k]? with
    | none => exact freeTo_zero h k
    | some f =>
      dsimp only
      rw [freeTo_zero h k, decide_eq_false (h f (List.mem_of_getElem? hk))]; rfl
theorem minute_stay {q : Qu} {rate : Int} {ord : List Int} {minute : Int} {s : Cr} (hw : s.ws = []) (ha : ∀ i ∈ ord, arrV q.gs minute i = false) (hf : ∀ f ∈ q.fs, f.1 ≠ minute) : minuteV q rate ord minute s = s := by
  have h0 : freedV q minute s = s := by
    unfold freedV freeAll
    rw [freeTo_zero hf]
    obtain ⟨fr, ps, ws, inn⟩ := s
    simp
  have h1 := joinV_nil (gs := q.gs) (ord := ord) (minute := minute) hw ha
  unfold minuteV
  rw [h0, h1, passV_stop (.inr hw)]
  cases decide (q.opn ≤ minute) <;> rfl
theorem arr_no {gs : List Pt} {minute : Int} (h : ∀ g ∈ gs, g.at_ < minute) (i : Int) : arrV gs minute i = false := by
  unfold arrV
  cases hg : gs[i.toNat]? with
  | none => rfl
  | some g =>
    have := h g (List.mem_of_getElem? hg)
    dsimp only
    rw [decide_eq_false (by omega)]; rfl
theorem run_stay {q : Qu} {rate more : Int} {K : Nat} (hw : (runTo q rate more K).ws = []) (hg : ∀ g ∈ q.gs, g.at_ < K) (hf : ∀ f ∈ q.fs, f.1 < K) : ∀ d, runTo q rate more (K + d) = runTo q rate more K
  | 0 => rfl
  | d + 1 => by
    have ih := run_stay hw hg hf d
    rw [show K + (d + 1) = K + d + 1 from rfl, runTo, ih]
    exact minute_stay hw (fun i _ => arr_no (fun g hx => by have := hg g hx; push_cast; omega) i) (fun f hx => by have := hf f hx; push_cast; omega)

/-! #### the example -/
def exQ : Qu := ⟨10, 2, 3, 5, [⟨1, 0, 2, -1⟩, ⟨2, 3, 4, 12⟩, ⟨3, 3, 2, -1⟩, ⟨4, 11, 1, -1⟩], [(13, 3)]⟩
def exX : Tm := ⟨60, 120, [30, 90, 200]⟩
def exL : List Tkt := [⟨1, 1001, 0, 0⟩, ⟨2, 1001, 1, 0⟩, ⟨3, 1001, 1, 600⟩, ⟨4, 1001, 2, 0⟩]
theorem ex_q : qOk exQ = true := by kernel_rfl
theorem ex_g : ∀ g ∈ exQ.gs, g.at_ < ((15 : Nat) : Int) := by decide
theorem ex_f : ∀ f ∈ exQ.fs, f.1 < ((15 : Nat) : Int) := by decide
theorem ex_run {rate more : Int} {r : List Int} (h : runTo exQ rate more 15 = ⟨(runTo exQ rate more 15).free, (runTo exQ rate more 15).passing, [], r⟩) : runV exQ rate more = r := by
  have hw : (runTo exQ rate more 15).ws = [] := by rw [h]
  rw [runV, show 1441 = 15 + 1426 from rfl, run_stay hw ex_g ex_f, h]
theorem ex20 : runV exQ 2 0 = [10, -1, 12, 13] := ex_run (by kernel_rfl)
theorem ex30 : runV exQ 3 0 = [10, -1, 12, 12] := ex_run (by kernel_rfl)
theorem ex21 : runV exQ 2 1 = [10, 12, 13, 14] := ex_run (by kernel_rfl)
theorem ex31 : runV exQ 3 1 = [10, 11, 13, 13] := ex_run (by kernel_rfl)
theorem ex_inI {k : Nat} {more i : Int} {r : Int} {l : List Int} {rate : Int} (hr : exQ.lo + k = rate) (h : runV exQ rate more = l) (he : l.getD i.toNat 0 = r) : inI exQ more k i = r := by rw [inI, hr, h, he]
theorem ex_s2 {i more : Int} {a b : Int} (h0 : inI exQ more 0 i = a) (h1 : inI exQ more 1 i = b) : sureV exQ i more = (match (bif decide (a < 0) then none else some (min 1440 a, max (-1) a) : Option (Int × Int)) with | none => none | some z => bif decide (b < 0) then none else some (min z.1 b, max z.2 b)) := by
  have hn : nR exQ = 2 := by kernel_rfl
  have h2 : ∀ q : Qu, sureTo q i more 2 = (match (bif decide (inI q more 0 i < 0) then none else some (min 1440 (inI q more 0 i), max (-1) (inI q more 0 i)) : Option (Int × Int)) with | none => none | some z => bif decide (inI q more 1 i < 0) then none else some (min z.1 (inI q more 1 i), max z.2 (inI q more 1 i))) := fun q => rfl
  rw [sureV, hn, h2, h0, h1]
theorem ex_sure : sureP exQ 4 = ⟨12, 13, 0⟩ := by
  have hE : grpE exQ 4 = 0 := by kernel_rfl
  have hI : grpI exQ.gs 4 = 3 := by kernel_rfl
  have h : sureV exQ 3 0 = some (12, 13) := by rw [ex_s2 (ex_inI (by decide) ex20 (by rfl)) (ex_inI (by decide) ex30 (by rfl))]; rfl
  rw [sureP, hE, hI, h]; rfl
theorem ex_enough : enouP exQ 2 = ⟨1, 0⟩ := by
  have hE : grpE exQ 2 = 0 := by kernel_rfl
  have hI : grpI exQ.gs 2 = 1 := by kernel_rfl
  have h0 : sureV exQ 1 0 = none := by rw [ex_s2 (ex_inI (by decide) ex20 (by rfl)) (ex_inI (by decide) ex30 (by rfl))]; rfl
  have h1 : sureV exQ 1 1 = some (11, 12) := by rw [ex_s2 (ex_inI (by decide) ex21 (by rfl)) (ex_inI (by decide) ex31 (by rfl))]; rfl
  have hn : enouI exQ 1 = 1 := (idxF_spec _ _).uniq (.inl ⟨1, by decide, rfl, by show (sureV exQ 1 1).isSome = true; rw [h1]; rfl, fun j hj => by
    obtain rfl : j = 0 := by omega
    show (sureV exQ 1 0).isSome = false
    rw [h0]; rfl⟩)
  rw [enouP, hE, hI, hn]; rfl
theorem ex_total : totV exX exL = 1501 := by kernel_rfl
theorem ex_are : areT exX exL = true := by kernel_rfl
theorem ex_enter : enterL exQ 2 = [10, -1, 12, 13] := by
  have hE : enterE exQ 2 = 0 := by kernel_rfl
  rw [enterL, hE, ex20]; rfl
theorem ex_enterE : enterE exQ 2 = 0 := by kernel_rfl

theorem C_sameInts (xs ys : List Int) (A B : Option Addr) (n c m d : Nat) (w : World) (h : Rd w A 1 n (enI xs)) (h' : Rd w B 1 m (enI ys)) (hm : m ≤ 9223372036854775807) :
    C0 Try.prog 23 [.slice A n c, .slice B m d] w (.bool (decide (xs = ys))) := by
  have hlx : xs.length = n := by have := h.len; rwa [enI_len] at this
  have hly : ys.length = m := by have := h'.len; rwa [enI_len] at this
  refine ⟨en Try.func23 Try.ntmps23 (((St.init w).share (e := .ro A 1 n (enI xs)) h rfl rfl rfl).share (e := .ro B 1 m (enI ys)) h' rfl rfl rfl) (h := fun F => ?_)⟩
  refine sq (h := ?_)
  refine rg (h := ?_)
  refine WL.y (hy := asg) (h := ?_)
  refine nl (h := ?_)
  refine q_seq (h := ?_)
  refine sq (h := ?_)
  refine sq (h := ?_)
  refine rg (h := ?_)
  refine WL.y (hy := mv) (h := ?_)
  refine WL.y (hy := lenS) (h := ?_)
  refine WL.y (hy := mv) (h := ?_)
  refine WL.y (hy := lenS) (h := ?_)
  refine WL.y (hy := neq) (h := ?_)
  refine nl (h := ?_)
  refine q_seq (h := ?_)
  refine cd (by exact rfl) (fun h0 => ?_) (fun h0 => ?_)
  · skip
    have hne : xs ≠ ys := fun e => by subst e; simp only [Bool.not_eq_true', decide_eq_false_iff_not] at h0; omega
    refine sq (h := ?_)
    refine rg (h := ?_)
    refine WL.y (hy := asg) (h := ?_)
    refine nl (h := ?_)
    refine q_seq (h := ?_)
    refine rtn (h := ?_)
    refine q_then_ret (h := ?_)
    refine q_ret (hR := ?_)
    exact fun w hS => ⟨by rw [decide_eq_false hne]; rfl, hS.sub (by repeat (first | exact SubL.nil | (apply SubL.cons; (repeat (first | exact At.here | apply At.there))) | exact SubL.refl _ | apply SubL.skip))⟩
  · skip
    have hnm : n = m := by simp only [Bool.not_eq_false', decide_eq_true_eq] at h0; omega
    refine skp (h := ?_)
    refine q_seq (h := ?_)
    refine sq (h := ?_)
    refine sq (h := ?_)
    refine rg (h := ?_)
    refine WL.y (hy := asg) (h := ?_)
    refine nl (h := ?_)
    refine q_seq (h := ?_)
    refine bk (h := ?_)
    refine lp (X := Nat) (I := fun k => k ≤ n ∧ xs.take k = ys.take k) (le := fun k => [(0, .slice A n c), (1, .slice B m d), (5, .int .i64 k)]) (Le := fun _ => [.ro A 1 n (enI xs), .ro B 1 m (enI ys)]) (μ := fun k => n - k) 0 ⟨by omega, by simp⟩ (by repeat (first | exact trivial | refine ⟨rfl, ?_⟩)) (by repeat (first | exact SubL.nil | (apply SubL.cons; (repeat (first | exact At.here | apply At.there))) | exact SubL.refl _ | apply SubL.skip)) (fun k hk => ?_)
    obtain ⟨hk, htk⟩ := hk
    refine sq (h := ?_)
    refine sq (h := ?_)
    refine rg (h := ?_)
    refine WL.y (hy := mv) (h := ?_)
    refine WL.y (hy := mv) (h := ?_)
    refine WL.y (hy := lenS) (h := ?_)
    refine WL.y (hy := lss) (h := ?_)
    refine nl (h := ?_)
    refine q_seq (h := ?_)
    refine cd (by exact rfl) (fun h1 => ?_) (fun h1 => ?_)
    · skip
      have hkn : k < n := by simp only [decide_eq_true_eq] at h1; omega
      have hxe := enI_at (List.getElem?_eq_getElem (l := xs) (i := k) (by omega))
      have hye := enI_at (List.getElem?_eq_getElem (l := ys) (i := k) (by omega))
      refine skp (h := ?_)
      refine q_seq (h := ?_)
      refine sq (h := ?_)
      refine bk (h := ?_)
      refine sq (h := ?_)
      refine rgD0 (by kernel_rfl) (h := ?_)
      refine tk 0 (hy := mv) (h := ?_)
      refine tk 1 (hy := mv) (h := ?_)
      refine tk 2 (hy := ix (A := A) (m := n) (es := enI xs) (hr := by first | exact Rds.ro | exact Rds.there Rds.ro) (hb := by omega)) (h := ?_)
      refine tk 3 (hy := ldE (A := A) (m := n) (es := enI xs) (hr := by first | exact Rds.ro | exact Rds.there Rds.ro) (hk := hxe)) (h := ?_)
      refine tk 4 (hy := mv) (h := ?_)
      refine tk 5 (hy := mv) (h := ?_)
      refine tk 6 (hy := ix (A := B) (m := m) (es := enI ys) (hr := by first | exact Rds.ro | exact Rds.there Rds.ro) (hb := by omega)) (h := ?_)
      refine tk 7 (hy := ldE (A := B) (m := m) (es := enI ys) (hr := by first | exact Rds.ro | exact Rds.there Rds.ro) (hk := hye)) (h := ?_)
      refine tk 8 (hy := neq) (h := ?_)
      refine dn (h := ?_)
      refine q_seq (h := ?_)
      refine cd (by exact rfl) (fun h2 => ?_) (fun h2 => ?_)
      · skip
        have hne : xs ≠ ys := fun e => by subst e; simp at h2
        refine sq (h := ?_)
        refine rg (h := ?_)
        refine WL.y (hy := asg) (h := ?_)
        refine nl (h := ?_)
        refine q_seq (h := ?_)
        refine rtn (h := ?_)
        refine q_blk_ret (h := ?_)
        refine q_then_ret (h := ?_)
        refine q_then_ret (h := ?_)
        refine q_blk_ret (h := ?_)
        refine q_then_ret (h := ?_)
        refine q_ret (hR := ?_)
        exact fun w hS => ⟨by rw [decide_eq_false hne]; rfl, hS.sub (by repeat (first | exact SubL.nil | (apply SubL.cons; (repeat (first | exact At.here | apply At.there))) | exact SubL.refl _ | apply SubL.skip))⟩
      · skip
        have heq : xs[k]'(by omega) = ys[k]'(by omega) := by simpa using h2
        refine skp (h := ?_)
        refine q_blk_norm (h := ?_)
        refine q_seq (h := ?_)
        refine rg (h := ?_)
        refine WL.y (hy := mv) (h := ?_)
        refine WL.y (hy := addI) (h := ?_)
        refine WL.y (hy := asg) (h := ?_)
        refine nl (h := ?_)
        refine rn (k + 1) ⟨by omega, by rw [List.take_succ_eq_append_getElem (by omega), List.take_succ_eq_append_getElem (by omega), htk, heq]⟩ (by omega) (by repeat (first | exact trivial | refine ⟨rfl, ?_⟩)) (by repeat (first | exact SubL.nil | (apply SubL.cons; (repeat (first | exact At.here | apply At.there))) | exact SubL.refl _ | apply SubL.skip))
    · skip
      have hkn : k = n := by simp only [decide_eq_false_iff_not] at h1; omega
      refine et (h := ?_)
      refine q_then_exit (h := ?_)
      refine q_then_exit (h := ?_)
      refine q_blk_hit (h := ?_)
      refine q_seq (h := ?_)
      refine sq (h := ?_)
      refine rg (h := ?_)
      refine WL.y (hy := asg) (h := ?_)
      refine nl (h := ?_)
      refine q_seq (h := ?_)
      refine rtn (h := ?_)
      refine q_ret (hR := ?_)
      have hxy : xs = ys := by rw [List.take_of_length_le (by omega), List.take_of_length_le (by omega)] at htk; exact htk
      exact fun w hS => ⟨by rw [decide_eq_true hxy]; rfl, hS.sub (by repeat (first | exact SubL.nil | (apply SubL.cons; (repeat (first | exact At.here | apply At.there))) | exact SubL.refl _ | apply SubL.skip))⟩
structure EXA where
  (a : QA) (pA lA : Option Addr) (pc lc : Nat)
theorem C_law11_Example (w : World) : CR Try.prog 35 [] w (fun _ : EXA => True) (fun x => .tuple #[exQ.val x.a, exX.val x.pA x.pc, .slice x.lA 4 x.lc]) (fun x => [.own x.a.gA x.a.gc 52 4 4 (encPt exQ.gs), .own x.a.fA x.a.fc 50 2 1 (encF exQ.fs), .own x.pA x.pc 3 1 3 (enI exX.pl), .own x.lA x.lc 59 4 4 (encTk exL)]) := by
  refine ⟨en Try.func35 Try.ntmps35 (St.init w) (h := fun F => ?_)⟩
  refine sq (h := ?_)
  refine rg (h := ?_)
  refine al (h := fun b0 => ?_)
  refine al (h := fun b1 => ?_)
  refine WL.y (hy := asg) (h := ?_)
  refine nl (h := ?_)
  refine q_seq (h := ?_)
  refine sq (h := ?_)
  refine rg (h := ?_)
  refine WL.y (hy := bd) (h := ?_)
  refine WL.y (hy := bd) (h := ?_)
  refine WL.y (hy := bd) (h := ?_)
  refine WL.y (hy := bd) (h := ?_)
  refine WL.y (hy := bd) (h := ?_)
  refine bs (h := fun b2 => ?_)
  refine WL.y (hy := bd) (h := ?_)
  refine bs (h := fun b3 => ?_)
  refine WL.y (hy := bd) (h := ?_)
  refine al (h := fun b4 => ?_)
  first | refine stA (h := ?_) | refine stEA (h := ?_)
  refine nl (h := ?_)
  refine q_seq (h := ?_)
  refine sq (h := ?_)
  refine rg (h := ?_)
  refine WL.y (hy := (by first | exact ldA | exact ldEA)) (h := ?_)
  refine bs (h := fun b5 => ?_)
  refine WL.y (hy := bd) (h := ?_)
  refine WL.y (hy := bd) (h := ?_)
  refine WL.y (hy := bd) (h := ?_)
  refine WL.y (hy := bd) (h := ?_)
  refine WL.y (hy := bd) (h := ?_)
  refine bs (h := fun b6 => ?_)
  first | refine stA (h := ?_) | refine stEA (h := ?_)
  first | refine stA (h := ?_) | refine stEA (h := ?_)
  refine WL.y (hy := asg) (h := ?_)
  refine nl (h := ?_)
  refine q_seq (h := ?_)
  refine rtn (h := ?_)
  refine q_ret (hR := ?_)
  exact fun w hS => ⟨⟨⟨_, _, _, _⟩, _, _, _, _⟩, trivial, rfl, hS.sub (by repeat (first | exact SubL.nil | (apply SubL.cons; (repeat (first | exact At.here | apply At.there))) | exact SubL.refl _ | apply SubL.skip))⟩
theorem C_law11_works (w : World) : C0 Try.prog 13 [] w (.bool true) := by
  refine ⟨en Try.func13 Try.ntmps13 (St.init w) (h := fun F => ?_)⟩
  refine sq (h := ?_)
  refine rg (h := ?_)
  refine WL.y (hy := asg) (h := ?_)
  refine nl (h := ?_)
  refine q_seq (h := ?_)
  refine sq (h := ?_)
  refine rg (h := ?_)
  refine cl (hc := fun w hS => C_law11_Example w) (h := fun x0 _ => ?_)
  refine WL.y (hy := mv) (h := ?_)
  refine WL.y (hy := ex) (h := ?_)
  refine WL.y (hy := ex) (h := ?_)
  refine WL.y (hy := ex) (h := ?_)
  refine al (h := fun b0 => ?_)
  refine al (h := fun b1 => ?_)
  first | refine stA (h := ?_) | refine stEA (h := ?_)
  first | refine stA (h := ?_) | refine stEA (h := ?_)
  refine WL.y (hy := asg) (h := ?_)
  refine nl (h := ?_)
  refine q_seq (h := ?_)
  refine sq (h := ?_)
  refine rg (h := ?_)
  refine WL.y (hy := (by first | exact ldA | exact ldEA)) (h := ?_)
  refine cl (hc := fun w hS => C_gate_Enter exQ x0.a 2 (fun _ => by decide) w ⟨hS.get (by repeat (first | exact Rds.own | apply Rds.there)), hS.get (by repeat (first | exact Rds.own | apply Rds.there)), by decide, by decide⟩) (h := fun x1 _ => ?_)
  rw [ex_enter, ex_enterE]
  refine WL.y (hy := mv) (h := ?_)
  refine WL.y (hy := ex) (h := ?_)
  refine WL.y (hy := ex) (h := ?_)
  refine WL.y (hy := asg) (h := ?_)
  refine WL.y (hy := asg) (h := ?_)
  refine nl (h := ?_)
  refine q_seq (h := ?_)
  refine sq (h := ?_)
  refine rg (h := ?_)
  refine WL.y (hy := (by first | exact ldA | exact ldEA)) (h := ?_)
  refine cl0 (hc := fun w hS => C_gate_Sure exQ x0.a 4 (fun _ => by decide) w ⟨hS.get (by repeat (first | exact Rds.own | apply Rds.there)), hS.get (by repeat (first | exact Rds.own | apply Rds.there)), by decide, by decide⟩) (h := ?_)
  rw [ex_sure]
  refine WL.y (hy := mv) (h := ?_)
  refine WL.y (hy := ex) (h := ?_)
  refine WL.y (hy := ex) (h := ?_)
  refine al (h := fun b2 => ?_)
  first | refine stA (h := ?_) | refine stEA (h := ?_)
  refine WL.y (hy := asg) (h := ?_)
  refine nl (h := ?_)
  refine q_seq (h := ?_)
  refine sq (h := ?_)
  refine rg (h := ?_)
  refine WL.y (hy := (by first | exact ldA | exact ldEA)) (h := ?_)
  refine cl0 (hc := fun w hS => C_gate_Enough exQ x0.a 2 (fun _ => by decide) w ⟨hS.get (by repeat (first | exact Rds.own | apply Rds.there)), hS.get (by repeat (first | exact Rds.own | apply Rds.there)), by decide, by decide⟩) (h := ?_)
  rw [ex_enough]
  refine WL.y (hy := mv) (h := ?_)
  refine WL.y (hy := ex) (h := ?_)
  refine WL.y (hy := ex) (h := ?_)
  refine WL.y (hy := asg) (h := ?_)
  refine WL.y (hy := asg) (h := ?_)
  refine nl (h := ?_)
  refine q_seq (h := ?_)
  refine sq (h := ?_)
  refine rg (h := ?_)
  refine WL.y (hy := (by first | exact ldA | exact ldEA)) (h := ?_)
  refine WL.y (hy := mv) (h := ?_)
  refine cl0 (hc := fun w hS => C_gate_Total exX exL x0.pA x0.lA x0.pc x0.lc w ⟨hS.get (by repeat (first | exact Rds.own | apply Rds.there)), hS.get (by repeat (first | exact Rds.own | apply Rds.there)), by decide, by decide⟩) (h := ?_)
  rw [ex_total, ex_are]
  refine WL.y (hy := mv) (h := ?_)
  refine WL.y (hy := ex) (h := ?_)
  refine WL.y (hy := ex) (h := ?_)
  refine WL.y (hy := asg) (h := ?_)
  refine WL.y (hy := asg) (h := ?_)
  refine nl (h := ?_)
  refine q_seq (h := ?_)
  refine sq (h := ?_)
  refine rg (h := ?_)
  refine WL.y (hy := mv) (h := ?_)
  refine WL.y (hy := eql) (h := ?_)
  refine WL.y (hy := mv) (h := ?_)
  apply brAnd 3 40 43 (by exact rfl)
  · intro hb0
    refine un (h := ?_)
    refine WL.y (hy := mv) (h := ?_)
    refine un (h := ?_)
    refine WL.y (hy := eql) (h := ?_)
    refine WL.y (hy := (by first | exact pkT | exact pkF)) (h := ?_)
    exact mg (by repeat (first | exact trivial | refine ⟨rfl, ?_⟩ | refine ⟨by rw [hb0]; rfl, ?_⟩)) (by repeat (first | exact SubL.nil | (apply SubL.cons; (repeat (first | exact At.here | apply At.there))) | exact SubL.refl _ | apply SubL.skip))
  · intro hb0
    repeat (first | refine un (h := ?_) | refine sk (h := ?_) | refine WL.y (hy := pkF) (h := ?_) | refine WL.y (hy := pkT) (h := ?_))
    exact mg (by repeat (first | exact trivial | refine ⟨rfl, ?_⟩ | refine ⟨by rw [hb0]; rfl, ?_⟩)) (by repeat (first | exact SubL.nil | (apply SubL.cons; (repeat (first | exact At.here | apply At.there))) | exact SubL.refl _ | apply SubL.skip))
  refine WL.y (hy := mv) (h := ?_)
  apply brAnd 3 44 47 (by exact rfl)
  · intro hb1
    refine un (h := ?_)
    refine WL.y (hy := mv) (h := ?_)
    refine un (h := ?_)
    refine WL.y (hy := eql) (h := ?_)
    refine WL.y (hy := (by first | exact pkT | exact pkF)) (h := ?_)
    exact mg (by repeat (first | exact trivial | refine ⟨rfl, ?_⟩ | refine ⟨by rw [hb1]; rfl, ?_⟩)) (by repeat (first | exact SubL.nil | (apply SubL.cons; (repeat (first | exact At.here | apply At.there))) | exact SubL.refl _ | apply SubL.skip))
  · intro hb1
    repeat (first | refine un (h := ?_) | refine sk (h := ?_) | refine WL.y (hy := pkF) (h := ?_) | refine WL.y (hy := pkT) (h := ?_))
    exact mg (by repeat (first | exact trivial | refine ⟨rfl, ?_⟩ | refine ⟨by rw [hb1]; rfl, ?_⟩)) (by repeat (first | exact SubL.nil | (apply SubL.cons; (repeat (first | exact At.here | apply At.there))) | exact SubL.refl _ | apply SubL.skip))
  refine WL.y (hy := mv) (h := ?_)
  apply brAnd 3 48 51 (by exact rfl)
  · intro hb2
    refine un (h := ?_)
    refine WL.y (hy := mv) (h := ?_)
    refine un (h := ?_)
    refine WL.y (hy := eql) (h := ?_)
    refine WL.y (hy := (by first | exact pkT | exact pkF)) (h := ?_)
    exact mg (by repeat (first | exact trivial | refine ⟨rfl, ?_⟩ | refine ⟨by rw [hb2]; rfl, ?_⟩)) (by repeat (first | exact SubL.nil | (apply SubL.cons; (repeat (first | exact At.here | apply At.there))) | exact SubL.refl _ | apply SubL.skip))
  · intro hb2
    repeat (first | refine un (h := ?_) | refine sk (h := ?_) | refine WL.y (hy := pkF) (h := ?_) | refine WL.y (hy := pkT) (h := ?_))
    exact mg (by repeat (first | exact trivial | refine ⟨rfl, ?_⟩ | refine ⟨by rw [hb2]; rfl, ?_⟩)) (by repeat (first | exact SubL.nil | (apply SubL.cons; (repeat (first | exact At.here | apply At.there))) | exact SubL.refl _ | apply SubL.skip))
  refine WL.y (hy := mv) (h := ?_)
  apply brAnd 4 52 56 (by exact rfl)
  · intro hb3
    refine un (h := ?_)
    refine WL.y (hy := mv) (h := ?_)
    refine un (h := ?_)
    refine bs (h := fun b3 => ?_)
    refine un (h := ?_)
    refine cl0 (hc := fun w hS => C_sameInts [10, -1, 12, 13] [10, -1, 12, 13] _ _ _ _ _ _ w (hS.get (by repeat (first | exact Rds.own | apply Rds.there))) (hS.get (by repeat (first | exact Rds.own | apply Rds.there))) (by omega)) (h := ?_)
    refine WL.y (hy := (by first | exact pkT | exact pkF)) (h := ?_)
    exact mg (by repeat (first | exact trivial | refine ⟨rfl, ?_⟩ | refine ⟨by rw [hb3]; rfl, ?_⟩)) (by repeat (first | exact SubL.nil | (apply SubL.cons; (repeat (first | exact At.here | apply At.there))) | exact SubL.refl _ | apply SubL.skip))
  · intro hb3
    repeat (first | refine un (h := ?_) | refine sk (h := ?_) | refine WL.y (hy := pkF) (h := ?_) | refine WL.y (hy := pkT) (h := ?_))
    exact mg (by repeat (first | exact trivial | refine ⟨rfl, ?_⟩ | refine ⟨by rw [hb3]; rfl, ?_⟩)) (by repeat (first | exact SubL.nil | (apply SubL.cons; (repeat (first | exact At.here | apply At.there))) | exact SubL.refl _ | apply SubL.skip))
  refine WL.y (hy := mv) (h := ?_)
  apply brAnd 4 57 61 (by exact rfl)
  · intro hb4
    refine un (h := ?_)
    refine WL.y (hy := (by first | exact ldA | exact ldEA)) (h := ?_)
    refine un (h := ?_)
    refine WL.y (hy := bd) (h := ?_)
    refine un (h := ?_)
    refine WL.y (hy := eqlT) (h := ?_)
    refine WL.y (hy := (by first | exact pkT | exact pkF)) (h := ?_)
    exact mg (by repeat (first | exact trivial | refine ⟨rfl, ?_⟩ | refine ⟨by rw [hb4]; rfl, ?_⟩)) (by repeat (first | exact SubL.nil | (apply SubL.cons; (repeat (first | exact At.here | apply At.there))) | exact SubL.refl _ | apply SubL.skip))
  · intro hb4
    repeat (first | refine un (h := ?_) | refine sk (h := ?_) | refine WL.y (hy := pkF) (h := ?_) | refine WL.y (hy := pkT) (h := ?_))
    exact mg (by repeat (first | exact trivial | refine ⟨rfl, ?_⟩ | refine ⟨by rw [hb4]; rfl, ?_⟩)) (by repeat (first | exact SubL.nil | (apply SubL.cons; (repeat (first | exact At.here | apply At.there))) | exact SubL.refl _ | apply SubL.skip))
  refine WL.y (hy := mv) (h := ?_)
  apply brAnd 3 62 65 (by exact rfl)
  · intro hb5
    refine un (h := ?_)
    refine WL.y (hy := mv) (h := ?_)
    refine un (h := ?_)
    refine WL.y (hy := eql) (h := ?_)
    refine WL.y (hy := (by first | exact pkT | exact pkF)) (h := ?_)
    exact mg (by repeat (first | exact trivial | refine ⟨rfl, ?_⟩ | refine ⟨by rw [hb5]; rfl, ?_⟩)) (by repeat (first | exact SubL.nil | (apply SubL.cons; (repeat (first | exact At.here | apply At.there))) | exact SubL.refl _ | apply SubL.skip))
  · intro hb5
    repeat (first | refine un (h := ?_) | refine sk (h := ?_) | refine WL.y (hy := pkF) (h := ?_) | refine WL.y (hy := pkT) (h := ?_))
    exact mg (by repeat (first | exact trivial | refine ⟨rfl, ?_⟩ | refine ⟨by rw [hb5]; rfl, ?_⟩)) (by repeat (first | exact SubL.nil | (apply SubL.cons; (repeat (first | exact At.here | apply At.there))) | exact SubL.refl _ | apply SubL.skip))
  refine WL.y (hy := mv) (h := ?_)
  apply brAnd 3 66 69 (by exact rfl)
  · intro hb6
    refine un (h := ?_)
    refine WL.y (hy := mv) (h := ?_)
    refine un (h := ?_)
    refine WL.y (hy := eql) (h := ?_)
    refine WL.y (hy := (by first | exact pkT | exact pkF)) (h := ?_)
    exact mg (by repeat (first | exact trivial | refine ⟨rfl, ?_⟩ | refine ⟨by rw [hb6]; rfl, ?_⟩)) (by repeat (first | exact SubL.nil | (apply SubL.cons; (repeat (first | exact At.here | apply At.there))) | exact SubL.refl _ | apply SubL.skip))
  · intro hb6
    repeat (first | refine un (h := ?_) | refine sk (h := ?_) | refine WL.y (hy := pkF) (h := ?_) | refine WL.y (hy := pkT) (h := ?_))
    exact mg (by repeat (first | exact trivial | refine ⟨rfl, ?_⟩ | refine ⟨by rw [hb6]; rfl, ?_⟩)) (by repeat (first | exact SubL.nil | (apply SubL.cons; (repeat (first | exact At.here | apply At.there))) | exact SubL.refl _ | apply SubL.skip))
  refine WL.y (hy := asg) (h := ?_)
  refine nl (h := ?_)
  refine q_seq (h := ?_)
  refine rtn (h := ?_)
  refine q_ret (hR := ?_)
  exact fun w hS => ⟨by first | rfl | simp [resV], hS.sub (by repeat (first | exact SubL.nil | (apply SubL.cons; (repeat (first | exact At.here | apply At.there))) | exact SubL.refl _ | apply SubL.skip))⟩
end Go.Proofs.Ytbcclgfobiholaa
