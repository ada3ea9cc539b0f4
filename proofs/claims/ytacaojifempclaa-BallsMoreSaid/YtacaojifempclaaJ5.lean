/- The texts of the walk, part 5. -/
import Derived.Test.YtacaojifempclaaJ4
namespace Go.Proofs.Ytacaojifempclaa
open Go Go.RowKit

def accN (d : Dp) (item : Int) : Nat → Nat → Pr
  | 0, _ => (0, 0)
  | k + 1, dd => match d.fx[k]? with
    | some x => bif decide (x.day = (dd : Int)) then ((accN d item k dd).1 + (ndV d.each d.tow d.fra x item).1, (accN d item k dd).2 + (ndV d.each d.tow d.fra x item).2) else accN d item k dd
    | none => accN d item k dd
def needD (d : Dp) (item : Int) (dd : Nat) : Pr := accN d item d.fx.length dd
def crT (d : Dp) (item : Int) (dd : Nat) : Nat → Int
  | 0 => 0
  | k + 1 => match d.cr[k]? with
    | some c => bif decide (c.day = (dd : Int)) && decide (c.item = item) then crT d item dd k + c.count else crT d item dd k
    | none => crT d item dd k
def lefD (d : Dp) (item : Int) : Nat → Pr
  | 0 => (d.st.getD item.toNat 0, d.st.getD item.toNat 0)
  | k + 1 => ((lefD d item k).1 + crT d item k d.cr.length - (needD d item k).2, (lefD d item k).2 + crT d item k d.cr.length - (needD d item k).1)
def wkF (N L : Nat → Pr) : Nat → Int := fun i => if i < 122 then (if i % 2 = 0 then (N (i / 2)).1 else (N (i / 2)).2) else (if i % 2 = 0 then (L ((i - 122) / 2)).1 else (L ((i - 122) / 2)).2)
def updF (N : Nat → Pr) (k : Nat) (v : Pr) : Nat → Pr := fun i => if i = k then v else N i
theorem wk_lo (N L : Nat → Pr) {k o : Nat} (hk : k < 61) (ho : o = k * 2) (v : Int) : numE 244 (fun i => if i = o then v else wkF N L i) = numE 244 (wkF (updF N k (v, (N k).2)) L) := numE_congr fun i hi => by
  subst ho
  unfold wkF updF
  by_cases e : i = k * 2
  · rw [if_pos e, if_pos (by omega), if_pos (by omega), if_pos (by omega)]
  · rw [if_neg e]
    by_cases h1 : i < 122
    · rw [if_pos h1, if_pos h1]
      by_cases h2 : i % 2 = 0
      · rw [if_pos h2, if_pos h2, if_neg (by omega)]
      · rw [if_neg h2, if_neg h2]
        by_cases h3 : i / 2 = k
        · rw [if_pos h3, h3]
        · rw [if_neg h3]
    · rw [if_neg h1, if_neg h1]
theorem wk_hi (N L : Nat → Pr) {k o : Nat} (hk : k < 61) (ho : o = k * 2 + 1) (v : Int) : numE 244 (fun i => if i = o then v else wkF N L i) = numE 244 (wkF (updF N k ((N k).1, v)) L) := numE_congr fun i hi => by
  subst ho
  unfold wkF updF
  by_cases e : i = k * 2 + 1
  · rw [if_pos e, if_pos (by omega), if_neg (by omega), if_pos (by omega)]
  · rw [if_neg e]
    by_cases h1 : i < 122
    · rw [if_pos h1, if_pos h1]
      by_cases h2 : i % 2 = 0
      · rw [if_pos h2, if_pos h2]
        by_cases h3 : i / 2 = k
        · rw [if_pos h3, h3]
        · rw [if_neg h3]
      · rw [if_neg h2, if_neg h2, if_neg (by omega)]
    · rw [if_neg h1, if_neg h1]
theorem wk_left (N L : Nat → Pr) {k o : Nat} (hk : k < 61) (ho : o = 122 + k * 2) (v : Pr) : putAll (numE 244 (wkF N L)) o [.int .i64 v.1, .int .i64 v.2] = numE 244 (wkF N (updF L k v)) := by
  show ((numE 244 (wkF N L)).set o _).set (o + 1) _ = _
  rw [numE_set, numE_set]
  refine numE_congr fun i hi => ?_
  subst ho
  unfold wkF updF
  by_cases e1 : i = 122 + k * 2 + 1
  · rw [if_pos e1, if_neg (by omega), if_neg (by omega), if_pos (by omega)]
  · rw [if_neg e1]
    by_cases e2 : i = 122 + k * 2
    · rw [if_pos e2, if_neg (by omega), if_pos (by omega), if_pos (by omega)]
    · rw [if_neg e2]
      by_cases h1 : i < 122
      · rw [if_pos h1, if_pos h1]
      · have hne : ¬ (i - 122) / 2 = k := by omega
        rw [if_neg h1, if_neg h1, if_neg hne]
theorem wk_congr {N L N' L' : Nat → Pr} (h1 : ∀ k, k < 61 → N k = N' k) (h2 : ∀ k, k < 61 → L k = L' k) : numE 244 (wkF N L) = numE 244 (wkF N' L') := numE_congr fun i hi => by
  unfold wkF
  by_cases h : i < 122
  · rw [if_pos h, if_pos h, h1 (i / 2) (by omega)]
  · rw [if_neg h, if_neg h, h2 ((i - 122) / 2) (by omega)]
theorem wk_need1 (N L : Nat → Pr) {k o : Nat} (hk : k < 61) (ho : o = k * 2) : (numE 244 (wkF N L))[o]? = some (.int .i64 (N k).1) := by
  rw [numE_at (by omega)]
  unfold wkF
  rw [if_pos (by omega), if_pos (by omega), show o / 2 = k by omega]
theorem wk_need2 (N L : Nat → Pr) {k o : Nat} (hk : k < 61) (ho : o = k * 2 + 1) : (numE 244 (wkF N L))[o]? = some (.int .i64 (N k).2) := by
  rw [numE_at (by omega)]
  unfold wkF
  rw [if_pos (by omega), if_neg (by omega), show o / 2 = k by omega]
theorem wk_left1 (N L : Nat → Pr) {k o : Nat} (hk : k < 61) (ho : o = 122 + k * 2) : (numE 244 (wkF N L))[o]? = some (.int .i64 (L k).1) := by
  rw [numE_at (by omega)]
  unfold wkF
  rw [if_neg (by omega), if_pos (by omega), show (o - 122) / 2 = k by omega]
theorem wk_left2 (N L : Nat → Pr) {k o : Nat} (hk : k < 61) (ho : o = 122 + k * 2 + 1) : (numE 244 (wkF N L))[o]? = some (.int .i64 (L k).2) := by
  rw [numE_at (by omega)]
  unfold wkF
  rw [if_neg (by omega), if_neg (by omega), show (o - 122) / 2 = k by omega]
theorem wk_zero : numE 244 (fun _ => 0) = numE 244 (wkF (fun _ => (0, 0)) (fun _ => (0, 0))) := numE_congr fun i hi => by unfold wkF; by_cases h : i < 122 <;> by_cases h2 : i % 2 = 0 <;> simp [h, h2]
abbrev wkC (d : Dp) (item : Int) : List Value := numE 244 (wkF (needD d item) (fun j => lefD d item (j + 1)))
structure DepG (d : Dp) : Prop where
  k1 : 0 ≤ d.each ∧ d.each ≤ 20
  k2 : 0 ≤ d.tow ∧ d.tow ≤ 20
  k3 : 0 ≤ d.fra ∧ d.fra ≤ 20
  sl : d.st.length = 3
  fl : d.fx.length ≤ 30
  cl : d.cr.length ≤ 30
  st : ∀ x ∈ d.st, 0 ≤ x ∧ x ≤ 99999
  fx : ∀ x ∈ d.fx, (0 ≤ x.day ∧ x.day ≤ 60) ∧ checkE x.f x.b = 0
  cr : ∀ c ∈ d.cr, (0 ≤ c.day ∧ c.day ≤ 60) ∧ (0 ≤ c.item ∧ c.item ≤ 2) ∧ 0 ≤ c.count ∧ c.count ≤ 99999
theorem dep_good {d : Dp} (h : depOk d = true) : DepG d := by
  unfold depOk at h
  simp only [Bool.and_eq_true] at h
  obtain ⟨⟨⟨⟨h1, h2⟩, h3⟩, h4⟩, h5⟩ := h
  unfold kitB at h1
  simp only [Bool.and_eq_true] at h1
  unfold lenB at h2
  simp only [Bool.not_eq_true', Bool.or_eq_false_iff, Bool.not_eq_false', decide_eq_true_eq, decide_eq_false_iff_not] at h2
  refine ⟨wi_iff.1 h1.1.1, wi_iff.1 h1.1.2, wi_iff.1 h1.2, by omega, by omega, by omega, fun x hx => wi_iff.1 (List.all_eq_true.1 h3 x hx), fun x hx => ?_, fun c hc => ?_⟩
  · have := List.all_eq_true.1 h4 x hx
    unfold fxOk at this
    simp only [Bool.not_eq_true', Bool.or_eq_false_iff, Bool.not_eq_false', decide_eq_true_eq] at this
    exact ⟨wi_iff.1 this.1, this.2⟩
  · have := List.all_eq_true.1 h5 c hc
    unfold crOk at this
    simp only [Bool.not_eq_true', Bool.or_eq_false_iff, Bool.not_eq_false'] at this
    exact ⟨wi_iff.1 this.1.1, wi_iff.1 this.1.2, wi_iff.1 this.2⟩
theorem acc_rng {d : Dp} (h : DepG d) (item : Int) (dd : Nat) : ∀ k : Nat, 0 ≤ (accN d item k dd).1 ∧ (accN d item k dd).1 ≤ (accN d item k dd).2 ∧ (accN d item k dd).2 ≤ 10000 * k
  | 0 => by show 0 ≤ (0 : Int) ∧ (0 : Int) ≤ 0 ∧ (0 : Int) ≤ 10000 * ((0 : Nat) : Int); omega
  | k + 1 => by
    have ih := acc_rng h item dd k
    rw [accN]
    cases hx : d.fx[k]? with
    | none => simp only; omega
    | some x =>
      have hr := nd_rng (item := item) ⟨h.k1, h.k2, h.k3⟩ (h.fx x (List.mem_of_getElem? hx)).2
      simp only
      cases decide (x.day = (dd : Int))
      · simp only [cond_false]; omega
      · simp only [cond_true]; omega
theorem need_rng {d : Dp} (h : DepG d) (item : Int) (dd : Nat) : 0 ≤ (needD d item dd).1 ∧ (needD d item dd).1 ≤ (needD d item dd).2 ∧ (needD d item dd).2 ≤ 300000 := by
  have h1 := acc_rng h item dd d.fx.length
  have h2 := h.fl
  unfold needD; omega
theorem cr_rng {d : Dp} (h : DepG d) (item : Int) (dd : Nat) : ∀ k : Nat, 0 ≤ crT d item dd k ∧ crT d item dd k ≤ 100000 * k
  | 0 => by show 0 ≤ (0 : Int) ∧ (0 : Int) ≤ 100000 * ((0 : Nat) : Int); omega
  | k + 1 => by
    have ih := cr_rng h item dd k
    rw [crT]
    cases hx : d.cr[k]? with
    | none => simp only; omega
    | some c =>
      have hr := (h.cr c (List.mem_of_getElem? hx)).2.2
      simp only
      cases decide (c.day = (dd : Int)) && decide (c.item = item)
      · simp only [cond_false]; omega
      · simp only [cond_true]; omega
theorem st_rng {d : Dp} (h : DepG d) (k : Nat) : 0 ≤ d.st.getD k 0 ∧ d.st.getD k 0 ≤ 99999 := by
  rw [List.getD_eq_getElem?_getD]
  cases hx : d.st[k]? with
  | none => show 0 ≤ (0 : Int) ∧ (0 : Int) ≤ 99999; omega
  | some x => exact h.st x (List.mem_of_getElem? hx)
theorem lef_rng {d : Dp} (h : DepG d) (item : Int) : ∀ k : Nat, -(300000 * (k : Int)) ≤ (lefD d item k).1 ∧ (lefD d item k).1 ≤ (lefD d item k).2 ∧ (lefD d item k).2 ≤ 100000 + 3000000 * k
  | 0 => by
    have h1 := st_rng h item.toNat
    show -(300000 * ((0 : Nat) : Int)) ≤ d.st.getD item.toNat 0 ∧ d.st.getD item.toNat 0 ≤ d.st.getD item.toNat 0 ∧ d.st.getD item.toNat 0 ≤ 100000 + 3000000 * ((0 : Nat) : Int)
    omega
  | k + 1 => by
    have ih := lef_rng h item k
    have h1 := need_rng h item k
    have h2 := cr_rng h item k d.cr.length
    have h3 := h.cl
    rw [lefD]; dsimp only; omega
theorem acc_succ {d : Dp} {item : Int} {k : Nat} {x : Fx} (hx : d.fx[k]? = some x) (hd : 0 ≤ x.day) (dd : Nat) : accN d item (k + 1) dd = updF (accN d item k) x.day.toNat ((accN d item k x.day.toNat).1 + (ndV d.each d.tow d.fra x item).1, (accN d item k x.day.toNat).2 + (ndV d.each d.tow d.fra x item).2) dd := by
  rw [accN, hx]
  unfold updF
  simp only
  by_cases e : dd = x.day.toNat
  · rw [if_pos e, decide_eq_true (by omega), e]; rfl
  · rw [if_neg e, decide_eq_false (by omega)]; rfl
theorem upd_upd (N : Nat → Pr) (k : Nat) (a b : Pr) : updF (updF N k a) k b = updF N k b := by
  funext i; unfold updF; by_cases e : i = k
  · rw [if_pos e, if_pos e]
  · rw [if_neg e, if_neg e, if_neg e]
theorem upd_at (N : Nat → Pr) (k : Nat) (a : Pr) : updF N k a k = a := if_pos rfl
theorem nd_at {each tow fra : Int} {x : Fx} {item : Int} (h : 0 ≤ item ∧ item ≤ 2) : ((nd6 each tow fra x).drop (item.toNat * 2)).take 2 = [.int .i64 (ndV each tow fra x item).1, .int .i64 (ndV each tow fra x item).2] := by
  have h3 : item = 0 ∨ item = 1 ∨ item = 2 := by omega
  rcases h3 with rfl | rfl | rfl <;> rfl
theorem st_at {d : Dp} (h : DepG d) {item : Int} (hi : 0 ≤ item ∧ item ≤ 2) : (encI d.st)[item.toNat]? = some [.int .i64 (d.st.getD item.toNat 0)] := by
  have := h.sl
  rw [encI_at (List.getElem?_eq_getElem (show item.toNat < d.st.length by omega)), List.getD_eq_getElem?_getD, List.getElem?_eq_getElem (show item.toNat < d.st.length by omega)]; rfl
def lefT (d : Dp) (item : Int) (k : Nat) : Nat → Pr := fun j => if j < k then lefD d item (j + 1) else (0, 0)
theorem lefT_succ (d : Dp) (item : Int) (k : Nat) : updF (lefT d item k) k (lefD d item (k + 1)) = lefT d item (k + 1) := by
  funext i; unfold updF lefT
  by_cases e : i = k
  · rw [if_pos e, if_pos (by omega), e]
  · rw [if_neg e]
    by_cases h : i < k
    · rw [if_pos h, if_pos (by omega)]
    · rw [if_neg h, if_neg (by omega)]
theorem crT_succ {d : Dp} {item : Int} {dd k : Nat} {c : Cx} (h : d.cr[k]? = some c) : crT d item dd (k + 1) = bif decide (c.day = (dd : Int)) && decide (c.item = item) then crT d item dd k + c.count else crT d item dd k := by rw [crT, h]
set_option maxRecDepth 100000 in
set_option maxHeartbeats 4000000 in
theorem C_balls_run (d : Dp) (a : DA) (item : Int) (hG : DepG d) (hi : 0 ≤ item ∧ item ≤ 2) (w : World) (h : DpR w d a) : C0 Try.prog 101 [d.val a, .int .i64 item] w (.agg (wkC d item).toArray) := by
  have hsc := h.sc
  have hfl := hG.fl
  have hcl := hG.cl
  have hsl := hG.sl
  have hwz : numE 244 (fun _ => 0) = numE 244 (wkF (accN d item 0) (fun _ => (0, 0))) := wk_zero
  refine ⟨en Try.func101 Try.ntmps101 ((((St.init w).share (e := .ro a.sA 1 d.st.length (encI d.st)) h.s rfl rfl rfl).share (e := .ro a.fA 16 d.fx.length (d.fx.map Fx.enc)) h.f rfl rfl rfl).share (e := .ro a.cA 3 d.cr.length (d.cr.map Cx.enc)) h.c rfl rfl rfl) (h := fun F => ?_)⟩
  refine sq (h := ?_)
  refine rg (h := ?_)
  refine bxA (h := fun b0 => ?_)
  refine al (h := fun b1 => ?_)
  refine WL.blkTo (numE 244 fun _ => 0) .here (by rfl) ?_
  rw [hwz]
  refine nl (h := ?_)
  refine q_seq (h := ?_)
  refine sq (h := ?_)
  refine sq (h := ?_)
  refine rg (h := ?_)
  refine WL.y (hy := (by first | exact fa | exact faE)) (h := ?_)
  refine WL.y (hy := (by first | exact ld | exact ldE)) (h := ?_)
  refine WL.y (hy := lenS) (h := ?_)
  refine WL.y (hy := mv) (h := ?_)
  refine nl (h := ?_)
  refine q_seq (h := ?_)
  refine bk (h := ?_)
  refine lp (X := Nat) (I := fun k => k ≤ d.fx.length) (le := fun k => [(1, .int .i64 item), (2, .pointer (some ⟨b0, 0, none⟩)), (4, .pointer (some ⟨b1, 0, none⟩)), (13, .slice a.fA d.fx.length a.fc), (14, .int .i64 d.fx.length), (15, .int .i64 k)]) (Le := fun k => [.blk b1 113 (numE 244 (wkF (accN d item k) (fun _ => (0, 0)))), .blk b0 49 (d.cells a), .ro a.sA 1 d.st.length (encI d.st), .ro a.fA 16 d.fx.length (d.fx.map Fx.enc), .ro a.cA 3 d.cr.length (d.cr.map Cx.enc)]) (μ := fun k => d.fx.length - k) 0 (Nat.zero_le _) (by repeat (first | exact trivial | refine ⟨rfl, ?_⟩)) (by repeat (first | exact SubL.nil | (apply SubL.cons; (repeat (first | exact At.here | apply At.there))) | exact SubL.refl _ | apply SubL.skip)) (fun k hk => ?_)
  refine sq (h := ?_)
  refine rg (h := ?_)
  refine WL.y (hy := lss) (h := ?_)
  refine nl (h := ?_)
  refine q_seq (h := ?_)
  refine sq (h := ?_)
  refine cd (by exact rfl) (fun h0 => ?_) (fun h0 => ?_)
  · skip
    have hkn : k < d.fx.length := by have := of_decide_eq_true h0; omega
    obtain ⟨x, hx⟩ : ∃ x, d.fx[k]? = some x := ⟨_, List.getElem?_eq_getElem hkn⟩
    have hxg := hG.fx x (List.mem_of_getElem? hx)
    have hdl : x.day.toNat < 61 := by omega
    have hnr := nd_rng (item := item) ⟨hG.k1, hG.k2, hG.k3⟩ hxg.2
    have har := acc_rng hG item x.day.toNat k
    have hacc : updF (accN d item k) x.day.toNat ((accN d item k x.day.toNat).1 + (ndV d.each d.tow d.fra x item).1, (accN d item k x.day.toNat).2 + (ndV d.each d.tow d.fra x item).2) = accN d item (k + 1) := funext fun dd => (acc_succ hx hxg.1.1 dd).symm
    refine skp (h := ?_)
    refine q_seq (h := ?_)
    refine sq (h := ?_)
    refine bk (h := ?_)
    refine sq (h := ?_)
    refine rg (h := ?_)
    refine WL.y (hy := ix (A := a.fA) (m := d.fx.length)) (h := ?_)
    refine WL.y (hy := ldEW (A := a.fA) (hk := map_at hx)) (h := ?_)
    refine al (h := fun bx => ?_)
    first | refine stA (h := ?_) | refine stEA (h := ?_)
    refine nl (h := ?_)
    refine q_seq (h := ?_)
    refine sq (h := ?_)
    refine rg (h := ?_)
    refine WL.y (hy := (by first | exact fa | exact faE)) (h := ?_)
    refine WL.y (hy := (by first | exact ldA | exact ldEA)) (h := ?_)
    refine WL.y (hy := (by first | exact ldA | exact ldEA)) (h := ?_)
    refine cl0 (hc := fun w hS => C_balls_needs d.each d.tow d.fra x ⟨hG.k1, hG.k2, hG.k3⟩ hxg.2 w ((hS.old (h.x x (List.mem_of_getElem? hx)).r).get)) (h := ?_)
    refine WL.y (hy := mv) (h := ?_)
    refine WL.y (hy := ixv) (h := ?_)
    rw [nd_at hi]
    refine al (h := fun bn => ?_)
    first | refine stA (h := ?_) | refine stEA (h := ?_)
    refine nl (h := ?_)
    refine q_seq (h := ?_)
    refine sq (h := ?_)
    refine rgD (by kernel_rfl) [(1000000, .blk bx 60 x.enc), (1000000, .blk bn 39 [.int .i64 (ndV d.each d.tow d.fra x item).1, .int .i64 (ndV d.each d.tow d.fra x item).2]), (12, .blk b1 113 (numE 244 (wkF (accN d item k) (fun _ => (0, 0)))))] (by repeat (first | exact HS.nil | (apply HS.keep; (repeat (first | exact At.here | apply At.there))) | (apply HS.ro; (repeat (first | exact Rds.ro | exact Rds.own | apply Rds.there))))) (h := ?_)
    refine tk 0 (hy := (by first | exact fa | exact faE)) (h := ?_)
    refine tk 1 (hy := (by first | exact ld | exact ldE)) (h := ?_)
    refine tk 2 (hy := (by first | exact fa | exact faE)) (h := ?_)
    refine tk 3 (hy := ixA (hb := by omega)) (h := ?_)
    refine tk 4 (hy := (by first | exact fa | exact faE)) (h := ?_)
    refine tk 5 (hy := ld (hc := wk_need1 (accN d item k) (fun _ => (0, 0)) hdl (by omega))) (h := ?_)
    refine tk 6 (hy := (by first | exact fa | exact faE)) (h := ?_)
    refine tk 7 (hy := (by first | exact ld | exact ldE)) (h := ?_)
    refine tk 8 (hy := addI) (h := ?_)
    refine tk 9 (hy := (by first | exact fa | exact faE)) (h := ?_)
    refine tk 10 (hy := ixA (hb := by omega)) (h := ?_)
    refine tk 11 (hy := (by first | exact fa | exact faE)) (h := ?_)
    refine one 12 (h := ?_)
    refine stI (ho := by rw [numE_len]; omega) (h := ?_)
    rw [numE_set, wk_lo (k := x.day.toNat) _ _ hdl (by omega)]
    refine nx (h := ?_)
    refine dn (h := ?_)
    refine q_seq (h := ?_)
    refine rgD (by kernel_rfl) [(1000000, .blk bx 60 x.enc), (1000000, .blk bn 39 [.int .i64 (ndV d.each d.tow d.fra x item).1, .int .i64 (ndV d.each d.tow d.fra x item).2]), (12, .blk b1 113 (numE 244 (wkF (updF (accN d item k) x.day.toNat ((accN d item k x.day.toNat).1 + (ndV d.each d.tow d.fra x item).1, (accN d item k x.day.toNat).2)) (fun _ => (0, 0)))))] (by repeat (first | exact HS.nil | (apply HS.keep; (repeat (first | exact At.here | apply At.there))) | (apply HS.ro; (repeat (first | exact Rds.ro | exact Rds.own | apply Rds.there))))) (h := ?_)
    refine tk 0 (hy := (by first | exact fa | exact faE)) (h := ?_)
    refine tk 1 (hy := (by first | exact ld | exact ldE)) (h := ?_)
    refine tk 2 (hy := (by first | exact fa | exact faE)) (h := ?_)
    refine tk 3 (hy := ixA (hb := by omega)) (h := ?_)
    refine tk 4 (hy := (by first | exact fa | exact faE)) (h := ?_)
    refine tk 5 (hy := ld (v := .int .i64 (accN d item k x.day.toNat).2) (hc := (wk_need2 _ (fun _ => (0, 0)) hdl (by omega)).trans (by rw [upd_at]))) (h := ?_)
    refine tk 6 (hy := (by first | exact fa | exact faE)) (h := ?_)
    refine tk 7 (hy := (by first | exact ld | exact ldE)) (h := ?_)
    refine tk 8 (hy := addI) (h := ?_)
    refine tk 9 (hy := (by first | exact fa | exact faE)) (h := ?_)
    refine tk 10 (hy := ixA (hb := by omega)) (h := ?_)
    refine tk 11 (hy := (by first | exact fa | exact faE)) (h := ?_)
    refine one 12 (h := ?_)
    refine stI (ho := by rw [numE_len]; omega) (h := ?_)
    rw [numE_set, wk_hi (k := x.day.toNat) _ _ hdl (by omega), upd_upd, upd_at, hacc]
    refine nx (h := ?_)
    refine dn (h := ?_)
    refine q_blk_norm (h := ?_)
    refine q_seq (h := ?_)
    refine rg (h := ?_)
    refine WL.y (hy := addI) (h := ?_)
    refine WL.y (hy := mv) (h := ?_)
    refine nl (h := ?_)
    refine rn (x := k) (k + 1) hkn (by omega) (by repeat (first | exact trivial | refine ⟨rfl, ?_⟩)) (by repeat (first | exact SubL.nil | (apply SubL.cons; (repeat (first | exact At.here | apply At.there))) | exact SubL.refl _ | apply SubL.skip))
  · skip
    have hkn : k = d.fx.length := by have := of_decide_eq_false h0; omega
    rw [hkn]
    refine et (h := ?_)
    refine q_then_exit (h := ?_)
    refine q_then_exit (h := ?_)
    refine q_blk_hit (h := ?_)
    refine q_seq (h := ?_)
    refine sq (h := ?_)
    refine rgD0 (by kernel_rfl) (h := ?_)
    refine tk 0 (hy := (by first | exact fa | exact faE)) (h := ?_)
    refine tk 1 (hy := (by first | exact ld | exact ldE)) (h := ?_)
    refine tk 2 (hy := mv) (h := ?_)
    refine tk 3 (hy := ix (A := a.sA) (m := d.st.length)) (h := ?_)
    refine tk 4 (hy := ldE (A := a.sA) (hk := st_at hG hi)) (h := ?_)
    refine tk 5 (hy := (by first | exact fa | exact faE)) (h := ?_)
    refine tk 6 (hy := (by first | exact ld | exact ldE)) (h := ?_)
    refine tk 7 (hy := mv) (h := ?_)
    refine tk 8 (hy := ix (A := a.sA) (m := d.st.length)) (h := ?_)
    refine tk 9 (hy := ldE (A := a.sA) (hk := st_at hG hi)) (h := ?_)
    refine tk 10 (hy := bd) (h := ?_)
    refine one 11 (h := ?_)
    refine al (h := fun bl => ?_)
    refine nx (h := ?_)
    refine one 12 (h := ?_)
    first | refine stA (h := ?_) | refine stEA (h := ?_)
    refine nx (h := ?_)
    refine dn (h := ?_)
    refine q_seq (h := ?_)
    refine sq (h := ?_)
    refine sq (h := ?_)
    refine rg (h := ?_)
    refine WL.y (hy := mv) (h := ?_)
    refine nl (h := ?_)
    refine q_seq (h := ?_)
    refine bk (h := ?_)
    refine lp (X := Nat) (I := fun z => z ≤ 61) (le := fun z => [(1, .int .i64 item), (2, .pointer (some ⟨b0, 0, none⟩)), (4, .pointer (some ⟨b1, 0, none⟩)), (8, .pointer (some ⟨bl, 0, none⟩)), (61, .int .i64 z)]) (Le := fun z => [.blk bl 39 [.int .i64 (lefD d item z).1, .int .i64 (lefD d item z).2], .blk b1 113 (numE 244 (wkF (needD d item) (lefT d item z))), .blk b0 49 (d.cells a), .ro a.sA 1 d.st.length (encI d.st), .ro a.fA 16 d.fx.length (d.fx.map Fx.enc), .ro a.cA 3 d.cr.length (d.cr.map Cx.enc)]) (μ := fun z => 61 - z) 0 (Nat.zero_le _) (by repeat (first | exact trivial | refine ⟨rfl, ?_⟩)) (by repeat (first | exact SubL.nil | (apply SubL.cons; (repeat (first | exact At.here | apply At.there))) | exact SubL.refl _ | apply SubL.skip)) (fun z hz => ?_)
    refine sq (h := ?_)
    refine rg (h := ?_)
    refine WL.y (hy := lss) (h := ?_)
    refine nl (h := ?_)
    refine q_seq (h := ?_)
    refine sq (h := ?_)
    refine cd (by exact rfl) (fun h1 => ?_) (fun h1 => ?_)
    · skip
      have hz61 : z < 61 := by have := of_decide_eq_true h1; omega
      have hlr := lef_rng hG item z
      have hnr := need_rng hG item z
      refine skp (h := ?_)
      refine q_seq (h := ?_)
      refine sq (h := ?_)
      refine bk (h := ?_)
      refine sq (h := ?_)
      refine rg (h := ?_)
      refine WL.y (hy := mv) (h := ?_)
      refine WL.y (hy := asg) (h := ?_)
      refine nl (h := ?_)
      refine q_seq (h := ?_)
      refine sq (h := ?_)
      refine sq (h := ?_)
      refine rg (h := ?_)
      refine WL.y (hy := (by first | exact fa | exact faE)) (h := ?_)
      refine WL.y (hy := (by first | exact ld | exact ldE)) (h := ?_)
      refine WL.y (hy := lenS) (h := ?_)
      refine WL.y (hy := mv) (h := ?_)
      refine nl (h := ?_)
      refine q_seq (h := ?_)
      refine bk (h := ?_)
      refine lp (X := Nat) (I := fun j => j ≤ d.cr.length) (le := fun j => [(1, .int .i64 item), (2, .pointer (some ⟨b0, 0, none⟩)), (4, .pointer (some ⟨b1, 0, none⟩)), (8, .pointer (some ⟨bl, 0, none⟩)), (9, .int .i64 z), (61, .int .i64 z), (65, .slice a.cA d.cr.length a.cc), (66, .int .i64 d.cr.length), (67, .int .i64 j)]) (Le := fun j => [.blk bl 39 [.int .i64 ((lefD d item z).1 + crT d item z j), .int .i64 ((lefD d item z).2 + crT d item z j)], .blk b1 113 (numE 244 (wkF (needD d item) (lefT d item z))), .blk b0 49 (d.cells a), .ro a.sA 1 d.st.length (encI d.st), .ro a.fA 16 d.fx.length (d.fx.map Fx.enc), .ro a.cA 3 d.cr.length (d.cr.map Cx.enc)]) (μ := fun j => d.cr.length - j) 0 (Nat.zero_le _) (by repeat (first | exact trivial | refine ⟨rfl, ?_⟩)) (by rw [show (lefD d item z).1 + crT d item z 0 = (lefD d item z).1 from Int.add_zero _, show (lefD d item z).2 + crT d item z 0 = (lefD d item z).2 from Int.add_zero _]; repeat (first | exact SubL.nil | (apply SubL.cons; (repeat (first | exact At.here | apply At.there))) | exact SubL.refl _ | apply SubL.skip)) (fun j hj => ?_)
      refine sq (h := ?_)
      refine rg (h := ?_)
      refine WL.y (hy := lss) (h := ?_)
      refine nl (h := ?_)
      refine q_seq (h := ?_)
      refine sq (h := ?_)
      refine cd (by exact rfl) (fun h2 => ?_) (fun h2 => ?_)
      · skip
        have hjn : j < d.cr.length := by have := of_decide_eq_true h2; omega
        obtain ⟨y, hc⟩ : ∃ y, d.cr[j]? = some y := ⟨_, List.getElem?_eq_getElem hjn⟩
        have hyr := (hG.cr y (List.mem_of_getElem? hc)).2.2
        have hcr := cr_rng hG item z j
        have hcs := crT_succ (item := item) (dd := z) hc
        refine skp (h := ?_)
        refine q_seq (h := ?_)
        refine sq (h := ?_)
        refine bk (h := ?_)
        refine sq (h := ?_)
        refine rg (h := ?_)
        refine WL.y (hy := ix (A := a.cA) (m := d.cr.length)) (h := ?_)
        refine WL.y (hy := ldEW (A := a.cA) (hk := map_at hc)) (h := ?_)
        refine al (h := fun bc => ?_)
        first | refine stA (h := ?_) | refine stEA (h := ?_)
        refine nl (h := ?_)
        refine q_seq (h := ?_)
        refine sq (h := ?_)
        refine rg (h := ?_)
        refine WL.y (hy := (by first | exact fa | exact faE)) (h := ?_)
        refine WL.y (hy := (by first | exact ld | exact ldE)) (h := ?_)
        refine WL.y (hy := mv) (h := ?_)
        refine WL.y (hy := eql) (h := ?_)
        refine WL.y (hy := mv) (h := ?_)
        apply brAnd 5 75 80 (by exact rfl)
        · intro hb3
          refine un (h := ?_)
          refine WL.y (hy := (by first | exact fa | exact faE)) (h := ?_)
          refine un (h := ?_)
          refine WL.y (hy := (by first | exact ld | exact ldE)) (h := ?_)
          refine un (h := ?_)
          refine WL.y (hy := mv) (h := ?_)
          refine un (h := ?_)
          refine WL.y (hy := eql) (h := ?_)
          refine WL.y (hy := (by first | exact pkT | exact pkF)) (h := ?_)
          exact mg (by repeat (first | exact trivial | refine ⟨rfl, ?_⟩ | refine ⟨by rw [hb3]; rfl, ?_⟩)) (by repeat (first | exact SubL.nil | (apply SubL.cons; (repeat (first | exact At.here | apply At.there))) | exact SubL.refl _ | apply SubL.skip))
        · intro hb3
          repeat (first | refine un (h := ?_) | refine sk (h := ?_) | refine WL.y (hy := pkF) (h := ?_) | refine WL.y (hy := pkT) (h := ?_))
          exact mg (by repeat (first | exact trivial | refine ⟨rfl, ?_⟩ | refine ⟨by rw [hb3]; rfl, ?_⟩)) (by repeat (first | exact SubL.nil | (apply SubL.cons; (repeat (first | exact At.here | apply At.there))) | exact SubL.refl _ | apply SubL.skip))
        refine nl (h := ?_)
        refine q_seq (h := ?_)
        refine cd (by exact rfl) (fun h4 => ?_) (fun h4 => ?_)
        · skip
          rw [h4, cond_true] at hcs
          have hc1 : (lefD d item z).1 + crT d item z (j + 1) = (lefD d item z).1 + crT d item z j + y.count := by rw [hcs]; omega
          have hc2 : (lefD d item z).2 + crT d item z (j + 1) = (lefD d item z).2 + crT d item z j + y.count := by rw [hcs]; omega
          refine sq (h := ?_)
          refine rg (h := ?_)
          refine WL.y (hy := (by first | exact fa | exact faE)) (h := ?_)
          refine WL.y (hy := (by first | exact ld | exact ldE)) (h := ?_)
          refine WL.y (hy := (by first | exact fa | exact faE)) (h := ?_)
          refine WL.y (hy := (by first | exact ld | exact ldE)) (h := ?_)
          refine WL.y (hy := addI) (h := ?_)
          refine WL.y (hy := (by first | exact fa | exact faE)) (h := ?_)
          first | refine st (h := ?_) | refine stE (h := ?_)
          refine nl (h := ?_)
          refine q_seq (h := ?_)
          refine rg (h := ?_)
          refine WL.y (hy := (by first | exact fa | exact faE)) (h := ?_)
          refine WL.y (hy := (by first | exact ld | exact ldE)) (h := ?_)
          refine WL.y (hy := (by first | exact fa | exact faE)) (h := ?_)
          refine WL.y (hy := (by first | exact ld | exact ldE)) (h := ?_)
          refine WL.y (hy := addI) (h := ?_)
          refine WL.y (hy := (by first | exact fa | exact faE)) (h := ?_)
          first | refine st (h := ?_) | refine stE (h := ?_)
          refine nl (h := ?_)
          refine q_blk_norm (h := ?_)
          refine q_seq (h := ?_)
          refine rg (h := ?_)
          refine WL.y (hy := addI) (h := ?_)
          refine WL.y (hy := mv) (h := ?_)
          refine nl (h := ?_)
          refine rn (x := j) (j + 1) hjn (by omega) (by repeat (first | exact trivial | refine ⟨rfl, ?_⟩)) (by rw [hc1, hc2]; repeat (first | exact SubL.nil | (apply SubL.cons; (repeat (first | exact At.here | apply At.there))) | exact SubL.refl _ | apply SubL.skip))
        · skip
          rw [h4, cond_false] at hcs
          have hc1 : (lefD d item z).1 + crT d item z (j + 1) = (lefD d item z).1 + crT d item z j := by rw [hcs]
          have hc2 : (lefD d item z).2 + crT d item z (j + 1) = (lefD d item z).2 + crT d item z j := by rw [hcs]
          refine skp (h := ?_)
          refine q_blk_norm (h := ?_)
          refine q_seq (h := ?_)
          refine rg (h := ?_)
          refine WL.y (hy := addI) (h := ?_)
          refine WL.y (hy := mv) (h := ?_)
          refine nl (h := ?_)
          refine rn (x := j) (j + 1) hjn (by omega) (by repeat (first | exact trivial | refine ⟨rfl, ?_⟩)) (by rw [hc1, hc2]; repeat (first | exact SubL.nil | (apply SubL.cons; (repeat (first | exact At.here | apply At.there))) | exact SubL.refl _ | apply SubL.skip))
      · skip
        have hjn : j = d.cr.length := by have := of_decide_eq_false h2; omega
        rw [hjn]
        have hcr := cr_rng hG item z d.cr.length
        refine et (h := ?_)
        refine q_then_exit (h := ?_)
        refine q_then_exit (h := ?_)
        refine q_blk_hit (h := ?_)
        refine q_seq (h := ?_)
        refine sq (h := ?_)
        refine rgD (by kernel_rfl) [(9, .blk bl 39 _), (1000000, .blk b1 113 (numE 244 (wkF (needD d item) (lefT d item z))))] (by repeat (first | exact HS.nil | (apply HS.keep; (repeat (first | exact At.here | apply At.there))) | (apply HS.ro; (repeat (first | exact Rds.ro | exact Rds.own | apply Rds.there))))) (h := ?_)
        refine tk 0 (hy := (by first | exact fa | exact faE)) (h := ?_)
        refine tk 1 (hy := (by first | exact ld | exact ldE)) (h := ?_)
        refine tk 2 (hy := mv) (h := ?_)
        refine tk 3 (hy := (by first | exact fa | exact faE)) (h := ?_)
        refine tk 4 (hy := ixA (hb := by omega)) (h := ?_)
        refine tk 5 (hy := (by first | exact fa | exact faE)) (h := ?_)
        refine tk 6 (hy := ld (hc := wk_need2 (needD d item) (lefT d item z) hz61 (by omega))) (h := ?_)
        refine tk 7 (hy := subI) (h := ?_)
        refine tk 8 (hy := (by first | exact fa | exact faE)) (h := ?_)
        refine one 9 (h := ?_)
        first | refine st (h := ?_) | refine stE (h := ?_)
        refine nx (h := ?_)
        refine dn (h := ?_)
        refine q_seq (h := ?_)
        refine sq (h := ?_)
        refine rgD (by kernel_rfl) [(9, .blk bl 39 _), (1000000, .blk b1 113 (numE 244 (wkF (needD d item) (lefT d item z))))] (by repeat (first | exact HS.nil | (apply HS.keep; (repeat (first | exact At.here | apply At.there))) | (apply HS.ro; (repeat (first | exact Rds.ro | exact Rds.own | apply Rds.there))))) (h := ?_)
        refine tk 0 (hy := (by first | exact fa | exact faE)) (h := ?_)
        refine tk 1 (hy := (by first | exact ld | exact ldE)) (h := ?_)
        refine tk 2 (hy := mv) (h := ?_)
        refine tk 3 (hy := (by first | exact fa | exact faE)) (h := ?_)
        refine tk 4 (hy := ixA (hb := by omega)) (h := ?_)
        refine tk 5 (hy := (by first | exact fa | exact faE)) (h := ?_)
        refine tk 6 (hy := ld (hc := wk_need1 (needD d item) (lefT d item z) hz61 (by omega))) (h := ?_)
        refine tk 7 (hy := subI) (h := ?_)
        refine tk 8 (hy := (by first | exact fa | exact faE)) (h := ?_)
        refine one 9 (h := ?_)
        first | refine st (h := ?_) | refine stE (h := ?_)
        refine nx (h := ?_)
        refine dn (h := ?_)
        refine q_seq (h := ?_)
        refine rg (h := ?_)
        refine WL.y (hy := mv) (h := ?_)
        refine WL.y (hy := (by first | exact ldA | exact ldEA)) (h := ?_)
        refine WL.y (hy := (by first | exact fa | exact faE)) (h := ?_)
        refine WL.y (hy := ixA) (h := ?_)
        refine stP (vs := [.int .i64 (lefD d item (z + 1)).1, .int .i64 (lefD d item (z + 1)).2]) (h1 := fun v hv => by simp only [List.mem_cons, List.not_mem_nil, or_false] at hv; rcases hv with rfl | rfl <;> rfl) (hsz := rfl) (ho := by rw [numE_len]; simp only [List.length_cons, List.length_nil]; omega) (h := ?_)
        rw [wk_left (k := z) _ _ hz61 (by omega) (lefD d item (z + 1)), lefT_succ]
        refine nl (h := ?_)
        refine q_blk_norm (h := ?_)
        refine q_seq (h := ?_)
        refine rg (h := ?_)
        refine WL.y (hy := addI) (h := ?_)
        refine WL.y (hy := mv) (h := ?_)
        refine nl (h := ?_)
        refine rn (x := z) (z + 1) hz61 (by omega) (by repeat (first | exact trivial | refine ⟨rfl, ?_⟩)) (by repeat (first | exact SubL.nil | (apply SubL.cons; (repeat (first | exact At.here | apply At.there))) | exact SubL.refl _ | apply SubL.skip))
    · skip
      have hz61 : z = 61 := by have := of_decide_eq_false h1; omega
      rw [hz61, wk_congr (N := needD d item) (L := lefT d item 61) (N' := needD d item) (L' := fun j => lefD d item (j + 1)) (fun _ _ => rfl) (fun j hj => if_pos hj)]
      refine et (h := ?_)
      refine q_then_exit (h := ?_)
      refine q_then_exit (h := ?_)
      refine q_blk_hit (h := ?_)
      refine q_seq (h := ?_)
      refine sq (h := ?_)
      refine rg (h := ?_)
      refine WL.y (hy := ldW (hl := numE_len _ _)) (h := ?_)
      refine stW (h1 := numE_one) (hsz := numE_len _ _) (ho := rfl) (h := ?_)
      refine nl (h := ?_)
      refine q_seq (h := ?_)
      refine rtn (h := ?_)
      refine q_ret (h := (Res.cellA inferInstance (by exact rfl) (by repeat (first | exact At.here | apply At.there)) (tk_num 244 _) Res.nil)) (hR := ?_)
      exact fun w hS => ⟨rfl, hS.sub (by repeat (first | exact SubL.nil | (apply SubL.cons; (repeat (first | exact At.here | apply At.there))) | exact SubL.refl _ | apply SubL.skip))⟩
end Go.Proofs.Ytacaojifempclaa

namespace Go.Proofs.Ytacaojifempclaa
open Go Go.RowKit

def askE (d : Dp) (item day : Int) : Int := bif !decide (depE d = 0) then depE d else bif !wi item 0 2 || !wi day 0 60 then 1 else 0
def askW (d : Dp) (item day : Int) : List Value := bif decide (askE d item day = 0) then wkC d item else numE 244 fun _ => 0
theorem askW_len (d : Dp) (item day : Int) : (askW d item day).length = 244 := by
  unfold askW; cases decide (askE d item day = 0)
  · exact numE_len _ _
  · exact numE_len _ _
theorem askW_one (d : Dp) (item day : Int) : ∀ v ∈ askW d item day, v.oneCell' = true := by
  unfold askW; cases decide (askE d item day = 0)
  · exact numE_one
  · exact numE_one
theorem ask_ok {d : Dp} {item day : Int} (h : askE d item day = 0) : DepG d ∧ (0 ≤ item ∧ item ≤ 2) ∧ 0 ≤ day ∧ day ≤ 60 := by
  unfold askE at h
  cases h1 : !decide (depE d = 0)
  · rw [h1, cond_false] at h
    cases h2 : !wi item 0 2 || !wi day 0 60
    · rw [Bool.or_eq_false_iff, Bool.not_eq_false', Bool.not_eq_false'] at h2
      exact ⟨dep_good (dep_ok (by simpa using h1)), wi_iff.1 h2.1, wi_iff.1 h2.2⟩
    · rw [h2] at h; cases h
  · rw [h1, cond_true] at h
    rw [h] at h1; cases h1
theorem askW_ok {d : Dp} {item day : Int} (h : askE d item day = 0) : askW d item day = wkC d item := by rw [askW, decide_eq_true h]; rfl
set_option maxRecDepth 100000 in
theorem C_balls_ask (d : Dp) (a : DA) (item day : Int) (w : World) (h : DpR w d a) : C0 Try.prog 62 [d.val a, .int .i64 item, .int .i64 day] w (.tuple #[.agg (askW d item day).toArray, .int .i64 (askE d item day)]) := by
  refine ⟨en Try.func62 Try.ntmps62 ((St.init w).share (e := .ro a.sA 1 d.st.length (encI d.st)) h.s rfl rfl rfl) (h := fun F => ?_)⟩
  refine sq (h := ?_)
  refine rg (h := ?_)
  refine bxA (h := fun b0 => ?_)
  refine al (h := fun b1 => ?_)
  refine WL.blkTo (numE 244 fun _ => 0) .here (by rfl) ?_
  refine WL.y (hy := asg) (h := ?_)
  refine nl (h := ?_)
  refine q_seq (h := ?_)
  refine sq (h := ?_)
  refine sq (h := ?_)
  refine rg (h := ?_)
  refine WL.y (hy := (by first | exact ldA | exact ldEA)) (h := ?_)
  refine cl0 (hc := fun w hS => C_balls_Check d a w (h.old hS)) (h := ?_)
  refine WL.y (hy := asg) (h := ?_)
  refine nl (h := ?_)
  refine q_seq (h := ?_)
  refine sq (h := ?_)
  refine rg (h := ?_)
  refine WL.y (hy := mv) (h := ?_)
  refine WL.y (hy := neq) (h := ?_)
  refine nl (h := ?_)
  refine q_seq (h := ?_)
  refine cd (by exact rfl) (fun h0 => ?_) (fun h0 => ?_)
  · skip
    have hE : askE d item day = depE d := by rw [askE, h0]; rfl
    have hW : askW d item day = numE 244 fun _ => 0 := by rw [askW, hE, show decide (depE d = 0) = false by simpa using h0]; rfl
    refine sq (h := ?_)
    refine rg (h := ?_)
    refine WL.y (hy := Yd.to (v' := .agg (numE 244 fun _ => 0).toArray) bd (by rfl)) (h := ?_)
    refine WL.y (hy := mv) (h := ?_)
    refine stW (h1 := numE_one) (hsz := numE_len _ _) (ho := rfl) (h := ?_)
    refine WL.y (hy := asg) (h := ?_)
    refine nl (h := ?_)
    refine q_seq (h := ?_)
    refine rtn (h := ?_)
    refine q_then_ret (h := ?_)
    refine q_ret (h := (Res.cellA inferInstance (by exact rfl) (by repeat (first | exact At.here | apply At.there)) (tk_num 244 _) (Res.tmp (by exact rfl) Res.nil))) (hR := ?_)
    rw [hE, hW]
    exact fun w hS => ⟨rfl, hS.sub (by repeat (first | exact SubL.nil | (apply SubL.cons; (repeat (first | exact At.here | apply At.there))) | exact SubL.refl _ | apply SubL.skip))⟩
  · skip
    have hd := h0
    refine skp (h := ?_)
    refine q_seq (h := ?_)
    refine sq (h := ?_)
    refine sq (h := ?_)
    refine rg (h := ?_)
    refine WL.y (hy := mv) (h := ?_)
    refine cl0 (hc := fun w hS => C_balls_within _ _ _ w) (h := ?_)
    refine WL.y (hy := notB) (h := ?_)
    refine WL.y (hy := mv) (h := ?_)
    apply brOr 4 18 22 (by exact rfl)
    · intro hb1
      refine un (h := ?_)
      refine WL.y (hy := mv) (h := ?_)
      refine un (h := ?_)
      refine cl0 (hc := fun w hS => C_balls_within _ _ _ w) (h := ?_)
      refine un (h := ?_)
      refine WL.y (hy := notB) (h := ?_)
      refine WL.y (hy := (by first | exact pkT | exact pkF)) (h := ?_)
      exact mg (by repeat (first | exact trivial | refine ⟨rfl, ?_⟩ | refine ⟨by rw [hb1]; rfl, ?_⟩)) (by repeat (first | exact SubL.nil | (apply SubL.cons; (repeat (first | exact At.here | apply At.there))) | exact SubL.refl _ | apply SubL.skip))
    · intro hb1
      repeat (first | refine un (h := ?_) | refine sk (h := ?_) | refine WL.y (hy := pkF) (h := ?_) | refine WL.y (hy := pkT) (h := ?_))
      exact mg (by repeat (first | exact trivial | refine ⟨rfl, ?_⟩ | refine ⟨by rw [hb1]; rfl, ?_⟩)) (by repeat (first | exact SubL.nil | (apply SubL.cons; (repeat (first | exact At.here | apply At.there))) | exact SubL.refl _ | apply SubL.skip))
    refine nl (h := ?_)
    refine q_seq (h := ?_)
    refine cd (by exact rfl) (fun h2 => ?_) (fun h2 => ?_)
    · skip
      have hE : askE d item day = 1 := by rw [askE, hd, h2]; rfl
      have hW : askW d item day = numE 244 fun _ => 0 := by rw [askW, hE]; rfl
      refine sq (h := ?_)
      refine rg (h := ?_)
      refine WL.y (hy := Yd.to (v' := .agg (numE 244 fun _ => 0).toArray) bd (by rfl)) (h := ?_)
      refine stW (h1 := numE_one) (hsz := numE_len _ _) (ho := rfl) (h := ?_)
      refine WL.y (hy := asg) (h := ?_)
      refine nl (h := ?_)
      refine q_seq (h := ?_)
      refine rtn (h := ?_)
      refine q_then_ret (h := ?_)
      refine q_ret (h := (Res.cellA inferInstance (by exact rfl) (by repeat (first | exact At.here | apply At.there)) (tk_num 244 _) (Res.tmp (by exact rfl) Res.nil))) (hR := ?_)
      rw [hE, hW]
      exact fun w hS => ⟨rfl, hS.sub (by repeat (first | exact SubL.nil | (apply SubL.cons; (repeat (first | exact At.here | apply At.there))) | exact SubL.refl _ | apply SubL.skip))⟩
    · skip
      have hE : askE d item day = 0 := by rw [askE, hd, h2]; rfl
      have hG := ask_ok hE
      have hW := askW_ok hE
      refine skp (h := ?_)
      refine q_seq (h := ?_)
      refine sq (h := ?_)
      refine rg (h := ?_)
      refine WL.y (hy := (by first | exact ldA | exact ldEA)) (h := ?_)
      refine WL.y (hy := mv) (h := ?_)
      refine cl0 (hc := fun w hS => C_balls_run d a item hG.1 hG.2.1 w (h.old hS)) (h := ?_)
      refine stW (cs := numE 244 fun _ => 0) (h1 := numE_one) (hsz := numE_len _ _) (ho := by rw [numE_len, numE_len]) (h := ?_)
      refine WL.y (hy := asg) (h := ?_)
      refine nl (h := ?_)
      refine q_seq (h := ?_)
      refine rtn (h := ?_)
      refine q_ret (h := (Res.cellA inferInstance (by exact rfl) (by repeat (first | exact At.here | apply At.there)) (tk_num 244 _) (Res.tmp (by exact rfl) Res.nil))) (hR := ?_)
      rw [hE, hW]
      exact fun w hS => ⟨rfl, hS.sub (by repeat (first | exact SubL.nil | (apply SubL.cons; (repeat (first | exact At.here | apply At.there))) | exact SubL.refl _ | apply SubL.skip))⟩
def spanE (L : Nat → Pr) (n : Nat) : List (List Value) := (List.range n).map fun k => [.int .i64 (L k).1, .int .i64 (L k).2]
theorem spanE_at (L : Nat → Pr) {n k : Nat} (h : k < n) : (spanE L n)[k]? = some [.int .i64 (L k).1, .int .i64 (L k).2] := by rw [spanE, List.getElem?_map, List.getElem?_range h]; rfl
theorem spanE_len (L : Nat → Pr) (n : Nat) : (spanE L n).length = n := by rw [spanE, List.length_map, List.length_range]
theorem rd_week {b T : Nat} {N L : Nat → Pr} {k n o : Nat} (hn : k + n = 61) (ho : o = 122 + k * 2) (w : World) (h : (Ent.blk b T (numE 244 (wkF N L))).ok w) : Rd w (some ⟨b, o, none⟩) 2 n (spanE (fun j => L (k + j)) n) := by
  have hmem : ∀ c ∈ spanE (fun j => L (k + j)) n, ∃ j, c = [.int .i64 (L (k + j)).1, .int .i64 (L (k + j)).2] := fun c hc => by
    obtain ⟨j, _, rfl⟩ := List.mem_map.1 hc
    exact ⟨j, rfl⟩
  refine rd_blkA h (spanE_len _ _) (fun c hc => by obtain ⟨j, rfl⟩ := hmem c hc; rfl) (fun c hc v hv => by
    obtain ⟨j, rfl⟩ := hmem c hc
    simp only [List.mem_cons, List.not_mem_nil, or_false] at hv
    rcases hv with rfl | rfl <;> rfl) fun j c hj i v hv => ?_
  have hjn : j < n := by
    have := (List.getElem?_eq_some_iff.1 hj).1
    rwa [spanE_len] at this
  rw [spanE_at _ hjn] at hj
  cases hj
  rcases i with _ | _ | i
  · cases hv
    exact wk_left1 N L (k := k + j) (by omega) (by omega)
  · cases hv
    exact wk_left2 N L (k := k + j) (by omega) (by omega)
  · simp at hv
theorem T_IndexSpan {E : Ent} {A : Option Addr} {n c : Nat} {es : List (List Value)} (hE : ∀ w, E.ok w → Rd w A 2 n es) {g : FuncId} (hg : FnOk Try.prog g) (fi cap : List Value) (Lp : List Ent) (p : Nat → Bool) (hn : n ≤ 9223372036854775807) (hlen : es.length = n)
    (hp : ∀ k cs, es[k]? = some cs → Tr Try.prog g (fi ++ [.agg cs.toArray] ++ cap) Lp (fun _ : Unit => True) (fun _ => .bool (p k)) (fun _ => Lp)) :
    Tr Try.prog 63 [.slice A n c, .func (.func g) fi.toArray cap.toArray] (E :: Lp) (Fst p n) (fun j => .int .i64 j) (fun _ => E :: Lp) := by
  refine ⟨fun w0 w R hst => ?_⟩
  refine en Try.func63 Try.ntmps63 hst (h := fun F => ?_)
  refine sq (h := ?_)
  refine rg (h := ?_)
  refine WL.y (hy := asg) (h := ?_)
  refine nl (h := ?_)
  refine q_seq (h := ?_)
  refine sq (h := ?_)
  refine sq (h := ?_)
  refine rg (h := ?_)
  refine WL.y (hy := mv) (h := ?_)
  refine WL.y (hy := lenS) (h := ?_)
  refine WL.y (hy := mv) (h := ?_)
  refine nl (h := ?_)
  refine q_seq (h := ?_)
  refine bk (h := ?_)
  refine lp (X := Nat) (I := fun k => k ≤ n ∧ ∀ i, i < k → p i = false) (le := fun k => [(0, .slice A n c), (1, .func (.func g) fi.toArray cap.toArray), (7, .int .i64 n), (8, .int .i64 k)]) (Le := fun _ => E :: (Lp ++ R)) (μ := fun k => n - k) 0 ⟨by omega, fun i hi => by omega⟩ (by repeat (first | exact trivial | refine ⟨rfl, ?_⟩)) (SubL.refl _) (fun k hk => ?_)
  obtain ⟨hk, hall⟩ := hk
  refine sq (h := ?_)
  refine rg (h := ?_)
  refine WL.y (hy := lss) (h := ?_)
  refine nl (h := ?_)
  refine q_seq (h := ?_)
  refine sq (h := ?_)
  refine cd (by exact rfl) (fun h0 => ?_) (fun h0 => ?_)
  · skip
    have hkn : k < n := by simp only [decide_eq_true_eq] at h0; omega
    have hes : es[k]? = some es[k] := List.getElem?_eq_getElem (by omega)
    refine skp (h := ?_)
    refine q_seq (h := ?_)
    refine sq (h := ?_)
    refine bk (h := ?_)
    refine sq (h := ?_)
    refine rg (h := ?_)
    refine WL.y (hy := mv) (h := ?_)
    refine WL.y (hy := asg) (h := ?_)
    refine nl (h := ?_)
    refine q_seq (h := ?_)
    refine sq (h := ?_)
    refine rg (h := ?_)
    refine WL.y (hy := mv) (h := ?_)
    refine WL.y (hy := mv) (h := ?_)
    refine WL.y (hy := mv) (h := ?_)
    refine WL.y (hy := ix (A := A) (m := n) (hr := Rds.any hE)) (h := ?_)
    refine WL.y (hy := ldEW (A := A) (k := k) (cs := es[k]) (hr := Rds.any hE) (hk := hes)) (h := ?_)
    refine clfT hg (fi := fi) (cap := cap) (by exact rfl) (by repeat (first | exact Evs.nil | (apply Evs.cons; exact rfl))) (hp k _ hes) rfl (Spl.thr (Spl.app _ _)) (h := fun _ _ => ?_)
    refine WL.subL (SubL.cons (At.app _ _) (SubL.refl _)) ?_
    refine nl (h := ?_)
    refine q_seq (h := ?_)
    refine cd (by exact rfl) (fun h1 => ?_) (fun h1 => ?_)
    · skip
      refine sq (h := ?_)
      refine rg (h := ?_)
      refine WL.y (hy := mv) (h := ?_)
      refine WL.y (hy := asg) (h := ?_)
      refine nl (h := ?_)
      refine q_seq (h := ?_)
      refine rtn (h := ?_)
      refine q_blk_ret (h := ?_)
      refine q_then_ret (h := ?_)
      refine q_then_ret (h := ?_)
      refine q_blk_ret (h := ?_)
      refine q_then_ret (h := ?_)
      refine q_ret (hR := ?_)
      exact fun w hS => ⟨_, .inl ⟨k, hkn, rfl, by assumption, hall⟩, rfl, hS⟩
    · skip
      refine skp (h := ?_)
      refine q_blk_norm (h := ?_)
      refine q_seq (h := ?_)
      refine rg (h := ?_)
      refine WL.y (hy := addI) (h := ?_)
      refine WL.y (hy := mv) (h := ?_)
      refine nl (h := ?_)
      refine rn (k + 1) ⟨by omega, fun i hi => ?_⟩ (by omega) (by repeat (first | exact trivial | refine ⟨rfl, ?_⟩)) (SubL.refl _)
      rcases Nat.lt_succ_iff_lt_or_eq.1 hi with h | rfl
      · exact hall i h
      · assumption
  · skip
    have hkn : k = n := by simp only [decide_eq_false_iff_not] at h0; omega
    refine et (h := ?_)
    refine q_then_exit (h := ?_)
    refine q_then_exit (h := ?_)
    refine q_blk_hit (h := ?_)
    refine q_seq (h := ?_)
    refine sq (h := ?_)
    refine rg (h := ?_)
    refine WL.y (hy := asg) (h := ?_)
    refine nl (h := ?_)
    refine q_seq (h := ?_)
    refine rtn (h := ?_)
    refine q_ret (hR := ?_)
    exact fun w hS => ⟨_, .inr ⟨rfl, by subst hkn; exact hall⟩, rfl, hS⟩
def fstV (p : Nat → Bool) (n : Nat) : Int := match (List.range n).find? p with
  | some k => k
  | none => -1
theorem fst_eq {p : Nat → Bool} {n : Nat} {j : Int} (h : Fst p n j) : j = fstV p n := by
  unfold fstV
  rcases h with ⟨k, hk, rfl, hp, hall⟩ | ⟨rfl, hall⟩
  · have : (List.range n).find? p = some k := List.find?_range_eq_some.2 ⟨hp, List.mem_range.2 hk, fun i hi => by rw [hall i hi]; rfl⟩
    rw [this]
  · have : (List.range n).find? p = none := List.find?_range_eq_none.2 fun i hi => by rw [hall i hi]; rfl
    rw [this]
theorem C_Short1 (s : Pr) (w : World) : C0 Try.prog 64 [pv s] w (.bool (decide (s.1 < 0))) := by
  refine ⟨en Try.func64 Try.ntmps64 (St.init w) (h := fun F => ?_)⟩
  refine sq (h := ?_)
  refine rg (h := ?_)
  refine bxA (h := fun b0 => ?_)
  refine WL.y (hy := asg) (h := ?_)
  refine nl (h := ?_)
  refine q_seq (h := ?_)
  refine sq (h := ?_)
  refine rg (h := ?_)
  refine WL.y (hy := (by first | exact fa | exact faE)) (h := ?_)
  refine WL.y (hy := (by first | exact ld | exact ldE)) (h := ?_)
  refine WL.y (hy := lss) (h := ?_)
  refine WL.y (hy := asg) (h := ?_)
  refine nl (h := ?_)
  refine q_seq (h := ?_)
  refine rtn (h := ?_)
  refine q_ret (hR := ?_)
  exact fun w hS => ⟨rfl, hS.sub (by repeat (first | exact SubL.nil | (apply SubL.cons; (repeat (first | exact At.here | apply At.there))) | exact SubL.refl _ | apply SubL.skip))⟩
theorem C_Short2 (s : Pr) (w : World) : C0 Try.prog 65 [pv s] w (.bool (decide (s.2 < 0))) := by
  refine ⟨en Try.func65 Try.ntmps65 (St.init w) (h := fun F => ?_)⟩
  refine sq (h := ?_)
  refine rg (h := ?_)
  refine bxA (h := fun b0 => ?_)
  refine WL.y (hy := asg) (h := ?_)
  refine nl (h := ?_)
  refine q_seq (h := ?_)
  refine sq (h := ?_)
  refine rg (h := ?_)
  refine WL.y (hy := (by first | exact fa | exact faE)) (h := ?_)
  refine WL.y (hy := (by first | exact ld | exact ldE)) (h := ?_)
  refine WL.y (hy := lss) (h := ?_)
  refine WL.y (hy := asg) (h := ?_)
  refine nl (h := ?_)
  refine q_seq (h := ?_)
  refine rtn (h := ?_)
  refine q_ret (hR := ?_)
  exact fun w hS => ⟨rfl, hS.sub (by repeat (first | exact SubL.nil | (apply SubL.cons; (repeat (first | exact At.here | apply At.there))) | exact SubL.refl _ | apply SubL.skip))⟩
def leftR (d : Dp) (item day : Int) : List Value := bif decide (askE d item day = 0) then [pv (lefD d item (day.toNat + 1)), .int .i64 0] else [pv (0, 0), .int .i64 (askE d item day)]
def mayV (d : Dp) (item : Int) : Int := fstV (fun k => decide ((lefD d item (k + 1)).1 < 0)) 61
def sureV (d : Dp) (item : Int) : Int := fstV (fun k => decide ((lefD d item (k + 1)).2 < 0)) 61
def shortR (d : Dp) (item : Int) : List Value := bif decide (askE d item 0 = 0) then [.int .i64 (mayV d item), .int .i64 (sureV d item), .int .i64 0] else [.int .i64 0, .int .i64 0, .int .i64 (askE d item 0)]
def ordT (d : Dp) (item : Int) (day : Nat) : Nat → Int
  | 0 => 0
  | k + 1 => max (ordT d item day k) (-(lefD d item (day + k + 1)).1)
def ordV (d : Dp) (item : Int) (day : Nat) : Int := ordT d item day (61 - day)
def ordR (d : Dp) (item day : Int) : List Value := bif decide (askE d item day = 0) then [.int .i64 (ordV d item day.toNat), .int .i64 0] else [.int .i64 0, .int .i64 (askE d item day)]
set_option maxRecDepth 100000 in
theorem C_balls_Left (d : Dp) (a : DA) (item day : Int) (w : World) (h : DpR w d a) : C0 Try.prog 22 [d.val a, .int .i64 item, .int .i64 day] w (.tuple (leftR d item day).toArray) := by
  refine ⟨en Try.func22 Try.ntmps22 ((St.init w).share (e := .ro a.sA 1 d.st.length (encI d.st)) h.s rfl rfl rfl) (h := fun F => ?_)⟩
  refine sq (h := ?_)
  refine rg (h := ?_)
  refine bxA (h := fun b0 => ?_)
  refine al (h := fun b1 => ?_)
  refine WL.y (hy := asg) (h := ?_)
  refine nl (h := ?_)
  refine q_seq (h := ?_)
  refine sq (h := ?_)
  refine rg (h := ?_)
  refine WL.y (hy := (by first | exact ldA | exact ldEA)) (h := ?_)
  refine WL.y (hy := mv) (h := ?_)
  refine WL.y (hy := mv) (h := ?_)
  refine cl0 (hc := fun w hS => C_balls_ask d a item day w (h.old hS)) (h := ?_)
  refine WL.y (hy := mv) (h := ?_)
  refine WL.y (hy := ex) (h := ?_)
  refine WL.y (hy := ex) (h := ?_)
  refine al (h := fun b1 => ?_)
  refine WL.blkTo (numE 244 fun _ => 0) .here (by rfl) ?_
  refine stW (h1 := askW_one _ _ _) (hsz := askW_len _ _ _) (ho := by rw [askW_len, numE_len]) (h := ?_)
  refine WL.y (hy := asg) (h := ?_)
  refine nl (h := ?_)
  refine q_seq (h := ?_)
  refine sq (h := ?_)
  refine sq (h := ?_)
  refine rg (h := ?_)
  refine WL.y (hy := mv) (h := ?_)
  refine WL.y (hy := neq) (h := ?_)
  refine nl (h := ?_)
  refine q_seq (h := ?_)
  refine cd (by exact rfl) (fun h0 => ?_) (fun h0 => ?_)
  · skip
    have hE : leftR d item day = [pv (0, 0), .int .i64 (askE d item day)] := by rw [leftR, show decide (askE d item day = 0) = false by simpa using h0]; rfl
    refine sq (h := ?_)
    refine rg (h := ?_)
    refine WL.y (hy := bd) (h := ?_)
    refine WL.y (hy := mv) (h := ?_)
    first | refine stA (h := ?_) | refine stEA (h := ?_)
    refine WL.y (hy := asg) (h := ?_)
    refine nl (h := ?_)
    refine q_seq (h := ?_)
    refine rtn (h := ?_)
    refine q_then_ret (h := ?_)
    refine q_ret (hR := ?_)
    rw [hE]
    exact fun w hS => ⟨rfl, hS.sub (by repeat (first | exact SubL.nil | (apply SubL.cons; (repeat (first | exact At.here | apply At.there))) | exact SubL.refl _ | apply SubL.skip))⟩
  · skip
    have hE0 : askE d item day = 0 := by simpa using h0
    have hE : leftR d item day = [pv (lefD d item (day.toNat + 1)), .int .i64 0] := by rw [leftR, decide_eq_true hE0]; rfl
    obtain ⟨hG, hi, hd⟩ := ask_ok hE0
    rw [askW_ok hE0]
    refine skp (h := ?_)
    refine q_seq (h := ?_)
    refine sq (h := ?_)
    refine rg (h := ?_)
    refine WL.y (hy := mv) (h := ?_)
    refine WL.y (hy := (by first | exact fa | exact faE)) (h := ?_)
    refine WL.y (hy := ixA (hb := by omega)) (h := ?_)
    refine WL.y (hy := ldP (vs := [.int .i64 (lefD d item (day.toNat + 1)).1, .int .i64 (lefD d item (day.toNat + 1)).2]) (hc := fun j v hj => by
      rcases j with _ | _ | j
      · cases hj; exact wk_left1 _ _ (k := day.toNat) (by omega) (by omega)
      · cases hj; exact wk_left2 _ _ (k := day.toNat) (by omega) (by omega)
      · simp at hj)) (h := ?_)
    first | refine stA (h := ?_) | refine stEA (h := ?_)
    refine WL.y (hy := asg) (h := ?_)
    refine nl (h := ?_)
    refine q_seq (h := ?_)
    refine rtn (h := ?_)
    refine q_ret (hR := ?_)
    rw [hE]
    exact fun w hS => ⟨rfl, hS.sub (by repeat (first | exact SubL.nil | (apply SubL.cons; (repeat (first | exact At.here | apply At.there))) | exact SubL.refl _ | apply SubL.skip))⟩
set_option maxRecDepth 100000 in
theorem C_balls_Short (d : Dp) (a : DA) (item : Int) (w : World) (h : DpR w d a) : C0 Try.prog 26 [d.val a, .int .i64 item] w (.tuple (shortR d item).toArray) := by
  refine ⟨en Try.func26 Try.ntmps26 ((St.init w).share (e := .ro a.sA 1 d.st.length (encI d.st)) h.s rfl rfl rfl) (h := fun F => ?_)⟩
  refine sq (h := ?_)
  refine rg (h := ?_)
  refine bxA (h := fun b0 => ?_)
  refine WL.y (hy := asg) (h := ?_)
  refine WL.y (hy := asg) (h := ?_)
  refine WL.y (hy := asg) (h := ?_)
  refine nl (h := ?_)
  refine q_seq (h := ?_)
  refine sq (h := ?_)
  refine rg (h := ?_)
  refine WL.y (hy := (by first | exact ldA | exact ldEA)) (h := ?_)
  refine WL.y (hy := mv) (h := ?_)
  refine cl0 (hc := fun w hS => C_balls_ask d a item 0 w (h.old hS)) (h := ?_)
  refine WL.y (hy := mv) (h := ?_)
  refine WL.y (hy := ex) (h := ?_)
  refine WL.y (hy := ex) (h := ?_)
  refine al (h := fun b1 => ?_)
  refine WL.blkTo (numE 244 fun _ => 0) .here (by rfl) ?_
  refine stW (h1 := askW_one _ _ _) (hsz := askW_len _ _ _) (ho := by rw [askW_len, numE_len]) (h := ?_)
  refine WL.y (hy := asg) (h := ?_)
  refine nl (h := ?_)
  refine q_seq (h := ?_)
  refine sq (h := ?_)
  refine sq (h := ?_)
  refine rg (h := ?_)
  refine WL.y (hy := mv) (h := ?_)
  refine WL.y (hy := neq) (h := ?_)
  refine nl (h := ?_)
  refine q_seq (h := ?_)
  refine cd (by exact rfl) (fun h0 => ?_) (fun h0 => ?_)
  · skip
    have hE : shortR d item = [.int .i64 0, .int .i64 0, .int .i64 (askE d item 0)] := by rw [shortR, show decide (askE d item 0 = 0) = false by simpa using h0]; rfl
    refine sq (h := ?_)
    refine rg (h := ?_)
    refine WL.y (hy := mv) (h := ?_)
    refine WL.y (hy := asg) (h := ?_)
    refine WL.y (hy := asg) (h := ?_)
    refine WL.y (hy := asg) (h := ?_)
    refine nl (h := ?_)
    refine q_seq (h := ?_)
    refine rtn (h := ?_)
    refine q_then_ret (h := ?_)
    refine q_ret (hR := ?_)
    rw [hE]
    exact fun w hS => ⟨rfl, hS.sub (by repeat (first | exact SubL.nil | (apply SubL.cons; (repeat (first | exact At.here | apply At.there))) | exact SubL.refl _ | apply SubL.skip))⟩
  · skip
    have hE0 : askE d item 0 = 0 := by simpa using h0
    have hE : shortR d item = [.int .i64 (mayV d item), .int .i64 (sureV d item), .int .i64 0] := by rw [shortR, decide_eq_true hE0]; rfl
    rw [askW_ok hE0]
    refine skp (h := ?_)
    refine q_seq (h := ?_)
    refine sq (h := ?_)
    refine rg (h := ?_)
    refine WL.y (hy := (by first | exact fa | exact faE)) (h := ?_)
    refine WL.y (hy := slA (b := b1) (lo' := 0) (hl := .inl ⟨rfl, rfl⟩) (hne := by omega)) (h := ?_)
    refine WL.y (hy := asg) (h := ?_)
    refine nl (h := ?_)
    refine q_seq (h := ?_)
    refine sq (h := ?_)
    refine rg (h := ?_)
    refine WL.y (hy := mv) (h := ?_)
    refine clT (hc := T_IndexSpan (A := some ⟨b1, 122, none⟩) (n := 61) (c := 61) (es := spanE (fun j => lefD d item (0 + j + 1)) 61) (E := .blk b1 113 (wkC d item)) (fun w hw => rd_week (N := needD d item) (L := fun j => lefD d item (j + 1)) (k := 0) (by omega) (by omega) w hw) inferInstance [] [] [] (fun k => decide ((lefD d item (k + 1)).1 < 0)) (by omega) (spanE_len _ _) (fun k cs hk => C0.tr [] fun w => by
      have hkn : k < 61 := by have := (List.getElem?_eq_some_iff.1 hk).1; rwa [spanE_len] at this
      rw [spanE_at _ hkn, Nat.zero_add] at hk
      cases hk
      exact C_Short1 (lefD d item (k + 1)) w)) (h := fun x1 hx1 => ?_)
    rw [show x1 = mayV d item from fst_eq hx1]
    refine WL.y (hy := asg) (h := ?_)
    refine nl (h := ?_)
    refine q_seq (h := ?_)
    refine sq (h := ?_)
    refine rg (h := ?_)
    refine WL.y (hy := mv) (h := ?_)
    refine clT (hc := T_IndexSpan (A := some ⟨b1, 122, none⟩) (n := 61) (c := 61) (es := spanE (fun j => lefD d item (0 + j + 1)) 61) (E := .blk b1 113 (wkC d item)) (fun w hw => rd_week (N := needD d item) (L := fun j => lefD d item (j + 1)) (k := 0) (by omega) (by omega) w hw) inferInstance [] [] [] (fun k => decide ((lefD d item (k + 1)).2 < 0)) (by omega) (spanE_len _ _) (fun k cs hk => C0.tr [] fun w => by
      have hkn : k < 61 := by have := (List.getElem?_eq_some_iff.1 hk).1; rwa [spanE_len] at this
      rw [spanE_at _ hkn, Nat.zero_add] at hk
      cases hk
      exact C_Short2 (lefD d item (k + 1)) w)) (h := fun x2 hx2 => ?_)
    rw [show x2 = sureV d item from fst_eq hx2]
    refine WL.y (hy := asg) (h := ?_)
    refine nl (h := ?_)
    refine q_seq (h := ?_)
    refine sq (h := ?_)
    refine rg (h := ?_)
    refine WL.y (hy := mv) (h := ?_)
    refine WL.y (hy := mv) (h := ?_)
    refine WL.y (hy := asg) (h := ?_)
    refine WL.y (hy := asg) (h := ?_)
    refine WL.y (hy := asg) (h := ?_)
    refine nl (h := ?_)
    refine q_seq (h := ?_)
    refine rtn (h := ?_)
    refine q_ret (hR := ?_)
    rw [hE]
    exact fun w hS => ⟨rfl, hS.sub (by repeat (first | exact SubL.nil | (apply SubL.cons; (repeat (first | exact At.here | apply At.there))) | exact SubL.refl _ | apply SubL.skip))⟩
set_option maxRecDepth 100000 in
theorem C_balls_Order (d : Dp) (a : DA) (item day : Int) (w : World) (h : DpR w d a) : C0 Try.prog 21 [d.val a, .int .i64 item, .int .i64 day] w (.tuple (ordR d item day).toArray) := by
  refine ⟨en Try.func21 Try.ntmps21 ((St.init w).share (e := .ro a.sA 1 d.st.length (encI d.st)) h.s rfl rfl rfl) (h := fun F => ?_)⟩
  refine sq (h := ?_)
  refine rg (h := ?_)
  refine bxA (h := fun b0 => ?_)
  refine WL.y (hy := asg) (h := ?_)
  refine WL.y (hy := asg) (h := ?_)
  refine nl (h := ?_)
  refine q_seq (h := ?_)
  refine sq (h := ?_)
  refine rg (h := ?_)
  refine WL.y (hy := (by first | exact ldA | exact ldEA)) (h := ?_)
  refine WL.y (hy := mv) (h := ?_)
  refine WL.y (hy := mv) (h := ?_)
  refine cl0 (hc := fun w hS => C_balls_ask d a item day w (h.old hS)) (h := ?_)
  refine WL.y (hy := mv) (h := ?_)
  refine WL.y (hy := ex) (h := ?_)
  refine WL.y (hy := ex) (h := ?_)
  refine al (h := fun b1 => ?_)
  refine WL.blkTo (numE 244 fun _ => 0) .here (by rfl) ?_
  refine stW (h1 := askW_one _ _ _) (hsz := askW_len _ _ _) (ho := by rw [askW_len, numE_len]) (h := ?_)
  refine WL.y (hy := asg) (h := ?_)
  refine nl (h := ?_)
  refine q_seq (h := ?_)
  refine sq (h := ?_)
  refine sq (h := ?_)
  refine rg (h := ?_)
  refine WL.y (hy := mv) (h := ?_)
  refine WL.y (hy := neq) (h := ?_)
  refine nl (h := ?_)
  refine q_seq (h := ?_)
  refine cd (by exact rfl) (fun h0 => ?_) (fun h0 => ?_)
  · skip
    have hE : ordR d item day = [.int .i64 0, .int .i64 (askE d item day)] := by rw [ordR, show decide (askE d item day = 0) = false by simpa using h0]; rfl
    refine sq (h := ?_)
    refine rg (h := ?_)
    refine WL.y (hy := mv) (h := ?_)
    refine WL.y (hy := asg) (h := ?_)
    refine WL.y (hy := asg) (h := ?_)
    refine nl (h := ?_)
    refine q_seq (h := ?_)
    refine rtn (h := ?_)
    refine q_then_ret (h := ?_)
    refine q_ret (hR := ?_)
    rw [hE]
    exact fun w hS => ⟨rfl, hS.sub (by repeat (first | exact SubL.nil | (apply SubL.cons; (repeat (first | exact At.here | apply At.there))) | exact SubL.refl _ | apply SubL.skip))⟩
  · skip
    have hE0 : askE d item day = 0 := by simpa using h0
    have hE : ordR d item day = [.int .i64 (ordV d item day.toNat), .int .i64 0] := by rw [ordR, decide_eq_true hE0]; rfl
    obtain ⟨hG, hi, hd⟩ := ask_ok hE0
    rw [askW_ok hE0]
    obtain ⟨n9, hn9⟩ : ∃ n9, n9 = 61 - day.toNat := ⟨_, rfl⟩
    refine skp (h := ?_)
    refine q_seq (h := ?_)
    refine sq (h := ?_)
    refine rg (h := ?_)
    refine WL.y (hy := asg) (h := ?_)
    refine nl (h := ?_)
    refine q_seq (h := ?_)
    refine sq (h := ?_)
    refine sq (h := ?_)
    refine rg (h := ?_)
    refine WL.y (hy := (by first | exact fa | exact faE)) (h := ?_)
    refine WL.y (hy := mv) (h := ?_)
    refine WL.y (hy := slA (b := b1) (lo' := day.toNat) (hl := .inr ⟨_, _, _, rfl, rfl, hd.1, by omega, rfl⟩) (hne := by omega)) (h := ?_)
    rw [show 61 - day.toNat = n9 from hn9.symm]
    refine WL.y (hy := lenS) (h := ?_)
    refine WL.y (hy := mv) (h := ?_)
    refine nl (h := ?_)
    refine q_seq (h := ?_)
    refine bk (h := ?_)
    refine lp (X := Nat) (I := fun k => k ≤ n9) (le := fun k => [(8, .pointer (some ⟨b1, 0, none⟩)), (10, .int .i64 (ordT d item day.toNat k)), (25, .slice (some ⟨b1, 0 + 122 + day.toNat * 2, none⟩) n9 n9), (26, .int .i64 n9), (27, .int .i64 k)]) (Le := fun k => [.blk b1 113 (wkC d item), .ro a.sA 1 d.st.length (encI d.st)]) (μ := fun k => n9 - k) 0 (Nat.zero_le _) (by repeat (first | exact trivial | refine ⟨rfl, ?_⟩)) (by repeat (first | exact SubL.nil | (apply SubL.cons; (repeat (first | exact At.here | apply At.there))) | exact SubL.refl _ | apply SubL.skip)) (fun k hk => ?_)
    refine sq (h := ?_)
    refine rg (h := ?_)
    refine WL.y (hy := lss) (h := ?_)
    refine nl (h := ?_)
    refine q_seq (h := ?_)
    refine sq (h := ?_)
    refine cd (by exact rfl) (fun h1 => ?_) (fun h1 => ?_)
    · skip
      have hkn : k < n9 := by have := of_decide_eq_true h1; omega
      have hlr := lef_rng hG item (day.toNat + k + 1)
      refine skp (h := ?_)
      refine q_seq (h := ?_)
      refine sq (h := ?_)
      refine bk (h := ?_)
      refine sq (h := ?_)
      refine rg (h := ?_)
      refine WL.y (hy := ix (A := some ⟨b1, 0 + 122 + day.toNat * 2, none⟩) (m := n9) (hr := by repeat (first | exact Rds.any (rd_week (k := day.toNat) (by omega) (by omega)) | apply Rds.there))) (h := ?_)
      refine WL.y (hy := ldEW (A := some ⟨b1, 0 + 122 + day.toNat * 2, none⟩) (hr := by repeat (first | exact Rds.any (rd_week (k := day.toNat) (n := n9) (by omega) (by omega)) | apply Rds.there)) (hk := spanE_at _ hkn)) (h := ?_)
      refine al (h := fun bt => ?_)
      first | refine stA (h := ?_) | refine stEA (h := ?_)
      refine nl (h := ?_)
      refine q_seq (h := ?_)
      refine rg (h := ?_)
      refine WL.y (hy := mv) (h := ?_)
      refine WL.y (hy := (by first | exact fa | exact faE)) (h := ?_)
      refine WL.y (hy := (by first | exact ld | exact ldE)) (h := ?_)
      refine WL.y (hy := negI) (h := ?_)
      refine WL.y (hy := maxI) (h := ?_)
      refine WL.y (hy := asg) (h := ?_)
      refine nl (h := ?_)
      refine q_blk_norm (h := ?_)
      refine q_seq (h := ?_)
      refine rg (h := ?_)
      refine WL.y (hy := addI) (h := ?_)
      refine WL.y (hy := mv) (h := ?_)
      refine nl (h := ?_)
      refine rn (x := k) (k + 1) hkn (by omega) (by repeat (first | exact trivial | refine ⟨rfl, ?_⟩)) (by repeat (first | exact SubL.nil | (apply SubL.cons; (repeat (first | exact At.here | apply At.there))) | exact SubL.refl _ | apply SubL.skip))
    · skip
      have hkn : k = n9 := by have := of_decide_eq_false h1; omega
      rw [hkn, show ordT d item day.toNat n9 = ordV d item day.toNat by rw [hn9]; rfl]
      refine et (h := ?_)
      refine q_then_exit (h := ?_)
      refine q_then_exit (h := ?_)
      refine q_blk_hit (h := ?_)
      refine q_seq (h := ?_)
      refine sq (h := ?_)
      refine rg (h := ?_)
      refine WL.y (hy := mv) (h := ?_)
      refine WL.y (hy := asg) (h := ?_)
      refine WL.y (hy := asg) (h := ?_)
      refine nl (h := ?_)
      refine q_seq (h := ?_)
      refine rtn (h := ?_)
      refine q_ret (hR := ?_)
      rw [hE]
      exact fun w hS => ⟨rfl, hS.sub (by repeat (first | exact SubL.nil | (apply SubL.cons; (repeat (first | exact At.here | apply At.there))) | exact SubL.refl _ | apply SubL.skip))⟩
end Go.Proofs.Ytacaojifempclaa

namespace Go.Proofs.Ytacaojifempclaa
open Go Go.RowKit

theorem accN_succ {d : Dp} {item : Int} {dd k : Nat} {x : Fx} (h : d.fx[k]? = some x) : accN d item (k + 1) dd = bif decide (x.day = (dd : Int)) then ((accN d item k dd).1 + (ndV d.each d.tow d.fra x item).1, (accN d item k dd).2 + (ndV d.each d.tow d.fra x item).2) else accN d item k dd := by rw [accN, h]
end Go.Proofs.Ytacaojifempclaa

namespace Go.Proofs.Ytacaojifempclaa
open Go Go.RowKit

structure CE where
  (won g : Pr) (n t : Int) (v : Cs)
def fndC (l : List CE) (won g : Pr) (n t : Int) : Option CE := l.find? fun e => decide (e.won = won) && decide (e.g = g) && decide (e.n = n) && decide (e.t = t)
def lkC2 (l : List CE) : Pr → Pr → Int → Int → Cs := fun won g n t => match fndC l won g n t with
  | some e => e.v
  | none => zC
def sideOk (f : Fmt) (l : List CE) (e : CE) (side : Int) : Bool := overS f e.won e.g side || (fndC l (wonS f e.won e.g side) (gamS f e.won e.g side) (e.n + 1) (tieN f e.won e.g)).isSome
def okC (f : Fmt) (l : List CE) : Bool := l.all fun e => decide (e.v = orV (courV (lkC2 l) f e.won e.g e.n e.t 0) (courV (lkC2 l) f e.won e.g e.n e.t 1)) && sideOk f l e 0 && sideOk f l e 1
theorem fnd_is {l : List CE} {won g : Pr} {n t : Int} {e : CE} (h : fndC l won g n t = some e) : e ∈ l ∧ e.won = won ∧ e.g = g ∧ e.n = n ∧ e.t = t := by
  have h1 := List.mem_of_find?_eq_some h
  have h2 := List.find?_some h
  simp only [Bool.and_eq_true, decide_eq_true_eq] at h2
  exact ⟨h1, h2.1.1.1, h2.1.1.2, h2.1.2, h2.2⟩
theorem cert_ok {f : Fmt} (hf : f.Ok) (hb : Bdd f) {l : List CE} (h : okC f l = true) : ∀ (k : Nat) (won g : Pr) (n t : Int), Vs f won g → remV f won g ≤ k → (fndC l won g n t).isSome = true → fromP f won g n t = lkC2 l won g n t
  | 0, won, g, n, t, hV, hr, _ => by have := rem_pos hf hb hV; omega
  | k + 1, won, g, n, t, hV, hr, hs => by
    obtain ⟨e, he⟩ := Option.isSome_iff_exists.1 hs
    obtain ⟨hm, rfl, rfl, rfl, rfl⟩ := fnd_is he
    have hok := List.all_eq_true.1 h e hm
    simp only [Bool.and_eq_true, decide_eq_true_eq] at hok
    obtain ⟨⟨hv, h0⟩, h1⟩ := hok
    have hl : lkC2 l e.won e.g e.n e.t = e.v := by unfold lkC2; rw [he]
    have hc : ∀ side : Int, side = 0 ∨ side = 1 → sideOk f l e side = true → courV (fromP f) f e.won e.g e.n e.t side = courV (lkC2 l) f e.won e.g e.n e.t side := fun side hsd hso => by
      unfold courV
      cases ho : overS f e.won e.g side
      · obtain ⟨hV', hr'⟩ := step_ok' hf hb hsd hV ho
        rw [sideOk, ho, Bool.false_or] at hso
        rw [cert_ok hf hb h k _ _ _ _ hV' (by omega) hso]
      · rfl
    rw [from_eq hf hb hV, hl, hv, hc 0 (.inl rfl) h0, hc 1 (.inr rfl) h1]
def exC : List CE := [⟨(0, 0), (0, 0), 0, 0, ((1, 3), (1, 2))⟩, ⟨(0, 0), (0, 1), 1, 0, ((1, 3), (1, 2))⟩, ⟨(0, 0), (1, 0), 1, 0, ((1, 3), (1, 2))⟩, ⟨(0, 0), (1, 1), 2, 0, ((1, 2), (1, 2))⟩, ⟨(0, 0), (1, 2), 3, 0, ((1, 2), (1, 2))⟩, ⟨(0, 0), (2, 1), 3, 0, ((1, 2), (1, 2))⟩, ⟨(0, 0), (2, 2), 4, 0, ((1, 2), (1, 2))⟩, ⟨(0, 1), (0, 0), 2, 0, ((0, 1), (0, 1))⟩, ⟨(0, 1), (0, 0), 4, 0, ((0, 1), (0, 1))⟩, ⟨(0, 1), (0, 0), 5, 1, ((1, 2), (0, 1))⟩, ⟨(0, 1), (0, 1), 3, 0, ((0, 1), (0, 1))⟩, ⟨(0, 1), (0, 1), 5, 0, ((0, 1), (0, 1))⟩, ⟨(0, 1), (0, 1), 6, 0, ((0, 1), (0, 1))⟩, ⟨(0, 1), (1, 0), 3, 0, ((0, 1), (0, 1))⟩, ⟨(0, 1), (1, 0), 5, 0, ((0, 1), (0, 1))⟩, ⟨(0, 1), (1, 0), 6, 0, ((0, 1), (0, 1))⟩, ⟨(0, 1), (1, 1), 4, 0, ((0, 0), (0, 1))⟩, ⟨(0, 1), (1, 1), 6, 0, ((0, 0), (0, 1))⟩, ⟨(0, 1), (1, 1), 7, 0, ((1, 1), (0, 1))⟩, ⟨(0, 1), (1, 2), 5, 0, ((0, 0), (0, 1))⟩, ⟨(0, 1), (1, 2), 7, 0, ((0, 0), (0, 1))⟩, ⟨(0, 1), (1, 2), 8, 0, ((0, 0), (0, 1))⟩, ⟨(0, 1), (2, 1), 5, 0, ((0, 0), (0, 1))⟩, ⟨(0, 1), (2, 1), 7, 0, ((0, 0), (0, 1))⟩, ⟨(0, 1), (2, 1), 8, 0, ((0, 0), (0, 1))⟩, ⟨(0, 1), (2, 2), 6, 0, ((0, 0), (0, 1))⟩, ⟨(0, 1), (2, 2), 8, 0, ((0, 0), (0, 1))⟩, ⟨(0, 1), (2, 2), 9, 0, ((0, 0), (0, 1))⟩, ⟨(1, 0), (0, 0), 2, 0, ((0, 1), (0, 1))⟩, ⟨(1, 0), (0, 0), 4, 0, ((0, 1), (0, 1))⟩, ⟨(1, 0), (0, 0), 5, 1, ((1, 2), (0, 1))⟩, ⟨(1, 0), (0, 1), 3, 0, ((0, 1), (0, 1))⟩, ⟨(1, 0), (0, 1), 5, 0, ((0, 1), (0, 1))⟩, ⟨(1, 0), (0, 1), 6, 0, ((0, 1), (0, 1))⟩, ⟨(1, 0), (1, 0), 3, 0, ((0, 1), (0, 1))⟩, ⟨(1, 0), (1, 0), 5, 0, ((0, 1), (0, 1))⟩, ⟨(1, 0), (1, 0), 6, 0, ((0, 1), (0, 1))⟩, ⟨(1, 0), (1, 1), 4, 0, ((0, 0), (0, 1))⟩, ⟨(1, 0), (1, 1), 6, 0, ((0, 0), (0, 1))⟩, ⟨(1, 0), (1, 1), 7, 0, ((1, 1), (0, 1))⟩, ⟨(1, 0), (1, 2), 5, 0, ((0, 0), (0, 1))⟩, ⟨(1, 0), (1, 2), 7, 0, ((0, 0), (0, 1))⟩, ⟨(1, 0), (1, 2), 8, 0, ((0, 0), (0, 1))⟩, ⟨(1, 0), (2, 1), 5, 0, ((0, 0), (0, 1))⟩, ⟨(1, 0), (2, 1), 7, 0, ((0, 0), (0, 1))⟩, ⟨(1, 0), (2, 1), 8, 0, ((0, 0), (0, 1))⟩, ⟨(1, 0), (2, 2), 6, 0, ((0, 0), (0, 1))⟩, ⟨(1, 0), (2, 2), 8, 0, ((0, 0), (0, 1))⟩, ⟨(1, 0), (2, 2), 9, 0, ((0, 0), (0, 1))⟩, ⟨(1, 1), (0, 0), 4, 0, ((0, 0), (0, 0))⟩, ⟨(1, 1), (0, 0), 6, 0, ((0, 0), (0, 0))⟩, ⟨(1, 1), (0, 0), 7, 0, ((0, 0), (0, 0))⟩, ⟨(1, 1), (0, 0), 7, 1, ((0, 0), (0, 0))⟩, ⟨(1, 1), (0, 0), 8, 0, ((0, 0), (0, 0))⟩, ⟨(1, 1), (0, 0), 9, 0, ((0, 0), (0, 0))⟩, ⟨(1, 1), (0, 0), 9, 1, ((0, 0), (0, 0))⟩, ⟨(1, 1), (0, 0), 10, 1, ((0, 0), (0, 0))⟩]
theorem exC_ok : okC exF exC = true := by kernel_rfl
theorem exF_ok : exF.Ok := fmt_ok (by decide)
theorem exF_bdd : Bdd exF := by unfold Bdd exF; decide
theorem ex_rest1 : restC exF ⟨[], (0, 0), (0, 0)⟩ = ((1, 3), (2, 3)) := by
  have hV : Vs exF (0, 0) (0, 0) := ⟨by decide, by decide⟩
  have h1 := cert_ok exF_ok exF_bdd exC_ok 15 (0, 0) (0, 0) 0 0 hV (by decide) (by kernel_rfl)
  have h2 : lkC2 exC (0, 0) (0, 0) 0 0 = ((1, 3), (1, 2)) := by kernel_rfl
  show bumpC (fromP exF (0, 0) (0, 0) 0 0) false true = _
  rw [h1, h2]; rfl
theorem ex_rest2 : restC exF ⟨[(3, 1)], (0, 1), (0, 0)⟩ = ((0, 1), (0, 1)) := by
  have hV : Vs exF (1, 0) (0, 1) := ⟨by decide, by decide⟩
  have h1 := cert_ok exF_ok exF_bdd exC_ok 15 (1, 0) (0, 1) 5 0 hV (by decide) (by kernel_rfl)
  have h2 : lkC2 exC (1, 0) (0, 1) 5 0 = ((0, 1), (0, 1)) := by kernel_rfl
  show bumpC (fromP exF (1, 0) (0, 1) 5 0) false false = _
  rw [h1, h2]; rfl
theorem ex_arises2 : arisesV exF ⟨[(3, 1)], (0, 1), (0, 0)⟩ = ((1, 0), true) := by
  have h0 : setsTo (tableV exF) exF [((3 : Int), (1 : Int))] 0 = ⟨(0, 0), 1, true⟩ := rfl
  have h1 : setsTo (tableV exF) exF [((3 : Int), (1 : Int))] (0 + 1) = setStep (tableV exF) exF (setsTo (tableV exF) exF [((3 : Int), (1 : Int))] 0) (3, 1) := setsTo_succ rfl (by rw [h0])
  have h2 : setV exF (0, 0) = (2, 3) := by decide
  have h3 : setsTo (tableV exF) exF (Brd.mk [(3, 1)] (0, 1) (0, 0)).st (Brd.mk [(3, 1)] (0, 1) (0, 0)).st.length = ⟨(1, 0), 2, true⟩ := by
    show setsTo (tableV exF) exF [((3 : Int), (1 : Int))] (0 + 1) = _
    rw [h1, h0, setStep]
    dsimp only
    rw [h2, ex_table]
    kernel_rfl
  have h4 : setV exF (1, 0) = (2, 3) := by decide
  rw [arisesV, arisesT, h3]
  dsimp only
  rw [h4, ex_table]
  exact (by kernel_rfl : ((bif !true then (((1 : Int), (0 : Int)), false) else bif overV exF (1, 0) then ((1, 0), isZ (0, 1) && isZ (0, 0)) else bif !(tget exT (0, 1)).isSome || (tat exT (0, 1)).2 then ((1, 0), false) else bif isZ (0, 0) then ((1, 0), true) else ((1, 0), (befV exF (2, 3) (brksV (2, 3) (0, 1)) (0 - 1, 0) || befV exF (2, 3) (brksV (2, 3) (0, 1)) (0, 0 - 1)) && befV exF (2, 3) (brksV (2, 3) (0, 1)) (0, 0))) = (((1 : Int), (0 : Int)), true)))
theorem ex_check1 : checkE exF ⟨[], (0, 0), (0, 0)⟩ = 0 := by
  unfold checkE
  rw [ex_arises]
  kernel_rfl
theorem ex_check2 : checkE exF ⟨[(3, 1)], (0, 1), (0, 0)⟩ = 0 := by
  unfold checkE
  rw [ex_arises2]
  kernel_rfl
def exD (A : Option Addr) (c : Nat) : Dp := ⟨2, 3, 1, [10, 30, 9], [⟨1, exF, ⟨[], (0, 0), (0, 0)⟩, none, 0⟩, ⟨1, exF, ⟨[(3, 1)], (0, 1), (0, 0)⟩, A, c⟩, ⟨2, exF, ⟨[], (0, 0), (0, 0)⟩, none, 0⟩], [⟨2, 0, 3⟩]⟩
section
variable {A : Option Addr} {c : Nat}
theorem ex_dep : depE (exD A c) = 0 := by
  have h1 : fxOk ⟨1, exF, ⟨[], (0, 0), (0, 0)⟩, none, 0⟩ = true := by unfold fxOk; dsimp only; rw [ex_check1]; rfl
  have h2 : fxOk ⟨1, exF, ⟨[(3, 1)], (0, 1), (0, 0)⟩, A, c⟩ = true := by unfold fxOk; dsimp only; rw [ex_check2]; rfl
  have h3 : fxOk ⟨2, exF, ⟨[], (0, 0), (0, 0)⟩, none, 0⟩ = true := by unfold fxOk; dsimp only; rw [ex_check1]; rfl
  exact dep_yes (by rfl) (by rfl) (by rfl) (by unfold fxB exD; simp only [List.all_cons, List.all_nil, h1, h2, h3, Bool.and_self]) (by rfl)
theorem ex_nd1 (d : Int) (B : Option Addr) (k : Nat) : ndV 2 3 1 ⟨d, exF, ⟨[], (0, 0), (0, 0)⟩, B, k⟩ 0 = (4, 8) := by
  unfold ndV; dsimp only; rw [ex_rest1]; rfl
theorem ex_nd2 (d : Int) (B : Option Addr) (k : Nat) : ndV 2 3 1 ⟨d, exF, ⟨[(3, 1)], (0, 1), (0, 0)⟩, B, k⟩ 0 = (0, 2) := by
  unfold ndV; dsimp only; rw [ex_rest2]; rfl
theorem ex_need (dd : Nat) : needD (exD A c) 0 dd = if dd = 1 then (4, 10) else if dd = 2 then (4, 8) else (0, 0) := by
  show accN (exD A c) 0 3 dd = _
  rw [accN_succ (k := 2) rfl, accN_succ (k := 1) rfl, accN_succ (k := 0) rfl]
  simp only [exD, ex_nd1, ex_nd2, accN]
  by_cases h1 : dd = 1
  · subst h1; rfl
  · by_cases h2 : dd = 2
    · subst h2; rfl
    · rw [if_neg h1, if_neg h2, decide_eq_false (show ¬ (1 : Int) = (dd : Int) by omega), decide_eq_false (show ¬ (2 : Int) = (dd : Int) by omega)]; rfl
theorem ex_cr (dd : Nat) : crT (exD A c) 0 dd 1 = if dd = 2 then 3 else 0 := by
  rw [crT_succ (k := 0) rfl]
  by_cases h2 : dd = 2
  · subst h2; rfl
  · rw [if_neg h2]
    dsimp only
    rw [decide_eq_false (show ¬ (2 : Int) = (dd : Int) by omega)]; rfl
theorem ex_lef_succ (k : Nat) : lefD (exD A c) 0 (k + 1) = ((lefD (exD A c) 0 k).1 + (if k = 2 then 3 else 0) - (if k = 1 then ((4 : Int), (10 : Int)) else if k = 2 then (4, 8) else (0, 0)).2, (lefD (exD A c) 0 k).2 + (if k = 2 then 3 else 0) - (if k = 1 then ((4 : Int), (10 : Int)) else if k = 2 then (4, 8) else (0, 0)).1) := by
  rw [lefD, ex_need, show (exD A c).cr.length = 1 from rfl, ex_cr]
theorem ex_lef : ∀ k : Nat, lefD (exD A c) 0 (k + 3) = (-5, 5)
  | 0 => by
    rw [ex_lef_succ, ex_lef_succ, ex_lef_succ]; rfl
  | k + 1 => by
    rw [show k + 1 + 3 = (k + 3) + 1 by omega, ex_lef_succ, ex_lef k, if_neg (by omega), if_neg (by omega), if_neg (by omega)]; rfl
theorem ex_ord : ∀ k : Nat, ordT (exD A c) 0 2 (k + 1) = 5
  | 0 => by
    rw [ordT, show 2 + 0 + 1 = 0 + 3 by omega, ex_lef]; rfl
  | k + 1 => by
    rw [ordT, ex_ord k, show 2 + (k + 1) + 1 = (k + 1) + 3 by omega, ex_lef]; rfl
theorem ex_askE : askE (exD A c) 0 2 = 0 := by
  unfold askE; rw [ex_dep]; rfl
theorem ex_left : leftR (exD A c) 0 2 = [pv (-5, 5), .int .i64 0] := by
  rw [leftR, decide_eq_true ex_askE, cond_true, show ((2 : Int).toNat + 1) = 0 + 3 from rfl, ex_lef]
theorem ex_ordR : ordR (exD A c) 0 2 = [.int .i64 5, .int .i64 0] := by
  rw [ordR, decide_eq_true ex_askE, cond_true, ordV, show 61 - (2 : Int).toNat = 58 + 1 from rfl, show (2 : Int).toNat = 2 from rfl, ex_ord]
theorem ex_restR : restR exF ⟨[], (0, 0), (0, 0)⟩ = [pv (1, 3), pv (2, 3), .int .i64 0] := by
  rw [restR, ex_check1, ex_rest1]; rfl
end
end Go.Proofs.Ytacaojifempclaa

namespace Go.Proofs.Ytacaojifempclaa
open Go Go.RowKit

def farF (f : Fmt) : Bool := decide (4 < f.games) && decide (f.games ≤ 8)
theorem C_law9_far (f : Fmt) (w : World) : C0 Try.prog 16 [f.val] w (.bool (farF f)) := by
  refine ⟨en Try.func16 Try.ntmps16 (St.init w) (h := fun F => ?_)⟩
  refine sq (h := ?_)
  refine rg (h := ?_)
  refine bxA (h := fun b0 => ?_)
  refine WL.y (hy := asg) (h := ?_)
  refine nl (h := ?_)
  refine q_seq (h := ?_)
  refine sq (h := ?_)
  refine rg (h := ?_)
  refine WL.y (hy := (by first | exact fa | exact faE)) (h := ?_)
  refine WL.y (hy := (by first | exact ld | exact ldE)) (h := ?_)
  refine WL.y (hy := gtr) (h := ?_)
  refine WL.y (hy := mv) (h := ?_)
  apply brAnd 4 6 10 (by exact rfl)
  · intro hb0
    refine un (h := ?_)
    refine WL.y (hy := (by first | exact fa | exact faE)) (h := ?_)
    refine un (h := ?_)
    refine WL.y (hy := (by first | exact ld | exact ldE)) (h := ?_)
    refine un (h := ?_)
    refine WL.y (hy := leq) (h := ?_)
    refine WL.y (hy := (by first | exact pkT | exact pkF)) (h := ?_)
    exact mg (by repeat (first | exact trivial | refine ⟨rfl, ?_⟩ | refine ⟨by rw [hb0]; rfl, ?_⟩)) (by repeat (first | exact SubL.nil | (apply SubL.cons; (repeat (first | exact At.here | apply At.there))) | exact SubL.refl _ | apply SubL.skip))
  · intro hb0
    repeat (first | refine un (h := ?_) | refine sk (h := ?_) | refine WL.y (hy := pkF) (h := ?_) | refine WL.y (hy := pkT) (h := ?_))
    exact mg (by repeat (first | exact trivial | refine ⟨rfl, ?_⟩ | refine ⟨by rw [hb0]; rfl, ?_⟩)) (by repeat (first | exact SubL.nil | (apply SubL.cons; (repeat (first | exact At.here | apply At.there))) | exact SubL.refl _ | apply SubL.skip))
  refine WL.y (hy := asg) (h := ?_)
  refine nl (h := ?_)
  refine q_seq (h := ?_)
  refine rtn (h := ?_)
  refine q_ret (hR := ?_)
  exact fun w hS => ⟨rfl, hS.sub (by repeat (first | exact SubL.nil | (apply SubL.cons; (repeat (first | exact At.here | apply At.there))) | exact SubL.refl _ | apply SubL.skip))⟩
def farX (x : Fx) : Bool := farF x.f || decide (40 < (x.b.st.length : Int))
def farN (d : Dp) : Bool := decide (40 < (d.st.length : Int)) || decide (60 < (d.cr.length : Int)) || (decide (4 < (d.fx.length : Int)) && decide ((d.fx.length : Int) ≤ 30)) || decide (60 < (d.fx.length : Int))
def farD (d : Dp) : Bool := farN d || d.fx.any farX
theorem any_no {α : Type} {l : List α} {p : α → Bool} (h : ∀ i x, i < l.length → l[i]? = some x → p x = false) : l.any p = false :=
  List.any_eq_false.2 fun x hx => by
    obtain ⟨i, hi, e⟩ := List.getElem_of_mem hx
    rw [h i x hi (by rw [List.getElem?_eq_getElem hi, e])]; decide
theorem far_sm {d : Dp} (h : farD d = false) : (d.st.length ≤ 40 ∧ d.cr.length ≤ 60 ∧ d.fx.length ≤ 60) ∧ ∀ x ∈ d.fx, x.b.st.length ≤ 40 := by
  unfold farD farN at h
  simp only [Bool.or_eq_false_iff, decide_eq_false_iff_not] at h
  refine ⟨by omega, fun x hx => ?_⟩
  have := List.any_eq_false.1 h.2 x hx
  unfold farX at this
  simp only [Bool.or_eq_true, decide_eq_true_eq, not_or] at this
  omega
set_option maxRecDepth 100000 in
theorem C_law9_Far (d : Dp) (a : DA) (w : World) (h : DpR w d a) : C0 Try.prog 28 [d.val a] w (.bool (farD d)) := by
  have hfc := h.fc
  refine ⟨en Try.func28 Try.ntmps28 ((St.init w).share (e := .ro a.fA 16 d.fx.length (d.fx.map Fx.enc)) h.f rfl rfl rfl) (h := fun F => ?_)⟩
  refine sq (h := ?_)
  refine rg (h := ?_)
  refine bxA (h := fun b0 => ?_)
  refine WL.y (hy := asg) (h := ?_)
  refine nl (h := ?_)
  refine q_seq (h := ?_)
  refine sq (h := ?_)
  refine sq (h := ?_)
  refine rg (h := ?_)
  refine WL.y (hy := (by first | exact fa | exact faE)) (h := ?_)
  refine WL.y (hy := (by first | exact ld | exact ldE)) (h := ?_)
  refine WL.y (hy := lenS) (h := ?_)
  refine WL.y (hy := gtr) (h := ?_)
  refine WL.y (hy := mv) (h := ?_)
  apply brOr 5 8 13 (by exact rfl)
  · intro hb0
    refine un (h := ?_)
    refine WL.y (hy := (by first | exact fa | exact faE)) (h := ?_)
    refine un (h := ?_)
    refine WL.y (hy := (by first | exact ld | exact ldE)) (h := ?_)
    refine un (h := ?_)
    refine WL.y (hy := lenS) (h := ?_)
    refine un (h := ?_)
    refine WL.y (hy := gtr) (h := ?_)
    refine WL.y (hy := (by first | exact pkT | exact pkF)) (h := ?_)
    exact mg (by repeat (first | exact trivial | refine ⟨rfl, ?_⟩ | refine ⟨by rw [hb0]; rfl, ?_⟩)) (by repeat (first | exact SubL.nil | (apply SubL.cons; (repeat (first | exact At.here | apply At.there))) | exact SubL.refl _ | apply SubL.skip))
  · intro hb0
    repeat (first | refine un (h := ?_) | refine sk (h := ?_) | refine WL.y (hy := pkF) (h := ?_) | refine WL.y (hy := pkT) (h := ?_))
    exact mg (by repeat (first | exact trivial | refine ⟨rfl, ?_⟩ | refine ⟨by rw [hb0]; rfl, ?_⟩)) (by repeat (first | exact SubL.nil | (apply SubL.cons; (repeat (first | exact At.here | apply At.there))) | exact SubL.refl _ | apply SubL.skip))
  refine WL.y (hy := mv) (h := ?_)
  apply brOr 11 14 25 (by exact rfl)
  · intro hb1
    refine un (h := ?_)
    refine WL.y (hy := (by first | exact fa | exact faE)) (h := ?_)
    refine un (h := ?_)
    refine WL.y (hy := (by first | exact ld | exact ldE)) (h := ?_)
    refine un (h := ?_)
    refine WL.y (hy := lenS) (h := ?_)
    refine un (h := ?_)
    refine WL.y (hy := gtr) (h := ?_)
    refine un (h := ?_)
    refine WL.y (hy := mv) (h := ?_)
    apply brAnd 5 19 24 (by exact rfl)
    · intro hb2
      refine un (h := ?_)
      refine WL.y (hy := (by first | exact fa | exact faE)) (h := ?_)
      refine un (h := ?_)
      refine WL.y (hy := (by first | exact ld | exact ldE)) (h := ?_)
      refine un (h := ?_)
      refine WL.y (hy := lenS) (h := ?_)
      refine un (h := ?_)
      refine WL.y (hy := leq) (h := ?_)
      refine un (h := ?_)
      refine WL.y (hy := (by first | exact pkT | exact pkF)) (h := ?_)
      exact mg (by repeat (first | exact trivial | refine ⟨rfl, ?_⟩ | refine ⟨by rw [hb2]; rfl, ?_⟩ | refine ⟨by rw [hb1]; rfl, ?_⟩)) (by repeat (first | exact SubL.nil | (apply SubL.cons; (repeat (first | exact At.here | apply At.there))) | exact SubL.refl _ | apply SubL.skip))
    · intro hb2
      repeat (first | refine un (h := ?_) | refine sk (h := ?_) | refine WL.y (hy := pkF) (h := ?_) | refine WL.y (hy := pkT) (h := ?_))
      exact mg (by repeat (first | exact trivial | refine ⟨rfl, ?_⟩ | refine ⟨by rw [hb2]; rfl, ?_⟩ | refine ⟨by rw [hb1]; rfl, ?_⟩)) (by repeat (first | exact SubL.nil | (apply SubL.cons; (repeat (first | exact At.here | apply At.there))) | exact SubL.refl _ | apply SubL.skip))
    refine WL.y (hy := (by first | exact pkT | exact pkF)) (h := ?_)
    exact mg (by repeat (first | exact trivial | refine ⟨rfl, ?_⟩ | refine ⟨by rw [hb1]; rfl, ?_⟩)) (by repeat (first | exact SubL.nil | (apply SubL.cons; (repeat (first | exact At.here | apply At.there))) | exact SubL.refl _ | apply SubL.skip))
  · intro hb1
    repeat (first | refine un (h := ?_) | refine sk (h := ?_) | refine WL.y (hy := pkF) (h := ?_) | refine WL.y (hy := pkT) (h := ?_))
    exact mg (by repeat (first | exact trivial | refine ⟨rfl, ?_⟩ | refine ⟨by rw [hb1]; rfl, ?_⟩)) (by repeat (first | exact SubL.nil | (apply SubL.cons; (repeat (first | exact At.here | apply At.there))) | exact SubL.refl _ | apply SubL.skip))
  refine WL.y (hy := mv) (h := ?_)
  apply brOr 5 26 31 (by exact rfl)
  · intro hb3
    refine un (h := ?_)
    refine WL.y (hy := (by first | exact fa | exact faE)) (h := ?_)
    refine un (h := ?_)
    refine WL.y (hy := (by first | exact ld | exact ldE)) (h := ?_)
    refine un (h := ?_)
    refine WL.y (hy := lenS) (h := ?_)
    refine un (h := ?_)
    refine WL.y (hy := gtr) (h := ?_)
    refine WL.y (hy := (by first | exact pkT | exact pkF)) (h := ?_)
    exact mg (by repeat (first | exact trivial | refine ⟨rfl, ?_⟩ | refine ⟨by rw [hb3]; rfl, ?_⟩)) (by repeat (first | exact SubL.nil | (apply SubL.cons; (repeat (first | exact At.here | apply At.there))) | exact SubL.refl _ | apply SubL.skip))
  · intro hb3
    repeat (first | refine un (h := ?_) | refine sk (h := ?_) | refine WL.y (hy := pkF) (h := ?_) | refine WL.y (hy := pkT) (h := ?_))
    exact mg (by repeat (first | exact trivial | refine ⟨rfl, ?_⟩ | refine ⟨by rw [hb3]; rfl, ?_⟩)) (by repeat (first | exact SubL.nil | (apply SubL.cons; (repeat (first | exact At.here | apply At.there))) | exact SubL.refl _ | apply SubL.skip))
  refine nl (h := ?_)
  refine q_seq (h := ?_)
  refine cd (by exact rfl) (fun h4 => ?_) (fun h4 => ?_)
  · skip
    have hN : farN d = true := h4
    have hE : farD d = true := by rw [farD, hN]; rfl
    refine sq (h := ?_)
    refine rg (h := ?_)
    refine WL.y (hy := asg) (h := ?_)
    refine nl (h := ?_)
    refine q_seq (h := ?_)
    refine rtn (h := ?_)
    refine q_then_ret (h := ?_)
    refine q_ret (hR := ?_)
    rw [hE]
    exact fun w hS => ⟨rfl, hS.sub (by repeat (first | exact SubL.nil | (apply SubL.cons; (repeat (first | exact At.here | apply At.there))) | exact SubL.refl _ | apply SubL.skip))⟩
  · skip
    have hN : farN d = false := h4
    refine skp (h := ?_)
    refine q_seq (h := ?_)
    refine sq (h := ?_)
    refine sq (h := ?_)
    refine rg (h := ?_)
    refine WL.y (hy := asg) (h := ?_)
    refine nl (h := ?_)
    refine q_seq (h := ?_)
    refine bk (h := ?_)
    refine lp (X := Nat) (I := fun k => k ≤ d.fx.length ∧ ∀ i x, i < k → d.fx[i]? = some x → farX x = false) (le := fun k => [(1, .pointer (some ⟨b0, 0, none⟩)), (3, .int .i64 k)]) (Le := fun _ => [.blk b0 49 (d.cells a), .ro a.fA 16 d.fx.length (d.fx.map Fx.enc)]) (μ := fun k => d.fx.length - k) 0 ⟨Nat.zero_le _, fun i x hi => by omega⟩ (by repeat (first | exact trivial | refine ⟨rfl, ?_⟩)) (by repeat (first | exact SubL.nil | (apply SubL.cons; (repeat (first | exact At.here | apply At.there))) | exact SubL.refl _ | apply SubL.skip)) (fun k hk => ?_)
    obtain ⟨hk0, hku⟩ := hk
    refine sq (h := ?_)
    refine sq (h := ?_)
    refine rg (h := ?_)
    refine WL.y (hy := mv) (h := ?_)
    refine WL.y (hy := (by first | exact fa | exact faE)) (h := ?_)
    refine WL.y (hy := (by first | exact ld | exact ldE)) (h := ?_)
    refine WL.y (hy := lenS) (h := ?_)
    refine WL.y (hy := lss) (h := ?_)
    refine nl (h := ?_)
    refine q_seq (h := ?_)
    refine cd (by exact rfl) (fun h5 => ?_) (fun h5 => ?_)
    · skip
      have hkn : k < d.fx.length := by have := of_decide_eq_true h5; omega
      obtain ⟨x, hx⟩ : ∃ x, d.fx[k]? = some x := ⟨_, List.getElem?_eq_getElem hkn⟩
      refine skp (h := ?_)
      refine q_seq (h := ?_)
      refine sq (h := ?_)
      refine bk (h := ?_)
      refine sq (h := ?_)
      refine rg (h := ?_)
      refine WL.y (hy := (by first | exact fa | exact faE)) (h := ?_)
      refine WL.y (hy := (by first | exact ld | exact ldE)) (h := ?_)
      refine WL.y (hy := mv) (h := ?_)
      refine WL.y (hy := ix (A := a.fA) (m := d.fx.length)) (h := ?_)
      refine WL.y (hy := (by first | exact fa | exact faE)) (h := ?_)
      refine WL.y (hy := ldEA (A := a.fA) (hk := map_at hx) (j := 1) (vs := x.f.cells) (hc := .skip (Tk.cons (.cons (.cons (.cons (.cons (.cons (.cons (.cons (.cons (.cons .nil)))))))))))) (h := ?_)
      refine cl0 (hc := fun w hS => C_law9_far _ w) (h := ?_)
      refine WL.y (hy := mv) (h := ?_)
      apply brOr 10 46 56 (by exact rfl)
      · intro hb6
        refine un (h := ?_)
        refine WL.y (hy := (by first | exact fa | exact faE)) (h := ?_)
        refine un (h := ?_)
        refine WL.y (hy := (by first | exact ld | exact ldE)) (h := ?_)
        refine un (h := ?_)
        refine WL.y (hy := mv) (h := ?_)
        refine un (h := ?_)
        refine WL.y (hy := ix (A := a.fA) (m := d.fx.length)) (h := ?_)
        refine un (h := ?_)
        refine WL.y (hy := (by first | exact fa | exact faE)) (h := ?_)
        refine un (h := ?_)
        refine WL.y (hy := faE (A := a.fA) (i := k) (j := 11)) (h := ?_)
        refine un (h := ?_)
        refine WL.y (hy := ldE (A := a.fA) (hk := map_at hx)) (h := ?_)
        refine un (h := ?_)
        refine WL.y (hy := lenS) (h := ?_)
        refine un (h := ?_)
        refine WL.y (hy := gtr) (h := ?_)
        refine WL.y (hy := (by first | exact pkT | exact pkF)) (h := ?_)
        exact mg (by repeat (first | exact trivial | refine ⟨rfl, ?_⟩ | refine ⟨by rw [hb6]; rfl, ?_⟩)) (by repeat (first | exact SubL.nil | (apply SubL.cons; (repeat (first | exact At.here | apply At.there))) | exact SubL.refl _ | apply SubL.skip))
      · intro hb6
        repeat (first | refine un (h := ?_) | refine sk (h := ?_) | refine WL.y (hy := pkF) (h := ?_) | refine WL.y (hy := pkT) (h := ?_))
        exact mg (by repeat (first | exact trivial | refine ⟨rfl, ?_⟩ | refine ⟨by rw [hb6]; rfl, ?_⟩)) (by repeat (first | exact SubL.nil | (apply SubL.cons; (repeat (first | exact At.here | apply At.there))) | exact SubL.refl _ | apply SubL.skip))
      refine nl (h := ?_)
      refine q_seq (h := ?_)
      refine cd (by exact rfl) (fun h7 => ?_) (fun h7 => ?_)
      · skip
        have hE : farD d = true := by rw [farD, hN, Bool.false_or]; exact List.any_eq_true.2 ⟨x, List.mem_of_getElem? hx, h7⟩
        refine sq (h := ?_)
        refine rg (h := ?_)
        refine WL.y (hy := asg) (h := ?_)
        refine nl (h := ?_)
        refine q_seq (h := ?_)
        refine rtn (h := ?_)
        refine q_blk_ret (h := ?_)
        refine q_then_ret (h := ?_)
        refine q_then_ret (h := ?_)
        refine q_blk_ret (h := ?_)
        refine q_then_ret (h := ?_)
        refine q_ret (hR := ?_)
        rw [hE]
        exact fun w hS => ⟨rfl, hS.sub (by repeat (first | exact SubL.nil | (apply SubL.cons; (repeat (first | exact At.here | apply At.there))) | exact SubL.refl _ | apply SubL.skip))⟩
      · skip
        have hxn : farX x = false := h7
        have hkn2 : ∀ i y, i < k + 1 → d.fx[i]? = some y → farX y = false := fun i y hi hy => by
          by_cases e : i = k
          · subst e
            rw [hx] at hy
            rw [← Option.some.inj hy]; exact hxn
          · exact hku i y (by omega) hy
        refine skp (h := ?_)
        refine q_blk_norm (h := ?_)
        refine q_seq (h := ?_)
        refine rg (h := ?_)
        refine WL.y (hy := mv) (h := ?_)
        refine WL.y (hy := addI) (h := ?_)
        refine WL.y (hy := asg) (h := ?_)
        refine nl (h := ?_)
        refine rn (x := k) (k + 1) ⟨hkn, hkn2⟩ (by omega) (by repeat (first | exact trivial | refine ⟨rfl, ?_⟩)) (by repeat (first | exact SubL.nil | (apply SubL.cons; (repeat (first | exact At.here | apply At.there))) | exact SubL.refl _ | apply SubL.skip))
    · skip
      have hkn : k = d.fx.length := by have := of_decide_eq_false h5; omega
      have hE : farD d = false := by rw [farD, hN, any_no fun i x hi hx => hku i x (by omega) hx]; rfl
      refine et (h := ?_)
      refine q_then_exit (h := ?_)
      refine q_then_exit (h := ?_)
      refine q_blk_hit (h := ?_)
      refine q_seq (h := ?_)
      refine sq (h := ?_)
      refine rg (h := ?_)
      refine WL.y (hy := asg) (h := ?_)
      refine nl (h := ?_)
      refine q_seq (h := ?_)
      refine rtn (h := ?_)
      refine q_ret (hR := ?_)
      rw [hE]
      exact fun w hS => ⟨rfl, hS.sub (by repeat (first | exact SubL.nil | (apply SubL.cons; (repeat (first | exact At.here | apply At.there))) | exact SubL.refl _ | apply SubL.skip))⟩
def readyD (d : Dp) (item day : Int) : Bool := !farD d && decide (depE d = 0) && decide (0 ≤ item) && decide (item < 3) && decide (0 ≤ day) && decide (day ≤ 60)
theorem C_law9_ready (d : Dp) (a : DA) (item day : Int) (w : World) (h : DpR w d a) : C0 Try.prog 20 [d.val a, .agg #[.int .i64 item, .int .i64 day]] w (.bool (readyD d item day)) := by
  refine ⟨en Try.func20 Try.ntmps20 ((St.init w).share (e := .ro a.sA 1 d.st.length (encI d.st)) h.s rfl rfl rfl) (h := fun F => ?_)⟩
  refine sq (h := ?_)
  refine rg (h := ?_)
  refine bxA (h := fun b0 => ?_)
  refine bxA (h := fun b1 => ?_)
  refine WL.y (hy := asg) (h := ?_)
  refine nl (h := ?_)
  refine q_seq (h := ?_)
  refine sq (h := ?_)
  refine rg (h := ?_)
  refine WL.y (hy := (by first | exact ldA | exact ldEA)) (h := ?_)
  refine cl0 (hc := fun w hS => C_law9_Far d a w (h.old hS)) (h := ?_)
  refine WL.y (hy := notB) (h := ?_)
  refine WL.y (hy := mv) (h := ?_)
  apply brAnd 4 8 12 (by exact rfl)
  · intro hb0
    have hfr : farD d = false := by simpa using hb0
    refine un (h := ?_)
    refine WL.y (hy := (by first | exact ldA | exact ldEA)) (h := ?_)
    refine un (h := ?_)
    refine cl0 (hc := fun w hS => C_ref9_Check d a w (h.old hS) (fun x hx => by have := (far_sm hfr).2 x hx; omega)) (h := ?_)
    refine un (h := ?_)
    refine WL.y (hy := eql) (h := ?_)
    refine WL.y (hy := (by first | exact pkT | exact pkF)) (h := ?_)
    exact mg (by repeat (first | exact trivial | refine ⟨rfl, ?_⟩ | refine ⟨by rw [hb0]; rfl, ?_⟩)) (by repeat (first | exact SubL.nil | (apply SubL.cons; (repeat (first | exact At.here | apply At.there))) | exact SubL.refl _ | apply SubL.skip))
  · intro hb0
    repeat (first | refine un (h := ?_) | refine sk (h := ?_) | refine WL.y (hy := pkF) (h := ?_) | refine WL.y (hy := pkT) (h := ?_))
    exact mg (by repeat (first | exact trivial | refine ⟨rfl, ?_⟩ | refine ⟨by rw [hb0]; rfl, ?_⟩)) (by repeat (first | exact SubL.nil | (apply SubL.cons; (repeat (first | exact At.here | apply At.there))) | exact SubL.refl _ | apply SubL.skip))
  refine WL.y (hy := mv) (h := ?_)
  apply brAnd 4 13 17 (by exact rfl)
  · intro hb1
    refine un (h := ?_)
    refine WL.y (hy := (by first | exact fa | exact faE)) (h := ?_)
    refine un (h := ?_)
    refine WL.y (hy := (by first | exact ld | exact ldE)) (h := ?_)
    refine un (h := ?_)
    refine WL.y (hy := geq) (h := ?_)
    refine WL.y (hy := (by first | exact pkT | exact pkF)) (h := ?_)
    exact mg (by repeat (first | exact trivial | refine ⟨rfl, ?_⟩ | refine ⟨by rw [hb1]; rfl, ?_⟩)) (by repeat (first | exact SubL.nil | (apply SubL.cons; (repeat (first | exact At.here | apply At.there))) | exact SubL.refl _ | apply SubL.skip))
  · intro hb1
    repeat (first | refine un (h := ?_) | refine sk (h := ?_) | refine WL.y (hy := pkF) (h := ?_) | refine WL.y (hy := pkT) (h := ?_))
    exact mg (by repeat (first | exact trivial | refine ⟨rfl, ?_⟩ | refine ⟨by rw [hb1]; rfl, ?_⟩)) (by repeat (first | exact SubL.nil | (apply SubL.cons; (repeat (first | exact At.here | apply At.there))) | exact SubL.refl _ | apply SubL.skip))
  refine WL.y (hy := mv) (h := ?_)
  apply brAnd 4 18 22 (by exact rfl)
  · intro hb2
    refine un (h := ?_)
    refine WL.y (hy := (by first | exact fa | exact faE)) (h := ?_)
    refine un (h := ?_)
    refine WL.y (hy := (by first | exact ld | exact ldE)) (h := ?_)
    refine un (h := ?_)
    refine WL.y (hy := lss) (h := ?_)
    refine WL.y (hy := (by first | exact pkT | exact pkF)) (h := ?_)
    exact mg (by repeat (first | exact trivial | refine ⟨rfl, ?_⟩ | refine ⟨by rw [hb2]; rfl, ?_⟩)) (by repeat (first | exact SubL.nil | (apply SubL.cons; (repeat (first | exact At.here | apply At.there))) | exact SubL.refl _ | apply SubL.skip))
  · intro hb2
    repeat (first | refine un (h := ?_) | refine sk (h := ?_) | refine WL.y (hy := pkF) (h := ?_) | refine WL.y (hy := pkT) (h := ?_))
    exact mg (by repeat (first | exact trivial | refine ⟨rfl, ?_⟩ | refine ⟨by rw [hb2]; rfl, ?_⟩)) (by repeat (first | exact SubL.nil | (apply SubL.cons; (repeat (first | exact At.here | apply At.there))) | exact SubL.refl _ | apply SubL.skip))
  refine WL.y (hy := mv) (h := ?_)
  apply brAnd 4 23 27 (by exact rfl)
  · intro hb3
    refine un (h := ?_)
    refine WL.y (hy := (by first | exact fa | exact faE)) (h := ?_)
    refine un (h := ?_)
    refine WL.y (hy := (by first | exact ld | exact ldE)) (h := ?_)
    refine un (h := ?_)
    refine WL.y (hy := geq) (h := ?_)
    refine WL.y (hy := (by first | exact pkT | exact pkF)) (h := ?_)
    exact mg (by repeat (first | exact trivial | refine ⟨rfl, ?_⟩ | refine ⟨by rw [hb3]; rfl, ?_⟩)) (by repeat (first | exact SubL.nil | (apply SubL.cons; (repeat (first | exact At.here | apply At.there))) | exact SubL.refl _ | apply SubL.skip))
  · intro hb3
    repeat (first | refine un (h := ?_) | refine sk (h := ?_) | refine WL.y (hy := pkF) (h := ?_) | refine WL.y (hy := pkT) (h := ?_))
    exact mg (by repeat (first | exact trivial | refine ⟨rfl, ?_⟩ | refine ⟨by rw [hb3]; rfl, ?_⟩)) (by repeat (first | exact SubL.nil | (apply SubL.cons; (repeat (first | exact At.here | apply At.there))) | exact SubL.refl _ | apply SubL.skip))
  refine WL.y (hy := mv) (h := ?_)
  apply brAnd 4 28 32 (by exact rfl)
  · intro hb4
    refine un (h := ?_)
    refine WL.y (hy := (by first | exact fa | exact faE)) (h := ?_)
    refine un (h := ?_)
    refine WL.y (hy := (by first | exact ld | exact ldE)) (h := ?_)
    refine un (h := ?_)
    refine WL.y (hy := leq) (h := ?_)
    refine WL.y (hy := (by first | exact pkT | exact pkF)) (h := ?_)
    exact mg (by repeat (first | exact trivial | refine ⟨rfl, ?_⟩ | refine ⟨by rw [hb4]; rfl, ?_⟩)) (by repeat (first | exact SubL.nil | (apply SubL.cons; (repeat (first | exact At.here | apply At.there))) | exact SubL.refl _ | apply SubL.skip))
  · intro hb4
    repeat (first | refine un (h := ?_) | refine sk (h := ?_) | refine WL.y (hy := pkF) (h := ?_) | refine WL.y (hy := pkT) (h := ?_))
    exact mg (by repeat (first | exact trivial | refine ⟨rfl, ?_⟩ | refine ⟨by rw [hb4]; rfl, ?_⟩)) (by repeat (first | exact SubL.nil | (apply SubL.cons; (repeat (first | exact At.here | apply At.there))) | exact SubL.refl _ | apply SubL.skip))
  refine WL.y (hy := asg) (h := ?_)
  refine nl (h := ?_)
  refine q_seq (h := ?_)
  refine rtn (h := ?_)
  refine q_ret (hR := ?_)
  exact fun w hS => ⟨rfl, hS.sub (by repeat (first | exact SubL.nil | (apply SubL.cons; (repeat (first | exact At.here | apply At.there))) | exact SubL.refl _ | apply SubL.skip))⟩
theorem ready_ok {d : Dp} {item day : Int} (h : readyD d item day = true) : farD d = false ∧ DepG d ∧ depE d = 0 ∧ (0 ≤ item ∧ item ≤ 2) ∧ (0 ≤ day ∧ day ≤ 60) ∧ askE d item day = 0 := by
  unfold readyD at h
  simp only [Bool.and_eq_true, Bool.not_eq_true', decide_eq_true_eq] at h
  obtain ⟨⟨⟨⟨⟨h1, h2⟩, h3⟩, h4⟩, h5⟩, h6⟩ := h
  refine ⟨h1, dep_good (dep_ok h2), h2, by omega, by omega, ?_⟩
  rw [askE, h2, show wi item 0 2 = true from wi_iff.2 (by omega), show wi day 0 60 = true from wi_iff.2 (by omega)]; rfl
theorem C_law9_earlier (x y : Int) (w : World) : C0 Try.prog 27 [.int .i64 x, .int .i64 y] w (.bool (decide (0 ≤ x) && (decide (y < 0) || decide (x < y)))) := by
  refine ⟨en Try.func27 Try.ntmps27 (St.init w) (h := fun F => ?_)⟩
  refine sq (h := ?_)
  refine rg (h := ?_)
  refine WL.y (hy := asg) (h := ?_)
  refine nl (h := ?_)
  refine q_seq (h := ?_)
  refine sq (h := ?_)
  refine rg (h := ?_)
  refine WL.y (hy := mv) (h := ?_)
  refine WL.y (hy := geq) (h := ?_)
  refine WL.y (hy := mv) (h := ?_)
  apply brAnd 8 7 15 (by exact rfl)
  · intro hb0
    refine un (h := ?_)
    refine WL.y (hy := mv) (h := ?_)
    refine un (h := ?_)
    refine WL.y (hy := lss) (h := ?_)
    refine un (h := ?_)
    refine WL.y (hy := mv) (h := ?_)
    apply brOr 4 10 14 (by exact rfl)
    · intro hb1
      refine un (h := ?_)
      refine WL.y (hy := mv) (h := ?_)
      refine un (h := ?_)
      refine WL.y (hy := mv) (h := ?_)
      refine un (h := ?_)
      refine WL.y (hy := lss) (h := ?_)
      refine un (h := ?_)
      refine WL.y (hy := (by first | exact pkT | exact pkF)) (h := ?_)
      exact mg (by repeat (first | exact trivial | refine ⟨rfl, ?_⟩ | refine ⟨by rw [hb1]; rfl, ?_⟩ | refine ⟨by rw [hb0]; rfl, ?_⟩)) (by repeat (first | exact SubL.nil | (apply SubL.cons; (repeat (first | exact At.here | apply At.there))) | exact SubL.refl _ | apply SubL.skip))
    · intro hb1
      repeat (first | refine un (h := ?_) | refine sk (h := ?_) | refine WL.y (hy := pkF) (h := ?_) | refine WL.y (hy := pkT) (h := ?_))
      exact mg (by repeat (first | exact trivial | refine ⟨rfl, ?_⟩ | refine ⟨by rw [hb1]; rfl, ?_⟩ | refine ⟨by rw [hb0]; rfl, ?_⟩)) (by repeat (first | exact SubL.nil | (apply SubL.cons; (repeat (first | exact At.here | apply At.there))) | exact SubL.refl _ | apply SubL.skip))
    refine WL.y (hy := (by first | exact pkT | exact pkF)) (h := ?_)
    exact mg (by repeat (first | exact trivial | refine ⟨rfl, ?_⟩ | refine ⟨by rw [hb0]; rfl, ?_⟩)) (by repeat (first | exact SubL.nil | (apply SubL.cons; (repeat (first | exact At.here | apply At.there))) | exact SubL.refl _ | apply SubL.skip))
  · intro hb0
    repeat (first | refine un (h := ?_) | refine sk (h := ?_) | refine WL.y (hy := pkF) (h := ?_) | refine WL.y (hy := pkT) (h := ?_))
    exact mg (by repeat (first | exact trivial | refine ⟨rfl, ?_⟩ | refine ⟨by rw [hb0]; rfl, ?_⟩)) (by repeat (first | exact SubL.nil | (apply SubL.cons; (repeat (first | exact At.here | apply At.there))) | exact SubL.refl _ | apply SubL.skip))
  refine WL.y (hy := asg) (h := ?_)
  refine nl (h := ?_)
  refine q_seq (h := ?_)
  refine rtn (h := ?_)
  refine q_ret (hR := ?_)
  exact fun w hS => ⟨rfl, hS.sub (by repeat (first | exact SubL.nil | (apply SubL.cons; (repeat (first | exact At.here | apply At.there))) | exact SubL.refl _ | apply SubL.skip))⟩

def Fx.core (x : Fx) : Fx := { x with A := none, c := 0 }
def Dp.core (d : Dp) : Dp := { d with fx := d.fx.map Fx.core }
section
variable {d : Dp}
theorem core_dep (d : Dp) : depE d.core = depE d := by
  unfold depE depOk lenB fxB
  simp only [Dp.core, List.length_map, List.all_map]
  rfl
theorem core_acc (d : Dp) (item : Int) (dd : Nat) : ∀ k, accN d.core item k dd = accN d item k dd
  | 0 => rfl
  | k + 1 => by
    rw [accN, accN, core_acc d item dd k]
    show (match (d.fx.map Fx.core)[k]? with | some x => _ | none => _) = _
    rw [List.getElem?_map]
    cases d.fx[k]? with
    | none => rfl
    | some x => rfl
theorem core_need (d : Dp) (item : Int) (dd : Nat) : needD d.core item dd = needD d item dd := by
  unfold needD
  rw [core_acc]
  simp only [Dp.core, List.length_map]
theorem core_cr (d : Dp) (item : Int) (dd : Nat) : ∀ k, crT d.core item dd k = crT d item dd k
  | 0 => rfl
  | k + 1 => by
    rw [crT, crT, core_cr d item dd k]; rfl
theorem core_lef (d : Dp) (item : Int) : ∀ k, lefD d.core item k = lefD d item k
  | 0 => rfl
  | k + 1 => by
    rw [lefD, lefD, core_lef d item k, core_need, core_cr]; rfl
theorem core_ask (d : Dp) (item day : Int) : askE d.core item day = askE d item day := by unfold askE; rw [core_dep]
theorem core_shortR (d : Dp) (item : Int) : shortR d.core item = shortR d item := by
  unfold shortR mayV sureV
  rw [core_ask]
  simp only [core_lef]
end
structure CoX where
  (fx : List Fx) (a : DA)
def Fx.row (x : Fx) : Row := ⟨x.A, 2, x.b.st.length, encP x.b.st⟩
def FxB (l : List Fx) : Prop := ∀ x ∈ l, x.b.st.length ≤ x.c ∧ x.c ≤ 9223372036854775807
theorem dpr_of {w0 w : World} {L : List Ent} (hS : St w0 w L) {o : Dp} {a : DA} (hb : FxB o.fx) (hl : (o.st.length ≤ 1000000 ∧ o.fx.length ≤ 1000000) ∧ o.cr.length ≤ 1000000)
    (h1 : Rds L a.sA 1 o.st.length (encI o.st)) (h2 : Rds L a.fA 16 o.fx.length (o.fx.map Fx.enc)) (h3 : Rds L a.cA 3 o.cr.length (o.cr.map Cx.enc)) {M : List Ent} (hm : At L (manyE true (o.fx.map Fx.row)) M) : DpR w o a :=
  ⟨h1.at_ hS.ok, h2.at_ hS.ok, h3.at_ hS.ok, fun y hy => ⟨hS.many hm (r := y.row) (List.mem_map.2 ⟨y, hy, rfl⟩), (hb y hy).1, (hb y hy).2⟩, by omega, by omega, by omega⟩
structure YX where
  (k : Nat) (bs : List Fx)
theorem fx_set (bs : List Fx) (l : List Fx) {k : Nat} {x : Fx} (hk : bs.length = k) (hx : l[k]? = some x) (A : Option Addr) (c : Nat) : (((bs ++ l.drop k).map Fx.enc).set k (x.enc.set 11 (.slice A x.b.st.length c))) = ((bs ++ [{ x with A := A, c := c }]) ++ l.drop (k + 1)).map Fx.enc := by
  have hkl : k < l.length := (List.getElem?_eq_some_iff.1 hx).1
  have hxe : l[k] = x := by rw [List.getElem?_eq_getElem hkl] at hx; exact Option.some.inj hx
  rw [List.drop_eq_getElem_cons hkl, hxe, List.map_append, List.set_append_right _ _ (by rw [List.length_map, hk]; exact Nat.le_refl _), List.length_map, hk, Nat.sub_self, List.map_cons, List.set_cons_zero, List.append_assoc, List.map_append]
  rfl
end Go.Proofs.Ytacaojifempclaa

namespace Go.Proofs.Ytacaojifempclaa
open Go Go.RowKit

def Fx.at_ (x : Fx) (A : Option Addr) (c : Nat) : Fx := { x with A := A, c := c }
theorem fxB_add {bs : List Fx} (h : FxB bs) {x : Fx} {A : Option Addr} {c : Nat} (hn : x.b.st.length ≤ c ∧ c ≤ 9223372036854775807) : FxB (bs ++ [x.at_ A c]) := fun y hy => by
  rcases List.mem_append.1 hy with hy | hy
  · exact h y hy
  · simp only [List.mem_singleton] at hy; subst hy; exact hn
theorem core_add {bs l : List Fx} {k : Nat} {x : Fx} (hc : bs.map Fx.core = (l.take k).map Fx.core) (hx : l[k]? = some x) (A : Option Addr) (c : Nat) : (bs ++ [x.at_ A c]).map Fx.core = (l.take (k + 1)).map Fx.core := by
  rw [List.take_add_one, hx, List.map_append, List.map_append, hc]; rfl
def SmD (d : Dp) : Prop := (d.st.length ≤ 1000 ∧ d.cr.length ≤ 1000 ∧ d.fx.length ≤ 1000) ∧ ∀ x ∈ d.fx, x.b.st.length ≤ 1000
theorem row_add {bs : List Fx} {x : Fx} {A : Option Addr} {c : Nat} : bs.map Fx.row ++ [⟨A, 2, x.b.st.length, encP x.b.st⟩] = (bs ++ [x.at_ A c]).map Fx.row := by rw [List.map_append]; rfl
theorem cp_at {bs l : List Fx} {k : Nat} {x : Fx} (hk : bs.length = k) (hx : l[k]? = some x) : ((bs ++ l.drop k).map Fx.enc)[k]? = some x.enc := by
  rw [List.getElem?_map, List.getElem?_append_right (by omega), hk, Nat.sub_self, List.getElem?_drop, Nat.add_zero, hx]; rfl
set_option maxRecDepth 100000 in
set_option maxHeartbeats 2000000 in
theorem C_ref9_Copy (d : Dp) (a : DA) (hsm : SmD d) (w : World) (h : DpR w d a) : CR Try.prog 25 [d.val a] w (fun y : CoX => (y.fx.map Fx.core = d.fx.map Fx.core ∧ FxB y.fx) ∧ y.a.fc ≤ 9223372036854775807) (fun y => Dp.val { d with fx := y.fx } y.a)
    (fun y => [.own y.a.sA y.a.sc 3 1 d.st.length (encI d.st), .own y.a.fA y.a.fc 60 16 y.fx.length (y.fx.map Fx.enc), .own y.a.cA y.a.cc 62 3 d.cr.length (d.cr.map Cx.enc), manyE true (y.fx.map Fx.row)]) := by
  obtain ⟨⟨hsn, hcn, hfn⟩, hxs⟩ := hsm
  have hfc := h.fc
  refine ⟨en Try.func25 Try.ntmps25 ((((St.init w).share (e := .ro a.sA 1 d.st.length (encI d.st)) h.s rfl rfl rfl).share (e := .ro a.fA 16 d.fx.length (d.fx.map Fx.enc)) h.f rfl rfl rfl).share (e := .ro a.cA 3 d.cr.length (d.cr.map Cx.enc)) h.c rfl rfl rfl) (h := fun F => ?_)⟩
  refine sq (h := ?_)
  refine rg (h := ?_)
  refine bxA (h := fun b0 => ?_)
  refine al (h := fun b1 => ?_)
  refine nl (h := ?_)
  refine q_seq (h := ?_)
  refine sq (h := ?_)
  refine rg (h := ?_)
  refine WL.y (hy := (by first | exact ldA | exact ldEA)) (h := ?_)
  refine al (h := fun b2 => ?_)
  first | refine stA (h := ?_) | refine stEA (h := ?_)
  refine nl (h := ?_)
  refine q_seq (h := ?_)
  refine sq (h := ?_)
  refine rg (h := ?_)
  refine bs (h := fun b3 => ?_)
  refine WL.y (hy := (by first | exact fa | exact faE)) (h := ?_)
  refine WL.y (hy := (by first | exact ld | exact ldE)) (h := ?_)
  first | refine ap (h := fun A1 c1 => ?_) | refine ap0 (h := fun A1 c1 => ?_)
  refine WL.y (hy := (by first | exact fa | exact faE)) (h := ?_)
  first | refine st (h := ?_) | refine stE (h := ?_)
  simp only [Nat.zero_add, List.nil_append]
  refine nl (h := ?_)
  refine q_seq (h := ?_)
  refine sq (h := ?_)
  refine rg (h := ?_)
  refine bs (h := fun b4 => ?_)
  refine WL.y (hy := (by first | exact fa | exact faE)) (h := ?_)
  refine WL.y (hy := (by first | exact ld | exact ldE)) (h := ?_)
  first | refine ap (h := fun A2 c2 => ?_) | refine ap0 (h := fun A2 c2 => ?_)
  refine WL.y (hy := (by first | exact fa | exact faE)) (h := ?_)
  first | refine st (h := ?_) | refine stE (h := ?_)
  simp only [Nat.zero_add, List.nil_append]
  refine nl (h := ?_)
  refine q_seq (h := ?_)
  refine sq (h := ?_)
  refine sq (h := ?_)
  refine WC.many0 ?_
  refine rg (h := ?_)
  refine WL.y (hy := asg) (h := ?_)
  refine nl (h := ?_)
  refine q_seq (h := ?_)
  refine bk (h := ?_)
  refine lp (X := YX) (I := fun z => z.k ≤ d.fx.length ∧ z.bs.length = z.k ∧ z.bs.map Fx.core = (d.fx.take z.k).map Fx.core ∧ FxB z.bs) (le := fun z => [(1, .pointer (some ⟨b0, 0, none⟩)), (2, .pointer (some ⟨b1, 0, none⟩)), (3, .pointer (some ⟨b2, 0, none⟩)), (4, .int .i64 z.k)]) (Le := fun z => [.own A1 c1 3 1 d.st.length (encI d.st), .own A2 c2 60 16 d.fx.length ((z.bs ++ d.fx.drop z.k).map Fx.enc), manyE true (z.bs.map Fx.row), .blk b0 49 (d.cells a), .blk b1 49 [.int .i64 0, .int .i64 0, .int .i64 0, .slice none 0 0, .slice none 0 0, .slice none 0 0], .blk b2 49 (d.cells ⟨A1, A2, a.cA, c1, c2, a.cc⟩), .ro a.sA 1 d.st.length (encI d.st), .ro a.fA 16 d.fx.length (d.fx.map Fx.enc), .ro a.cA 3 d.cr.length (d.cr.map Cx.enc)]) (μ := fun z => d.fx.length - z.k) ⟨0, []⟩ ⟨Nat.zero_le _, rfl, rfl, fun x hx => by cases hx⟩ (by repeat (first | exact trivial | refine ⟨rfl, ?_⟩)) (by repeat (first | exact SubL.nil | (apply SubL.cons; (repeat (first | exact At.here | apply At.there))) | exact SubL.refl _ | apply SubL.skip)) (fun z hz => ?_)
  obtain ⟨hzk, hzl, hzc, hzb⟩ := hz
  refine sq (h := ?_)
  refine sq (h := ?_)
  refine rg (h := ?_)
  refine WL.y (hy := mv) (h := ?_)
  refine WL.y (hy := (by first | exact fa | exact faE)) (h := ?_)
  refine WL.y (hy := (by first | exact ld | exact ldE)) (h := ?_)
  refine WL.y (hy := lenS) (h := ?_)
  refine WL.y (hy := lss) (h := ?_)
  refine nl (h := ?_)
  refine q_seq (h := ?_)
  refine cd (by exact rfl) (fun h0 => ?_) (fun h0 => ?_)
  · skip
    have hkn : z.k < d.fx.length := by have := of_decide_eq_true h0; omega
    obtain ⟨x, hx⟩ : ∃ x, d.fx[z.k]? = some x := ⟨_, List.getElem?_eq_getElem hkn⟩
    have hxm := List.mem_of_getElem? hx
    have hx1 := hxs x hxm
    refine skp (h := ?_)
    refine q_seq (h := ?_)
    refine sq (h := ?_)
    refine bk (h := ?_)
    refine WC.old (h.x x hxm).1 ?_
    refine rgD (by kernel_rfl) [(15, .own A2 c2 60 16 d.fx.length ((z.bs ++ d.fx.drop z.k).map Fx.enc)), (1000000, .blk b0 49 (d.cells a)), (1000000, .blk b2 49 (d.cells ⟨A1, A2, a.cA, c1, c2, a.cc⟩)), (1000000, .ro a.fA 16 d.fx.length (d.fx.map Fx.enc))] (by repeat (first | exact HS.nil | (apply HS.keep; (repeat (first | exact At.here | apply At.there))) | (apply HS.ro; (repeat (first | exact Rds.ro | exact Rds.own | apply Rds.there))))) (h := ?_)
    refine tk 0 (hy := (by first | exact fa | exact faE)) (h := ?_)
    refine tk 1 (hy := (by first | exact ld | exact ldE)) (h := ?_)
    refine tk 2 (hy := mv) (h := ?_)
    refine tk 4 (hy := (by first | exact fa | exact faE)) (h := ?_)
    refine tk 5 (hy := (by first | exact ld | exact ldE)) (h := ?_)
    refine tk 6 (hy := mv) (h := ?_)
    refine tk 7 (hy := ix (A := a.fA) (m := d.fx.length)) (h := ?_)
    refine tk 8 (hy := (by first | exact fa | exact faE)) (h := ?_)
    refine tk 9 (hy := faE (A := a.fA) (i := z.k) (j := 11)) (h := ?_)
    refine tk 10 (hy := ldE (A := a.fA) (hk := map_at hx)) (h := ?_)
    refine one 3 (h := ?_)
    refine bs (h := fun b5 => ?_)
    refine nx (h := ?_)
    refine one 11 (h := ?_)
    first | refine ap (h := fun A3 c3 => ?_) | refine ap0 (h := fun A3 c3 => ?_)
    refine nx (h := ?_)
    refine one 12 (h := ?_)
    refine WL.y (hy := ix (A := A2) (m := d.fx.length)) (h := ?_)
    refine nx (h := ?_)
    refine tk 13 (hy := (by first | exact fa | exact faE)) (h := ?_)
    refine tk 14 (hy := faE (A := A2) (i := z.k) (j := 11)) (h := ?_)
    refine one 15 (h := ?_)
    refine stE (A := A2) (k := z.k) (j := 11) (cs := x.enc) (hk := cp_at hzl hx) (h := ?_)
    refine nx (h := ?_)
    refine dn (h := ?_)
    refine q_blk_norm (h := ?_)
    refine q_seq (h := ?_)
    simp only [Nat.zero_add, List.nil_append]
    refine WC.room (A := A3) (k := x.b.st.length) (by repeat (first | exact At.here | apply At.there)) (h := fun hrm => ?_)
    refine WC.manyAdd (A := A3) (by repeat (first | exact At.here | apply At.there)) (by repeat (first | exact At.here | apply At.there)) ?_
    rw [row_add (c := c3)]
    rw [fx_set z.bs d.fx hzl hx]
    refine rg (h := ?_)
    refine WL.y (hy := mv) (h := ?_)
    refine WL.y (hy := addI) (h := ?_)
    refine WL.y (hy := asg) (h := ?_)
    refine nl (h := ?_)
    refine rn (x := z) ⟨z.k + 1, z.bs ++ [x.at_ A3 c3]⟩ ⟨by dsimp only; omega, by dsimp only; rw [List.length_append, hzl]; rfl, core_add hzc hx _ _, fxB_add hzb hrm⟩ (by dsimp only; omega) (by repeat (first | exact trivial | refine ⟨rfl, ?_⟩)) (by repeat (first | exact SubL.nil | (apply SubL.cons; (repeat (first | exact At.here | apply At.there))) | exact SubL.refl _ | apply SubL.skip))
  · skip
    have hkn : z.k = d.fx.length := by have := of_decide_eq_false h0; omega
    refine et (h := ?_)
    refine q_then_exit (h := ?_)
    refine q_then_exit (h := ?_)
    refine q_blk_hit (h := ?_)
    refine q_seq (h := ?_)
    refine sq (h := ?_)
    refine WC.room (A := A2) (k := d.fx.length) (by repeat (first | exact At.here | apply At.there)) (h := fun hrf => ?_)
    have hbl : z.bs.length = d.fx.length := by omega
    rw [hkn, List.drop_length, List.append_nil, ← hbl]
    refine rg (h := ?_)
    refine bs (h := fun b6 => ?_)
    refine WL.y (hy := (by first | exact fa | exact faE)) (h := ?_)
    refine WL.y (hy := (by first | exact ld | exact ldE)) (h := ?_)
    first | refine ap (h := fun A4 c4 => ?_) | refine ap0 (h := fun A4 c4 => ?_)
    refine WL.y (hy := (by first | exact fa | exact faE)) (h := ?_)
    first | refine st (h := ?_) | refine stE (h := ?_)
    simp only [Nat.zero_add, List.nil_append]
    refine nl (h := ?_)
    refine q_seq (h := ?_)
    refine sq (h := ?_)
    refine rg (h := ?_)
    refine WL.y (hy := (by first | exact ldA | exact ldEA)) (h := ?_)
    first | refine stA (h := ?_) | refine stEA (h := ?_)
    refine nl (h := ?_)
    refine q_seq (h := ?_)
    refine rtn (h := ?_)
    refine q_ret (hR := ?_)
    exact fun w hS => ⟨⟨z.bs, ⟨A1, A2, A4, c1, c2, c4⟩⟩, ⟨⟨by rw [hzc, List.take_of_length_le (by omega)], hzb⟩, hrf.2⟩, (by rw [← hbl]; rfl), hS.sub (by repeat (first | exact SubL.nil | (apply SubL.cons; (repeat (first | exact At.here | apply At.there))) | exact SubL.refl _ | apply SubL.skip))⟩
def Dp.plus (d : Dp) (item day more : Int) : Dp := { d with cr := d.cr ++ [⟨day, item, more⟩] }
theorem cr_add {l : List Cx} {c : Cx} : l.map Cx.enc ++ [[.int .i64 c.day, .int .i64 c.item, .int .i64 c.count]] = (l ++ [c]).map Cx.enc := by rw [List.map_append]; rfl
set_option maxRecDepth 100000 in
set_option maxHeartbeats 2000000 in
theorem C_law9_with (d : Dp) (a : DA) (hsm : SmD d) (item day more : Int) (w : World) (h : DpR w d a) : CR Try.prog 23 [d.val a, .agg #[.int .i64 item, .int .i64 day], .int .i64 more] w (fun y : CoX => (y.fx.map Fx.core = d.fx.map Fx.core ∧ FxB y.fx) ∧ y.a.fc ≤ 9223372036854775807) (fun y => Dp.val { d.plus item day more with fx := y.fx } y.a)
    (fun y => [.own y.a.sA y.a.sc 3 1 d.st.length (encI d.st), .own y.a.fA y.a.fc 60 16 y.fx.length (y.fx.map Fx.enc), .own y.a.cA y.a.cc 62 3 (d.plus item day more).cr.length ((d.plus item day more).cr.map Cx.enc), manyE true (y.fx.map Fx.row)]) := by
  have hcn := hsm.1.2.1
  have hpl : (d.plus item day more).cr.length = d.cr.length + 1 := by simp [Dp.plus]
  refine ⟨en Try.func23 Try.ntmps23 (St.init w) (h := fun F => ?_)⟩
  refine sq (h := ?_)
  refine rg (h := ?_)
  refine bxA (h := fun b0 => ?_)
  refine bxA (h := fun b1 => ?_)
  refine al (h := fun b2 => ?_)
  refine nl (h := ?_)
  refine q_seq (h := ?_)
  refine sq (h := ?_)
  refine rg (h := ?_)
  refine WL.y (hy := (by first | exact ldA | exact ldEA)) (h := ?_)
  refine cl (hc := fun w hS => C_ref9_Copy d a hsm w (h.old hS)) (h := fun y hy => ?_)
  refine al (h := fun b3 => ?_)
  first | refine stA (h := ?_) | refine stEA (h := ?_)
  refine nl (h := ?_)
  refine q_seq (h := ?_)
  refine sq (h := ?_)
  refine rg (h := ?_)
  refine WL.y (hy := (by first | exact fa | exact faE)) (h := ?_)
  refine WL.y (hy := (by first | exact ld | exact ldE)) (h := ?_)
  refine WL.y (hy := (by first | exact fa | exact faE)) (h := ?_)
  refine WL.y (hy := (by first | exact ld | exact ldE)) (h := ?_)
  refine WL.y (hy := (by first | exact fa | exact faE)) (h := ?_)
  refine WL.y (hy := (by first | exact ld | exact ldE)) (h := ?_)
  refine WL.y (hy := mv) (h := ?_)
  refine WL.y (hy := bd) (h := ?_)
  refine bs (h := fun b4 => ?_)
  refine ap (A := y.a.cA) (m := d.cr.length) (c := y.a.cc) (h := fun A1 c1 => ?_)
  refine WL.y (hy := (by first | exact fa | exact faE)) (h := ?_)
  first | refine st (h := ?_) | refine stE (h := ?_)
  refine nl (h := ?_)
  refine q_seq (h := ?_)
  refine sq (h := ?_)
  rw [cr_add (c := ⟨day, item, more⟩), ← hpl]
  refine rg (h := ?_)
  refine WL.y (hy := (by first | exact ldA | exact ldEA)) (h := ?_)
  first | refine stA (h := ?_) | refine stEA (h := ?_)
  refine nl (h := ?_)
  refine q_seq (h := ?_)
  refine rtn (h := ?_)
  refine q_ret (hR := ?_)
  exact fun w hS => ⟨⟨y.fx, ⟨y.a.sA, y.a.fA, A1, y.a.sc, y.a.fc, c1⟩⟩, hy, rfl, hS.sub (by repeat (first | exact SubL.nil | (apply SubL.cons; (repeat (first | exact At.here | apply At.there))) | exact SubL.refl _ | apply SubL.skip))⟩
end Go.Proofs.Ytacaojifempclaa

namespace Go.Proofs.Ytacaojifempclaa
open Go Go.RowKit

structure EX where
  (a : DA) (A : Option Addr)
set_option maxRecDepth 100000 in
set_option maxHeartbeats 2000000 in
theorem C_law9_Example (w : World) : CR Try.prog 57 [] w (fun x : EX => x.a.sc = 3 ∧ x.a.fc = 3 ∧ x.a.cc = 1) (fun x => (exD x.A 1).val x.a)
    (fun x => [.own x.a.sA 3 3 1 3 (encI [10, 30, 9]), .own x.a.fA 3 60 16 3 ((exD x.A 1).fx.map Fx.enc), .own x.a.cA 1 62 3 1 ((exD x.A 1).cr.map Cx.enc), .own x.A 1 26 2 1 (encP [(3, 1)])]) := by
  refine ⟨en Try.func57 Try.ntmps57 (St.init w) (h := fun F => ?_)⟩
  refine sq (h := ?_)
  refine rg (h := ?_)
  refine al (h := fun b0 => ?_)
  refine nl (h := ?_)
  refine q_seq (h := ?_)
  refine sq (h := ?_)
  refine rg (h := ?_)
  refine cl (hc := fun w hS => C_law1_Example w) (h := fun y hy => ?_)
  refine WL.y (hy := mv) (h := ?_)
  refine WL.y (hy := ex) (h := ?_)
  refine WL.y (hy := ex) (h := ?_)
  refine al (h := fun b1 => ?_)
  first | refine stA (h := ?_) | refine stEA (h := ?_)
  refine WL.y (hy := asg) (h := ?_)
  refine nl (h := ?_)
  refine q_seq (h := ?_)
  refine sq (h := ?_)
  refine rg (h := ?_)
  refine WL.y (hy := bd) (h := ?_)
  refine bs (h := fun b2 => ?_)
  refine WL.y (hy := (by first | exact ldA | exact ldEA)) (h := ?_)
  refine WL.y (hy := bd) (h := ?_)
  refine WL.y (hy := (by first | exact ldA | exact ldEA)) (h := ?_)
  refine WL.y (hy := bd) (h := ?_)
  refine bs (h := fun b3 => ?_)
  refine WL.y (hy := bd) (h := ?_)
  refine WL.y (hy := bd) (h := ?_)
  refine WL.y (hy := bd) (h := ?_)
  refine WL.y (hy := (by first | exact ldA | exact ldEA)) (h := ?_)
  refine WL.y (hy := bd) (h := ?_)
  refine bs (h := fun b4 => ?_)
  refine WL.y (hy := bd) (h := ?_)
  refine bs (h := fun b5 => ?_)
  refine WL.y (hy := bd) (h := ?_)
  first | refine stA (h := ?_) | refine stEA (h := ?_)
  refine nl (h := ?_)
  refine q_seq (h := ?_)
  refine rtn (h := ?_)
  refine q_ret (hR := ?_)
  exact fun w hS => ⟨⟨⟨_, _, _, 3, 3, 1⟩, _⟩, ⟨rfl, rfl, rfl⟩, rfl, hS.sub (by repeat (first | exact SubL.nil | (apply SubL.cons; (repeat (first | exact At.here | apply At.there))) | exact SubL.refl _ | apply SubL.skip))⟩
theorem ex_dpr {w0 w : World} {L : List Ent} (hS : St w0 w L) {x : EX} (hx : x.a.sc = 3 ∧ x.a.fc = 3 ∧ x.a.cc = 1) (h1 : Rds L x.a.sA 1 3 (encI [10, 30, 9])) (h2 : Rds L x.a.fA 16 3 ((exD x.A 1).fx.map Fx.enc)) (h3 : Rds L x.a.cA 3 1 ((exD x.A 1).cr.map Cx.enc)) (h4 : Rds L x.A 2 1 (encP [(3, 1)])) : DpR w (exD x.A 1) x.a :=
  ⟨hS.get h1, hS.get h2, hS.get h3, fun y hy => by
    simp only [exD, List.mem_cons, List.not_mem_nil, or_false] at hy
    rcases hy with rfl | rfl | rfl
    · exact ⟨Rd.nil w none 2, Nat.le_refl _, Nat.zero_le _⟩
    · exact ⟨hS.get h4, Nat.le_refl _, by dsimp only; omega⟩
    · exact ⟨Rd.nil w none 2, Nat.le_refl _, Nat.zero_le _⟩, by show 3 ≤ _; omega, by show 3 ≤ _; omega, by show 1 ≤ _; omega⟩
set_option maxRecDepth 100000 in
set_option maxHeartbeats 2000000 in
theorem C_law9_works (w : World) : C0 Try.prog 17 [] w (.bool true) := by
  refine ⟨en Try.func17 Try.ntmps17 (St.init w) (h := fun F => ?_)⟩
  refine sq (h := ?_)
  refine rg (h := ?_)
  refine WL.y (hy := asg) (h := ?_)
  refine nl (h := ?_)
  refine q_seq (h := ?_)
  refine sq (h := ?_)
  refine rg (h := ?_)
  refine cl (hc := fun w hS => C_law9_Example w) (h := fun x hx => ?_)
  refine al (h := fun b0 => ?_)
  first | refine stA (h := ?_) | refine stEA (h := ?_)
  refine nl (h := ?_)
  refine q_seq (h := ?_)
  refine sq (h := ?_)
  refine rg (h := ?_)
  refine WL.y (hy := (by first | exact fa | exact faE)) (h := ?_)
  refine WL.y (hy := (by first | exact ld | exact ldE)) (h := ?_)
  refine WL.y (hy := ix (A := x.a.fA) (m := 3)) (h := ?_)
  refine WL.y (hy := (by first | exact fa | exact faE)) (h := ?_)
  refine WL.y (hy := ldEA (A := x.a.fA) (k := 0) (j := 1) (cs := Fx.enc ⟨1, exF, ⟨[], (0, 0), (0, 0)⟩, none, 0⟩) (vs := exF.cells) (hc := .skip (Tk.cons (.cons (.cons (.cons (.cons (.cons (.cons (.cons (.cons (.cons .nil)))))))))))) (h := ?_)
  refine WL.y (hy := bd) (h := ?_)
  refine cl0 (hc := fun w hS => C_balls_Rest exF ⟨[], (0, 0), (0, 0)⟩ none 0 0 w (Rd.nil w none 2) (by omega)) (h := ?_)
  rw [ex_restR]
  refine WL.y (hy := mv) (h := ?_)
  refine WL.y (hy := ex) (h := ?_)
  refine WL.y (hy := ex) (h := ?_)
  refine WL.y (hy := ex) (h := ?_)
  refine al (h := fun b1 => ?_)
  refine al (h := fun b2 => ?_)
  first | refine stA (h := ?_) | refine stEA (h := ?_)
  first | refine stA (h := ?_) | refine stEA (h := ?_)
  refine WL.y (hy := asg) (h := ?_)
  refine nl (h := ?_)
  refine q_seq (h := ?_)
  refine sq (h := ?_)
  refine rg (h := ?_)
  refine WL.y (hy := (by first | exact ldA | exact ldEA)) (h := ?_)
  refine cl0 (hc := fun w hS => C_balls_Left (exD x.A 1) x.a 0 2 w (ex_dpr hS hx (by repeat (first | exact Rds.own | apply Rds.there)) (by repeat (first | exact Rds.own | apply Rds.there)) (by repeat (first | exact Rds.own | apply Rds.there)) (by repeat (first | exact Rds.own | apply Rds.there)))) (h := ?_)
  rw [ex_left]
  refine WL.y (hy := mv) (h := ?_)
  refine WL.y (hy := ex) (h := ?_)
  refine WL.y (hy := ex) (h := ?_)
  refine al (h := fun b3 => ?_)
  first | refine stA (h := ?_) | refine stEA (h := ?_)
  refine WL.y (hy := asg) (h := ?_)
  refine nl (h := ?_)
  refine q_seq (h := ?_)
  refine sq (h := ?_)
  refine rg (h := ?_)
  refine WL.y (hy := (by first | exact ldA | exact ldEA)) (h := ?_)
  refine cl0 (hc := fun w hS => C_balls_Order (exD x.A 1) x.a 0 2 w (ex_dpr hS hx (by repeat (first | exact Rds.own | apply Rds.there)) (by repeat (first | exact Rds.own | apply Rds.there)) (by repeat (first | exact Rds.own | apply Rds.there)) (by repeat (first | exact Rds.own | apply Rds.there)))) (h := ?_)
  rw [ex_ordR]
  refine WL.y (hy := mv) (h := ?_)
  refine WL.y (hy := ex) (h := ?_)
  refine WL.y (hy := ex) (h := ?_)
  refine WL.y (hy := asg) (h := ?_)
  refine WL.y (hy := asg) (h := ?_)
  refine nl (h := ?_)
  refine q_seq (h := ?_)
  refine sq (h := ?_)
  refine rg (h := ?_)
  refine WL.y (hy := mv) (h := ?_)
  refine WL.y (hy := eql) (h := ?_)
  refine WL.y (hy := mv) (h := ?_)
  apply brAnd 3 33 36 (by exact rfl)
  · intro hb0
    refine un (h := ?_)
    refine WL.y (hy := mv) (h := ?_)
    refine un (h := ?_)
    refine WL.y (hy := eql) (h := ?_)
    refine WL.y (hy := (by first | exact pkT | exact pkF)) (h := ?_)
    exact mg (by repeat (first | exact trivial | refine ⟨rfl, ?_⟩ | refine ⟨by rw [hb0]; rfl, ?_⟩)) (by repeat (first | exact SubL.nil | (apply SubL.cons; (repeat (first | exact At.here | apply At.there))) | exact SubL.refl _ | apply SubL.skip))
  · intro hb0
    repeat (first | refine un (h := ?_) | refine sk (h := ?_) | refine WL.y (hy := pkF) (h := ?_) | refine WL.y (hy := pkT) (h := ?_))
    exact mg (by repeat (first | exact trivial | refine ⟨rfl, ?_⟩ | refine ⟨by rw [hb0]; rfl, ?_⟩)) (by repeat (first | exact SubL.nil | (apply SubL.cons; (repeat (first | exact At.here | apply At.there))) | exact SubL.refl _ | apply SubL.skip))
  refine WL.y (hy := mv) (h := ?_)
  apply brAnd 3 37 40 (by exact rfl)
  · intro hb1
    refine un (h := ?_)
    refine WL.y (hy := mv) (h := ?_)
    refine un (h := ?_)
    refine WL.y (hy := eql) (h := ?_)
    refine WL.y (hy := (by first | exact pkT | exact pkF)) (h := ?_)
    exact mg (by repeat (first | exact trivial | refine ⟨rfl, ?_⟩ | refine ⟨by rw [hb1]; rfl, ?_⟩)) (by repeat (first | exact SubL.nil | (apply SubL.cons; (repeat (first | exact At.here | apply At.there))) | exact SubL.refl _ | apply SubL.skip))
  · intro hb1
    repeat (first | refine un (h := ?_) | refine sk (h := ?_) | refine WL.y (hy := pkF) (h := ?_) | refine WL.y (hy := pkT) (h := ?_))
    exact mg (by repeat (first | exact trivial | refine ⟨rfl, ?_⟩ | refine ⟨by rw [hb1]; rfl, ?_⟩)) (by repeat (first | exact SubL.nil | (apply SubL.cons; (repeat (first | exact At.here | apply At.there))) | exact SubL.refl _ | apply SubL.skip))
  refine WL.y (hy := mv) (h := ?_)
  apply brAnd 4 41 45 (by exact rfl)
  · intro hb2
    refine un (h := ?_)
    refine WL.y (hy := (by first | exact ldA | exact ldEA)) (h := ?_)
    refine un (h := ?_)
    refine WL.y (hy := bd) (h := ?_)
    refine un (h := ?_)
    refine WL.y (hy := eqlT) (h := ?_)
    refine WL.y (hy := (by first | exact pkT | exact pkF)) (h := ?_)
    exact mg (by repeat (first | exact trivial | refine ⟨rfl, ?_⟩ | refine ⟨by rw [hb2]; rfl, ?_⟩)) (by repeat (first | exact SubL.nil | (apply SubL.cons; (repeat (first | exact At.here | apply At.there))) | exact SubL.refl _ | apply SubL.skip))
  · intro hb2
    repeat (first | refine un (h := ?_) | refine sk (h := ?_) | refine WL.y (hy := pkF) (h := ?_) | refine WL.y (hy := pkT) (h := ?_))
    exact mg (by repeat (first | exact trivial | refine ⟨rfl, ?_⟩ | refine ⟨by rw [hb2]; rfl, ?_⟩)) (by repeat (first | exact SubL.nil | (apply SubL.cons; (repeat (first | exact At.here | apply At.there))) | exact SubL.refl _ | apply SubL.skip))
  refine WL.y (hy := mv) (h := ?_)
  apply brAnd 4 46 50 (by exact rfl)
  · intro hb3
    refine un (h := ?_)
    refine WL.y (hy := (by first | exact ldA | exact ldEA)) (h := ?_)
    refine un (h := ?_)
    refine WL.y (hy := bd) (h := ?_)
    refine un (h := ?_)
    refine WL.y (hy := eqlT) (h := ?_)
    refine WL.y (hy := (by first | exact pkT | exact pkF)) (h := ?_)
    exact mg (by repeat (first | exact trivial | refine ⟨rfl, ?_⟩ | refine ⟨by rw [hb3]; rfl, ?_⟩)) (by repeat (first | exact SubL.nil | (apply SubL.cons; (repeat (first | exact At.here | apply At.there))) | exact SubL.refl _ | apply SubL.skip))
  · intro hb3
    repeat (first | refine un (h := ?_) | refine sk (h := ?_) | refine WL.y (hy := pkF) (h := ?_) | refine WL.y (hy := pkT) (h := ?_))
    exact mg (by repeat (first | exact trivial | refine ⟨rfl, ?_⟩ | refine ⟨by rw [hb3]; rfl, ?_⟩)) (by repeat (first | exact SubL.nil | (apply SubL.cons; (repeat (first | exact At.here | apply At.there))) | exact SubL.refl _ | apply SubL.skip))
  refine WL.y (hy := mv) (h := ?_)
  apply brAnd 4 51 55 (by exact rfl)
  · intro hb4
    refine un (h := ?_)
    refine WL.y (hy := (by first | exact ldA | exact ldEA)) (h := ?_)
    refine un (h := ?_)
    refine WL.y (hy := bd) (h := ?_)
    refine un (h := ?_)
    refine WL.y (hy := eqlT) (h := ?_)
    refine WL.y (hy := (by first | exact pkT | exact pkF)) (h := ?_)
    exact mg (by repeat (first | exact trivial | refine ⟨rfl, ?_⟩ | refine ⟨by rw [hb4]; rfl, ?_⟩)) (by repeat (first | exact SubL.nil | (apply SubL.cons; (repeat (first | exact At.here | apply At.there))) | exact SubL.refl _ | apply SubL.skip))
  · intro hb4
    repeat (first | refine un (h := ?_) | refine sk (h := ?_) | refine WL.y (hy := pkF) (h := ?_) | refine WL.y (hy := pkT) (h := ?_))
    exact mg (by repeat (first | exact trivial | refine ⟨rfl, ?_⟩ | refine ⟨by rw [hb4]; rfl, ?_⟩)) (by repeat (first | exact SubL.nil | (apply SubL.cons; (repeat (first | exact At.here | apply At.there))) | exact SubL.refl _ | apply SubL.skip))
  refine WL.y (hy := mv) (h := ?_)
  apply brAnd 3 56 59 (by exact rfl)
  · intro hb5
    refine un (h := ?_)
    refine WL.y (hy := mv) (h := ?_)
    refine un (h := ?_)
    refine WL.y (hy := eql) (h := ?_)
    refine WL.y (hy := (by first | exact pkT | exact pkF)) (h := ?_)
    exact mg (by repeat (first | exact trivial | refine ⟨rfl, ?_⟩ | refine ⟨by rw [hb5]; rfl, ?_⟩)) (by repeat (first | exact SubL.nil | (apply SubL.cons; (repeat (first | exact At.here | apply At.there))) | exact SubL.refl _ | apply SubL.skip))
  · intro hb5
    repeat (first | refine un (h := ?_) | refine sk (h := ?_) | refine WL.y (hy := pkF) (h := ?_) | refine WL.y (hy := pkT) (h := ?_))
    exact mg (by repeat (first | exact trivial | refine ⟨rfl, ?_⟩ | refine ⟨by rw [hb5]; rfl, ?_⟩)) (by repeat (first | exact SubL.nil | (apply SubL.cons; (repeat (first | exact At.here | apply At.there))) | exact SubL.refl _ | apply SubL.skip))
  refine WL.y (hy := asg) (h := ?_)
  refine nl (h := ?_)
  refine q_seq (h := ?_)
  refine rtn (h := ?_)
  refine q_ret (hR := ?_)
  exact fun w hS => ⟨rfl, hS.sub (by repeat (first | exact SubL.nil | (apply SubL.cons; (repeat (first | exact At.here | apply At.there))) | exact SubL.refl _ | apply SubL.skip))⟩
end Go.Proofs.Ytacaojifempclaa

namespace Go.Proofs.Ytacaojifempclaa
open Go Go.RowKit

theorem far_smd {d : Dp} (h : farD d = false) : SmD d := by
  obtain ⟨h1, h2⟩ := far_sm h
  exact ⟨by omega, fun x hx => by have := h2 x hx; omega⟩
abbrev Dp.cp (d : Dp) (fx : List Fx) : Dp := { d with fx := fx }
theorem cp_core {d : Dp} {fx : List Fx} (h : fx.map Fx.core = d.fx.map Fx.core) : (d.cp fx).core = d.core := by
  unfold Dp.core Dp.cp; rw [h]
section
variable {d o : Dp}
theorem dep_core (h : o.core = d.core) : depE o = depE d := by rw [← core_dep o, h, core_dep]
theorem shortR_core (h : o.core = d.core) (item : Int) : shortR o item = shortR d item := by rw [← core_shortR o, h, core_shortR]
end
theorem cp_dpr {d : Dp} {w0 w : World} {L : List Ent} (hS : St w0 w L) {fx : List Fx} {a : DA} (hb : FxB fx) (hm : SmD d) (hc : fx.map Fx.core = d.fx.map Fx.core)
    (h1 : Rds L a.sA 1 d.st.length (encI d.st)) (h2 : Rds L a.fA 16 fx.length (fx.map Fx.enc)) (h3 : Rds L a.cA 3 d.cr.length (d.cr.map Cx.enc)) {M : List Ent} (hM : At L (manyE true (fx.map Fx.row)) M) : DpR w (d.cp fx) a := by
  have hl : fx.length = d.fx.length := by simpa using congrArg List.length hc
  obtain ⟨⟨m1, m2, m3⟩, -⟩ := hm
  exact dpr_of hS (o := d.cp fx) hb ⟨⟨by show d.st.length ≤ _; omega, by show fx.length ≤ _; omega⟩, by show d.cr.length ≤ _; omega⟩ h1 h2 h3 hM
end Go.Proofs.Ytacaojifempclaa

namespace Go.Proofs.Ytacaojifempclaa
open Go Go.RowKit

theorem fst_spec (p : Nat → Bool) (n : Nat) : (fstV p n = -1 ∧ ∀ i, i < n → p i = false) ∨ ∃ k : Nat, k < n ∧ fstV p n = k ∧ p k = true ∧ ∀ i, i < k → p i = false := by
  unfold fstV
  cases h : (List.range n).find? p with
  | none =>
    refine .inl ⟨rfl, fun i hi => ?_⟩
    have := List.find?_range_eq_none.1 h i hi
    simpa using this
  | some k =>
    obtain ⟨h1, h2, h3⟩ := List.find?_range_eq_some.1 h
    refine .inr ⟨k, List.mem_range.1 h2, rfl, h1, fun i hi => ?_⟩
    have := h3 i hi
    simpa using this
theorem ask_zero {d : Dp} (h : depE d = 0) {item day : Int} (hi : 0 ≤ item ∧ item ≤ 2) (hd : 0 ≤ day ∧ day ≤ 60) : askE d item day = 0 := by
  rw [askE, h, show wi item 0 2 = true from wi_iff.2 (by omega), show wi day 0 60 = true from wi_iff.2 (by omega)]; rfl
theorem short_ok {d : Dp} (h : depE d = 0) {item : Int} (hi : 0 ≤ item ∧ item ≤ 2) : shortR d item = [.int .i64 (mayV d item), .int .i64 (sureV d item), .int .i64 0] := by
  rw [shortR, ask_zero h hi (by omega)]; rfl
end Go.Proofs.Ytacaojifempclaa

namespace Go.Proofs.Ytacaojifempclaa
open Go Go.RowKit

theorem crT_upto (d : Dp) (item day n : Int) (it : Int) (dd : Nat) : ∀ k, k ≤ d.cr.length → crT (d.plus item day n) it dd k = crT d it dd k
  | 0, _ => rfl
  | k + 1, h => by
    rw [crT, crT, crT_upto d item day n it dd k (by omega)]
    have : (d.plus item day n).cr[k]? = d.cr[k]? := by
      show (d.cr ++ [_])[k]? = _
      rw [List.getElem?_append_left (by omega)]
    rw [this]
theorem plus_len (d : Dp) (item day n : Int) : (d.plus item day n).cr.length = d.cr.length + 1 := by simp [Dp.plus]
theorem crT_plus (d : Dp) (item day n : Int) (it : Int) (dd : Nat) : crT (d.plus item day n) it dd (d.plus item day n).cr.length = bif decide (day = (dd : Int)) && decide (item = it) then crT d it dd d.cr.length + n else crT d it dd d.cr.length := by
  have hc : (d.plus item day n).cr[d.cr.length]? = some ⟨day, item, n⟩ := by
    show (d.cr ++ [_])[d.cr.length]? = _
    rw [List.getElem?_append_right (Nat.le_refl _), Nat.sub_self]; rfl
  rw [plus_len, crT_succ hc, crT_upto d item day n it dd _ (Nat.le_refl _)]
theorem acc_plus (d : Dp) (item day n : Int) (it : Int) (dd : Nat) : ∀ k, accN (d.plus item day n) it k dd = accN d it k dd
  | 0 => rfl
  | k + 1 => by rw [accN, accN, acc_plus d item day n it dd k]; rfl
theorem need_plus (d : Dp) (item day n : Int) (it : Int) (dd : Nat) : needD (d.plus item day n) it dd = needD d it dd := acc_plus d item day n it dd _
theorem lef_mono {d e : Dp} {it : Int} (hst : e.st = d.st) (hc : ∀ dd, crT d it dd d.cr.length ≤ crT e it dd e.cr.length) (hn : ∀ dd, (needD e it dd).1 ≤ (needD d it dd).1 ∧ (needD e it dd).2 ≤ (needD d it dd).2) : ∀ k, (lefD d it k).1 ≤ (lefD e it k).1 ∧ (lefD d it k).2 ≤ (lefD e it k).2
  | 0 => by
    rw [lefD, lefD, hst]; exact ⟨Int.le_refl _, Int.le_refl _⟩
  | k + 1 => by
    have := lef_mono hst hc hn k
    have := hc k
    have := hn k
    rw [lefD, lefD]
    dsimp only
    omega
def earl (x y : Int) : Bool := decide (0 ≤ x) && (decide (y < 0) || decide (x < y))
theorem fst_mono {p q : Nat → Bool} {n : Nat} (h : ∀ k, p k = true → q k = true) : earl (fstV p n) (fstV q n) = false := by
  unfold earl
  rcases fst_spec p n with ⟨h1, _⟩ | ⟨k, hk, h1, h2, _⟩
  · rw [h1]; rfl
  · rcases fst_spec q n with ⟨g1, g2⟩ | ⟨j, hj, g1, g2, g3⟩
    · have := g2 k hk
      rw [h k h2] at this; cases this
    · rw [h1, g1]
      have : ¬ k < j := fun hlt => by
        have := g3 k hlt
        rw [h k h2] at this; cases this
      rw [decide_eq_false (show ¬ (j : Int) < 0 by omega), decide_eq_false (show ¬ (k : Int) < (j : Int) by omega), Bool.or_self, Bool.and_false]
theorem earl_lef {d e : Dp} {it : Int} (h : ∀ k, (lefD d it k).1 ≤ (lefD e it k).1 ∧ (lefD d it k).2 ≤ (lefD e it k).2) : earl (mayV e it) (mayV d it) = false ∧ earl (sureV e it) (sureV d it) = false :=
  ⟨fst_mono fun k hk => by
    have := of_decide_eq_true hk
    exact decide_eq_true (by have := (h (k + 1)).1; omega), fst_mono fun k hk => by
    have := of_decide_eq_true hk
    exact decide_eq_true (by have := (h (k + 1)).2; omega)⟩
theorem acc_app (d : Dp) (x : Fx) (it : Int) (dd : Nat) : ∀ k, k ≤ d.fx.length → accN (d.cp (d.fx ++ [x])) it k dd = accN d it k dd
  | 0, _ => rfl
  | k + 1, h => by
    rw [accN, accN, acc_app d x it dd k (by omega)]
    have : (d.cp (d.fx ++ [x])).fx[k]? = d.fx[k]? := by
      show (d.fx ++ [x])[k]? = _
      rw [List.getElem?_append_left (by omega)]
    rw [this]
theorem need_app (d : Dp) (x : Fx) (it : Int) (dd : Nat) : needD (d.cp (d.fx ++ [x])) it dd = bif decide (x.day = (dd : Int)) then ((needD d it dd).1 + (ndV d.each d.tow d.fra x it).1, (needD d it dd).2 + (ndV d.each d.tow d.fra x it).2) else needD d it dd := by
  have hx : (d.cp (d.fx ++ [x])).fx[d.fx.length]? = some x := by
    show (d.fx ++ [x])[d.fx.length]? = _
    rw [List.getElem?_append_right (Nat.le_refl _), Nat.sub_self]; rfl
  have hl : (d.cp (d.fx ++ [x])).fx.length = d.fx.length + 1 := by simp [Dp.cp]
  rw [needD, hl, accN, hx, acc_app d x it dd _ (Nat.le_refl _)]
  rfl
theorem crT_cp (d : Dp) (fx : List Fx) (it : Int) (dd : Nat) : ∀ k, crT (d.cp fx) it dd k = crT d it dd k
  | 0 => rfl
  | k + 1 => by rw [crT, crT, crT_cp d fx it dd k]
theorem more_law {d : Dp} (hd : depE d = 0) {item day n : Int} (hm : depE (d.plus item day n) = 0) {x : Fx} (hl : depE (d.cp (d.fx ++ [x])) = 0) {it : Int} (hi : 0 ≤ it ∧ it ≤ 2) : ∃ a b p q r s : Int,
    shortR d it = [.int .i64 a, .int .i64 b, .int .i64 0] ∧ shortR (d.plus item day n) it = [.int .i64 p, .int .i64 q, .int .i64 0] ∧ shortR (d.cp (d.fx ++ [x])) it = [.int .i64 r, .int .i64 s, .int .i64 0] ∧
    (earl p a = false ∧ earl q b = false) ∧ earl a r = false ∧ earl b s = false := by
  refine ⟨_, _, _, _, _, _, short_ok hd hi, short_ok hm hi, short_ok hl hi, earl_lef (lef_mono rfl (fun dd => ?_) fun dd => ?_), earl_lef (lef_mono rfl (fun dd => ?_) fun dd => ?_)⟩
  · have hn := ((dep_good (dep_ok hm)).cr ⟨day, item, n⟩ (by simp [Dp.plus])).2.2.1
    dsimp only at hn
    rw [crT_plus]
    cases decide (day = (dd : Int)) && decide (item = it)
    · exact Int.le_refl _
    · show _ ≤ _ + n; omega
  · rw [need_plus]; exact ⟨Int.le_refl _, Int.le_refl _⟩
  · show crT (d.cp _) it dd d.cr.length ≤ _
    rw [crT_cp]; exact Int.le_refl _
  · have hG := dep_good (dep_ok hl)
    have hx := (hG.fx x (by simp [Dp.cp])).2
    have hr := nd_rng (item := it) ⟨hG.k1, hG.k2, hG.k3⟩ hx
    rw [need_app]
    cases decide (x.day = (dd : Int))
    · exact ⟨Int.le_refl _, Int.le_refl _⟩
    · dsimp only [cond_true]
      change 0 ≤ (ndV d.each d.tow d.fra x it).1 ∧ (ndV d.each d.tow d.fra x it).1 ≤ (ndV d.each d.tow d.fra x it).2 ∧ _ at hr
      omega
end Go.Proofs.Ytacaojifempclaa
