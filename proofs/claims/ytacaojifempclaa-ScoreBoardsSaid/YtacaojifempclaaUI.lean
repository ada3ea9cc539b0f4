/- Walks of the reference of score: costs, from. -/
import Derived.Test.YtacaojifempclaaUH
namespace Go.Proofs.Ytacaojifempclaa
open Go Go.RowKit

/-- The document's table of points. -/
def tbV (f : Fmt) (s : Pr) (W L : Int) (i j : Nat) : Int := trG f s 1000000 44 W L (89 - i - j) i j
section
variable {f : Fmt} {s : Pr} {W L : Int}
theorem tb_far {i j : Nat} (h : 44 ≤ i ∨ 44 ≤ j) (hi : i < 45) (hj : j < 45) : tbV f s W L i j = 1000000 := by
  unfold tbV
  obtain ⟨n, hn⟩ : ∃ n, 89 - i - j = n + 1 := ⟨88 - i - j, by omega⟩
  rw [hn, trG, if_pos (by omega)]
theorem tb_eq {i j : Nat} (hi : i < 44) (hj : j < 44) : tbV f s W L i j = min 1000000 (gcost s i j + min (bif EO f s i j then W else tbV f s W L (i + 1) j) (bif EO f s j i then L else tbV f s W L i (j + 1))) := by
  unfold tbV
  obtain ⟨n, hn⟩ : ∃ n, 89 - i - j = n + 1 := ⟨88 - i - j, by omega⟩
  rw [hn, trG, if_neg (by omega), show 89 - (i + 1) - j = n by omega, show 89 - i - (j + 1) = n by omega]
  rfl
theorem tr_rng (hW : 0 ≤ W) (hL : 0 ≤ L) (hs : 0 ≤ s.2) : ∀ (n : Nat) (a b : Int), 0 ≤ trG f s 1000000 44 W L n a b ∧ trG f s 1000000 44 W L n a b ≤ 1000000
  | 0, a, b => by rw [trG]; omega
  | n + 1, a, b => by
    have h1 := tr_rng hW hL hs n (a + 1) b
    have h2 := tr_rng hW hL hs n a (b + 1)
    have hg : 0 ≤ gcost s a b := by unfold gcost; cases brksV s (a, b) <;> simp only [cond_true, cond_false] <;> omega
    rw [trG]
    by_cases hl : 44 ≤ a ∨ 44 ≤ b
    · rw [if_pos hl]; omega
    · rw [if_neg hl]
      cases EO f s a b <;> cases EO f s b a <;> simp only [cond_true, cond_false] <;> omega
def CDone (sum a i j : Int) : Prop := 44 ≤ i ∨ 44 ≤ j ∨ sum < i + j ∨ (i + j = sum ∧ i < a)
instance (sum a i j : Int) : Decidable (CDone sum a i j) := by unfold CDone; infer_instance
def CosI (f : Fmt) (s : Pr) (W L sum a : Int) (hs : List MR) : Prop := ∀ i j : Nat, i < 45 → j < 45 → gv hs i j = if CDone sum a i j then tbV f s W L i j else 1000000
theorem CosI.weak {sum a sum' a' : Int} {hs : List MR} (h : CosI f s W L sum a hs) (hd : ∀ i j : Int, 0 ≤ i → 0 ≤ j → (CDone sum a i j ↔ CDone sum' a' i j)) : CosI f s W L sum' a' hs := fun i j hi hj => by
  rw [h i j hi hj]
  have := hd i j (by omega) (by omega)
  by_cases hc : CDone sum a i j
  · rw [if_pos hc, if_pos (this.1 hc)]
  · rw [if_neg hc, if_neg (fun e => hc (this.2 e))]
theorem cos_init {hs : List MR} (h : ∀ i j : Nat, i < 45 → j < 45 → gv hs i j = 1000000) : CosI f s W L 86 43 hs := fun i j hi hj => by
  rw [h i j hi hj]
  by_cases hc : CDone 86 43 i j
  · rw [if_pos hc, tb_far _ hi hj]; unfold CDone at hc; omega
  · rw [if_neg hc]
theorem cos_set {sum a i j : Nat} {hs hs' : List MR} (h : CosI f s W L sum a hs) (hi : i = a) (hij : i + j = sum) (hb : i < 45 ∧ j < 45) (hg : ∀ x y : Nat, gv hs' x y = if x = i ∧ y = j then tbV f s W L i j else gv hs x y) : CosI f s W L sum ((a + 1 : Nat) : Int) hs' := fun x y hx hy => by
  rw [hg]
  by_cases e : x = i ∧ y = j
  · rw [if_pos e, e.1, e.2, if_pos (by unfold CDone; omega)]
  · rw [if_neg e, h x y hx hy]
    by_cases hc : CDone sum a x y
    · rw [if_pos hc, if_pos (by unfold CDone at *; omega)]
    · rw [if_neg hc, if_neg (by unfold CDone at *; omega)]
theorem eo_lead (a b : Int) : decide (leadsV (a + 1, b) f.games 2 = 0) = (decide (f.games ≤ a + 1) && decide (2 ≤ a + 1 - b)) := by
  unfold leadsV
  cases decide (f.games ≤ a + 1) && decide (2 ≤ a + 1 - b)
  · cases decide (f.games ≤ b) && decide (2 ≤ b - (a + 1)) <;> rfl
  · rfl
theorem eo_lead' (a b : Int) : decide (leadsV (a, b + 1) f.games 2 = 1) = (decide (f.games ≤ b + 1) && decide (2 ≤ b + 1 - a)) := by
  unfold leadsV
  cases h1 : decide (f.games ≤ a) && decide (2 ≤ a - (b + 1))
  · cases decide (f.games ≤ b + 1) && decide (2 ≤ b + 1 - a) <;> rfl
  · have h2 : (decide (f.games ≤ b + 1) && decide (2 ≤ b + 1 - a)) = false := by
      rw [Bool.and_eq_true, decide_eq_true_eq, decide_eq_true_eq] at h1
      rw [Bool.and_eq_false_iff, decide_eq_false_iff_not, decide_eq_false_iff_not]; omega
    rw [h2]; rfl
/-- Ends of the document. -/
def endR (s : Pr) (a b : Int) : Bool := decide (0 ≤ s.1) && decide (a = s.1) && decide (b = s.1)
theorem end_is {a b : Int} (ha : 0 ≤ a) : endR s a b = brksV s (a, b) := by
  unfold endR brksV
  by_cases h : 0 ≤ s.1
  · rw [decide_eq_true h, Bool.true_and]
  · rw [decide_eq_false h, decide_eq_false (show ¬ a = s.1 by omega)]; rfl
theorem eo_r {a b : Int} (ha : 0 ≤ a) : EO f s a b = (endR s a b || decide (leadsV (a + 1, b) f.games 2 = 0)) := by rw [EO, end_is ha, eo_lead]
theorem eo_r' {a b : Int} (ha : 0 ≤ a) : EO f s b a = (endR s a b || decide (leadsV (a, b + 1) f.games 2 = 1)) := by rw [eo_swap, end_is ha, eo_lead']
theorem gc_r {a b : Int} (ha : 0 ≤ a) : gcost s a b = bif endR s a b then max s.2 2 else 4 := by rw [gcost, end_is ha]
end
def fillR (j : Nat) : List Int := List.replicate j 1000000 ++ List.replicate (45 - j) 0
theorem fill_len {j : Nat} (h : j ≤ 45) : (fillR j).length = 45 := by simp [fillR]; omega
theorem fill_zero : fillR 0 = zrow 45 := by simp [fillR, zrow]
theorem fill_set {j : Nat} (h : j < 45) : (fillR j).set j 1000000 = fillR (j + 1) := by
  obtain ⟨m, hm⟩ : ∃ m, 45 - j = m + 1 := ⟨44 - j, by omega⟩
  unfold fillR
  rw [List.set_append_right _ _ (by simp), List.length_replicate, Nat.sub_self, hm, List.replicate_succ, List.set_cons_zero, show 45 - (j + 1) = m by omega, List.replicate_succ', List.append_assoc]; rfl
theorem fill_end : fillR 45 = List.replicate 45 1000000 := by simp [fillR]
theorem fill_at {i : Nat} (h : i < 45) : (fillR 45).getD i 0 = 1000000 := by
  rw [fill_end, List.getD_eq_getElem?_getD, List.getElem?_replicate, if_pos h]; rfl
/-- Rows that stand, and places that are still empty. -/
def padV (hs : List MR) (k : Nat) : List (List Value) := mxV hs ++ List.replicate k [.slice none 0 0]
theorem pad_set (hs : List MR) (k : Nat) (A : Option Addr) (c : Nat) (xs : List Int) : (padV hs (k + 1)).set hs.length [.slice A xs.length c] = padV (hs ++ [(A, c, xs)]) k := by
  unfold padV
  rw [List.set_append_right _ _ (by rw [mxV_len]; exact Nat.le_refl _), mxV_len, Nat.sub_self, List.replicate_succ, List.set_cons_zero, mxV_app, List.append_assoc]; rfl
theorem pad_at (hs : List MR) (k : Nat) (A : Option Addr) (c : Nat) (xs : List Int) : (padV (hs ++ [(A, c, xs)]) k)[hs.length]? = some [.slice A xs.length c] := by
  unfold padV
  rw [mxV_app, List.append_assoc, List.getElem?_append_right (by rw [mxV_len]; exact Nat.le_refl _), mxV_len, Nat.sub_self]; rfl
theorem pad_same (hs : List MR) (k : Nat) (A : Option Addr) (c : Nat) (xs ys : List Int) (h : xs.length = ys.length) : padV (hs ++ [(A, c, xs)]) k = padV (hs ++ [(A, c, ys)]) k := by
  unfold padV
  rw [mxV_app, mxV_app]
  simp only [mxV, List.map_cons, List.map_nil, h]
theorem pad_zero (hs : List MR) : padV hs 0 = mxV hs := by simp [padV]
theorem pad_init : List.replicate 45 [Value.slice none 0 0] = padV [] 45 := by simp [padV, mxV]
theorem pad_none (hs : List MR) (k : Nat) : (padV hs (k + 1))[hs.length]? = some [.slice none 0 0] := by
  unfold padV
  rw [List.getElem?_append_right (by rw [mxV_len]; exact Nat.le_refl _), mxV_len, Nat.sub_self, List.replicate_succ]; rfl
structure CX where
  (A : Option Addr) (c : Nat) (T : List MR)
structure CA where
  (k : Nat) (T : List MR)
def CosOk (f : Fmt) (s : Pr) (W L : Int) (x : CX) : Prop := Mx 45 x.T (mxV x.T) ∧ ∀ i j : Nat, i < 45 → j < 45 → gv x.T i j = tbV f s W L i j
set_option maxRecDepth 100000 in
set_option maxHeartbeats 4000000 in
theorem C_costs' (f : Fmt) (hf : f.Ok) (m th W L : Int) (hm : 0 ≤ m ∧ m < f.sets) (hth : 0 ≤ th ∧ th < f.sets) (hWL : (0 ≤ W ∧ W ≤ 1000000) ∧ 0 ≤ L ∧ L ≤ 1000000)
    (hW : ∀ w, C0 Try.prog 55 [f.val, .int .i64 (m + 1), .int .i64 th] w (.int .i64 W)) (hL : ∀ w, C0 Try.prog 55 [f.val, .int .i64 m, .int .i64 (th + 1)] w (.int .i64 L)) (w : World) :
    CR Try.prog 51 [f.val, .int .i64 m, .int .i64 th] w (CosOk f (setV f (m, th)) W L) (fun x => .slice x.A 45 x.c) (fun x => [.own x.A x.c 45 1 45 (mxV x.T), mxE 3 x.T]) := by
  have hg0 := hf.g0
  have hg1 := hf.g1
  have hs1 := hf.s1
  have hto := set_to hf (m, th)
  have hto1 := set_to1 hf (m, th)
  obtain ⟨s, hs⟩ : ∃ s, s = setV f (m, th) := ⟨_, rfl⟩
  have hru : ruleV f (decide (m = f.sets - 1) && decide (th = f.sets - 1)) = s := by rw [hs]; rfl
  rw [← hs] at hto hto1 ⊢
  refine ⟨en Try.func51 Try.ntmps51 (St.init w) (h := fun F => ?_)⟩
  refine sq (h := ?_)
  refine rg (h := ?_)
  refine bxA (h := fun b0 => ?_)
  refine WL.y (hy := asg) (h := ?_)
  refine nl (h := ?_)
  refine q_seq (h := ?_)
  refine sq (h := ?_)
  refine rg (h := ?_)
  refine WL.y (hy := (by first | exact ldA | exact ldEA)) (h := ?_)
  refine WL.y (hy := mv) (h := ?_)
  refine WL.y (hy := (by first | exact fa | exact faE)) (h := ?_)
  refine WL.y (hy := (by first | exact ld | exact ldE)) (h := ?_)
  refine WL.y (hy := subI) (h := ?_)
  refine WL.y (hy := eql) (h := ?_)
  refine WL.y (hy := mv) (h := ?_)
  apply brAnd 6 28 34 (by exact rfl)
  · intro hb0
    refine un (h := ?_)
    refine WL.y (hy := mv) (h := ?_)
    refine un (h := ?_)
    refine WL.y (hy := (by first | exact fa | exact faE)) (h := ?_)
    refine un (h := ?_)
    refine WL.y (hy := (by first | exact ld | exact ldE)) (h := ?_)
    refine un (h := ?_)
    refine WL.y (hy := subI) (h := ?_)
    refine un (h := ?_)
    refine WL.y (hy := eql) (h := ?_)
    refine WL.y (hy := (by first | exact pkT | exact pkF)) (h := ?_)
    exact mg (by repeat (first | exact trivial | refine ⟨rfl, ?_⟩ | refine ⟨by rw [hb0]; rfl, ?_⟩)) (by repeat (first | exact SubL.nil | (apply SubL.cons; (repeat (first | exact At.here | apply At.there))) | exact SubL.refl _ | apply SubL.skip))
  · intro hb0
    repeat (first | refine un (h := ?_) | refine sk (h := ?_) | refine WL.y (hy := pkF) (h := ?_) | refine WL.y (hy := pkT) (h := ?_))
    exact mg (by repeat (first | exact trivial | refine ⟨rfl, ?_⟩ | refine ⟨by rw [hb0]; rfl, ?_⟩)) (by repeat (first | exact SubL.nil | (apply SubL.cons; (repeat (first | exact At.here | apply At.there))) | exact SubL.refl _ | apply SubL.skip))
  refine cl0 (hc := fun w hS => C_ref1_Rule f _ w) (h := ?_)
  rw [hru]
  refine WL.y (hy := mv) (h := ?_)
  refine WL.y (hy := ex) (h := ?_)
  refine WL.y (hy := ex) (h := ?_)
  refine WL.y (hy := asg) (h := ?_)
  refine WL.y (hy := asg) (h := ?_)
  refine nl (h := ?_)
  refine q_seq (h := ?_)
  refine sq (h := ?_)
  refine rg (h := ?_)
  refine mks 45 (h := fun b9 => ?_)
  rw [pad_init]
  refine WL.y (hy := asg) (h := ?_)
  refine nl (h := ?_)
  refine q_seq (h := ?_)
  refine sq (h := ?_)
  refine sq (h := ?_)
  refine WC.mx0 3 (h := ?_)
  refine rg (h := ?_)
  refine WL.y (hy := asg) (h := ?_)
  refine nl (h := ?_)
  refine q_seq (h := ?_)
  refine bk (h := ?_)
  refine lp (X := CA) (I := fun z => (z.k ≤ 45 ∧ z.T.length = z.k) ∧ ∀ h ∈ z.T, h.2.2 = fillR 45) (le := fun z => [(1, .int .i64 m), (2, .int .i64 th), (3, .pointer (some ⟨b0, 0, none⟩)), (7, .int .i64 s.1), (8, .int .i64 s.2), (9, .slice (some ⟨b9, 0, none⟩) 45 45), (10, .int .i64 z.k)]) (Le := fun z => [.own (some ⟨b9, 0, none⟩) 45 45 1 45 (padV z.T (45 - z.k)), mxE 3 z.T, .blk b0 23 f.cells]) (μ := fun z => 45 - z.k) ⟨0, []⟩ ⟨⟨Nat.zero_le _, rfl⟩, fun h hh => (by cases hh)⟩ (by repeat (first | exact trivial | refine ⟨rfl, ?_⟩)) (by repeat (first | exact SubL.nil | (apply SubL.cons; (repeat (first | exact At.here | apply At.there))) | exact SubL.refl _ | apply SubL.skip)) (fun z hz => ?_)
  obtain ⟨⟨hz1, hz2⟩, hz3⟩ := hz
  refine sq (h := ?_)
  refine sq (h := ?_)
  refine rg (h := ?_)
  refine WL.y (hy := mv) (h := ?_)
  refine WL.y (hy := leq) (h := ?_)
  refine nl (h := ?_)
  refine q_seq (h := ?_)
  refine cd (by exact rfl) (fun h1 => ?_) (fun h1 => ?_)
  · skip
    have hkn : z.k < 45 := by simp only [decide_eq_true_eq] at h1; omega
    obtain ⟨q, hq⟩ : ∃ q, 45 - z.k = q + 1 := ⟨44 - z.k, by omega⟩
    have hpn := pad_none z.T q
    rw [hz2] at hpn
    refine skp (h := ?_)
    refine q_seq (h := ?_)
    refine sq (h := ?_)
    refine bk (h := ?_)
    refine sq (h := ?_)
    refine rg (h := ?_)
    refine WL.y (hy := mv) (h := ?_)
    refine WL.y (hy := mv) (h := ?_)
    refine mks 45 (h := fun g => ?_)
    rw [zrow_mi]
    refine WL.y (hy := ix (A := some ⟨b9, 0, none⟩) (m := 45)) (h := ?_)
    rw [hq]
    refine stE (A := some ⟨b9, 0, none⟩) (k := z.k) (j := 0) (hk := hpn) (h := ?_)
    rw [show (padV z.T (q + 1)).set z.k ([Value.slice none 0 0].set 0 (.slice (some ⟨g, 0, none⟩) 45 45)) = padV (z.T ++ [(some ⟨g, 0, none⟩, 45, zrow 45)]) q by rw [← pad_set, hz2, zrow_len]; rfl]
    refine nl (h := ?_)
    refine q_seq (h := ?_)
    refine sq (h := ?_)
    refine rg (h := ?_)
    refine WL.y (hy := asg) (h := ?_)
    refine nl (h := ?_)
    refine q_seq (h := ?_)
    refine bk (h := ?_)
    refine lp (X := CA) (I := fun v => v.k ≤ 45) (le := fun v => [(1, .int .i64 m), (2, .int .i64 th), (3, .pointer (some ⟨b0, 0, none⟩)), (7, .int .i64 s.1), (8, .int .i64 s.2), (9, .slice (some ⟨b9, 0, none⟩) 45 45), (10, .int .i64 z.k), (11, .int .i64 v.k)]) (Le := fun v => [.own (some ⟨g, 0, none⟩) 45 3 1 45 (mI (fillR v.k)), .own (some ⟨b9, 0, none⟩) 45 45 1 45 (padV (z.T ++ [(some ⟨g, 0, none⟩, 45, zrow 45)]) q), mxE 3 z.T, .blk b0 23 f.cells]) (μ := fun v => 45 - v.k) ⟨0, []⟩ (Nat.zero_le _) (by repeat (first | exact trivial | refine ⟨rfl, ?_⟩)) (by dsimp only; rw [fill_zero]; repeat (first | exact SubL.nil | (apply SubL.cons; (repeat (first | exact At.here | apply At.there))) | exact SubL.refl _ | apply SubL.skip)) (fun v hv => ?_)
    refine sq (h := ?_)
    refine sq (h := ?_)
    refine rg (h := ?_)
    refine WL.y (hy := mv) (h := ?_)
    refine WL.y (hy := leq) (h := ?_)
    refine nl (h := ?_)
    refine q_seq (h := ?_)
    refine cd (by exact rfl) (fun h2 => ?_) (fun h2 => ?_)
    · skip
      have hjn : v.k < 45 := by simp only [decide_eq_true_eq] at h2; omega
      have hfl := fill_len (j := v.k) (by omega)
      have hpa := pad_at z.T q (some ⟨g, 0, none⟩) 45 (zrow 45)
      rw [zrow_len, hz2] at hpa
      refine skp (h := ?_)
      refine q_seq (h := ?_)
      refine sq (h := ?_)
      refine bk (h := ?_)
      refine rg (h := ?_)
      refine WL.y (hy := mv) (h := ?_)
      refine WL.y (hy := mv) (h := ?_)
      refine WL.y (hy := ix (A := some ⟨b9, 0, none⟩) (m := 45)) (h := ?_)
      refine WL.y (hy := ldE (A := some ⟨b9, 0, none⟩) (hk := hpa)) (h := ?_)
      refine WL.y (hy := mv) (h := ?_)
      refine WL.y (hy := ix (A := some ⟨g, 0, none⟩) (m := 45)) (h := ?_)
      refine stE (A := some ⟨g, 0, none⟩) (k := v.k) (j := 0) (hk := mI_at (l := fillR v.k) (k := v.k) (by omega)) (h := ?_)
      rw [show (mI (fillR v.k)).set v.k ([Value.int .i64 ((fillR v.k).getD v.k 0)].set 0 (.int .i64 1000000)) = mI (fillR (v.k + 1)) by rw [← fill_set hjn]; exact mI_set _ _ _]
      refine nl (h := ?_)
      refine q_blk_norm (h := ?_)
      refine q_seq (h := ?_)
      refine rg (h := ?_)
      refine WL.y (hy := mv) (h := ?_)
      refine WL.y (hy := addI) (h := ?_)
      refine WL.y (hy := asg) (h := ?_)
      refine nl (h := ?_)
      refine rn (x := v) ⟨v.k + 1, []⟩ (by dsimp only; omega) (by dsimp only; omega) (by repeat (first | exact trivial | refine ⟨rfl, ?_⟩)) (by repeat (first | exact SubL.nil | (apply SubL.cons; (repeat (first | exact At.here | apply At.there))) | exact SubL.refl _ | apply SubL.skip))
    · skip
      have hjn : v.k = 45 := by simp only [decide_eq_false_iff_not] at h2; omega
      rw [hjn]
      refine et (h := ?_)
      refine q_then_exit (h := ?_)
      refine q_then_exit (h := ?_)
      refine q_blk_hit (h := ?_)
      refine q_blk_norm (h := ?_)
      refine q_seq (h := ?_)
      refine WC.mxAdd (hs := z.T) (some ⟨g, 0, none⟩) 45 (fillR 45) (by repeat (first | exact At.here | apply At.there)) (by repeat (first | exact At.here | apply At.there)) (fill_len (Nat.le_refl _)).symm rfl ?_
      refine rg (h := ?_)
      refine WL.y (hy := mv) (h := ?_)
      refine WL.y (hy := addI) (h := ?_)
      refine WL.y (hy := asg) (h := ?_)
      refine nl (h := ?_)
      refine rn (x := z) ⟨z.k + 1, z.T ++ [(some ⟨g, 0, none⟩, 45, fillR 45)]⟩ ⟨⟨by dsimp only; omega, by dsimp only; rw [List.length_append, hz2]; rfl⟩, fun h hh => by
        dsimp only at hh
        rcases List.mem_append.1 hh with hh | hh
        · exact hz3 h hh
        · simp only [List.mem_singleton] at hh; subst hh; rfl⟩ (by dsimp only; omega) (by repeat (first | exact trivial | refine ⟨rfl, ?_⟩)) (by dsimp only; rw [show 45 - (z.k + 1) = q by omega, pad_same z.T q _ _ (fillR 45) (zrow 45) (by rw [zrow_len, fill_len (Nat.le_refl _)])]; repeat (first | exact SubL.nil | (apply SubL.cons; (repeat (first | exact At.here | apply At.there))) | exact SubL.refl _ | apply SubL.skip))
  · skip
    have hkn : z.k = 45 := by simp only [decide_eq_false_iff_not] at h1; omega
    obtain ⟨k0, T0⟩ := z
    dsimp only at hkn hz2 hz3 ⊢
    subst hkn
    rw [Nat.sub_self, pad_zero]
    have hM0 : Mx 45 T0 (mxV T0) := ⟨rfl, hz2, fun h hh => by rw [hz3 h hh]; exact fill_len (Nat.le_refl _)⟩
    have hI0 : CosI f s W L 86 43 T0 := cos_init fun i j hi hj => by
      obtain ⟨RA, Rc, Rx, hr0, _, _, hrg, _⟩ := hM0.at hi
      rw [hrg]
      have := hz3 _ (List.mem_of_getElem? hr0)
      dsimp only at this
      rw [this, fill_at hj]
    refine et (h := ?_)
    refine q_then_exit (h := ?_)
    refine q_then_exit (h := ?_)
    refine q_blk_hit (h := ?_)
    refine q_seq (h := ?_)
    refine sq (h := ?_)
    refine rgD0 (by kernel_rfl) (h := ?_)
    refine tk 0 (hy := (by first | exact ldA | exact ldEA)) (h := ?_)
    refine tk 1 (hy := mv) (h := ?_)
    refine tk 2 (hy := addI) (h := ?_)
    refine tk 3 (hy := mv) (h := ?_)
    refine tk 5 (hy := (by first | exact ldA | exact ldEA)) (h := ?_)
    refine tk 6 (hy := mv) (h := ?_)
    refine tk 7 (hy := mv) (h := ?_)
    refine tk 8 (hy := addI) (h := ?_)
    refine one 4 (h := ?_)
    refine cl0 (hc := fun w hS => hW w) (h := ?_)
    refine nx (h := ?_)
    refine one 9 (h := ?_)
    refine cl0 (hc := fun w hS => hL w) (h := ?_)
    refine nx (h := ?_)
    refine tk 10 (hy := asg) (h := ?_)
    refine tk 11 (hy := asg) (h := ?_)
    refine dn (h := ?_)
    refine q_seq (h := ?_)
    refine sq (h := ?_)
    refine sq (h := ?_)
    refine rg (h := ?_)
    refine WL.y (hy := asg) (h := ?_)
    refine nl (h := ?_)
    refine q_seq (h := ?_)
    refine bk (h := ?_)
    refine lp (X := CA) (I := fun z => (z.k ≤ 87 ∧ Mx 45 z.T (mxV T0)) ∧ CosI f s W L (86 - (z.k : Int)) (max 0 (86 - (z.k : Int) - 43)) z.T) (le := fun z => [(3, .pointer (some ⟨b0, 0, none⟩)), (7, .int .i64 s.1), (8, .int .i64 s.2), (9, .slice (some ⟨b9, 0, none⟩) 45 45), (12, .int .i64 W), (13, .int .i64 L), (14, .int .i64 (86 - (z.k : Int)))]) (Le := fun z => [.own (some ⟨b9, 0, none⟩) 45 45 1 45 (mxV T0), mxE 3 z.T, .blk b0 23 f.cells]) (μ := fun z => 87 - z.k) ⟨0, T0⟩ ⟨⟨Nat.zero_le _, hM0⟩, hI0⟩ (by repeat (first | exact trivial | refine ⟨rfl, ?_⟩)) (by repeat (first | exact SubL.nil | (apply SubL.cons; (repeat (first | exact At.here | apply At.there))) | exact SubL.refl _ | apply SubL.skip)) (fun z hz => ?_)
    obtain ⟨⟨hzk, hz1⟩, hz2⟩ := hz
    refine sq (h := ?_)
    refine sq (h := ?_)
    refine rg (h := ?_)
    refine WL.y (hy := mv) (h := ?_)
    refine WL.y (hy := geq) (h := ?_)
    refine nl (h := ?_)
    refine q_seq (h := ?_)
    refine cd (by exact rfl) (fun h3 => ?_) (fun h3 => ?_)
    · skip
      have hkn : z.k ≤ 86 := by simp only [decide_eq_true_eq] at h3; omega
      rw [show (86 : Int) - (z.k : Int) = ((86 - z.k : Nat) : Int) by omega] at *
      refine skp (h := ?_)
      refine q_seq (h := ?_)
      refine sq (h := ?_)
      refine bk (h := ?_)
      refine sq (h := ?_)
      refine rg (h := ?_)
      refine WL.y (hy := mv) (h := ?_)
      refine WL.y (hy := subI) (h := ?_)
      refine WL.y (hy := addI) (h := ?_)
      refine WL.y (hy := maxI) (h := ?_)
      refine WL.y (hy := asg) (h := ?_)
      rw [show max (0 : Int) (((86 - z.k : Nat) : Int) - 44 + 1) = ((86 - z.k - 43 : Nat) : Int) by omega]
      refine nl (h := ?_)
      refine q_seq (h := ?_)
      refine bk (h := ?_)
      refine lp (X := CA) (I := fun u => (86 - z.k - 43 ≤ u.k ∧ u.k ≤ min (86 - z.k) 43 + 1 ∧ Mx 45 u.T (mxV T0)) ∧ CosI f s W L ((86 - z.k : Nat) : Int) u.k u.T) (le := fun u => [(3, .pointer (some ⟨b0, 0, none⟩)), (7, .int .i64 s.1), (8, .int .i64 s.2), (9, .slice (some ⟨b9, 0, none⟩) 45 45), (12, .int .i64 W), (13, .int .i64 L), (14, .int .i64 ((86 - z.k : Nat) : Int)), (15, .int .i64 u.k)]) (Le := fun u => [.own (some ⟨b9, 0, none⟩) 45 45 1 45 (mxV T0), mxE 3 u.T, .blk b0 23 f.cells]) (μ := fun u => 45 - u.k) ⟨86 - z.k - 43, z.T⟩ ⟨⟨Nat.le_refl _, by dsimp only; omega, hz1⟩, by dsimp only; rw [show ((86 - z.k - 43 : Nat) : Int) = max 0 (((86 - z.k : Nat) : Int) - 43) by omega]; exact hz2⟩ (by repeat (first | exact trivial | refine ⟨rfl, ?_⟩)) (by repeat (first | exact SubL.nil | (apply SubL.cons; (repeat (first | exact At.here | apply At.there))) | exact SubL.refl _ | apply SubL.skip)) (fun u hu => ?_)
      obtain ⟨⟨hu0, huk', hu1⟩, hu2⟩ := hu
      refine sq (h := ?_)
      refine sq (h := ?_)
      refine rg (h := ?_)
      refine WL.y (hy := mv) (h := ?_)
      refine WL.y (hy := mv) (h := ?_)
      refine WL.y (hy := minI) (h := ?_)
      refine WL.y (hy := leq) (h := ?_)
      refine nl (h := ?_)
      refine q_seq (h := ?_)
      refine cd (by exact rfl) (fun h4 => ?_) (fun h4 => ?_)
      · skip
        have huk : u.k ≤ min (86 - z.k) 43 := by simp only [decide_eq_true_eq] at h4; omega
        obtain ⟨XA, Xc, Xx, hxr, hxl, hxv, hxg, hxd⟩ := hu1.at (a := u.k) (by omega)
        obtain ⟨YA, Yc, Yx, hyr, hyl, hyv, hyg, hyd⟩ := hu1.at (a := u.k + 1) (by omega)
        obtain ⟨b, hb⟩ : ∃ b : Nat, b = 86 - z.k - u.k := ⟨_, rfl⟩
        have hwin : Yx.getD b 0 = tbV f s W L (u.k + 1) b := by
          rw [← hyg, hu2 _ _ (by omega) (by omega), if_pos (by unfold CDone; omega)]
        have hlos : Xx.getD (b + 1) 0 = tbV f s W L u.k (b + 1) := by
          rw [← hxg, hu2 _ _ (by omega) (by omega), if_pos (by unfold CDone; omega)]
        have hVe := tb_eq (f := f) (s := s) (W := W) (L := L) (i := u.k) (j := b) (by omega) (by omega)
        rw [gc_r (by omega)] at hVe
        have hr1 := tr_rng (f := f) (s := s) (W := W) (L := L) hWL.1.1 hWL.2.1 (by omega) (89 - (u.k + 1) - b) ((u.k + 1 : Nat) : Int) b
        have hr2 := tr_rng (f := f) (s := s) (W := W) (L := L) hWL.1.1 hWL.2.1 (by omega) (89 - u.k - (b + 1)) u.k ((b + 1 : Nat) : Int)
        have hr1' : 0 ≤ tbV f s W L (u.k + 1) b ∧ tbV f s W L (u.k + 1) b ≤ 1000000 := hr1
        have hr2' : 0 ≤ tbV f s W L u.k (b + 1) ∧ tbV f s W L u.k (b + 1) ≤ 1000000 := hr2
        have hS1 : Sm ((u.k : Int) + 1, (b : Int)) := ⟨by dsimp only; omega, by dsimp only; omega⟩
        have hS2 : Sm ((u.k : Int), (b : Int) + 1) := ⟨by dsimp only; omega, by dsimp only; omega⟩
        have hM' := hu1.set hxr b (tbV f s W L u.k b)
        have hnx := cos_set (sum := 86 - z.k) hu2 rfl (by omega) (by omega) (fun x y => gv_set hxr (by omega) (tbV f s W L u.k b) x y)
        refine skp (h := ?_)
        refine q_seq (h := ?_)
        refine sq (h := ?_)
        refine bk (h := ?_)
        refine sq (h := ?_)
        refine rg (h := ?_)
        refine WL.y (hy := mv) (h := ?_)
        refine WL.y (hy := mv) (h := ?_)
        refine WL.y (hy := subI) (h := ?_)
        refine WL.y (hy := asg) (h := ?_)
        rw [show ((86 - z.k : Nat) : Int) - (u.k : Int) = (b : Int) by omega]
        refine nl (h := ?_)
        refine q_seq (h := ?_)
        refine sq (h := ?_)
        refine rg (h := ?_)
        refine WL.y (hy := asg) (h := ?_)
        refine WL.cut (by repeat (first | exact Cut.nil | apply Cut.hit | apply Cut.miss (by exact rfl))) ?_
        refine nl (h := ?_)
        refine q_seq (h := ?_)
        refine sq (h := ?_)
        refine rg (h := ?_)
        refine WL.y (hy := mv) (h := ?_)
        refine WL.y (hy := geq) (h := ?_)
        refine WL.y (hy := mv) (h := ?_)
        apply brAnd 4 86 90 (by exact rfl)
        · intro hb5
          refine un (h := ?_)
          refine WL.y (hy := mv) (h := ?_)
          refine un (h := ?_)
          refine WL.y (hy := mv) (h := ?_)
          refine un (h := ?_)
          refine WL.y (hy := eql) (h := ?_)
          refine WL.y (hy := (by first | exact pkT | exact pkF)) (h := ?_)
          exact mg (by repeat (first | exact trivial | refine ⟨rfl, ?_⟩ | refine ⟨by rw [hb5]; rfl, ?_⟩)) (by repeat (first | exact SubL.nil | (apply SubL.cons; (repeat (first | exact At.here | apply At.there))) | exact SubL.refl _ | apply SubL.skip))
        · intro hb5
          repeat (first | refine un (h := ?_) | refine sk (h := ?_) | refine WL.y (hy := pkF) (h := ?_) | refine WL.y (hy := pkT) (h := ?_))
          exact mg (by repeat (first | exact trivial | refine ⟨rfl, ?_⟩ | refine ⟨by rw [hb5]; rfl, ?_⟩)) (by repeat (first | exact SubL.nil | (apply SubL.cons; (repeat (first | exact At.here | apply At.there))) | exact SubL.refl _ | apply SubL.skip))
        refine WL.y (hy := mv) (h := ?_)
        apply brAnd 4 91 95 (by exact rfl)
        · intro hb6
          refine un (h := ?_)
          refine WL.y (hy := mv) (h := ?_)
          refine un (h := ?_)
          refine WL.y (hy := mv) (h := ?_)
          refine un (h := ?_)
          refine WL.y (hy := eql) (h := ?_)
          refine WL.y (hy := (by first | exact pkT | exact pkF)) (h := ?_)
          exact mg (by repeat (first | exact trivial | refine ⟨rfl, ?_⟩ | refine ⟨by rw [hb6]; rfl, ?_⟩)) (by repeat (first | exact SubL.nil | (apply SubL.cons; (repeat (first | exact At.here | apply At.there))) | exact SubL.refl _ | apply SubL.skip))
        · intro hb6
          repeat (first | refine un (h := ?_) | refine sk (h := ?_) | refine WL.y (hy := pkF) (h := ?_) | refine WL.y (hy := pkT) (h := ?_))
          exact mg (by repeat (first | exact trivial | refine ⟨rfl, ?_⟩ | refine ⟨by rw [hb6]; rfl, ?_⟩)) (by repeat (first | exact SubL.nil | (apply SubL.cons; (repeat (first | exact At.here | apply At.there))) | exact SubL.refl _ | apply SubL.skip))
        refine WL.y (hy := asg) (h := ?_)
        refine nl (h := ?_)
        refine q_seq (h := ?_)
        refine sq (h := ?_)
        refine sq (h := ?_)
        refine rg (h := ?_)
        refine WL.y (hy := mv) (h := ?_)
        refine nl (h := ?_)
        refine q_seq (h := ?_)
        refine cd (by exact rfl) (fun h7 => ?_) (fun h7 => ?_)
        · skip
          have k1 : endR s u.k b = true := h7
          refine rg (h := ?_)
          refine WL.y (hy := mv) (h := ?_)
          refine WL.y (hy := maxI) (h := ?_)
          refine WL.y (hy := asg) (h := ?_)
          refine WL.cut (by repeat (first | exact Cut.nil | apply Cut.hit | apply Cut.miss (by exact rfl))) ?_
          refine nl (h := ?_)
          refine q_seq (h := ?_)
          refine sq (h := ?_)
          refine rgD0 (by kernel_rfl) (h := ?_)
          refine tk 0 (hy := mv) (h := ?_)
          refine tk 1 (hy := mv) (h := ?_)
          refine tk 2 (hy := addI) (h := ?_)
          refine tk 3 (hy := ix (A := some ⟨b9, 0, none⟩) (m := 45)) (h := ?_)
          refine tk 4 (hy := ldE (A := some ⟨b9, 0, none⟩) (hk := hyv)) (h := ?_)
          refine tk 5 (hy := mv) (h := ?_)
          refine tk 6 (hy := ix (A := YA) (m := 45) (hr := by repeat (first | exact Rds.any (hyd 3) | apply Rds.there))) (h := ?_)
          refine tk 7 (hy := ldE (A := YA) (hr := by repeat (first | exact Rds.any (hyd 3) | apply Rds.there)) (hk := mI_at (k := b) (by omega))) (h := ?_)
          refine tk 8 (hy := mv) (h := ?_)
          refine tk 9 (hy := mv) (h := ?_)
          refine tk 10 (hy := ix (A := some ⟨b9, 0, none⟩) (m := 45)) (h := ?_)
          refine tk 11 (hy := ldE (A := some ⟨b9, 0, none⟩) (hk := hxv)) (h := ?_)
          refine tk 12 (hy := mv) (h := ?_)
          refine tk 13 (hy := addI) (h := ?_)
          refine tk 14 (hy := ix (A := XA) (m := 45) (hr := by repeat (first | exact Rds.any (hxd 3) | apply Rds.there))) (h := ?_)
          refine tk 15 (hy := ldE (A := XA) (hr := by repeat (first | exact Rds.any (hxd 3) | apply Rds.there)) (hk := mI_at (k := b + 1) (by omega))) (h := ?_)
          refine tk 16 (hy := asg) (h := ?_)
          refine tk 17 (hy := asg) (h := ?_)
          refine dn (h := ?_)
          refine q_seq (h := ?_)
          refine sq (h := ?_)
          refine sq (h := ?_)
          refine rg (h := ?_)
          refine WL.y (hy := mv) (h := ?_)
          refine WL.y (hy := mv) (h := ?_)
          apply brOr 9 116 125 (by exact rfl)
          · intro hb8
            refine un (h := ?_)
            refine WL.y (hy := mv) (h := ?_)
            refine un (h := ?_)
            refine WL.y (hy := addI) (h := ?_)
            refine un (h := ?_)
            refine WL.y (hy := mv) (h := ?_)
            refine un (h := ?_)
            refine WL.y (hy := bd) (h := ?_)
            refine un (h := ?_)
            refine WL.y (hy := (by first | exact fa | exact faE)) (h := ?_)
            refine un (h := ?_)
            refine WL.y (hy := (by first | exact ld | exact ldE)) (h := ?_)
            refine un (h := ?_)
            refine cl0 (hc := fun w hS => C_ref1_leads ((u.k : Int) + 1, (b : Int)) f.games hS1 w) (h := ?_)
            refine un (h := ?_)
            refine WL.y (hy := eql) (h := ?_)
            refine WL.y (hy := (by first | exact pkT | exact pkF)) (h := ?_)
            exact mg (by repeat (first | exact trivial | refine ⟨rfl, ?_⟩ | refine ⟨by rw [hb8]; rfl, ?_⟩)) (by repeat (first | exact SubL.nil | (apply SubL.cons; (repeat (first | exact At.here | apply At.there))) | exact SubL.refl _ | apply SubL.skip))
          · intro hb8
            repeat (first | refine un (h := ?_) | refine sk (h := ?_) | refine WL.y (hy := pkF) (h := ?_) | refine WL.y (hy := pkT) (h := ?_))
            exact mg (by repeat (first | exact trivial | refine ⟨rfl, ?_⟩ | refine ⟨by rw [hb8]; rfl, ?_⟩)) (by repeat (first | exact SubL.nil | (apply SubL.cons; (repeat (first | exact At.here | apply At.there))) | exact SubL.refl _ | apply SubL.skip))
          refine nl (h := ?_)
          refine q_seq (h := ?_)
          refine cd (by exact rfl) (fun h9 => ?_) (fun h9 => ?_)
          · skip
            have k2 : EO f s u.k b = true := (eo_r (by omega)).trans h9
            refine rg (h := ?_)
            refine WL.y (hy := mv) (h := ?_)
            refine WL.y (hy := asg) (h := ?_)
            refine WL.cut (by repeat (first | exact Cut.nil | apply Cut.hit | apply Cut.miss (by exact rfl))) ?_
            refine nl (h := ?_)
            refine q_seq (h := ?_)
            refine sq (h := ?_)
            refine sq (h := ?_)
            refine rg (h := ?_)
            refine WL.y (hy := mv) (h := ?_)
            refine WL.y (hy := mv) (h := ?_)
            apply brOr 9 128 137 (by exact rfl)
            · intro hb10
              refine un (h := ?_)
              refine WL.y (hy := mv) (h := ?_)
              refine un (h := ?_)
              refine WL.y (hy := mv) (h := ?_)
              refine un (h := ?_)
              refine WL.y (hy := addI) (h := ?_)
              refine un (h := ?_)
              refine WL.y (hy := bd) (h := ?_)
              refine un (h := ?_)
              refine WL.y (hy := (by first | exact fa | exact faE)) (h := ?_)
              refine un (h := ?_)
              refine WL.y (hy := (by first | exact ld | exact ldE)) (h := ?_)
              refine un (h := ?_)
              refine cl0 (hc := fun w hS => C_ref1_leads ((u.k : Int), (b : Int) + 1) f.games hS2 w) (h := ?_)
              refine un (h := ?_)
              refine WL.y (hy := eql) (h := ?_)
              refine WL.y (hy := (by first | exact pkT | exact pkF)) (h := ?_)
              exact mg (by repeat (first | exact trivial | refine ⟨rfl, ?_⟩ | refine ⟨by rw [hb10]; rfl, ?_⟩)) (by repeat (first | exact SubL.nil | (apply SubL.cons; (repeat (first | exact At.here | apply At.there))) | exact SubL.refl _ | apply SubL.skip))
            · intro hb10
              repeat (first | refine un (h := ?_) | refine sk (h := ?_) | refine WL.y (hy := pkF) (h := ?_) | refine WL.y (hy := pkT) (h := ?_))
              exact mg (by repeat (first | exact trivial | refine ⟨rfl, ?_⟩ | refine ⟨by rw [hb10]; rfl, ?_⟩)) (by repeat (first | exact SubL.nil | (apply SubL.cons; (repeat (first | exact At.here | apply At.there))) | exact SubL.refl _ | apply SubL.skip))
            refine nl (h := ?_)
            refine q_seq (h := ?_)
            refine cd (by exact rfl) (fun h11 => ?_) (fun h11 => ?_)
            · skip
              have k3 : EO f s b u.k = true := (eo_r' (by omega)).trans h11
              refine rg (h := ?_)
              refine WL.y (hy := mv) (h := ?_)
              refine WL.y (hy := asg) (h := ?_)
              refine nl (h := ?_)
              refine q_seq (h := ?_)
              refine rg (h := ?_)
              refine WL.y (hy := mv) (h := ?_)
              refine WL.y (hy := mv) (h := ?_)
              refine WL.y (hy := ix (A := some ⟨b9, 0, none⟩) (m := 45)) (h := ?_)
              refine WL.y (hy := ldE (A := some ⟨b9, 0, none⟩) (hk := hxv)) (h := ?_)
              refine WL.y (hy := mv) (h := ?_)
              refine WL.y (hy := mv) (h := ?_)
              refine WL.y (hy := mv) (h := ?_)
              refine WL.y (hy := mv) (h := ?_)
              refine WL.y (hy := minI) (h := ?_)
              refine WL.y (hy := addI) (h := ?_)
              refine WL.y (hy := minI) (h := ?_)
              refine WL.y (hy := ix (A := XA) (m := 45) (hr := by repeat (first | exact Rds.any (hxd 3) | apply Rds.there))) (h := ?_)
              refine WL.mxAt (hs := u.T) hxr (by repeat (first | exact At.here | apply At.there)) ?_
              refine stE (A := XA) (k := b) (j := 0) (hk := mI_at (l := Xx) (k := b) (by omega)) (h := ?_)
              refine WL.mxPut (hs := u.T) XA Xc (Xx.set b (tbV f s W L u.k b)) hxr (by repeat (first | exact At.here | apply At.there)) (by repeat (first | exact At.here | apply At.there)) (by rw [List.length_set]) (by rw [hVe, k1, k2, k3]; simp only [cond_true, cond_false]; (try rw [← hwin]); (try rw [← hlos]); exact mI_set Xx b _) ?_
              refine nl (h := ?_)
              refine q_blk_norm (h := ?_)
              refine q_seq (h := ?_)
              refine rg (h := ?_)
              refine WL.y (hy := mv) (h := ?_)
              refine WL.y (hy := addI) (h := ?_)
              refine WL.y (hy := asg) (h := ?_)
              refine nl (h := ?_)
              refine rn (x := u) ⟨u.k + 1, u.T.set u.k (XA, Xc, Xx.set b (tbV f s W L u.k b))⟩ ⟨⟨by dsimp only; omega, by dsimp only; omega, hM'⟩, hnx⟩ (by dsimp only; omega) (by repeat (first | exact trivial | refine ⟨rfl, ?_⟩)) (by repeat (first | exact SubL.nil | (apply SubL.cons; (repeat (first | exact At.here | apply At.there))) | exact SubL.refl _ | apply SubL.skip))
            · skip
              have k3 : EO f s b u.k = false := (eo_r' (by omega)).trans h11
              refine skp (h := ?_)
              refine q_seq (h := ?_)
              refine rg (h := ?_)
              refine WL.y (hy := mv) (h := ?_)
              refine WL.y (hy := mv) (h := ?_)
              refine WL.y (hy := ix (A := some ⟨b9, 0, none⟩) (m := 45)) (h := ?_)
              refine WL.y (hy := ldE (A := some ⟨b9, 0, none⟩) (hk := hxv)) (h := ?_)
              refine WL.y (hy := mv) (h := ?_)
              refine WL.y (hy := mv) (h := ?_)
              refine WL.y (hy := mv) (h := ?_)
              refine WL.y (hy := mv) (h := ?_)
              refine WL.y (hy := minI) (h := ?_)
              refine WL.y (hy := addI) (h := ?_)
              refine WL.y (hy := minI) (h := ?_)
              refine WL.y (hy := ix (A := XA) (m := 45) (hr := by repeat (first | exact Rds.any (hxd 3) | apply Rds.there))) (h := ?_)
              refine WL.mxAt (hs := u.T) hxr (by repeat (first | exact At.here | apply At.there)) ?_
              refine stE (A := XA) (k := b) (j := 0) (hk := mI_at (l := Xx) (k := b) (by omega)) (h := ?_)
              refine WL.mxPut (hs := u.T) XA Xc (Xx.set b (tbV f s W L u.k b)) hxr (by repeat (first | exact At.here | apply At.there)) (by repeat (first | exact At.here | apply At.there)) (by rw [List.length_set]) (by rw [hVe, k1, k2, k3]; simp only [cond_true, cond_false]; (try rw [← hwin]); (try rw [← hlos]); exact mI_set Xx b _) ?_
              refine nl (h := ?_)
              refine q_blk_norm (h := ?_)
              refine q_seq (h := ?_)
              refine rg (h := ?_)
              refine WL.y (hy := mv) (h := ?_)
              refine WL.y (hy := addI) (h := ?_)
              refine WL.y (hy := asg) (h := ?_)
              refine nl (h := ?_)
              refine rn (x := u) ⟨u.k + 1, u.T.set u.k (XA, Xc, Xx.set b (tbV f s W L u.k b))⟩ ⟨⟨by dsimp only; omega, by dsimp only; omega, hM'⟩, hnx⟩ (by dsimp only; omega) (by repeat (first | exact trivial | refine ⟨rfl, ?_⟩)) (by repeat (first | exact SubL.nil | (apply SubL.cons; (repeat (first | exact At.here | apply At.there))) | exact SubL.refl _ | apply SubL.skip))
          · skip
            have k2 : EO f s u.k b = false := (eo_r (by omega)).trans h9
            refine skp (h := ?_)
            refine q_seq (h := ?_)
            refine sq (h := ?_)
            refine sq (h := ?_)
            refine rg (h := ?_)
            refine WL.y (hy := mv) (h := ?_)
            refine WL.y (hy := mv) (h := ?_)
            apply brOr 9 128 137 (by exact rfl)
            · intro hb12
              refine un (h := ?_)
              refine WL.y (hy := mv) (h := ?_)
              refine un (h := ?_)
              refine WL.y (hy := mv) (h := ?_)
              refine un (h := ?_)
              refine WL.y (hy := addI) (h := ?_)
              refine un (h := ?_)
              refine WL.y (hy := bd) (h := ?_)
              refine un (h := ?_)
              refine WL.y (hy := (by first | exact fa | exact faE)) (h := ?_)
              refine un (h := ?_)
              refine WL.y (hy := (by first | exact ld | exact ldE)) (h := ?_)
              refine un (h := ?_)
              refine cl0 (hc := fun w hS => C_ref1_leads ((u.k : Int), (b : Int) + 1) f.games hS2 w) (h := ?_)
              refine un (h := ?_)
              refine WL.y (hy := eql) (h := ?_)
              refine WL.y (hy := (by first | exact pkT | exact pkF)) (h := ?_)
              exact mg (by repeat (first | exact trivial | refine ⟨rfl, ?_⟩ | refine ⟨by rw [hb12]; rfl, ?_⟩)) (by repeat (first | exact SubL.nil | (apply SubL.cons; (repeat (first | exact At.here | apply At.there))) | exact SubL.refl _ | apply SubL.skip))
            · intro hb12
              repeat (first | refine un (h := ?_) | refine sk (h := ?_) | refine WL.y (hy := pkF) (h := ?_) | refine WL.y (hy := pkT) (h := ?_))
              exact mg (by repeat (first | exact trivial | refine ⟨rfl, ?_⟩ | refine ⟨by rw [hb12]; rfl, ?_⟩)) (by repeat (first | exact SubL.nil | (apply SubL.cons; (repeat (first | exact At.here | apply At.there))) | exact SubL.refl _ | apply SubL.skip))
            refine nl (h := ?_)
            refine q_seq (h := ?_)
            refine cd (by exact rfl) (fun h13 => ?_) (fun h13 => ?_)
            · skip
              have k3 : EO f s b u.k = true := (eo_r' (by omega)).trans h13
              refine rg (h := ?_)
              refine WL.y (hy := mv) (h := ?_)
              refine WL.y (hy := asg) (h := ?_)
              refine nl (h := ?_)
              refine q_seq (h := ?_)
              refine rg (h := ?_)
              refine WL.y (hy := mv) (h := ?_)
              refine WL.y (hy := mv) (h := ?_)
              refine WL.y (hy := ix (A := some ⟨b9, 0, none⟩) (m := 45)) (h := ?_)
              refine WL.y (hy := ldE (A := some ⟨b9, 0, none⟩) (hk := hxv)) (h := ?_)
              refine WL.y (hy := mv) (h := ?_)
              refine WL.y (hy := mv) (h := ?_)
              refine WL.y (hy := mv) (h := ?_)
              refine WL.y (hy := mv) (h := ?_)
              refine WL.y (hy := minI) (h := ?_)
              refine WL.y (hy := addI) (h := ?_)
              refine WL.y (hy := minI) (h := ?_)
              refine WL.y (hy := ix (A := XA) (m := 45) (hr := by repeat (first | exact Rds.any (hxd 3) | apply Rds.there))) (h := ?_)
              refine WL.mxAt (hs := u.T) hxr (by repeat (first | exact At.here | apply At.there)) ?_
              refine stE (A := XA) (k := b) (j := 0) (hk := mI_at (l := Xx) (k := b) (by omega)) (h := ?_)
              refine WL.mxPut (hs := u.T) XA Xc (Xx.set b (tbV f s W L u.k b)) hxr (by repeat (first | exact At.here | apply At.there)) (by repeat (first | exact At.here | apply At.there)) (by rw [List.length_set]) (by rw [hVe, k1, k2, k3]; simp only [cond_true, cond_false]; (try rw [← hwin]); (try rw [← hlos]); exact mI_set Xx b _) ?_
              refine nl (h := ?_)
              refine q_blk_norm (h := ?_)
              refine q_seq (h := ?_)
              refine rg (h := ?_)
              refine WL.y (hy := mv) (h := ?_)
              refine WL.y (hy := addI) (h := ?_)
              refine WL.y (hy := asg) (h := ?_)
              refine nl (h := ?_)
              refine rn (x := u) ⟨u.k + 1, u.T.set u.k (XA, Xc, Xx.set b (tbV f s W L u.k b))⟩ ⟨⟨by dsimp only; omega, by dsimp only; omega, hM'⟩, hnx⟩ (by dsimp only; omega) (by repeat (first | exact trivial | refine ⟨rfl, ?_⟩)) (by repeat (first | exact SubL.nil | (apply SubL.cons; (repeat (first | exact At.here | apply At.there))) | exact SubL.refl _ | apply SubL.skip))
            · skip
              have k3 : EO f s b u.k = false := (eo_r' (by omega)).trans h13
              refine skp (h := ?_)
              refine q_seq (h := ?_)
              refine rg (h := ?_)
              refine WL.y (hy := mv) (h := ?_)
              refine WL.y (hy := mv) (h := ?_)
              refine WL.y (hy := ix (A := some ⟨b9, 0, none⟩) (m := 45)) (h := ?_)
              refine WL.y (hy := ldE (A := some ⟨b9, 0, none⟩) (hk := hxv)) (h := ?_)
              refine WL.y (hy := mv) (h := ?_)
              refine WL.y (hy := mv) (h := ?_)
              refine WL.y (hy := mv) (h := ?_)
              refine WL.y (hy := mv) (h := ?_)
              refine WL.y (hy := minI) (h := ?_)
              refine WL.y (hy := addI) (h := ?_)
              refine WL.y (hy := minI) (h := ?_)
              refine WL.y (hy := ix (A := XA) (m := 45) (hr := by repeat (first | exact Rds.any (hxd 3) | apply Rds.there))) (h := ?_)
              refine WL.mxAt (hs := u.T) hxr (by repeat (first | exact At.here | apply At.there)) ?_
              refine stE (A := XA) (k := b) (j := 0) (hk := mI_at (l := Xx) (k := b) (by omega)) (h := ?_)
              refine WL.mxPut (hs := u.T) XA Xc (Xx.set b (tbV f s W L u.k b)) hxr (by repeat (first | exact At.here | apply At.there)) (by repeat (first | exact At.here | apply At.there)) (by rw [List.length_set]) (by rw [hVe, k1, k2, k3]; simp only [cond_true, cond_false]; (try rw [← hwin]); (try rw [← hlos]); exact mI_set Xx b _) ?_
              refine nl (h := ?_)
              refine q_blk_norm (h := ?_)
              refine q_seq (h := ?_)
              refine rg (h := ?_)
              refine WL.y (hy := mv) (h := ?_)
              refine WL.y (hy := addI) (h := ?_)
              refine WL.y (hy := asg) (h := ?_)
              refine nl (h := ?_)
              refine rn (x := u) ⟨u.k + 1, u.T.set u.k (XA, Xc, Xx.set b (tbV f s W L u.k b))⟩ ⟨⟨by dsimp only; omega, by dsimp only; omega, hM'⟩, hnx⟩ (by dsimp only; omega) (by repeat (first | exact trivial | refine ⟨rfl, ?_⟩)) (by repeat (first | exact SubL.nil | (apply SubL.cons; (repeat (first | exact At.here | apply At.there))) | exact SubL.refl _ | apply SubL.skip))
        · skip
          have k1 : endR s u.k b = false := h7
          refine skp (h := ?_)
          refine q_seq (h := ?_)
          refine sq (h := ?_)
          refine rgD0 (by kernel_rfl) (h := ?_)
          refine tk 0 (hy := mv) (h := ?_)
          refine tk 1 (hy := mv) (h := ?_)
          refine tk 2 (hy := addI) (h := ?_)
          refine tk 3 (hy := ix (A := some ⟨b9, 0, none⟩) (m := 45)) (h := ?_)
          refine tk 4 (hy := ldE (A := some ⟨b9, 0, none⟩) (hk := hyv)) (h := ?_)
          refine tk 5 (hy := mv) (h := ?_)
          refine tk 6 (hy := ix (A := YA) (m := 45) (hr := by repeat (first | exact Rds.any (hyd 3) | apply Rds.there))) (h := ?_)
          refine tk 7 (hy := ldE (A := YA) (hr := by repeat (first | exact Rds.any (hyd 3) | apply Rds.there)) (hk := mI_at (k := b) (by omega))) (h := ?_)
          refine tk 8 (hy := mv) (h := ?_)
          refine tk 9 (hy := mv) (h := ?_)
          refine tk 10 (hy := ix (A := some ⟨b9, 0, none⟩) (m := 45)) (h := ?_)
          refine tk 11 (hy := ldE (A := some ⟨b9, 0, none⟩) (hk := hxv)) (h := ?_)
          refine tk 12 (hy := mv) (h := ?_)
          refine tk 13 (hy := addI) (h := ?_)
          refine tk 14 (hy := ix (A := XA) (m := 45) (hr := by repeat (first | exact Rds.any (hxd 3) | apply Rds.there))) (h := ?_)
          refine tk 15 (hy := ldE (A := XA) (hr := by repeat (first | exact Rds.any (hxd 3) | apply Rds.there)) (hk := mI_at (k := b + 1) (by omega))) (h := ?_)
          refine tk 16 (hy := asg) (h := ?_)
          refine tk 17 (hy := asg) (h := ?_)
          refine dn (h := ?_)
          refine q_seq (h := ?_)
          refine sq (h := ?_)
          refine sq (h := ?_)
          refine rg (h := ?_)
          refine WL.y (hy := mv) (h := ?_)
          refine WL.y (hy := mv) (h := ?_)
          apply brOr 9 116 125 (by exact rfl)
          · intro hb14
            refine un (h := ?_)
            refine WL.y (hy := mv) (h := ?_)
            refine un (h := ?_)
            refine WL.y (hy := addI) (h := ?_)
            refine un (h := ?_)
            refine WL.y (hy := mv) (h := ?_)
            refine un (h := ?_)
            refine WL.y (hy := bd) (h := ?_)
            refine un (h := ?_)
            refine WL.y (hy := (by first | exact fa | exact faE)) (h := ?_)
            refine un (h := ?_)
            refine WL.y (hy := (by first | exact ld | exact ldE)) (h := ?_)
            refine un (h := ?_)
            refine cl0 (hc := fun w hS => C_ref1_leads ((u.k : Int) + 1, (b : Int)) f.games hS1 w) (h := ?_)
            refine un (h := ?_)
            refine WL.y (hy := eql) (h := ?_)
            refine WL.y (hy := (by first | exact pkT | exact pkF)) (h := ?_)
            exact mg (by repeat (first | exact trivial | refine ⟨rfl, ?_⟩ | refine ⟨by rw [hb14]; rfl, ?_⟩)) (by repeat (first | exact SubL.nil | (apply SubL.cons; (repeat (first | exact At.here | apply At.there))) | exact SubL.refl _ | apply SubL.skip))
          · intro hb14
            repeat (first | refine un (h := ?_) | refine sk (h := ?_) | refine WL.y (hy := pkF) (h := ?_) | refine WL.y (hy := pkT) (h := ?_))
            exact mg (by repeat (first | exact trivial | refine ⟨rfl, ?_⟩ | refine ⟨by rw [hb14]; rfl, ?_⟩)) (by repeat (first | exact SubL.nil | (apply SubL.cons; (repeat (first | exact At.here | apply At.there))) | exact SubL.refl _ | apply SubL.skip))
          refine nl (h := ?_)
          refine q_seq (h := ?_)
          refine cd (by exact rfl) (fun h15 => ?_) (fun h15 => ?_)
          · skip
            have k2 : EO f s u.k b = true := (eo_r (by omega)).trans h15
            refine rg (h := ?_)
            refine WL.y (hy := mv) (h := ?_)
            refine WL.y (hy := asg) (h := ?_)
            refine WL.cut (by repeat (first | exact Cut.nil | apply Cut.hit | apply Cut.miss (by exact rfl))) ?_
            refine nl (h := ?_)
            refine q_seq (h := ?_)
            refine sq (h := ?_)
            refine sq (h := ?_)
            refine rg (h := ?_)
            refine WL.y (hy := mv) (h := ?_)
            refine WL.y (hy := mv) (h := ?_)
            apply brOr 9 128 137 (by exact rfl)
            · intro hb16
              refine un (h := ?_)
              refine WL.y (hy := mv) (h := ?_)
              refine un (h := ?_)
              refine WL.y (hy := mv) (h := ?_)
              refine un (h := ?_)
              refine WL.y (hy := addI) (h := ?_)
              refine un (h := ?_)
              refine WL.y (hy := bd) (h := ?_)
              refine un (h := ?_)
              refine WL.y (hy := (by first | exact fa | exact faE)) (h := ?_)
              refine un (h := ?_)
              refine WL.y (hy := (by first | exact ld | exact ldE)) (h := ?_)
              refine un (h := ?_)
              refine cl0 (hc := fun w hS => C_ref1_leads ((u.k : Int), (b : Int) + 1) f.games hS2 w) (h := ?_)
              refine un (h := ?_)
              refine WL.y (hy := eql) (h := ?_)
              refine WL.y (hy := (by first | exact pkT | exact pkF)) (h := ?_)
              exact mg (by repeat (first | exact trivial | refine ⟨rfl, ?_⟩ | refine ⟨by rw [hb16]; rfl, ?_⟩)) (by repeat (first | exact SubL.nil | (apply SubL.cons; (repeat (first | exact At.here | apply At.there))) | exact SubL.refl _ | apply SubL.skip))
            · intro hb16
              repeat (first | refine un (h := ?_) | refine sk (h := ?_) | refine WL.y (hy := pkF) (h := ?_) | refine WL.y (hy := pkT) (h := ?_))
              exact mg (by repeat (first | exact trivial | refine ⟨rfl, ?_⟩ | refine ⟨by rw [hb16]; rfl, ?_⟩)) (by repeat (first | exact SubL.nil | (apply SubL.cons; (repeat (first | exact At.here | apply At.there))) | exact SubL.refl _ | apply SubL.skip))
            refine nl (h := ?_)
            refine q_seq (h := ?_)
            refine cd (by exact rfl) (fun h17 => ?_) (fun h17 => ?_)
            · skip
              have k3 : EO f s b u.k = true := (eo_r' (by omega)).trans h17
              refine rg (h := ?_)
              refine WL.y (hy := mv) (h := ?_)
              refine WL.y (hy := asg) (h := ?_)
              refine nl (h := ?_)
              refine q_seq (h := ?_)
              refine rg (h := ?_)
              refine WL.y (hy := mv) (h := ?_)
              refine WL.y (hy := mv) (h := ?_)
              refine WL.y (hy := ix (A := some ⟨b9, 0, none⟩) (m := 45)) (h := ?_)
              refine WL.y (hy := ldE (A := some ⟨b9, 0, none⟩) (hk := hxv)) (h := ?_)
              refine WL.y (hy := mv) (h := ?_)
              refine WL.y (hy := mv) (h := ?_)
              refine WL.y (hy := mv) (h := ?_)
              refine WL.y (hy := mv) (h := ?_)
              refine WL.y (hy := minI) (h := ?_)
              refine WL.y (hy := addI) (h := ?_)
              refine WL.y (hy := minI) (h := ?_)
              refine WL.y (hy := ix (A := XA) (m := 45) (hr := by repeat (first | exact Rds.any (hxd 3) | apply Rds.there))) (h := ?_)
              refine WL.mxAt (hs := u.T) hxr (by repeat (first | exact At.here | apply At.there)) ?_
              refine stE (A := XA) (k := b) (j := 0) (hk := mI_at (l := Xx) (k := b) (by omega)) (h := ?_)
              refine WL.mxPut (hs := u.T) XA Xc (Xx.set b (tbV f s W L u.k b)) hxr (by repeat (first | exact At.here | apply At.there)) (by repeat (first | exact At.here | apply At.there)) (by rw [List.length_set]) (by rw [hVe, k1, k2, k3]; simp only [cond_true, cond_false]; (try rw [← hwin]); (try rw [← hlos]); exact mI_set Xx b _) ?_
              refine nl (h := ?_)
              refine q_blk_norm (h := ?_)
              refine q_seq (h := ?_)
              refine rg (h := ?_)
              refine WL.y (hy := mv) (h := ?_)
              refine WL.y (hy := addI) (h := ?_)
              refine WL.y (hy := asg) (h := ?_)
              refine nl (h := ?_)
              refine rn (x := u) ⟨u.k + 1, u.T.set u.k (XA, Xc, Xx.set b (tbV f s W L u.k b))⟩ ⟨⟨by dsimp only; omega, by dsimp only; omega, hM'⟩, hnx⟩ (by dsimp only; omega) (by repeat (first | exact trivial | refine ⟨rfl, ?_⟩)) (by repeat (first | exact SubL.nil | (apply SubL.cons; (repeat (first | exact At.here | apply At.there))) | exact SubL.refl _ | apply SubL.skip))
            · skip
              have k3 : EO f s b u.k = false := (eo_r' (by omega)).trans h17
              refine skp (h := ?_)
              refine q_seq (h := ?_)
              refine rg (h := ?_)
              refine WL.y (hy := mv) (h := ?_)
              refine WL.y (hy := mv) (h := ?_)
              refine WL.y (hy := ix (A := some ⟨b9, 0, none⟩) (m := 45)) (h := ?_)
              refine WL.y (hy := ldE (A := some ⟨b9, 0, none⟩) (hk := hxv)) (h := ?_)
              refine WL.y (hy := mv) (h := ?_)
              refine WL.y (hy := mv) (h := ?_)
              refine WL.y (hy := mv) (h := ?_)
              refine WL.y (hy := mv) (h := ?_)
              refine WL.y (hy := minI) (h := ?_)
              refine WL.y (hy := addI) (h := ?_)
              refine WL.y (hy := minI) (h := ?_)
              refine WL.y (hy := ix (A := XA) (m := 45) (hr := by repeat (first | exact Rds.any (hxd 3) | apply Rds.there))) (h := ?_)
              refine WL.mxAt (hs := u.T) hxr (by repeat (first | exact At.here | apply At.there)) ?_
              refine stE (A := XA) (k := b) (j := 0) (hk := mI_at (l := Xx) (k := b) (by omega)) (h := ?_)
              refine WL.mxPut (hs := u.T) XA Xc (Xx.set b (tbV f s W L u.k b)) hxr (by repeat (first | exact At.here | apply At.there)) (by repeat (first | exact At.here | apply At.there)) (by rw [List.length_set]) (by rw [hVe, k1, k2, k3]; simp only [cond_true, cond_false]; (try rw [← hwin]); (try rw [← hlos]); exact mI_set Xx b _) ?_
              refine nl (h := ?_)
              refine q_blk_norm (h := ?_)
              refine q_seq (h := ?_)
              refine rg (h := ?_)
              refine WL.y (hy := mv) (h := ?_)
              refine WL.y (hy := addI) (h := ?_)
              refine WL.y (hy := asg) (h := ?_)
              refine nl (h := ?_)
              refine rn (x := u) ⟨u.k + 1, u.T.set u.k (XA, Xc, Xx.set b (tbV f s W L u.k b))⟩ ⟨⟨by dsimp only; omega, by dsimp only; omega, hM'⟩, hnx⟩ (by dsimp only; omega) (by repeat (first | exact trivial | refine ⟨rfl, ?_⟩)) (by repeat (first | exact SubL.nil | (apply SubL.cons; (repeat (first | exact At.here | apply At.there))) | exact SubL.refl _ | apply SubL.skip))
          · skip
            have k2 : EO f s u.k b = false := (eo_r (by omega)).trans h15
            refine skp (h := ?_)
            refine q_seq (h := ?_)
            refine sq (h := ?_)
            refine sq (h := ?_)
            refine rg (h := ?_)
            refine WL.y (hy := mv) (h := ?_)
            refine WL.y (hy := mv) (h := ?_)
            apply brOr 9 128 137 (by exact rfl)
            · intro hb18
              refine un (h := ?_)
              refine WL.y (hy := mv) (h := ?_)
              refine un (h := ?_)
              refine WL.y (hy := mv) (h := ?_)
              refine un (h := ?_)
              refine WL.y (hy := addI) (h := ?_)
              refine un (h := ?_)
              refine WL.y (hy := bd) (h := ?_)
              refine un (h := ?_)
              refine WL.y (hy := (by first | exact fa | exact faE)) (h := ?_)
              refine un (h := ?_)
              refine WL.y (hy := (by first | exact ld | exact ldE)) (h := ?_)
              refine un (h := ?_)
              refine cl0 (hc := fun w hS => C_ref1_leads ((u.k : Int), (b : Int) + 1) f.games hS2 w) (h := ?_)
              refine un (h := ?_)
              refine WL.y (hy := eql) (h := ?_)
              refine WL.y (hy := (by first | exact pkT | exact pkF)) (h := ?_)
              exact mg (by repeat (first | exact trivial | refine ⟨rfl, ?_⟩ | refine ⟨by rw [hb18]; rfl, ?_⟩)) (by repeat (first | exact SubL.nil | (apply SubL.cons; (repeat (first | exact At.here | apply At.there))) | exact SubL.refl _ | apply SubL.skip))
            · intro hb18
              repeat (first | refine un (h := ?_) | refine sk (h := ?_) | refine WL.y (hy := pkF) (h := ?_) | refine WL.y (hy := pkT) (h := ?_))
              exact mg (by repeat (first | exact trivial | refine ⟨rfl, ?_⟩ | refine ⟨by rw [hb18]; rfl, ?_⟩)) (by repeat (first | exact SubL.nil | (apply SubL.cons; (repeat (first | exact At.here | apply At.there))) | exact SubL.refl _ | apply SubL.skip))
            refine nl (h := ?_)
            refine q_seq (h := ?_)
            refine cd (by exact rfl) (fun h19 => ?_) (fun h19 => ?_)
            · skip
              have k3 : EO f s b u.k = true := (eo_r' (by omega)).trans h19
              refine rg (h := ?_)
              refine WL.y (hy := mv) (h := ?_)
              refine WL.y (hy := asg) (h := ?_)
              refine nl (h := ?_)
              refine q_seq (h := ?_)
              refine rg (h := ?_)
              refine WL.y (hy := mv) (h := ?_)
              refine WL.y (hy := mv) (h := ?_)
              refine WL.y (hy := ix (A := some ⟨b9, 0, none⟩) (m := 45)) (h := ?_)
              refine WL.y (hy := ldE (A := some ⟨b9, 0, none⟩) (hk := hxv)) (h := ?_)
              refine WL.y (hy := mv) (h := ?_)
              refine WL.y (hy := mv) (h := ?_)
              refine WL.y (hy := mv) (h := ?_)
              refine WL.y (hy := mv) (h := ?_)
              refine WL.y (hy := minI) (h := ?_)
              refine WL.y (hy := addI) (h := ?_)
              refine WL.y (hy := minI) (h := ?_)
              refine WL.y (hy := ix (A := XA) (m := 45) (hr := by repeat (first | exact Rds.any (hxd 3) | apply Rds.there))) (h := ?_)
              refine WL.mxAt (hs := u.T) hxr (by repeat (first | exact At.here | apply At.there)) ?_
              refine stE (A := XA) (k := b) (j := 0) (hk := mI_at (l := Xx) (k := b) (by omega)) (h := ?_)
              refine WL.mxPut (hs := u.T) XA Xc (Xx.set b (tbV f s W L u.k b)) hxr (by repeat (first | exact At.here | apply At.there)) (by repeat (first | exact At.here | apply At.there)) (by rw [List.length_set]) (by rw [hVe, k1, k2, k3]; simp only [cond_true, cond_false]; (try rw [← hwin]); (try rw [← hlos]); exact mI_set Xx b _) ?_
              refine nl (h := ?_)
              refine q_blk_norm (h := ?_)
              refine q_seq (h := ?_)
              refine rg (h := ?_)
              refine WL.y (hy := mv) (h := ?_)
              refine WL.y (hy := addI) (h := ?_)
              refine WL.y (hy := asg) (h := ?_)
              refine nl (h := ?_)
              refine rn (x := u) ⟨u.k + 1, u.T.set u.k (XA, Xc, Xx.set b (tbV f s W L u.k b))⟩ ⟨⟨by dsimp only; omega, by dsimp only; omega, hM'⟩, hnx⟩ (by dsimp only; omega) (by repeat (first | exact trivial | refine ⟨rfl, ?_⟩)) (by repeat (first | exact SubL.nil | (apply SubL.cons; (repeat (first | exact At.here | apply At.there))) | exact SubL.refl _ | apply SubL.skip))
            · skip
              have k3 : EO f s b u.k = false := (eo_r' (by omega)).trans h19
              refine skp (h := ?_)
              refine q_seq (h := ?_)
              refine rg (h := ?_)
              refine WL.y (hy := mv) (h := ?_)
              refine WL.y (hy := mv) (h := ?_)
              refine WL.y (hy := ix (A := some ⟨b9, 0, none⟩) (m := 45)) (h := ?_)
              refine WL.y (hy := ldE (A := some ⟨b9, 0, none⟩) (hk := hxv)) (h := ?_)
              refine WL.y (hy := mv) (h := ?_)
              refine WL.y (hy := mv) (h := ?_)
              refine WL.y (hy := mv) (h := ?_)
              refine WL.y (hy := mv) (h := ?_)
              refine WL.y (hy := minI) (h := ?_)
              refine WL.y (hy := addI) (h := ?_)
              refine WL.y (hy := minI) (h := ?_)
              refine WL.y (hy := ix (A := XA) (m := 45) (hr := by repeat (first | exact Rds.any (hxd 3) | apply Rds.there))) (h := ?_)
              refine WL.mxAt (hs := u.T) hxr (by repeat (first | exact At.here | apply At.there)) ?_
              refine stE (A := XA) (k := b) (j := 0) (hk := mI_at (l := Xx) (k := b) (by omega)) (h := ?_)
              refine WL.mxPut (hs := u.T) XA Xc (Xx.set b (tbV f s W L u.k b)) hxr (by repeat (first | exact At.here | apply At.there)) (by repeat (first | exact At.here | apply At.there)) (by rw [List.length_set]) (by rw [hVe, k1, k2, k3]; simp only [cond_true, cond_false]; (try rw [← hwin]); (try rw [← hlos]); exact mI_set Xx b _) ?_
              refine nl (h := ?_)
              refine q_blk_norm (h := ?_)
              refine q_seq (h := ?_)
              refine rg (h := ?_)
              refine WL.y (hy := mv) (h := ?_)
              refine WL.y (hy := addI) (h := ?_)
              refine WL.y (hy := asg) (h := ?_)
              refine nl (h := ?_)
              refine rn (x := u) ⟨u.k + 1, u.T.set u.k (XA, Xc, Xx.set b (tbV f s W L u.k b))⟩ ⟨⟨by dsimp only; omega, by dsimp only; omega, hM'⟩, hnx⟩ (by dsimp only; omega) (by repeat (first | exact trivial | refine ⟨rfl, ?_⟩)) (by repeat (first | exact SubL.nil | (apply SubL.cons; (repeat (first | exact At.here | apply At.there))) | exact SubL.refl _ | apply SubL.skip))
      · skip
        have huk : min (86 - z.k) 43 < u.k := by simp only [decide_eq_false_iff_not] at h4; omega
        have hnx : CosI f s W L (((86 - z.k : Nat) : Int) - 1) (max 0 (((86 - z.k : Nat) : Int) - 1 - 43)) u.T := hu2.weak fun i j hi hj => by unfold CDone; omega
        refine et (h := ?_)
        refine q_then_exit (h := ?_)
        refine q_then_exit (h := ?_)
        refine q_blk_hit (h := ?_)
        refine q_blk_norm (h := ?_)
        refine q_seq (h := ?_)
        refine rg (h := ?_)
        refine WL.y (hy := mv) (h := ?_)
        refine WL.y (hy := subI) (h := ?_)
        refine WL.y (hy := asg) (h := ?_)
        refine nl (h := ?_)
        refine rn (x := z) ⟨z.k + 1, u.T⟩ ⟨⟨by dsimp only; omega, hu1⟩, by dsimp only; rw [show (86 : Int) - ((z.k + 1 : Nat) : Int) = ((86 - z.k : Nat) : Int) - 1 by omega]; exact hnx⟩ (by dsimp only; omega) (by dsimp only; rw [show (86 : Int) - ((z.k + 1 : Nat) : Int) = ((86 - z.k : Nat) : Int) - 1 by omega]; repeat (first | exact trivial | refine ⟨rfl, ?_⟩)) (by repeat (first | exact SubL.nil | (apply SubL.cons; (repeat (first | exact At.here | apply At.there))) | exact SubL.refl _ | apply SubL.skip))
    · skip
      have hkn : z.k = 87 := by simp only [decide_eq_false_iff_not] at h3; omega
      have hfin : ∀ i j : Nat, i < 45 → j < 45 → gv z.T i j = tbV f s W L i j := fun i j hi hj => by
        rw [hz2 i j hi hj, if_pos (by unfold CDone; omega)]
      refine et (h := ?_)
      refine q_then_exit (h := ?_)
      refine q_then_exit (h := ?_)
      refine q_blk_hit (h := ?_)
      refine q_seq (h := ?_)
      refine sq (h := ?_)
      refine rg (h := ?_)
      refine WL.y (hy := mv) (h := ?_)
      refine WL.y (hy := asg) (h := ?_)
      refine nl (h := ?_)
      refine q_seq (h := ?_)
      refine rtn (h := ?_)
      refine q_ret (hR := ?_)
      exact fun w hS => ⟨⟨some ⟨b9, 0, none⟩, 45, z.T⟩, ⟨by rw [hz1.v]; exact hz1, hfin⟩, rfl, hS.sub (by dsimp only; rw [hz1.v]; repeat (first | exact SubL.nil | (apply SubL.cons; (repeat (first | exact At.here | apply At.there))) | exact SubL.refl _ | apply SubL.skip))⟩
end Go.Proofs.Ytacaojifempclaa
