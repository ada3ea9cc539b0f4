/- Plain laws of withdrawals: the order in which players withdraw, and those who withdraw one after the other. -/
import Derived.Test.YtjkoaifjmcgpfaaDZ
namespace Go.Proofs.Ytjkoaifjmcgpfaa
open Go Go.RowKit

def trnTo (l : List Int) (k : Nat) : List Int := (l.reverse.take k).flatMap fun y => [y, y]
theorem trn_succ {l : List Int} {k : Nat} {y : Int} (h : l.reverse[k]? = some y) : trnTo l (k + 1) = trnTo l k ++ [y, y] := by
  unfold trnTo
  rw [List.take_add_one, h, List.flatMap_append]; simp
theorem trn_len (l : List Int) (k : Nat) : (trnTo l k).length ≤ 2 * k := by
  unfold trnTo
  have h : ∀ xs : List Int, (xs.flatMap fun y => [y, y]).length = 2 * xs.length := fun xs => by
    induction xs with
    | nil => rfl
    | cons x xs ih => rw [List.flatMap_cons, List.length_append, ih]; simp; omega
  rw [h, List.length_take]; omega
theorem trn_mem (l : List Int) (y : Int) : y ∈ trnTo l l.length ↔ y ∈ l := by
  unfold trnTo
  rw [List.take_of_length_le (by simp), List.mem_flatMap]
  constructor
  · rintro ⟨x, hx, hy⟩
    simp only [List.mem_cons, List.not_mem_nil, or_false, or_self] at hy
    subst hy; exact List.mem_reverse.1 hx
  · intro h; exact ⟨y, List.mem_reverse.2 h, by simp⟩
theorem rev_at {l : List Int} {k : Nat} (hk : k < l.length) : l.reverse[k]? = l[l.length - 1 - k]? := List.getElem?_reverse hk
theorem inV_congr {l l' : List Int} (h : ∀ y, y ∈ l ↔ y ∈ l') (y : Int) : inV l y = inV l' y := by
  rw [Bool.eq_iff_iff, inV_iff, inV_iff]; exact h y
theorem any_congr' {l l' : List Int} (h : ∀ y, y ∈ l ↔ y ∈ l') (q : Int → Bool) : l.any q = l'.any q := by
  rw [Bool.eq_iff_iff, List.any_eq_true, List.any_eq_true]
  exact ⟨fun ⟨y, hy, e⟩ => ⟨y, (h y).1 hy, e⟩, fun ⟨y, hy, e⟩ => ⟨y, (h y).2 hy, e⟩⟩
theorem wth_congr {l l' : List Int} (h : ∀ y, y ∈ l ↔ y ∈ l') (p : Pl) : wthP p l = wthP p l' := by
  unfold wthP
  simp only [inV_congr h]
theorem wthR_congr {l l' : List Int} (h : ∀ y, y ∈ l ↔ y ∈ l') (p : Pl) : wthR p l = wthR p l' := by
  unfold wthR
  rw [any_congr' h, wth_congr h]
theorem repTo_congr {sheet l l' lucky : List Int} (h : ∀ y, y ∈ l ↔ y ∈ l') : ∀ k, repTo sheet l lucky k = repTo sheet l' lucky k
  | 0 => rfl
  | k + 1 => by
    have ih := repTo_congr (sheet := sheet) (lucky := lucky) h k
    unfold repTo
    simp only [ih, inV_congr h]
theorem repR_congr {l l' : List Int} (h : ∀ y, y ∈ l ↔ y ∈ l') (p : Pl) (sheet lucky : List Int) : repR p sheet l lucky = repR p sheet l' lucky := by
  unfold repR luckyV
  rw [any_congr' h, repTo_congr h]
/-- What is replaced differs; what is not replaced is the same. -/
theorem rep_val {sheet players lucky : List Int} : ∀ (k i : Nat) (y : Int), i < k → sheet[i]? = some y → ∃ v, (repTo sheet players lucky k).1[i]? = some v ∧ (inV players y = false → v = y) ∧ (inV players y = true → v = -1 ∨ v ∈ lucky)
  | 0, i, y, hi, _ => by omega
  | k + 1, i, y, hi, hy => by
    have hil : i < sheet.length := (List.getElem?_eq_some_iff.1 hy).1
    by_cases e : i = k
    · subst e
      have hat := rep_at (sheet := sheet) (players := players) (lucky := lucky) i i (Nat.le_refl _)
      have hlen := rep_len (sheet := sheet) (players := players) (lucky := lucky) i
      cases hp : inV players y
      · exact ⟨y, by rw [rep_no hy hp, hat, hy], fun _ => rfl, (fun h => nomatch h)⟩
      · cases hl : lucky[(repTo sheet players lucky i).2]? with
        | none => exact ⟨-1, by rw [rep_nil hy hp hl]; exact List.getElem?_set_self (by omega), (fun h => nomatch h), fun _ => .inl rfl⟩
        | some v => exact ⟨v, by rw [rep_some hy hp hl]; exact List.getElem?_set_self (by omega), (fun h => nomatch h), fun _ => .inr (List.mem_of_getElem? hl)⟩
    · obtain ⟨v, hv, h1, h2⟩ := rep_val k i y (by omega) hy
      refine ⟨v, ?_, h1, h2⟩
      cases h : sheet[k]? with
      | none => rw [repTo, h]; exact hv
      | some x =>
        cases hp : inV players x
        · rw [rep_no h hp]; exact hv
        · cases hl : lucky[(repTo sheet players lucky k).2]? with
          | none => rw [rep_nil h hp hl, List.getElem?_set_ne (by omega)]; exact hv
          | some u => rw [rep_some h hp hl, List.getElem?_set_ne (by omega)]; exact hv
theorem lk_at {sheet lucky : List Int} : ∀ {K : Nat}, lkTo sheet lucky K = true → ∀ (k : Nat) (v : Int), k < K → lucky[k]? = some v → inV sheet v = false
  | 0, _, k, _, hk, _ => by omega
  | K + 1, h, k, v, hk, hv => by
    rw [lkTo, Bool.and_eq_true] at h
    by_cases e : k = K
    · subst e
      have h2 := h.2
      rw [hv] at h2
      simp only [lkBad, Bool.not_eq_true', Bool.or_eq_false_iff] at h2
      exact h2.1.2
    · exact lk_at h.1 k v (by omega) hv
theorem rep_law {p : Pl} {sheet players lucky : List Int} (h : (repR p sheet players lucky).2 = 0) : (repR p sheet players lucky).1.length = sheet.length ∧ ∀ (i : Nat) (y : Int), sheet[i]? = some y → ∃ v, (repR p sheet players lucky).1[i]? = some v ∧ (inV players y == decide (v = y)) = false := by
  unfold repR at h ⊢
  by_cases hc : chS p sheet = 0
  · rw [decide_eq_true hc] at h ⊢
    cases hl : luckyV sheet players lucky
    · rw [hl] at h; cases h
    · simp only [cond_true]
      refine ⟨rep_len _, fun i y hy => ?_⟩
      obtain ⟨v, hv, h1, h2⟩ := rep_val (players := players) (lucky := lucky) sheet.length i y (List.getElem?_eq_some_iff.1 hy).1 hy
      refine ⟨v, hv, ?_⟩
      have hpl := lucky_pl hl
      cases hp : inV players y
      · rw [h1 hp]; simp
      · have hne : ¬ v = y := fun e => by
          rcases h2 hp with h3 | h3
          · rw [← e, h3] at hp
            rw [pl_no hpl] at hp; cases hp
          · obtain ⟨k, hk, e2⟩ := List.getElem_of_mem h3
            unfold luckyV at hl
            rw [Bool.and_eq_true] at hl
            have := lk_at hl.2 k v hk (by rw [List.getElem?_eq_getElem hk, e2])
            rw [e, inV_iff.2 (List.mem_of_getElem? hy)] at this
            cases this
        rw [decide_eq_false hne]; rfl
  · rw [decide_eq_false hc] at h
    exact absurd h hc
/-! #### one after the other -/
theorem per_neg (p : Pl) (n : Int) : perI p n < 0 ↔ ∀ x ∈ p.ps, x.player ≠ n := by
  constructor
  · intro h x hx e
    obtain ⟨i, hi, rfl⟩ := List.getElem_of_mem hx
    rcases idxF_spec (pAt p.ps fun x => decide (x.player = n)) p.ps.length with ⟨k, _, he, _, _⟩ | ⟨_, hb⟩
    · have : perI p n = k := he
      omega
    · have := hb i hi
      rw [pAt_eq (List.getElem?_eq_getElem hi), decide_eq_true e] at this
      cases this
  · intro h
    by_cases hn : perI p n < 0
    · exact hn
    · obtain ⟨x, hx, e⟩ := per_player (p := p) (y := n) (by omega)
      exact absurd e (h x (List.mem_of_getElem? hx))
def rstTo (l : List Int) (m k : Nat) : List Int := ((l.drop m).take k).filter fun y => !inV (l.take m) y
theorem rst_succ {l : List Int} {m k : Nat} {y : Int} (h : l[m + k]? = some y) : rstTo l m (k + 1) = rstTo l m k ++ (bif inV (l.take m) y then [] else [y]) := by
  unfold rstTo
  rw [List.take_add_one, List.getElem?_drop, h, List.filter_append]
  cases hi : inV (l.take m) y <;> simp [hi]
theorem rst_len (l : List Int) (m k : Nat) : (rstTo l m k).length ≤ k := Nat.le_trans (List.length_filter_le _ _) (by rw [List.length_take]; omega)
theorem wth_two {p : Pl} {l : List Int} {m : Nat} (hb : pOk p = true) (h : (wthR p (l.take m)).2 = 0) : wthR p (l.take m) = (wthP p (l.take m), 0) ∧ wthR (wthP p (l.take m)) (rstTo l m (l.length - m)) = wthR p l := by
  have hr : ∀ y, y ∈ rstTo l m (l.length - m) ↔ y ∈ l.drop m ∧ inV (l.take m) y = false := fun y => by
    unfold rstTo
    rw [List.take_of_length_le (i := l.length - m) (l := l.drop m) (by rw [List.length_drop]; omega), List.mem_filter, Bool.not_eq_true']
  have hl : ∀ y, y ∈ l ↔ (y ∈ l.take m ∨ y ∈ l.drop m) := fun y => by
    rw [← List.mem_append, List.take_append_drop]
  have h0 : (l.take m).any (fun n => decide (perI p n < 0)) = false ∧ pOk (wthP p (l.take m)) = true := by
    unfold wthR at h
    rw [hb] at h
    cases ha : (l.take m).any fun n => decide (perI p n < 0)
    · rw [ha] at h
      cases hk : pOk (wthP p (l.take m))
      · rw [hk] at h; cases h
      · exact ⟨rfl, rfl⟩
    · rw [ha] at h; cases h
  have e0 : wthR p (l.take m) = (wthP p (l.take m), 0) := by unfold wthR; rw [hb, h0.1, h0.2]; rfl
  refine ⟨e0, ?_⟩
  have e1 : wthP (wthP p (l.take m)) (rstTo l m (l.length - m)) = wthP p l := by
    unfold wthP
    simp only [List.filter_filter]
    congr 1
    refine List.filter_congr fun x _ => ?_
    rw [Bool.eq_iff_iff, Bool.and_eq_true, Bool.not_eq_true', Bool.not_eq_true', Bool.not_eq_true', ← Bool.not_eq_true, ← Bool.not_eq_true, ← Bool.not_eq_true, inV_iff, inV_iff, inV_iff, hr, hl]
    constructor
    · rintro ⟨h1, h2⟩ (h3 | h3)
      · exact h2 h3
      · refine h1 ⟨h3, ?_⟩
        cases hi : inV (l.take m) x.player
        · rfl
        · exact absurd (inV_iff.1 hi) h2
    · intro h3
      exact ⟨fun h4 => h3 (.inr h4.1), fun h4 => h3 (.inl h4)⟩
  have e2 : (rstTo l m (l.length - m)).any (fun n => decide (perI (wthP p (l.take m)) n < 0)) = l.any (fun n => decide (perI p n < 0)) := by
    have key : ∀ n, inV (l.take m) n = false → (perI (wthP p (l.take m)) n < 0 ↔ perI p n < 0) := fun n hn => by
      rw [per_neg, per_neg]
      unfold wthP
      constructor
      · intro h3 x hx e
        refine h3 x (List.mem_filter.2 ⟨hx, ?_⟩) e
        rw [e, hn]; rfl
      · intro h3 x hx
        exact h3 x (List.mem_filter.1 hx).1
    rw [Bool.eq_iff_iff, List.any_eq_true, List.any_eq_true]
    constructor
    · rintro ⟨n, hn, e⟩
      have hn := (hr n).1 hn
      exact ⟨n, (hl n).2 (.inr hn.1), decide_eq_true ((key n hn.2).1 (of_decide_eq_true e))⟩
    · rintro ⟨n, hn, e⟩
      have e := of_decide_eq_true e
      have hnt : inV (l.take m) n = false := by
        cases hi : inV (l.take m) n
        · rfl
        · have := List.any_eq_false.1 h0.1 n (inV_iff.1 hi)
          exact absurd (decide_eq_true e) this
      rcases (hl n).1 hn with h3 | h3
      · rw [inV_iff.2 h3] at hnt; cases hnt
      · exact ⟨n, (hr n).2 ⟨h3, hnt⟩, decide_eq_true ((key n hnt).2 e)⟩
  unfold wthR
  rw [h0.2, hb, e2, e1]
theorem wthR_err {p : Pl} {l : List Int} (hb : pOk p = true) (h : ¬ (wthR p l).2 = 0) : (wthR p l).2 = 3 ∨ (wthR p l).2 = 1 := by
  unfold wthR at h ⊢
  rw [hb] at h ⊢
  cases ha : l.any fun n => decide (perI p n < 0)
  · rw [ha] at h
    cases hk : pOk (wthP p l)
    · exact .inl rfl
    · rw [hk] at h; exact absurd rfl h
  · exact .inr rfl
end Go.Proofs.Ytjkoaifjmcgpfaa
