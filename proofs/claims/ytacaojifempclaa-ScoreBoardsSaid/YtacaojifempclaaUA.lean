/- Plain law of score: which games can arise in a set, in closed form, and that the table says so. -/
import Derived.Test.YtacaojifempclaaSD
namespace Go.Proofs.Ytacaojifempclaa
open Go Go.RowKit

/-! #### which games can arise in a set, in closed form -/
def TieOk (f : Fmt) (s : Pr) : Prop := 1 ≤ f.games ∧ (s.1 = -1 ∨ s.1 = 0 ∨ s.1 = f.games - 1 ∨ s.1 = f.games)
theorem tie_ok {f : Fmt} (hf : f.Ok) (won : Pr) : TieOk f (setV f won) := by
  have h1 := hf.g0
  have h2 := hf.t
  have h3 := hf.lt
  unfold setV
  cases decide (won.1 = f.sets - 1) && decide (won.2 = f.sets - 1)
  · exact ⟨h1, h2⟩
  · exact ⟨h1, h3⟩
/-- A set is in play at these games. -/
def OpenP (f : Fmt) (s : Pr) (a b : Int) : Prop := 0 ≤ a ∧ 0 ≤ b ∧ ((a < f.games ∧ b < f.games) ∨ (a - b ≤ 1 ∧ b - a ≤ 1)) ∧ (s.1 < 0 ∨ a < s.1 ∨ b < s.1 ∨ (a = s.1 ∧ b = s.1))
instance (f : Fmt) (s : Pr) (a b : Int) : Decidable (OpenP f s a b) := by unfold OpenP; infer_instance
/-- A set that ends with a game. -/
def EndP (f : Fmt) (s : Pr) (a b : Int) (k : Int) : Bool := brksV s (a, b) || decide (0 ≤ leadsV (addV (a, b) k) f.games 2)
theorem end0 (f : Fmt) (s : Pr) (a b : Int) : EndP f s a b 0 = true ↔ (a = s.1 ∧ b = s.1) ∨ (f.games ≤ a + 1 ∧ 2 ≤ a + 1 - b) ∨ (f.games ≤ b ∧ 2 ≤ b - (a + 1)) := by
  unfold EndP brksV leadsV addV
  simp only [decide_true, cond_true, Bool.or_eq_true, Bool.and_eq_true, decide_eq_true_eq]
  by_cases h1 : f.games ≤ a + 1 ∧ 2 ≤ a + 1 - b
  · simp [h1.1, h1.2]
  · have e1 : (decide (f.games ≤ a + 1) && decide (2 ≤ a + 1 - b)) = false := by simpa using h1
    rw [e1]
    by_cases h2 : f.games ≤ b ∧ 2 ≤ b - (a + 1)
    · simp [h2.1, h2.2]
    · have e2 : (decide (f.games ≤ b) && decide (2 ≤ b - (a + 1))) = false := by simpa using h2
      rw [e2]
      simp; omega
theorem end1 (f : Fmt) (s : Pr) (a b : Int) : EndP f s a b 1 = true ↔ (a = s.1 ∧ b = s.1) ∨ (f.games ≤ a ∧ 2 ≤ a - (b + 1)) ∨ (f.games ≤ b + 1 ∧ 2 ≤ b + 1 - a) := by
  unfold EndP brksV leadsV addV
  rw [show decide ((1 : Int) = 0) = false from rfl]
  simp only [cond_false, Bool.or_eq_true, Bool.and_eq_true, decide_eq_true_eq]
  by_cases h1 : f.games ≤ a ∧ 2 ≤ a - (b + 1)
  · simp [h1.1, h1.2]
  · have e1 : (decide (f.games ≤ a) && decide (2 ≤ a - (b + 1))) = false := by simpa using h1
    rw [e1]
    by_cases h2 : f.games ≤ b + 1 ∧ 2 ≤ b + 1 - a
    · simp [h2.1, h2.2]
    · have e2 : (decide (f.games ≤ b + 1) && decide (2 ≤ b + 1 - a)) = false := by simpa using h2
      rw [e2]
      simp; omega
theorem end0_no (f : Fmt) (s : Pr) (a b : Int) : EndP f s a b 0 = false ↔ ¬ ((a = s.1 ∧ b = s.1) ∨ (f.games ≤ a + 1 ∧ 2 ≤ a + 1 - b) ∨ (f.games ≤ b ∧ 2 ≤ b - (a + 1))) := by
  rw [← end0, Bool.not_eq_true]
theorem end1_no (f : Fmt) (s : Pr) (a b : Int) : EndP f s a b 1 = false ↔ ¬ ((a = s.1 ∧ b = s.1) ∨ (f.games ≤ a ∧ 2 ≤ a - (b + 1)) ∨ (f.games ≤ b + 1 ∧ 2 ≤ b + 1 - a)) := by
  rw [← end1, Bool.not_eq_true]
/-- What the table says of some games: whether the set is over. -/
def expT (f : Fmt) (s : Pr) (a b : Int) : Option Bool :=
  if a = 0 ∧ b = 0 then some false else if OpenP f s (a - 1) b then some (EndP f s (a - 1) b 0) else if OpenP f s a (b - 1) then some (EndP f s a (b - 1) 1) else none
section
variable {f : Fmt} {s : Pr}
theorem ends_agree (h : TieOk f s) {a b : Int} (h1 : OpenP f s (a - 1) b) (h2 : OpenP f s a (b - 1)) : EndP f s (a - 1) b 0 = EndP f s a (b - 1) 1 := by
  rw [Bool.eq_iff_iff, end0, end1]
  unfold OpenP at h1 h2
  unfold TieOk at h
  omega
theorem open_end (h : TieOk f s) {a b : Int} (h1 : OpenP f s a b) : (a = 0 ∧ b = 0) ∨ (OpenP f s (a - 1) b ∧ EndP f s (a - 1) b 0 = false) ∨ (¬ OpenP f s (a - 1) b ∧ OpenP f s a (b - 1) ∧ EndP f s a (b - 1) 1 = false) := by
  rw [end0_no, end1_no]
  unfold OpenP at *
  unfold TieOk at h
  omega
theorem exp_open (h : TieOk f s) (a b : Int) : expT f s a b = some false ↔ OpenP f s a b := by
  constructor
  · intro he
    unfold expT at he
    by_cases h0 : a = 0 ∧ b = 0
    · unfold OpenP TieOk at *; omega
    · rw [if_neg h0] at he
      by_cases h1 : OpenP f s (a - 1) b
      · rw [if_pos h1] at he
        have := (end0_no f s (a - 1) b).1 (Option.some.inj he)
        unfold OpenP TieOk at *; omega
      · rw [if_neg h1] at he
        by_cases h2 : OpenP f s a (b - 1)
        · rw [if_pos h2] at he
          have := (end1_no f s a (b - 1)).1 (Option.some.inj he)
          unfold OpenP TieOk at *; omega
        · rw [if_neg h2] at he; cases he
  · intro ho
    unfold expT
    rcases open_end h ho with h0 | ⟨h1, h2⟩ | ⟨h1, h2, h3⟩
    · rw [if_pos h0]
    · by_cases h0 : a = 0 ∧ b = 0
      · rw [if_pos h0]
      · rw [if_neg h0, if_pos h1, h2]
    · by_cases h0 : a = 0 ∧ b = 0
      · rw [if_pos h0]
      · rw [if_neg h0, if_neg h1, if_pos h2, h3]
end
theorem tget_put : ∀ (t : Tb) (p : Pr) (v : Stn) (q : Pr), tget (tput t p v) q = if q = p then some v else tget t q
  | [], p, v, q => rfl
  | e :: t, p, v, q => by
    rw [tput]
    by_cases h : p = e.1
    · rw [if_pos h, tget, tget]
      by_cases hq : q = p
      · rw [if_pos hq, if_pos hq]
      · rw [if_neg hq, if_neg hq, if_neg (fun e' => hq (e'.trans h.symm))]
    · rw [if_neg h, tget, tget, tget_put t p v q]
      by_cases hq : q = e.1
      · rw [if_pos hq, if_pos hq, if_neg (fun e' => h (e'.symm.trans hq))]
      · rw [if_neg hq, if_neg hq]
/-- What the table says when so many pairs of a sum have been looked at. -/
def rwT (f : Fmt) (s : Pr) (x a b : Int) : Option Bool :=
  if OpenP f s (a - 1) b ∧ a - 1 < x then some (EndP f s (a - 1) b 0) else if OpenP f s a (b - 1) ∧ a < x then some (EndP f s a (b - 1) 1) else none
def flag (t : Tb) (p : Pr) : Option Bool := (tget t p).map (·.2)
theorem flag_put (t : Tb) (p : Pr) (v : Stn) (q : Pr) : flag (tput t p v) q = if q = p then some v.2 else flag t q := by
  unfold flag
  rw [tget_put]
  by_cases h : q = p
  · rw [if_pos h, if_pos h]; rfl
  · rw [if_neg h, if_neg h]
structure RowOk (f : Fmt) (s : Pr) (all : Nat) (x : Int) (t : Tb) : Prop where
  old : ∀ a b : Int, a ≤ 41 → b ≤ 41 → a + b ≤ all → flag t (a, b) = expT f s a b
  now : ∀ a b : Int, a ≤ 41 → b ≤ 41 → a + b = all + 1 → flag t (a, b) = rwT f s x a b
  more : ∀ a b : Int, a ≤ 41 → b ≤ 41 → (all : Int) + 1 < a + b → flag t (a, b) = none
theorem pair_flag (p : Pr) (t : Tb) : (!(tget t p).isSome || (tat t p).2) = !decide (flag t p = some false) := by
  unfold flag tat
  cases tget t p with
  | none => rfl
  | some v =>
    obtain ⟨n, b⟩ := v
    cases b <;> simp
theorem row_step {f : Fmt} {s : Pr} (h : TieOk f s) {all : Nat} {t : Tb} {a : Int} (ha : a ≤ 41 ∧ (all : Int) - a ≤ 41) (hr : RowOk f s all a t) : RowOk f s all (a + 1) (pairT f s (a, (all : Int) - a) t) := by
  have hfl := hr.old a (all - a) (by omega) (by omega) (by omega)
  have hpf := pair_flag (a, (all : Int) - a) t
  unfold pairT
  by_cases ho : OpenP f s a (all - a)
  · have hb : (!(tget t (a, (all : Int) - a)).isSome || (tat t (a, (all : Int) - a)).2) = false := by
      rw [hpf, hfl, decide_eq_true ((exp_open h a _).2 ho)]; rfl
    rw [hb, cond_false]
    have e0 : addV (a, (all : Int) - a) ((0 : Nat) : Int) = (a + 1, (all : Int) - a) := rfl
    have e1 : addV (a, (all : Int) - a) ((1 : Nat) : Int) = (a, (all : Int) - a + 1) := rfl
    have hfg : ∀ q : Pr, flag (sideTo f s (a, (all : Int) - a) (tat t (a, (all : Int) - a)) t 2) q = if q = (a, (all : Int) - a + 1) then some (EndP f s a (all - a) 1) else if q = (a + 1, (all : Int) - a) then some (EndP f s a (all - a) 0) else flag t q := fun q => by
      rw [sideTo, flag_put, e1, sideTo, flag_put, e0, sideTo]
      rfl
    refine ⟨fun x y hx hy hxy => ?_, fun x y hx hy hxy => ?_, fun x y hx hy hxy => ?_⟩
    · rw [hfg, if_neg (fun e => by injection e; omega), if_neg (fun e => by injection e; omega)]
      exact hr.old x y hx hy hxy
    · rw [hfg]
      by_cases h1 : x = a
      · obtain rfl : y = (all : Int) - a + 1 := by omega
        subst h1
        rw [if_pos rfl, rwT]
        by_cases hA : OpenP f s (x - 1) ((all : Int) - x + 1)
        · rw [if_pos ⟨hA, by omega⟩, ends_agree h hA (by rw [Int.add_sub_cancel]; exact ho), Int.add_sub_cancel]
        · rw [if_neg (fun e => hA e.1), if_pos ⟨by rw [Int.add_sub_cancel]; exact ho, by omega⟩, Int.add_sub_cancel]
      · rw [if_neg (fun e => h1 (by injection e))]
        by_cases h2 : x = a + 1
        · obtain rfl : y = (all : Int) - a := by omega
          subst h2
          rw [if_pos rfl, rwT, Int.add_sub_cancel, if_pos ⟨ho, by omega⟩]
        · rw [if_neg (fun e => h2 (by injection e)), hr.now x y hx hy hxy, rwT, rwT]
          have k1 : (OpenP f s (x - 1) y ∧ x - 1 < a) ↔ (OpenP f s (x - 1) y ∧ x - 1 < a + 1) := and_congr_right fun _ => by omega
          have k2 : (OpenP f s x (y - 1) ∧ x < a) ↔ (OpenP f s x (y - 1) ∧ x < a + 1) := and_congr_right fun _ => by omega
          simp only [k1, k2]
    · rw [hfg, if_neg (fun e => by injection e; omega), if_neg (fun e => by injection e; omega)]
      exact hr.more x y hx hy hxy
  · have hb : (!(tget t (a, (all : Int) - a)).isSome || (tat t (a, (all : Int) - a)).2) = true := by
      rw [hpf, hfl, decide_eq_false (fun e => ho ((exp_open h a _).1 e))]; rfl
    rw [hb, cond_true]
    refine ⟨hr.old, fun x y hx hy hxy => ?_, hr.more⟩
    rw [hr.now x y hx hy hxy, rwT, rwT]
    have k1 : (OpenP f s (x - 1) y ∧ x - 1 < a) ↔ (OpenP f s (x - 1) y ∧ x - 1 < a + 1) := ⟨fun e => ⟨e.1, by omega⟩, fun e => ⟨e.1, by
      by_cases e2 : x - 1 = a
      · exfalso; apply ho
        have := e.1
        rwa [e2, show y = (all : Int) - a by omega] at this
      · omega⟩⟩
    have k2 : (OpenP f s x (y - 1) ∧ x < a) ↔ (OpenP f s x (y - 1) ∧ x < a + 1) := ⟨fun e => ⟨e.1, by omega⟩, fun e => ⟨e.1, by
      by_cases e2 : x = a
      · exfalso; apply ho
        have := e.1
        rwa [e2, show y - 1 = (all : Int) - a by omega] at this
      · omega⟩⟩
    simp only [k1, k2]
theorem row_ok {f : Fmt} {s : Pr} (h : TieOk f s) {all : Nat} {t : Tb} (h0 : RowOk f s all (loA all) t) : ∀ j, j ≤ cntA all → RowOk f s all (loA all + j) (rowTo f s all t j)
  | 0, _ => by rw [rowTo, show loA all + ((0 : Nat) : Int) = loA all by omega]; exact h0
  | j + 1, hj => by
    have ih := row_ok h h0 j (by omega)
    have := row_step h (a := loA all + j) (by unfold cntA at hj; unfold loA at *; omega) ih
    rw [rowTo, show loA all + ((j + 1 : Nat) : Int) = loA all + j + 1 by omega]
    exact this
theorem tbl_ok {f : Fmt} {s : Pr} (h : TieOk f s) : ∀ K : Nat, RowOk f s K (loA K) (tblTo f s K)
  | 0 => by
    have hf : ∀ q : Pr, flag (tblTo f s 0) q = if q = (0, 0) then some false else none := fun q => by
      unfold flag tblTo
      rw [tget, tget]
      by_cases e : q = (0, 0)
      · rw [if_pos e, if_pos e]; rfl
      · rw [if_neg e, if_neg e]; rfl
    refine ⟨fun a b ha hb hab => ?_, fun a b ha hb hab => ?_, fun a b ha hb hab => ?_⟩
    · rw [hf]
      unfold expT
      by_cases e : a = 0 ∧ b = 0
      · rw [if_pos e, if_pos (by rw [e.1, e.2])]
      · rw [if_neg e, if_neg (fun e' => e (by injection e' with h1 h2; exact ⟨h1, h2⟩)), if_neg, if_neg]
        · unfold OpenP; omega
        · unfold OpenP; omega
    · rw [hf, if_neg (fun e => by injection e; omega), rwT, if_neg, if_neg]
      · unfold OpenP loA; omega
      · unfold OpenP loA; omega
    · rw [hf, if_neg (fun e => by injection e; omega)]
  | K + 1 => by
    have ih := row_ok h (tbl_ok h K) (cntA K) (Nat.le_refl _)
    rw [tblTo]
    refine ⟨fun a b ha hb hab => ?_, fun a b ha hb hab => ?_, fun a b ha hb hab => ?_⟩
    · by_cases e : a + b ≤ (K : Int)
      · exact ih.old a b ha hb e
      · have e0 : ¬ (a = 0 ∧ b = 0) := by omega
        rw [expT, if_neg e0, ih.now a b ha hb (by omega), rwT]
        have k1 : (OpenP f s (a - 1) b ∧ a - 1 < loA K + cntA K) ↔ OpenP f s (a - 1) b := ⟨fun e => e.1, fun e => ⟨e, by unfold OpenP at e; unfold loA cntA loA; omega⟩⟩
        have k2 : (OpenP f s a (b - 1) ∧ a < loA K + cntA K) ↔ OpenP f s a (b - 1) := ⟨fun e => e.1, fun e => ⟨e, by unfold OpenP at e; unfold loA cntA loA; omega⟩⟩
        simp only [k1, k2]
    · rw [ih.more a b ha hb (by omega), rwT, if_neg, if_neg]
      · unfold OpenP loA; omega
      · unfold OpenP loA; omega
    · exact ih.more a b ha hb (by omega)
/-- The table of a set: which games can arise, and at which the set is over. -/
theorem table_flag {f : Fmt} {s : Pr} (h : TieOk f s) {p : Pr} (h1 : p.1 ≤ 41) (h2 : p.2 ≤ 41) : flag (tableV f s) p = expT f s p.1 p.2 :=
  (tbl_ok h 82).old p.1 p.2 h1 h2 (by omega)
end Go.Proofs.Ytacaojifempclaa
