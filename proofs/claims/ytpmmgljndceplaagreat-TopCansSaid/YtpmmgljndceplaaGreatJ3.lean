/- The texts of the walk, part 3. -/
import Derived.Test.YtpmmgljndceplaaGreatJ2
namespace Go.Proofs.YtpmmgljndceplaaGreat
open Go Go.RowKit

def TieOk (f : Fmt) (s : Pr) : Prop := 1 ≤ f.games ∧ (s.1 = -1 ∨ s.1 = 0 ∨ s.1 = f.games - 1 ∨ s.1 = f.games)
theorem tie_ok {f : Fmt} (hf : f.Ok) (won : Pr) : TieOk f (setV f won) := by
 have h1 := hf.g0
 have h2 := hf.t
 have h3 := hf.lt
 unfold setV
 cases decide (won.1 = f.sets - 1) && decide (won.2 = f.sets - 1)
 ·
  exact ⟨h1, h2⟩
 ·
  exact ⟨h1, h3⟩
def OpenP (f : Fmt) (s : Pr) (a b : Int) : Prop := 0 ≤ a ∧ 0 ≤ b ∧ ((a < f.games ∧ b < f.games) ∨ (a - b ≤ 1 ∧ b - a ≤ 1)) ∧ (s.1 < 0 ∨ a < s.1 ∨ b < s.1 ∨ (a = s.1 ∧ b = s.1))
instance (f : Fmt) (s : Pr) (a b : Int) : Decidable (OpenP f s a b) := by unfold OpenP; infer_instance
def EndP (f : Fmt) (s : Pr) (a b : Int) (k : Int) : Bool := brksV s (a, b) || decide (0 ≤ leadsV (addV (a, b) k) f.games 2)
theorem end0 (f : Fmt) (s : Pr) (a b : Int) : EndP f s a b 0 = true ↔ (a = s.1 ∧ b = s.1) ∨ (f.games ≤ a + 1 ∧ 2 ≤ a + 1 - b) ∨ (f.games ≤ b ∧ 2 ≤ b - (a + 1)) := by
 unfold EndP brksV leadsV addV
 simp only [decide_true, cond_true, Bool.or_eq_true, Bool.and_eq_true, decide_eq_true_eq]
 by_cases h1 : f.games ≤ a + 1 ∧ 2 ≤ a + 1 - b
 ·
  simp [h1.1, h1.2]
 ·
  have e1 : (decide (f.games ≤ a + 1) && decide (2 ≤ a + 1 - b)) = false := by simpa using h1
  rw [e1]
  by_cases h2 : f.games ≤ b ∧ 2 ≤ b - (a + 1)
  ·
   simp [h2.1, h2.2]
  ·
   have e2 : (decide (f.games ≤ b) && decide (2 ≤ b - (a + 1))) = false := by simpa using h2
   rw [e2]
   simp; omega
theorem end1 (f : Fmt) (s : Pr) (a b : Int) : EndP f s a b 1 = true ↔ (a = s.1 ∧ b = s.1) ∨ (f.games ≤ a ∧ 2 ≤ a - (b + 1)) ∨ (f.games ≤ b + 1 ∧ 2 ≤ b + 1 - a) := by
 unfold EndP brksV leadsV addV
 rw [show decide ((1 : Int) = 0) = false from rfl]
 simp only [cond_false, Bool.or_eq_true, Bool.and_eq_true, decide_eq_true_eq]
 by_cases h1 : f.games ≤ a ∧ 2 ≤ a - (b + 1)
 ·
  simp [h1.1, h1.2]
 ·
  have e1 : (decide (f.games ≤ a) && decide (2 ≤ a - (b + 1))) = false := by simpa using h1
  rw [e1]
  by_cases h2 : f.games ≤ b + 1 ∧ 2 ≤ b + 1 - a
  ·
   simp [h2.1, h2.2]
  ·
   have e2 : (decide (f.games ≤ b + 1) && decide (2 ≤ b + 1 - a)) = false := by simpa using h2
   rw [e2]
   simp; omega
theorem end0_no (f : Fmt) (s : Pr) (a b : Int) : EndP f s a b 0 = false ↔ ¬ ((a = s.1 ∧ b = s.1) ∨ (f.games ≤ a + 1 ∧ 2 ≤ a + 1 - b) ∨ (f.games ≤ b ∧ 2 ≤ b - (a + 1))) := by
 rw [← end0, Bool.not_eq_true]
theorem end1_no (f : Fmt) (s : Pr) (a b : Int) : EndP f s a b 1 = false ↔ ¬ ((a = s.1 ∧ b = s.1) ∨ (f.games ≤ a ∧ 2 ≤ a - (b + 1)) ∨ (f.games ≤ b + 1 ∧ 2 ≤ b + 1 - a)) := by
 rw [← end1, Bool.not_eq_true]
def expT (f : Fmt) (s : Pr) (a b : Int) : Option Bool :=
 if a = 0 ∧ b = 0 then some false else if OpenP f s (a - 1) b then some (EndP f s (a - 1) b 0) else if OpenP f s a (b - 1) then some (EndP f s a (b - 1) 1) else none
section
variable {f : Fmt} {s : Pr}
theorem ends_agree (h : TieOk f s) {a b : Int} (h1 : OpenP f s (a - 1) b) (h2 : OpenP f s a (b - 1)) : EndP f s (a - 1) b 0 = EndP f s a (b - 1) 1 := by
 rw [Bool.eq_iff_iff, end0, end1]
 unfold OpenP at h1 h2
 unfold TieOk at h
 omega
theorem open_end (h : TieOk f s) {a b : Int} (h1 : OpenP f s a b) : (a = 0 ∧ b = 0) ∨ (OpenP f s (a - 1) b ∧ EndP f s (a - 1) b 0 = false) ∨ (¬ OpenP f s (a - 1) b ∧ OpenP f s a (b - 1) ∧ EndP f s a (b - 1) 1 = false) := by
 rw [end0_no, end1_no]
 unfold OpenP at *
 unfold TieOk at h
 omega
theorem exp_open (h : TieOk f s) (a b : Int) : expT f s a b = some false ↔ OpenP f s a b := by
 constructor
 ·
  intro he
  unfold expT at he
  by_cases h0 : a = 0 ∧ b = 0
  ·
   unfold OpenP TieOk at *; omega
  ·
   rw [if_neg h0] at he
   by_cases h1 : OpenP f s (a - 1) b
   ·
    rw [if_pos h1] at he
    have := (end0_no f s (a - 1) b).1 (Option.some.inj he)
    unfold OpenP TieOk at *; omega
   ·
    rw [if_neg h1] at he
    by_cases h2 : OpenP f s a (b - 1)
    ·
     rw [if_pos h2] at he
     have := (end1_no f s a (b - 1)).1 (Option.some.inj he)
     unfold OpenP TieOk at *; omega
    ·
     rw [if_neg h2] at he; cases he
 ·
  intro ho
  unfold expT
  rcases open_end h ho with h0 | ⟨h1, h2⟩ | ⟨h1, h2, h3⟩
  ·
   rw [if_pos h0]
  ·
   by_cases h0 : a = 0 ∧ b = 0
   ·
    rw [if_pos h0]
   ·
    rw [if_neg h0, if_pos h1, h2]
  ·
   by_cases h0 : a = 0 ∧ b = 0
   ·
    rw [if_pos h0]
   ·
    rw [if_neg h0, if_neg h1, if_pos h2, h3]
end
theorem tgetU_put : ∀ (t : Tb) (p : Pr) (v : Stn) (q : Pr), tget (tput t p v) q = if q = p then some v else tget t q
 | [], p, v, q => rfl
 | e :: t, p, v, q => by
  rw [tput]
  by_cases h : p = e.1
  ·
   rw [if_pos h, tget, tget]
   by_cases hq : q = p
   ·
    rw [if_pos hq, if_pos hq]
   ·
    rw [if_neg hq, if_neg hq, if_neg (fun e' => hq (e'.trans h.symm))]
  ·
   rw [if_neg h, tget, tget, tgetU_put t p v q]
   by_cases hq : q = e.1
   ·
    rw [if_pos hq, if_pos hq, if_neg (fun e' => h (e'.symm.trans hq))]
   ·
    rw [if_neg hq, if_neg hq]
def rwT (f : Fmt) (s : Pr) (x a b : Int) : Option Bool :=
 if OpenP f s (a - 1) b ∧ a - 1 < x then some (EndP f s (a - 1) b 0) else if OpenP f s a (b - 1) ∧ a < x then some (EndP f s a (b - 1) 1) else none
def flag (t : Tb) (p : Pr) : Option Bool := (tget t p).map (·.2)
theorem flag_put (t : Tb) (p : Pr) (v : Stn) (q : Pr) : flag (tput t p v) q = if q = p then some v.2 else flag t q := by
 unfold flag
 rw [tgetU_put]
 by_cases h : q = p
 ·
  rw [if_pos h, if_pos h]; rfl
 ·
  rw [if_neg h, if_neg h]
structure RowOk (f : Fmt) (s : Pr) (all : Nat) (x : Int) (t : Tb) : Prop where
 old : ∀ a b : Int, a ≤ 41 → b ≤ 41 → a + b ≤ all → flag t (a, b) = expT f s a b
 now : ∀ a b : Int, a ≤ 41 → b ≤ 41 → a + b = all + 1 → flag t (a, b) = rwT f s x a b
 more : ∀ a b : Int, a ≤ 41 → b ≤ 41 → (all : Int) + 1 < a + b → flag t (a, b) = none
theorem pair_flag (p : Pr) (t : Tb) : (!(tget t p).isSome || (tat t p).2) = !decide (flag t p = some false) := by
 unfold flag tat
 cases tget t p with
 | none => rfl
 | some v =>
  obtain ⟨n, b⟩ := v
  cases b <;> simp
theorem rowU_step {f : Fmt} {s : Pr} (h : TieOk f s) {all : Nat} {t : Tb} {a : Int} (ha : a ≤ 41 ∧ (all : Int) - a ≤ 41) (hr : RowOk f s all a t) : RowOk f s all (a + 1) (pairT f s (a, (all : Int) - a) t) := by
 have hfl := hr.old a (all - a) (by omega) (by omega) (by omega)
 have hpf := pair_flag (a, (all : Int) - a) t
 unfold pairT
 by_cases ho : OpenP f s a (all - a)
 ·
  have hb : (!(tget t (a, (all : Int) - a)).isSome || (tat t (a, (all : Int) - a)).2) = false := by
   rw [hpf, hfl, decide_eq_true ((exp_open h a _).2 ho)]; rfl
  rw [hb, cond_false]
  have e0 : addV (a, (all : Int) - a) ((0 : Nat) : Int) = (a + 1, (all : Int) - a) := rfl
  have e1 : addV (a, (all : Int) - a) ((1 : Nat) : Int) = (a, (all : Int) - a + 1) := rfl
  have hfg : ∀ q : Pr, flag (sideTo f s (a, (all : Int) - a) (tat t (a, (all : Int) - a)) t 2) q = if q = (a, (all : Int) - a + 1) then some (EndP f s a (all - a) 1) else if q = (a + 1, (all : Int) - a) then some (EndP f s a (all - a) 0) else flag t q := fun q => by
   rw [sideTo, flag_put, e1, sideTo, flag_put, e0, sideTo]
   rfl
  refine ⟨fun x y hx hy hxy => ?_, fun x y hx hy hxy => ?_, fun x y hx hy hxy => ?_⟩
  ·
   rw [hfg, if_neg (fun e => by injection e; omega), if_neg (fun e => by injection e; omega)]
   exact hr.old x y hx hy hxy
  ·
   rw [hfg]
   by_cases h1 : x = a
   ·
    obtain rfl : y = (all : Int) - a + 1 := by omega
    subst h1
    rw [if_pos rfl, rwT]
    by_cases hA : OpenP f s (x - 1) ((all : Int) - x + 1)
    ·
     rw [if_pos ⟨hA, by omega⟩, ends_agree h hA (by rw [Int.add_sub_cancel]; exact ho), Int.add_sub_cancel]
    ·
     rw [if_neg (fun e => hA e.1), if_pos ⟨by rw [Int.add_sub_cancel]; exact ho, by omega⟩, Int.add_sub_cancel]
   ·
    rw [if_neg (fun e => h1 (by injection e))]
    by_cases h2 : x = a + 1
    ·
     obtain rfl : y = (all : Int) - a := by omega
     subst h2
     rw [if_pos rfl, rwT, Int.add_sub_cancel, if_pos ⟨ho, by omega⟩]
    ·
     rw [if_neg (fun e => h2 (by injection e)), hr.now x y hx hy hxy, rwT, rwT]
     have k1 : (OpenP f s (x - 1) y ∧ x - 1 < a) ↔ (OpenP f s (x - 1) y ∧ x - 1 < a + 1) := and_congr_right fun _ => by omega
     have k2 : (OpenP f s x (y - 1) ∧ x < a) ↔ (OpenP f s x (y - 1) ∧ x < a + 1) := and_congr_right fun _ => by omega
     simp only [k1, k2]
  ·
   rw [hfg, if_neg (fun e => by injection e; omega), if_neg (fun e => by injection e; omega)]
   exact hr.more x y hx hy hxy
 ·
  have hb : (!(tget t (a, (all : Int) - a)).isSome || (tat t (a, (all : Int) - a)).2) = true := by
   rw [hpf, hfl, decide_eq_false (fun e => ho ((exp_open h a _).1 e))]; rfl
  rw [hb, cond_true]
  refine ⟨hr.old, fun x y hx hy hxy => ?_, hr.more⟩
  rw [hr.now x y hx hy hxy, rwT, rwT]
  have k1 : (OpenP f s (x - 1) y ∧ x - 1 < a) ↔ (OpenP f s (x - 1) y ∧ x - 1 < a + 1) := ⟨fun e => ⟨e.1, by omega⟩, fun e => ⟨e.1, by
   by_cases e2 : x - 1 = a
   ·
    exfalso; apply ho
    have := e.1
    rwa [e2, show y = (all : Int) - a by omega] at this
   ·
    omega⟩⟩
  have k2 : (OpenP f s x (y - 1) ∧ x < a) ↔ (OpenP f s x (y - 1) ∧ x < a + 1) := ⟨fun e => ⟨e.1, by omega⟩, fun e => ⟨e.1, by
   by_cases e2 : x = a
   ·
    exfalso; apply ho
    have := e.1
    rwa [e2, show y - 1 = (all : Int) - a by omega] at this
   ·
    omega⟩⟩
  simp only [k1, k2]
theorem rowU_ok {f : Fmt} {s : Pr} (h : TieOk f s) {all : Nat} {t : Tb} (h0 : RowOk f s all (loA all) t) : ∀ j, j ≤ cntA all → RowOk f s all (loA all + j) (rowTo f s all t j)
 | 0, _ => by rw [rowTo, show loA all + ((0 : Nat) : Int) = loA all by omega]; exact h0
 | j + 1, hj => by
  have ih := rowU_ok h h0 j (by omega)
  have := rowU_step h (a := loA all + j) (by unfold cntA at hj; unfold loA at *; omega) ih
  rw [rowTo, show loA all + ((j + 1 : Nat) : Int) = loA all + j + 1 by omega]
  exact this
theorem tbl_ok {f : Fmt} {s : Pr} (h : TieOk f s) : ∀ K : Nat, RowOk f s K (loA K) (tblTo f s K)
 | 0 => by
  have hf : ∀ q : Pr, flag (tblTo f s 0) q = if q = (0, 0) then some false else none := fun q => by
   unfold flag tblTo
   rw [tget, tget]
   by_cases e : q = (0, 0)
   ·
    rw [if_pos e, if_pos e]; rfl
   ·
    rw [if_neg e, if_neg e]; rfl
  refine ⟨fun a b ha hb hab => ?_, fun a b ha hb hab => ?_, fun a b ha hb hab => ?_⟩
  ·
   rw [hf]
   unfold expT
   by_cases e : a = 0 ∧ b = 0
   ·
    rw [if_pos e, if_pos (by rw [e.1, e.2])]
   ·
    rw [if_neg e, if_neg (fun e' => e (by injection e' with h1 h2; exact ⟨h1, h2⟩)), if_neg, if_neg]
    ·
     unfold OpenP; omega
    ·
     unfold OpenP; omega
  ·
   rw [hf, if_neg (fun e => by injection e; omega), rwT, if_neg, if_neg]
   ·
    unfold OpenP loA; omega
   ·
    unfold OpenP loA; omega
  ·
   rw [hf, if_neg (fun e => by injection e; omega)]
 | K + 1 => by
  have ih := rowU_ok h (tbl_ok h K) (cntA K) (Nat.le_refl _)
  rw [tblTo]
  refine ⟨fun a b ha hb hab => ?_, fun a b ha hb hab => ?_, fun a b ha hb hab => ?_⟩
  ·
   by_cases e : a + b ≤ (K : Int)
   ·
    exact ih.old a b ha hb e
   ·
    have e0 : ¬ (a = 0 ∧ b = 0) := by omega
    rw [expT, if_neg e0, ih.now a b ha hb (by omega), rwT]
    have k1 : (OpenP f s (a - 1) b ∧ a - 1 < loA K + cntA K) ↔ OpenP f s (a - 1) b := ⟨fun e => e.1, fun e => ⟨e, by unfold OpenP at e; unfold loA cntA loA; omega⟩⟩
    have k2 : (OpenP f s a (b - 1) ∧ a < loA K + cntA K) ↔ OpenP f s a (b - 1) := ⟨fun e => e.1, fun e => ⟨e, by unfold OpenP at e; unfold loA cntA loA; omega⟩⟩
    simp only [k1, k2]
  ·
   rw [ih.more a b ha hb (by omega), rwT, if_neg, if_neg]
   ·
    unfold OpenP loA; omega
   ·
    unfold OpenP loA; omega
  ·
   exact ih.more a b ha hb (by omega)
theorem table_flag {f : Fmt} {s : Pr} (h : TieOk f s) {p : Pr} (h1 : p.1 ≤ 41) (h2 : p.2 ≤ 41) : flag (tableV f s) p = expT f s p.1 p.2 :=
 (tbl_ok h 82).old p.1 p.2 h1 h2 (by omega)
end Go.Proofs.YtpmmgljndceplaaGreat

namespace Go.Proofs.YtpmmgljndceplaaGreat
open Go Go.RowKit

def gcost (s : Pr) (a b : Int) : Int := bif brksV s (a, b) then max s.2 2 else 4
def EO (f : Fmt) (s : Pr) (a b : Int) : Bool := brksV s (a, b) || (decide (f.games ≤ a + 1) && decide (2 ≤ a + 1 - b))
def trG (f : Fmt) (s : Pr) (far lim W L : Int) : Nat → Int → Int → Int
 | 0, _, _ => far
 | n + 1, a, b => if lim ≤ a ∨ lim ≤ b then far else min far (gcost s a b + min (bif EO f s a b then W else trG f s far lim W L n (a + 1) b) (bif EO f s b a then L else trG f s far lim W L n a (b + 1)))
section
variable {f : Fmt} {s : Pr}
theorem open_swap {a b : Int} (h : OpenP f s a b) : OpenP f s b a := by unfold OpenP at *; omega
theorem end_swap' (a b : Int) : EndP f s b a 0 = EndP f s a b 1 := by
 rw [Bool.eq_iff_iff, end0, end1]; omega
theorem open_next (ht : TieOk f s) {a b : Int} (h : OpenP f s a b) (he : EndP f s a b 0 = false) : OpenP f s (a + 1) b := by
 rw [end0_no] at he
 unfold OpenP TieOk at *; omega
theorem open_next' (ht : TieOk f s) {a b : Int} (h : OpenP f s a b) (he : EndP f s a b 1 = false) : OpenP f s a (b + 1) :=
 open_swap (open_next ht (open_swap h) (by rw [end_swap']; exact he))
theorem eo_is (ht : TieOk f s) {a b : Int} (h : OpenP f s a b) : EO f s a b = EndP f s a b 0 := by
 rw [Bool.eq_iff_iff, end0, EO, brksV, Bool.or_eq_true, Bool.and_eq_true, Bool.and_eq_true, decide_eq_true_eq, decide_eq_true_eq, decide_eq_true_eq, decide_eq_true_eq]
 unfold OpenP TieOk at *; omega
theorem eo_is' (ht : TieOk f s) {a b : Int} (h : OpenP f s a b) : EO f s b a = EndP f s a b 1 := by
 rw [eo_is ht (open_swap h), end_swap']
variable {far lim W L : Int}
end
theorem open0 {f : Fmt} {s : Pr} (ht : TieOk f s) : OpenP f s 0 0 := by unfold OpenP TieOk at *; omega
section
variable {f : Fmt}
end
end Go.Proofs.YtpmmgljndceplaaGreat

namespace Go.Proofs.YtpmmgljndceplaaGreat
open Go Go.RowKit

def lst (s : Pr) (tie : Bool) : Int := bif tie then s.2 else 4
def byG (f : Fmt) (tie : Bool) : Int := bif tie then 2 else bif f.noAd then 1 else 2
theorem game_is (f : Fmt) (s : Pr) (tie : Bool) (p : Pr) : gameV f s tie p = leadsV p (lst s tie) (byG f tie) := by
 unfold gameV lst byG
 cases tie
 ·
  cases f.noAd <;> rfl
 ·
  rfl
def ownP (side : Int) (p : Pr) : Pr := bif decide (side = 0) then p else (p.2, p.1)
theorem own0 (p : Pr) : ownP 0 p = p := rfl
theorem own1 (p : Pr) : ownP 1 p = (p.2, p.1) := rfl
section
variable {f : Fmt} {side : Int}
theorem isZ_iff (p : Pr) : isZ p = true ↔ p = (0, 0) := by
 unfold isZ
 rw [decide_eq_true_eq]
 obtain ⟨a, b⟩ := p
 simp
end
end Go.Proofs.YtpmmgljndceplaaGreat

namespace Go.Proofs.YtpmmgljndceplaaGreat
open Go Go.RowKit

section
variable {f : Fmt} {side : Int}
end
end Go.Proofs.YtpmmgljndceplaaGreat

namespace Go.Proofs.YtpmmgljndceplaaGreat
open Go Go.RowKit

def Did (sum a k x y side : Int) : Prop := x + y < sum ∨ (x + y = sum ∧ (x < a ∨ (x = a ∧ side < k)))
def posT (f : Fmt) (s : Pr) (sum a k i j : Int) : Prop := (i = 0 ∧ j = 0) ∨ (OpenP f s (i - 1) j ∧ EndP f s (i - 1) j 0 = false ∧ Did sum a k (i - 1) j 0) ∨ (OpenP f s i (j - 1) ∧ EndP f s i (j - 1) 1 = false ∧ Did sum a k i (j - 1) 1)
def posU (f : Fmt) (s : Pr) (sum a k i j : Int) : Prop := (OpenP f s (i - 1) j ∧ EndP f s (i - 1) j 0 = true ∧ Did sum a k (i - 1) j 0) ∨ (OpenP f s i (j - 1) ∧ EndP f s i (j - 1) 1 = true ∧ Did sum a k i (j - 1) 1)
def MW : Int := 1000000000001
structure OrdI (f : Fmt) (s : Pr) (sum a k : Int) (T U : List MR) : Prop where
 t : ∀ i j : Nat, i < 45 → j < 45 → (0 ≤ gv T i j ∧ gv T i j ≤ MW) ∧ (0 < gv T i j ↔ posT f s sum a k i j)
 u : ∀ i j : Nat, i < 45 → j < 45 → (0 ≤ gv U i j ∧ gv U i j ≤ MW) ∧ (0 < gv U i j ↔ posU f s sum a k i j)
section
variable {f : Fmt} {s : Pr}
theorem open_of_prev (h : TieOk f s) {a b : Int} (ho : OpenP f s (a - 1) b) (he : EndP f s (a - 1) b 0 = false) : OpenP f s a b := by
 have := open_next h ho he
 rwa [Int.sub_add_cancel] at this
theorem open_of_prev' (h : TieOk f s) {a b : Int} (ho : OpenP f s a (b - 1)) (he : EndP f s a (b - 1) 1 = false) : OpenP f s a b := by
 have := open_next' h ho he
 rwa [Int.sub_add_cancel] at this
theorem pos_open (h : TieOk f s) {sum a k x y : Int} (hxy : x + y ≤ sum) : posT f s sum a k x y ↔ OpenP f s x y := by
 constructor
 ·
  rintro (⟨rfl, rfl⟩ | ⟨h1, h2, _⟩ | ⟨h1, h2, _⟩)
  ·
   exact open0 h
  ·
   exact open_of_prev h h1 h2
  ·
   exact open_of_prev' h h1 h2
 ·
  intro ho
  rcases open_end h ho with h0 | ⟨h1, h2⟩ | ⟨_, h2, h3⟩
  ·
   exact .inl h0
  ·
   exact .inr (.inl ⟨h1, h2, .inl (by omega)⟩)
  ·
   exact .inr (.inr ⟨h2, h3, .inl (by omega)⟩)
theorem OrdI.weak {sum a k sum' a' k' : Int} {T U : List MR} (h : OrdI f s sum a k T U) (hd : ∀ x y side : Int, OpenP f s x y → (0 ≤ x ∧ x ≤ 44 ∧ 0 ≤ y ∧ y ≤ 44) → side = 0 ∨ side = 1 → (side = 0 → x ≤ 43) → (side = 1 → y ≤ 43) → (Did sum a k x y side ↔ Did sum' a' k' x y side)) : OrdI f s sum' a' k' T U := by
 refine ⟨fun i j hi hj => ⟨(h.t i j hi hj).1, (h.t i j hi hj).2.trans ?_⟩, fun i j hi hj => ⟨(h.u i j hi hj).1, (h.u i j hi hj).2.trans ?_⟩⟩
 ·
  refine or_congr Iff.rfl (or_congr (and_congr_right fun h1 => and_congr_right fun _ => ?_) (and_congr_right fun h1 => and_congr_right fun _ => ?_))
  ·
   have := h1; unfold OpenP at this; exact hd _ _ _ h1 (by omega) (.inl rfl) (by omega) (by omega)
  ·
   have := h1; unfold OpenP at this; exact hd _ _ _ h1 (by omega) (.inr rfl) (by omega) (by omega)
 ·
  refine or_congr (and_congr_right fun h1 => and_congr_right fun _ => ?_) (and_congr_right fun h1 => and_congr_right fun _ => ?_)
  ·
   have := h1; unfold OpenP at this; exact hd _ _ _ h1 (by omega) (.inl rfl) (by omega) (by omega)
  ·
   have := h1; unfold OpenP at this; exact hd _ _ _ h1 (by omega) (.inr rfl) (by omega) (by omega)
theorem ord_pair {sum a k : Int} {T U : List MR} (h : OrdI f s sum a k T U) (hk : 2 ≤ k ∨ ¬ OpenP f s a (sum - a)) (hk0 : 0 ≤ k) : OrdI f s sum (a + 1) 0 T U :=
 h.weak fun x y side ho hb hs _ _ => by
  rcases hk with hk | hk
  ·
   unfold Did; omega
  ·
   by_cases e : x = a ∧ y = sum - a
   ·
    exact absurd (by rw [← e.1, ← show y = sum - x by omega]; exact ho) hk
   ·
    unfold Did; omega
theorem ord_out {sum a k : Int} {T U : List MR} (h : OrdI f s sum a k T U) (hk : (k = 0 ∧ 44 ≤ a) ∨ (k = 1 ∧ 44 ≤ sum - a)) : OrdI f s sum a (k + 1) T U :=
 h.weak fun x y side ho hb hs h0 h1 => by unfold Did; omega
theorem ord_row {sum a : Int} {T U : List MR} (h : OrdI f s sum a 0 T U) (ha : min sum 44 < a) : OrdI f s (sum + 1) (max 0 (sum + 1 - 44)) 0 T U :=
 h.weak fun x y side ho hb hs h0 h1 => by unfold Did; omega
theorem did_next (sum a k x y side : Int) : Did sum a (k + 1) x y side ↔ Did sum a k x y side ∨ (x + y = sum ∧ x = a ∧ side = k) := by
 unfold Did; omega
def Tgt (sum a k i j : Int) : Prop := (k = 0 ∧ i = a + 1 ∧ j = sum - a) ∨ (k = 1 ∧ i = a ∧ j = sum - a + 1)
theorem next_aux {b : Bool} {sum a k i j : Int} (ho : OpenP f s a (sum - a)) :
  ((OpenP f s (i - 1) j ∧ EndP f s (i - 1) j 0 = b ∧ Did sum a (k + 1) (i - 1) j 0) ∨ (OpenP f s i (j - 1) ∧ EndP f s i (j - 1) 1 = b ∧ Did sum a (k + 1) i (j - 1) 1)) ↔
  ((OpenP f s (i - 1) j ∧ EndP f s (i - 1) j 0 = b ∧ Did sum a k (i - 1) j 0) ∨ (OpenP f s i (j - 1) ∧ EndP f s i (j - 1) 1 = b ∧ Did sum a k i (j - 1) 1)) ∨ (EndP f s a (sum - a) k = b ∧ Tgt sum a k i j) := by
 rw [did_next, did_next]
 constructor
 ·
  rintro (⟨h1, h2, h3 | ⟨e1, e2, e3⟩⟩ | ⟨h1, h2, h3 | ⟨e1, e2, e3⟩⟩)
  ·
   exact .inl (.inl ⟨h1, h2, h3⟩)
  ·
   subst e3
   obtain rfl : j = sum - a := by omega
   rw [e2] at h2
   exact .inr ⟨h2, .inl ⟨rfl, by omega, rfl⟩⟩
  ·
   exact .inl (.inr ⟨h1, h2, h3⟩)
  ·
   subst e3 e2
   rw [show j - 1 = sum - i by omega] at h2
   exact .inr ⟨h2, .inr ⟨rfl, rfl, by omega⟩⟩
 ·
  rintro ((⟨h1, h2, h3⟩ | ⟨h1, h2, h3⟩) | ⟨h1, (⟨rfl, rfl, rfl⟩ | ⟨rfl, rfl, rfl⟩)⟩)
  ·
   exact .inl ⟨h1, h2, .inl h3⟩
  ·
   exact .inr ⟨h1, h2, .inl h3⟩
  ·
   exact .inl ⟨by rw [Int.add_sub_cancel]; exact ho, by rw [Int.add_sub_cancel]; exact h1, .inr ⟨by omega, by omega, rfl⟩⟩
  ·
   exact .inr ⟨by rw [Int.add_sub_cancel]; exact ho, by rw [Int.add_sub_cancel]; exact h1, .inr ⟨by omega, rfl, rfl⟩⟩
theorem posU_next {sum a k i j : Int} (ho : OpenP f s a (sum - a)) : posU f s sum a (k + 1) i j ↔ posU f s sum a k i j ∨ (EndP f s a (sum - a) k = true ∧ Tgt sum a k i j) := next_aux ho
theorem posT_next {sum a k i j : Int} (ho : OpenP f s a (sum - a)) : posT f s sum a (k + 1) i j ↔ posT f s sum a k i j ∨ (EndP f s a (sum - a) k = false ∧ Tgt sum a k i j) := by
 unfold posT
 rw [next_aux ho]
 simp only [or_assoc]
theorem tgt_uniq {sum a k : Int} {i j x y : Nat} (h : Tgt sum a k i j) : Tgt sum a k x y ↔ x = i ∧ y = j := by
 unfold Tgt at *; omega
theorem ord_U {sum a k v : Int} {T U U' : List MR} (h : OrdI f s sum a k T U) {i j : Nat} (hk : Tgt sum a k i j) (ho : OpenP f s a (sum - a)) (he : EndP f s a (sum - a) k = true) (hv : 0 < v ∧ v ≤ MW)
  (hU : ∀ x y : Nat, gv U' x y = if x = i ∧ y = j then v else gv U x y) : OrdI f s sum a (k + 1) T U' := by
 refine ⟨fun x y hx hy => ⟨(h.t x y hx hy).1, (h.t x y hx hy).2.trans ?_⟩, fun x y hx hy => ?_⟩
 ·
  rw [posT_next ho, he]
  exact ⟨.inl, fun e => e.resolve_right fun e => by cases e.1⟩
 ·
  rw [hU, posU_next ho]
  have hu := h.u x y hx hy
  by_cases e : x = i ∧ y = j
  ·
   rw [if_pos e]
   exact ⟨by omega, fun _ => .inr ⟨he, (tgt_uniq hk).2 e⟩, fun _ => hv.1⟩
  ·
   rw [if_neg e]
   exact ⟨hu.1, fun e1 => .inl (hu.2.1 e1), fun e1 => hu.2.2 (e1.resolve_right fun e2 => e ((tgt_uniq hk).1 e2.2))⟩
theorem ord_T {sum a k v : Int} {T U T' : List MR} (h : OrdI f s sum a k T U) {i j : Nat} (hk : Tgt sum a k i j) (ho : OpenP f s a (sum - a)) (he : EndP f s a (sum - a) k = false) (hv : 0 < v ∧ v ≤ MW)
  (hT : ∀ x y : Nat, gv T' x y = if x = i ∧ y = j then v else gv T x y) : OrdI f s sum a (k + 1) T' U := by
 refine ⟨fun x y hx hy => ?_, fun x y hx hy => ⟨(h.u x y hx hy).1, (h.u x y hx hy).2.trans ?_⟩⟩
 ·
  rw [hT, posT_next ho]
  have hu := h.t x y hx hy
  by_cases e : x = i ∧ y = j
  ·
   rw [if_pos e]
   exact ⟨by omega, fun _ => .inr ⟨he, (tgt_uniq hk).2 e⟩, fun _ => hv.1⟩
  ·
   rw [if_neg e]
   exact ⟨hu.1, fun e1 => .inl (hu.2.1 e1), fun e1 => hu.2.2 (e1.resolve_right fun e2 => e ((tgt_uniq hk).1 e2.2))⟩
 ·
  rw [posU_next ho, he]
  exact ⟨.inl, fun e => e.resolve_right fun e => by cases e.1⟩
theorem ord_init {T U : List MR} (hT : ∀ i j : Nat, i < 45 → j < 45 → gv T i j = if i = 0 ∧ j = 0 then 1 else 0) (hU : ∀ i j : Nat, i < 45 → j < 45 → gv U i j = 0) : OrdI f s 0 0 0 T U := by
 have hn : ∀ x y side : Int, OpenP f s x y → side = 0 ∨ side = 1 → ¬ Did 0 0 0 x y side := fun x y side ho hs => by unfold OpenP at ho; unfold Did; omega
 refine ⟨fun i j hi hj => ?_, fun i j hi hj => ?_⟩
 ·
  rw [hT i j hi hj]
  by_cases e : i = 0 ∧ j = 0
  ·
   rw [if_pos e]
   exact ⟨by decide, fun _ => .inl (by omega), fun _ => by decide⟩
  ·
   rw [if_neg e]
   refine ⟨by decide, fun h => absurd h (by decide), ?_⟩
   rintro (h | ⟨h1, _, h3⟩ | ⟨h1, _, h3⟩)
   ·
    omega
   ·
    exact absurd h3 (hn _ _ _ h1 (.inl rfl))
   ·
    exact absurd h3 (hn _ _ _ h1 (.inr rfl))
 ·
  rw [hU i j hi hj]
  refine ⟨by decide, fun h => absurd h (by decide), ?_⟩
  rintro (⟨h1, _, h3⟩ | ⟨h1, _, h3⟩)
  ·
   exact absurd h3 (hn _ _ _ h1 (.inl rfl))
  ·
   exact absurd h3 (hn _ _ _ h1 (.inr rfl))
theorem ord_end (ht : TieOk f s) {a k : Int} {T U : List MR} (h : OrdI f s 88 a k T U) : ∀ i j : Nat, i < 45 → j < 45 → (0 < gv T i j ↔ expT f s i j = some false) ∧ (gv U i j = 0 ↔ ¬ expT f s i j = some true) := fun i j hi hj => by
 have h1 := h.t i j hi hj
 have h2 := h.u i j hi hj
 refine ⟨?_, ?_⟩
 ·
  rw [exp_open ht, h1.2, pos_open ht (by omega)]
 ·
  have hz : gv U i j = 0 ↔ ¬ 0 < gv U i j := by omega
  rw [hz, h2.2, not_congr]
  have hd : ∀ x y side : Int, x + y < 88 → Did 88 a k x y side := fun x y side h => .inl h
  constructor
  ·
   rintro (⟨g1, g2, _⟩ | ⟨g1, g2, _⟩)
   ·
    unfold expT
    rw [if_neg (fun e => by unfold OpenP at g1; omega), if_pos g1, g2]
   ·
    unfold expT
    rw [if_neg (fun e => by unfold OpenP at g1; omega)]
    by_cases g : OpenP f s ((i : Int) - 1) j
    ·
     rw [if_pos g, ends_agree ht g g1, g2]
    ·
     rw [if_neg g, if_pos g1, g2]
  ·
   intro he
   unfold expT at he
   by_cases g0 : (i : Int) = 0 ∧ (j : Int) = 0
   ·
    rw [if_pos g0] at he; cases he
   ·
    rw [if_neg g0] at he
    by_cases g : OpenP f s ((i : Int) - 1) j
    ·
     rw [if_pos g] at he
     exact .inl ⟨g, Option.some.inj he, hd _ _ _ (by omega)⟩
    ·
     rw [if_neg g] at he
     by_cases g2 : OpenP f s i ((j : Int) - 1)
     ·
      rw [if_pos g2] at he
      exact .inr ⟨g2, Option.some.inj he, hd _ _ _ (by omega)⟩
     ·
      rw [if_neg g2] at he; cases he
end
end Go.Proofs.YtpmmgljndceplaaGreat

namespace Go.Proofs.YtpmmgljndceplaaGreat
open Go Go.RowKit

instance : DecidableEq Brd := fun a b => by
 cases a; cases b
 simp only [Brd.mk.injEq]
 infer_instance
def exF : Fmt := ⟨2, 2, false, 2, 3, 0, 4, 2, 2, false⟩
def exP : List Int := [0, 0, 0, 0, 1, 1, 1, 1, 0, 0, 0, 0, 0, 0, 0, 0, 1, 1, 1, 1]
theorem C_law1_Example (w : World) : CR Tryz.prog 24 [] w (fun _ : Option Addr × Nat => True) (fun x => .tuple #[exF.val, .slice x.1 20 x.2]) (fun x => [.own x.1 x.2 3 1 20 (encI exP)]) := by
 refine ⟨en Tryz.func24 Tryz.ntmps24 (St.init w) (h := fun F => ?_)⟩
 refine sr ?_
 refine al (h := fun b0 => ?_)
 refine ww ?_
 refine nr ?_
 refine ww ?_
 refine al (h := fun b1 => ?_)
 first | refine stA (h := ?_) | refine stEA (h := ?_)
 refine nr ?_
 refine ww ?_
 refine bs (h := fun b2 => ?_)
 first | refine stA (h := ?_) | refine stEA (h := ?_)
 refine ww ?_
 refine nq ?_
 refine rtn ?_
 refine q_ret (hR := ?_)
 exact fun w hS => ⟨(_, _), trivial, rfl, hS.sub slz_⟩
theorem ex_play : scO (playO exF 0 exP) = ⟨[(3, 1)], (0, 1), (0, 0), 1, 3, 2, -1⟩ := by kernel_rfl
theorem ex_playE : playE exF 0 exP = 0 := by kernel_rfl

def Stable (t : Tb) (k : Int) : Prop := ∀ e ∈ t, k ≤ e.1.1 + e.1.2 → e.2.2 = true
theorem tget_mem {t : Tb} {p : Pr} {v : Stn} (h : tget t p = some v) : (p, v) ∈ t := by
 induction t with
 | nil => simp [tget] at h
 | cons e t ih =>
  rw [tget] at h
  split at h
  ·
   next hp => injection h with h; subst hp h; exact List.mem_cons_self
  ·
   exact List.mem_cons_of_mem _ (ih h)
theorem pair_stable {f : Fmt} {s p : Pr} {t : Tb} {k : Int} (h : Stable t k) (hp : k ≤ p.1 + p.2) : pairT f s p t = t := by
 unfold pairT
 cases hg : tget t p with
 | none => rfl
 | some v =>
  have hv := h _ (tget_mem hg) hp
  simp only at hv
  have : tat t p = v := by rw [tat, hg]; rfl
  rw [this, hv]; simp
theorem row_stable {f : Fmt} {s : Pr} {t : Tb} {k : Int} (h : Stable t k) {all : Nat} (ha : k ≤ all) : ∀ j, rowTo f s all t j = t
 | 0 => rfl
 | j + 1 => by rw [rowTo, row_stable h ha j]; exact pair_stable h (by dsimp only; omega)
theorem tbl_stable {f : Fmt} {s : Pr} {k0 : Nat} (h : Stable (tblTo f s k0) k0) : ∀ k, k0 ≤ k → tblTo f s k = tblTo f s k0
  | 0, hk => by obtain rfl : k0 = 0 := by omega
                rfl
  | k + 1, hk => by
    by_cases e : k0 = k + 1
    · subst e; rfl
    · have ih := tbl_stable h k (by omega)
      rw [tblTo, ih]
      exact row_stable h (by omega) _
def exT : Tb := [((0, 0), (1, false)), ((1, 0), (1, false)), ((0, 1), (1, false)), ((1, 1), (2, false)), ((0, 2), (1, true)), ((2, 0), (1, true)), ((2, 1), (2, false)), ((1, 2), (2, false)), ((2, 2), (4, false)), ((1, 3), (2, true)), ((3, 1), (2, true)), ((3, 2), (4, true)), ((2, 3), (4, true))]
theorem ex_table6 : tblTo exF (2, 3) 6 = exT := by kernel_rfl
theorem ex_table : tableV exF (2, 3) = exT := by
 have h : Stable (tblTo exF (2, 3) 6) ((6 : Nat) : Int) := by
  rw [ex_table6]; unfold Stable exT; decide
 rw [tableV, tbl_stable h 82 (by omega), ex_table6]
theorem ex_arises : arisesV exF ⟨[], (0, 0), (0, 0)⟩ = ((0, 0), true) := by
 have h0 : setsTo (tableV exF) exF (Brd.mk [] (0, 0) (0, 0)).st (Brd.mk [] (0, 0) (0, 0)).st.length = ⟨(0, 0), 1, true⟩ := rfl
 have h2 : setV exF (0, 0) = (2, 3) := by decide
 rw [arisesV, arisesT, h0]
 dsimp only
 rw [h2, ex_table]
 exact (by kernel_rfl : (arisesT (fun _ => exT) exF ⟨[], (0, 0), (0, 0)⟩ = ((0, 0), true)))
end Go.Proofs.YtpmmgljndceplaaGreat

namespace Go.Proofs.YtpmmgljndceplaaGreat
open Go Go.RowKit

theorem C_ref1_within (n lo hi : Int) (w : World) : C0 Tryz.prog 26 [.int .i64 n, .int .i64 lo, .int .i64 hi] w (.bool (wi n lo hi)) := by
 refine ⟨en Tryz.func26 Tryz.ntmps26 (St.init w) (h := fun F => ?_)⟩
 refine sr ?_
 refine ww ?_
 refine nr ?_
 iterate 4 refine ww ?_
 apply brAnd 4 10 14 (by exact rfl)
 ·
  intro hb0
  iterate 3 refine uw ?_
  refine ww ?_
  exact mg (by repeat (first | exact trivial | refine ⟨rfl, ?_⟩ | refine ⟨by rw [hb0]; rfl, ?_⟩)) slz_
 ·
  intro hb0
  repeat (first | refine uz ?_ | refine kz ?_ | refine wz ?_)
  exact mg (by repeat (first | exact trivial | refine ⟨rfl, ?_⟩ | refine ⟨by rw [hb0]; rfl, ?_⟩)) slz_
 refine ww ?_
 refine nq ?_
 refine rtn ?_
 refine q_ret (hR := ?_)
 exact fun w hS => ⟨rfl, hS.sub slz_⟩
theorem C_ref1_isTie (f : Fmt) (n : Int) (hg : 1 ≤ f.games ∧ f.games ≤ 8) (w : World) : C0 Tryz.prog 52 [f.val, .int .i64 n] w (.bool (tieB f n)) := by
 refine ⟨en Tryz.func52 Tryz.ntmps52 (St.init w) (h := fun F => ?_)⟩
 refine sr ?_
 refine bxA (h := fun b0 => ?_)
 refine ww ?_
 refine nr ?_
 iterate 3 refine ww ?_
 apply brOr 3 7 10 (by exact rfl)
 ·
  intro hb0
  iterate 2 refine uw ?_
  refine ww ?_
  exact mg (by repeat (first | exact trivial | refine ⟨rfl, ?_⟩ | refine ⟨by rw [hb0]; rfl, ?_⟩)) slz_
 ·
  intro hb0
  repeat (first | refine uz ?_ | refine kz ?_ | refine wz ?_)
  exact mg (by repeat (first | exact trivial | refine ⟨rfl, ?_⟩ | refine ⟨by rw [hb0]; rfl, ?_⟩)) slz_
 refine ww ?_
 apply brOr 6 11 17 (by exact rfl)
 ·
  intro hb1
  iterate 5 refine uw ?_
  refine ww ?_
  exact mg (by repeat (first | exact trivial | refine ⟨rfl, ?_⟩ | refine ⟨by rw [hb1]; rfl, ?_⟩)) slz_
 ·
  intro hb1
  repeat (first | refine uz ?_ | refine kz ?_ | refine wz ?_)
  exact mg (by repeat (first | exact trivial | refine ⟨rfl, ?_⟩ | refine ⟨by rw [hb1]; rfl, ?_⟩)) slz_
 refine ww ?_
 apply brOr 5 18 23 (by exact rfl)
 ·
  intro hb2
  iterate 4 refine uw ?_
  refine ww ?_
  exact mg (by repeat (first | exact trivial | refine ⟨rfl, ?_⟩ | refine ⟨by rw [hb2]; rfl, ?_⟩)) slz_
 ·
  intro hb2
  repeat (first | refine uz ?_ | refine kz ?_ | refine wz ?_)
  exact mg (by repeat (first | exact trivial | refine ⟨rfl, ?_⟩ | refine ⟨by rw [hb2]; rfl, ?_⟩)) slz_
 refine ww ?_
 refine nq ?_
 refine rtn ?_
 refine q_ret (hR := ?_)
 exact fun w hS => ⟨rfl, hS.sub slz_⟩
theorem refChk (f : Fmt) : (!wi f.sets 1 3 || !wi f.games 1 8 || !tieB f f.tie || !tieB f f.ltie || !wi f.to 1 15 || !wi f.lto 1 15 || !wi f.first 0 20 || !wi f.thn 0 20) = !fmtOk f := by
 simp only [fmtOk, Bool.not_and]
theorem C_ref1_Check (f : Fmt) (w : World) : C0 Tryz.prog 25 [f.val] w (.int .i64 (chkF f)) := by
 refine ⟨en Tryz.func25 Tryz.ntmps25 (St.init w) (h := fun F => ?_)⟩
 refine sr ?_
 refine bxA (h := fun b0 => ?_)
 refine ww ?_
 refine nq ?_
 refine sq ?_
 refine sr ?_
 iterate 2 refine ww ?_
 refine cl0 (hc := fun w hS => C_ref1_within ..) (h := ?_)
 iterate 2 refine ww ?_
 apply brOr 5 7 12 (by exact rfl)
 ·
  intro hb0
  iterate 2 refine uw ?_
  refine uz ?_
  refine cl0 (hc := fun w hS => C_ref1_within ..) (h := ?_)
  refine uw ?_
  refine ww ?_
  exact mg (by repeat (first | exact trivial | refine ⟨rfl, ?_⟩ | refine ⟨by rw [hb0]; rfl, ?_⟩)) slz_
 ·
  intro hb0
  repeat (first | refine uz ?_ | refine kz ?_ | refine wz ?_)
  exact mg (by repeat (first | exact trivial | refine ⟨rfl, ?_⟩ | refine ⟨by rw [hb0]; rfl, ?_⟩)) slz_
 refine ww ?_
 apply brOr 6 13 19 (by exact rfl)
 ·
  intro hb1
  have hg : 1 ≤ f.games ∧ f.games ≤ 8 := by simp only [Bool.or_eq_false_iff, wi_not] at hb1; omega
  iterate 3 refine uw ?_
  refine uz ?_
  refine cl0 (hc := fun w hS => C_ref1_isTie f f.tie hg w) (h := ?_)
  refine uw ?_
  refine ww ?_
  exact mg (by repeat (first | exact trivial | refine ⟨rfl, ?_⟩ | refine ⟨by rw [hb1]; rfl, ?_⟩)) slz_
 ·
  intro hb1
  repeat (first | refine uz ?_ | refine kz ?_ | refine wz ?_)
  exact mg (by repeat (first | exact trivial | refine ⟨rfl, ?_⟩ | refine ⟨by rw [hb1]; rfl, ?_⟩)) slz_
 refine ww ?_
 apply brOr 6 20 26 (by exact rfl)
 ·
  intro hb2
  have hg : 1 ≤ f.games ∧ f.games ≤ 8 := by simp only [Bool.or_eq_false_iff, wi_not] at hb2; omega
  iterate 3 refine uw ?_
  refine uz ?_
  refine cl0 (hc := fun w hS => C_ref1_isTie f f.ltie hg w) (h := ?_)
  refine uw ?_
  refine ww ?_
  exact mg (by repeat (first | exact trivial | refine ⟨rfl, ?_⟩ | refine ⟨by rw [hb2]; rfl, ?_⟩)) slz_
 ·
  intro hb2
  repeat (first | refine uz ?_ | refine kz ?_ | refine wz ?_)
  exact mg (by repeat (first | exact trivial | refine ⟨rfl, ?_⟩ | refine ⟨by rw [hb2]; rfl, ?_⟩)) slz_
 refine ww ?_
 apply brOr 5 27 32 (by exact rfl)
 ·
  intro hb3
  iterate 2 refine uw ?_
  refine uz ?_
  refine cl0 (hc := fun w hS => C_ref1_within ..) (h := ?_)
  refine uw ?_
  refine ww ?_
  exact mg (by repeat (first | exact trivial | refine ⟨rfl, ?_⟩ | refine ⟨by rw [hb3]; rfl, ?_⟩)) slz_
 ·
  intro hb3
  repeat (first | refine uz ?_ | refine kz ?_ | refine wz ?_)
  exact mg (by repeat (first | exact trivial | refine ⟨rfl, ?_⟩ | refine ⟨by rw [hb3]; rfl, ?_⟩)) slz_
 refine ww ?_
 apply brOr 5 33 38 (by exact rfl)
 ·
  intro hb4
  iterate 2 refine uw ?_
  refine uz ?_
  refine cl0 (hc := fun w hS => C_ref1_within ..) (h := ?_)
  refine uw ?_
  refine ww ?_
  exact mg (by repeat (first | exact trivial | refine ⟨rfl, ?_⟩ | refine ⟨by rw [hb4]; rfl, ?_⟩)) slz_
 ·
  intro hb4
  repeat (first | refine uz ?_ | refine kz ?_ | refine wz ?_)
  exact mg (by repeat (first | exact trivial | refine ⟨rfl, ?_⟩ | refine ⟨by rw [hb4]; rfl, ?_⟩)) slz_
 refine ww ?_
 apply brOr 5 39 44 (by exact rfl)
 ·
  intro hb5
  iterate 2 refine uw ?_
  refine uz ?_
  refine cl0 (hc := fun w hS => C_ref1_within ..) (h := ?_)
  refine uw ?_
  refine ww ?_
  exact mg (by repeat (first | exact trivial | refine ⟨rfl, ?_⟩ | refine ⟨by rw [hb5]; rfl, ?_⟩)) slz_
 ·
  intro hb5
  repeat (first | refine uz ?_ | refine kz ?_ | refine wz ?_)
  exact mg (by repeat (first | exact trivial | refine ⟨rfl, ?_⟩ | refine ⟨by rw [hb5]; rfl, ?_⟩)) slz_
 refine ww ?_
 apply brOr 5 45 50 (by exact rfl)
 ·
  intro hb6
  iterate 2 refine uw ?_
  refine uz ?_
  refine cl0 (hc := fun w hS => C_ref1_within ..) (h := ?_)
  refine uw ?_
  refine ww ?_
  exact mg (by repeat (first | exact trivial | refine ⟨rfl, ?_⟩ | refine ⟨by rw [hb6]; rfl, ?_⟩)) slz_
 ·
  intro hb6
  repeat (first | refine uz ?_ | refine kz ?_ | refine wz ?_)
  exact mg (by repeat (first | exact trivial | refine ⟨rfl, ?_⟩ | refine ⟨by rw [hb6]; rfl, ?_⟩)) slz_
 refine nq ?_
 refine czz (fun h7 => ?_) fun h7 => ?_
 ·
  have hb : fmtOk f = false := by rw [refChk] at h7; simpa using h7
  have hc : chkF f = 10 := by rw [chkF, hb]; rfl
  refine sr ?_
  refine ww ?_
  refine nq ?_
  refine rtn ?_
  refine q_then_ret ?_
  refine q_ret (hR := ?_)
  rw [hc]
  exact fun w hS => ⟨rfl, hS.sub slz_⟩
 ·
  have hb : fmtOk f = true := by rw [refChk] at h7; simpa using h7
  have hc : chkF f = 0 := by rw [chkF, hb]; rfl
  refine skp ?_
  refine q_seq ?_
  refine sr ?_
  refine ww ?_
  refine nq ?_
  refine rtn ?_
  refine q_ret (hR := ?_)
  rw [hc]
  exact fun w hS => ⟨rfl, hS.sub slz_⟩
end Go.Proofs.YtpmmgljndceplaaGreat

namespace Go.Proofs.YtpmmgljndceplaaGreat
open Go Go.RowKit

def leadsR (p : Pr) (l : Int) : Int := bif decide (l ≤ p.1) && decide (p.2 + 2 ≤ p.1) then 0 else bif decide (l ≤ p.2) && decide (p.1 + 2 ≤ p.2) then 1 else -1
theorem leadsR_eq (p : Pr) (l : Int) : leadsR p l = leadsV p l 2 := by
 unfold leadsR leadsV
 rw [show decide (p.2 + 2 ≤ p.1) = decide ((2 : Int) ≤ p.1 - p.2) from decide_eq_decide.2 (by omega), show decide (p.1 + 2 ≤ p.2) = decide ((2 : Int) ≤ p.2 - p.1) from decide_eq_decide.2 (by omega)]
theorem C_ref1_leads' (p : Pr) (l : Int) (hp : Sm p) (w : World) : C0 Tryz.prog 57 [pv p, .int .i64 l] w (.int .i64 (leadsR p l)) := by
 obtain ⟨⟨h1, h2⟩, h3, h4⟩ := hp
 refine ⟨en Tryz.func57 Tryz.ntmps57 (St.init w) (h := fun F => ?_)⟩
 refine sr ?_
 refine bxA (h := fun b0 => ?_)
 refine ww ?_
 refine nq ?_
 refine sq ?_
 refine sr ?_
 iterate 5 refine ww ?_
 apply brAnd 7 9 16 (by exact rfl)
 ·
  intro hb0
  iterate 6 refine uw ?_
  refine ww ?_
  exact mg (by repeat (first | exact trivial | refine ⟨rfl, ?_⟩ | refine ⟨by rw [hb0]; rfl, ?_⟩)) slz_
 ·
  intro hb0
  repeat (first | refine uz ?_ | refine kz ?_ | refine wz ?_)
  exact mg (by repeat (first | exact trivial | refine ⟨rfl, ?_⟩ | refine ⟨by rw [hb0]; rfl, ?_⟩)) slz_
 refine nq ?_
 refine czz (fun h1 => ?_) fun h1 => ?_
 ·
  refine sr ?_
  refine ww ?_
  refine nq ?_
  refine rtn ?_
  refine q_then_ret ?_
  refine q_ret (hR := ?_)
  exact fun w hS => ⟨cdT' (fun x : Int => Ending.returned (Value.int .i64 x)) h1, hS.sub slz_⟩
 ·
  refine skp ?_
  refine q_seq ?_
  refine sq ?_
  refine sr ?_
  iterate 5 refine ww ?_
  apply brAnd 7 21 28 (by exact rfl)
  ·
   intro hb2
   iterate 6 refine uw ?_
   refine ww ?_
   exact mg (by repeat (first | exact trivial | refine ⟨rfl, ?_⟩ | refine ⟨by rw [hb2]; rfl, ?_⟩)) slz_
  ·
   intro hb2
   repeat (first | refine uz ?_ | refine kz ?_ | refine wz ?_)
   exact mg (by repeat (first | exact trivial | refine ⟨rfl, ?_⟩ | refine ⟨by rw [hb2]; rfl, ?_⟩)) slz_
  refine nq ?_
  refine czz (fun h3 => ?_) fun h3 => ?_
  ·
   refine sr ?_
   refine ww ?_
   refine nq ?_
   refine rtn ?_
   refine q_then_ret ?_
   refine q_ret (hR := ?_)
   exact fun w hS => ⟨(cdT' (fun x : Int => Ending.returned (Value.int .i64 x)) h3).trans (cdF' (fun x : Int => Ending.returned (Value.int .i64 x)) h1), hS.sub slz_⟩
  ·
   refine skp ?_
   refine q_seq ?_
   refine sr ?_
   refine ww ?_
   refine nq ?_
   refine rtn ?_
   refine q_ret (hR := ?_)
   exact fun w hS => ⟨(cdF' (fun x : Int => Ending.returned (Value.int .i64 x)) h3).trans (cdF' (fun x : Int => Ending.returned (Value.int .i64 x)) h1), hS.sub slz_⟩
theorem C_ref1_leads (p : Pr) (l : Int) (hp : Sm p) (w : World) : C0 Tryz.prog 57 [pv p, .int .i64 l] w (.int .i64 (leadsV p l 2)) := by
 rw [← leadsR_eq]; exact C_ref1_leads' p l hp w
theorem C_ref1_plus (p : Pr) (side : Int) (hp : Sm p) (w : World) : C0 Tryz.prog 55 [pv p, .int .i64 side] w (pv (addV p side)) := by
 obtain ⟨⟨h1, h2⟩, h3, h4⟩ := hp
 refine ⟨en Tryz.func55 Tryz.ntmps55 (St.init w) (h := fun F => ?_)⟩
 refine sr ?_
 refine bxA (h := fun b0 => ?_)
 refine al (h := fun b1 => ?_)
 refine nq ?_
 refine sq ?_
 refine sr ?_
 iterate 2 refine ww ?_
 refine nq ?_
 refine czz (fun h0 => ?_) fun h0 => ?_
 ·
  refine rg ?_
  iterate 4 refine ww ?_
  first | refine st (h := ?_) | refine stE (h := ?_)
  refine nr ?_
  refine ww ?_
  first | refine stA (h := ?_) | refine stEA (h := ?_)
  refine nq ?_
  refine rtn ?_
  refine q_ret (hR := ?_)
  exact fun w hS => ⟨cdT' (x := (p.1 + 1, p.2)) (fun p : Pr => Ending.returned (pv p)) h0, hS.sub slz_⟩
 ·
  refine rg ?_
  iterate 4 refine ww ?_
  first | refine st (h := ?_) | refine stE (h := ?_)
  refine nr ?_
  refine ww ?_
  first | refine stA (h := ?_) | refine stEA (h := ?_)
  refine nq ?_
  refine rtn ?_
  refine q_ret (hR := ?_)
  exact fun w hS => ⟨cdF' (y := (p.1, p.2 + 1)) (fun p : Pr => Ending.returned (pv p)) h0, hS.sub slz_⟩
def gameR (f : Fmt) (p : Pr) : Int := bif f.noAd then bif decide (4 ≤ p.1) then 0 else bif decide (4 ≤ p.2) then 1 else -1 else leadsV p 4 2
theorem C_ref1_game (f : Fmt) (p : Pr) (hp : Sm p) (w : World) : C0 Tryz.prog 56 [f.val, pv p] w (.int .i64 (gameR f p)) := by
 refine ⟨en Tryz.func56 Tryz.ntmps56 (St.init w) (h := fun F => ?_)⟩
 refine sr ?_
 refine bxA (h := fun b0 => ?_)
 refine bxA (h := fun b1 => ?_)
 refine ww ?_
 refine nq ?_
 refine sq ?_
 refine sr ?_
 iterate 2 refine ww ?_
 refine nq ?_
 refine czz (fun h0 => ?_) fun h0 => ?_
 ·
  refine sq ?_
  refine sr ?_
  iterate 3 refine ww ?_
  refine nq ?_
  refine czz (fun h1 => ?_) fun h1 => ?_
  ·
   refine sr ?_
   refine ww ?_
   refine nq ?_
   refine rtn ?_
   iterate 2 refine q_then_ret ?_
   refine q_ret (hR := ?_)
   exact fun w hS => ⟨(cdT' (fun x : Int => Ending.returned (Value.int .i64 x)) h1).trans (cdT' (fun x : Int => Ending.returned (Value.int .i64 x)) h0), hS.sub slz_⟩
  ·
   refine skp ?_
   refine q_seq ?_
   refine sq ?_
   refine sr ?_
   iterate 3 refine ww ?_
   refine nq ?_
   refine czz (fun h2 => ?_) fun h2 => ?_
   ·
    refine sr ?_
    refine ww ?_
    refine nq ?_
    refine rtn ?_
    iterate 2 refine q_then_ret ?_
    refine q_ret (hR := ?_)
    exact fun w hS => ⟨((cdT' (fun x : Int => Ending.returned (Value.int .i64 x)) h2).trans (cdF' (fun x : Int => Ending.returned (Value.int .i64 x)) h1)).trans (cdT' (fun x : Int => Ending.returned (Value.int .i64 x)) h0), hS.sub slz_⟩
   ·
    refine skp ?_
    refine q_seq ?_
    refine sr ?_
    refine ww ?_
    refine nq ?_
    refine rtn ?_
    refine q_then_ret ?_
    refine q_ret (hR := ?_)
    exact fun w hS => ⟨((cdF' (fun x : Int => Ending.returned (Value.int .i64 x)) h2).trans (cdF' (fun x : Int => Ending.returned (Value.int .i64 x)) h1)).trans (cdT' (fun x : Int => Ending.returned (Value.int .i64 x)) h0), hS.sub slz_⟩
 ·
  refine skp ?_
  refine q_seq ?_
  refine sr ?_
  refine ww ?_
  refine cl0 (hc := fun w hS => C_ref1_leads _ _ (by assumption) w) (h := ?_)
  refine ww ?_
  refine nq ?_
  refine rtn ?_
  refine q_ret (hR := ?_)
  exact fun w hS => ⟨cdF' (fun x : Int => Ending.returned (Value.int .i64 x)) h0, hS.sub slz_⟩

def wside (p : Pr) : Int := bif decide (p.2 < p.1) then 0 else 1
def wonTo (l : List Pr) : Nat → Pr
 | 0 => (0, 0)
 | k + 1 => match l[k]? with
  | some p => addV (wonTo l k) (wside p)
  | none => wonTo l k
def wonV (l : List Pr) : Pr := wonTo l l.length
theorem wonTo_succ {l : List Pr} {k : Nat} {p : Pr} (h : l[k]? = some p) : wonTo l (k + 1) = addV (wonTo l k) (wside p) := by rw [wonTo, h]
theorem wonTo_bd (l : List Pr) : ∀ k, (0 ≤ (wonTo l k).1 ∧ (wonTo l k).1 ≤ (k : Int)) ∧ 0 ≤ (wonTo l k).2 ∧ (wonTo l k).2 ≤ (k : Int)
 | 0 => by simp [wonTo]
 | k + 1 => by
  have ih := wonTo_bd l k
  rw [wonTo]
  cases l[k]? with
  | none => dsimp only; omega
  | some p => have := addV_bd (side := wside p) ih; simpa using this
theorem wonTo_app (l : List Pr) (p : Pr) : ∀ k, k ≤ l.length → wonTo (l ++ [p]) k = wonTo l k
 | 0, _ => rfl
 | k + 1, hk => by rw [wonTo, wonTo, wonTo_app l p k (by omega), List.getElem?_append_left (by omega)]
theorem wonV_app (l : List Pr) (p : Pr) : wonV (l ++ [p]) = addV (wonV l) (wside p) := by
 unfold wonV
 have hl : (l ++ [p]).length = l.length + 1 := by simp
 rw [hl, wonTo_succ (p := p) (by simp), wonTo_app l p _ (Nat.le_refl _)]
structure WZ where
 (k : Nat) (p : Pr)
theorem C_ref1_Won (l : List Pr) (A : Option Addr) (n c : Nat) (w : World) (h : Rd w A 2 n (encP l)) (hn : n ≤ 1000000) : C0 Tryz.prog 59 [.slice A n c] w (pv (wonV l)) := by
 have hlen : l.length = n := by have := h.len; simpa [encP] using this
 refine ⟨en Tryz.func59 Tryz.ntmps59 ((St.init w).share (e := .ro A 2 n (encP l)) h rfl rfl rfl) (h := fun F => ?_)⟩
 refine sr ?_
 refine al (h := fun b0 => ?_)
 refine nr ?_
 refine al (h := fun b1 => ?_)
 refine nq ?_
 refine sq ?_
 refine sr ?_
 refine ww ?_
 refine nq ?_
 refine bk ?_
 refine lp (X := WZ) (I := fun z => z.k ≤ n ∧ z.p = wonTo l z.k) (le := fun z => [(0, .slice A n c), (2, .pointer (some ⟨b0, 0, none⟩)), (3, .pointer (some ⟨b1, 0, none⟩)), (4, .int .i64 z.k)]) (Le := fun z => [.blk b0 38 [.int .i64 0, .int .i64 0], .blk b1 38 [.int .i64 z.p.1, .int .i64 z.p.2], .ro A 2 n (encP l)]) (μ := fun z => n - z.k) ⟨0, (0, 0)⟩ ⟨Nat.zero_le _, rfl⟩ sbz_ slz_ (fun z hz => ?_)
 obtain ⟨hzk, hzp⟩ := hz
 refine sq ?_
 refine sr ?_
 iterate 4 refine ww ?_
 refine nq ?_
 refine czz (fun h0 => ?_) fun h0 => ?_
 ·
  have hkn : z.k < n := by simp only [decide_eq_true_eq] at h0; omega
  obtain ⟨q, hq⟩ : ∃ q, l[z.k]? = some q := ⟨_, List.getElem?_eq_getElem (by omega)⟩
  have hqe := encP_at hq
  have hst := wonTo_succ hq
  have hbd := wonTo_bd l z.k
  rw [← hzp] at hbd hst
  refine skp ?_
  refine q_seq ?_
  refine sq ?_
  refine bk ?_
  refine sq ?_
  refine rgD0 (by kernel_rfl) (h := ?_)
  refine tw 0 ?_
  refine tw 1 ?_
  refine tk 2 (hy := ix) (h := ?_)
  refine tw 3 ?_
  refine tk 4 (hy := ldE (hk := hqe)) (h := ?_)
  refine tw 5 ?_
  refine tw 6 ?_
  refine tk 7 (hy := ix) (h := ?_)
  refine tw 8 ?_
  refine tk 9 (hy := ldE (hk := hqe)) (h := ?_)
  refine tw 10 ?_
  refine dn (h := ?_)
  refine q_seq ?_
  refine czz (fun h1 => ?_) fun h1 => ?_
  ·
   have hws : addV z.p (wside q) = (z.p.1 + 1, z.p.2) := by unfold wside; rw [h1]; rfl
   refine rg ?_
   iterate 4 refine ww ?_
   first | refine st (h := ?_) | refine stE (h := ?_)
   refine nl ?_
   refine q_blk_norm ?_
   refine q_seq ?_
   refine rg ?_
   iterate 3 refine ww ?_
   refine nl ?_
   refine rn (x := z) ⟨z.k + 1, addV z.p (wside q)⟩ ⟨by dsimp only; omega, by rw [hst]⟩ (by dsimp only; omega) sbz_ (by (try dsimp only); rw [hws]; repeat (first | exact SubL.nil | (apply SubL.cons; (repeat (first | exact At.here | apply At.there)))))
  ·
   have hws : addV z.p (wside q) = (z.p.1, z.p.2 + 1) := by unfold wside; rw [h1]; rfl
   refine rg ?_
   iterate 4 refine ww ?_
   first | refine st (h := ?_) | refine stE (h := ?_)
   refine nl ?_
   refine q_blk_norm ?_
   refine q_seq ?_
   refine rg ?_
   iterate 3 refine ww ?_
   refine nl ?_
   refine rn (x := z) ⟨z.k + 1, addV z.p (wside q)⟩ ⟨by dsimp only; omega, by rw [hst]⟩ (by dsimp only; omega) sbz_ (by (try dsimp only); rw [hws]; repeat (first | exact SubL.nil | (apply SubL.cons; (repeat (first | exact At.here | apply At.there)))))
 ·
  have hkn : z.k = n := by simp only [decide_eq_false_iff_not] at h0; omega
  refine et ?_
  iterate 2 refine q_then_exit ?_
  refine q_blk_hit ?_
  refine q_seq ?_
  refine sr ?_
  refine ww ?_
  first | refine stA (h := ?_) | refine stEA (h := ?_)
  refine nq ?_
  refine rtn ?_
  refine q_ret (hR := ?_)
  exact fun w hS => ⟨by rw [wonV, hlen, ← hkn, ← hzp]; rfl, hS.sub slz_⟩

theorem C_ref1_IsLast (f : Fmt) (won : Pr) (hf : f.Ok) (w : World) : C0 Tryz.prog 89 [f.val, pv won] w (.bool (decide (won.1 = f.sets - 1) && decide (won.2 = f.sets - 1))) := by
 have h1 := hf.s0
 have h2 := hf.s1
 refine ⟨en Tryz.func89 Tryz.ntmps89 (St.init w) (h := fun F => ?_)⟩
 refine sr ?_
 refine bxA (h := fun b0 => ?_)
 refine bxA (h := fun b1 => ?_)
 refine ww ?_
 refine nr ?_
 iterate 7 refine ww ?_
 apply brAnd 7 11 18 (by exact rfl)
 ·
  intro hb0
  iterate 6 refine uw ?_
  refine ww ?_
  exact mg (by repeat (first | exact trivial | refine ⟨rfl, ?_⟩ | refine ⟨by rw [hb0]; rfl, ?_⟩)) slz_
 ·
  intro hb0
  repeat (first | refine uz ?_ | refine kz ?_ | refine wz ?_)
  exact mg (by repeat (first | exact trivial | refine ⟨rfl, ?_⟩ | refine ⟨by rw [hb0]; rfl, ?_⟩)) slz_
 refine ww ?_
 refine nq ?_
 refine rtn ?_
 refine q_ret (hR := ?_)
 exact fun w hS => ⟨rfl, hS.sub slz_⟩
def ruleV (f : Fmt) (last : Bool) : Pr := bif last then (f.ltie, f.lto) else (f.tie, f.to)
theorem C_ref1_Rule (f : Fmt) (last : Bool) (w : World) : C0 Tryz.prog 85 [f.val, .bool last] w (.tuple #[.int .i64 (ruleV f last).1, .int .i64 (ruleV f last).2]) := by
 refine ⟨en Tryz.func85 Tryz.ntmps85 (St.init w) (h := fun F => ?_)⟩
 refine sr ?_
 refine bxA (h := fun b0 => ?_)
 iterate 2 refine ww ?_
 refine nq ?_
 refine sq ?_
 refine sr ?_
 refine ww ?_
 refine nq ?_
 refine czz (fun h0 => ?_) fun h0 => ?_
 ·
  subst h0
  refine sq ?_
  refine rgD0 (by kernel_rfl) (h := ?_)
  refine tw 0 ?_
  refine tw 1 ?_
  refine tw 2 ?_
  refine tw 3 ?_
  refine tw 4 ?_
  refine tw 5 ?_
  refine dn (h := ?_)
  refine q_seq ?_
  refine rtn ?_
  refine q_then_ret ?_
  refine q_ret (hR := ?_)
  exact fun w hS => ⟨rfl, hS.sub slz_⟩
 ·
  subst h0
  refine skp ?_
  refine q_seq ?_
  refine sq ?_
  refine rgD0 (by kernel_rfl) (h := ?_)
  refine tw 0 ?_
  refine tw 1 ?_
  refine tw 2 ?_
  refine tw 3 ?_
  refine tw 4 ?_
  refine tw 5 ?_
  refine dn (h := ?_)
  refine q_seq ?_
  refine rtn ?_
  refine q_ret (hR := ?_)
  exact fun w hS => ⟨rfl, hS.sub slz_⟩
theorem rule_set (f : Fmt) (won : Pr) : ruleV f (decide (won.1 = f.sets - 1) && decide (won.2 = f.sets - 1)) = setV f won := rfl
def tiedV (f : Fmt) (l : List Pr) (g : Pr) : Bool := decide (0 ≤ (setV f (wonV l)).1) && decide (g.1 = (setV f (wonV l)).1) && decide (g.2 = (setV f (wonV l)).1)
theorem C_ref1_tied (f : Fmt) (b : Brd) (A : Option Addr) (n c : Nat) (hf : f.Ok) (w : World) (h : Rd w A 2 n (encP b.st)) (hn : n ≤ 1000000) : C0 Tryz.prog 54 [f.val, b.val A n c] w (.tuple #[.bool (tiedV f b.st b.g), .int .i64 (setV f (wonV b.st)).2]) := by
 refine ⟨en Tryz.func54 Tryz.ntmps54 ((St.init w).share (e := .ro A 2 n (encP b.st)) h rfl rfl rfl) (h := fun F => ?_)⟩
 refine sr ?_
 refine bxA (h := fun b0 => ?_)
 refine bxA (h := fun b1 => ?_)
 iterate 2 refine ww ?_
 refine nq ?_
 refine sq ?_
 refine rgD0 (by kernel_rfl) (h := ?_)
 refine tw 0 ?_
 refine tw 1 ?_
 refine tw 2 ?_
 refine tw 3 ?_
 refine one 4 (h := ?_)
 refine cl0 (hc := fun w hS => C_ref1_Won b.st A n c w (hS.get rdz_) hn) (h := ?_)
 refine nx (h := ?_)
 refine one 5 (h := ?_)
 refine cl0 (hc := fun w hS => C_ref1_IsLast _ _ (by assumption) w) (h := ?_)
 refine nx (h := ?_)
 refine one 6 (h := ?_)
 refine cl0 (hc := fun w hS => C_ref1_Rule f _ w) (h := ?_)
 rw [rule_set]
 refine nx (h := ?_)
 refine tw 7 ?_
 refine tw 8 ?_
 refine tw 9 ?_
 refine tw 10 ?_
 refine tw 11 ?_
 refine dn (h := ?_)
 refine q_seq ?_
 refine sr ?_
 iterate 3 refine ww ?_
 apply brAnd 6 20 26 (by exact rfl)
 ·
  intro hb0
  iterate 5 refine uw ?_
  refine ww ?_
  exact mg (by repeat (first | exact trivial | refine ⟨rfl, ?_⟩ | refine ⟨by rw [hb0]; rfl, ?_⟩)) slz_
 ·
  intro hb0
  repeat (first | refine uz ?_ | refine kz ?_ | refine wz ?_)
  exact mg (by repeat (first | exact trivial | refine ⟨rfl, ?_⟩ | refine ⟨by rw [hb0]; rfl, ?_⟩)) slz_
 refine ww ?_
 apply brAnd 6 27 33 (by exact rfl)
 ·
  intro hb1
  iterate 5 refine uw ?_
  refine ww ?_
  exact mg (by repeat (first | exact trivial | refine ⟨rfl, ?_⟩ | refine ⟨by rw [hb1]; rfl, ?_⟩)) slz_
 ·
  intro hb1
  repeat (first | refine uz ?_ | refine kz ?_ | refine wz ?_)
  exact mg (by repeat (first | exact trivial | refine ⟨rfl, ?_⟩ | refine ⟨by rw [hb1]; rfl, ?_⟩)) slz_
 iterate 3 refine ww ?_
 refine nq ?_
 refine rtn ?_
 refine q_ret (hR := ?_)
 exact fun w hS => ⟨rfl, hS.sub slz_⟩

theorem C_ref1_due (f : Fmt) (n : Int) (hf : f.Ok) (hn : 0 ≤ n ∧ n ≤ 1000000) (w : World) : C0 Tryz.prog 88 [f.val, .int .i64 n] w (.bool (dueV f n)) := by
 have h1 := hf.f0
 have h2 := hf.f1
 have h3 := hf.n0
 have e1 : dueV f n = (decide (0 < f.first) && (decide (n = f.first) || decide (f.first < n) && decide (0 < f.thn) && decide ((n - f.first) % f.thn = 0))) := by
  unfold dueV
  rw [show decide (n - f.first = 0) = decide (n = f.first) from decide_eq_decide.2 (by omega), show decide (0 < n - f.first) = decide (f.first < n) from decide_eq_decide.2 (by omega)]
 rw [e1]
 refine ⟨en Tryz.func88 Tryz.ntmps88 (St.init w) (h := fun F => ?_)⟩
 refine sr ?_
 refine bxA (h := fun b0 => ?_)
 refine ww ?_
 refine nr ?_
 iterate 4 refine ww ?_
 apply brAnd 26 8 34 (by exact rfl)
 ·
  intro hb0
  iterate 5 refine uw ?_
  apply brOr 20 13 33 (by exact rfl)
  ·
   intro hb1
   iterate 5 refine uw ?_
   apply brAnd 4 18 22 (by exact rfl)
   ·
    intro hb2
    iterate 4 refine uw ?_
    exact mg (by repeat (first | exact trivial | refine ⟨rfl, ?_⟩ | refine ⟨by rw [hb2]; rfl, ?_⟩ | refine ⟨by rw [hb0]; rfl, ?_⟩ | refine ⟨by rw [hb1]; rfl, ?_⟩)) slz_
   ·
    intro hb2
    repeat (first | refine uz ?_ | refine kz ?_ | refine wz ?_)
    exact mg (by repeat (first | exact trivial | refine ⟨rfl, ?_⟩ | refine ⟨by rw [hb2]; rfl, ?_⟩ | refine ⟨by rw [hb0]; rfl, ?_⟩ | refine ⟨by rw [hb1]; rfl, ?_⟩)) slz_
   refine uw ?_
   apply brAnd 9 23 32 (by exact rfl)
   ·
    intro hb3
    obtain ⟨hng, hthn⟩ : f.first < n ∧ 0 < f.thn := by simp only [Bool.and_eq_true, decide_eq_true_eq] at hb3; omega
    iterate 9 refine uw ?_
    exact mg (by repeat (first | exact trivial | refine ⟨rfl, ?_⟩ | refine ⟨by rw [hb3]; rfl, ?_⟩ | refine ⟨by rw [hb0]; rfl, ?_⟩ | refine ⟨by rw [hb1]; rfl, ?_⟩)) slz_
   ·
    intro hb3
    repeat (first | refine uz ?_ | refine kz ?_ | refine wz ?_)
    exact mg (by repeat (first | exact trivial | refine ⟨rfl, ?_⟩ | refine ⟨by rw [hb3]; rfl, ?_⟩ | refine ⟨by rw [hb0]; rfl, ?_⟩ | refine ⟨by rw [hb1]; rfl, ?_⟩)) slz_
   refine uw ?_
   exact mg (by repeat (first | exact trivial | refine ⟨rfl, ?_⟩ | refine ⟨by rw [hb1]; rfl, ?_⟩ | refine ⟨by rw [hb0]; rfl, ?_⟩)) slz_
  ·
   intro hb1
   repeat (first | refine uz ?_ | refine kz ?_ | refine wz ?_)
   exact mg (by repeat (first | exact trivial | refine ⟨rfl, ?_⟩ | refine ⟨by rw [hb1]; rfl, ?_⟩ | refine ⟨by rw [hb0]; rfl, ?_⟩)) slz_
  refine ww ?_
  exact mg (by repeat (first | exact trivial | refine ⟨rfl, ?_⟩ | refine ⟨by rw [hb0]; rfl, ?_⟩)) slz_
 ·
  intro hb0
  repeat (first | refine uz ?_ | refine kz ?_ | refine wz ?_)
  exact mg (by repeat (first | exact trivial | refine ⟨rfl, ?_⟩ | refine ⟨by rw [hb0]; rfl, ?_⟩)) slz_
 refine ww ?_
 refine nq ?_
 refine rtn ?_
 refine q_ret (hR := ?_)
 exact fun w hS => ⟨rfl, hS.sub slz_⟩

def turnR (tie : Bool) (pt : Int) : Int := bif tie then (pt + 1) / 2 else 0
def befTo (first side : Int) : Nat → Int
 | 0 => 0
 | k + 1 => bif decide ((first + (k : Int)) % 2 = side) then befTo first side k + 1 else befTo first side k
theorem befTo_bd (first side : Int) : ∀ k, 0 ≤ befTo first side k ∧ befTo first side k ≤ (k : Int)
 | 0 => by simp [befTo]
 | k + 1 => by
  have := befTo_bd first side k
  rw [befTo]
  cases decide ((first + (k : Int)) % 2 = side) <;> simp only [cond_true, cond_false] <;> omega
def servR (f : Fmt) (first : Int) (game : Nat) (tie : Bool) (pt : Int) : Int :=
 bif !f.dbl then (first + game + turnR tie pt) % 2 else (first + game + turnR tie pt) % 2 + 2 * ((befTo first ((first + game + turnR tie pt) % 2) game + turnR tie pt / 2) % 2)
structure SVZ where
 (k : Nat) (c : Int)
theorem C_ref1_Server' (f : Fmt) (first : Int) (game : Nat) (tie : Bool) (pt t : Int) (hfs : 0 ≤ first ∧ first ≤ 1) (hg : game ≤ 1000) (hp : 0 ≤ pt ∧ pt ≤ 10000) (ht : turnR tie pt = t) (w : World) : C0 Tryz.prog 58 [f.val, .int .i64 first, .int .i64 game, .bool tie, .int .i64 pt] w (.int .i64 (servR f first game tie pt)) := by
 have htb : 0 ≤ t ∧ t ≤ 10000 := by rw [← ht]; unfold turnR; cases tie <;> simp <;> omega
 have hS : servR f first game tie pt = bif !f.dbl then (first + game + t) % 2 else (first + game + t) % 2 + 2 * ((befTo first ((first + game + t) % 2) game + t / 2) % 2) := by unfold servR; rw [ht]
 rw [hS]
 refine ⟨en Tryz.func58 Tryz.ntmps58 (St.init w) (h := fun F => ?_)⟩
 refine sr ?_
 refine bxA (h := fun b0 => ?_)
 refine ww ?_
 refine nr ?_
 refine ww ?_
 refine nq ?_
 refine ct (X := Unit) (fun _ => True) (fun _ => [(1, .int .i64 first), (2, .int .i64 game), (5, .pointer (some ⟨b0, 0, none⟩)), (11, .int .i64 t)]) (fun _ => [.blk b0 35 f.cells]) (h1 := ?_) (h2 := ?_)
 ·
  refine sr ?_
  refine ww ?_
  refine nq ?_
  refine czz (fun h0 => ?_) fun h0 => ?_
  ·
   refine rg ?_
   iterate 4 refine ww ?_
   refine nl ?_
   first
    | (subst h0; exact ctn () trivial (by repeat (first | exact trivial | refine ⟨rfl, ?_⟩ | refine ⟨by rw [← ht]; rfl, ?_⟩)) slz_)
  ·
   refine skp ?_
   first
    | (subst h0; exact ctn () trivial (by repeat (first | exact trivial | refine ⟨rfl, ?_⟩ | refine ⟨by rw [← ht]; rfl, ?_⟩)) slz_)
 rintro ⟨⟩ -
 refine sr ?_
 iterate 7 refine ww ?_
 refine nq ?_
 refine sq ?_
 refine sr ?_
 iterate 3 refine ww ?_
 refine nq ?_
 refine czz (fun h1 => ?_) fun h1 => ?_
 ·
  rw [h1]
  refine sr ?_
  iterate 2 refine ww ?_
  refine nq ?_
  refine rtn ?_
  refine q_then_ret ?_
  refine q_ret (hR := ?_)
  exact fun w hS => ⟨rfl, hS.sub slz_⟩
 ·
  rw [h1]
  refine skp ?_
  refine q_seq ?_
  refine sr ?_
  refine ww ?_
  refine nq ?_
  refine sq ?_
  refine sr ?_
  refine ww ?_
  refine nq ?_
  refine bk ?_
  refine lp (X := SVZ) (I := fun z => z.k ≤ game ∧ z.c = befTo first ((first + game + t) % 2) z.k) (le := fun z => [(1, .int .i64 first), (2, .int .i64 game), (11, .int .i64 t), (12, .int .i64 ((first + game + t) % 2)), (13, .int .i64 z.c), (14, .int .i64 z.k)]) (Le := fun z => []) (μ := fun z => game - z.k) ⟨0, 0⟩ ⟨Nat.zero_le _, rfl⟩ sbz_ slz_ (fun z hz => ?_)
  obtain ⟨hzk, hzc⟩ := hz
  refine sq ?_
  refine sr ?_
  iterate 3 refine ww ?_
  refine nq ?_
  refine czz (fun h2 => ?_) fun h2 => ?_
  ·
   have hkn : z.k < game := by simp only [decide_eq_true_eq] at h2; omega
   have hbd := befTo_bd first ((first + game + t) % 2) z.k
   rw [← hzc] at hbd
   refine skp ?_
   refine q_seq ?_
   refine sq ?_
   refine bk ?_
   refine sr ?_
   iterate 6 refine ww ?_
   refine nq ?_
   refine czz (fun h3 => ?_) fun h3 => ?_
   ·
    have hst : befTo first ((first + game + t) % 2) (z.k + 1) = z.c + 1 := by
     have h' : decide ((first + (z.k : Int)) % 2 = (first + game + t) % 2) = true := h3
     rw [befTo, h', hzc]; rfl
    refine rg ?_
    iterate 3 refine ww ?_
    refine nl ?_
    refine q_blk_norm ?_
    refine q_seq ?_
    refine rg ?_
    iterate 3 refine ww ?_
    refine nl ?_
    refine rn (x := z) ⟨z.k + 1, befTo first ((first + game + t) % 2) (z.k + 1)⟩ ⟨by dsimp only; omega, rfl⟩ (by dsimp only; omega) (by (try dsimp only); repeat (first | exact trivial | refine ⟨rfl, ?_⟩ | refine ⟨by rw [hst]; rfl, ?_⟩)) slz_
   ·
    have hst : befTo first ((first + game + t) % 2) (z.k + 1) = z.c := by
     have h' : decide ((first + (z.k : Int)) % 2 = (first + game + t) % 2) = false := h3
     rw [befTo, h', hzc]; rfl
    refine skp ?_
    refine q_blk_norm ?_
    refine q_seq ?_
    refine rg ?_
    iterate 3 refine ww ?_
    refine nl ?_
    refine rn (x := z) ⟨z.k + 1, befTo first ((first + game + t) % 2) (z.k + 1)⟩ ⟨by dsimp only; omega, rfl⟩ (by dsimp only; omega) (by (try dsimp only); repeat (first | exact trivial | refine ⟨rfl, ?_⟩ | refine ⟨by rw [hst]; rfl, ?_⟩)) slz_
  ·
   have hkn : z.k = game := by simp only [decide_eq_false_iff_not] at h2; omega
   have hbd := befTo_bd first ((first + game + t) % 2) z.k
   rw [← hzc] at hbd
   refine et ?_
   iterate 2 refine q_then_exit ?_
   refine q_blk_hit ?_
   refine q_seq ?_
   refine sr ?_
   iterate 9 refine ww ?_
   refine nq ?_
   refine rtn ?_
   refine q_ret (hR := ?_)
   exact fun w hS => ⟨by rw [hkn] at hzc; rw [hzc]; rfl, hS.sub slz_⟩
theorem C_ref1_Server (f : Fmt) (first : Int) (game : Nat) (tie : Bool) (pt : Int) (hfs : 0 ≤ first ∧ first ≤ 1) (hg : game ≤ 1000) (hp : 0 ≤ pt ∧ pt ≤ 10000) (w : World) : C0 Tryz.prog 58 [f.val, .int .i64 first, .int .i64 game, .bool tie, .int .i64 pt] w (.int .i64 (servR f first game tie pt)) :=
 C_ref1_Server' f first game tie pt _ hfs hg hp rfl w
end Go.Proofs.YtpmmgljndceplaaGreat

namespace Go.Proofs.YtpmmgljndceplaaGreat
open Go Go.RowKit

structure IBZ where
 (k : Nat)
def allR1 (b : Brd) : List Pr := b.g :: b.p :: b.st
theorem brd_all (b : Brd) : (b.all.any fun p => !fitP p) = ((allR1 b).any fun p => !fitP p) := by
 unfold Brd.all allR1
 simp only [List.any_append, List.any_cons, List.any_nil, Bool.or_false]
 cases b.st.any fun p => !fitP p <;> cases !fitP b.g <;> cases !fitP b.p <;> rfl
set_option maxRecDepth 100000 in
theorem C_ref1_isBoard (b : Brd) (A : Option Addr) (n c : Nat) (w : World) (h : Rd w A 2 n (encP b.st)) (hn : n ≤ 1000) : C0 Tryz.prog 86 [b.val A n c] w (.bool (brdOk b)) := by
 have hlen : b.st.length = n := by have := h.len; simpa [encP] using this
 have hal : (allR1 b).length = 2 + n := by simp [allR1, hlen]; omega
 have hen : encP (allR1 b) = [[.int .i64 b.g.1, .int .i64 b.g.2], [.int .i64 b.p.1, .int .i64 b.p.2]] ++ encP b.st := by simp [encP, allR1]
 refine ⟨en Tryz.func86 Tryz.ntmps86 ((St.init w).share (e := .ro A 2 n (encP b.st)) h rfl rfl rfl) (h := fun F => ?_)⟩
 refine sr ?_
 refine bxA (h := fun b0 => ?_)
 refine ww ?_
 refine nr ?_
 iterate 4 refine ww ?_
 refine bs (h := fun b1 => ?_)
 iterate 2 refine ww ?_
 first | refine ap (h := fun A1 c1 => ?_) | refine ap0 (h := fun A1 c1 => ?_)
 refine ww ?_
 rw [← hen]
 refine nq ?_
 refine sq ?_
 refine sr ?_
 refine ww ?_
 refine nq ?_
 refine bk ?_
 refine lp (X := IBZ) (I := fun z => z.k ≤ 2 + n ∧ ∀ i, i < z.k → ∀ q, (allR1 b)[i]? = some q → fitP q = true) (le := fun z => [(1, .pointer (some ⟨b0, 0, none⟩)), (3, .slice A1 (2 + n) c1), (4, .int .i64 z.k)]) (Le := fun _ => [.own A1 c1 38 2 (2 + n) (encP (allR1 b)), .blk b0 40 (b.cells A n c)]) (μ := fun z => 2 + n - z.k) ⟨0⟩ ⟨Nat.zero_le _, fun i hi => by cases hi⟩ sbz_ slz_ (fun z hz => ?_)
 obtain ⟨hz1, hz2⟩ := hz
 refine sq ?_
 refine sr ?_
 iterate 4 refine ww ?_
 refine nq ?_
 refine czz (fun h0 => ?_) fun h0 => ?_
 ·
  have hkn : z.k < 2 + n := by simp only [decide_eq_true_eq] at h0; omega
  obtain ⟨q, hq⟩ : ∃ q, (allR1 b)[z.k]? = some q := ⟨_, List.getElem?_eq_getElem (by omega)⟩
  have hqe := encP_at hq
  refine skp ?_
  refine q_seq ?_
  refine sq ?_
  refine bk ?_
  refine sr ?_
  iterate 2 refine ww ?_
  refine wy ix ?_
  refine ww ?_
  refine wy (ldE (hk := hqe)) ?_
  refine cl0 (hc := fun w hS => C_ref1_within ..) (h := ?_)
  iterate 2 refine ww ?_
  apply brOr 8 26 34 (by exact rfl)
  ·
   intro hb1
   iterate 2 refine uw ?_
   refine uz ?_
   refine wy ix ?_
   refine uw ?_
   refine uz ?_
   refine wy (ldE (hk := hqe)) ?_
   refine uz ?_
   refine cl0 (hc := fun w hS => C_ref1_within ..) (h := ?_)
   refine uw ?_
   refine ww ?_
   exact mg (by repeat (first | exact trivial | refine ⟨rfl, ?_⟩ | refine ⟨by rw [hb1]; rfl, ?_⟩)) slz_
  ·
   intro hb1
   repeat (first | refine uz ?_ | refine kz ?_ | refine wz ?_)
   exact mg (by repeat (first | exact trivial | refine ⟨rfl, ?_⟩ | refine ⟨by rw [hb1]; rfl, ?_⟩)) slz_
  refine nq ?_
  refine czz (fun h2 => ?_) fun h2 => ?_
  ·
   have hE : brdOk b = false := by
    rw [brdOk, brd_all, show ((allR1 b).any fun p => !fitP p) = true from List.any_eq_true.2 ⟨q, List.mem_of_getElem? hq, by rw [fitP, Bool.not_and]; exact h2⟩]
    simp
   refine sr ?_
   refine ww ?_
   refine nq ?_
   refine rtn ?_
   refine q_blk_ret ?_
   iterate 2 refine q_then_ret ?_
   refine q_blk_ret ?_
   refine q_then_ret ?_
   refine q_ret (hR := ?_)
   rw [hE]
   exact fun w hS => ⟨rfl, hS.sub slz_⟩
  ·
   have hfq : fitP q = true := by rw [← Bool.not_eq_false', fitP, Bool.not_and]; exact h2
   refine skp ?_
   refine q_blk_norm ?_
   refine q_seq ?_
   refine rg ?_
   iterate 3 refine ww ?_
   refine nl ?_
   refine rn (x := z) ⟨z.k + 1⟩ ⟨by dsimp only; omega, fun i hi q' hq' => by
    dsimp only at hi
    by_cases e : i = z.k
    ·
     subst e
     rw [hq] at hq'
     rw [← Option.some.inj hq']; exact hfq
    ·
     exact hz2 i (by omega) q' hq'⟩ (by dsimp only; omega) sbz_ slz_
 ·
  have hkn : z.k = 2 + n := by simp only [decide_eq_false_iff_not] at h0; omega
  have hE : brdOk b = decide ((n : Int) ≤ 5) := by
   rw [brdOk, brd_all, show ((allR1 b).any fun p => !fitP p) = false from ?_, hlen]
   ·
    simp
   ·
    rw [List.any_eq_false]
    intro x hx
    obtain ⟨k, hk, e⟩ := List.getElem_of_mem hx
    have := hz2 k (by omega) x (by rw [List.getElem?_eq_getElem hk, e])
    rw [this]; simp
  refine et ?_
  iterate 2 refine q_then_exit ?_
  refine q_blk_hit ?_
  refine q_seq ?_
  refine sr ?_
  iterate 5 refine ww ?_
  refine nq ?_
  refine rtn ?_
  refine q_ret (hR := ?_)
  rw [hE]
  exact fun w hS => ⟨rfl, hS.sub slz_⟩

def arePts (f : Fmt) (tie : Bool) (to : Int) (p : Pr) : Bool := bif !tie && f.noAd then decide (p.1 < 4) && decide (p.2 < 4) else decide (max p.1 p.2 < (bif tie then to else 4)) || decide (max p.1 p.2 - min p.1 p.2 ≤ 1)
theorem C_ArePoints (f : Fmt) (tie : Bool) (to : Int) (p : Pr) (hp : (0 ≤ p.1 ∧ p.1 ≤ 1000) ∧ 0 ≤ p.2 ∧ p.2 ≤ 1000) (w : World) : C0 Tryz.prog 119 [f.val, .bool tie, .int .i64 to, pv p] w (.bool (arePts f tie to p)) := by
 refine ⟨en Tryz.func119 Tryz.ntmps119 (St.init w) (h := fun F => ?_)⟩
 refine sr ?_
 refine bxA (h := fun b0 => ?_)
 refine bxA (h := fun b1 => ?_)
 refine ww ?_
 refine nr ?_
 refine ww ?_
 refine nq ?_
 refine ct (X := Unit) (fun _ => True) (fun _ => [(1, .bool tie), (4, .pointer (some ⟨b0, 0, none⟩)), (7, .pointer (some ⟨b1, 0, none⟩)), (9, .int .i64 (bif tie then to else 4))]) (fun _ => [.blk b0 35 f.cells, .blk b1 38 [.int .i64 p.1, .int .i64 p.2]]) (h1 := ?_) (h2 := ?_)
 ·
  refine sr ?_
  refine ww ?_
  refine nq ?_
  refine czz (fun h0 => ?_) fun h0 => ?_
  ·
   refine rg ?_
   iterate 2 refine ww ?_
   refine nl ?_
   subst h0
   exact ctn () trivial sbz_ slz_
  ·
   refine skp ?_
   subst h0
   exact ctn () trivial sbz_ slz_
 rintro ⟨⟩ -
 refine sq ?_
 refine sr ?_
 iterate 3 refine ww ?_
 apply brAnd 3 14 17 (by exact rfl)
 ·
  intro hb1
  iterate 2 refine uw ?_
  refine ww ?_
  exact mg (by repeat (first | exact trivial | refine ⟨rfl, ?_⟩ | refine ⟨by rw [hb1]; rfl, ?_⟩)) slz_
 ·
  intro hb1
  repeat (first | refine uz ?_ | refine kz ?_ | refine wz ?_)
  exact mg (by repeat (first | exact trivial | refine ⟨rfl, ?_⟩ | refine ⟨by rw [hb1]; rfl, ?_⟩)) slz_
 refine nq ?_
 refine czz (fun h2 => ?_) fun h2 => ?_
 ·
  have hc := h2
  refine sr ?_
  iterate 4 refine ww ?_
  apply brAnd 4 21 25 (by exact rfl)
  ·
   intro hb3
   iterate 3 refine uw ?_
   refine ww ?_
   exact mg (by repeat (first | exact trivial | refine ⟨rfl, ?_⟩ | refine ⟨by rw [hb3]; rfl, ?_⟩)) slz_
  ·
   intro hb3
   repeat (first | refine uz ?_ | refine kz ?_ | refine wz ?_)
   exact mg (by repeat (first | exact trivial | refine ⟨rfl, ?_⟩ | refine ⟨by rw [hb3]; rfl, ?_⟩)) slz_
  refine ww ?_
  refine nq ?_
  refine rtn ?_
  refine q_then_ret ?_
  refine q_ret (hR := ?_)
  exact fun w hS => ⟨by unfold arePts; rw [hc]; rfl, hS.sub slz_⟩
 ·
  have hc := h2
  refine skp ?_
  refine q_seq ?_
  refine sr ?_
  iterate 8 refine ww ?_
  apply brOr 13 33 46 (by exact rfl)
  ·
   intro hb4
   iterate 12 refine uw ?_
   refine ww ?_
   exact mg (by repeat (first | exact trivial | refine ⟨rfl, ?_⟩ | refine ⟨by rw [hb4]; rfl, ?_⟩)) slz_
  ·
   intro hb4
   repeat (first | refine uz ?_ | refine kz ?_ | refine wz ?_)
   exact mg (by repeat (first | exact trivial | refine ⟨rfl, ?_⟩ | refine ⟨by rw [hb4]; rfl, ?_⟩)) slz_
  refine ww ?_
  refine nq ?_
  refine rtn ?_
  refine q_ret (hR := ?_)
  exact fun w hS => ⟨by unfold arePts; rw [hc]; rfl, hS.sub slz_⟩
end Go.Proofs.YtpmmgljndceplaaGreat

namespace Go.Proofs.YtpmmgljndceplaaGreat
open Go Go.RowKit

structure OX where
 (A1 : Option Addr) (c1 : Nat) (T : List MR) (A2 : Option Addr) (c2 : Nat) (U : List MR)
structure OA where
 (k : Nat) (T U : List MR) (A1 : Option Addr) (c1 : Nat) (A2 : Option Addr) (c2 : Nat)
structure OB where
 (k : Nat) (T U : List MR)
def OrdOk (f : Fmt) (s : Pr) (x : OX) : Prop := (Mx 45 x.T (mxV x.T) ∧ Mx 45 x.U (mxV x.U)) ∧ ∀ i j : Nat, i < 45 → j < 45 → (0 < gv x.T i j ↔ expT f s i j = some false) ∧ (gv x.U i j = 0 ↔ ¬ expT f s i j = some true)
theorem zero_mx {T : List MR} (hl : T.length = 45) (hz : ∀ h ∈ T, h.2.2 = zrow 45) : Mx 45 T (mxV T) ∧ ∀ i j, gv T i j = 0 := by
 refine ⟨⟨rfl, hl, fun h hh => by rw [hz h hh]; exact zrow_len 45⟩, fun i j => ?_⟩
 unfold gv
 cases h : T[i]? with
 | none => simp
 | some r =>
  rw [Option.getD_some, hz r (List.mem_of_getElem? h), zrow, List.getD_eq_getElem?_getD, List.getElem?_replicate]
  by_cases hj : j < 45
  ·
   rw [if_pos hj]; rfl
  ·
   rw [if_neg hj]; rfl
theorem tgt_at {sum a k : Nat} (hk : k < 2) (ha : a ≤ sum) : ∃ p1 p2 : Nat, addV ((a : Int), ((sum - a : Nat) : Int)) k = ((p1 : Int), (p2 : Int)) ∧ Tgt sum a k p1 p2 := by
 have : k = 0 ∨ k = 1 := by omega
 rcases this with rfl | rfl
 ·
  exact ⟨a + 1, sum - a, rfl, .inl ⟨rfl, by omega, by omega⟩⟩
 ·
  exact ⟨a, sum - a + 1, rfl, .inr ⟨rfl, rfl, by omega⟩⟩
set_option maxRecDepth 100000 in
set_option maxHeartbeats 4000000 in
theorem C_orders (f : Fmt) (last : Bool) (hf : f.Ok) (ht : TieOk f (ruleV f last)) (w : World) : CR Tryz.prog 118 [f.val, .bool last] w (OrdOk f (ruleV f last)) (fun x => .tuple #[.slice x.A1 45 x.c1, .slice x.A2 45 x.c2]) (fun x => [.own x.A1 x.c1 24 1 45 (mxV x.T), mxE 3 x.T, .own x.A2 x.c2 24 1 45 (mxV x.U), mxE 3 x.U]) := by
 have hg0 := hf.g0
 have hg1 := hf.g1
 refine ⟨en Tryz.func118 Tryz.ntmps118 (St.init w) (h := fun F => ?_)⟩
 refine sr ?_
 refine bxA (h := fun b0 => ?_)
 iterate 2 refine ww ?_
 refine nr ?_
 iterate 2 refine ww ?_
 refine cl0 (hc := fun w hS => C_ref1_Rule f last w) (h := ?_)
 iterate 5 refine ww ?_
 refine nq ?_
 iterate 2 refine sq ?_
 refine WC.nilOwn 24 1 (h := ?_)
 refine WC.nilOwn 24 1 (h := ?_)
 refine WC.mx0 3 (h := ?_)
 refine WC.mx0 3 (h := ?_)
 refine rg ?_
 refine ww ?_
 refine nq ?_
 refine bk ?_
 refine lp (X := OA) (I := fun z => (z.k ≤ 45 ∧ z.T.length = z.k ∧ z.U.length = z.k) ∧ (∀ h ∈ z.T, h.2.2 = zrow 45) ∧ (∀ h ∈ z.U, h.2.2 = zrow 45)) (le := fun z => [(2, .pointer (some ⟨b0, 0, none⟩)), (4, .slice z.A1 z.k z.c1), (5, .slice z.A2 z.k z.c2), (6, .int .i64 (ruleV f last).1), (8, .int .i64 z.k)]) (Le := fun z => [.own z.A1 z.c1 24 1 z.k (mxV z.T), .own z.A2 z.c2 24 1 z.k (mxV z.U), mxE 3 z.T, mxE 3 z.U, .blk b0 35 f.cells]) (μ := fun z => 45 - z.k) ⟨0, [], [], none, 0, none, 0⟩ ⟨⟨Nat.zero_le _, rfl, rfl⟩, fun h hh => (by cases hh), fun h hh => (by cases hh)⟩ sbz_ slz_ (fun z hz => ?_)
 obtain ⟨⟨hz1, hz2, hz3⟩, hz4, hz5⟩ := hz
 refine sq ?_
 refine sr ?_
 iterate 2 refine ww ?_
 refine nq ?_
 refine czz (fun h0 => ?_) fun h0 => ?_
 ·
  have hkn : z.k < 45 := by simp only [decide_eq_true_eq] at h0; omega
  refine skp ?_
  refine q_seq ?_
  refine sq ?_
  refine bk ?_
  refine rgD (by kernel_rfl) [(3, .own z.A1 z.c1 24 1 z.k (mxV z.T)), (7, .own z.A2 z.c2 24 1 z.k (mxV z.U)), (1000000, mxE 3 z.T), (1000000, mxE 3 z.U), (1000000, .blk b0 35 f.cells)] (by repeat (first | exact HS.nil | (apply HS.keep; (repeat (first | exact At.here | apply At.there))) | (apply HS.ro; (repeat (first | exact Rds.ro | exact Rds.own | apply Rds.there))))) (h := ?_)
  refine tw 0 ?_
  refine tw 4 ?_
  refine two 1 5 (h1 := ?_) (h2 := ?_)
  ·
   refine mks 45 (h := fun ga => ?_)
   refine nx (h := ?_)
   refine two 2 5 (h1 := ?_) (h2 := ?_)
   ·
    refine bs (h := fun b1 => ?_)
    refine nx (h := ?_)
    refine two 3 5 (h1 := ?_) (h2 := ?_)
    ·
     first | refine ap (h := fun A1 c1 => ?_) | refine ap0 (h := fun A1 c1 => ?_)
     refine nx (h := ?_)
     refine one 5 (h := ?_)
     refine mks 45 (h := fun gb => ?_)
     refine nx (h := ?_)
     refine one 6 (h := ?_)
     refine bs (h := fun b2 => ?_)
     refine nx (h := ?_)
     refine one 7 (h := ?_)
     first | refine ap (h := fun A2 c2 => ?_) | refine ap0 (h := fun A2 c2 => ?_)
     refine nx (h := ?_)
     refine tw 8 ?_
     refine tw 9 ?_
     refine dn (h := ?_)
     refine q_blk_norm ?_
     refine q_seq ?_
     rw [← mxV_z (some ⟨ga, 0, none⟩) 45 45, ← mxV_app, ← mxV_z (some ⟨gb, 0, none⟩) 45 45, ← mxV_app]
     refine WC.mxAdd (hs := z.T) (some ⟨ga, 0, none⟩) 45 (zrow 45) atz_ atz_ rfl (zrow_mi 45) ?_
     refine WC.mxAdd (hs := z.U) (some ⟨gb, 0, none⟩) 45 (zrow 45) atz_ atz_ rfl (zrow_mi 45) ?_
     refine rg ?_
     iterate 3 refine ww ?_
     refine nl ?_
     refine rn (x := z) ⟨z.k + 1, z.T ++ [(some ⟨ga, 0, none⟩, 45, zrow 45)], z.U ++ [(some ⟨gb, 0, none⟩, 45, zrow 45)], _, _, _, _⟩ ⟨⟨by dsimp only; omega, by dsimp only; rw [List.length_append, hz2]; rfl, by dsimp only; rw [List.length_append, hz3]; rfl⟩, fun h hh => by
      dsimp only at hh
      rcases List.mem_append.1 hh with hh | hh
      ·
       exact hz4 h hh
      ·
       simp only [List.mem_singleton] at hh; subst hh; rfl, fun h hh => by
      dsimp only at hh
      rcases List.mem_append.1 hh with hh | hh
      ·
       exact hz5 h hh
      ·
       simp only [List.mem_singleton] at hh; subst hh; rfl⟩ (by dsimp only; omega) sbz_ slz_
    ·
     refine mks 45 (h := fun gb => ?_)
     refine nx (h := ?_)
     refine two 3 6 (h1 := ?_) (h2 := ?_)
     ·
      first | refine ap (h := fun A3 c3 => ?_) | refine ap0 (h := fun A3 c3 => ?_)
      refine nx (h := ?_)
      refine one 6 (h := ?_)
      refine bs (h := fun b3 => ?_)
      refine nx (h := ?_)
      refine one 7 (h := ?_)
      first | refine ap (h := fun A4 c4 => ?_) | refine ap0 (h := fun A4 c4 => ?_)
      refine nx (h := ?_)
      refine tw 8 ?_
      refine tw 9 ?_
      refine dn (h := ?_)
      refine q_blk_norm ?_
      refine q_seq ?_
      rw [← mxV_z (some ⟨ga, 0, none⟩) 45 45, ← mxV_app, ← mxV_z (some ⟨gb, 0, none⟩) 45 45, ← mxV_app]
      refine WC.mxAdd (hs := z.T) (some ⟨ga, 0, none⟩) 45 (zrow 45) atz_ atz_ rfl (zrow_mi 45) ?_
      refine WC.mxAdd (hs := z.U) (some ⟨gb, 0, none⟩) 45 (zrow 45) atz_ atz_ rfl (zrow_mi 45) ?_
      refine rg ?_
      iterate 3 refine ww ?_
      refine nl ?_
      refine rn (x := z) ⟨z.k + 1, z.T ++ [(some ⟨ga, 0, none⟩, 45, zrow 45)], z.U ++ [(some ⟨gb, 0, none⟩, 45, zrow 45)], _, _, _, _⟩ ⟨⟨by dsimp only; omega, by dsimp only; rw [List.length_append, hz2]; rfl, by dsimp only; rw [List.length_append, hz3]; rfl⟩, fun h hh => by
       dsimp only at hh
       rcases List.mem_append.1 hh with hh | hh
       ·
        exact hz4 h hh
       ·
        simp only [List.mem_singleton] at hh; subst hh; rfl, fun h hh => by
       dsimp only at hh
       rcases List.mem_append.1 hh with hh | hh
       ·
        exact hz5 h hh
       ·
        simp only [List.mem_singleton] at hh; subst hh; rfl⟩ (by dsimp only; omega) sbz_ slz_
     ·
      refine bs (h := fun b4 => ?_)
      refine nx (h := ?_)
      refine one 3 (h := ?_)
      first | refine ap (h := fun A5 c5 => ?_) | refine ap0 (h := fun A5 c5 => ?_)
      refine nx (h := ?_)
      refine one 7 (h := ?_)
      first | refine ap (h := fun A6 c6 => ?_) | refine ap0 (h := fun A6 c6 => ?_)
      refine nx (h := ?_)
      refine tw 8 ?_
      refine tw 9 ?_
      refine dn (h := ?_)
      refine q_blk_norm ?_
      refine q_seq ?_
      rw [← mxV_z (some ⟨ga, 0, none⟩) 45 45, ← mxV_app, ← mxV_z (some ⟨gb, 0, none⟩) 45 45, ← mxV_app]
      refine WC.mxAdd (hs := z.T) (some ⟨ga, 0, none⟩) 45 (zrow 45) atz_ atz_ rfl (zrow_mi 45) ?_
      refine WC.mxAdd (hs := z.U) (some ⟨gb, 0, none⟩) 45 (zrow 45) atz_ atz_ rfl (zrow_mi 45) ?_
      refine rg ?_
      iterate 3 refine ww ?_
      refine nl ?_
      refine rn (x := z) ⟨z.k + 1, z.T ++ [(some ⟨ga, 0, none⟩, 45, zrow 45)], z.U ++ [(some ⟨gb, 0, none⟩, 45, zrow 45)], _, _, _, _⟩ ⟨⟨by dsimp only; omega, by dsimp only; rw [List.length_append, hz2]; rfl, by dsimp only; rw [List.length_append, hz3]; rfl⟩, fun h hh => by
       dsimp only at hh
       rcases List.mem_append.1 hh with hh | hh
       ·
        exact hz4 h hh
       ·
        simp only [List.mem_singleton] at hh; subst hh; rfl, fun h hh => by
       dsimp only at hh
       rcases List.mem_append.1 hh with hh | hh
       ·
        exact hz5 h hh
       ·
        simp only [List.mem_singleton] at hh; subst hh; rfl⟩ (by dsimp only; omega) sbz_ slz_
   ·
    refine mks 45 (h := fun gb => ?_)
    refine nx (h := ?_)
    refine two 2 6 (h1 := ?_) (h2 := ?_)
    ·
     refine bs (h := fun b5 => ?_)
     refine nx (h := ?_)
     refine two 3 6 (h1 := ?_) (h2 := ?_)
     ·
      first | refine ap (h := fun A7 c7 => ?_) | refine ap0 (h := fun A7 c7 => ?_)
      refine nx (h := ?_)
      refine one 6 (h := ?_)
      refine bs (h := fun b6 => ?_)
      refine nx (h := ?_)
      refine one 7 (h := ?_)
      first | refine ap (h := fun A8 c8 => ?_) | refine ap0 (h := fun A8 c8 => ?_)
      refine nx (h := ?_)
      refine tw 8 ?_
      refine tw 9 ?_
      refine dn (h := ?_)
      refine q_blk_norm ?_
      refine q_seq ?_
      rw [← mxV_z (some ⟨ga, 0, none⟩) 45 45, ← mxV_app, ← mxV_z (some ⟨gb, 0, none⟩) 45 45, ← mxV_app]
      refine WC.mxAdd (hs := z.T) (some ⟨ga, 0, none⟩) 45 (zrow 45) atz_ atz_ rfl (zrow_mi 45) ?_
      refine WC.mxAdd (hs := z.U) (some ⟨gb, 0, none⟩) 45 (zrow 45) atz_ atz_ rfl (zrow_mi 45) ?_
      refine rg ?_
      iterate 3 refine ww ?_
      refine nl ?_
      refine rn (x := z) ⟨z.k + 1, z.T ++ [(some ⟨ga, 0, none⟩, 45, zrow 45)], z.U ++ [(some ⟨gb, 0, none⟩, 45, zrow 45)], _, _, _, _⟩ ⟨⟨by dsimp only; omega, by dsimp only; rw [List.length_append, hz2]; rfl, by dsimp only; rw [List.length_append, hz3]; rfl⟩, fun h hh => by
       dsimp only at hh
       rcases List.mem_append.1 hh with hh | hh
       ·
        exact hz4 h hh
       ·
        simp only [List.mem_singleton] at hh; subst hh; rfl, fun h hh => by
       dsimp only at hh
       rcases List.mem_append.1 hh with hh | hh
       ·
        exact hz5 h hh
       ·
        simp only [List.mem_singleton] at hh; subst hh; rfl⟩ (by dsimp only; omega) sbz_ slz_
     ·
      refine bs (h := fun b7 => ?_)
      refine nx (h := ?_)
      refine one 3 (h := ?_)
      first | refine ap (h := fun A9 c9 => ?_) | refine ap0 (h := fun A9 c9 => ?_)
      refine nx (h := ?_)
      refine one 7 (h := ?_)
      first | refine ap (h := fun A10 c10 => ?_) | refine ap0 (h := fun A10 c10 => ?_)
      refine nx (h := ?_)
      refine tw 8 ?_
      refine tw 9 ?_
      refine dn (h := ?_)
      refine q_blk_norm ?_
      refine q_seq ?_
      rw [← mxV_z (some ⟨ga, 0, none⟩) 45 45, ← mxV_app, ← mxV_z (some ⟨gb, 0, none⟩) 45 45, ← mxV_app]
      refine WC.mxAdd (hs := z.T) (some ⟨ga, 0, none⟩) 45 (zrow 45) atz_ atz_ rfl (zrow_mi 45) ?_
      refine WC.mxAdd (hs := z.U) (some ⟨gb, 0, none⟩) 45 (zrow 45) atz_ atz_ rfl (zrow_mi 45) ?_
      refine rg ?_
      iterate 3 refine ww ?_
      refine nl ?_
      refine rn (x := z) ⟨z.k + 1, z.T ++ [(some ⟨ga, 0, none⟩, 45, zrow 45)], z.U ++ [(some ⟨gb, 0, none⟩, 45, zrow 45)], _, _, _, _⟩ ⟨⟨by dsimp only; omega, by dsimp only; rw [List.length_append, hz2]; rfl, by dsimp only; rw [List.length_append, hz3]; rfl⟩, fun h hh => by
       dsimp only at hh
       rcases List.mem_append.1 hh with hh | hh
       ·
        exact hz4 h hh
       ·
        simp only [List.mem_singleton] at hh; subst hh; rfl, fun h hh => by
       dsimp only at hh
       rcases List.mem_append.1 hh with hh | hh
       ·
        exact hz5 h hh
       ·
        simp only [List.mem_singleton] at hh; subst hh; rfl⟩ (by dsimp only; omega) sbz_ slz_
    ·
     refine bs (h := fun b8 => ?_)
     refine nx (h := ?_)
     refine one 2 (h := ?_)
     refine bs (h := fun b9 => ?_)
     refine nx (h := ?_)
     refine one 3 (h := ?_)
     first | refine ap (h := fun A11 c11 => ?_) | refine ap0 (h := fun A11 c11 => ?_)
     refine nx (h := ?_)
     refine one 7 (h := ?_)
     first | refine ap (h := fun A12 c12 => ?_) | refine ap0 (h := fun A12 c12 => ?_)
     refine nx (h := ?_)
     refine tw 8 ?_
     refine tw 9 ?_
     refine dn (h := ?_)
     refine q_blk_norm ?_
     refine q_seq ?_
     rw [← mxV_z (some ⟨ga, 0, none⟩) 45 45, ← mxV_app, ← mxV_z (some ⟨gb, 0, none⟩) 45 45, ← mxV_app]
     refine WC.mxAdd (hs := z.T) (some ⟨ga, 0, none⟩) 45 (zrow 45) atz_ atz_ rfl (zrow_mi 45) ?_
     refine WC.mxAdd (hs := z.U) (some ⟨gb, 0, none⟩) 45 (zrow 45) atz_ atz_ rfl (zrow_mi 45) ?_
     refine rg ?_
     iterate 3 refine ww ?_
     refine nl ?_
     refine rn (x := z) ⟨z.k + 1, z.T ++ [(some ⟨ga, 0, none⟩, 45, zrow 45)], z.U ++ [(some ⟨gb, 0, none⟩, 45, zrow 45)], _, _, _, _⟩ ⟨⟨by dsimp only; omega, by dsimp only; rw [List.length_append, hz2]; rfl, by dsimp only; rw [List.length_append, hz3]; rfl⟩, fun h hh => by
      dsimp only at hh
      rcases List.mem_append.1 hh with hh | hh
      ·
       exact hz4 h hh
      ·
       simp only [List.mem_singleton] at hh; subst hh; rfl, fun h hh => by
      dsimp only at hh
      rcases List.mem_append.1 hh with hh | hh
      ·
       exact hz5 h hh
      ·
       simp only [List.mem_singleton] at hh; subst hh; rfl⟩ (by dsimp only; omega) sbz_ slz_
  ·
   refine mks 45 (h := fun gb => ?_)
   refine nx (h := ?_)
   refine two 1 6 (h1 := ?_) (h2 := ?_)
   ·
    refine mks 45 (h := fun ga => ?_)
    refine nx (h := ?_)
    refine two 2 6 (h1 := ?_) (h2 := ?_)
    ·
     refine bs (h := fun b10 => ?_)
     refine nx (h := ?_)
     refine two 3 6 (h1 := ?_) (h2 := ?_)
     ·
      first | refine ap (h := fun A13 c13 => ?_) | refine ap0 (h := fun A13 c13 => ?_)
      refine nx (h := ?_)
      refine one 6 (h := ?_)
      refine bs (h := fun b11 => ?_)
      refine nx (h := ?_)
      refine one 7 (h := ?_)
      first | refine ap (h := fun A14 c14 => ?_) | refine ap0 (h := fun A14 c14 => ?_)
      refine nx (h := ?_)
      refine tw 8 ?_
      refine tw 9 ?_
      refine dn (h := ?_)
      refine q_blk_norm ?_
      refine q_seq ?_
      rw [← mxV_z (some ⟨ga, 0, none⟩) 45 45, ← mxV_app, ← mxV_z (some ⟨gb, 0, none⟩) 45 45, ← mxV_app]
      refine WC.mxAdd (hs := z.T) (some ⟨ga, 0, none⟩) 45 (zrow 45) atz_ atz_ rfl (zrow_mi 45) ?_
      refine WC.mxAdd (hs := z.U) (some ⟨gb, 0, none⟩) 45 (zrow 45) atz_ atz_ rfl (zrow_mi 45) ?_
      refine rg ?_
      iterate 3 refine ww ?_
      refine nl ?_
      refine rn (x := z) ⟨z.k + 1, z.T ++ [(some ⟨ga, 0, none⟩, 45, zrow 45)], z.U ++ [(some ⟨gb, 0, none⟩, 45, zrow 45)], _, _, _, _⟩ ⟨⟨by dsimp only; omega, by dsimp only; rw [List.length_append, hz2]; rfl, by dsimp only; rw [List.length_append, hz3]; rfl⟩, fun h hh => by
       dsimp only at hh
       rcases List.mem_append.1 hh with hh | hh
       ·
        exact hz4 h hh
       ·
        simp only [List.mem_singleton] at hh; subst hh; rfl, fun h hh => by
       dsimp only at hh
       rcases List.mem_append.1 hh with hh | hh
       ·
        exact hz5 h hh
       ·
        simp only [List.mem_singleton] at hh; subst hh; rfl⟩ (by dsimp only; omega) sbz_ slz_
     ·
      refine bs (h := fun b12 => ?_)
      refine nx (h := ?_)
      refine one 3 (h := ?_)
      first | refine ap (h := fun A15 c15 => ?_) | refine ap0 (h := fun A15 c15 => ?_)
      refine nx (h := ?_)
      refine one 7 (h := ?_)
      first | refine ap (h := fun A16 c16 => ?_) | refine ap0 (h := fun A16 c16 => ?_)
      refine nx (h := ?_)
      refine tw 8 ?_
      refine tw 9 ?_
      refine dn (h := ?_)
      refine q_blk_norm ?_
      refine q_seq ?_
      rw [← mxV_z (some ⟨ga, 0, none⟩) 45 45, ← mxV_app, ← mxV_z (some ⟨gb, 0, none⟩) 45 45, ← mxV_app]
      refine WC.mxAdd (hs := z.T) (some ⟨ga, 0, none⟩) 45 (zrow 45) atz_ atz_ rfl (zrow_mi 45) ?_
      refine WC.mxAdd (hs := z.U) (some ⟨gb, 0, none⟩) 45 (zrow 45) atz_ atz_ rfl (zrow_mi 45) ?_
      refine rg ?_
      iterate 3 refine ww ?_
      refine nl ?_
      refine rn (x := z) ⟨z.k + 1, z.T ++ [(some ⟨ga, 0, none⟩, 45, zrow 45)], z.U ++ [(some ⟨gb, 0, none⟩, 45, zrow 45)], _, _, _, _⟩ ⟨⟨by dsimp only; omega, by dsimp only; rw [List.length_append, hz2]; rfl, by dsimp only; rw [List.length_append, hz3]; rfl⟩, fun h hh => by
       dsimp only at hh
       rcases List.mem_append.1 hh with hh | hh
       ·
        exact hz4 h hh
       ·
        simp only [List.mem_singleton] at hh; subst hh; rfl, fun h hh => by
       dsimp only at hh
       rcases List.mem_append.1 hh with hh | hh
       ·
        exact hz5 h hh
       ·
        simp only [List.mem_singleton] at hh; subst hh; rfl⟩ (by dsimp only; omega) sbz_ slz_
    ·
     refine bs (h := fun b13 => ?_)
     refine nx (h := ?_)
     refine one 2 (h := ?_)
     refine bs (h := fun b14 => ?_)
     refine nx (h := ?_)
     refine one 3 (h := ?_)
     first | refine ap (h := fun A17 c17 => ?_) | refine ap0 (h := fun A17 c17 => ?_)
     refine nx (h := ?_)
     refine one 7 (h := ?_)
     first | refine ap (h := fun A18 c18 => ?_) | refine ap0 (h := fun A18 c18 => ?_)
     refine nx (h := ?_)
     refine tw 8 ?_
     refine tw 9 ?_
     refine dn (h := ?_)
     refine q_blk_norm ?_
     refine q_seq ?_
     rw [← mxV_z (some ⟨ga, 0, none⟩) 45 45, ← mxV_app, ← mxV_z (some ⟨gb, 0, none⟩) 45 45, ← mxV_app]
     refine WC.mxAdd (hs := z.T) (some ⟨ga, 0, none⟩) 45 (zrow 45) atz_ atz_ rfl (zrow_mi 45) ?_
     refine WC.mxAdd (hs := z.U) (some ⟨gb, 0, none⟩) 45 (zrow 45) atz_ atz_ rfl (zrow_mi 45) ?_
     refine rg ?_
     iterate 3 refine ww ?_
     refine nl ?_
     refine rn (x := z) ⟨z.k + 1, z.T ++ [(some ⟨ga, 0, none⟩, 45, zrow 45)], z.U ++ [(some ⟨gb, 0, none⟩, 45, zrow 45)], _, _, _, _⟩ ⟨⟨by dsimp only; omega, by dsimp only; rw [List.length_append, hz2]; rfl, by dsimp only; rw [List.length_append, hz3]; rfl⟩, fun h hh => by
      dsimp only at hh
      rcases List.mem_append.1 hh with hh | hh
      ·
       exact hz4 h hh
      ·
       simp only [List.mem_singleton] at hh; subst hh; rfl, fun h hh => by
      dsimp only at hh
      rcases List.mem_append.1 hh with hh | hh
      ·
       exact hz5 h hh
      ·
       simp only [List.mem_singleton] at hh; subst hh; rfl⟩ (by dsimp only; omega) sbz_ slz_
   ·
    refine bs (h := fun b15 => ?_)
    refine nx (h := ?_)
    refine one 1 (h := ?_)
    refine mks 45 (h := fun ga => ?_)
    refine nx (h := ?_)
    refine one 2 (h := ?_)
    refine bs (h := fun b16 => ?_)
    refine nx (h := ?_)
    refine one 3 (h := ?_)
    first | refine ap (h := fun A19 c19 => ?_) | refine ap0 (h := fun A19 c19 => ?_)
    refine nx (h := ?_)
    refine one 7 (h := ?_)
    first | refine ap (h := fun A20 c20 => ?_) | refine ap0 (h := fun A20 c20 => ?_)
    refine nx (h := ?_)
    refine tw 8 ?_
    refine tw 9 ?_
    refine dn (h := ?_)
    refine q_blk_norm ?_
    refine q_seq ?_
    rw [← mxV_z (some ⟨ga, 0, none⟩) 45 45, ← mxV_app, ← mxV_z (some ⟨gb, 0, none⟩) 45 45, ← mxV_app]
    refine WC.mxAdd (hs := z.T) (some ⟨ga, 0, none⟩) 45 (zrow 45) atz_ atz_ rfl (zrow_mi 45) ?_
    refine WC.mxAdd (hs := z.U) (some ⟨gb, 0, none⟩) 45 (zrow 45) atz_ atz_ rfl (zrow_mi 45) ?_
    refine rg ?_
    iterate 3 refine ww ?_
    refine nl ?_
    refine rn (x := z) ⟨z.k + 1, z.T ++ [(some ⟨ga, 0, none⟩, 45, zrow 45)], z.U ++ [(some ⟨gb, 0, none⟩, 45, zrow 45)], _, _, _, _⟩ ⟨⟨by dsimp only; omega, by dsimp only; rw [List.length_append, hz2]; rfl, by dsimp only; rw [List.length_append, hz3]; rfl⟩, fun h hh => by
     dsimp only at hh
     rcases List.mem_append.1 hh with hh | hh
     ·
      exact hz4 h hh
     ·
      simp only [List.mem_singleton] at hh; subst hh; rfl, fun h hh => by
     dsimp only at hh
     rcases List.mem_append.1 hh with hh | hh
     ·
      exact hz5 h hh
     ·
      simp only [List.mem_singleton] at hh; subst hh; rfl⟩ (by dsimp only; omega) sbz_ slz_
 ·
  have hkn : z.k = 45 := by simp only [decide_eq_false_iff_not] at h0; omega
  obtain ⟨k0, T0, U0, O1, c1, O2, c2⟩ := z
  dsimp only at hkn hz1 hz2 hz3 hz4 hz5 ⊢
  subst hkn
  obtain ⟨hM1, hG1⟩ := zero_mx hz2 hz4
  obtain ⟨hM2, hG2⟩ := zero_mx hz3 hz5
  obtain ⟨RA, Rc, Rx, hr0, hrl, hrv, hrg, hrd⟩ := hM1.at (a := 0) (by omega)
  have hM1' := hM1.set hr0 0 1
  have hI0 : OrdI f (ruleV f last) 0 0 0 (T0.set 0 (RA, Rc, Rx.set 0 1)) U0 := ord_init (fun i j hi hj => by rw [gv_set hr0 (by omega), hG1]) (fun i j _ _ => hG2 i j)
  refine et ?_
  iterate 2 refine q_then_exit ?_
  refine q_blk_hit ?_
  refine q_seq ?_
  refine sr ?_
  refine ww ?_
  refine wy (ix (A := O1) (m := 45)) ?_
  refine wy (ldE (A := O1) (hk := hrv)) ?_
  refine wy (ix (A := RA) (m := 45) (hr := by repeat (first | exact Rds.any (hrd 3) | apply Rds.there))) ?_
  refine WL.mxAt (hs := T0) hr0 atz_ ?_
  refine stE (A := RA) (k := 0) (j := 0) (hk := mI_at (l := Rx) (k := 0) (by omega)) (h := ?_)
  rw [show (mI Rx).set 0 ([Value.int .i64 (Rx.getD 0 0)].set 0 (.int .i64 1)) = mI (Rx.set 0 1) from mI_set Rx 0 1]
  refine WL.mxPut (hs := T0) RA Rc (Rx.set 0 1) hr0 atz_ atz_ (by rw [List.length_set]) rfl ?_
  refine nq ?_
  refine sq ?_
  refine sr ?_
  refine ww ?_
  refine nq ?_
  refine bk ?_
  refine lp (X := OB) (I := fun z => (z.k ≤ 88 ∧ Mx 45 z.T (mxV T0) ∧ Mx 45 z.U (mxV U0)) ∧ OrdI f (ruleV f last) z.k (max 0 ((z.k : Int) - 44)) 0 z.T z.U) (le := fun z => [(2, .pointer (some ⟨b0, 0, none⟩)), (4, .slice O1 45 c1), (5, .slice O2 45 c2), (6, .int .i64 (ruleV f last).1), (9, .int .i64 z.k)]) (Le := fun z => [.own O1 c1 24 1 45 (mxV T0), .own O2 c2 24 1 45 (mxV U0), mxE 3 z.T, mxE 3 z.U, .blk b0 35 f.cells]) (μ := fun z => 88 - z.k) ⟨0, T0.set 0 (RA, Rc, Rx.set 0 1), U0⟩ ⟨⟨Nat.zero_le _, hM1', hM2⟩, hI0⟩ sbz_ slz_ (fun z hz => ?_)
  obtain ⟨⟨hzk, hz1, hz2⟩, hzI⟩ := hz
  refine sq ?_
  refine sr ?_
  iterate 2 refine ww ?_
  refine nq ?_
  refine czz (fun h1 => ?_) fun h1 => ?_
  ·
   have hkn : z.k < 88 := by simp only [decide_eq_true_eq] at h1; omega
   refine skp ?_
   refine q_seq ?_
   refine sq ?_
   refine bk ?_
   refine sr ?_
   iterate 4 refine ww ?_
   rw [show max (0 : Int) ((z.k : Int) - 44) = ((z.k - 44 : Nat) : Int) by omega]
   refine nq ?_
   refine bk ?_
   refine lp (X := OB) (I := fun u => (z.k - 44 ≤ u.k ∧ u.k ≤ min z.k 44 + 1 ∧ Mx 45 u.T (mxV T0) ∧ Mx 45 u.U (mxV U0)) ∧ OrdI f (ruleV f last) z.k u.k 0 u.T u.U) (le := fun u => [(2, .pointer (some ⟨b0, 0, none⟩)), (4, .slice O1 45 c1), (5, .slice O2 45 c2), (6, .int .i64 (ruleV f last).1), (9, .int .i64 z.k), (10, .int .i64 u.k)]) (Le := fun u => [.own O1 c1 24 1 45 (mxV T0), .own O2 c2 24 1 45 (mxV U0), mxE 3 u.T, mxE 3 u.U, .blk b0 35 f.cells]) (μ := fun u => 46 - u.k) ⟨z.k - 44, z.T, z.U⟩ ⟨⟨Nat.le_refl _, by dsimp only; omega, hz1, hz2⟩, by dsimp only; rw [show ((z.k - 44 : Nat) : Int) = max 0 ((z.k : Int) - 44) by omega]; exact hzI⟩ sbz_ slz_ (fun u hu => ?_)
   obtain ⟨⟨hu0, huk', hu1, hu2⟩, huI⟩ := hu
   refine sq ?_
   refine sr ?_
   iterate 4 refine ww ?_
   refine nq ?_
   refine czz (fun h2 => ?_) fun h2 => ?_
   ·
    have huk : u.k ≤ min z.k 44 := by simp only [decide_eq_true_eq] at h2; omega
    refine skp ?_
    refine q_seq ?_
    refine sq ?_
    refine bk ?_
    refine sr ?_
    iterate 4 refine ww ?_
    rw [show (z.k : Int) - (u.k : Int) = ((z.k - u.k : Nat) : Int) by omega]
    refine nr ?_
    refine ww ?_
    refine nq ?_
    refine bk ?_
    refine lp (X := OB) (I := fun v => (v.k ≤ 2 ∧ Mx 45 v.T (mxV T0) ∧ Mx 45 v.U (mxV U0)) ∧ OrdI f (ruleV f last) z.k u.k v.k v.T v.U) (le := fun v => [(2, .pointer (some ⟨b0, 0, none⟩)), (4, .slice O1 45 c1), (5, .slice O2 45 c2), (6, .int .i64 (ruleV f last).1), (9, .int .i64 z.k), (10, .int .i64 u.k), (11, .int .i64 ((z.k - u.k : Nat) : Int)), (12, .int .i64 v.k)]) (Le := fun v => [.own O1 c1 24 1 45 (mxV T0), .own O2 c2 24 1 45 (mxV U0), mxE 3 v.T, mxE 3 v.U, .blk b0 35 f.cells]) (μ := fun v => 2 - v.k) ⟨0, u.T, u.U⟩ ⟨⟨Nat.zero_le _, hu1, hu2⟩, huI⟩ sbz_ slz_ (fun v hv => ?_)
    obtain ⟨⟨hvk, hv1, hv2⟩, hvI⟩ := hv
    obtain ⟨XA, Xc, Xx, hxr, hxl, hxv, hxg, hxd⟩ := hv1.at (a := u.k) (by omega)
    refine sq ?_
    refine sr ?_
    iterate 3 refine ww ?_
    apply brAnd 9 54 63 (by exact rfl)
    ·
     intro hb3
     iterate 2 refine uw ?_
     refine uz ?_
     refine wy (ix (A := O1) (m := 45)) ?_
     refine uz ?_
     refine wy (ldE (A := O1) (hk := hxv)) ?_
     refine uw ?_
     refine uz ?_
     refine wy (ix (A := XA) (m := 45) (hr := by repeat (first | exact Rds.any (hxd 3) | apply Rds.there))) ?_
     refine uz ?_
     refine wy (ldE (A := XA) (hr := by repeat (first | exact Rds.any (hxd 3) | apply Rds.there)) (hk := mI_at (k := z.k - u.k) (by omega))) ?_
     refine uw ?_
     refine ww ?_
     exact mg (by repeat (first | exact trivial | refine ⟨rfl, ?_⟩ | refine ⟨by rw [hb3]; rfl, ?_⟩)) slz_
    ·
     intro hb3
     repeat (first | refine uz ?_ | refine kz ?_ | refine wz ?_)
     exact mg (by repeat (first | exact trivial | refine ⟨rfl, ?_⟩ | refine ⟨by rw [hb3]; rfl, ?_⟩)) slz_
    refine nq ?_
    refine czz (fun h4 => ?_) fun h4 => ?_
    ·
     have hg := h4
     simp only [Bool.and_eq_true, decide_eq_true_eq] at hg
     have hk2 : v.k < 2 := by omega
     have hop : OpenP f (ruleV f last) u.k ((z.k : Int) - u.k) := by
      have h1 := (hvI.t u.k (z.k - u.k) (by omega) (by omega)).2.1 (by rw [hxg]; exact hg.2)
      rw [show ((z.k - u.k : Nat) : Int) = (z.k : Int) - u.k by omega] at h1
      exact (pos_open ht (by omega)).1 h1
     obtain ⟨p1, p2, hp12, htg⟩ := tgt_at (sum := z.k) (a := u.k) hk2 (by omega)
     have htg' := htg
     unfold Tgt at htg'
     have hSm : Sm ((u.k : Int), ((z.k - u.k : Nat) : Int)) := ⟨by dsimp only; omega, by dsimp only; omega⟩
     have hSp : Sm ((p1 : Int), (p2 : Int)) := ⟨by dsimp only; omega, by dsimp only; omega⟩
     have hEe : EndP f (ruleV f last) u.k ((z.k : Int) - u.k) v.k = (decide (0 ≤ (ruleV f last).1) && decide ((u.k : Int) = (ruleV f last).1) && decide (((z.k - u.k : Nat) : Int) = (ruleV f last).1) || decide (0 ≤ leadsV ((p1 : Int), (p2 : Int)) f.games 2)) := by
      rw [show (z.k : Int) - u.k = ((z.k - u.k : Nat) : Int) by omega, EndP, hp12, brksV]
      by_cases hs0 : 0 ≤ (ruleV f last).1
      ·
       rw [decide_eq_true hs0, Bool.true_and]
      ·
       rw [decide_eq_false hs0, decide_eq_false (show ¬ (u.k : Int) = (ruleV f last).1 by omega)]; rfl
     have hvT := hvI.t u.k (z.k - u.k) (by omega) (by omega)
     rw [hxg] at hvT
     have hMW : MW = 1000000000001 := rfl
     refine skp ?_
     refine q_seq ?_
     refine sq ?_
     refine bk ?_
     refine sr ?_
     iterate 4 refine ww ?_
     refine cl0 (hc := fun w hS => C_ref1_plus ((u.k : Int), ((z.k - u.k : Nat) : Int)) v.k hSm w) (h := ?_)
     rw [hp12]
     refine al (h := fun b17 => ?_)
     first | refine stA (h := ?_) | refine stEA (h := ?_)
     refine nq ?_
     refine sq ?_
     refine sr ?_
     iterate 4 refine ww ?_
     apply brOr 4 74 78 (by exact rfl)
     ·
      intro hb5
      iterate 3 refine uw ?_
      refine ww ?_
      exact mg (by repeat (first | exact trivial | refine ⟨rfl, ?_⟩ | refine ⟨by rw [hb5]; rfl, ?_⟩)) slz_
     ·
      intro hb5
      repeat (first | refine uz ?_ | refine kz ?_ | refine wz ?_)
      exact mg (by repeat (first | exact trivial | refine ⟨rfl, ?_⟩ | refine ⟨by rw [hb5]; rfl, ?_⟩)) slz_
     refine nq ?_
     refine czz (fun h6 => ?_) fun h6 => ?_
     ·
      have hnx := ord_out hvI (by simp only [Bool.or_eq_true, decide_eq_true_eq] at h6; omega)
      refine et ?_
      refine q_then_exit ?_
      refine q_blk_hit ?_
      refine q_seq ?_
      refine rg ?_
      iterate 3 refine ww ?_
      refine nl ?_
      first
       | refine rn (x := v) ⟨v.k + 1, v.T, v.U⟩ ⟨⟨by dsimp only; omega, hv1, hv2⟩, by dsimp only; rw [Int.natCast_add]; exact hnx⟩ (by dsimp only; omega) sbz_ slz_
       | refine rn (x := v) ⟨v.k + 1, v.T, v.U.set p1 (YA, Yc, Yx.set p2 (min 1000000000001 (Yx.getD p2 0 + Xx.getD (z.k - u.k) 0)))⟩ ⟨⟨by dsimp only; omega, hv1, hM'⟩, by dsimp only; rw [Int.natCast_add]; exact hnx⟩ (by dsimp only; omega) sbz_ slz_
       | refine rn (x := v) ⟨v.k + 1, v.T.set p1 (YA, Yc, Yx.set p2 (min 1000000000001 (Yx.getD p2 0 + Xx.getD (z.k - u.k) 0))), v.U⟩ ⟨⟨by dsimp only; omega, hM', hv2⟩, by dsimp only; rw [Int.natCast_add]; exact hnx⟩ (by dsimp only; omega) sbz_ slz_
     ·
      have hpb : p1 < 45 ∧ p2 < 45 := by simp only [Bool.or_eq_false_iff, decide_eq_false_iff_not] at h6; omega
      refine skp ?_
      refine q_seq ?_
      refine sr ?_
      iterate 3 refine ww ?_
      apply brAnd 4 81 85 (by exact rfl)
      ·
       intro hb7
       iterate 3 refine uw ?_
       refine ww ?_
       exact mg (by repeat (first | exact trivial | refine ⟨rfl, ?_⟩ | refine ⟨by rw [hb7]; rfl, ?_⟩)) slz_
      ·
       intro hb7
       repeat (first | refine uz ?_ | refine kz ?_ | refine wz ?_)
       exact mg (by repeat (first | exact trivial | refine ⟨rfl, ?_⟩ | refine ⟨by rw [hb7]; rfl, ?_⟩)) slz_
      refine ww ?_
      apply brAnd 4 86 90 (by exact rfl)
      ·
       intro hb8
       iterate 3 refine uw ?_
       refine ww ?_
       exact mg (by repeat (first | exact trivial | refine ⟨rfl, ?_⟩ | refine ⟨by rw [hb8]; rfl, ?_⟩)) slz_
      ·
       intro hb8
       repeat (first | refine uz ?_ | refine kz ?_ | refine wz ?_)
       exact mg (by repeat (first | exact trivial | refine ⟨rfl, ?_⟩ | refine ⟨by rw [hb8]; rfl, ?_⟩)) slz_
      refine ww ?_
      apply brOr 6 91 97 (by exact rfl)
      ·
       intro hb9
       iterate 3 refine uw ?_
       refine uz ?_
       refine cl0 (hc := fun w hS => C_ref1_leads ((p1 : Int), (p2 : Int)) f.games hSp w) (h := ?_)
       refine uw ?_
       refine ww ?_
       exact mg (by repeat (first | exact trivial | refine ⟨rfl, ?_⟩ | refine ⟨by rw [hb9]; rfl, ?_⟩)) slz_
      ·
       intro hb9
       repeat (first | refine uz ?_ | refine kz ?_ | refine wz ?_)
       exact mg (by repeat (first | exact trivial | refine ⟨rfl, ?_⟩ | refine ⟨by rw [hb9]; rfl, ?_⟩)) slz_
      refine nq ?_
      refine czz (fun h10 => ?_) fun h10 => ?_
      ·
       have he : EndP f (ruleV f last) u.k ((z.k : Int) - u.k) v.k = true := hEe.trans h10
       obtain ⟨YA, Yc, Yx, hyr, hyl, hyv, hyg, hyd⟩ := hv2.at hpb.1
       have hvY := hvI.u p1 p2 hpb.1 hpb.2
       rw [hyg] at hvY
       have hM' := hv2.set hyr p2 (min 1000000000001 (Yx.getD p2 0 + Xx.getD (z.k - u.k) 0))
       have hnx := ord_U hvI htg hop he (v := min 1000000000001 (Yx.getD p2 0 + Xx.getD (z.k - u.k) 0)) (by omega) (fun x y => gv_set hyr (by omega) _ x y)
       refine rgD (by kernel_rfl) [(26, mxE 3 v.U), (1000000, mxE 3 v.T), (1000000, .blk b17 38 [.int .i64 p1, .int .i64 p2]), (1000000, .own O1 c1 24 1 45 (mxV T0)), (1000000, .own O2 c2 24 1 45 (mxV U0)), (1000000, .blk b0 35 f.cells)] (by repeat (first | exact HS.nil | (apply HS.keep; (repeat (first | exact At.here | apply At.there))) | (apply HS.ro; (repeat (first | exact Rds.ro | exact Rds.own | apply Rds.there))))) (h := ?_)
       refine tw 0 ?_
       refine tw 1 ?_
       refine tw 2 ?_
       refine tk 3 (hy := ix (A := O2) (m := 45)) (h := ?_)
       refine tk 4 (hy := ldE (A := O2) (hk := hyv)) (h := ?_)
       refine tw 5 ?_
       refine tw 6 ?_
       refine tw 7 ?_
       refine tw 8 ?_
       refine tw 9 ?_
       refine tk 10 (hy := ix (A := O2) (m := 45)) (h := ?_)
       refine tk 11 (hy := ldE (A := O2) (hk := hyv)) (h := ?_)
       refine tw 12 ?_
       refine tw 13 ?_
       refine tk 14 (hy := ix (A := YA) (m := 45) (hr := by repeat (first | exact Rds.any (hyd 3) | apply Rds.there))) (h := ?_)
       refine tk 15 (hy := ldE (A := YA) (hr := by repeat (first | exact Rds.any (hyd 3) | apply Rds.there)) (hk := mI_at (k := p2) (by omega))) (h := ?_)
       refine tw 16 ?_
       refine tw 17 ?_
       refine tk 18 (hy := ix (A := O1) (m := 45)) (h := ?_)
       refine tk 19 (hy := ldE (A := O1) (hk := hxv)) (h := ?_)
       refine tw 20 ?_
       refine tk 21 (hy := ix (A := XA) (m := 45) (hr := by repeat (first | exact Rds.any (hxd 3) | apply Rds.there))) (h := ?_)
       refine tk 22 (hy := ldE (A := XA) (hr := by repeat (first | exact Rds.any (hxd 3) | apply Rds.there)) (hk := mI_at (k := z.k - u.k) (by omega))) (h := ?_)
       refine tw 23 ?_
       refine tw 24 ?_
       refine tk 25 (hy := ix (A := YA) (m := 45) (hr := by repeat (first | exact Rds.any (hyd 3) | apply Rds.there))) (h := ?_)
       refine one 26 (h := ?_)
       refine WL.mxAt (hs := v.U) hyr atz_ ?_
       refine stE (A := YA) (k := p2) (j := 0) (hk := mI_at (l := Yx) (k := p2) (by omega)) (h := ?_)
       rw [show (mI Yx).set p2 ([Value.int .i64 (Yx.getD p2 0)].set 0 (.int .i64 (min 1000000000001 (Yx.getD p2 0 + Xx.getD (z.k - u.k) 0)))) = mI (Yx.set p2 (min 1000000000001 (Yx.getD p2 0 + Xx.getD (z.k - u.k) 0))) from mI_set Yx p2 _]
       refine WL.mxPut (hs := v.U) YA Yc (Yx.set p2 (min 1000000000001 (Yx.getD p2 0 + Xx.getD (z.k - u.k) 0))) hyr atz_ atz_ (by rw [List.length_set]) rfl ?_
       refine nx (h := ?_)
       refine dn (h := ?_)
       refine q_blk_norm ?_
       refine q_seq ?_
       refine rg ?_
       iterate 3 refine ww ?_
       refine nl ?_
       first
        | refine rn (x := v) ⟨v.k + 1, v.T, v.U⟩ ⟨⟨by dsimp only; omega, hv1, hv2⟩, by dsimp only; rw [Int.natCast_add]; exact hnx⟩ (by dsimp only; omega) sbz_ slz_
        | refine rn (x := v) ⟨v.k + 1, v.T, v.U.set p1 (YA, Yc, Yx.set p2 (min 1000000000001 (Yx.getD p2 0 + Xx.getD (z.k - u.k) 0)))⟩ ⟨⟨by dsimp only; omega, hv1, hM'⟩, by dsimp only; rw [Int.natCast_add]; exact hnx⟩ (by dsimp only; omega) sbz_ slz_
        | refine rn (x := v) ⟨v.k + 1, v.T.set p1 (YA, Yc, Yx.set p2 (min 1000000000001 (Yx.getD p2 0 + Xx.getD (z.k - u.k) 0))), v.U⟩ ⟨⟨by dsimp only; omega, hM', hv2⟩, by dsimp only; rw [Int.natCast_add]; exact hnx⟩ (by dsimp only; omega) sbz_ slz_
      ·
       have he : EndP f (ruleV f last) u.k ((z.k : Int) - u.k) v.k = false := hEe.trans h10
       obtain ⟨YA, Yc, Yx, hyr, hyl, hyv, hyg, hyd⟩ := hv1.at hpb.1
       have hvY := hvI.t p1 p2 hpb.1 hpb.2
       rw [hyg] at hvY
       have hM' := hv1.set hyr p2 (min 1000000000001 (Yx.getD p2 0 + Xx.getD (z.k - u.k) 0))
       have hnx := ord_T hvI htg hop he (v := min 1000000000001 (Yx.getD p2 0 + Xx.getD (z.k - u.k) 0)) (by omega) (fun x y => gv_set hyr (by omega) _ x y)
       refine rgD (by kernel_rfl) [(26, mxE 3 v.T), (1000000, mxE 3 v.U), (1000000, .blk b17 38 [.int .i64 p1, .int .i64 p2]), (1000000, .own O1 c1 24 1 45 (mxV T0)), (1000000, .own O2 c2 24 1 45 (mxV U0)), (1000000, .blk b0 35 f.cells)] (by repeat (first | exact HS.nil | (apply HS.keep; (repeat (first | exact At.here | apply At.there))) | (apply HS.ro; (repeat (first | exact Rds.ro | exact Rds.own | apply Rds.there))))) (h := ?_)
       refine tw 0 ?_
       refine tw 1 ?_
       refine tw 2 ?_
       refine tk 3 (hy := ix (A := O1) (m := 45)) (h := ?_)
       refine tk 4 (hy := ldE (A := O1) (hk := hyv)) (h := ?_)
       refine tw 5 ?_
       refine tw 6 ?_
       refine tw 7 ?_
       refine tw 8 ?_
       refine tw 9 ?_
       refine tk 10 (hy := ix (A := O1) (m := 45)) (h := ?_)
       refine tk 11 (hy := ldE (A := O1) (hk := hyv)) (h := ?_)
       refine tw 12 ?_
       refine tw 13 ?_
       refine tk 14 (hy := ix (A := YA) (m := 45) (hr := by repeat (first | exact Rds.any (hyd 3) | apply Rds.there))) (h := ?_)
       refine tk 15 (hy := ldE (A := YA) (hr := by repeat (first | exact Rds.any (hyd 3) | apply Rds.there)) (hk := mI_at (k := p2) (by omega))) (h := ?_)
       refine tw 16 ?_
       refine tw 17 ?_
       refine tk 18 (hy := ix (A := O1) (m := 45)) (h := ?_)
       refine tk 19 (hy := ldE (A := O1) (hk := hxv)) (h := ?_)
       refine tw 20 ?_
       refine tk 21 (hy := ix (A := XA) (m := 45) (hr := by repeat (first | exact Rds.any (hxd 3) | apply Rds.there))) (h := ?_)
       refine tk 22 (hy := ldE (A := XA) (hr := by repeat (first | exact Rds.any (hxd 3) | apply Rds.there)) (hk := mI_at (k := z.k - u.k) (by omega))) (h := ?_)
       refine tw 23 ?_
       refine tw 24 ?_
       refine tk 25 (hy := ix (A := YA) (m := 45) (hr := by repeat (first | exact Rds.any (hyd 3) | apply Rds.there))) (h := ?_)
       refine one 26 (h := ?_)
       refine WL.mxAt (hs := v.T) hyr atz_ ?_
       refine stE (A := YA) (k := p2) (j := 0) (hk := mI_at (l := Yx) (k := p2) (by omega)) (h := ?_)
       rw [show (mI Yx).set p2 ([Value.int .i64 (Yx.getD p2 0)].set 0 (.int .i64 (min 1000000000001 (Yx.getD p2 0 + Xx.getD (z.k - u.k) 0)))) = mI (Yx.set p2 (min 1000000000001 (Yx.getD p2 0 + Xx.getD (z.k - u.k) 0))) from mI_set Yx p2 _]
       refine WL.mxPut (hs := v.T) YA Yc (Yx.set p2 (min 1000000000001 (Yx.getD p2 0 + Xx.getD (z.k - u.k) 0))) hyr atz_ atz_ (by rw [List.length_set]) rfl ?_
       refine nx (h := ?_)
       refine dn (h := ?_)
       refine q_blk_norm ?_
       refine q_seq ?_
       refine rg ?_
       iterate 3 refine ww ?_
       refine nl ?_
       first
        | refine rn (x := v) ⟨v.k + 1, v.T, v.U⟩ ⟨⟨by dsimp only; omega, hv1, hv2⟩, by dsimp only; rw [Int.natCast_add]; exact hnx⟩ (by dsimp only; omega) sbz_ slz_
        | refine rn (x := v) ⟨v.k + 1, v.T, v.U.set p1 (YA, Yc, Yx.set p2 (min 1000000000001 (Yx.getD p2 0 + Xx.getD (z.k - u.k) 0)))⟩ ⟨⟨by dsimp only; omega, hv1, hM'⟩, by dsimp only; rw [Int.natCast_add]; exact hnx⟩ (by dsimp only; omega) sbz_ slz_
        | refine rn (x := v) ⟨v.k + 1, v.T.set p1 (YA, Yc, Yx.set p2 (min 1000000000001 (Yx.getD p2 0 + Xx.getD (z.k - u.k) 0))), v.U⟩ ⟨⟨by dsimp only; omega, hM', hv2⟩, by dsimp only; rw [Int.natCast_add]; exact hnx⟩ (by dsimp only; omega) sbz_ slz_
    ·
     have hno : (2 : Int) ≤ v.k ∨ ¬ OpenP f (ruleV f last) u.k ((z.k : Int) - u.k) := by
      have hg := h4
      simp only [Bool.and_eq_false_iff, decide_eq_false_iff_not] at hg
      rcases hg with hg | hg
      ·
       exact .inl (by omega)
      ·
       refine .inr fun ho => hg ?_
       rw [← hxg]
       refine (hvI.t u.k (z.k - u.k) (by omega) (by omega)).2.2 ?_
       rw [show ((z.k - u.k : Nat) : Int) = (z.k : Int) - u.k by omega]
       exact (pos_open ht (by omega)).2 ho
     have hnx := ord_pair hvI hno (by omega)
     refine et ?_
     iterate 2 refine q_then_exit ?_
     refine q_blk_hit ?_
     refine q_blk_norm ?_
     refine q_seq ?_
     refine rg ?_
     iterate 3 refine ww ?_
     refine nl ?_
     refine rn (x := u) ⟨u.k + 1, v.T, v.U⟩ ⟨⟨by dsimp only; omega, by dsimp only; omega, hv1, hv2⟩, by dsimp only; rw [Int.natCast_add]; exact hnx⟩ (by dsimp only; omega) sbz_ slz_
   ·
    have huk : min z.k 44 < u.k := by simp only [decide_eq_false_iff_not] at h2; omega
    have hnx := ord_row huI (by omega)
    refine et ?_
    iterate 2 refine q_then_exit ?_
    refine q_blk_hit ?_
    refine q_blk_norm ?_
    refine q_seq ?_
    refine rg ?_
    iterate 3 refine ww ?_
    refine nl ?_
    refine rn (x := z) ⟨z.k + 1, u.T, u.U⟩ ⟨⟨by dsimp only; omega, hu1, hu2⟩, by dsimp only; rw [Int.natCast_add]; exact hnx⟩ (by dsimp only; omega) sbz_ slz_
  ·
   have hkn : z.k = 88 := by simp only [decide_eq_false_iff_not] at h1; omega
   have hfin := ord_end ht (a := max 0 ((z.k : Int) - 44)) (k := 0) (by rw [hkn] at hzI ⊢; exact hzI)
   refine et ?_
   iterate 2 refine q_then_exit ?_
   refine q_blk_hit ?_
   refine q_seq ?_
   refine sr ?_
   iterate 4 refine ww ?_
   refine nq ?_
   refine rtn ?_
   refine q_ret (hR := ?_)
   exact fun w hS => ⟨⟨O1, c1, z.T, O2, c2, z.U⟩, ⟨⟨by rw [hz1.v]; exact hz1, by rw [hz2.v]; exact hz2⟩, hfin⟩, rfl, hS.sub (by dsimp only; rw [hz1.v, hz2.v]; repeat (first | exact SubL.nil | (apply SubL.cons; (repeat (first | exact At.here | apply At.there))) | exact SubL.refl _ | apply SubL.skip))⟩
end Go.Proofs.YtpmmgljndceplaaGreat

namespace Go.Proofs.YtpmmgljndceplaaGreat
open Go Go.RowKit

theorem Rd.pre {w : World} {A : Option Addr} {size m : Nat} {es : List (List Value)} (h : Rd w A size m es) (k : Nat) (hk : k ≤ m) : Rd w A size k (es.take k) := by
 have h1 := Rd.part h (m + 1) 0 k (Nat.zero_le _) hk (by omega)
 have e : (if m + 1 = 0 then A else A.map (·.add (0 * size))) = A := by
  rw [if_neg (by omega)]
  cases A <;> simp [Addr.add_zero']
 rw [e] at h1
 simpa using h1
theorem lead_none {p : Pr} {l b : Int} : leadsV p l b = -1 ↔ ¬ (l ≤ p.1 ∧ b ≤ p.1 - p.2) ∧ ¬ (l ≤ p.2 ∧ b ≤ p.2 - p.1) := by
 unfold leadsV
 cases h1 : decide (l ≤ p.1) && decide (b ≤ p.1 - p.2)
 ·
  cases h2 : decide (l ≤ p.2) && decide (b ≤ p.2 - p.1)
  ·
   simp at h1 h2 ⊢; omega
  ·
   simp at h1 h2 ⊢; omega
 ·
  simp at h1 ⊢; omega
theorem encPU_take (l : List Pr) (k : Nat) : (encP l).take k = encP (l.take k) := by simp [encP, List.map_take]
theorem wonTo_take (l : List Pr) (K : Nat) : ∀ k, k ≤ K → wonTo (l.take K) k = wonTo l k
 | 0, _ => rfl
 | k + 1, hk => by rw [wonTo, wonTo, wonTo_take l K k (by omega), List.getElem?_take, if_pos (by omega)]
theorem wonV_take {l : List Pr} {K : Nat} (hK : K ≤ l.length) : wonV (l.take K) = wonTo l K := by
 unfold wonV
 rw [List.length_take, Nat.min_eq_left hK]
 exact wonTo_take l K K (Nat.le_refl _)
def TbOk (f : Fmt) (tb : Pr → Tb) : Prop := ∀ (s p : Pr), TieOk f s → p.1 ≤ 41 → p.2 ≤ 41 → flag (tb s) p = expT f s p.1 p.2
theorem tbOk_table (f : Fmt) : TbOk f (tableV f) := fun _ _ h h1 h2 => table_flag h h1 h2
section
variable {f : Fmt} {s : Pr}
theorem over_ne (h : TieOk f s) {a b : Int} (he : expT f s a b = some true) : a ≠ b := by
 unfold expT at he
 by_cases h0 : a = 0 ∧ b = 0
 ·
  rw [if_pos h0] at he; cases he
 ·
  rw [if_neg h0] at he
  by_cases h1 : OpenP f s (a - 1) b
  ·
   rw [if_pos h1] at he
   have := (end0 f s (a - 1) b).1 (Option.some.inj he)
   unfold OpenP TieOk at *; omega
  ·
   rw [if_neg h1] at he
   by_cases h2 : OpenP f s a (b - 1)
   ·
    rw [if_pos h2] at he
    have := (end1 f s a (b - 1)).1 (Option.some.inj he)
    unfold OpenP TieOk at *; omega
   ·
    rw [if_neg h2] at he; cases he
theorem pair_over (p : Pr) (t : Tb) : (!(tget t p).isSome || !(tat t p).2) = !decide (flag t p = some true) := by
 unfold flag tat
 cases tget t p with
 | none => rfl
 | some v =>
  obtain ⟨n, b⟩ := v
  cases b <;> simp
theorem side_ne {p : Pr} (h : p.1 ≠ p.2) : setSide p = wside p := by
 unfold setSide wside
 by_cases h1 : p.1 < p.2
 ·
  rw [decide_eq_true h1, decide_eq_false (by omega)]; rfl
 ·
  rw [decide_eq_false h1, decide_eq_true (by omega)]; rfl
theorem over_won {won : Pr} (h : WonOk f won) : overV f won = (decide (won.1 = f.sets) || decide (won.2 = f.sets)) := by
 unfold overV WonOk at *
 rw [Bool.eq_iff_iff, Bool.or_eq_true, decide_eq_true_eq, decide_eq_true_eq, decide_eq_true_eq]; omega
theorem step_is {tb : Pr → Tb} (htb : TbOk f tb) (hf : f.Ok) {l : List Pr} {k : Nat} {p : Pr} (hp : l[k]? = some p) (hpb : p.1 ≤ 40 ∧ p.2 ≤ 40) (ho : (setsTo tb f l k).ok = true) (hw : (setsTo tb f l k).won = wonTo l k) :
  (setsTo tb f l (k + 1)).ok = (!overV f (wonTo l k) && decide (expT f (setV f (wonTo l k)) p.1 p.2 = some true)) ∧ ((setsTo tb f l (k + 1)).ok = true → (setsTo tb f l (k + 1)).won = wonTo l (k + 1)) := by
 rw [setsTo_succ hp ho, setStep, hw, pair_over, htb _ _ (tie_ok hf _) (by omega) (by omega)]
 by_cases he : expT f (setV f (wonTo l k)) p.1 p.2 = some true
 ·
  rw [decide_eq_true he]
  cases overV f (wonTo l k)
  ·
   refine ⟨rfl, fun _ => ?_⟩
   show addV (wonTo l k) (setSide p) = _
   rw [side_ne (over_ne (tie_ok hf _) he), wonTo_succ hp]
  ·
   exact ⟨rfl, fun e => by cases e⟩
 ·
  rw [decide_eq_false he]
  cases overV f (wonTo l k)
  ·
   exact ⟨rfl, fun e => by cases e⟩
  ·
   exact ⟨rfl, fun e => by cases e⟩
theorem arises_no {tb : Pr → Tb} {b : Brd} {k : Nat} (h : (setsTo tb f b.st k).ok = false) (hk : k ≤ b.st.length) : (arisesT tb f b).2 = false := by
 have e : (setsTo tb f b.st b.st.length).ok = false := by rw [setsTo_stop h hk]; exact h
 unfold arisesT
 rw [e]; rfl
theorem arises_end {tb : Pr → Tb} {b : Brd} (h : (setsTo tb f b.st b.st.length).ok = true) (hw : (setsTo tb f b.st b.st.length).won = wonV b.st) (hov : overV f (wonV b.st) = true) : (arisesT tb f b).2 = (isZ b.g && isZ b.p) := by
 unfold arisesT
 rw [h, hw, hov]; rfl
theorem pts_is (f : Fmt) (s : Pr) (tie : Bool) (p : Pr) (hp : 0 ≤ p.1 ∧ 0 ≤ p.2) (hs : 1 ≤ s.2) : (isZ p || ((befV f s tie (p.1 - 1, p.2) || befV f s tie (p.1, p.2 - 1)) && befV f s tie p)) = arePts f tie s.2 p := by
 have hz : isZ p = decide (p.1 = 0 ∧ p.2 = 0) := by
  rw [Bool.eq_iff_iff, isZ_iff, decide_eq_true_eq]
  exact ⟨fun e => by rw [e]; exact ⟨rfl, rfl⟩, fun e => Prod.ext e.1 e.2⟩
 have hb : ∀ q : Pr, befV f s tie q = decide ((0 ≤ q.1 ∧ 0 ≤ q.2) ∧ ¬ (lst s tie ≤ q.1 ∧ byG f tie ≤ q.1 - q.2) ∧ ¬ (lst s tie ≤ q.2 ∧ byG f tie ≤ q.2 - q.1)) := fun q => by
  have hl := lead_none (p := q) (l := lst s tie) (b := byG f tie)
  have hr := leadsV_rng q (lst s tie) (byG f tie)
  unfold befV
  rw [game_is, Bool.eq_iff_iff, Bool.and_eq_true, decide_eq_true_eq, decide_eq_true_eq, decide_eq_true_eq]
  constructor
  ·
   rintro ⟨h1, h2⟩
   exact ⟨by omega, hl.1 (by omega)⟩
  ·
   rintro ⟨h1, h2⟩
   have := hl.2 h2
   exact ⟨by omega, by omega⟩
 rw [hz, hb, hb, hb, Bool.eq_iff_iff]
 unfold arePts lst byG
 cases tie
 ·
  cases hn : f.noAd
  ·
   simp only [Bool.not_false, Bool.true_and, cond_false, Bool.or_eq_true, Bool.and_eq_true, decide_eq_true_eq]; omega
  ·
   simp only [Bool.not_false, Bool.true_and, cond_false, cond_true, Bool.or_eq_true, Bool.and_eq_true, decide_eq_true_eq]; omega
 ·
  simp only [Bool.not_true, Bool.false_and, cond_false, cond_true, Bool.or_eq_true, Bool.and_eq_true, decide_eq_true_eq]; omega
theorem set_to1 (hf : f.Ok) (won : Pr) : 1 ≤ (setV f won).2 := by
 have h1 := hf.o0
 have h2 := hf.l0
 unfold setV
 cases decide (won.1 = f.sets - 1) && decide (won.2 = f.sets - 1) <;> simp only [cond_true, cond_false] <;> omega
theorem tied_is {l : List Pr} {g : Pr} (hg : 0 ≤ g.1) : tiedV f l g = brksV (setV f (wonV l)) g := by
 unfold tiedV brksV
 by_cases h : 0 ≤ (setV f (wonV l)).1
 ·
  rw [decide_eq_true h, Bool.true_and]
 ·
  rw [decide_eq_false h, decide_eq_false (show ¬ g.1 = (setV f (wonV l)).1 by omega)]; rfl
theorem arises_pts {tb : Pr → Tb} (htb : TbOk f tb) (hf : f.Ok) {b : Brd} (hg : (0 ≤ b.g.1 ∧ b.g.1 ≤ 40) ∧ 0 ≤ b.g.2 ∧ b.g.2 ≤ 40) (hp : 0 ≤ b.p.1 ∧ 0 ≤ b.p.2) (h : (setsTo tb f b.st b.st.length).ok = true) (hw : (setsTo tb f b.st b.st.length).won = wonV b.st) (hov : overV f (wonV b.st) = false) :
  (arisesT tb f b).2 = (decide (expT f (setV f (wonV b.st)) b.g.1 b.g.2 = some false) && arePts f (tiedV f b.st b.g) (setV f (wonV b.st)).2 b.p) := by
 rw [← pts_is f (setV f (wonV b.st)) _ b.p hp (set_to1 hf _), tied_is hg.1.1]
 unfold arisesT
 rw [h, hw, hov, pair_flag, htb _ _ (tie_ok hf _) (by omega) (by omega)]
 by_cases he : expT f (setV f (wonV b.st)) b.g.1 b.g.2 = some false
 ·
  rw [decide_eq_true he]
  cases isZ b.p <;> rfl
 ·
  rw [decide_eq_false he]; rfl
end
structure UHZ where
 (k : Nat)
set_option maxRecDepth 100000 in
set_option maxHeartbeats 4000000 in
theorem C_ref1_arises' (tb : Pr → Tb) (f : Fmt) (b : Brd) (htb : TbOk f tb) (hf : f.Ok) (hb : brdOk b = true) (A : Option Addr) (n c : Nat) (hc : n ≤ c) (w : World) (h : Rd w A 2 n (encP b.st)) : C0 Tryz.prog 87 [f.val, b.val A n c] w (.bool (arisesT tb f b).2) := by
 have hlen : b.st.length = n := by have := h.len; simpa [encP] using this
 have hbl := brd_len hb
 have hbp := brd_fit hb b.p (by simp [Brd.all])
 have hbg := brd_fit hb b.g (by simp [Brd.all])
 have hs0 := hf.s0
 have hwonV : wonV b.st = wonTo b.st n := by rw [wonV, hlen]
 refine ⟨en Tryz.func87 Tryz.ntmps87 ((St.init w).share (e := .ro A 2 n (encP b.st)) h rfl rfl rfl) (h := fun F => ?_)⟩
 refine sr ?_
 refine bxA (h := fun b0 => ?_)
 refine bxA (h := fun b1 => ?_)
 refine ww ?_
 refine nr ?_
 refine al (h := fun b2 => ?_)
 refine nq ?_
 refine sq ?_
 refine sr ?_
 refine ww ?_
 refine nq ?_
 refine bk ?_
 refine lp (X := UHZ) (I := fun z => z.k ≤ n ∧ (setsTo tb f b.st z.k).ok = true ∧ (setsTo tb f b.st z.k).won = wonTo b.st z.k) (le := fun z => [(2, .pointer (some ⟨b0, 0, none⟩)), (3, .pointer (some ⟨b1, 0, none⟩)), (5, .pointer (some ⟨b2, 0, none⟩)), (6, .int .i64 z.k)]) (Le := fun z => [.blk b2 38 [.int .i64 (wonTo b.st z.k).1, .int .i64 (wonTo b.st z.k).2], .blk b0 35 f.cells, .blk b1 40 (b.cells A n c), .ro A 2 n (encP b.st)]) (μ := fun z => n - z.k) ⟨0⟩ ⟨Nat.zero_le _, rfl, rfl⟩ sbz_ slz_ (fun z hz => ?_)
 obtain ⟨hz1, hz2, hz3⟩ := hz
 refine sq ?_
 refine sr ?_
 iterate 5 refine ww ?_
 refine nq ?_
 refine czz (fun h0 => ?_) fun h0 => ?_
 ·
  have hkn : z.k < n := by simp only [decide_eq_true_eq] at h0; omega
  obtain ⟨p, hp⟩ : ∃ p, b.st[z.k]? = some p := ⟨_, List.getElem?_eq_getElem (by omega)⟩
  have hpe := encP_at hp
  have hpf := brd_fit hb p (by simp only [Brd.all]; exact List.mem_append_left _ (List.mem_of_getElem? hp))
  have hst := step_is htb hf hp (by omega) hz2 hz3
  have hwo : WonOk f (wonTo b.st z.k) := by rw [← hz3]; exact setsTo_won (by omega) _
  have how := over_won hwo
  refine skp ?_
  refine q_seq ?_
  refine sq ?_
  refine bk ?_
  refine sq ?_
  refine sr ?_
  iterate 6 refine ww ?_
  apply brOr 6 25 31 (by exact rfl)
  ·
   intro hb1
   iterate 5 refine uw ?_
   refine ww ?_
   exact mg (by repeat (first | exact trivial | refine ⟨rfl, ?_⟩ | refine ⟨by rw [hb1]; rfl, ?_⟩)) slz_
  ·
   intro hb1
   repeat (first | refine uz ?_ | refine kz ?_ | refine wz ?_)
   exact mg (by repeat (first | exact trivial | refine ⟨rfl, ?_⟩ | refine ⟨by rw [hb1]; rfl, ?_⟩)) slz_
  refine nq ?_
  refine czz (fun h2 => ?_) fun h2 => ?_
  ·
   have hE : (arisesT tb f b).2 = false := arises_no (k := z.k + 1) (by rw [hst.1, how, h2]; rfl) (by omega)
   refine sr ?_
   refine ww ?_
   refine nq ?_
   refine rtn ?_
   refine q_then_ret ?_
   refine q_blk_ret ?_
   iterate 2 refine q_then_ret ?_
   refine q_blk_ret ?_
   refine q_then_ret ?_
   refine q_ret (hR := ?_)
   first
    | (rw [hE]; exact fun w hS => ⟨rfl, hS.sub slz_⟩)
    | (rw [hE]; refine fun w hS => ⟨?_, hS.sub slz_⟩; rw [show decide (expT f (setV f (wonV b.st)) b.g.1 b.g.2 = some false) = decide (0 < Ox.getD b.g.2.toNat 0) from decide_eq_decide.2 hfl.symm]; first | rfl | (rw [hb7]; rfl))
  ·
   have hov : overV f (wonTo b.st z.k) = false := how.trans h2
   refine skp ?_
   refine q_seq ?_
   refine sq ?_
   refine rgD0 (by kernel_rfl) (h := ?_)
   refine tw 0 ?_
   refine tw 1 ?_
   refine tw 2 ?_
   refine one 3 (h := ?_)
   refine cl0 (hc := fun w hS => C_ref1_IsLast f (wonTo b.st z.k) hf w) (h := ?_)
   refine nx (h := ?_)
   refine one 4 (h := ?_)
   refine cl (hc := fun w hS => C_orders f _ hf (tie_ok hf (wonTo b.st z.k)) w) (h := fun x hx => ?_)
   rw [rule_set] at hx
   obtain ⟨OA, Oc, Ox, hor, hol, hov2, hog, hod⟩ := hx.1.2.at (a := p.1.toNat) (by omega)
   refine nx (h := ?_)
   refine tw 5 ?_
   refine tw 6 ?_
   refine tw 7 ?_
   refine tw 8 ?_
   refine tw 9 ?_
   refine dn (h := ?_)
   refine q_seq ?_
   iterate 2 refine sq ?_
   refine rgD0 (by kernel_rfl) (h := ?_)
   refine tw 0 ?_
   refine tw 1 ?_
   refine tw 2 ?_
   refine tw 3 ?_
   refine tk 4 (hy := ix (A := A) (m := n)) (h := ?_)
   refine tw 5 ?_
   refine tk 6 (hy := ldE (A := A) (hk := hpe)) (h := ?_)
   refine tk 7 (hy := ix (A := x.A2) (m := 45)) (h := ?_)
   refine tk 8 (hy := ldE (A := x.A2) (hk := hov2)) (h := ?_)
   refine tw 9 ?_
   refine tw 10 ?_
   refine tw 11 ?_
   refine tk 12 (hy := ix (A := A) (m := n)) (h := ?_)
   refine tw 13 ?_
   refine tk 14 (hy := ldE (A := A) (hk := hpe)) (h := ?_)
   refine tk 15 (hy := ix (A := OA) (m := 45) (hr := by repeat (first | exact Rds.any (hod 3) | apply Rds.there))) (h := ?_)
   refine tk 16 (hy := ldE (A := OA) (hr := by repeat (first | exact Rds.any (hod 3) | apply Rds.there)) (hk := mI_at (k := p.2.toNat) (by omega))) (h := ?_)
   refine tw 17 ?_
   refine dn (h := ?_)
   refine q_seq ?_
   refine czz (fun h3 => ?_) fun h3 => ?_
   ·
    have hE : (arisesT tb f b).2 = false := arises_no (k := z.k + 1) (by rw [hst.1, decide_eq_false ((hx.2 p.1.toNat p.2.toNat (by omega) (by omega)).2.1 (by rw [hog]; exact of_decide_eq_true h3) |> fun e => by rw [Int.toNat_of_nonneg hpf.1.1, Int.toNat_of_nonneg hpf.2.1] at e; exact e), Bool.and_false]) (by omega)
    refine sr ?_
    refine ww ?_
    refine nq ?_
    refine rtn ?_
    refine q_then_ret ?_
    refine q_blk_ret ?_
    iterate 2 refine q_then_ret ?_
    refine q_blk_ret ?_
    refine q_then_ret ?_
    refine q_ret (hR := ?_)
    first
     | (rw [hE]; exact fun w hS => ⟨rfl, hS.sub slz_⟩)
     | (rw [hE]; refine fun w hS => ⟨?_, hS.sub slz_⟩; rw [show decide (expT f (setV f (wonV b.st)) b.g.1 b.g.2 = some false) = decide (0 < Ox.getD b.g.2.toNat 0) from decide_eq_decide.2 hfl.symm]; first | rfl | (rw [hb7]; rfl))
   ·
    have hex : expT f (setV f (wonTo b.st z.k)) p.1 p.2 = some true := by
     have h1 := (hx.2 p.1.toNat p.2.toNat (by omega) (by omega)).2
     rw [Int.toNat_of_nonneg hpf.1.1, Int.toNat_of_nonneg hpf.2.1, hog] at h1
     exact Classical.byContradiction fun e => (of_decide_eq_false h3) (h1.2 e)
    have hok : (setsTo tb f b.st (z.k + 1)).ok = true := by rw [hst.1, hov, decide_eq_true hex]; rfl
    have hwn := hst.2 hok
    have hwt := wonV_take (l := b.st) (K := z.k + 1) (by omega)
    refine skp ?_
    refine q_seq ?_
    refine rg ?_
    iterate 4 refine ww ?_
    refine wy (slP (A := A) (m := n) (cap := c) (hi' := z.k + 1) (hc := by omega)) ?_
    refine cl0 (hc := fun w hS => C_ref1_Won (b.st.take (z.k + 1)) A (z.k + 1) c w (by rw [← encPU_take]; exact Rd.pre (hS.get (by repeat (first | exact Rds.ro | apply Rds.there))) (z.k + 1) (by omega)) (by omega)) (h := ?_)
    rw [hwt]
    first | refine stA (h := ?_) | refine stEA (h := ?_)
    refine nl ?_
    refine q_blk_norm ?_
    refine q_seq ?_
    refine rg ?_
    iterate 3 refine ww ?_
    refine nl ?_
    refine rn (x := z) ⟨z.k + 1⟩ ⟨by dsimp only; omega, hok, hwn⟩ (by dsimp only; omega) sbz_ slz_
 ·
  have hkn : z.k = n := by simp only [decide_eq_false_iff_not] at h0; omega
  rw [hkn] at hz2 hz3
  have hz2' : (setsTo tb f b.st b.st.length).ok = true := by rw [hlen]; exact hz2
  have hz3' : (setsTo tb f b.st b.st.length).won = wonV b.st := by rw [hlen, hwonV]; exact hz3
  have hwo : WonOk f (wonV b.st) := by rw [← hz3']; exact setsTo_won (by omega) _
  have how := over_won hwo
  rw [hkn, ← hwonV]
  refine et ?_
  iterate 2 refine q_then_exit ?_
  refine q_blk_hit ?_
  refine q_seq ?_
  refine sq ?_
  refine sr ?_
  iterate 6 refine ww ?_
  apply brOr 6 69 75 (by exact rfl)
  ·
   intro hb4
   iterate 5 refine uw ?_
   refine ww ?_
   exact mg (by repeat (first | exact trivial | refine ⟨rfl, ?_⟩ | refine ⟨by rw [hb4]; rfl, ?_⟩)) slz_
  ·
   intro hb4
   repeat (first | refine uz ?_ | refine kz ?_ | refine wz ?_)
   exact mg (by repeat (first | exact trivial | refine ⟨rfl, ?_⟩ | refine ⟨by rw [hb4]; rfl, ?_⟩)) slz_
  refine nq ?_
  refine czz (fun h5 => ?_) fun h5 => ?_
  ·
   have hE := arises_end hz2' hz3' (how.trans h5)
   refine sr ?_
   iterate 3 refine ww ?_
   refine wy eqlT ?_
   refine ww ?_
   apply brAnd 5 80 85 (by exact rfl)
   ·
    intro hb6
    iterate 3 refine uw ?_
    refine uz ?_
    refine wy eqlT ?_
    refine ww ?_
    exact mg (by repeat (first | exact trivial | refine ⟨rfl, ?_⟩ | refine ⟨by rw [hb6]; rfl, ?_⟩)) slz_
   ·
    intro hb6
    repeat (first | refine uz ?_ | refine kz ?_ | refine wz ?_)
    exact mg (by repeat (first | exact trivial | refine ⟨rfl, ?_⟩ | refine ⟨by rw [hb6]; rfl, ?_⟩)) slz_
   refine ww ?_
   refine nq ?_
   refine rtn ?_
   refine q_then_ret ?_
   refine q_ret (hR := ?_)
   first
    | (rw [hE]; exact fun w hS => ⟨rfl, hS.sub slz_⟩)
    | (rw [hE]; refine fun w hS => ⟨?_, hS.sub slz_⟩; rw [show decide (expT f (setV f (wonV b.st)) b.g.1 b.g.2 = some false) = decide (0 < Ox.getD b.g.2.toNat 0) from decide_eq_decide.2 hfl.symm]; first | rfl | (rw [hb7]; rfl))
  ·
   have hov : overV f (wonV b.st) = false := how.trans h5
   have hE := arises_pts htb hf hbg (by omega) hz2' hz3' hov
   refine skp ?_
   refine q_seq ?_
   refine sq ?_
   refine rgD0 (by kernel_rfl) (h := ?_)
   refine tw 0 ?_
   refine tw 1 ?_
   refine tw 2 ?_
   refine one 3 (h := ?_)
   refine cl0 (hc := fun w hS => C_ref1_IsLast f (wonV b.st) hf w) (h := ?_)
   refine nx (h := ?_)
   refine one 4 (h := ?_)
   refine cl (hc := fun w hS => C_orders f _ hf (tie_ok hf (wonV b.st)) w) (h := fun x hx => ?_)
   rw [rule_set] at hx
   obtain ⟨OA, Oc, Ox, hor, hol, hov2, hog, hod⟩ := hx.1.1.at (a := b.g.1.toNat) (by omega)
   have hfl := (hx.2 b.g.1.toNat b.g.2.toNat (by omega) (by omega)).1
   rw [Int.toNat_of_nonneg hbg.1.1, Int.toNat_of_nonneg hbg.2.1, hog] at hfl
   refine nx (h := ?_)
   refine tw 5 ?_
   refine tw 6 ?_
   refine tw 7 ?_
   refine tw 8 ?_
   refine tw 9 ?_
   refine dn (h := ?_)
   refine q_seq ?_
   refine sr ?_
   iterate 2 refine ww ?_
   refine cl0 (hc := fun w hS => C_ref1_tied f b A n c hf w (hS.get (by repeat (first | exact Rds.ro | apply Rds.there))) (by omega)) (h := ?_)
   iterate 5 refine ww ?_
   refine nq ?_
   refine sq ?_
   refine rgD0 (by kernel_rfl) (h := ?_)
   refine tw 0 ?_
   refine tw 1 ?_
   refine tw 2 ?_
   refine tw 3 ?_
   refine tk 4 (hy := ix (A := x.A1) (m := 45)) (h := ?_)
   refine tk 5 (hy := ldE (A := x.A1) (hk := hov2)) (h := ?_)
   refine tw 6 ?_
   refine tw 7 ?_
   refine tw 8 ?_
   refine tk 9 (hy := ix (A := OA) (m := 45) (hr := by repeat (first | exact Rds.any (hod 3) | apply Rds.there))) (h := ?_)
   refine tk 10 (hy := ldE (A := OA) (hr := by repeat (first | exact Rds.any (hod 3) | apply Rds.there)) (hk := mI_at (k := b.g.2.toNat) (by omega))) (h := ?_)
   refine tw 11 ?_
   refine tw 12 ?_
   refine brH (g := 112) (by exact rfl) (fun hb7 => ?_) (fun hb7 => ?_)
   ·
    refine tw 13 ?_
    refine tw 14 ?_
    refine tw 15 ?_
    refine tw 16 ?_
    refine tw 17 ?_
    refine one 18 (h := ?_)
    refine uz ?_
    refine cl0 (hc := fun w hS => C_ArePoints f (tiedV f b.st b.g) (setV f (wonV b.st)).2 b.p (by omega) w) (h := ?_)
    refine nx (h := ?_)
    refine tw 19 ?_
    refine tw 20 ?_
    refine dn (h := ?_)
    refine q_seq ?_
    refine rtn ?_
    refine q_ret (hR := ?_)
    first
     | (rw [hE]; exact fun w hS => ⟨rfl, hS.sub slz_⟩)
     | (rw [hE]; refine fun w hS => ⟨?_, hS.sub slz_⟩; rw [show decide (expT f (setV f (wonV b.st)) b.g.1 b.g.2 = some false) = decide (0 < Ox.getD b.g.2.toNat 0) from decide_eq_decide.2 hfl.symm]; first | rfl | (rw [hb7]; rfl))
   ·
    refine tkS 13 (h := ?_)
    refine tkS 14 (h := ?_)
    refine tkS 15 (h := ?_)
    refine tkS 16 (h := ?_)
    refine tkS 17 (h := ?_)
    refine tkS 18 (h := ?_)
    refine tw 19 ?_
    refine tw 20 ?_
    refine dn (h := ?_)
    refine q_seq ?_
    refine rtn ?_
    refine q_ret (hR := ?_)
    first
     | (rw [hE]; exact fun w hS => ⟨rfl, hS.sub slz_⟩)
     | (rw [hE]; refine fun w hS => ⟨?_, hS.sub slz_⟩; rw [show decide (expT f (setV f (wonV b.st)) b.g.1 b.g.2 = some false) = decide (0 < Ox.getD b.g.2.toNat 0) from decide_eq_decide.2 hfl.symm]; first | rfl | (rw [hb7]; rfl))
end Go.Proofs.YtpmmgljndceplaaGreat

namespace Go.Proofs.YtpmmgljndceplaaGreat
open Go Go.RowKit

def tbV (f : Fmt) (s : Pr) (W L : Int) (i j : Nat) : Int := trG f s 1000000 44 W L (89 - i - j) i j
section
variable {f : Fmt} {s : Pr} {W L : Int}
def CDone (sum a i j : Int) : Prop := 44 ≤ i ∨ 44 ≤ j ∨ sum < i + j ∨ (i + j = sum ∧ i < a)
instance (sum a i j : Int) : Decidable (CDone sum a i j) := by unfold CDone; infer_instance
def CosI (f : Fmt) (s : Pr) (W L sum a : Int) (hs : List MR) : Prop := ∀ i j : Nat, i < 45 → j < 45 → gv hs i j = if CDone sum a i j then tbV f s W L i j else 1000000
theorem CosI.weak {sum a sum' a' : Int} {hs : List MR} (h : CosI f s W L sum a hs) (hd : ∀ i j : Int, 0 ≤ i → 0 ≤ j → (CDone sum a i j ↔ CDone sum' a' i j)) : CosI f s W L sum' a' hs := fun i j hi hj => by
 rw [h i j hi hj]
 have := hd i j (by omega) (by omega)
 by_cases hc : CDone sum a i j
 ·
  rw [if_pos hc, if_pos (this.1 hc)]
 ·
  rw [if_neg hc, if_neg (fun e => hc (this.2 e))]
end
end Go.Proofs.YtpmmgljndceplaaGreat

namespace Go.Proofs.YtpmmgljndceplaaGreat
open Go Go.RowKit

def arisesR (f : Fmt) (b : Brd) : List Value := bif !decide (chkF f = 0) then [.bool false, .int .i64 (chkF f)] else bif !brdOk b then [.bool false, .int .i64 12] else [.bool (arisesV f b).2, .int .i64 0]
set_option maxRecDepth 100000 in
theorem C_score_Arises (f : Fmt) (b : Brd) (A : Option Addr) (n c : Nat) (w : World) (h : Rd w A 2 n (encP b.st)) (hn : n ≤ 9223372036854775807) : C0 Tryz.prog 18 [f.val, b.val A n c] w (.tuple (arisesR f b).toArray) := by
 have hlen : b.st.length = n := by have := h.len; simpa [encP] using this
 refine ⟨en Tryz.func18 Tryz.ntmps18 ((St.init w).share (e := .ro A 2 n (encP b.st)) h rfl rfl rfl) (h := fun F => ?_)⟩
 refine sr ?_
 refine bxA (h := fun b0 => ?_)
 refine bxA (h := fun b1 => ?_)
 iterate 2 refine ww ?_
 refine nq ?_
 refine sq ?_
 refine sr ?_
 refine ww ?_
 refine cl0 (hc := fun w hS => C_score_Check _ w) (h := ?_)
 refine ww ?_
 refine nr ?_
 iterate 2 refine ww ?_
 refine nq ?_
 refine czz (fun h0 => ?_) fun h0 => ?_
 ·
  refine sr ?_
  iterate 3 refine ww ?_
  refine nq ?_
  refine rtn ?_
  refine q_then_ret ?_
  refine q_ret (hR := ?_)
  exact fun w hS => ⟨cdT' (fun x : List Value => Ending.returned (Value.tuple x.toArray)) h0, hS.sub slz_⟩
 ·
  have hf := chkF_ok h0
  refine skp ?_
  refine q_seq ?_
  refine sq ?_
  refine sr ?_
  refine ww ?_
  refine cl0 (hc := fun w hS => C_isBoard _ _ _ _ w (hS.get rdz_) (by omega)) (h := ?_)
  refine ww ?_
  refine nq ?_
  refine czz (fun h1 => ?_) fun h1 => ?_
  ·
   refine sr ?_
   iterate 2 refine ww ?_
   refine nq ?_
   refine rtn ?_
   refine q_then_ret ?_
   refine q_ret (hR := ?_)
   exact fun w hS => ⟨(cdT' (fun x : List Value => Ending.returned (Value.tuple x.toArray)) h1).trans (cdF' (fun x : List Value => Ending.returned (Value.tuple x.toArray)) h0), hS.sub slz_⟩
  ·
   have hbo : brdOk b = true := by simpa using h1
   have hbl := brd_len hbo
   have hbp := brd_fit hbo b.p (by simp [Brd.all])
   refine skp ?_
   refine q_seq ?_
   refine sr ?_
   iterate 3 refine ww ?_
   refine cl0 (hc := fun w hS => C_rules_arises f b hf (by omega) A n c w (hS.get rdz_) (by omega)) (h := ?_)
   iterate 3 refine ww ?_
   refine al (h := fun b2 => ?_)
   first | refine stA (h := ?_) | refine stEA (h := ?_)
   refine ww ?_
   refine nr ?_
   iterate 3 refine ww ?_
   refine nq ?_
   refine rtn ?_
   refine q_ret (hR := ?_)
   exact fun w hS => ⟨(cdF' (fun x : List Value => Ending.returned (Value.tuple x.toArray)) h1).trans (cdF' (fun x : List Value => Ending.returned (Value.tuple x.toArray)) h0), hS.sub slz_⟩
theorem chk_val (f : Fmt) : chkF f = 0 ∨ chkF f = 10 := by
 unfold chkF
 cases fmtOk f
 ·
  exact .inr rfl
 ·
  exact .inl rfl
theorem chk_bad {f : Fmt} (h : (!decide (chkF f = 0)) = true) : chkF f = 10 := by
 rcases chk_val f with e | e
 ·
  rw [e] at h; cases h
 ·
  exact e
set_option maxRecDepth 100000 in
theorem C_ref1_Arises' (f : Fmt) (b : Brd) (A : Option Addr) (n c : Nat) (hc : n ≤ c) (w : World) (h : Rd w A 2 n (encP b.st)) (hn : n ≤ 1000) (r : Bool) (hr : (arisesV f b).2 = r) : C0 Tryz.prog 51 [f.val, b.val A n c] w (.tuple (bif !decide (chkF f = 0) then [.bool false, .int .i64 (chkF f)] else bif !brdOk b then [.bool false, .int .i64 12] else [.bool r, .int .i64 0] : List Value).toArray) := by
 have hlen : b.st.length = n := by have := h.len; simpa [encP] using this
 refine ⟨en Tryz.func51 Tryz.ntmps51 ((St.init w).share (e := .ro A 2 n (encP b.st)) h rfl rfl rfl) (h := fun F => ?_)⟩
 refine sr ?_
 refine bxA (h := fun b0 => ?_)
 refine bxA (h := fun b1 => ?_)
 iterate 2 refine ww ?_
 refine nq ?_
 refine sq ?_
 refine sr ?_
 refine ww ?_
 refine cl0 (hc := fun w hS => C_ref1_Check _ w) (h := ?_)
 refine ww ?_
 refine nq ?_
 refine czz (fun h0 => ?_) fun h0 => ?_
 ·
  have hck := h0
  refine sr ?_
  iterate 2 refine ww ?_
  refine nq ?_
  refine rtn ?_
  refine q_then_ret ?_
  refine q_ret (hR := ?_)
  exact fun w hS => ⟨by rw [chk_bad hck]; rfl, hS.sub slz_⟩
 ·
  have hf := chkF_ok h0
  refine skp ?_
  refine q_seq ?_
  refine sq ?_
  refine sr ?_
  refine ww ?_
  refine cl0 (hc := fun w hS => C_ref1_isBoard b A n c w (hS.get rdz_) hn) (h := ?_)
  refine ww ?_
  refine nq ?_
  refine czz (fun h1 => ?_) fun h1 => ?_
  ·
   refine sr ?_
   iterate 2 refine ww ?_
   refine nq ?_
   refine rtn ?_
   refine q_then_ret ?_
   refine q_ret (hR := ?_)
   exact fun w hS => ⟨(cdT' (fun x : List Value => Ending.returned (Value.tuple x.toArray)) h1).trans (cdF' (fun x : List Value => Ending.returned (Value.tuple x.toArray)) h0), hS.sub slz_⟩
  ·
   have hbo : brdOk b = true := by simpa using h1
   have hbl := brd_len hbo
   refine skp ?_
   refine q_seq ?_
   refine sr ?_
   iterate 2 refine ww ?_
   refine cl0 (hc := fun w hS => C_ref1_arises' (tableV f) f b (tbOk_table f) hf hbo A n c hc w (hS.get rdz_)) (h := ?_)
   rw [show (arisesT (tableV f) f b).2 = r from hr]
   iterate 2 refine ww ?_
   refine nq ?_
   refine rtn ?_
   refine q_ret (hR := ?_)
   exact fun w hS => ⟨(cdF' (fun x : List Value => Ending.returned (Value.tuple x.toArray)) h1).trans (cdF' (fun x : List Value => Ending.returned (Value.tuple x.toArray)) h0), hS.sub slz_⟩
theorem C_ref1_Arises (f : Fmt) (b : Brd) (A : Option Addr) (n c : Nat) (hc : n ≤ c) (w : World) (h : Rd w A 2 n (encP b.st)) (hn : n ≤ 1000) : C0 Tryz.prog 51 [f.val, b.val A n c] w (.tuple (arisesR f b).toArray) := C_ref1_Arises' f b A n c hc w h hn _ rfl

end Go.Proofs.YtpmmgljndceplaaGreat

namespace Go.Proofs.YtpmmgljndceplaaGreat
open Go Go.RowKit

section
variable {f : Fmt} {b : Brd}
theorem sets_won {tb : Pr → Tb} (htb : TbOk f tb) (hf : f.Ok) (hb : brdOk b = true) (hok : (setsTo tb f b.st b.st.length).ok = true) : ∀ k, k ≤ b.st.length → (setsTo tb f b.st k).won = wonTo b.st k
 | 0, _ => rfl
 | k + 1, hk => by
  have ih := sets_won htb hf hb hok k (by omega)
  have ho : ∀ j, j ≤ b.st.length → (setsTo tb f b.st j).ok = true := fun j hj => by
   cases e : (setsTo tb f b.st j).ok
   ·
    rw [setsTo_stop e hj, e] at hok; cases hok
   ·
    rfl
  have hp : b.st[k]? = some b.st[k] := List.getElem?_eq_getElem (by omega)
  have hpf := brd_fit hb b.st[k] (by simp only [Brd.all]; exact List.mem_append_left _ (List.getElem_mem _))
  exact (step_is htb hf hp (by omega) (ho k (by omega)) ih).2 (ho (k + 1) hk)
theorem arises_ok {tb : Pr → Tb} (h : (arisesT tb f b).2 = true) : (setsTo tb f b.st b.st.length).ok = true := by
 cases e : (setsTo tb f b.st b.st.length).ok
 ·
  rw [arises_no e (Nat.le_refl _)] at h; cases h
 ·
  rfl
theorem arises_facts' {tb : Pr → Tb} (htb : TbOk f tb) (hf : f.Ok) (hb : brdOk b = true) (h : (arisesT tb f b).2 = true) : (arisesT tb f b).1 = wonV b.st ∧ WonOk f (wonV b.st) ∧ (overV f (wonV b.st) = true ∨ (overV f (wonV b.st) = false ∧ OpenP f (setV f (wonV b.st)) b.g.1 b.g.2 ∧ arePts f (tiedV f b.st b.g) (setV f (wonV b.st)).2 b.p = true)) := by
 have hok := arises_ok h
 have hw := sets_won htb hf hb hok b.st.length (Nat.le_refl _)
 have h1 : (arisesT tb f b).1 = wonV b.st := by rw [arises_won]; exact hw
 have hs0 := hf.s0
 have h2 : WonOk f (wonV b.st) := by rw [← show _ = wonV b.st from hw]; exact setsTo_won (by omega) _
 refine ⟨h1, h2, ?_⟩
 cases hov : overV f (wonV b.st)
 ·
  have hbp := brd_fit hb b.p (by simp [Brd.all])
  have hbg := brd_fit hb b.g (by simp [Brd.all])
  have hE := arises_pts htb hf hbg (by omega) hok hw hov
  rw [h] at hE
  have hE' := hE.symm
  rw [Bool.and_eq_true, decide_eq_true_eq] at hE'
  exact .inr ⟨rfl, (exp_open (tie_ok hf _) _ _).1 hE'.1, hE'.2⟩
 ·
  exact .inl rfl
theorem arises_facts (hf : f.Ok) (hb : brdOk b = true) (h : (arisesV f b).2 = true) : (arisesV f b).1 = wonV b.st ∧ WonOk f (wonV b.st) ∧ (overV f (wonV b.st) = true ∨ (overV f (wonV b.st) = false ∧ OpenP f (setV f (wonV b.st)) b.g.1 b.g.2 ∧ arePts f (tiedV f b.st b.g) (setV f (wonV b.st)).2 b.p = true)) :=
 arises_facts' (tbOk_table f) hf hb h
theorem own_pair (side : Int) (p : Pr) : ownP side p = ((ownP side p).1, (ownP side p).2) := rfl
theorem brks_own {side : Int} (hs : side = 0 ∨ side = 1) (s g : Pr) : brksV s (ownP side g) = brksV s g := by
 rcases hs with rfl | rfl
 ·
  rfl
 ·
  show (decide (g.2 = s.1) && decide (g.1 = s.1)) = (decide (g.1 = s.1) && decide (g.2 = s.1))
  rw [Bool.and_comm]
end
end Go.Proofs.YtpmmgljndceplaaGreat

namespace Go.Proofs.YtpmmgljndceplaaGreat
open Go Go.RowKit

structure RS where
 (st : List Pr) (g p : Pr) (server ends balls winner first : Int) (gs : List Gm) (fresh : Bool)
abbrev RS.cells (r : RS) (sA : Option Addr) (sc : Nat) (gA : Option Addr) (gc : Nat) : List Value := [.slice sA r.st.length sc, .int .i64 r.g.1, .int .i64 r.g.2, .int .i64 r.p.1, .int .i64 r.p.2, .int .i64 r.server, .int .i64 r.ends, .int .i64 r.balls, .int .i64 r.winner, .int .i64 r.first, .slice gA r.gs.length gc, .bool r.fresh]
abbrev RS.val (r : RS) (sA : Option Addr) (sc : Nat) (gA : Option Addr) (gc : Nat) : Value := .agg #[.slice sA r.st.length sc, .int .i64 r.g.1, .int .i64 r.g.2, .int .i64 r.p.1, .int .i64 r.p.2, .int .i64 r.server, .int .i64 r.ends, .int .i64 r.balls, .int .i64 r.winner, .int .i64 r.first, .slice gA r.gs.length gc, .bool r.fresh]
def gsTie (gs : List Gm) (i : Int) : Bool := match gs[i.toNat]? with | some g => g.tie | none => false
def rFresh (f : Fmt) (r : RS) : Bool := dueV f r.gs.length && !tiedV f r.st r.g || (decide (2 ≤ (r.gs.length : Int)) && dueV f ((r.gs.length : Int) - 2) && gsTie r.gs ((r.gs.length : Int) - 2))
def rBegin (f : Fmt) (r : RS) : RS := { r with fresh := rFresh f r, balls := bif rFresh f r then r.balls + 1 else r.balls }
theorem gs_tie {gs : List Gm} {i : Int} {g : Gm} (h : gs[i.toNat]? = some g) : gsTie gs i = g.tie := by rw [gsTie, h]
theorem encG_at {gs : List Gm} {i : Nat} {g : Gm} (h : gs[i]? = some g) : (encG gs)[i]? = some g.enc := by simp [encG, h]

theorem C_ref1_begin (f : Fmt) (r : RS) (sA : Option Addr) (sc : Nat) (gA : Option Addr) (gc n m : Nat) (hf : f.Ok) (w : World) (h : Rd w sA 2 n (encP r.st)) (h' : Rd w gA 7 m (encG r.gs)) (hn : n ≤ 1000) (hm : m ≤ 1000) (hb : 0 ≤ r.balls ∧ r.balls ≤ 1000000) :
  C0 Tryz.prog 53 [f.val, r.val sA sc gA gc] w ((rBegin f r).val sA sc gA gc) := by
 obtain rfl : r.st.length = n := by have := h.len; simpa [encP] using this
 obtain rfl : r.gs.length = m := by have := h'.len; simpa [encG] using this
 have hfr : rFresh f r = rFresh f r := rfl
 refine ⟨en Tryz.func53 Tryz.ntmps53 (((St.init w).share (e := .ro sA 2 r.st.length (encP r.st)) h rfl rfl rfl).share (e := .ro gA 7 r.gs.length (encG r.gs)) h' rfl rfl rfl) (h := fun F => ?_)⟩
 refine sr ?_
 refine bxA (h := fun b0 => ?_)
 refine bxA (h := fun b1 => ?_)
 refine al (h := fun b2 => ?_)
 refine nr ?_
 iterate 4 refine ww ?_
 refine nr ?_
 iterate 4 refine ww ?_
 refine cl0 (hc := fun w hS => C_ref1_tied f ⟨r.st, r.g, r.p⟩ sA r.st.length sc hf w (hS.get rdz_) (by omega)) (h := ?_)
 iterate 5 refine ww ?_
 refine nr ?_
 iterate 2 refine ww ?_
 refine cl0 (hc := fun w hS => C_ref1_due _ _ (by assumption) (by omega) w) (h := ?_)
 refine ww ?_
 apply brAnd 3 22 25 (by exact rfl)
 ·
  intro hb0
  iterate 2 refine uw ?_
  refine ww ?_
  exact mg (by repeat (first | exact trivial | refine ⟨rfl, ?_⟩ | refine ⟨by rw [hb0]; rfl, ?_⟩)) slz_
 ·
  intro hb0
  repeat (first | refine uz ?_ | refine kz ?_ | refine wz ?_)
  exact mg (by repeat (first | exact trivial | refine ⟨rfl, ?_⟩ | refine ⟨by rw [hb0]; rfl, ?_⟩)) slz_
 refine ww ?_
 apply brOr 18 26 44 (by exact rfl)
 ·
  intro hb1
  iterate 3 refine uw ?_
  apply brAnd 5 29 34 (by exact rfl)
  ·
   intro hb2
   have h2 : 2 ≤ r.gs.length := by simp only [decide_eq_true_eq] at hb2; omega
   iterate 3 refine uw ?_
   refine uz ?_
   refine cl0 (hc := fun w hS => C_ref1_due _ _ (by assumption) (by omega) w) (h := ?_)
   refine uw ?_
   exact mg (by repeat (first | exact trivial | refine ⟨rfl, ?_⟩ | refine ⟨by rw [hb2]; rfl, ?_⟩ | refine ⟨by rw [hb1]; rfl, ?_⟩)) slz_
  ·
   intro hb2
   repeat (first | refine uz ?_ | refine kz ?_ | refine wz ?_)
   exact mg (by repeat (first | exact trivial | refine ⟨rfl, ?_⟩ | refine ⟨by rw [hb2]; rfl, ?_⟩ | refine ⟨by rw [hb1]; rfl, ?_⟩)) slz_
  refine uw ?_
  apply brAnd 8 35 43 (by exact rfl)
  ·
   intro hb3
   have h2 : 2 ≤ r.gs.length := by simp only [Bool.and_eq_true, decide_eq_true_eq] at hb3; omega
   obtain ⟨g, hg⟩ : ∃ g, r.gs[((r.gs.length : Int) - 2).toNat]? = some g := ⟨_, List.getElem?_eq_getElem (by omega)⟩
   have hge : (encG r.gs)[((r.gs.length : Int) - 2).toNat]? = some [.int .i64 g.set, .bool (gsTie r.gs ((r.gs.length : Int) - 2)), .int .i64 g.server, .int .i64 g.winner, .int .i64 g.pts.1, .int .i64 g.pts.2, .bool g.fresh] := by rw [gs_tie hg]; exact encG_at hg
   iterate 4 refine uw ?_
   refine uz ?_
   refine wy (ix (A := gA) (m := r.gs.length) (hb := by omega)) ?_
   refine uw ?_
   refine uz ?_
   refine wy (ldE (hk := hge)) ?_
   refine uw ?_
   exact mg (by repeat (first | exact trivial | refine ⟨rfl, ?_⟩ | refine ⟨by rw [hb3]; rfl, ?_⟩ | refine ⟨by rw [hb1]; rfl, ?_⟩)) slz_
  ·
   intro hb3
   repeat (first | refine uz ?_ | refine kz ?_ | refine wz ?_)
   exact mg (by repeat (first | exact trivial | refine ⟨rfl, ?_⟩ | refine ⟨by rw [hb3]; rfl, ?_⟩ | refine ⟨by rw [hb1]; rfl, ?_⟩)) slz_
  refine ww ?_
  exact mg (by repeat (first | exact trivial | refine ⟨rfl, ?_⟩ | refine ⟨by rw [hb1]; rfl, ?_⟩)) slz_
 ·
  intro hb1
  repeat (first | refine uz ?_ | refine kz ?_ | refine wz ?_)
  exact mg (by repeat (first | exact trivial | refine ⟨rfl, ?_⟩ | refine ⟨by rw [hb1]; rfl, ?_⟩)) slz_
 refine ww ?_
 first | refine st (h := ?_) | refine stE (h := ?_)
 refine nq ?_
 refine sq ?_
 refine sr ?_
 iterate 2 refine ww ?_
 refine nq ?_
 refine czz (fun h4 => ?_) fun h4 => ?_
 ·
  have hB : rBegin f r = { r with fresh := rFresh f r, balls := r.balls + 1 } := by
   have h' : rFresh f r = true := h4
   simp only [rBegin, h', cond_true]
  refine rg ?_
  iterate 6 refine ww ?_
  first | refine st (h := ?_) | refine stE (h := ?_)
  refine nr ?_
  refine ww ?_
  first | refine stA (h := ?_) | refine stEA (h := ?_)
  refine nq ?_
  refine rtn ?_
  refine q_ret (hR := ?_)
  rw [hB]
  exact fun w hS => ⟨rfl, hS.sub slz_⟩
 ·
  have hB : rBegin f r = { r with fresh := rFresh f r, balls := r.balls } := by
   have h' : rFresh f r = false := h4
   simp only [rBegin, h', cond_false]
  refine skp ?_
  refine q_seq ?_
  refine sr ?_
  refine ww ?_
  first | refine stA (h := ?_) | refine stEA (h := ?_)
  refine nq ?_
  refine rtn ?_
  refine q_ret (hR := ?_)
  rw [hB]
  exact fun w hS => ⟨rfl, hS.sub slz_⟩

def rW (f : Fmt) (r : RS) (side : Int) : Int := bif tiedV f r.st r.g then leadsV (addV r.p side) (setV f (wonV r.st)).2 2 else gameR f (addV r.p side)
def rEnds (f : Fmt) (r : RS) (side : Int) : Int := bif tiedV f r.st r.g && (decide (rW f r side < 0) && decide (((addV r.p side).1 + (addV r.p side).2) % 6 = 0)) then r.ends + 1 else r.ends
def rN (f : Fmt) (r : RS) (side : Int) : RS := { r with p := addV r.p side, ends := rEnds f r side }
def rGm (f : Fmt) (r : RS) (side : Int) : Gm := ⟨r.st.length, tiedV f r.st r.g, servR f r.first r.gs.length (tiedV f r.st r.g) 0, rW f r side, addV r.p side, r.fresh⟩
def rG (f : Fmt) (r : RS) (side : Int) : RS := { r with p := (0, 0), gs := r.gs ++ [rGm f r side], g := addV r.g (rW f r side) }
def rSet (f : Fmt) (r : RS) (side : Int) : Bool := tiedV f r.st r.g || decide (0 ≤ leadsV (addV r.g (rW f r side)) f.games 2)
def rS (f : Fmt) (r : RS) (side : Int) : RS := bif rSet f r side then { rG f r side with st := r.st ++ [addV r.g (rW f r side)], g := (0, 0) } else rG f r side
def rOver (f : Fmt) (r : RS) (side : Int) : Bool := rSet f r side && (decide ((wonV (r.st ++ [addV r.g (rW f r side)])).1 = f.sets) || decide ((wonV (r.st ++ [addV r.g (rW f r side)])).2 = f.sets))
def rOdd (f : Fmt) (r : RS) (side : Int) : Bool := decide (((addV r.g (rW f r side)).1 + (addV r.g (rW f r side)).2) % 2 = 1)
def rPoint (f : Fmt) (r : RS) (side : Int) : RS :=
 bif decide (rW f r side < 0) then rN f r side else bif rOver f r side then { rS f r side with winner := rW f r side }
 else rBegin f { rS f r side with ends := bif rOdd f r side then (rS f r side).ends + 1 else (rS f r side).ends }
structure RS.Bd (r : RS) (K : Int) : Prop where
 k : 0 ≤ K ∧ K ≤ 990
 fst : 0 ≤ r.first ∧ r.first ≤ 1
 g : (0 ≤ r.g.1 ∧ r.g.1 ≤ K) ∧ 0 ≤ r.g.2 ∧ r.g.2 ≤ K
 p : (0 ≤ r.p.1 ∧ r.p.1 ≤ K) ∧ 0 ≤ r.p.2 ∧ r.p.2 ≤ K
 e : 0 ≤ r.ends ∧ r.ends ≤ K
 b : 0 ≤ r.balls ∧ r.balls ≤ K + 1
 s : (r.st.length : Int) ≤ K
 gs : (r.gs.length : Int) ≤ K
theorem rS_ends (f : Fmt) (r : RS) (side : Int) : (rS f r side).ends = r.ends := by unfold rS rG; cases rSet f r side <;> rfl
theorem rS_balls (f : Fmt) (r : RS) (side : Int) : (rS f r side).balls = r.balls := by unfold rS rG; cases rSet f r side <;> rfl
theorem rS_gs (f : Fmt) (r : RS) (side : Int) : (rS f r side).gs.length = r.gs.length + 1 := by unfold rS rG; cases rSet f r side <;> simp
theorem rS_st (f : Fmt) (r : RS) (side : Int) : (rS f r side).st.length ≤ r.st.length + 1 := by unfold rS rG; cases rSet f r side <;> simp
structure RA where
 (sA gA : Option Addr) (sc gc : Nat)

set_option maxRecDepth 100000 in
set_option maxHeartbeats 2000000 in
theorem T_ref1_Point (f : Fmt) (r : RS) (side K : Int) (sA : Option Addr) (sc : Nat) (gA : Option Addr) (gc : Nat) (hf : f.Ok) (hB : r.Bd K) :
  Tr Tryz.prog 28 [f.val, r.val sA sc gA gc, .int .i64 side] [.own sA sc 38 2 r.st.length (encP r.st), .own gA gc 139 7 r.gs.length (encG r.gs)] (fun _ : RA => True) (fun x => (rPoint f r side).val x.sA x.sc x.gA x.gc)
   (fun x => [.own x.sA x.sc 38 2 (rPoint f r side).st.length (encP (rPoint f r side).st), .own x.gA x.gc 139 7 (rPoint f r side).gs.length (encG (rPoint f r side).gs)]) := by
 refine ⟨fun w0 w R hst => ?_⟩
 obtain ⟨hk, hfst, hg, hp, he, hb, hsl, hgl⟩ := hB
 have hSp : Sm r.p := sm_of hp (by omega)
 have hSp1 : Sm (addV r.p side) := sm_of (addV_bd (side := side) hp) (by omega)
 have hSg : Sm r.g := sm_of hg (by omega)
 have hSg1 : Sm (addV r.g (rW f r side)) := sm_of (addV_bd (side := rW f r side) hg) (by omega)
 have hgb := addV_bd (side := rW f r side) hg
 have hpb := addV_bd (side := side) hp
 have hse1 := rS_ends f r side
 have hsb1 := rS_balls f r side
 have hsg1 := rS_gs f r side
 have hss1 := rS_st f r side
 have hsl1 : (r.gs ++ [rGm f r side]).length = 0 + r.gs.length + 1 := by simp
 have hsl2 : encG (r.gs ++ [rGm f r side]) = [] ++ encG r.gs ++ [(rGm f r side).enc] := by simp [encG]
 have hsl3 : (r.st ++ [addV r.g (rW f r side)]).length = 0 + r.st.length + 1 := by simp
 have hsl4 : encP (r.st ++ [addV r.g (rW f r side)]) = [] ++ encP r.st ++ [[.int .i64 (addV r.g (rW f r side)).1, .int .i64 (addV r.g (rW f r side)).2]] := by simp [encP]
 refine en Tryz.func28 Tryz.ntmps28 hst (h := fun F => ?_)
 refine sr ?_
 refine bxA (h := fun b0 => ?_)
 refine bxA (h := fun b1 => ?_)
 refine al (h := fun b2 => ?_)
 refine nr ?_
 iterate 4 refine ww ?_
 refine cl0 (hc := fun w hS => C_ref1_tied f ⟨r.st, r.g, r.p⟩ sA r.st.length sc hf w (hS.get rdz_) (by omega)) (h := ?_)
 iterate 5 refine ww ?_
 refine nr ?_
 iterate 5 refine ww ?_
 refine cl0 (hc := fun w hS => C_ref1_plus _ _ (by assumption) w) (h := ?_)
 iterate 3 refine ww ?_
 first | refine stA (h := ?_) | refine stEA (h := ?_)
 refine nr ?_
 iterate 4 refine ww ?_
 refine al (h := fun b3 => ?_)
 first | refine stA (h := ?_) | refine stEA (h := ?_)
 refine nr ?_
 iterate 2 refine ww ?_
 refine cl0 (hc := fun w hS => C_ref1_game _ _ (by assumption) w) (h := ?_)
 refine ww ?_
 refine nq ?_
 refine ct (X := Unit) (fun _ => True) (fun _ => [(3, .pointer (some ⟨b0, 0, none⟩)), (4, .pointer (some ⟨b1, 0, none⟩)), (6, .pointer (some ⟨b2, 0, none⟩)), (7, .bool (tiedV f r.st r.g)), (9, .pointer (some ⟨b3, 0, none⟩)), (10, .int .i64 (rW f r side))]) (fun _ => .blk b0 35 f.cells :: .blk b1 47 ((rN f r side).cells sA sc gA gc) :: .blk b2 47 [.slice none 0 0, .int .i64 0, .int .i64 0, .int .i64 0, .int .i64 0, .int .i64 0, .int .i64 0, .int .i64 0, .int .i64 0, .int .i64 0, .slice none 0 0, .bool false] :: .blk b3 38 [.int .i64 (addV r.p side).1, .int .i64 (addV r.p side).2] :: .own sA sc 38 2 r.st.length (encP r.st) :: .own gA gc 139 7 r.gs.length (encG r.gs) :: R) (h1 := ?_) (h2 := ?_)
 ·
  refine sr ?_
  refine ww ?_
  refine nq ?_
  refine czz (fun h0 => ?_) fun h0 => ?_
  ·
   have hti : tiedV f r.st r.g = true := h0
   have hW : rW f r side = leadsV (addV r.p side) (setV f (wonV r.st)).2 2 := by rw [rW, hti]; rfl
   refine sr ?_
   iterate 2 refine ww ?_
   refine cl0 (hc := fun w hS => C_ref1_leads _ _ (by assumption) w) (h := ?_)
   refine ww ?_
   refine nq ?_
   refine sq ?_
   refine WC.sub (l' := [(3, .pointer (some ⟨b0, 0, none⟩)), (4, .pointer (some ⟨b1, 0, none⟩)), (6, .pointer (some ⟨b2, 0, none⟩)), (7, .bool (tiedV f r.st r.g)), (9, .pointer (some ⟨b3, 0, none⟩)), (10, .int .i64 (leadsV (addV r.p side) (setV f (wonV r.st)).2 2))]) sbz_ ?_
   refine rg ?_
   iterate 3 refine ww ?_
   apply brAnd 8 44 52 (by exact rfl)
   ·
    intro hb1
    iterate 7 refine uw ?_
    refine ww ?_
    exact mg (by repeat (first | exact trivial | refine ⟨rfl, ?_⟩ | refine ⟨by rw [hb1]; rfl, ?_⟩)) slz_
   ·
    intro hb1
    repeat (first | refine uz ?_ | refine kz ?_ | refine wz ?_)
    exact mg (by repeat (first | exact trivial | refine ⟨rfl, ?_⟩ | refine ⟨by rw [hb1]; rfl, ?_⟩)) slz_
   refine nq ?_
   refine czz (fun h2 => ?_) fun h2 => ?_
   ·
    have hE : rEnds f r side = r.ends + 1 := by
     have h' : (decide (leadsV (addV r.p side) (setV f (wonV r.st)).2 2 < 0) && decide (((addV r.p side).1 + (addV r.p side).2) % 6 = 0)) = true := h2
     rw [rEnds, hti, hW, h']; rfl
    refine rg ?_
    iterate 6 refine ww ?_
    first | refine st (h := ?_) | refine stE (h := ?_)
    refine nl ?_
    exact ctn () trivial (by repeat (first | exact trivial | refine ⟨rfl, ?_⟩ | refine ⟨by rw [hW]; rfl, ?_⟩)) (by dsimp only [rN, RS.cells]; rw [hE]; repeat (first | exact SubL.nil | (apply SubL.cons; (repeat (first | exact At.here | apply At.there))) | exact SubL.refl _ | apply SubL.skip))
   ·
    have hE : rEnds f r side = r.ends := by
     have h' : (decide (leadsV (addV r.p side) (setV f (wonV r.st)).2 2 < 0) && decide (((addV r.p side).1 + (addV r.p side).2) % 6 = 0)) = false := h2
     rw [rEnds, hti, hW, h']; rfl
    refine skp ?_
    exact ctn () trivial (by repeat (first | exact trivial | refine ⟨rfl, ?_⟩ | refine ⟨by rw [hW]; rfl, ?_⟩)) (by dsimp only [rN, RS.cells]; rw [hE]; repeat (first | exact SubL.nil | (apply SubL.cons; (repeat (first | exact At.here | apply At.there))) | exact SubL.refl _ | apply SubL.skip))
  ·
   have hti : tiedV f r.st r.g = false := h0
   have hW : rW f r side = gameR f (addV r.p side) := by rw [rW, hti]; rfl
   have hE : rEnds f r side = r.ends := by rw [rEnds, hti]; rfl
   refine skp ?_
   exact ctn () trivial (by repeat (first | exact trivial | refine ⟨rfl, ?_⟩ | refine ⟨by rw [hW]; rfl, ?_⟩)) (by dsimp only [rN, RS.cells]; rw [hE]; repeat (first | exact SubL.nil | (apply SubL.cons; (repeat (first | exact At.here | apply At.there))) | exact SubL.refl _ | apply SubL.skip))
 rintro ⟨⟩ -
 dsimp only [rN, RS.cells]
 refine sq ?_
 refine sr ?_
 iterate 2 refine ww ?_
 refine nq ?_
 refine czz (fun h3 => ?_) fun h3 => ?_
 ·
  have hlt : decide (rW f r side < 0) = true := h3
  have hP : rPoint f r side = rN f r side := by rw [rPoint, hlt]; rfl
  refine sr ?_
  refine ww ?_
  first | refine stA (h := ?_) | refine stEA (h := ?_)
  refine nq ?_
  refine rtn ?_
  refine q_then_ret ?_
  refine q_ret (hR := ?_)
  rw [hP]
  exact fun w hS => ⟨⟨sA, gA, sc, gc⟩, trivial, rfl, hS.sub slz_⟩
 ·
  have hlt : decide (rW f r side < 0) = false := h3
  have hE : rEnds f r side = r.ends := by rw [rEnds, hlt, Bool.false_and, Bool.and_false]; rfl
  rw [hE]
  refine skp ?_
  refine q_seq ?_
  refine sr ?_
  iterate 6 refine ww ?_
  refine nq ?_
  refine ct (X := Option Addr × Nat) (fun _ => True) (fun _ => [(3, .pointer (some ⟨b0, 0, none⟩)), (4, .pointer (some ⟨b1, 0, none⟩)), (6, .pointer (some ⟨b2, 0, none⟩)), (7, .bool (tiedV f r.st r.g)), (10, .int .i64 (rW f r side))]) (fun x => .blk b0 35 f.cells :: .blk b1 47 ({ r with p := addV r.p side, gs := r.gs ++ [rGm f r side] : RS}.cells sA sc x.1 x.2) :: .blk b2 47 [.slice none 0 0, .int .i64 0, .int .i64 0, .int .i64 0, .int .i64 0, .int .i64 0, .int .i64 0, .int .i64 0, .int .i64 0, .int .i64 0, .slice none 0 0, .bool false] :: .own sA sc 38 2 r.st.length (encP r.st) :: .own x.1 x.2 139 7 (r.gs ++ [rGm f r side]).length (encG (r.gs ++ [rGm f r side])) :: R) (h1 := ?_) (h2 := ?_)
  ·
   refine rgD (by kernel_rfl) [(22, .blk b1 47 [.slice sA r.st.length sc, .int .i64 r.g.1, .int .i64 r.g.2, .int .i64 (addV r.p side).1, .int .i64 (addV r.p side).2, .int .i64 r.server, .int .i64 r.ends, .int .i64 r.balls, .int .i64 r.winner, .int .i64 r.first, .slice gA r.gs.length gc, .bool r.fresh]), (1000000, .blk b0 35 f.cells), (1000000, .blk b3 38 [.int .i64 (addV r.p side).1, .int .i64 (addV r.p side).2])] (by repeat (first | exact HS.nil | (apply HS.keep; (repeat (first | exact At.here | apply At.there))) | (apply HS.ro; (repeat (first | exact Rds.ro | exact Rds.own | apply Rds.there))))) (h := ?_)
   refine tw 1 ?_
   refine tw 2 ?_
   refine tw 4 ?_
   refine tw 5 ?_
   refine tw 6 ?_
   refine tw 7 ?_
   refine tw 8 ?_
   refine tw 9 ?_
   refine tw 10 ?_
   refine tw 11 ?_
   refine tw 12 ?_
   refine tw 14 ?_
   refine tw 15 ?_
   refine tw 16 ?_
   refine tw 17 ?_
   refine one 0 (h := ?_)
   refine bs (h := fun b4 => ?_)
   refine nx (h := ?_)
   refine one 3 (h := ?_)
   first | refine ap (h := fun A1 c1 => ?_) | refine ap0 (h := fun A1 c1 => ?_)
   refine nx (h := ?_)
   refine one 13 (h := ?_)
   refine cl0 (hc := fun w hS => C_ref1_Server f r.first r.gs.length (tiedV f r.st r.g) 0 hfst (by omega) (by omega) w) (h := ?_)
   refine nx (h := ?_)
   refine tw 18 ?_
   refine one 19 (h := ?_)
   refine bs (h := fun b5 => ?_)
   refine nx (h := ?_)
   refine one 20 (h := ?_)
   first | refine ap (h := fun A2 c2 => ?_) | refine ap0 (h := fun A2 c2 => ?_)
   refine nx (h := ?_)
   refine tw 21 ?_
   refine one 22 (h := ?_)
   first | refine st (h := ?_) | refine stE (h := ?_)
   refine nx (h := ?_)
   refine dn (h := ?_)
   exact ctn ⟨_, _⟩ trivial sbz_ (by dsimp only [RS.cells]; rw [hsl1, hsl2]; repeat (first | exact SubL.nil | (apply SubL.cons; (repeat (first | exact At.here | apply At.there))) | exact SubL.refl _ | apply SubL.skip))
  rintro ⟨gA1, gc1⟩ -
  dsimp only [RS.cells]
  refine sr ?_
  iterate 4 refine ww ?_
  first | refine stA (h := ?_) | refine stEA (h := ?_)
  refine nr ?_
  iterate 5 refine ww ?_
  refine cl0 (hc := fun w hS => C_ref1_plus _ _ (by assumption) w) (h := ?_)
  refine al (h := fun b6 => ?_)
  first | refine stA (h := ?_) | refine stEA (h := ?_)
  refine nr ?_
  iterate 4 refine ww ?_
  first | refine stA (h := ?_) | refine stEA (h := ?_)
  refine nq ?_
  refine ct (X := Option Addr × Nat) (fun _ => rOver f r side = false) (fun _ => [(3, .pointer (some ⟨b0, 0, none⟩)), (4, .pointer (some ⟨b1, 0, none⟩)), (6, .pointer (some ⟨b2, 0, none⟩)), (12, .pointer (some ⟨b6, 0, none⟩))]) (fun x => .blk b0 35 f.cells :: .blk b1 47 ((rS f r side).cells x.1 x.2 gA1 gc1) :: .blk b2 47 [.slice none 0 0, .int .i64 0, .int .i64 0, .int .i64 0, .int .i64 0, .int .i64 0, .int .i64 0, .int .i64 0, .int .i64 0, .int .i64 0, .slice none 0 0, .bool false] :: .blk b6 38 [.int .i64 (addV r.g (rW f r side)).1, .int .i64 (addV r.g (rW f r side)).2] :: .own x.1 x.2 38 2 (rS f r side).st.length (encP (rS f r side).st) :: .own gA1 gc1 139 7 (rS f r side).gs.length (encG (rS f r side).gs) :: R) (h1 := ?_) (h2 := ?_)
  ·
   refine sr ?_
   iterate 2 refine ww ?_
   apply brOr 6 104 110 (by exact rfl)
   ·
    intro hb4
    iterate 3 refine uw ?_
    refine uz ?_
    refine cl0 (hc := fun w hS => C_ref1_leads _ _ (by assumption) w) (h := ?_)
    refine uw ?_
    refine ww ?_
    exact mg (by repeat (first | exact trivial | refine ⟨rfl, ?_⟩ | refine ⟨by rw [hb4]; rfl, ?_⟩)) slz_
   ·
    intro hb4
    repeat (first | refine uz ?_ | refine kz ?_ | refine wz ?_)
    exact mg (by repeat (first | exact trivial | refine ⟨rfl, ?_⟩ | refine ⟨by rw [hb4]; rfl, ?_⟩)) slz_
   refine nq ?_
   refine czz (fun h5 => ?_) fun h5 => ?_
   ·
    have hse : rSet f r side = true := h5
    have hS : rS f r side = { rG f r side with st := r.st ++ [addV r.g (rW f r side)], g := (0, 0) } := by rw [rS, hse]; rfl
    refine ct (X := Option Addr × Nat) (fun _ => True) (fun _ => [(3, .pointer (some ⟨b0, 0, none⟩)), (4, .pointer (some ⟨b1, 0, none⟩)), (6, .pointer (some ⟨b2, 0, none⟩)), (10, .int .i64 (rW f r side)), (12, .pointer (some ⟨b6, 0, none⟩))]) (fun x => .blk b0 35 f.cells :: .blk b1 47 ({ rG f r side with st := r.st ++ [addV r.g (rW f r side)] : RS}.cells x.1 x.2 gA1 gc1) :: .blk b2 47 [.slice none 0 0, .int .i64 0, .int .i64 0, .int .i64 0, .int .i64 0, .int .i64 0, .int .i64 0, .int .i64 0, .int .i64 0, .int .i64 0, .slice none 0 0, .bool false] :: .blk b6 38 [.int .i64 (addV r.g (rW f r side)).1, .int .i64 (addV r.g (rW f r side)).2] :: .own x.1 x.2 38 2 (r.st ++ [addV r.g (rW f r side)]).length (encP (r.st ++ [addV r.g (rW f r side)])) :: .own gA1 gc1 139 7 (r.gs ++ [rGm f r side]).length (encG (r.gs ++ [rGm f r side])) :: R) (h1 := ?_) (h2 := ?_)
    ·
     refine rgD (by kernel_rfl) [(12, .blk b1 47 [.slice sA r.st.length sc, .int .i64 (addV r.g (rW f r side)).1, .int .i64 (addV r.g (rW f r side)).2, .int .i64 0, .int .i64 0, .int .i64 r.server, .int .i64 r.ends, .int .i64 r.balls, .int .i64 r.winner, .int .i64 r.first, .slice gA1 (r.gs ++ [rGm f r side]).length gc1, .bool r.fresh]), (1000000, .blk b6 38 [.int .i64 (addV r.g (rW f r side)).1, .int .i64 (addV r.g (rW f r side)).2])] (by repeat (first | exact HS.nil | (apply HS.keep; (repeat (first | exact At.here | apply At.there))) | (apply HS.ro; (repeat (first | exact Rds.ro | exact Rds.own | apply Rds.there))))) (h := ?_)
     refine tw 1 ?_
     refine tw 2 ?_
     refine tw 3 ?_
     refine tw 4 ?_
     refine tw 6 ?_
     refine two 0 7 (h1 := ?_) (h2 := ?_)
     ·
      refine bs (h := fun b7 => ?_)
      refine nx (h := ?_)
      refine two 5 7 (h1 := ?_) (h2 := ?_)
      ·
       first | refine ap (h := fun A3 c3 => ?_) | refine ap0 (h := fun A3 c3 => ?_)
       refine nx (h := ?_)
       refine one 7 (h := ?_)
       refine bs (h := fun b8 => ?_)
       refine nx (h := ?_)
       refine one 8 (h := ?_)
       first | refine ap (h := fun A4 c4 => ?_) | refine ap0 (h := fun A4 c4 => ?_)
       refine nx (h := ?_)
       refine tw 9 ?_
       refine tw 10 ?_
       refine tw 11 ?_
       refine one 12 (h := ?_)
       first | refine st (h := ?_) | refine stE (h := ?_)
       refine nx (h := ?_)
       refine dn (h := ?_)
       exact ctn ⟨_, _⟩ trivial sbz_ (by dsimp only [rG, RS.cells]; rw [hsl3, hsl4]; repeat (first | exact SubL.nil | (apply SubL.cons; (repeat (first | exact At.here | apply At.there))) | exact SubL.refl _ | apply SubL.skip))
      ·
       refine bs (h := fun b9 => ?_)
       refine nx (h := ?_)
       refine one 5 (h := ?_)
       first | refine ap (h := fun A5 c5 => ?_) | refine ap0 (h := fun A5 c5 => ?_)
       refine nx (h := ?_)
       refine one 8 (h := ?_)
       first | refine ap (h := fun A6 c6 => ?_) | refine ap0 (h := fun A6 c6 => ?_)
       refine nx (h := ?_)
       refine tw 9 ?_
       refine tw 10 ?_
       refine tw 11 ?_
       refine one 12 (h := ?_)
       first | refine st (h := ?_) | refine stE (h := ?_)
       refine nx (h := ?_)
       refine dn (h := ?_)
       exact ctn ⟨_, _⟩ trivial sbz_ (by dsimp only [rG, RS.cells]; rw [hsl3, hsl4]; repeat (first | exact SubL.nil | (apply SubL.cons; (repeat (first | exact At.here | apply At.there))) | exact SubL.refl _ | apply SubL.skip))
     ·
      refine bs (h := fun b10 => ?_)
      refine nx (h := ?_)
      refine one 0 (h := ?_)
      refine bs (h := fun b11 => ?_)
      refine nx (h := ?_)
      refine one 5 (h := ?_)
      first | refine ap (h := fun A7 c7 => ?_) | refine ap0 (h := fun A7 c7 => ?_)
      refine nx (h := ?_)
      refine one 8 (h := ?_)
      first | refine ap (h := fun A8 c8 => ?_) | refine ap0 (h := fun A8 c8 => ?_)
      refine nx (h := ?_)
      refine tw 9 ?_
      refine tw 10 ?_
      refine tw 11 ?_
      refine one 12 (h := ?_)
      first | refine st (h := ?_) | refine stE (h := ?_)
      refine nx (h := ?_)
      refine dn (h := ?_)
      exact ctn ⟨_, _⟩ trivial sbz_ (by dsimp only [rG, RS.cells]; rw [hsl3, hsl4]; repeat (first | exact SubL.nil | (apply SubL.cons; (repeat (first | exact At.here | apply At.there))) | exact SubL.refl _ | apply SubL.skip))
    rintro ⟨sA1, sc1⟩ -
    dsimp only [rG, RS.cells]
    refine sr ?_
    iterate 4 refine ww ?_
    first | refine stA (h := ?_) | refine stEA (h := ?_)
    refine nr ?_
    iterate 4 refine ww ?_
    refine cl0 (hc := fun w hS => C_ref1_Won (r.st ++ [addV r.g (rW f r side)]) sA1 _ sc1 w (hS.get rdz_) (by omega)) (h := ?_)
    refine al (h := fun b12 => ?_)
    first | refine stA (h := ?_) | refine stEA (h := ?_)
    refine nr ?_
    iterate 6 refine ww ?_
    apply brOr 6 137 143 (by exact rfl)
    ·
     intro hb6
     iterate 5 refine uw ?_
     refine ww ?_
     exact mg (by repeat (first | exact trivial | refine ⟨rfl, ?_⟩ | refine ⟨by rw [hb6]; rfl, ?_⟩)) slz_
    ·
     intro hb6
     repeat (first | refine uz ?_ | refine kz ?_ | refine wz ?_)
     exact mg (by repeat (first | exact trivial | refine ⟨rfl, ?_⟩ | refine ⟨by rw [hb6]; rfl, ?_⟩)) slz_
    refine nq ?_
    refine czz (fun h7 => ?_) fun h7 => ?_
    ·
     have hO : rOver f r side = true := by rw [rOver, hse]; exact h7
     have hP : rPoint f r side = { rS f r side with winner := rW f r side } := by rw [rPoint, hlt, hO]; rfl
     refine sr ?_
     iterate 3 refine ww ?_
     first | refine st (h := ?_) | refine stE (h := ?_)
     refine nr ?_
     refine ww ?_
     first | refine stA (h := ?_) | refine stEA (h := ?_)
     refine nq ?_
     refine rtn ?_
     refine q_then_ret ?_
     refine q_ret (hR := ?_)
     rw [hP, hS]
     exact fun w hS => ⟨⟨sA1, gA1, sc1, gc1⟩, trivial, rfl, hS.sub slz_⟩
    ·
     have hO : rOver f r side = false := by rw [rOver, hse]; exact h7
     refine skp ?_
     first
      | exact ctn (x := (sA1, sc1)) hO sbz_ (by rw [hS]; dsimp only [rG, RS.cells]; repeat (first | exact SubL.nil | (apply SubL.cons; (repeat (first | exact At.here | apply At.there))) | exact SubL.refl _ | apply SubL.skip))
      | exact ctn (x := (sA, sc)) hO sbz_ (by rw [hS]; dsimp only [rG, RS.cells]; repeat (first | exact SubL.nil | (apply SubL.cons; (repeat (first | exact At.here | apply At.there))) | exact SubL.refl _ | apply SubL.skip))
   ·
    have hse : rSet f r side = false := h5
    have hS : rS f r side = rG f r side := by rw [rS, hse]; rfl
    have hO : rOver f r side = false := by rw [rOver, hse]; rfl
    refine skp ?_
    first
     | exact ctn (x := (sA1, sc1)) hO sbz_ (by rw [hS]; dsimp only [rG, RS.cells]; repeat (first | exact SubL.nil | (apply SubL.cons; (repeat (first | exact At.here | apply At.there))) | exact SubL.refl _ | apply SubL.skip))
     | exact ctn (x := (sA, sc)) hO sbz_ (by rw [hS]; dsimp only [rG, RS.cells]; repeat (first | exact SubL.nil | (apply SubL.cons; (repeat (first | exact At.here | apply At.there))) | exact SubL.refl _ | apply SubL.skip))
  rintro ⟨sA2, sc2⟩ hO
  dsimp only [RS.cells]
  refine sq ?_
  refine sr ?_
  iterate 7 refine ww ?_
  refine nq ?_
  refine czz (fun h8 => ?_) fun h8 => ?_
  ·
   have hP : rPoint f r side = rBegin f { rS f r side with ends := (rS f r side).ends + 1 } := by
    have h' : rOdd f r side = true := h8
    rw [rPoint, hlt, hO, h']; rfl
   obtain ⟨r2, hr2⟩ : ∃ r2 : RS, r2 = { rS f r side with ends := (rS f r side).ends + 1 } := ⟨_, rfl⟩
   refine rg ?_
   iterate 6 refine ww ?_
   first | refine st (h := ?_) | refine stE (h := ?_)
   refine nr ?_
   iterate 2 refine ww ?_
   refine cl0 (hc := fun w hS => C_ref1_begin f r2 sA2 sc2 gA1 gc1 (rS f r side).st.length (rS f r side).gs.length hf w (hS.get (by subst hr2; repeat (first | exact Rds.ro | exact Rds.own | apply Rds.there))) (hS.get (by subst hr2; repeat (first | exact Rds.ro | exact Rds.own | apply Rds.there))) (by omega) (by omega) (by subst hr2; dsimp only; omega)) (hargs := by subst hr2; repeat (first | exact Evs.nil | (apply Evs.cons; exact rfl))) (h := ?_)
   first | refine stA (h := ?_) | refine stEA (h := ?_)
   refine nq ?_
   refine rtn ?_
   refine q_ret (hR := ?_)
   rw [hP, ← hr2]
   exact fun w hS => ⟨⟨sA2, gA1, sc2, gc1⟩, trivial, rfl, hS.sub (by subst hr2; dsimp only [rBegin]; repeat (first | exact SubL.nil | (apply SubL.cons; (repeat (first | exact At.here | apply At.there))) | exact SubL.refl _ | apply SubL.skip))⟩
  ·
   have hP : rPoint f r side = rBegin f { rS f r side with ends := (rS f r side).ends } := by
    have h' : rOdd f r side = false := h8
    rw [rPoint, hlt, hO, h']; rfl
   obtain ⟨r2, hr2⟩ : ∃ r2 : RS, r2 = { rS f r side with ends := (rS f r side).ends } := ⟨_, rfl⟩
   refine skp ?_
   refine q_seq ?_
   refine sr ?_
   iterate 2 refine ww ?_
   refine cl0 (hc := fun w hS => C_ref1_begin f r2 sA2 sc2 gA1 gc1 (rS f r side).st.length (rS f r side).gs.length hf w (hS.get (by subst hr2; repeat (first | exact Rds.ro | exact Rds.own | apply Rds.there))) (hS.get (by subst hr2; repeat (first | exact Rds.ro | exact Rds.own | apply Rds.there))) (by omega) (by omega) (by subst hr2; dsimp only; omega)) (hargs := by subst hr2; repeat (first | exact Evs.nil | (apply Evs.cons; exact rfl))) (h := ?_)
   first | refine stA (h := ?_) | refine stEA (h := ?_)
   refine nq ?_
   refine rtn ?_
   refine q_ret (hR := ?_)
   rw [hP, ← hr2]
   exact fun w hS => ⟨⟨sA2, gA1, sc2, gc1⟩, trivial, rfl, hS.sub (by subst hr2; dsimp only [rBegin]; repeat (first | exact SubL.nil | (apply SubL.cons; (repeat (first | exact At.here | apply At.there))) | exact SubL.refl _ | apply SubL.skip))⟩
end Go.Proofs.YtpmmgljndceplaaGreat

namespace Go.Proofs.YtpmmgljndceplaaGreat
open Go Go.RowKit

theorem leads_n {p : Pr} {l b : Int} : leadsV p l b = -1 ↔ ¬ (l ≤ p.1 ∧ b ≤ p.1 - p.2) ∧ ¬ (l ≤ p.2 ∧ b ≤ p.2 - p.1) := by
 unfold leadsV
 cases h1 : decide (l ≤ p.1) && decide (b ≤ p.1 - p.2)
 ·
  cases h2 : decide (l ≤ p.2) && decide (b ≤ p.2 - p.1)
  ·
   simp at h1 h2 ⊢; omega
  ·
   simp at h1 h2 ⊢; omega
 ·
  simp at h1 ⊢; omega
theorem leads_0 {p : Pr} {l b : Int} : leadsV p l b = 0 ↔ (l ≤ p.1 ∧ b ≤ p.1 - p.2) := by
 unfold leadsV
 cases h1 : decide (l ≤ p.1) && decide (b ≤ p.1 - p.2)
 ·
  cases h2 : decide (l ≤ p.2) && decide (b ≤ p.2 - p.1) <;> simp at h1 h2 ⊢ <;> omega
 ·
  simp at h1 ⊢; omega
theorem leads_1 {p : Pr} {l b : Int} (hb : 1 ≤ b) : leadsV p l b = 1 ↔ (l ≤ p.2 ∧ b ≤ p.2 - p.1) := by
 unfold leadsV
 cases h1 : decide (l ≤ p.1) && decide (b ≤ p.1 - p.2)
 ·
  cases h2 : decide (l ≤ p.2) && decide (b ≤ p.2 - p.1) <;> simp at h1 h2 ⊢ <;> omega
 ·
  simp at h1 ⊢; omega
theorem add_0 (p : Pr) : addV p 0 = (p.1 + 1, p.2) := rfl
theorem add_1 (p : Pr) : addV p 1 = (p.1, p.2 + 1) := rfl
theorem add_sum (p : Pr) (side : Int) : (addV p side).1 + (addV p side).2 = p.1 + p.2 + 1 := by
 unfold addV; cases decide (side = 0) <;> simp only [cond_true, cond_false] <;> omega
theorem leads_add {p : Pr} {l b side : Int} (hb : 1 ≤ b) (hs : side = 0 ∨ side = 1) (h : leadsV p l b = -1) : leadsV (addV p side) l b = -1 ∨ leadsV (addV p side) l b = side := by
 rw [leads_n] at h
 rcases hs with rfl | rfl
 ·
  by_cases h0 : leadsV (addV p 0) l b = 0
  ·
   exact .inr h0
  ·
   left
   rw [leads_n]
   rw [leads_0] at h0
   rw [add_0] at h0 ⊢
   exact ⟨h0, by simp only; omega⟩
 ·
  by_cases h0 : leadsV (addV p 1) l b = 1
  ·
   exact .inr h0
  ·
   left
   rw [leads_n]
   rw [leads_1 hb] at h0
   rw [add_1] at h0 ⊢
   exact ⟨by simp only; omega, h0⟩
theorem game_add {f : Fmt} {s p : Pr} {t : Bool} {side : Int} (hs : side = 0 ∨ side = 1) (h : gameV f s t p = -1) : gameV f s t (addV p side) = -1 ∨ gameV f s t (addV p side) = side := by
 unfold gameV at *
 cases t
 ·
  cases hn : f.noAd <;> rw [hn] at h <;> exact leads_add (by omega) hs h
 ·
  exact leads_add (by omega) hs h

theorem befTo_half (first side : Int) (hf : 0 ≤ first ∧ first ≤ 1) (hs : 0 ≤ side ∧ side ≤ 1) : ∀ k : Nat, befTo first side k = if first = side then ((k : Int) + 1) / 2 else (k : Int) / 2
 | 0 => by simp [befTo]
 | k + 1 => by
  rw [befTo, befTo_half first side hf hs k]
  by_cases h1 : (first + (k : Int)) % 2 = side
  ·
   rw [decide_eq_true h1]
   by_cases h2 : first = side
   ·
    simp only [if_pos h2, cond_true]; omega
   ·
    simp only [if_neg h2, cond_true]; omega
  ·
   rw [decide_eq_false h1]
   by_cases h2 : first = side
   ·
    simp only [if_pos h2, cond_false]; omega
   ·
    simp only [if_neg h2, cond_false]; omega
theorem serv_eq {f : Fmt} {first : Int} {game : Nat} {ties : List Bool} {tie : Bool} {pt : Int} (hf : 0 ≤ first ∧ first ≤ 1) (hl : ties.length = game + 1) (ht : tieI ties ((ties.length : Int) - 1) = tie) (hp : 0 ≤ pt) : servR f first game tie pt = servesV f first ties pt := by
 have hg : (ties.length : Int) - 1 = game := by omega
 have htu : turnV ties pt = turnR tie pt := by unfold turnV turnR; rw [ht]
 have ht0 : 0 ≤ turnR tie pt := by unfold turnR; cases tie <;> simp <;> omega
 unfold servR servesV
 rw [htu, hg]
 generalize turnR tie pt = t at *
 cases f.dbl
 ·
  rfl
 ·
  simp only [Bool.not_true, cond_false]
  rw [befTo_half first _ hf (by omega)]
  by_cases h : first = (first + (game : Int) + t) % 2
  ·
   rw [if_pos h]; omega
  ·
   rw [if_neg h]; omega

theorem tieI_app {l : List Bool} {b : Bool} : tieI (l ++ [b]) ((((l ++ [b]).length : Nat) : Int) - 1) = b := by
 have : ((((l ++ [b]).length : Nat) : Int) - 1).toNat = l.length := by simp
 rw [tieI, this]
 simp
theorem tieI_at {l : List Bool} {i : Nat} {b : Bool} (h : l[i]? = some b) : tieI l (i : Int) = b := by simp [tieI, h]

structure MS.Inv (m : MS) : Prop where
 w : m.winner = -1
 won : m.won = wonV m.st
 tl : m.ties.length = m.gs.length + 1
 te : ∀ (i : Nat) g, m.gs[i]? = some g → m.ties[i]? = some g.tie
 ta : m.tie = brksV (setV m.f m.won) m.g
 g0 : 0 ≤ m.g.1 ∧ 0 ≤ m.g.2
 ld : leadsV m.g m.f.games 2 = -1
 ad : m.f.noAd = true → m.tie = false → m.p.1 < 4 ∧ m.p.2 < 4
 go : gameV m.f (setV m.f m.won) m.tie m.p = -1
 ws : m.won.1 < m.f.sets ∧ m.won.2 < m.f.sets
 p0 : 0 ≤ m.p.1 ∧ 0 ≤ m.p.2
 sv : m.server = servesV m.f m.first m.ties (m.p.1 + m.p.2)
def refOf (m : MS) : RS := ⟨m.st, m.g, m.p, 0, m.ends, m.balls, m.winner, m.first, m.gs, freshV m.f m.ties⟩

theorem set_to (f : Fmt) (hf : f.Ok) (won : Pr) : 1 ≤ (setV f won).2 ∧ -1 ≤ (setV f won).1 := by
 have h1 := hf.o0
 have h2 := hf.l0
 have h3 := hf.t
 have h4 := hf.lt
 have h5 := hf.g0
 unfold setV
 cases decide (won.1 = f.sets - 1) && decide (won.2 = f.sets - 1) <;> simp only [cond_true, cond_false] <;> omega
theorem game_00 {f : Fmt} (hf : f.Ok) (won : Pr) (t : Bool) : gameV f (setV f won) t (0, 0) = -1 := by
 have := set_to f hf won
 unfold gameV
 cases t <;> cases f.noAd <;> simp only [cond_true, cond_false] <;> rw [leads_n] <;> simp only <;> omega
theorem tied_eq {f : Fmt} {st : List Pr} {won g : Pr} (hw : won = wonV st) (hg : 0 ≤ g.1) : tiedV f st g = brksV (setV f won) g := by
 unfold tiedV brksV
 rw [hw]
 by_cases h : g.1 = (setV f (wonV st)).1
 ·
  have : 0 ≤ (setV f (wonV st)).1 := by omega
  simp [h, this]
 ·
  simp [h]

structure MS.Pre (m : MS) : Prop where
 w : m.winner = -1
 won : m.won = wonV m.st
 tl : m.ties.length = m.gs.length
 te : ∀ (i : Nat) g, m.gs[i]? = some g → m.ties[i]? = some g.tie
 g0 : 0 ≤ m.g.1 ∧ 0 ≤ m.g.2
theorem fresh_eq {m : MS} (h : m.Pre) : rFresh m.f (refOf m) = freshV m.f (tiesV m) := by
 have hl : ((tiesV m).length : Int) - 1 = (m.gs.length : Int) := by simp [tiesV, h.tl]
 have h1 : tieI (tiesV m) ((tiesV m).length - 1) = tiedV m.f m.st m.g := by rw [tied_eq h.won h.g0.1]; exact tieI_app
 unfold rFresh freshV
 rw [h1, hl]
 show (dueV m.f m.gs.length && !tiedV m.f m.st m.g || decide (2 ≤ (m.gs.length : Int)) && dueV m.f ((m.gs.length : Int) - 2) && gsTie m.gs ((m.gs.length : Int) - 2)) = _
 rw [Bool.and_comm (dueV m.f m.gs.length)]
 congr 1
 by_cases h2 : 2 ≤ (m.gs.length : Int)
 ·
  obtain ⟨g, hg⟩ : ∃ g, m.gs[m.gs.length - 2]? = some g := ⟨_, List.getElem?_eq_getElem (by omega)⟩
  have e : (m.gs.length : Int) - 2 = ((m.gs.length - 2 : Nat) : Int) := by omega
  have hi : tieI (tiesV m) ((m.gs.length : Int) - 2) = g.tie := by
   rw [e]
   refine tieI_at ?_
   rw [tiesV, List.getElem?_append_left (by rw [h.tl]; omega)]
   exact h.te _ _ hg
  have hi2 : gsTie m.gs ((m.gs.length : Int) - 2) = g.tie := gs_tie (by rw [e, Int.toNat_natCast]; exact hg)
  rw [hi, hi2, Bool.and_assoc, Bool.and_comm (dueV _ _), ← Bool.and_assoc]
 ·
  simp [h2]
theorem begin_eq {m : MS} (h : m.Pre) (fr : Bool) : rBegin m.f { refOf m with fresh := fr } = refOf (nextV m) := by
 have hf : rFresh m.f { refOf m with fresh := fr } = freshV m.f (tiesV m) := fresh_eq h
 have hw : decide (0 ≤ m.winner) = false := by rw [h.w]; rfl
 unfold rBegin nextV
 rw [hf, hw]
 rfl
theorem next_inv {m : MS} (hf : m.f.Ok) (hp : m.Pre) (hld : leadsV m.g m.f.games 2 = -1) (hws : m.won.1 < m.f.sets ∧ m.won.2 < m.f.sets) (hp0 : m.p = (0, 0)) : (nextV m).Inv := by
 have hw : decide (0 ≤ m.winner) = false := by rw [hp.w]; rfl
 have e : nextV m = { m with ties := tiesV m, balls := bif freshV m.f (tiesV m) then m.balls + 1 else m.balls, server := servesV m.f m.first (tiesV m) 0 } := by rw [nextV, hw]; rfl
 rw [e]
 refine ⟨hp.w, hp.won, by simp [tiesV, hp.tl], fun i g hg => ?_, tieI_app, hp.g0, hld, fun _ _ => ?_, ?_, hws, ?_, ?_⟩
 ·
  have hi : i < m.gs.length := (List.getElem?_eq_some_iff.1 hg).1
  show (tiesV m)[i]? = _
  rw [tiesV, List.getElem?_append_left (by rw [hp.tl]; exact hi)]
  exact hp.te i g hg
 ·
  dsimp only; rw [hp0]; simp
 ·
  dsimp only; rw [hp0]; exact game_00 hf _ _
 ·
  dsimp only; rw [hp0]; simp
 ·
  dsimp only; rw [hp0]; rfl

structure MS.Done (m : MS) : Prop where
 w : m.winner = 0 ∨ m.winner = 1
 sv : m.server = -1
def gameOver (m : MS) (side : Int) : MS := { m with gs := m.gs ++ [gameG m side], p := (0, 0), g := addV m.g side, ends := bif decide (((addV m.g side).1 + (addV m.g side).2) % 2 = 1) then m.ends + 1 else m.ends }
def setOver (m : MS) (side : Int) : MS := { m with gs := m.gs ++ [gameG m side], p := (0, 0), st := m.st ++ [addV m.g side], g := (0, 0), won := addV m.won side, ends := bif decide (((addV m.g side).1 + (addV m.g side).2) % 2 = 1) then m.ends + 1 else m.ends }
def matchOver (m : MS) (side : Int) : MS := { m with gs := m.gs ++ [gameG m side], p := (0, 0), st := m.st ++ [addV m.g side], g := (0, 0), won := addV m.won side, winner := side, server := -1 }
inductive Stp (m : MS) (side : Int) : MS → Prop
 | no (hw : m.w side = -1) (hi : (pointN m side).Inv) : Stp m side (pointN m side)
 | game (hw : m.w side = side) (he : setEnds m side = false) (hp : (gameOver m side).Pre) (hi : (nextV (gameOver m side)).Inv) : Stp m side (nextV (gameOver m side))
 | set (hw : m.w side = side) (he : setEnds m side = true) (hl : (addV m.g side).2 < (addV m.g side).1 ↔ side = 0) (ho : max (addV m.won side).1 (addV m.won side).2 < m.f.sets) (hp : (setOver m side).Pre) (hi : (nextV (setOver m side)).Inv) : Stp m side (nextV (setOver m side))
 | over (hw : m.w side = side) (he : setEnds m side = true) (hl : (addV m.g side).2 < (addV m.g side).1 ↔ side = 0) (ho : max (addV m.won side).1 (addV m.won side).2 = m.f.sets) : Stp m side (matchOver m side)

theorem wside_eq {p : Pr} {side : Int} (hs : side = 0 ∨ side = 1) (h : p.2 < p.1 ↔ side = 0) : wside p = side := by
 unfold wside
 by_cases h0 : p.2 < p.1
 ·
  rw [decide_eq_true h0]; have := h.1 h0; simp [this]
 ·
  rw [decide_eq_false h0]
  have : side ≠ 0 := fun e => h0 (h.2 e)
  simp only [cond_false]; omega
theorem set_lead {m : MS} (h : m.Inv) {side : Int} (hs : side = 0 ∨ side = 1) (he : setEnds m side = true) : (addV m.g side).2 < (addV m.g side).1 ↔ side = 0 := by
 unfold setEnds at he
 rw [Bool.or_eq_true, decide_eq_true_eq] at he
 rcases he with ht | hl
 ·
  have hb := h.ta
  rw [ht] at hb
  have := hb.symm
  simp only [brksV, Bool.and_eq_true, decide_eq_true_eq] at this
  rcases hs with rfl | rfl
  ·
   rw [add_0]; dsimp only; omega
  ·
   rw [add_1]; dsimp only; omega
 ·
  rcases leads_add (b := 2) (by omega) hs h.ld with h1 | h1
  ·
   omega
  ·
   rcases hs with rfl | rfl
   ·
    rw [leads_0] at h1; rw [add_0] at h1 ⊢; dsimp only at h1 ⊢; omega
   ·
    rw [leads_1 (by omega)] at h1; rw [add_1] at h1 ⊢; dsimp only at h1 ⊢; omega

theorem point_step {m : MS} (hf : m.f.Ok) (h : m.Inv) {side : Int} (hs : side = 0 ∨ side = 1) : Stp m side (pointV m side) := by
 have h01 : 0 ≤ (addV m.g side).1 ∧ 0 ≤ (addV m.g side).2 := by
  have := h.g0
  unfold addV; cases decide (side = 0) <;> simp only [cond_true, cond_false] <;> omega
 have tie' : ∀ (i : Nat) g, (m.gs ++ [gameG m side])[i]? = some g → m.ties[i]? = some g.tie := fun i g hg => by
  by_cases hi : i < m.gs.length
  ·
   rw [List.getElem?_append_left hi] at hg; exact h.te i g hg
  ·
   have hl : i < (m.gs ++ [gameG m side]).length := (List.getElem?_eq_some_iff.1 hg).1
   obtain rfl : i = m.gs.length := by simp at hl; omega
   simp at hg
   subst hg
   have hlt : m.gs.length < m.ties.length := by rw [h.tl]; omega
   show m.ties[m.gs.length]? = some m.tie
   rw [List.getElem?_eq_getElem hlt]
   have e : m.tie = m.ties.getD m.gs.length false := by
    rw [MS.tie, tieI]
    congr 1
    have := h.tl
    omega
   rw [e, List.getD_eq_getElem?_getD, List.getElem?_eq_getElem hlt]
   rfl
 have htl : m.ties.length = (m.gs ++ [gameG m side]).length := by rw [h.tl]; simp
 rcases game_add (f := m.f) (s := setV m.f m.won) (t := m.tie) hs h.go with hw | hw
 ·
  have e : pointV m side = pointN m side := by
   have : decide (m.w side < 0) = true := by rw [MS.w, hw]; rfl
   rw [pointV, this]; rfl
  rw [e]
  refine .no hw ⟨h.w, h.won, h.tl, h.te, h.ta, h.g0, h.ld, fun hn ht => ?_, hw, h.ws, ?_, rfl⟩
  ·
   have ht' : m.tie = false := ht
   have hp := h.ad hn ht'
   have hg : gameV m.f (setV m.f m.won) m.tie (addV m.p side) = -1 := hw
   unfold gameV at hg
   rw [ht', show m.f.noAd = true from hn] at hg
   simp only [cond_true, cond_false] at hg
   rw [leads_n] at hg
   show (addV m.p side).1 < 4 ∧ (addV m.p side).2 < 4
   rcases hs with rfl | rfl
   ·
    rw [add_0] at hg ⊢; simp only at hg ⊢; omega
   ·
    rw [add_1] at hg ⊢; simp only at hg ⊢; omega
  ·
   show 0 ≤ (addV m.p side).1 ∧ 0 ≤ (addV m.p side).2
   have := h.p0
   rcases hs with rfl | rfl
   ·
    rw [add_0]; simp only; omega
   ·
    rw [add_1]; simp only; omega
 ·
  have hws : m.w side = side := hw
  have hs0 : 0 ≤ side := by omega
  have hlt : decide (m.w side < 0) = false := by rw [hws]; simp; omega
  cases he : setEnds m side
  ·
   have hG : pointG m side = { m with gs := m.gs ++ [gameG m side], p := (0, 0), g := addV m.g side } := by rw [pointG, hws, he]; rfl
   have hE : pointE m side = gameOver m side := by
    rw [pointE, hG, hws]
    have : decide (m.winner < 0) = true := by rw [h.w]; rfl
    simp only [this, Bool.and_true]
    rfl
   rw [pointV, hlt, cond_false, hE]
   have hld : leadsV (addV m.g side) m.f.games 2 = -1 := by
    have := he
    unfold setEnds at this
    rw [Bool.or_eq_false_iff, decide_eq_false_iff_not] at this
    rcases leads_add (b := 2) (by omega) hs h.ld with h1 | h1
    ·
     exact h1
    ·
     omega
   have hp : (gameOver m side).Pre := ⟨h.w, h.won, htl, tie', h01⟩
   exact .game hws he hp (next_inv hf hp hld h.ws rfl)
  ·
   have hl := set_lead h hs he
   have hwn : wonV (m.st ++ [addV m.g side]) = addV m.won side := by rw [wonV_app, wside_eq hs hl, h.won]
   have hle : (addV m.won side).1 ≤ m.f.sets ∧ (addV m.won side).2 ≤ m.f.sets := by
    have := h.ws
    rcases hs with rfl | rfl
    ·
     rw [add_0]; simp only; omega
    ·
     rw [add_1]; simp only; omega
   by_cases ho : max (addV m.won side).1 (addV m.won side).2 = m.f.sets
   ·
    have hG : pointG m side = { m with gs := m.gs ++ [gameG m side], p := (0, 0), st := m.st ++ [addV m.g side], g := (0, 0), won := addV m.won side, winner := side } := by rw [pointG, hws, he]; simp only [cond_true, decide_eq_true ho]
    have hE : pointE m side = { m with gs := m.gs ++ [gameG m side], p := (0, 0), st := m.st ++ [addV m.g side], g := (0, 0), won := addV m.won side, winner := side } := by
     rw [pointE, hG]
     have : decide (side < 0) = false := by simp; omega
     simp only [this, Bool.and_false, cond_false]
    have e : pointV m side = matchOver m side := by
     rw [pointV, hlt, cond_false, hE, nextV]
     simp only [decide_eq_true hs0, cond_true]
     rfl
    rw [e]
    exact .over hws he hl ho
   ·
    have hG : pointG m side = { m with gs := m.gs ++ [gameG m side], p := (0, 0), st := m.st ++ [addV m.g side], g := (0, 0), won := addV m.won side } := by rw [pointG, hws, he]; simp only [cond_true, decide_eq_false ho, cond_false]
    have hE : pointE m side = setOver m side := by
     rw [pointE, hG, hws]
     have : decide (m.winner < 0) = true := by rw [h.w]; rfl
     simp only [this, Bool.and_true]
     rfl
    rw [pointV, hlt, cond_false, hE]
    have hp : (setOver m side).Pre := ⟨h.w, hwn.symm, htl, tie', by simp [setOver]⟩
    refine .set hws he hl (by omega) hp (next_inv hf hp ?_ ?_ rfl)
    ·
     have := hf.g0
     show leadsV (0, 0) m.f.games 2 = -1
     rw [leads_n]; simp only; omega
    ·
     show (addV m.won side).1 < m.f.sets ∧ (addV m.won side).2 < m.f.sets
     omega

theorem rW_eq {m : MS} (h : m.Inv) {side : Int} (hs : side = 0 ∨ side = 1) : rW m.f (refOf m) side = m.w side := by
 have ht : tiedV m.f m.st m.g = m.tie := by rw [tied_eq h.won h.g0.1, h.ta]
 show (bif tiedV m.f m.st m.g then leadsV (addV m.p side) (setV m.f (wonV m.st)).2 2 else gameR m.f (addV m.p side)) = gameV m.f (setV m.f m.won) m.tie (addV m.p side)
 rw [ht, ← h.won]
 unfold gameV gameR
 cases htt : m.tie
 ·
  simp only [cond_false]
  cases hn : m.f.noAd
  ·
   rfl
  ·
   simp only [cond_true]
   have hp := h.ad hn htt
   have hp0 := h.p0
   unfold leadsV
   rcases hs with rfl | rfl
   ·
    rw [add_0]
    simp only
    by_cases h4 : 4 ≤ m.p.1 + 1
    ·
     have : (1 : Int) ≤ m.p.1 + 1 - m.p.2 := by omega
     simp [h4, this]
    ·
     have h5 : ¬ 4 ≤ m.p.2 := by omega
     simp [h4, h5]
   ·
    rw [add_1]
    simp only
    have h4 : ¬ 4 ≤ m.p.1 := by omega
    by_cases h5 : 4 ≤ m.p.2 + 1
    ·
     have : (1 : Int) ≤ m.p.2 + 1 - m.p.1 := by omega
     simp [h4, h5, this]
    ·
     simp [h4, h5]
 ·
  rfl
theorem rGm_eq {m : MS} (h : m.Inv) (hfs : 0 ≤ m.first ∧ m.first ≤ 1) {side : Int} (hs : side = 0 ∨ side = 1) : rGm m.f (refOf m) side = gameG m side := by
 have ht : tiedV m.f m.st m.g = m.tie := by rw [tied_eq h.won h.g0.1, h.ta]
 unfold rGm gameG
 rw [rW_eq h hs]
 show (⟨m.st.length, tiedV m.f m.st m.g, servR m.f m.first m.gs.length (tiedV m.f m.st m.g) 0, m.w side, addV m.p side, freshV m.f m.ties⟩ : Gm) = _
 rw [ht, serv_eq (tie := m.tie) hfs h.tl rfl (by omega)]
theorem sim_point {m : MS} (hf : m.f.Ok) (hfs : 0 ≤ m.first ∧ m.first ≤ 1) (h : m.Inv) {side : Int} (hs : side = 0 ∨ side = 1) : rPoint m.f (refOf m) side = refOf (pointV m side) := by
 have ht : tiedV m.f m.st m.g = m.tie := by rw [tied_eq h.won h.g0.1, h.ta]
 have hW := rW_eq h hs
 have hgm := rGm_eq h hfs hs
 have hset : rSet m.f (refOf m) side = setEnds m (m.w side) := by
  unfold rSet setEnds
  rw [hW]
  show (tiedV m.f m.st m.g || _) = _
  rw [ht]; rfl
 have hG : rG m.f (refOf m) side = { refOf m with p := (0, 0), gs := m.gs ++ [gameG m side], g := addV m.g (m.w side) } := by
  unfold rG; rw [hgm, hW]; rfl
 have hodd : rOdd m.f (refOf m) side = decide (((addV m.g (m.w side)).1 + (addV m.g (m.w side)).2) % 2 = 1) := by unfold rOdd; rw [hW]; rfl
 unfold rPoint
 rw [hW]
 have hst := point_step hf h hs
 generalize pointV m side = m' at hst
 cases hst with
 | no hw hi =>
  rw [show decide (m.w side < 0) = true by rw [hw]; rfl, cond_true]
  unfold rN rEnds
  rw [hW]
  show ({ refOf m with p := addV m.p side, ends := bif tiedV m.f m.st m.g && (decide (m.w side < 0) && decide (((addV m.p side).1 + (addV m.p side).2) % 6 = 0)) then m.ends + 1 else m.ends } : RS) = _
  rw [ht, show decide (m.w side < 0) = true by rw [hw]; rfl, Bool.true_and]
  rfl
 | game hw he hp hi =>
  rw [show decide (m.w side < 0) = false by rw [hw]; simp; omega, cond_false]
  rw [hw] at hset hG hodd
  have hS : rS m.f (refOf m) side = rG m.f (refOf m) side := by unfold rS; rw [hset, he]; rfl
  have hO : rOver m.f (refOf m) side = false := by unfold rOver; rw [hset, he]; rfl
  rw [hO, cond_false, hS, hG, hodd]
  exact begin_eq hp (freshV m.f m.ties)
 | set hw he hl ho hp hi =>
  rw [show decide (m.w side < 0) = false by rw [hw]; simp; omega, cond_false]
  rw [hw] at hset hG hodd
  have hwn : wonV (m.st ++ [addV m.g side]) = addV m.won side := by rw [wonV_app, wside_eq hs hl, h.won]
  have hS : rS m.f (refOf m) side = { rG m.f (refOf m) side with st := m.st ++ [addV m.g side], g := (0, 0) } := by unfold rS; rw [hset, he, hW, hw]; rfl
  have hO : rOver m.f (refOf m) side = false := by
   unfold rOver; rw [hset, he, hW, hw]
   show (true && (decide ((wonV (m.st ++ [addV m.g side])).1 = m.f.sets) || decide ((wonV (m.st ++ [addV m.g side])).2 = m.f.sets))) = false
   rw [hwn]
   simp only [Bool.true_and, Bool.or_eq_false_iff, decide_eq_false_iff_not]
   omega
  rw [hO, cond_false, hS, hG, hodd]
  exact begin_eq hp (freshV m.f m.ties)
 | over hw he hl ho =>
  rw [show decide (m.w side < 0) = false by rw [hw]; simp; omega, cond_false]
  rw [hw] at hset hG hodd
  have hwn : wonV (m.st ++ [addV m.g side]) = addV m.won side := by rw [wonV_app, wside_eq hs hl, h.won]
  have hS : rS m.f (refOf m) side = { rG m.f (refOf m) side with st := m.st ++ [addV m.g side], g := (0, 0) } := by unfold rS; rw [hset, he, hW, hw]; rfl
  have hO : rOver m.f (refOf m) side = true := by
   unfold rOver; rw [hset, he, hW, hw]
   show (true && (decide ((wonV (m.st ++ [addV m.g side])).1 = m.f.sets) || decide ((wonV (m.st ++ [addV m.g side])).2 = m.f.sets))) = true
   rw [hwn]
   simp only [Bool.true_and, Bool.or_eq_true, decide_eq_true_eq]
   omega
  rw [hO, cond_true, hS, hG, hw]
  rfl

theorem begin_pre (f : Fmt) (first : Int) : (begin0 f first).Pre := ⟨rfl, rfl, rfl, fun i g h => by simp [begin0] at h, by simp [begin0]⟩
theorem begin_inv {f : Fmt} (hf : f.Ok) (first : Int) : (beginV f first).Inv :=
 next_inv (m := begin0 f first) hf (begin_pre f first) (by have := hf.g0; rw [leads_n]; simp only [begin0]; omega) (by have := hf.s0; simp only [begin0]; omega) rfl
theorem stp_f {m m' : MS} {side : Int} (h : Stp m side m') : m'.f = m.f ∧ m'.first = m.first := by
 have hn : ∀ m0 : MS, (nextV m0).f = m0.f ∧ (nextV m0).first = m0.first := fun m0 => by unfold nextV; cases decide (0 ≤ m0.winner) <;> exact ⟨rfl, rfl⟩
 cases h with
 | no => exact ⟨rfl, rfl⟩
 | game => exact hn _
 | set => exact hn _
 | over => exact ⟨rfl, rfl⟩
theorem stp_inv {m m' : MS} {side : Int} (hs : side = 0 ∨ side = 1) (h : Stp m side m') : m'.Inv ∨ m'.Done := by
 cases h with
 | no _ hi => exact .inl hi
 | game _ _ _ hi => exact .inl hi
 | set _ _ _ _ _ hi => exact .inl hi
 | over => exact .inr ⟨hs, rfl⟩
theorem playTo_inv {f : Fmt} {first : Int} {xs : List Int} (hf : f.Ok) : ∀ {k : Nat} {m : MS}, playTo f first xs k = some m → m.f = f ∧ m.first = first ∧ (m.Inv ∨ m.Done)
 | 0, m, h => by
  simp only [playTo, Option.some.injEq] at h
  subst h
  exact ⟨rfl, rfl, .inl (begin_inv hf first)⟩
 | k + 1, m, h => by
  rw [playTo] at h
  cases h1 : playTo f first xs k with
  | none => rw [h1] at h; cases h
  | some m0 =>
   cases h2 : xs[k]? with
   | none => rw [h1, h2] at h; cases h
   | some s =>
    rw [h1, h2] at h
    simp only at h
    obtain ⟨e1, e2, hi⟩ := playTo_inv hf h1
    cases hb : sideBad s || decide (0 ≤ m0.winner)
    ·
     rw [hb] at h
     simp only [cond_false, Option.some.injEq] at h
     subst h
     rw [Bool.or_eq_false_iff] at hb
     have hs := side_ok hb.1
     rcases hi with hi | hd
     ·
      have hst := point_step (e1 ▸ hf) hi hs
      have := stp_f hst
      exact ⟨this.1.trans e1, this.2.trans e2, stp_inv hs hst⟩
     ·
      have := hb.2
      rw [decide_eq_false_iff_not] at this
      have := hd.w
      omega
    ·
     rw [hb] at h; cases h
end Go.Proofs.YtpmmgljndceplaaGreat

namespace Go.Proofs.YtpmmgljndceplaaGreat
open Go Go.RowKit

theorem C_ref1_Next (f : Fmt) (m : MS) (hmf : m.f = f) (sA : Option Addr) (sc : Nat) (gA : Option Addr) (gc : Nat) (hf : f.Ok) (hfs : 0 ≤ m.first ∧ m.first ≤ 1) (hm : m.Inv ∨ m.Done) {K : Int} (hB : m.Bd K) (w : World) (h : Rd w sA 2 m.st.length (encP m.st)) :
  C0 Tryz.prog 29 [f.val, (refOf m).val sA sc gA gc] w (.int .i64 m.server) := by
 subst hmf
 obtain ⟨-, -, hk, -, -, hg, hp, -, -, -, hsl, hgl⟩ := hB
 refine ⟨en Tryz.func29 Tryz.ntmps29 ((St.init w).share (e := .ro sA 2 m.st.length (encP m.st)) h rfl rfl rfl) (h := fun F => ?_)⟩
 refine sr ?_
 refine bxA (h := fun b0 => ?_)
 refine bxA (h := fun b1 => ?_)
 refine ww ?_
 refine nq ?_
 refine sq ?_
 refine sr ?_
 iterate 4 refine ww ?_
 refine nq ?_
 refine czz (fun h0 => ?_) fun h0 => ?_
 ·
  have hsv : m.server = -1 := by
   rcases hm with hi | hd
   ·
    have h1 := hi.w
    have h2 : 0 ≤ m.winner := of_decide_eq_true h0
    omega
   ·
    exact hd.sv
  refine sr ?_
  refine ww ?_
  refine nq ?_
  refine rtn ?_
  refine q_then_ret ?_
  refine q_ret (hR := ?_)
  rw [hsv]
  exact fun w hS => ⟨rfl, hS.sub slz_⟩
 ·
  have hi : m.Inv := by
   rcases hm with hi | hd
   ·
    exact hi
   ·
    have h1 := hd.w
    have h2 : ¬ 0 ≤ m.winner := of_decide_eq_false h0
    omega
  have hsv : m.server = servR m.f m.first m.gs.length (tiedV m.f m.st m.g) (m.p.1 + m.p.2) := by
   have hp0 := hi.p0
   rw [hi.sv, tied_eq hi.won hi.g0.1, ← hi.ta, serv_eq (tie := m.tie) hfs hi.tl rfl (by omega)]
  have hgl' : (refOf m).gs.length = m.gs.length := rfl
  refine skp ?_
  refine q_seq ?_
  refine sr ?_
  iterate 4 refine ww ?_
  refine cl0 (hc := fun w hS => C_ref1_tied m.f ⟨m.st, m.g, m.p⟩ sA m.st.length sc hf w (hS.get rdz_) (by omega)) (h := ?_)
  iterate 5 refine ww ?_
  refine nr ?_
  iterate 17 refine ww ?_
  refine wy (addI (a := m.p.1) (b := m.p.2) (hb := by omega)) ?_
  refine cl0 (hc := fun w hS => C_ref1_Server m.f m.first m.gs.length (tiedV m.f m.st m.g) (m.p.1 + m.p.2) hfs (by omega) (by omega) w) (h := ?_)
  refine ww ?_
  refine nq ?_
  refine rtn ?_
  refine q_ret (hR := ?_)
  rw [hsv]
  exact fun w hS => ⟨rfl, hS.sub slz_⟩

theorem C_ref1_Begin (f : Fmt) (first : Int) (hf : f.Ok) (w : World) : C0 Tryz.prog 27 [f.val, .int .i64 first] w ((refOf (beginV f first)).val none 0 none 0) := by
 have e : rBegin f ⟨[], (0, 0), (0, 0), 0, 0, 0, -1, first, [], false⟩ = refOf (beginV f first) := begin_eq (begin_pre f first) false
 refine ⟨en Tryz.func27 Tryz.ntmps27 (St.init w) (h := fun F => ?_)⟩
 refine sr ?_
 refine bxA (h := fun b0 => ?_)
 refine al (h := fun b1 => ?_)
 refine nr ?_
 iterate 4 refine ww ?_
 refine cl0 (hc := fun w hS => C_ref1_begin f ⟨[], (0, 0), (0, 0), 0, 0, 0, -1, first, [], false⟩ none 0 none 0 0 0 hf w (Rd.nil ..) (Rd.nil ..) (by omega) (by omega) (by simp)) (h := ?_)
 rw [e]
 first | refine stA (h := ?_) | refine stEA (h := ?_)
 refine nq ?_
 refine rtn ?_
 refine q_ret (hR := ?_)
 exact fun w hS => ⟨rfl, hS.sub slz_⟩

theorem refBd {m : MS} {K : Int} (h : m.Bd K) (hK : K ≤ 990) : (refOf m).Bd K :=
 ⟨⟨h.k.1, hK⟩, by have := h.fst; show 0 ≤ m.first ∧ m.first ≤ 1; omega, h.g, h.p, h.e, h.b, h.s, h.gs⟩
theorem T_ref1_Point' (f : Fmt) (m : MS) (hmf : m.f = f) (side K : Int) (sA : Option Addr) (sc : Nat) (gA : Option Addr) (gc : Nat) (hf : f.Ok) (hB : m.Bd K) (hK : K ≤ 990) (hi : m.Inv) (hs : side = 0 ∨ side = 1) :
  Tr Tryz.prog 28 [f.val, (refOf m).val sA sc gA gc, .int .i64 side] [.own sA sc 38 2 (refOf m).st.length (encP (refOf m).st), .own gA gc 139 7 (refOf m).gs.length (encG (refOf m).gs)] (fun _ : RA => True) (fun x => (refOf (pointV m side)).val x.sA x.sc x.gA x.gc)
   (fun x => [.own x.sA x.sc 38 2 (refOf (pointV m side)).st.length (encP (refOf (pointV m side)).st), .own x.gA x.gc 139 7 (refOf (pointV m side)).gs.length (encG (refOf (pointV m side)).gs)]) := by
 subst hmf
 have h := T_ref1_Point m.f (refOf m) side K sA sc gA gc hf (refBd hB hK)
 rw [sim_point hf (by have := hB.fst; omega) hi hs] at h
 exact h

def runO (o : Option MS) : RS := match o with
 | some m => { refOf m with server := m.server }
 | none => ⟨[], (0, 0), (0, 0), 0, 0, 0, 0, 0, [], false⟩
theorem side_wi (s : Int) : (!wi s 0 1) = sideBad s := by
 unfold sideBad wi
 by_cases h0 : s = 0
 ·
  subst h0; rfl
 ·
  by_cases h1 : s = 1
  ·
   subst h1; rfl
  ·
   have : ¬ (0 ≤ s ∧ s ≤ 1) := by omega
   simp only [decide_eq_false h0, decide_eq_false h1, Bool.not_false, Bool.and_self, Bool.not_eq_true', Bool.and_eq_false_iff, decide_eq_false_iff_not]
   omega
structure RZ where
 (k : Nat) (m : MS) (a : RA)

set_option maxRecDepth 100000 in
set_option maxHeartbeats 1000000 in
theorem C_ref1_Run (f : Fmt) (first : Int) (xs : List Int) (A : Option Addr) (n c : Nat) (w : World) (h : Rd w A 1 n (encI xs)) (hn : n ≤ 9223372036854775807) :
  CR Tryz.prog 8 [f.val, .int .i64 first, .slice A n c] w (fun _ : RA => True) (fun x => .tuple #[(runO (playO f first xs)).val x.sA x.sc x.gA x.gc, .int .i64 (playE f first xs)])
   (fun x => [.own x.sA x.sc 38 2 (runO (playO f first xs)).st.length (encP (runO (playO f first xs)).st), .own x.gA x.gc 139 7 (runO (playO f first xs)).gs.length (encG (runO (playO f first xs)).gs)]) := by
 have hlen : xs.length = n := by have := h.len; rwa [encI_len] at this
 refine ⟨en Tryz.func8 Tryz.ntmps8 ((St.init w).share (e := .ro A 1 n (encI xs)) h rfl rfl rfl) (h := fun F => ?_)⟩
 refine sr ?_
 refine bxA (h := fun b0 => ?_)
 refine al (h := fun b1 => ?_)
 refine ww ?_
 refine nq ?_
 refine sq ?_
 refine sr ?_
 refine ww ?_
 refine cl0 (hc := fun w hS => C_ref1_Check _ w) (h := ?_)
 refine ww ?_
 refine nq ?_
 refine czz (fun h0 => ?_) fun h0 => ?_
 ·
  have hc1 : (!decide (chkF f = 0)) = true := h0
  have hE : playE f first xs = 10 := by
   have : chkF f = 10 := by
    unfold chkF at hc1 ⊢
    cases hb : fmtOk f
    ·
     rfl
    ·
     rw [hb] at hc1; cases hc1
   simp only [playE, preE, hc1, cond_true]; exact this
  have hO : playO f first xs = none := by
   have : (!decide (preE f first xs.length = 0)) = true := by simp only [preE, hc1, cond_true]
   rw [playO, this]; rfl
  refine sq ?_
  refine WC.nilOwn 38 2 (h := ?_)
  refine WC.nilOwn 139 7 (h := ?_)
  refine rg ?_
  refine ww ?_
  first | refine stA (h := ?_) | refine stEA (h := ?_)
  refine ww ?_
  refine nq ?_
  refine rtn ?_
  refine q_then_ret ?_
  refine q_ret (hR := ?_)
  rw [hE, hO]
  exact fun w hS => ⟨⟨none, none, 0, 0⟩, trivial, rfl, hS.sub slz_⟩
 ·
  have hf := chkF_ok h0
  have hc0 : (!decide (chkF f = 0)) = false := h0
  refine skp ?_
  refine q_seq ?_
  refine sq ?_
  refine sr ?_
  refine ww ?_
  refine cl0 (hc := fun w hS => C_ref1_within ..) (h := ?_)
  refine ww ?_
  refine nq ?_
  refine czz (fun h1 => ?_) fun h1 => ?_
  ·
   have hs1 : sideBad first = true := by rw [← side_wi]; exact h1
   have hE : playE f first xs = 1 := by
    simp only [playE, preE, hc0, hs1, cond_true, cond_false]; rfl
   have hO : playO f first xs = none := by
    simp only [playO, preE, hc0, hs1, cond_true, cond_false]; rfl
   refine sq ?_
   refine WC.nilOwn 38 2 (h := ?_)
   refine WC.nilOwn 139 7 (h := ?_)
   refine rg ?_
   refine ww ?_
   first | refine stA (h := ?_) | refine stEA (h := ?_)
   refine ww ?_
   refine nq ?_
   refine rtn ?_
   refine q_then_ret ?_
   refine q_ret (hR := ?_)
   rw [hE, hO]
   exact fun w hS => ⟨⟨none, none, 0, 0⟩, trivial, rfl, hS.sub slz_⟩
  ·
   have hs0 : sideBad first = false := by rw [← side_wi]; exact h1
   have hfs := side_ok (s := first) hs0
   refine skp ?_
   refine q_seq ?_
   refine sq ?_
   refine sr ?_
   iterate 3 refine ww ?_
   refine nq ?_
   refine czz (fun h2 => ?_) fun h2 => ?_
   ·
    have h' : decide ((600 : Int) < xs.length) = true := by rw [hlen]; exact h2
    have hE : playE f first xs = 2 := by
     simp only [playE, preE, hc0, hs0, h', cond_true, cond_false]; rfl
    have hO : playO f first xs = none := by
     simp only [playO, preE, hc0, hs0, h', cond_true, cond_false]; rfl
    refine sq ?_
    refine WC.nilOwn 38 2 (h := ?_)
    refine WC.nilOwn 139 7 (h := ?_)
    refine rg ?_
    refine ww ?_
    first | refine stA (h := ?_) | refine stEA (h := ?_)
    refine ww ?_
    refine nq ?_
    refine rtn ?_
    refine q_then_ret ?_
    refine q_ret (hR := ?_)
    rw [hE, hO]
    exact fun w hS => ⟨⟨none, none, 0, 0⟩, trivial, rfl, hS.sub slz_⟩
   ·
    have hn6 : n ≤ 600 := by simp only [decide_eq_false_iff_not] at h2; omega
    have hp0 : preE f first xs.length = 0 := by
     have h' : decide ((600 : Int) < xs.length) = false := by rw [hlen]; exact h2
     simp only [preE, hc0, hs0, h', cond_false]
    refine skp ?_
    refine q_seq ?_
    refine sq ?_
    refine WC.nilOwn 38 2 (h := ?_)
    refine WC.nilOwn 139 7 (h := ?_)
    refine rg ?_
    iterate 2 refine ww ?_
    refine cl0 (hc := fun w hS => C_ref1_Begin _ _ (by assumption) w) (h := ?_)
    refine al (h := fun b2 => ?_)
    first | refine stA (h := ?_) | refine stEA (h := ?_)
    refine nq ?_
    refine sq ?_
    refine sr ?_
    refine ww ?_
    refine nq ?_
    refine bk ?_
    refine lp (X := RZ) (I := fun z => z.k ≤ n ∧ playTo f first xs z.k = some z.m ∧ z.m.Bd z.k) (le := fun z => [(0, f.val), (1, .int .i64 first), (2, .slice A n c), (3, .pointer (some ⟨b0, 0, none⟩)), (6, .pointer (some ⟨b1, 0, none⟩)), (8, .pointer (some ⟨b2, 0, none⟩)), (9, .int .i64 z.k)]) (Le := fun z => [.blk b0 35 f.cells, .blk b1 47 [.slice none 0 0, .int .i64 0, .int .i64 0, .int .i64 0, .int .i64 0, .int .i64 0, .int .i64 0, .int .i64 0, .int .i64 0, .int .i64 0, .slice none 0 0, .bool false], .blk b2 47 ((refOf z.m).cells z.a.sA z.a.sc z.a.gA z.a.gc), .own z.a.sA z.a.sc 38 2 (refOf z.m).st.length (encP (refOf z.m).st), .own z.a.gA z.a.gc 139 7 (refOf z.m).gs.length (encG (refOf z.m).gs), .ro A 1 n (encI xs)]) (μ := fun z => n - z.k) ⟨0, beginV f first, ⟨none, none, 0, 0⟩⟩ ⟨Nat.zero_le _, rfl, beginV_bd hf hfs⟩ sbz_ slz_ (fun z hz => ?_)
    obtain ⟨hzk, hzr, hzb⟩ := hz
    obtain ⟨hzf, hz1, hzi⟩ := playTo_inv hf hzr
    refine sq ?_
    refine sr ?_
    iterate 4 refine ww ?_
    refine nq ?_
    refine czz (fun h3 => ?_) fun h3 => ?_
    ·
     have hkn : z.k < n := by simp only [decide_eq_true_eq] at h3; omega
     obtain ⟨s, hs⟩ : ∃ s, xs[z.k]? = some s := ⟨_, List.getElem?_eq_getElem (by omega)⟩
     have hse := encI_at hs
     have hstep := playTo_succ hzr hs
     refine skp ?_
     refine q_seq ?_
     refine sq ?_
     refine bk ?_
     refine sq ?_
     refine sr ?_
     iterate 2 refine ww ?_
     refine wy (ix (hb := by omega)) ?_
     refine wy (ldE (hk := hse)) ?_
     refine cl0 (hc := fun w hS => C_ref1_within ..) (h := ?_)
     iterate 2 refine ww ?_
     apply brOr 5 37 42 (by exact rfl)
     ·
      intro hb4
      iterate 4 refine uw ?_
      refine ww ?_
      exact mg (by repeat (first | exact trivial | refine ⟨rfl, ?_⟩ | refine ⟨by rw [hb4]; rfl, ?_⟩)) slz_
     ·
      intro hb4
      repeat (first | refine uz ?_ | refine kz ?_ | refine wz ?_)
      exact mg (by repeat (first | exact trivial | refine ⟨rfl, ?_⟩ | refine ⟨by rw [hb4]; rfl, ?_⟩)) slz_
     refine nq ?_
     refine czz (fun h5 => ?_) fun h5 => ?_
     ·
      have h' : (sideBad s || decide (0 ≤ z.m.winner)) = true := by rw [← side_wi]; exact h5
      rw [h'] at hstep
      have hpn := playTo_none (k := xs.length) hstep (by omega)
      have hE : playE f first xs = 11 := by rw [playE, hp0, hpn]; rfl
      have hO : playO f first xs = none := by rw [playO, hp0]; exact hpn
      refine sq ?_
      refine WC.nilOwn 38 2 (h := ?_)
      refine WC.nilOwn 139 7 (h := ?_)
      refine rg ?_
      refine ww ?_
      first | refine stA (h := ?_) | refine stEA (h := ?_)
      refine ww ?_
      refine nq ?_
      refine rtn ?_
      refine q_then_ret ?_
      refine q_blk_ret ?_
      iterate 2 refine q_then_ret ?_
      refine q_blk_ret ?_
      refine q_then_ret ?_
      refine q_ret (hR := ?_)
      rw [hE, hO]
      exact fun w hS => ⟨⟨none, none, 0, 0⟩, trivial, rfl, hS.sub slz_⟩
     ·
      have h' : (sideBad s || decide (0 ≤ z.m.winner)) = false := by rw [← side_wi]; exact h5
      have hnx : playTo f first xs (z.k + 1) = some (pointV z.m s) := by rw [hstep, h']; rfl
      have h2' := Bool.or_eq_false_iff.1 h'
      have hsd := side_ok h2'.1
      have hin : z.m.Inv := by
       rcases hzi with hi | hd
       ·
        exact hi
       ·
        have h1 := hd.w
        have h2 := h2'.2
        rw [decide_eq_false_iff_not] at h2
        omega
      refine skp ?_
      refine q_seq ?_
      refine rgD (by kernel_rfl) [(7, .blk b2 47 ((refOf z.m).cells z.a.sA z.a.sc z.a.gA z.a.gc)), (1000000, .blk b0 35 f.cells), (1000000, .ro A 1 n (encI xs))] (by repeat (first | exact HS.nil | (apply HS.keep; (repeat (first | exact At.here | apply At.there))) | (apply HS.ro; (repeat (first | exact Rds.ro | exact Rds.own | apply Rds.there))))) (h := ?_)
      refine tw 0 ?_
      refine tw 1 ?_
      refine tw 2 ?_
      refine tw 3 ?_
      refine tk 4 (hy := ix (hb := by omega)) (h := ?_)
      refine tk 5 (hy := ldE (hk := hse)) (h := ?_)
      refine one 6 (h := ?_)
      refine clT (hc := T_ref1_Point' f z.m hzf s z.k z.a.sA z.a.sc z.a.gA z.a.gc hf hzb (by omega) hin hsd) (h := fun x2 _ => ?_)
      refine nx (h := ?_)
      refine one 7 (h := ?_)
      first | refine stA (h := ?_) | refine stEA (h := ?_)
      refine nx (h := ?_)
      refine dn (h := ?_)
      refine q_blk_norm ?_
      refine q_seq ?_
      refine rg ?_
      iterate 3 refine ww ?_
      refine nl ?_
      refine rn (x := z) ⟨z.k + 1, pointV z.m s, x2⟩ ⟨by dsimp only; omega, hnx, by have := pointV_bd (side := s) hzb (by omega); simpa using this⟩ (by dsimp only; omega) sbz_ slz_
    ·
     have hkn : z.k = n := by simp only [decide_eq_false_iff_not] at h3; omega
     have hO : playO f first xs = some z.m := by rw [playO, hp0, hlen, ← hkn]; exact hzr
     have hE := playE_some hO
     refine et ?_
     iterate 2 refine q_then_exit ?_
     refine q_blk_hit ?_
     refine q_seq ?_
     refine sr ?_
     iterate 2 refine ww ?_
     refine cl0 (hc := fun w hS => C_ref1_Next f z.m hzf z.a.sA z.a.sc z.a.gA z.a.gc hf (by rw [hz1]; omega) hzi hzb w (hS.get rdz_)) (h := ?_)
     iterate 2 refine ww ?_
     first | refine st (h := ?_) | refine stE (h := ?_)
     refine nr ?_
     refine ww ?_
     first | refine stA (h := ?_) | refine stEA (h := ?_)
     refine ww ?_
     refine nq ?_
     refine rtn ?_
     refine q_ret (hR := ?_)
     rw [hE, hO]
     exact fun w hS => ⟨z.a, trivial, rfl, hS.sub slz_⟩

theorem runO_sc (o : Option MS) : (runO o).st = (scO o).st ∧ (runO o).g = (scO o).g ∧ (runO o).p = (scO o).p ∧ (runO o).server = (scO o).server ∧ (runO o).ends = (scO o).ends ∧ (runO o).balls = (scO o).balls ∧ (runO o).winner = (scO o).winner ∧ (runO o).gs = gsO o := by
 cases o <;> exact ⟨rfl, rfl, rfl, rfl, rfl, rfl, rfl, rfl⟩
end Go.Proofs.YtpmmgljndceplaaGreat

namespace Go.Proofs.YtpmmgljndceplaaGreat
open Go Go.RowKit

theorem plays_O {f : Fmt} {first : Int} {xs : List Int} {m : MS} (h1 : f.Ok) (h2 : first = 0 ∨ first = 1) (h3 : xs.length ≤ 600) (h : playTo f first xs xs.length = some m) (hc : chkF f = 0) : playO f first xs = some m := by
 have hs : sideBad first = false := by rcases h2 with rfl | rfl <;> rfl
 have hn : decide ((600 : Int) < xs.length) = false := by rw [decide_eq_false_iff_not]; omega
 have : preE f first xs.length = 0 := by
  rw [preE, hc, hs, hn]; rfl
 rw [playO, this]; exact h
end Go.Proofs.YtpmmgljndceplaaGreat

namespace Go.Proofs.YtpmmgljndceplaaGreat
open Go Go.RowKit

end Go.Proofs.YtpmmgljndceplaaGreat

namespace Go.Proofs.YtpmmgljndceplaaGreat
open Go Go.RowKit

end Go.Proofs.YtpmmgljndceplaaGreat

namespace Go.Proofs.YtpmmgljndceplaaGreat
open Go Go.RowKit

end Go.Proofs.YtpmmgljndceplaaGreat

namespace Go.Proofs.YtpmmgljndceplaaGreat
open Go Go.RowKit

structure Ext where
 (low high pts : Int)
def extV (f : Fmt) (s : Pr) : Ext := bif decide (s.1 = 0) then ⟨1, 1, max s.2 2⟩ else bif decide (s.1 = -1) then ⟨max f.games 2, -1, 4 * max f.games 2⟩ else ⟨max f.games 2, 2 * s.1 + 1, 4 * max f.games 2⟩
def lastE (f : Fmt) : Ext := extV f (f.ltie, f.lto)
def eachE (f : Fmt) : Ext := extV f (f.tie, f.to)
def rangeE (f : Fmt) : Ext := bif decide (f.sets = 1) then lastE f else
 ⟨f.sets * (eachE f).low, bif decide (0 ≤ (lastE f).high) && decide (0 ≤ (eachE f).high) then (2 * f.sets - 2) * (eachE f).high + (lastE f).high else -1, f.sets * (eachE f).pts⟩
structure RuleOk (f : Fmt) (s : Pr) : Prop where
 t : s.1 = -1 ∨ s.1 = 0 ∨ s.1 = f.games - 1 ∨ s.1 = f.games
 o : 1 ≤ s.2 ∧ s.2 ≤ 15
theorem ext_zero {f : Fmt} {s : Pr} (h : s.1 = 0) : extV f s = ⟨1, 1, max s.2 2⟩ := by unfold extV; rw [decide_eq_true h]; rfl
theorem ext_none {f : Fmt} {s : Pr} (h : s.1 = -1) : extV f s = ⟨max f.games 2, -1, 4 * max f.games 2⟩ := by
 unfold extV; rw [decide_eq_false (by omega), decide_eq_true h]; rfl
theorem ext_some {f : Fmt} {s : Pr} (h : s.1 ≠ 0) (h' : s.1 ≠ -1) : extV f s = ⟨max f.games 2, 2 * s.1 + 1, 4 * max f.games 2⟩ := by
 unfold extV; rw [decide_eq_false h, decide_eq_false h']; rfl
theorem ext_bd {f : Fmt} (hf : f.Ok) {s : Pr} (h : RuleOk f s) : 1 ≤ (extV f s).low ∧ (extV f s).low ≤ 8 ∧ (extV f s).high ≤ 17 ∧ -1 ≤ (extV f s).high ∧ 1 ≤ (extV f s).pts ∧ (extV f s).pts ≤ 32 ∧ (0 ≤ (extV f s).high → (extV f s).low ≤ (extV f s).high) := by
 have h1 := hf.g0
 have h2 := hf.g1
 have h3 := h.t
 have h4 := h.o
 by_cases a : s.1 = 0
 ·
  rw [ext_zero a]; simp only; omega
 ·
  by_cases b : s.1 = -1
  ·
   rw [ext_none b]; simp only; omega
  ·
   rw [ext_some a b]; simp only; omega

theorem last_ok {f : Fmt} (hf : f.Ok) : RuleOk f (f.ltie, f.lto) := ⟨hf.lt, hf.l0, hf.l1⟩
theorem each_ok {f : Fmt} (hf : f.Ok) : RuleOk f (f.tie, f.to) := ⟨hf.t, hf.o0, hf.o1⟩
theorem range_one {f : Fmt} (h : f.sets = 1) : rangeE f = lastE f := by unfold rangeE; rw [decide_eq_true h]; rfl
theorem range_more {f : Fmt} (h : ¬ f.sets = 1) : (rangeE f).low = f.sets * (eachE f).low ∧ (rangeE f).pts = f.sets * (eachE f).pts ∧ (rangeE f).high = bif decide (0 ≤ (lastE f).high) && decide (0 ≤ (eachE f).high) then (2 * f.sets - 2) * (eachE f).high + (lastE f).high else -1 := by
 unfold rangeE; rw [decide_eq_false h]; exact ⟨rfl, rfl, rfl⟩
end Go.Proofs.YtpmmgljndceplaaGreat

namespace Go.Proofs.YtpmmgljndceplaaGreat
open Go Go.RowKit

end Go.Proofs.YtpmmgljndceplaaGreat

namespace Go.Proofs.YtpmmgljndceplaaGreat
open Go Go.RowKit

abbrev Ext.val (e : Ext) : Value := .tuple #[.agg #[.int .i64 e.low, .int .i64 e.high], .int .i64 e.pts]
theorem C_rules_extent (f : Fmt) (s : Pr) (hf : f.Ok) (hr : RuleOk f s) (w : World) : C0 Tryz.prog 36 [f.val, pv s] w (extV f s).val := by
 have h1 := hf.g0
 have h2 := hf.g1
 have h3 := hr.t
 have h4 := hr.o
 refine ⟨en Tryz.func36 Tryz.ntmps36 (St.init w) (h := fun F => ?_)⟩
 refine sr ?_
 refine bxA (h := fun b0 => ?_)
 refine bxA (h := fun b1 => ?_)
 refine al (h := fun b2 => ?_)
 refine ww ?_
 refine nq ?_
 refine sq ?_
 refine rgD (by kernel_rfl) [(1000000, .blk b0 91 f.cells), (1000000, .blk b1 107 [.int .i64 s.1, .int .i64 s.2])] (by repeat (first | exact HS.nil | (apply HS.keep; (repeat (first | exact At.here | apply At.there))) | (apply HS.ro; (repeat (first | exact Rds.ro | exact Rds.own | apply Rds.there))))) (h := ?_)
 refine tw 0 ?_
 refine tw 1 ?_
 refine tw 2 ?_
 refine tw 3 ?_
 refine tw 4 ?_
 refine tw 5 ?_
 refine tw 6 ?_
 refine tw 7 ?_
 refine tw 8 ?_
 refine dn (h := ?_)
 refine q_seq ?_
 refine sq ?_
 refine sr ?_
 iterate 2 refine ww ?_
 refine nq ?_
 refine bk ?_
 refine sr ?_
 iterate 2 refine ww ?_
 refine nq ?_
 refine czz (fun h0 => ?_) fun h0 => ?_
 ·
  have hE := ext_zero (f := f) (of_decide_eq_true h0)
  refine sr ?_
  iterate 2 refine ww ?_
  first | refine stA (h := ?_) | refine stEA (h := ?_)
  refine ww ?_
  refine nq ?_
  refine rtn ?_
  refine q_blk_ret ?_
  refine q_then_ret ?_
  refine q_ret (hR := ?_)
  rw [hE]
  exact fun w hS => ⟨rfl, hS.sub slz_⟩
 ·
  have hz := of_decide_eq_false h0
  refine sr ?_
  iterate 2 refine ww ?_
  refine nq ?_
  refine czz (fun h1 => ?_) fun h1 => ?_
  ·
   have hE := ext_none (f := f) (of_decide_eq_true h1)
   refine sr ?_
   iterate 4 refine ww ?_
   first | refine stA (h := ?_) | refine stEA (h := ?_)
   refine ww ?_
   refine nq ?_
   refine rtn ?_
   refine q_blk_ret ?_
   refine q_then_ret ?_
   refine q_ret (hR := ?_)
   rw [hE]
   exact fun w hS => ⟨rfl, hS.sub slz_⟩
  ·
   have hE := ext_some (f := f) hz (of_decide_eq_false h1)
   refine skp ?_
   refine q_blk_norm ?_
   refine q_seq ?_
   refine sr ?_
   iterate 8 refine ww ?_
   first | refine stA (h := ?_) | refine stEA (h := ?_)
   refine ww ?_
   refine nq ?_
   refine rtn ?_
   refine q_ret (hR := ?_)
   rw [hE]
   exact fun w hS => ⟨rfl, hS.sub slz_⟩
def rangeR (f : Fmt) : List Value := bif decide (chkF f = 0) then [.agg #[.int .i64 (rangeE f).low, .int .i64 (rangeE f).high], .int .i64 (rangeE f).pts, .int .i64 0] else [.agg #[.int .i64 0, .int .i64 0], .int .i64 0, .int .i64 (chkF f)]
theorem C_score_Range (f : Fmt) (w : World) : C0 Tryz.prog 15 [f.val] w (.tuple (rangeR f).toArray) := by
 refine ⟨en Tryz.func15 Tryz.ntmps15 (St.init w) (h := fun F => ?_)⟩
 refine sr ?_
 refine bxA (h := fun b0 => ?_)
 refine al (h := fun b1 => ?_)
 iterate 2 refine ww ?_
 refine nq ?_
 refine sq ?_
 refine sr ?_
 refine ww ?_
 refine cl0 (hc := fun w hS => C_score_Check _ w) (h := ?_)
 refine ww ?_
 refine nr ?_
 iterate 2 refine ww ?_
 refine nq ?_
 refine czz (fun h0 => ?_) fun h0 => ?_
 ·
  have hR : rangeR f = [.agg #[.int .i64 0, .int .i64 0], .int .i64 0, .int .i64 (chkF f)] := by
   have h' : decide (chkF f = 0) = false := by simpa using h0
   rw [rangeR, h']; rfl
  refine sr ?_
  iterate 2 refine ww ?_
  first | refine stA (h := ?_) | refine stEA (h := ?_)
  iterate 2 refine ww ?_
  refine nq ?_
  refine rtn ?_
  refine q_then_ret ?_
  refine q_ret (hR := ?_)
  rw [hR]
  exact fun w hS => ⟨rfl, hS.sub slz_⟩
 ·
  have hf := chkF_ok h0
  have hc : decide (chkF f = 0) = true := by simpa using h0
  have hR0 : rangeR f = [.agg #[.int .i64 (rangeE f).low, .int .i64 (rangeE f).high], .int .i64 (rangeE f).pts, .int .i64 0] := by rw [rangeR, hc]; rfl
  obtain ⟨l1, l2, l3, l4, l5, l6, -⟩ := ext_bd hf (last_ok hf)
  obtain ⟨e1, e2, e3, e4, e5, e6, -⟩ := ext_bd hf (each_ok hf)
  have hs0 := hf.s0
  have hs1 := hf.s1
  refine skp ?_
  refine q_seq ?_
  refine sr ?_
  iterate 2 refine ww ?_
  refine al (h := fun b2 => ?_)
  first | refine stA (h := ?_) | refine stEA (h := ?_)
  refine nr ?_
  iterate 6 refine ww ?_
  refine cl0 (hc := fun w hS => C_rules_extent f (f.ltie, f.lto) hf (last_ok hf) w) (h := ?_)
  iterate 3 refine ww ?_
  refine al (h := fun b3 => ?_)
  first | refine stA (h := ?_) | refine stEA (h := ?_)
  refine ww ?_
  refine nq ?_
  refine sq ?_
  refine sr ?_
  iterate 3 refine ww ?_
  refine nq ?_
  refine czz (fun h1 => ?_) fun h1 => ?_
  ·
   have hR : rangeR f = [.agg #[.int .i64 (lastE f).low, .int .i64 (lastE f).high], .int .i64 (lastE f).pts, .int .i64 0] := by rw [hR0, range_one (of_decide_eq_true h1)]
   refine sr ?_
   iterate 2 refine ww ?_
   first | refine stA (h := ?_) | refine stEA (h := ?_)
   iterate 2 refine ww ?_
   refine nq ?_
   refine rtn ?_
   refine q_then_ret ?_
   refine q_ret (hR := ?_)
   rw [hR]
   exact fun w hS => ⟨rfl, hS.sub slz_⟩
  ·
   obtain ⟨q1, q2, q3⟩ := range_more (of_decide_eq_false h1)
   have hs23 : f.sets = 2 ∨ f.sets = 3 := by have := of_decide_eq_false h1; omega
   have m1 : -9223372036854775808 ≤ f.sets * (eachE f).low ∧ f.sets * (eachE f).low ≤ 9223372036854775807 := by unfold eachE; rcases hs23 with h | h <;> rw [h] <;> omega
   have m2 : -9223372036854775808 ≤ f.sets * (eachE f).pts ∧ f.sets * (eachE f).pts ≤ 9223372036854775807 := by unfold eachE; rcases hs23 with h | h <;> rw [h] <;> omega
   have m3 : -1000 ≤ (2 * f.sets - 2) * (eachE f).high ∧ (2 * f.sets - 2) * (eachE f).high ≤ 1000 := by unfold eachE; rcases hs23 with h | h <;> rw [h] <;> omega
   refine skp ?_
   refine q_seq ?_
   refine sr ?_
   iterate 6 refine ww ?_
   refine cl0 (hc := fun w hS => C_rules_extent f (f.tie, f.to) hf (each_ok hf) w) (h := ?_)
   iterate 3 refine ww ?_
   refine al (h := fun be => ?_)
   first | refine stA (h := ?_) | refine stEA (h := ?_)
   refine ww ?_
   refine nr ?_
   refine ww ?_
   refine nq ?_
   refine sq ?_
   refine sr ?_
   iterate 4 refine ww ?_
   apply brAnd 4 48 52 (by exact rfl)
   ·
    intro hb2
    iterate 3 refine uw ?_
    refine ww ?_
    exact mg (by repeat (first | exact trivial | refine ⟨rfl, ?_⟩ | refine ⟨by rw [hb2]; rfl, ?_⟩)) slz_
   ·
    intro hb2
    repeat (first | refine uz ?_ | refine kz ?_ | refine wz ?_)
    exact mg (by repeat (first | exact trivial | refine ⟨rfl, ?_⟩ | refine ⟨by rw [hb2]; rfl, ?_⟩)) slz_
   refine nq ?_
   refine czz (fun h3 => ?_) fun h3 => ?_
   ·
    have hR : rangeR f = [.agg #[.int .i64 (f.sets * (eachE f).low), .int .i64 ((2 * f.sets - 2) * (eachE f).high + (lastE f).high)], .int .i64 (f.sets * (eachE f).pts), .int .i64 0] := by
     have h' : (decide (0 ≤ (lastE f).high) && decide (0 ≤ (eachE f).high)) = true := h3
     rw [hR0, q1, q2, q3, h']; rfl
    refine rg ?_
    iterate 6 refine ww ?_
    refine wy (mulI (a := 2 * f.sets - 2) (b := (eachE f).high) (hb := by omega)) ?_
    iterate 2 refine ww ?_
    refine wy (addI (a := (2 * f.sets - 2) * (eachE f).high) (b := (lastE f).high) (hb := by unfold lastE; omega)) ?_
    refine ww ?_
    refine nq ?_
    refine sq ?_
    refine rgD (by kernel_rfl) [(1000000, .blk b0 35 f.cells), (1000000, .blk be 56 [.int .i64 (eachE f).low, .int .i64 (eachE f).high])] (by repeat (first | exact HS.nil | (apply HS.keep; (repeat (first | exact At.here | apply At.there))) | (apply HS.ro; (repeat (first | exact Rds.ro | exact Rds.own | apply Rds.there))))) (h := ?_)
    refine tw 0 ?_
    refine tw 1 ?_
    refine tw 2 ?_
    refine tw 3 ?_
    refine tk 4 (hy := mulI (b := (eachE f).low) (hb := m1)) (h := ?_)
    refine tw 5 ?_
    refine tw 6 ?_
    refine tw 7 ?_
    refine tw 8 ?_
    refine tw 9 ?_
    refine tk 10 (hy := mulI (b := (eachE f).pts) (hb := m2)) (h := ?_)
    refine one 11 (h := ?_)
    first | refine stA (h := ?_) | refine stEA (h := ?_)
    refine nx (h := ?_)
    refine tw 12 ?_
    refine tw 13 ?_
    refine dn (h := ?_)
    refine q_seq ?_
    refine rtn ?_
    refine q_ret (hR := ?_)
    rw [hR]
    exact fun w hS => ⟨rfl, hS.sub slz_⟩
   ·
    have hR : rangeR f = [.agg #[.int .i64 (f.sets * (eachE f).low), .int .i64 (-1)], .int .i64 (f.sets * (eachE f).pts), .int .i64 0] := by
     have h' : (decide (0 ≤ (lastE f).high) && decide (0 ≤ (eachE f).high)) = false := h3
     rw [hR0, q1, q2, q3, h']; rfl
    refine skp ?_
    refine q_seq ?_
    refine sq ?_
    refine rgD (by kernel_rfl) [(1000000, .blk b0 35 f.cells), (1000000, .blk be 56 [.int .i64 (eachE f).low, .int .i64 (eachE f).high])] (by repeat (first | exact HS.nil | (apply HS.keep; (repeat (first | exact At.here | apply At.there))) | (apply HS.ro; (repeat (first | exact Rds.ro | exact Rds.own | apply Rds.there))))) (h := ?_)
    refine tw 0 ?_
    refine tw 1 ?_
    refine tw 2 ?_
    refine tw 3 ?_
    refine tk 4 (hy := mulI (b := (eachE f).low) (hb := m1)) (h := ?_)
    refine tw 5 ?_
    refine tw 6 ?_
    refine tw 7 ?_
    refine tw 8 ?_
    refine tw 9 ?_
    refine tk 10 (hy := mulI (b := (eachE f).pts) (hb := m2)) (h := ?_)
    refine one 11 (h := ?_)
    first | refine stA (h := ?_) | refine stEA (h := ?_)
    refine nx (h := ?_)
    refine tw 12 ?_
    refine tw 13 ?_
    refine dn (h := ?_)
    refine q_seq ?_
    refine rtn ?_
    refine q_ret (hR := ?_)
    rw [hR]
    exact fun w hS => ⟨rfl, hS.sub slz_⟩

end Go.Proofs.YtpmmgljndceplaaGreat

namespace Go.Proofs.YtpmmgljndceplaaGreat
open Go Go.RowKit

abbrev Cs := Pr × Pr
abbrev ccs (c : Cs) : List Value := [.int .i64 c.1.1, .int .i64 c.1.2, .int .i64 c.2.1, .int .i64 c.2.2]
abbrev cv (c : Cs) : Value := .agg #[.int .i64 c.1.1, .int .i64 c.1.2, .int .i64 c.2.1, .int .i64 c.2.2]
def wideV (a b : Pr) : Pr := (min a.1 b.1, max a.2 b.2)
def orV (a b : Cs) : Cs := (wideV a.1 b.1, wideV a.2 b.2)
def zC : Cs := ((0, 0), (0, 0))
theorem wide_comm (a b : Pr) : wideV a b = wideV b a := by unfold wideV; rw [Int.min_comm, Int.max_comm]
theorem or_comm (a b : Cs) : orV a b = orV b a := by unfold orV; rw [wide_comm a.1, wide_comm a.2]
def bz (b : Bool) : Int := bif b then 1 else 0
theorem bz_rng (b : Bool) : 0 ≤ bz b ∧ bz b ≤ 1 := by cases b <;> decide
def bumpC (c : Cs) (ch st : Bool) : Cs := ((c.1.1 + bz ch, c.1.2 + bz ch), (c.2.1 + bz st, c.2.2 + bz st))
def tieN (f : Fmt) (won g : Pr) : Int := bif brksV (setV f won) g then 1 else 0
def endS (f : Fmt) (won g : Pr) (side : Int) : Bool := EO f (setV f won) (ownP side g).1 (ownP side g).2
def wonS (f : Fmt) (won g : Pr) (side : Int) : Pr := bif endS f won g side then addV won side else won
def gamS (f : Fmt) (won g : Pr) (side : Int) : Pr := bif endS f won g side then (0, 0) else addV g side
def overS (f : Fmt) (won g : Pr) (side : Int) : Bool := endS f won g side && decide ((ownP side (addV won side)).1 = f.sets)
def chgV (f : Fmt) (n t1 : Int) (won g : Pr) : Bool := dueV f (n + 1) && !brksV (setV f won) g || decide (t1 = 1) && dueV f (n - 1)
def courV (rec : Pr → Pr → Int → Int → Cs) (f : Fmt) (won g : Pr) (n t1 side : Int) : Cs :=
 bif overS f won g side then zC else bumpC (rec (wonS f won g side) (gamS f won g side) (n + 1) (tieN f won g)) (chgV f n t1 (wonS f won g side) (gamS f won g side)) (endS f won g side)
def fromF (f : Fmt) : Nat → Pr → Pr → Int → Int → Cs
 | 0, _, _, _, _ => zC
 | k + 1, won, g, n, t1 => orV (courV (fromF f k) f won g n t1 0) (courV (fromF f k) f won g n t1 1)
def Bdd (f : Fmt) : Prop := 0 ≤ f.ltie ∧ (f.sets = 1 ∨ 0 ≤ f.tie)
def Vs (f : Fmt) (won g : Pr) : Prop := ((0 ≤ won.1 ∧ won.1 < f.sets) ∧ 0 ≤ won.2 ∧ won.2 < f.sets) ∧ OpenP f (setV f won) g.1 g.2
def remV (f : Fmt) (won g : Pr) : Int := (2 * f.sets - 2 - won.1 - won.2) * (2 * f.tie + 1) + 2 * f.ltie + 1 - g.1 - g.2
section
variable {f : Fmt}
theorem open_sum {s : Pr} (ht : TieOk f s) (h0 : 0 ≤ s.1) {a b : Int} (h : OpenP f s a b) : a + b ≤ 2 * s.1 ∧ (a ≤ f.games ∧ b ≤ f.games) := by
 unfold TieOk at ht; unfold OpenP at h; omega
theorem set_last {won : Pr} (h1 : won.1 = f.sets - 1) (h2 : won.2 = f.sets - 1) : setV f won = (f.ltie, f.lto) := by
 unfold setV; rw [decide_eq_true h1, decide_eq_true h2]; rfl
theorem set_each {won : Pr} (h : ¬ (won.1 = f.sets - 1 ∧ won.2 = f.sets - 1)) : setV f won = (f.tie, f.to) := by
 unfold setV
 by_cases h1 : won.1 = f.sets - 1
 ·
  rw [decide_eq_true h1, decide_eq_false (fun h2 => h ⟨h1, h2⟩)]; rfl
 ·
  rw [decide_eq_false h1]; rfl
theorem bdd_set (hb : Bdd f) {won : Pr} (hw : (0 ≤ won.1 ∧ won.1 < f.sets) ∧ 0 ≤ won.2 ∧ won.2 < f.sets) : 0 ≤ (setV f won).1 := by
 by_cases h : won.1 = f.sets - 1 ∧ won.2 = f.sets - 1
 ·
  rw [set_last h.1 h.2]; exact hb.1
 ·
  rw [set_each h]
  rcases hb.2 with h1 | h1
  ·
   omega
  ·
   exact h1
theorem mul_ge {d e : Int} (hd : 1 ≤ d) (he : 0 ≤ e) : e ≤ d * e := by
 have h := Int.mul_nonneg (show 0 ≤ d - 1 by omega) he
 rw [Int.sub_mul, Int.one_mul] at h
 omega
theorem addB_sum (p : Pr) (side : Int) : (addV p side).1 + (addV p side).2 = p.1 + p.2 + 1 := by
 unfold addV; cases decide (side = 0)
 ·
  show p.1 + (p.2 + 1) = _; omega
 ·
  show p.1 + 1 + p.2 = _; omega
theorem rem_pos (hf : f.Ok) (hb : Bdd f) {won g : Pr} (h : Vs f won g) : 1 ≤ remV f won g := by
 have ho := open_sum (tie_ok hf won) (bdd_set hb h.1) h.2
 have hw := h.1
 unfold remV
 by_cases hl : won.1 = f.sets - 1 ∧ won.2 = f.sets - 1
 ·
  rw [set_last hl.1 hl.2] at ho
  dsimp only at ho
  rw [show 2 * f.sets - 2 - won.1 - won.2 = 0 by omega, Int.zero_mul]; omega
 ·
  rw [set_each hl] at ho
  dsimp only at ho
  have h0 := hb.1
  have h2 : 0 ≤ f.tie := by rcases hb.2 with h1 | h1 <;> omega
  have hm := mul_ge (d := 2 * f.sets - 2 - won.1 - won.2) (e := 2 * f.tie + 1) (by omega) (by omega)
  omega
theorem end_open (hf : f.Ok) {won g : Pr} {side : Int} (hs : side = 0 ∨ side = 1) (h : OpenP f (setV f won) g.1 g.2) (he : endS f won g side = false) : OpenP f (setV f won) (addV g side).1 (addV g side).2 := by
 have ht := tie_ok hf won
 rcases hs with rfl | rfl
 ·
  exact open_next ht h ((eo_is ht h).symm.trans he)
 ·
  exact open_next' ht h ((eo_is' ht h).symm.trans he)
theorem step_ok' (hf : f.Ok) (hb : Bdd f) {won g : Pr} {side : Int} (hs : side = 0 ∨ side = 1) (h : Vs f won g) (ho : overS f won g side = false) : Vs f (wonS f won g side) (gamS f won g side) ∧ remV f (wonS f won g side) (gamS f won g side) ≤ remV f won g - 1 := by
 have hw := h.1
 unfold wonS gamS
 cases he : endS f won g side
 ·
  have h1 := end_open hf hs h.2 he
  have h2 := addB_sum g side
  simp only [cond_false]
  refine ⟨⟨hw, h1⟩, ?_⟩
  unfold remV
  omega
 ·
  rw [overS, he, Bool.true_and, decide_eq_false_iff_not] at ho
  have hao : (0 ≤ (addV won side).1 ∧ (addV won side).1 < f.sets) ∧ 0 ≤ (addV won side).2 ∧ (addV won side).2 < f.sets := by
   rcases hs with rfl | rfl
   ·
    have h1 : ¬ won.1 + 1 = f.sets := ho
    show (0 ≤ won.1 + 1 ∧ won.1 + 1 < f.sets) ∧ 0 ≤ won.2 ∧ won.2 < f.sets
    omega
   ·
    have h1 : ¬ won.2 + 1 = f.sets := ho
    show (0 ≤ won.1 ∧ won.1 < f.sets) ∧ 0 ≤ won.2 + 1 ∧ won.2 + 1 < f.sets
    omega
  have h2 := addB_sum won side
  have hsum := open_sum (tie_ok hf won) (bdd_set hb hw) h.2
  simp only [cond_true]
  refine ⟨⟨hao, open0 (tie_ok hf _)⟩, ?_⟩
  have hnl : ¬ (won.1 = f.sets - 1 ∧ won.2 = f.sets - 1) := by omega
  rw [set_each hnl] at hsum
  unfold remV
  rw [show 2 * f.sets - 2 - (addV won side).1 - (addV won side).2 = (2 * f.sets - 2 - won.1 - won.2) - 1 by omega, Int.sub_mul, Int.one_mul]
  dsimp only at hsum ⊢
  omega
theorem cour_congr (hf : f.Ok) (hb : Bdd f) {won g : Pr} {n t1 side : Int} (hs : side = 0 ∨ side = 1) (h : Vs f won g) {r1 r2 : Pr → Pr → Int → Int → Cs} (hr : ∀ won' g' n' t', Vs f won' g' → remV f won' g' ≤ remV f won g - 1 → n' = n + 1 → r1 won' g' n' t' = r2 won' g' n' t') : courV r1 f won g n t1 side = courV r2 f won g n t1 side := by
 unfold courV
 cases ho : overS f won g side
 ·
  obtain ⟨h1, h2⟩ := step_ok' hf hb hs h ho
  rw [hr _ _ _ _ h1 h2 rfl]
 ·
  rfl
theorem from_more (hf : f.Ok) (hb : Bdd f) : ∀ (k m : Nat) (won g : Pr) (n t1 : Int), Vs f won g → remV f won g ≤ k → remV f won g ≤ m → fromF f k won g n t1 = fromF f m won g n t1
 | 0, m, won, g, n, t1, h, h1, _ => by have := rem_pos hf hb h; omega
 | k + 1, 0, won, g, n, t1, h, _, h2 => by have := rem_pos hf hb h; omega
 | k + 1, m + 1, won, g, n, t1, h, h1, h2 => by
  rw [fromF, fromF, cour_congr hf hb (.inl rfl) h (fun w' g' n' t' hv hr _ => from_more hf hb k m w' g' n' t' hv (by omega) (by omega)), cour_congr hf hb (.inr rfl) h (fun w' g' n' t' hv hr _ => from_more hf hb k m w' g' n' t' hv (by omega) (by omega))]
def fromP (f : Fmt) (won g : Pr) (n t1 : Int) : Cs := fromF f (remV f won g).toNat won g n t1
theorem from_eq (hf : f.Ok) (hb : Bdd f) {won g : Pr} {n t1 : Int} (h : Vs f won g) : fromP f won g n t1 = orV (courV (fromP f) f won g n t1 0) (courV (fromP f) f won g n t1 1) := by
 have hp := rem_pos hf hb h
 obtain ⟨k, hk⟩ : ∃ k, (remV f won g).toNat = k + 1 := ⟨(remV f won g).toNat - 1, by omega⟩
 unfold fromP
 rw [hk, fromF]
 rw [cour_congr (r1 := fromF f k) (r2 := fun won g n t1 => fromF f (remV f won g).toNat won g n t1) hf hb (.inl rfl) h (fun w' g' n' t' hv hr _ => from_more hf hb _ _ w' g' n' t' hv (by omega) (by have := rem_pos hf hb hv; omega)), cour_congr (r1 := fromF f k) (r2 := fun won g n t1 => fromF f (remV f won g).toNat won g n t1) hf hb (.inr rfl) h (fun w' g' n' t' hv hr _ => from_more hf hb _ _ w' g' n' t' hv (by omega) (by have := rem_pos hf hb hv; omega))]
def CsB (c : Cs) (k : Int) : Prop := (0 ≤ c.1.1 ∧ c.1.1 ≤ c.1.2 ∧ c.1.2 ≤ k) ∧ 0 ≤ c.2.1 ∧ c.2.1 ≤ c.2.2 ∧ c.2.2 ≤ k
theorem csb_zero {k : Int} (h : 0 ≤ k) : CsB zC k := by unfold CsB zC; dsimp only; omega
theorem csb_bump {c : Cs} {k : Int} (h : CsB c k) (a b : Bool) : CsB (bumpC c a b) (k + 1) := by
 have h1 := bz_rng a
 have h2 := bz_rng b
 unfold CsB bumpC at *; dsimp only; omega
theorem csb_or {a b : Cs} {k : Int} (h1 : CsB a k) (h2 : CsB b k) : CsB (orV a b) k := by
 unfold CsB orV wideV at *; dsimp only; omega
theorem csb_cour {rec : Pr → Pr → Int → Int → Cs} {k : Int} (hk : 0 ≤ k) (h : ∀ w g n t, CsB (rec w g n t) k) (won g : Pr) (n t1 side : Int) : CsB (courV rec f won g n t1 side) (k + 1) := by
 unfold courV
 cases overS f won g side
 ·
  exact csb_bump (h _ _ _ _) _ _
 ·
  exact csb_zero (by omega)
theorem csb_from : ∀ (k : Nat) (won g : Pr) (n t1 : Int), CsB (fromF f k won g n t1) k
 | 0, _, _, _, _ => csb_zero (Int.le_refl _)
 | k + 1, won, g, n, t1 => csb_or (by have := csb_cour (f := f) (rec := fromF f k) (k := k) (by omega) (fun w g n t => csb_from k w g n t) won g n t1 0; exact this) (by have := csb_cour (f := f) (rec := fromF f k) (k := k) (by omega) (fun w g n t => csb_from k w g n t) won g n t1 1; exact this)
theorem rem_le (hf : f.Ok) {won g : Pr} (h : Vs f won g) : remV f won g ≤ 85 := by
 have hw := h.1
 have ho := h.2
 have h1 := hf.s1
 have h2 := hf.g1
 have h3 := hf.t
 have h4 := hf.lt
 have h5 := hf.g0
 unfold OpenP at ho
 unfold remV
 have hd : 2 * f.sets - 2 - won.1 - won.2 = 0 ∨ 2 * f.sets - 2 - won.1 - won.2 = 1 ∨ 2 * f.sets - 2 - won.1 - won.2 = 2 ∨ 2 * f.sets - 2 - won.1 - won.2 = 3 ∨ 2 * f.sets - 2 - won.1 - won.2 = 4 := by omega
 rcases hd with e | e | e | e | e <;> rw [e] <;> omega
theorem csb_P (hf : f.Ok) {won g : Pr} {n t1 : Int} (h : Vs f won g) : CsB (fromP f won g n t1) 85 := by
 have h1 := csb_from (f := f) (remV f won g).toNat won g n t1
 have h2 := rem_le hf h
 unfold fromP
 unfold CsB at h1 ⊢
 omega

end
end Go.Proofs.YtpmmgljndceplaaGreat

namespace Go.Proofs.YtpmmgljndceplaaGreat
open Go Go.RowKit

abbrev restc (f : Fmt) (b : Nat) : List Value := [.int .i64 f.sets, .int .i64 f.games, .bool f.noAd, .int .i64 f.tie, .int .i64 f.to, .int .i64 f.ltie, .int .i64 f.lto, .int .i64 f.first, .int .i64 f.thn, .bool f.dbl, .map (some b)]
abbrev restv (f : Fmt) (b : Nat) : Value := .agg #[.int .i64 f.sets, .int .i64 f.games, .bool f.noAd, .int .i64 f.tie, .int .i64 f.to, .int .i64 f.ltie, .int .i64 f.lto, .int .i64 f.first, .int .i64 f.thn, .bool f.dbl, .map (some b)]
structure Spo where
 (won games : Pr) (num t0 t1 : Int)
abbrev Spo.cells (s : Spo) : List Value := [.int .i64 s.won.1, .int .i64 s.won.2, .int .i64 s.games.1, .int .i64 s.games.2, .int .i64 s.num, .int .i64 s.t0, .int .i64 s.t1]
abbrev Spo.val (s : Spo) : Value := .agg #[.int .i64 s.won.1, .int .i64 s.won.2, .int .i64 s.games.1, .int .i64 s.games.2, .int .i64 s.num, .int .i64 s.t0, .int .i64 s.t1]
theorem C_bound_or1 (a b : Pr) (w : World) : C0 Tryz.prog 133 [pv a, pv b] w (pv (wideV a b)) := by
 refine ⟨en Tryz.func133 Tryz.ntmps133 (St.init w) (h := fun F => ?_)⟩
 refine sr ?_
 refine bxA (h := fun b0 => ?_)
 refine bxA (h := fun b1 => ?_)
 refine al (h := fun b2 => ?_)
 refine nr ?_
 iterate 11 refine ww ?_
 first | refine stA (h := ?_) | refine stEA (h := ?_)
 refine nq ?_
 refine rtn ?_
 refine q_ret (hR := ?_)
 exact fun w hS => ⟨rfl, hS.sub slz_⟩
theorem C_bound_or (a b : Cs) (w : World) : C0 Tryz.prog 116 [cv a, cv b] w (cv (orV a b)) := by
 refine ⟨en Tryz.func116 Tryz.ntmps116 (St.init w) (h := fun F => ?_)⟩
 refine sr ?_
 refine bxA (h := fun b0 => ?_)
 refine bxA (h := fun b1 => ?_)
 refine al (h := fun b2 => ?_)
 refine nr ?_
 refine ww ?_
 refine nq ?_
 refine sq ?_
 refine rgD (by kernel_rfl) [(1000000, .blk b0 125 (ccs a)), (1000000, .blk b1 125 (ccs b))] (by repeat (first | exact HS.nil | (apply HS.keep; (repeat (first | exact At.here | apply At.there))) | (apply HS.ro; (repeat (first | exact Rds.ro | exact Rds.own | apply Rds.there))))) (h := ?_)
 refine tw 0 ?_
 refine tw 1 ?_
 refine tw 2 ?_
 refine tw 3 ?_
 refine tw 4 ?_
 refine tw 6 ?_
 refine tw 7 ?_
 refine tw 8 ?_
 refine tw 9 ?_
 refine tw 10 ?_
 refine one 5 (h := ?_)
 refine clf0 (f := 133) (fi := []) (cap := []) (hc := fun w hS => C_bound_or1 a.1 b.1 w) (h := ?_)
 refine nx (h := ?_)
 refine one 11 (h := ?_)
 refine clf0 (f := 133) (fi := []) (cap := []) (hc := fun w hS => C_bound_or1 a.2 b.2 w) (h := ?_)
 refine nx (h := ?_)
 refine tw 12 ?_
 refine one 13 (h := ?_)
 first | refine stA (h := ?_) | refine stEA (h := ?_)
 refine nx (h := ?_)
 refine dn (h := ?_)
 refine q_seq ?_
 refine rtn ?_
 refine q_ret (hR := ?_)
 exact fun w hS => ⟨rfl, hS.sub slz_⟩
theorem due_form (f : Fmt) (n : Int) : dueV f n = (decide (0 < f.first) && (decide (n = f.first) || decide (f.first < n) && decide (0 < f.thn) && decide ((n - f.first) % f.thn = 0))) := by
 unfold dueV
 rw [show decide (n - f.first = 0) = decide (n = f.first) from decide_eq_decide.2 (by omega), show decide (0 < n - f.first) = decide (f.first < n) from decide_eq_decide.2 (by omega)]
theorem C_rest_due (f : Fmt) (b : Nat) (n : Int) (hf : f.Ok) (hn : -1000000 ≤ n ∧ n ≤ 1000000) (w : World) : C0 Tryz.prog 115 [restv f b, .int .i64 n] w (.bool (dueV f n)) := by
 have h1 := hf.f0
 have h2 := hf.f1
 have h3 := hf.n0
 rw [due_form]
 refine ⟨en Tryz.func115 Tryz.ntmps115 (St.init w) (h := fun F => ?_)⟩
 refine sr ?_
 refine bxA (h := fun b0 => ?_)
 refine ww ?_
 refine nr ?_
 iterate 5 refine ww ?_
 apply brAnd 31 9 40 (by exact rfl)
 ·
  intro hb0
  iterate 6 refine uw ?_
  apply brOr 24 15 39 (by exact rfl)
  ·
   intro hb1
   iterate 6 refine uw ?_
   apply brAnd 5 21 26 (by exact rfl)
   ·
    intro hb2
    iterate 5 refine uw ?_
    exact mg (by repeat (first | exact trivial | refine ⟨rfl, ?_⟩ | refine ⟨by rw [hb2]; rfl, ?_⟩ | refine ⟨by rw [hb0]; rfl, ?_⟩ | refine ⟨by rw [hb1]; rfl, ?_⟩)) slz_
   ·
    intro hb2
    repeat (first | refine uz ?_ | refine kz ?_ | refine wz ?_)
    exact mg (by repeat (first | exact trivial | refine ⟨rfl, ?_⟩ | refine ⟨by rw [hb2]; rfl, ?_⟩ | refine ⟨by rw [hb0]; rfl, ?_⟩ | refine ⟨by rw [hb1]; rfl, ?_⟩)) slz_
   refine uw ?_
   apply brAnd 11 27 38 (by exact rfl)
   ·
    intro hb3
    obtain ⟨hng, hthn⟩ : f.first < n ∧ 0 < f.thn := by simp only [Bool.and_eq_true, decide_eq_true_eq] at hb3; omega
    iterate 11 refine uw ?_
    exact mg (by repeat (first | exact trivial | refine ⟨rfl, ?_⟩ | refine ⟨by rw [hb3]; rfl, ?_⟩ | refine ⟨by rw [hb0]; rfl, ?_⟩ | refine ⟨by rw [hb1]; rfl, ?_⟩)) slz_
   ·
    intro hb3
    repeat (first | refine uz ?_ | refine kz ?_ | refine wz ?_)
    exact mg (by repeat (first | exact trivial | refine ⟨rfl, ?_⟩ | refine ⟨by rw [hb3]; rfl, ?_⟩ | refine ⟨by rw [hb0]; rfl, ?_⟩ | refine ⟨by rw [hb1]; rfl, ?_⟩)) slz_
   refine uw ?_
   exact mg (by repeat (first | exact trivial | refine ⟨rfl, ?_⟩ | refine ⟨by rw [hb1]; rfl, ?_⟩ | refine ⟨by rw [hb0]; rfl, ?_⟩)) slz_
  ·
   intro hb1
   repeat (first | refine uz ?_ | refine kz ?_ | refine wz ?_)
   exact mg (by repeat (first | exact trivial | refine ⟨rfl, ?_⟩ | refine ⟨by rw [hb1]; rfl, ?_⟩ | refine ⟨by rw [hb0]; rfl, ?_⟩)) slz_
  refine ww ?_
  exact mg (by repeat (first | exact trivial | refine ⟨rfl, ?_⟩ | refine ⟨by rw [hb0]; rfl, ?_⟩)) slz_
 ·
  intro hb0
  repeat (first | refine uz ?_ | refine kz ?_ | refine wz ?_)
  exact mg (by repeat (first | exact trivial | refine ⟨rfl, ?_⟩ | refine ⟨by rw [hb0]; rfl, ?_⟩)) slz_
 refine ww ?_
 refine nq ?_
 refine rtn ?_
 refine q_ret (hR := ?_)
 exact fun w hS => ⟨rfl, hS.sub slz_⟩
theorem C_rest_tie (f : Fmt) (b : Nat) (won g : Pr) (hf : f.Ok) (w : World) : C0 Tryz.prog 71 [restv f b, pv won, pv g] w (.int .i64 (tieN f won g)) := by
 have hs0 := hf.s0
 have hs1 := hf.s1
 refine ⟨en Tryz.func71 Tryz.ntmps71 (St.init w) (h := fun F => ?_)⟩
 refine sr ?_
 refine bxA (h := fun b0 => ?_)
 refine bxA (h := fun b1 => ?_)
 refine bxA (h := fun b2 => ?_)
 refine ww ?_
 refine nr ?_
 iterate 4 refine ww ?_
 refine nq ?_
 refine ct (X := Unit) (fun _ => True) (fun _ => [(3, .pointer (some ⟨b0, 0, none⟩)), (4, .pointer (some ⟨b1, 0, none⟩)), (5, .pointer (some ⟨b2, 0, none⟩)), (7, .int .i64 (setV f won).1)]) (fun _ => [.blk b0 153 (restc f b), .blk b1 38 [.int .i64 won.1, .int .i64 won.2], .blk b2 38 [.int .i64 g.1, .int .i64 g.2]]) (h1 := ?_) (h2 := ?_)
 ·
  refine sr ?_
  iterate 8 refine ww ?_
  apply brAnd 8 18 26 (by exact rfl)
  ·
   intro hb0
   iterate 7 refine uw ?_
   refine ww ?_
   exact mg (by repeat (first | exact trivial | refine ⟨rfl, ?_⟩ | refine ⟨by rw [hb0]; rfl, ?_⟩)) slz_
  ·
   intro hb0
   repeat (first | refine uz ?_ | refine kz ?_ | refine wz ?_)
   exact mg (by repeat (first | exact trivial | refine ⟨rfl, ?_⟩ | refine ⟨by rw [hb0]; rfl, ?_⟩)) slz_
  refine nq ?_
  refine czz (fun h1 => ?_) fun h1 => ?_
  ·
   have hs : (setV f won).1 = f.ltie := by rw [setV, h1]; rfl
   refine rg ?_
   iterate 4 refine ww ?_
   refine nl ?_
   exact ctn () trivial (by repeat (first | exact trivial | refine ⟨rfl, ?_⟩ | refine ⟨by rw [hs]; rfl, ?_⟩)) slz_
  ·
   have hs : (setV f won).1 = f.tie := by rw [setV, h1]; rfl
   refine skp ?_
   exact ctn () trivial (by repeat (first | exact trivial | refine ⟨rfl, ?_⟩ | refine ⟨by rw [hs]; rfl, ?_⟩)) slz_
 rintro ⟨⟩ -
 refine sq ?_
 refine sr ?_
 iterate 5 refine ww ?_
 apply brAnd 5 34 39 (by exact rfl)
 ·
  intro hb2
  iterate 4 refine uw ?_
  refine ww ?_
  exact mg (by repeat (first | exact trivial | refine ⟨rfl, ?_⟩ | refine ⟨by rw [hb2]; rfl, ?_⟩)) slz_
 ·
  intro hb2
  repeat (first | refine uz ?_ | refine kz ?_ | refine wz ?_)
  exact mg (by repeat (first | exact trivial | refine ⟨rfl, ?_⟩ | refine ⟨by rw [hb2]; rfl, ?_⟩)) slz_
 refine nq ?_
 refine czz (fun h3 => ?_) fun h3 => ?_
 ·
  have hE : tieN f won g = 1 := by rw [tieN, brksV, h3]; rfl
  refine sr ?_
  refine ww ?_
  refine nq ?_
  refine rtn ?_
  refine q_then_ret ?_
  refine q_ret (hR := ?_)
  rw [hE]
  exact fun w hS => ⟨rfl, hS.sub slz_⟩
 ·
  have hE : tieN f won g = 0 := by rw [tieN, brksV, h3]; rfl
  refine skp ?_
  refine q_seq ?_
  refine sr ?_
  refine ww ?_
  refine nq ?_
  refine rtn ?_
  refine q_ret (hR := ?_)
  rw [hE]
  exact fun w hS => ⟨rfl, hS.sub slz_⟩
theorem same_is {f : Fmt} {won g : Pr} {t0 side : Int} (hs : side = 0 ∨ side = 1) (ht : t0 = tieN f won g) : (decide (t0 = 0) && (decide ((ownP side g).1 + 1 < f.games) || decide ((ownP side g).1 + 1 - (ownP side g).2 < 2))) = !endS f won g side := by
 have h0 : decide (t0 = 0) = !brksV (setV f won) g := by
  rw [ht, tieN]; cases brksV (setV f won) g <;> rfl
 rw [h0, endS, EO, ← own_pair, brks_own hs, Bool.eq_iff_iff]
 cases brksV (setV f won) g
 ·
  simp only [Bool.not_false, Bool.true_and, Bool.false_or, Bool.or_eq_true, Bool.not_eq_true', Bool.and_eq_false_iff, decide_eq_true_eq, decide_eq_false_iff_not]; omega
 ·
  simp
def afterS (f : Fmt) (s : Spo) (side : Int) : Spo := ⟨wonS f s.won s.games side, gamS f s.won s.games side, s.num + 1, tieN f (wonS f s.won s.games side) (gamS f s.won s.games side), s.t0⟩
set_option maxRecDepth 100000 in
theorem C_rest_after0 (f : Fmt) (bm : Nat) (s : Spo) (hf : f.Ok) (ht : s.t0 = tieN f s.won s.games) (hw : (0 ≤ s.won.1 ∧ s.won.1 ≤ 3) ∧ 0 ≤ s.won.2 ∧ s.won.2 ≤ 3) (hg : (0 ≤ s.games.1 ∧ s.games.1 ≤ 1000) ∧ 0 ≤ s.games.2 ∧ s.games.2 ≤ 1000) (hn : 0 ≤ s.num ∧ s.num ≤ 1000) (w : World) : C0 Tryz.prog 114 [restv f bm, s.val, .int .i64 0] w (.tuple #[(afterS f s 0).val, .bool (!endS f s.won s.games 0), .bool (overS f s.won s.games 0)]) := by
 have hsm := same_is (f := f) (won := s.won) (g := s.games) (side := 0) (.inl rfl) ht
 rw [own0] at hsm
 refine ⟨en Tryz.func114 Tryz.ntmps114 (St.init w) (h := fun F => ?_)⟩
 refine sr ?_
 refine bxA (h := fun b0 => ?_)
 refine bxA (h := fun b1 => ?_)
 refine al (h := fun b2 => ?_)
 iterate 2 refine ww ?_
 refine nr ?_
 iterate 6 refine ww ?_
 refine nr ?_
 iterate 3 refine ww ?_
 refine nr ?_
 refine ww ?_
 first | refine stA (h := ?_) | refine stEA (h := ?_)
 refine nq ?_
 refine sq ?_
 refine sr ?_
 iterate 2 refine ww ?_
 refine nq ?_
 refine czz (fun h0 => ?_) fun h0 => ?_
 ·
  exfalso
  exact absurd (of_decide_eq_true h0 : (0 : Int) = 1) (by decide)
 ·
  have h1 := of_decide_eq_false h0
  refine skp ?_
  refine q_seq ?_
  refine sr ?_
  iterate 5 refine ww ?_
  first | refine st (h := ?_) | refine stE (h := ?_)
  refine nq ?_
  refine ct (X := Unit) (fun _ => True) (fun _ => [(2, .int .i64 0), (3, .pointer (some ⟨b0, 0, none⟩)), (4, .pointer (some ⟨b1, 0, none⟩)), (6, .pointer (some ⟨b2, 0, none⟩)), (7, .bool (!endS f s.won s.games 0)), (8, .bool false), (9, .pointer (some ⟨b2, 2, none⟩)), (10, .pointer (some ⟨b2, 3, none⟩)), (11, .pointer (some ⟨b2, 0, none⟩))]) (fun _ => [.blk b2 156 [.int .i64 s.won.1, .int .i64 s.won.2, .int .i64 (addV s.games 0).1, .int .i64 (addV s.games 0).2, .int .i64 s.num, .int .i64 s.t0, .int .i64 s.t1], .blk b0 153 (restc f bm), .blk b1 156 s.cells]) (h1 := ?_) (h2 := ?_)
  ·
   refine rgD0 (by kernel_rfl) (h := ?_)
   refine tw 0 ?_
   refine tk 1 (hy := ixA) (h := ?_)
   refine tw 2 ?_
   refine tw 3 ?_
   refine tw 4 ?_
   refine brH (g := 34) (by exact rfl) (fun hb1 => ?_) (fun hb1 => ?_)
   ·
    have kA : decide (s.t0 = 0) = true := hb1
    refine tw 5 ?_
    refine tw 6 ?_
    refine tw 7 ?_
    refine tw 8 ?_
    refine tw 9 ?_
    refine tw 10 ?_
    refine tw 11 ?_
    refine tw 12 ?_
    refine brH (g := 42) (by exact rfl) (fun hb2 => ?_) (fun hb2 => ?_)
    ·
     have kB : decide (s.games.1 + 1 < f.games) = true := hb2
     refine tkS 13 (h := ?_)
     refine tkS 14 (h := ?_)
     refine tkS 15 (h := ?_)
     refine tkS 16 (h := ?_)
     refine tkS 17 (h := ?_)
     refine tkS 18 (h := ?_)
     refine tkS 19 (h := ?_)
     refine tkS 20 (h := ?_)
     refine tw 21 ?_
     refine tw 22 ?_
     refine tw 23 ?_
     refine dn (h := ?_)
     exact ctn () trivial (by repeat (first | exact trivial | refine ⟨rfl, ?_⟩ | refine ⟨by first | (rw [← hsm, kA, kB]; rfl) | (rw [← hsm, kA]; rfl), ?_⟩)) slz_
    ·
     have kB : decide (s.games.1 + 1 < f.games) = false := hb2
     refine tw 13 ?_
     refine tw 14 ?_
     refine tw 15 ?_
     refine tw 16 ?_
     refine tw 17 ?_
     refine tw 18 ?_
     refine tw 19 ?_
     refine tw 20 ?_
     refine tw 21 ?_
     refine tw 22 ?_
     refine tw 23 ?_
     refine dn (h := ?_)
     exact ctn () trivial (by repeat (first | exact trivial | refine ⟨rfl, ?_⟩ | refine ⟨by first | (rw [← hsm, kA, kB]; rfl) | (rw [← hsm, kA]; rfl), ?_⟩)) slz_
   ·
    have kA : decide (s.t0 = 0) = false := hb1
    refine tkS 5 (h := ?_)
    refine tkS 6 (h := ?_)
    refine tkS 7 (h := ?_)
    refine tkS 8 (h := ?_)
    refine tkS 9 (h := ?_)
    refine tkS 10 (h := ?_)
    refine tkS 11 (h := ?_)
    refine tkS 12 (h := ?_)
    refine tkS 13 (h := ?_)
    refine tkS 14 (h := ?_)
    refine tkS 15 (h := ?_)
    refine tkS 16 (h := ?_)
    refine tkS 17 (h := ?_)
    refine tkS 18 (h := ?_)
    refine tkS 19 (h := ?_)
    refine tkS 20 (h := ?_)
    refine tkS 21 (h := ?_)
    refine tw 22 ?_
    refine tw 23 ?_
    refine dn (h := ?_)
    exact ctn () trivial (by repeat (first | exact trivial | refine ⟨rfl, ?_⟩ | refine ⟨by first | (rw [← hsm, kA, kB]; rfl) | (rw [← hsm, kA]; rfl), ?_⟩)) slz_
  rintro ⟨⟩ -
  refine sq ?_
  refine sr ?_
  iterate 2 refine ww ?_
  refine nq ?_
  refine czz (fun h3 => ?_) fun h3 => ?_
  ·
   have hE : endS f s.won s.games 0 = true := by rw [Bool.not_not] at h3; exact h3
   have hw1 : wonS f s.won s.games 0 = addV s.won 0 := by rw [wonS, hE]; rfl
   have hg1 : gamS f s.won s.games 0 = (0, 0) := by rw [gamS, hE]; rfl
   have ho1 : overS f s.won s.games 0 = (true && decide ((ownP 0 (addV s.won 0)).1 = f.sets)) := by rw [overS, hE]
   refine sr ?_
   iterate 2 refine ww ?_
   first | refine stA (h := ?_) | refine stEA (h := ?_)
   refine nr ?_
   iterate 5 refine ww ?_
   first | refine st (h := ?_) | refine stE (h := ?_)
   refine nq ?_
   refine rgD0 (by kernel_rfl) (h := ?_)
   refine tw 0 ?_
   refine tw 1 ?_
   refine tw 2 ?_
   refine tw 3 ?_
   refine tw 4 ?_
   refine tw 5 ?_
   refine tw 6 ?_
   refine tw 7 ?_
   refine dn (h := ?_)
   refine q_seq ?_
   refine sr ?_
   iterate 4 refine ww ?_
   first | refine st (h := ?_) | refine stE (h := ?_)
   refine nq ?_
   refine sq ?_
   refine rgD (by kernel_rfl) [(11, .blk b2 156 _), (1000000, .blk b0 153 (restc f bm)), (1000000, .blk b1 156 s.cells)] (by repeat (first | exact HS.nil | (apply HS.keep; (repeat (first | exact At.here | apply At.there))) | (apply HS.ro; (repeat (first | exact Rds.ro | exact Rds.own | apply Rds.there))))) (h := ?_)
   refine tw 0 ?_
   refine tw 1 ?_
   refine tw 2 ?_
   refine tw 3 ?_
   refine tw 4 ?_
   refine tw 6 ?_
   refine tk 7 (hy := ixA) (h := ?_)
   refine tw 8 ?_
   refine one 5 (h := ?_)
   refine cl0 (hc := fun w hS => C_rest_tie f bm (wonS f s.won s.games 0) (gamS f s.won s.games 0) hf w) (hargs := by rw [hw1, hg1]; repeat (first | exact Evs.nil | (apply Evs.cons; exact rfl))) (h := ?_)
   refine nx (h := ?_)
   refine tk 9 (hy := bdA) (h := ?_)
   refine tw 10 ?_
   refine one 11 (h := ?_)
   first | refine stA (h := ?_) | refine stEA (h := ?_)
   refine nx (h := ?_)
   refine dn (h := ?_)
   refine q_seq ?_
   refine sr ?_
   iterate 3 refine ww ?_
   first | refine stA (h := ?_) | refine stEA (h := ?_)
   iterate 2 refine ww ?_
   refine nq ?_
   refine rtn ?_
   refine q_ret (hR := ?_)
   refine fun w hS => ⟨?_, hS.sub slz_⟩
   unfold afterS
   rw [hw1, hg1, ho1, hE]
   rfl
  ·
   have hE : endS f s.won s.games 0 = false := by rw [Bool.not_not] at h3; exact h3
   have hw1 : wonS f s.won s.games 0 = s.won := by rw [wonS, hE]; rfl
   have hg1 : gamS f s.won s.games 0 = addV s.games 0 := by rw [gamS, hE]; rfl
   have ho1 : overS f s.won s.games 0 = false := by rw [overS, hE]; rfl
   refine skp ?_
   refine q_seq ?_
   refine sr ?_
   iterate 4 refine ww ?_
   first | refine st (h := ?_) | refine stE (h := ?_)
   refine nq ?_
   refine sq ?_
   refine rgD (by kernel_rfl) [(11, .blk b2 156 _), (1000000, .blk b0 153 (restc f bm)), (1000000, .blk b1 156 s.cells)] (by repeat (first | exact HS.nil | (apply HS.keep; (repeat (first | exact At.here | apply At.there))) | (apply HS.ro; (repeat (first | exact Rds.ro | exact Rds.own | apply Rds.there))))) (h := ?_)
   refine tw 0 ?_
   refine tw 1 ?_
   refine tw 2 ?_
   refine tw 3 ?_
   refine tw 4 ?_
   refine tw 6 ?_
   refine tk 7 (hy := ixA) (h := ?_)
   refine tw 8 ?_
   refine one 5 (h := ?_)
   refine cl0 (hc := fun w hS => C_rest_tie f bm (wonS f s.won s.games 0) (gamS f s.won s.games 0) hf w) (hargs := by rw [hw1, hg1]; repeat (first | exact Evs.nil | (apply Evs.cons; exact rfl))) (h := ?_)
   refine nx (h := ?_)
   refine tk 9 (hy := bdA) (h := ?_)
   refine tw 10 ?_
   refine one 11 (h := ?_)
   first | refine stA (h := ?_) | refine stEA (h := ?_)
   refine nx (h := ?_)
   refine dn (h := ?_)
   refine q_seq ?_
   refine sr ?_
   iterate 3 refine ww ?_
   first | refine stA (h := ?_) | refine stEA (h := ?_)
   iterate 2 refine ww ?_
   refine nq ?_
   refine rtn ?_
   refine q_ret (hR := ?_)
   refine fun w hS => ⟨?_, hS.sub slz_⟩
   unfold afterS
   rw [hw1, hg1, ho1, hE]
   rfl
set_option maxRecDepth 100000 in
theorem C_rest_after1 (f : Fmt) (bm : Nat) (s : Spo) (hf : f.Ok) (ht : s.t0 = tieN f s.won s.games) (hw : (0 ≤ s.won.1 ∧ s.won.1 ≤ 3) ∧ 0 ≤ s.won.2 ∧ s.won.2 ≤ 3) (hg : (0 ≤ s.games.1 ∧ s.games.1 ≤ 1000) ∧ 0 ≤ s.games.2 ∧ s.games.2 ≤ 1000) (hn : 0 ≤ s.num ∧ s.num ≤ 1000) (w : World) : C0 Tryz.prog 114 [restv f bm, s.val, .int .i64 1] w (.tuple #[(afterS f s 1).val, .bool (!endS f s.won s.games 1), .bool (overS f s.won s.games 1)]) := by
 have hsm := same_is (f := f) (won := s.won) (g := s.games) (side := 1) (.inr rfl) ht
 rw [own1] at hsm
 refine ⟨en Tryz.func114 Tryz.ntmps114 (St.init w) (h := fun F => ?_)⟩
 refine sr ?_
 refine bxA (h := fun b0 => ?_)
 refine bxA (h := fun b1 => ?_)
 refine al (h := fun b2 => ?_)
 iterate 2 refine ww ?_
 refine nr ?_
 iterate 6 refine ww ?_
 refine nr ?_
 iterate 3 refine ww ?_
 refine nr ?_
 refine ww ?_
 first | refine stA (h := ?_) | refine stEA (h := ?_)
 refine nq ?_
 refine sq ?_
 refine sr ?_
 iterate 2 refine ww ?_
 refine nq ?_
 refine czz (fun h0 => ?_) fun h0 => ?_
 ·
  obtain h1 : (1 : Int) = 1 := of_decide_eq_true h0
  refine rg ?_
  iterate 7 refine ww ?_
  refine nr ?_
  iterate 5 refine ww ?_
  first | refine st (h := ?_) | refine stE (h := ?_)
  refine nq ?_
  refine ct (X := Unit) (fun _ => True) (fun _ => [(2, .int .i64 1), (3, .pointer (some ⟨b0, 0, none⟩)), (4, .pointer (some ⟨b1, 0, none⟩)), (6, .pointer (some ⟨b2, 0, none⟩)), (7, .bool (!endS f s.won s.games 1)), (8, .bool false), (9, .pointer (some ⟨b2, 3, none⟩)), (10, .pointer (some ⟨b2, 2, none⟩)), (11, .pointer (some ⟨b2, 1, none⟩))]) (fun _ => [.blk b2 156 [.int .i64 s.won.1, .int .i64 s.won.2, .int .i64 (addV s.games 1).1, .int .i64 (addV s.games 1).2, .int .i64 s.num, .int .i64 s.t0, .int .i64 s.t1], .blk b0 153 (restc f bm), .blk b1 156 s.cells]) (h1 := ?_) (h2 := ?_)
  ·
   refine rgD0 (by kernel_rfl) (h := ?_)
   refine tw 0 ?_
   refine tk 1 (hy := ixA) (h := ?_)
   refine tw 2 ?_
   refine tw 3 ?_
   refine tw 4 ?_
   refine brH (g := 34) (by exact rfl) (fun hb1 => ?_) (fun hb1 => ?_)
   ·
    have kA : decide (s.t0 = 0) = true := hb1
    refine tw 5 ?_
    refine tw 6 ?_
    refine tw 7 ?_
    refine tw 8 ?_
    refine tw 9 ?_
    refine tw 10 ?_
    refine tw 11 ?_
    refine tw 12 ?_
    refine brH (g := 42) (by exact rfl) (fun hb2 => ?_) (fun hb2 => ?_)
    ·
     have kB : decide (s.games.2 + 1 < f.games) = true := hb2
     refine tkS 13 (h := ?_)
     refine tkS 14 (h := ?_)
     refine tkS 15 (h := ?_)
     refine tkS 16 (h := ?_)
     refine tkS 17 (h := ?_)
     refine tkS 18 (h := ?_)
     refine tkS 19 (h := ?_)
     refine tkS 20 (h := ?_)
     refine tw 21 ?_
     refine tw 22 ?_
     refine tw 23 ?_
     refine dn (h := ?_)
     exact ctn () trivial (by repeat (first | exact trivial | refine ⟨rfl, ?_⟩ | refine ⟨by first | (rw [← hsm, kA, kB]; rfl) | (rw [← hsm, kA]; rfl), ?_⟩)) slz_
    ·
     have kB : decide (s.games.2 + 1 < f.games) = false := hb2
     refine tw 13 ?_
     refine tw 14 ?_
     refine tw 15 ?_
     refine tw 16 ?_
     refine tw 17 ?_
     refine tw 18 ?_
     refine tw 19 ?_
     refine tw 20 ?_
     refine tw 21 ?_
     refine tw 22 ?_
     refine tw 23 ?_
     refine dn (h := ?_)
     exact ctn () trivial (by repeat (first | exact trivial | refine ⟨rfl, ?_⟩ | refine ⟨by first | (rw [← hsm, kA, kB]; rfl) | (rw [← hsm, kA]; rfl), ?_⟩)) slz_
   ·
    have kA : decide (s.t0 = 0) = false := hb1
    refine tkS 5 (h := ?_)
    refine tkS 6 (h := ?_)
    refine tkS 7 (h := ?_)
    refine tkS 8 (h := ?_)
    refine tkS 9 (h := ?_)
    refine tkS 10 (h := ?_)
    refine tkS 11 (h := ?_)
    refine tkS 12 (h := ?_)
    refine tkS 13 (h := ?_)
    refine tkS 14 (h := ?_)
    refine tkS 15 (h := ?_)
    refine tkS 16 (h := ?_)
    refine tkS 17 (h := ?_)
    refine tkS 18 (h := ?_)
    refine tkS 19 (h := ?_)
    refine tkS 20 (h := ?_)
    refine tkS 21 (h := ?_)
    refine tw 22 ?_
    refine tw 23 ?_
    refine dn (h := ?_)
    exact ctn () trivial (by repeat (first | exact trivial | refine ⟨rfl, ?_⟩ | refine ⟨by first | (rw [← hsm, kA, kB]; rfl) | (rw [← hsm, kA]; rfl), ?_⟩)) slz_
  rintro ⟨⟩ -
  refine sq ?_
  refine sr ?_
  iterate 2 refine ww ?_
  refine nq ?_
  refine czz (fun h3 => ?_) fun h3 => ?_
  ·
   have hE : endS f s.won s.games 1 = true := by rw [Bool.not_not] at h3; exact h3
   have hw1 : wonS f s.won s.games 1 = addV s.won 1 := by rw [wonS, hE]; rfl
   have hg1 : gamS f s.won s.games 1 = (0, 0) := by rw [gamS, hE]; rfl
   have ho1 : overS f s.won s.games 1 = (true && decide ((ownP 1 (addV s.won 1)).1 = f.sets)) := by rw [overS, hE]
   refine sr ?_
   iterate 2 refine ww ?_
   first | refine stA (h := ?_) | refine stEA (h := ?_)
   refine nr ?_
   iterate 5 refine ww ?_
   first | refine st (h := ?_) | refine stE (h := ?_)
   refine nq ?_
   refine rgD0 (by kernel_rfl) (h := ?_)
   refine tw 0 ?_
   refine tw 1 ?_
   refine tw 2 ?_
   refine tw 3 ?_
   refine tw 4 ?_
   refine tw 5 ?_
   refine tw 6 ?_
   refine tw 7 ?_
   refine dn (h := ?_)
   refine q_seq ?_
   refine sr ?_
   iterate 4 refine ww ?_
   first | refine st (h := ?_) | refine stE (h := ?_)
   refine nq ?_
   refine sq ?_
   refine rgD (by kernel_rfl) [(11, .blk b2 156 _), (1000000, .blk b0 153 (restc f bm)), (1000000, .blk b1 156 s.cells)] (by repeat (first | exact HS.nil | (apply HS.keep; (repeat (first | exact At.here | apply At.there))) | (apply HS.ro; (repeat (first | exact Rds.ro | exact Rds.own | apply Rds.there))))) (h := ?_)
   refine tw 0 ?_
   refine tw 1 ?_
   refine tw 2 ?_
   refine tw 3 ?_
   refine tw 4 ?_
   refine tw 6 ?_
   refine tk 7 (hy := ixA) (h := ?_)
   refine tw 8 ?_
   refine one 5 (h := ?_)
   refine cl0 (hc := fun w hS => C_rest_tie f bm (wonS f s.won s.games 1) (gamS f s.won s.games 1) hf w) (hargs := by rw [hw1, hg1]; repeat (first | exact Evs.nil | (apply Evs.cons; exact rfl))) (h := ?_)
   refine nx (h := ?_)
   refine tk 9 (hy := bdA) (h := ?_)
   refine tw 10 ?_
   refine one 11 (h := ?_)
   first | refine stA (h := ?_) | refine stEA (h := ?_)
   refine nx (h := ?_)
   refine dn (h := ?_)
   refine q_seq ?_
   refine sr ?_
   iterate 3 refine ww ?_
   first | refine stA (h := ?_) | refine stEA (h := ?_)
   iterate 2 refine ww ?_
   refine nq ?_
   refine rtn ?_
   refine q_ret (hR := ?_)
   refine fun w hS => ⟨?_, hS.sub slz_⟩
   unfold afterS
   rw [hw1, hg1, ho1, hE]
   rfl
  ·
   have hE : endS f s.won s.games 1 = false := by rw [Bool.not_not] at h3; exact h3
   have hw1 : wonS f s.won s.games 1 = s.won := by rw [wonS, hE]; rfl
   have hg1 : gamS f s.won s.games 1 = addV s.games 1 := by rw [gamS, hE]; rfl
   have ho1 : overS f s.won s.games 1 = false := by rw [overS, hE]; rfl
   refine skp ?_
   refine q_seq ?_
   refine sr ?_
   iterate 4 refine ww ?_
   first | refine st (h := ?_) | refine stE (h := ?_)
   refine nq ?_
   refine sq ?_
   refine rgD (by kernel_rfl) [(11, .blk b2 156 _), (1000000, .blk b0 153 (restc f bm)), (1000000, .blk b1 156 s.cells)] (by repeat (first | exact HS.nil | (apply HS.keep; (repeat (first | exact At.here | apply At.there))) | (apply HS.ro; (repeat (first | exact Rds.ro | exact Rds.own | apply Rds.there))))) (h := ?_)
   refine tw 0 ?_
   refine tw 1 ?_
   refine tw 2 ?_
   refine tw 3 ?_
   refine tw 4 ?_
   refine tw 6 ?_
   refine tk 7 (hy := ixA) (h := ?_)
   refine tw 8 ?_
   refine one 5 (h := ?_)
   refine cl0 (hc := fun w hS => C_rest_tie f bm (wonS f s.won s.games 1) (gamS f s.won s.games 1) hf w) (hargs := by rw [hw1, hg1]; repeat (first | exact Evs.nil | (apply Evs.cons; exact rfl))) (h := ?_)
   refine nx (h := ?_)
   refine tk 9 (hy := bdA) (h := ?_)
   refine tw 10 ?_
   refine one 11 (h := ?_)
   first | refine stA (h := ?_) | refine stEA (h := ?_)
   refine nx (h := ?_)
   refine dn (h := ?_)
   refine q_seq ?_
   refine sr ?_
   iterate 3 refine ww ?_
   first | refine stA (h := ?_) | refine stEA (h := ?_)
   iterate 2 refine ww ?_
   refine nq ?_
   refine rtn ?_
   refine q_ret (hR := ?_)
   refine fun w hS => ⟨?_, hS.sub slz_⟩
   unfold afterS
   rw [hw1, hg1, ho1, hE]
   rfl
 ·
  exfalso
  exact absurd rfl (of_decide_eq_false h0 : ¬ (1 : Int) = 1)
theorem C_balls_begun (b : Brd) (A : Option Addr) (n c : Nat) (w : World) : C0 Tryz.prog 73 [b.val A n c] w (.tuple #[.bool ((!isZ b.g || !isZ b.p) || decide (0 < (n : Int))), .bool (!isZ b.g || !isZ b.p)]) := by
 refine ⟨en Tryz.func73 Tryz.ntmps73 (St.init w) (h := fun F => ?_)⟩
 refine sr ?_
 refine bxA (h := fun b0 => ?_)
 iterate 2 refine ww ?_
 refine WL.cut (by repeat (first | exact Cut.nil | apply Cut.hit | apply Cut.miss (by exact rfl))) ?_
 refine nr ?_
 iterate 3 refine ww ?_
 refine wy neqT ?_
 refine ww ?_
 apply brOr 5 8 13 (by exact rfl)
 ·
  intro hb0
  iterate 3 refine uw ?_
  refine uz ?_
  refine wy neqT ?_
  refine ww ?_
  exact mg (by repeat (first | exact trivial | refine ⟨rfl, ?_⟩ | refine ⟨by rw [hb0]; rfl, ?_⟩)) slz_
 ·
  intro hb0
  repeat (first | refine uz ?_ | refine kz ?_ | refine wz ?_)
  exact mg (by repeat (first | exact trivial | refine ⟨rfl, ?_⟩ | refine ⟨by rw [hb0]; rfl, ?_⟩)) slz_
 refine ww ?_
 refine WL.cut (by repeat (first | exact Cut.nil | apply Cut.hit | apply Cut.miss (by exact rfl))) ?_
 refine nr ?_
 iterate 2 refine ww ?_
 apply brOr 5 15 20 (by exact rfl)
 ·
  intro hb1
  iterate 4 refine uw ?_
  refine ww ?_
  exact mg (by repeat (first | exact trivial | refine ⟨rfl, ?_⟩ | refine ⟨by rw [hb1]; rfl, ?_⟩)) slz_
 ·
  intro hb1
  repeat (first | refine uz ?_ | refine kz ?_ | refine wz ?_)
  exact mg (by repeat (first | exact trivial | refine ⟨rfl, ?_⟩ | refine ⟨by rw [hb1]; rfl, ?_⟩)) slz_
 iterate 3 refine ww ?_
 refine WL.cut (by repeat (first | exact Cut.nil | apply Cut.hit | apply Cut.miss (by exact rfl))) ?_
 refine nq ?_
 refine rtn ?_
 refine q_ret (hR := ?_)
 exact fun w hS => ⟨rfl, hS.sub slz_⟩
theorem C_ref9_Begun (b : Brd) (A : Option Addr) (n c : Nat) (w : World) : C0 Tryz.prog 9 [b.val A n c] w (.bool (decide (0 < (n : Int)) || !isZ b.g || !isZ b.p)) := by
 refine ⟨en Tryz.func9 Tryz.ntmps9 (St.init w) (h := fun F => ?_)⟩
 refine sr ?_
 refine bxA (h := fun b0 => ?_)
 refine ww ?_
 refine nr ?_
 iterate 5 refine ww ?_
 apply brOr 5 7 12 (by exact rfl)
 ·
  intro hb0
  iterate 3 refine uw ?_
  refine uz ?_
  refine wy neqT ?_
  refine ww ?_
  exact mg (by repeat (first | exact trivial | refine ⟨rfl, ?_⟩ | refine ⟨by rw [hb0]; rfl, ?_⟩)) slz_
 ·
  intro hb0
  repeat (first | refine uz ?_ | refine kz ?_ | refine wz ?_)
  exact mg (by repeat (first | exact trivial | refine ⟨rfl, ?_⟩ | refine ⟨by rw [hb0]; rfl, ?_⟩)) slz_
 refine ww ?_
 apply brOr 5 13 18 (by exact rfl)
 ·
  intro hb1
  iterate 3 refine uw ?_
  refine uz ?_
  refine wy neqT ?_
  refine ww ?_
  exact mg (by repeat (first | exact trivial | refine ⟨rfl, ?_⟩ | refine ⟨by rw [hb1]; rfl, ?_⟩)) slz_
 ·
  intro hb1
  repeat (first | refine uz ?_ | refine kz ?_ | refine wz ?_)
  exact mg (by repeat (first | exact trivial | refine ⟨rfl, ?_⟩ | refine ⟨by rw [hb1]; rfl, ?_⟩)) slz_
 refine ww ?_
 refine nq ?_
 refine rtn ?_
 refine q_ret (hR := ?_)
 exact fun w hS => ⟨rfl, hS.sub slz_⟩
end Go.Proofs.YtpmmgljndceplaaGreat
