/- The plain model of score: the table of a set. -/
import Derived.Test.YtacaojifempclaaS5
namespace Go.Proofs.Ytacaojifempclaa
open Go Go.RowKit

/-- How many orders lead to some games, and whether the set is over then. -/
abbrev Stn := Int × Bool
abbrev Tb := List (Pr × Stn)
def tget : Tb → Pr → Option Stn
  | [], _ => none
  | e :: t, p => if p = e.1 then some e.2 else tget t p
def tput : Tb → Pr → Stn → Tb
  | [], p, v => [(p, v)]
  | e :: t, p, v => if p = e.1 then (p, v) :: t else e :: tput t p v
abbrev encS (v : Stn) : Value := .agg #[.int .i64 v.1, .bool v.2]
abbrev keyP (p : Pr) : List Fl := [.i p.1, .i p.2]
def encT (t : Tb) : List (List Fl × Value) := t.map fun e => (keyP e.1, encS e.2)
theorem keyP_inj {p q : Pr} : keyP p = keyP q ↔ p = q := by
  simp only [List.cons.injEq, Fl.i.injEq, and_true]
  exact ⟨fun ⟨a, b⟩ => Prod.ext a b, fun h => by rw [h]; exact ⟨rfl, rfl⟩⟩
theorem encT_shape (t : Tb) : ∀ p ∈ encT t, shapeOf p.1 = [false, false] := fun p hp => by
  obtain ⟨e, _, rfl⟩ := List.mem_map.1 hp
  rfl
theorem lkp_enc : ∀ (t : Tb) (p : Pr), lkp (encT t) (keyP p) = (tget t p).map encS
  | [], p => rfl
  | e :: t, p => by
    have ih := lkp_enc t p
    by_cases h : p = e.1
    · rw [tget, if_pos h]
      simp [encT, lkp, h]
    · rw [tget, if_neg h, ← ih]
      have : ¬ keyP p = keyP e.1 := fun h' => h (keyP_inj.1 h')
      simp only [encT, lkp, List.map_cons, List.find?_cons, decide_eq_false this]
theorem upd_enc : ∀ (t : Tb) (p : Pr) (v : Stn), updM (encT t) (keyP p) (encS v) = encT (tput t p v)
  | [], p, v => rfl
  | e :: t, p, v => by
    have ih := upd_enc t p v
    by_cases h : p = e.1
    · rw [tput, if_pos h]
      simp [encT, updM, h]
    · rw [tput, if_neg h]
      have : ¬ keyP p = keyP e.1 := fun h' => h (keyP_inj.1 h')
      simp only [encT, List.map_cons, updM, if_neg this] at ih ⊢
      rw [ih]
def tat (t : Tb) (p : Pr) : Stn := (tget t p).getD (0, false)
theorem getD_enc (o : Option Stn) : (o.map encS).getD (.agg #[.int .i64 0, .bool false]) = encS (o.getD (0, false)) := by cases o <;> rfl
theorem getD_tat (t : Tb) (p : Pr) : ((tget t p).map encS).getD (.agg #[.int .i64 0, .bool false]) = encS (tat t p) := getD_enc _
theorem isSome_enc (o : Option Stn) : (o.map encS).isSome = o.isSome := by cases o <;> rfl
/-- Numbers of orders are counted up to a bound. -/
def tOk (t : Tb) : Prop := ∀ e ∈ t, 0 ≤ e.2.1 ∧ e.2.1 ≤ 1000000000001
theorem tOk_at {t : Tb} (h : tOk t) (p : Pr) : 0 ≤ (tat t p).1 ∧ (tat t p).1 ≤ 1000000000001 := by
  unfold tat
  induction t with
  | nil => simp [tget]
  | cons e t ih =>
    rw [tget]
    by_cases hp : p = e.1
    · rw [if_pos hp]; exact h e (by simp)
    · rw [if_neg hp]; exact ih fun x hx => h x (by simp [hx])
theorem tOk_put {t : Tb} (h : tOk t) (p : Pr) (v : Stn) (hv : 0 ≤ v.1 ∧ v.1 ≤ 1000000000001) : tOk (tput t p v) := by
  induction t with
  | nil => intro e he; simp only [tput, List.mem_singleton] at he; subst he; exact hv
  | cons e t ih =>
    intro x hx
    rw [tput] at hx
    split at hx
    · rcases List.mem_cons.1 hx with rfl | hx
      · exact hv
      · exact h x (by simp [hx])
    · rcases List.mem_cons.1 hx with rfl | hx
      · exact h _ (by simp)
      · exact ih (fun x hx => h x (by simp [hx])) x hx
def newS (f : Fmt) (s p : Pr) (now : Stn) (t : Tb) (side : Int) : Stn := (min 1000000000001 ((tat t (addV p side)).1 + now.1), brksV s p || decide (0 ≤ leadsV (addV p side) f.games 2))
def sideTo (f : Fmt) (s p : Pr) (now : Stn) (t : Tb) : Nat → Tb
  | 0 => t
  | k + 1 => tput (sideTo f s p now t k) (addV p k) (newS f s p now (sideTo f s p now t k) k)
def pairT (f : Fmt) (s p : Pr) (t : Tb) : Tb := bif !(tget t p).isSome || (tat t p).2 then t else sideTo f s p (tat t p) t 2
def loA (all : Nat) : Int := max 0 ((all : Int) - 40 - 1)
/-- The pairs of a sum, from the least number of games on. -/
def rowTo (f : Fmt) (s : Pr) (all : Nat) (t : Tb) : Nat → Tb
  | 0 => t
  | j + 1 => pairT f s (loA all + j, (all : Int) - (loA all + j)) (rowTo f s all t j)
def cntA (all : Nat) : Nat := (min (all : Int) 41 - loA all + 1).toNat
def tblTo (f : Fmt) (s : Pr) : Nat → Tb
  | 0 => [((0, 0), (1, false))]
  | k + 1 => rowTo f s k (tblTo f s k) (cntA k)
def tableV (f : Fmt) (s : Pr) : Tb := tblTo f s 82
theorem tOk_side {f : Fmt} {s p : Pr} {now : Stn} {t : Tb} (h : tOk t) (hn : 0 ≤ now.1 ∧ now.1 ≤ 1000000000001) : ∀ k, tOk (sideTo f s p now t k)
  | 0 => h
  | k + 1 => by
    have ih := tOk_side (f := f) (s := s) (p := p) h hn k
    have ha := tOk_at ih (addV p k)
    exact tOk_put ih _ _ (by simp only [newS]; omega)
theorem tOk_pair {f : Fmt} {s p : Pr} {t : Tb} (h : tOk t) : tOk (pairT f s p t) := by
  unfold pairT
  cases !(tget t p).isSome || (tat t p).2
  · exact tOk_side h (tOk_at h p) 2
  · exact h
theorem tOk_row {f : Fmt} {s : Pr} {all : Nat} {t : Tb} (h : tOk t) : ∀ j, tOk (rowTo f s all t j)
  | 0 => h
  | j + 1 => tOk_pair (tOk_row h j)
theorem tOk_tbl (f : Fmt) (s : Pr) : ∀ k, tOk (tblTo f s k)
  | 0 => fun e he => by simp only [tblTo, List.mem_singleton] at he; subst he; decide
  | k + 1 => tOk_row (tOk_tbl f s k) _
structure TZ where
  (k : Nat) (es : Array MapEntry) (c : Nat)
theorem minc (a : Int) : min 1000000000001 a = min (1000000000001 : Int) a := rfl
end Go.Proofs.Ytacaojifempclaa
