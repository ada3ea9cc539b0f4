/- Plain laws for the theorem of the cameras. -/
import Derived.Test.YtdphljhhcaoleaaLL
import Derived.Test.YtdphljhhcaoleaaLQ
namespace Go.Proofs.Ytdphljhhcaoleaa
open Go Go.RowKit

theorem fewTo_le {v : View} : ∀ {k j : Nat}, j < k → fewTo v k ≤ ((wrongs v (ctr v j).1 (ctr v j).2).length : Int)
  | 0, j, h => by omega
  | k + 1, j, h => by
    rw [fewTo]
    by_cases e : j = k
    · subst e; omega
    · have := fewTo_le (v := v) (k := k) (j := j) (by omega); omega
theorem fewTo_some (v : View) : ∀ k : Nat, fewTo v k = v.strips.length ∨ ∃ j, j < k ∧ fewTo v k = ((wrongs v (ctr v j).1 (ctr v j).2).length : Int)
  | 0 => .inl rfl
  | k + 1 => by
    rw [fewTo]
    have ih := fewTo_some v k
    by_cases hle : fewTo v k ≤ ((wrongs v (ctr v k).1 (ctr v k).2).length : Int)
    · rw [Int.min_eq_left hle]
      rcases ih with h | ⟨j, hj, h⟩
      · exact .inl h
      · exact .inr ⟨j, by omega, h⟩
    · rw [Int.min_eq_right (by omega)]
      exact .inr ⟨k, by omega, rfl⟩
theorem tru_mem {v : View} {j : Nat} (hj : j < v.m * v.m) (h : ((wrongs v (ctr v j).1 (ctr v j).2).length : Int) ≤ v.wr) : ctr v j ∈ trus v :=
  truTo_sub rfl (by simp [tru, h]) hj
theorem few_iff {v : View} (hvb : vbad v = false) : knownE v = 0 ↔ fewV v ≤ v.wr := by
  have hm1 : 0 < v.m * v.m := by have : 0 < v.m := by unfold View.m; omega
                                 exact Nat.mul_pos this this
  constructor
  · intro h
    have hne : trus v ≠ [] := fun e => by simp [knownE, hvb, none0, e] at h
    obtain ⟨p, hp⟩ := List.exists_mem_of_ne_nil _ hne
    obtain ⟨j, hj, rfl, ht⟩ := truTo_mem hp
    have h1 := fewTo_le (v := v) hj
    have h2 : ((wrongs v (ctr v j).1 (ctr v j).2).length : Int) ≤ v.wr := by simpa [tru] using ht
    exact Int.le_trans h1 h2
  · intro h
    have hne : trus v ≠ [] := by
      rcases fewTo_some v (v.m * v.m) with e | ⟨j, hj, e⟩
      · have hl := wrongs_len' v (ctr v 0).1 (ctr v 0).2
        have : ctr v 0 ∈ trus v := tru_mem hm1 (by unfold fewV at h; omega)
        exact List.ne_nil_of_mem this
      · exact List.ne_nil_of_mem (tru_mem hj (by unfold fewV at h; omega))
    simp [knownE, hvb, none0, hne]
theorem knownE_cases {v : View} (hvb : vbad v = false) : knownE v = 0 ∨ knownE v = 3 := by
  simp only [knownE, hvb, cond_false]
  cases none0 v <;> simp
theorem foldMin_le {g : Int × Int → Int} {a : Int} {l : List (Int × Int)} : ∀ {k j : Nat} {p : Int × Int}, j < k → l[j]? = some p → foldTo min g a l k ≤ g p
  | 0, j, p, h, _ => by omega
  | k + 1, j, p, h, hp => by
    rw [foldTo]
    by_cases e : j = k
    · subst e; rw [hp]; simp only; omega
    · have ih := foldMin_le (g := g) (a := a) (l := l) (k := k) (j := j) (by omega) hp
      split
      · omega
      · exact ih
theorem foldMax_le {g : Int × Int → Int} {a : Int} {l : List (Int × Int)} : ∀ {k j : Nat} {p : Int × Int}, j < k → l[j]? = some p → g p ≤ foldTo max g a l k
  | 0, j, p, h, _ => by omega
  | k + 1, j, p, h, hp => by
    rw [foldTo]
    by_cases e : j = k
    · subst e; rw [hp]; simp only; omega
    · have ih := foldMax_le (g := g) (a := a) (l := l) (k := k) (j := j) (by omega) hp
      split
      · omega
      · exact ih
theorem ext_min {g : Int × Int → Int} {l : List (Int × Int)} {p : Int × Int} (h : p ∈ l) : ext min g l ≤ g p := by
  obtain ⟨j, hj, rfl⟩ := List.getElem_of_mem h
  cases l with
  | nil => cases h
  | cons q l => exact foldMin_le hj (List.getElem?_eq_getElem hj)
theorem ext_max {g : Int × Int → Int} {l : List (Int × Int)} {p : Int × Int} (h : p ∈ l) : g p ≤ ext max g l := by
  obtain ⟨j, hj, rfl⟩ := List.getElem_of_mem h
  cases l with
  | nil => cases h
  | cons q l => exact foldMax_le hj (List.getElem?_eq_getElem hj)
/-- What holds of the centres of a valid view at a truth. -/
structure AtT (v : View) (m : Mark) : Prop where
  ke : knownE v = 0
  we : wroE v m = 0
  wl : wroL v m = wrongs v m.x m.y
  many : ¬ (((knownL v).length : Nat) : Int) < 1
  few : ¬ (((wroL v m).length : Nat) : Int) < fewN v
  x0 : ¬ m.x < ext min (·.1) (knownL v)
  x1 : ¬ ext max (·.1) (knownL v) < m.x
  y0 : ¬ m.y < ext min (·.2) (knownL v)
  y1 : ¬ ext max (·.2) (knownL v) < m.y
  bl : ∀ i ∈ blameL v, i ∈ wroL v m
theorem chkV_0 {v : View} (h : vbad v = false) : chkV v = 0 := by simp [chkV, h]
theorem atT {v : View} {m : Mark} (hvb : vbad v = false) (h : isT v m = true) : AtT v m := by
  have hvn := vbad_near hvb
  have hmem := isT_mem hvn h
  have hisM := (isT_iff.1 h).1
  obtain ⟨j, hj, hpj, ht⟩ := truTo_mem hmem
  have hwl : wroL v m = wrongs v m.x m.y := by simp [wroL, hvb, hisM]
  have hkl : knownL v = trus v := by simp [knownL, hvb]
  have hke : knownE v = 0 := by
    have hne := List.ne_nil_of_mem hmem
    simp [knownE, hvb, none0, hne]
  refine ⟨hke, by simp [wroE, hvb, hisM], hwl, ?_, ?_, ?_, ?_, ?_, ?_, ?_⟩
  · rw [hkl]
    have := List.length_pos_of_mem hmem
    omega
  · rw [hwl, fewN, chkV_0 hvb]
    have := fewTo_le (v := v) hj
    rw [← hpj] at this
    dsimp only at this
    simp only [decide_true, Bool.not_true, cond_false, fewV]
    omega
  · rw [hkl]; have := ext_min (g := (·.1)) hmem; simp only at this; omega
  · rw [hkl]; have := ext_max (g := (·.1)) hmem; simp only at this; omega
  · rw [hkl]; have := ext_min (g := (·.2)) hmem; simp only at this; omega
  · rw [hkl]; have := ext_max (g := (·.2)) hmem; simp only at this; omega
  · intro i hi
    rw [hwl]
    simp only [blameL, hke, decide_true, cond_true, blame, List.mem_filter, allW, List.all_eq_true] at hi
    exact isW_mem.1 (hi.2 _ hmem)
theorem blameL_len {v : View} : (blameL v).length ≤ v.strips.length := by
  unfold blameL blame
  cases decide (knownE v = 0)
  · simp
  · have := List.length_filter_le (allW v (trus v)) (rngI v.strips.length); rw [rngI_len] at this; exact this
def fndTo (l : List Int) (x : Int) (k : Nat) : Bool := (l.take k).any fun y => decide (y = x)
theorem fndTo_succ {l : List Int} {x y : Int} {k : Nat} (h : l[k]? = some y) : fndTo l x (k + 1) = (fndTo l x k || decide (y = x)) := by
  rw [fndTo, fndTo, List.take_add_one, h, List.any_append]; simp
theorem fndTo_end {l : List Int} {x : Int} {k : Nat} (hk : k = l.length) (h : x ∈ l) : fndTo l x k = true := by
  rw [fndTo, hk, List.take_length]
  exact List.any_eq_true.2 ⟨x, h, by simp⟩
end Go.Proofs.Ytdphljhhcaoleaa
