/- The cameras that are wrong about each truth, plainly; walks of Blame. -/
import Derived.Test.YtdphljhhcaoleaaLI
namespace Go.Proofs.Ytdphljhhcaoleaa
open Go Go.RowKit

def rngI (n : Nat) : List Int := (List.range n).map Int.ofNat
theorem rngI_succ (n : Nat) : rngI (n + 1) = rngI n ++ [(n : Int)] := by simp [rngI, List.range_succ]
/-- Is camera i wrong about a centre? -/
def missAt (ss : List Strip) (x y : Int) (i : Int) : Bool := match ss[i.toNat]? with
  | some s => miss s x y
  | none => false
theorem wrongTo_filter (ss : List Strip) (x y : Int) : ∀ k, k ≤ ss.length → wrongTo ss x y k = (rngI k).filter (missAt ss x y)
  | 0, _ => rfl
  | k + 1, h => by
    have hk : ss[k]? = some ss[k] := List.getElem?_eq_getElem (by omega)
    rw [wrongTo_succ hk, rngI_succ, List.filter_append, ← wrongTo_filter ss x y k (by omega)]
    have : missAt ss x y (k : Int) = miss ss[k] x y := by simp [missAt, hk]
    cases hm : miss ss[k] x y <;> simp [this, hm]
theorem wrongs_filter (v : View) (x y : Int) : wrongs v x y = (rngI v.strips.length).filter (missAt v.strips x y) := wrongTo_filter _ _ _ _ (Nat.le_refl _)
def isW (v : View) (p : Int × Int) (i : Int) : Bool := (wrongs v p.1 p.2).any fun y => decide (i = y)
theorem isW_mem {v : View} {p : Int × Int} {i : Int} : isW v p i = true ↔ i ∈ wrongs v p.1 p.2 := by
  simp [isW, List.any_eq_true]
theorem isW_miss {v : View} {p : Int × Int} {i : Int} (h : i ∈ rngI v.strips.length) : isW v p i = missAt v.strips p.1 p.2 i := by
  rw [Bool.eq_iff_iff, isW_mem, wrongs_filter, List.mem_filter]
  exact ⟨fun h => h.2, fun h' => ⟨h, h'⟩⟩
/-- The cameras that are wrong about all of some centres. -/
def allW (v : View) (l : List (Int × Int)) (i : Int) : Bool := l.all fun p => isW v p i
def blame (v : View) : List Int := (rngI v.strips.length).filter (allW v (trus v))
/-- As the program comes to it. -/
def blmTo (v : View) (l : List (Int × Int)) (k : Nat) : List Int := (rngI v.strips.length).filter (allW v (l.take (k + 1)))
theorem blmTo_zero {v : View} {l r : List (Int × Int)} {p : Int × Int} (h : l = p :: r) : wrongs v p.1 p.2 = blmTo v l 0 := by
  rw [wrongs_filter]
  refine List.filter_congr fun i hi => ?_
  rw [← isW_miss hi, h]; simp [allW]
theorem blmTo_succ {v : View} {l : List (Int × Int)} {k : Nat} {p : Int × Int} (h : l[k + 1]? = some p) : (blmTo v l k).filter (fun x => !!((wrongs v p.1 p.2).any fun y => decide (x = y))) = blmTo v l (k + 1) := by
  rw [blmTo, blmTo, List.filter_filter]
  refine List.filter_congr fun i hi => ?_
  rw [allW, allW, List.take_add_one (i := k + 1), h, List.all_append]
  simp [isW, Bool.and_comm]
theorem blmTo_end {v : View} {l : List (Int × Int)} {k : Nat} (h : l.length ≤ k + 1) : blmTo v l k = (rngI v.strips.length).filter (allW v l) := by
  rw [blmTo, List.take_of_length_le h]
theorem rngI_len (n : Nat) : (rngI n).length = n := by simp [rngI]
theorem blmTo_len (v : View) (l : List (Int × Int)) (k : Nat) : (blmTo v l k).length ≤ v.strips.length := by
  have := List.length_filter_le (allW v (l.take (k + 1))) (rngI v.strips.length)
  rwa [rngI_len] at this
theorem wrongs_len' (v : View) (x y : Int) : (wrongs v x y).length ≤ v.strips.length := wrongTo_len _ _ _ _
def blameL (v : View) : List Int := bif decide (knownE v = 0) then blame v else []
/-- As the reference comes to it. -/
def rbTo (v : View) (k : Nat) : List Int := (rngI k).filter (allW v (trus v))
theorem rbTo_succ (v : View) (k : Nat) : rbTo v (k + 1) = bif allW v (trus v) (k : Int) then rbTo v k ++ [(k : Int)] else rbTo v k := by
  rw [rbTo, rbTo, rngI_succ, List.filter_append]
  cases h : allW v (trus v) (k : Int) <;> simp [h]
theorem rbTo_len (v : View) (k : Nat) : (rbTo v k).length ≤ k := by
  have := List.length_filter_le (allW v (trus v)) (rngI k)
  rwa [rngI_len] at this
def alwTo (v : View) (i : Int) (k : Nat) : Bool := allW v ((trus v).take k) i
theorem alwTo_succ {v : View} {i : Int} {k : Nat} {p : Int × Int} (h : (trus v)[k]? = some p) : alwTo v i (k + 1) = (alwTo v i k && isW v p i) := by
  rw [alwTo, alwTo, allW, allW, List.take_add_one, h, List.all_append]; simp
theorem alwTo_end {v : View} {i : Int} {k : Nat} (h : k = (trus v).length) : alwTo v i k = allW v (trus v) i := by rw [alwTo, h, List.take_length]
end Go.Proofs.Ytdphljhhcaoleaa
