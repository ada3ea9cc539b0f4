/- Plain laws on calls: what touches less or more; no program is named here. -/
import Derived.Test.YtdphljhhcaoleaaLM
namespace Go.Proofs.Ytdphljhhcaoleaa
open Go

theorem sq_mono {a b : Int} (ha : 0 ≤ a) (h : a ≤ b) : a * a ≤ b * b := Int.mul_le_mul h h ha (by omega)
theorem bey_nonneg (n lo hi : Int) : 0 ≤ bey n lo hi := by unfold bey; omega
/-- A nearer mark with the same half axes touches too. -/
theorem tch_near {m : Mark} {b b' : Box} (hx : 0 ≤ m.hx) (hy : 0 ≤ m.hy) (h1 : bey m.x b'.l b'.r ≤ bey m.x b.l b.r) (h2 : bey m.y b'.b b'.t ≤ bey m.y b.b b.t) (h : tch m b = true) : tch m b' = true := by
  simp only [tch, decide_eq_true_eq] at *
  have e1 := sq_mono (Int.mul_nonneg (bey_nonneg m.x b'.l b'.r) hy) (Int.mul_le_mul_of_nonneg_right h1 hy)
  have e2 := sq_mono (Int.mul_nonneg (bey_nonneg m.y b'.b b'.t) hx) (Int.mul_le_mul_of_nonneg_right h2 hx)
  omega
theorem any_imp {α : Type} {l : List α} {f g : α → Bool} (h : ∀ p ∈ l, f p = true → g p = true) (hf : l.any f = true) : l.any g = true := by
  obtain ⟨p, hp, h1⟩ := List.any_eq_true.1 hf
  exact List.any_eq_true.2 ⟨p, hp, h p hp h1⟩

def bigger (b o : Box) : Box := ⟨min b.l o.l, max b.r o.r, min b.b o.b, max b.t o.t⟩
theorem bigger_ok {b o : Box} (h : b.Ok) (h' : o.Ok) : (bigger b o).Ok := by
  obtain ⟨a1, a2, a3, a4, a5, a6⟩ := h
  obtain ⟨b1, b2, b3, b4, b5, b6⟩ := h'
  constructor <;> simp only [bigger] <;> omega
theorem ok_bbad {b : Box} (h : b.Ok) : bbad b = false := by
  obtain ⟨a1, a2, a3, a4, a5, a6⟩ := h
  simp only [bbad, Bool.or_eq_false_iff, Bool.not_eq_false', isp_iff]
  omega
theorem tch_bigger {m : Mark} {b o : Box} (hm : m.Ok) (h : tch m b = true) : tch m (bigger b o) = true := by
  have := hm.hx0; have := hm.hy0
  exact tch_near (b := b) (by omega) (by omega) (by simp only [bigger, bey]; omega) (by simp only [bigger, bey]; omega) h

/-- What is asked of the calls of one view for two boxes, one in the other. -/
theorem call_bigger {v : View} {b o : Box} (hv : v.Near) : (callV v (bigger b o) = 0 ↔ callV v b = 0) ∧ (callV v b = 1 → callV v (bigger b o) = 1) ∧ (callV v (bigger b o) = 2 → callV v b = 2) := by
  have i1 : ((trus v).any fun p => !tch (smallM v p) (bigger b o)) = true → ((trus v).any fun p => !tch (smallM v p) b) = true := any_imp fun p hp h => by
    cases ht : tch (smallM v p) b
    · rfl
    · rw [tch_bigger (small_ok hv hp) ht] at h; cases h
  have i2 : ((trus v).any fun p => tch (largeM v p) b) = true → ((trus v).any fun p => tch (largeM v p) (bigger b o)) = true := any_imp fun p hp h => tch_bigger (large_ok hv hp) h
  unfold callV
  cases none0 v <;> cases h1 : (trus v).any (fun p => !tch (smallM v p) (bigger b o)) <;> cases h2 : (trus v).any (fun p => !tch (smallM v p) b) <;> cases h3 : (trus v).any (fun p => tch (largeM v p) b) <;> cases h4 : (trus v).any (fun p => tch (largeM v p) (bigger b o)) <;> simp_all
end Go.Proofs.Ytdphljhhcaoleaa
