/- Plain laws of the document's table of orders: what is positive in it. -/
import Derived.Test.YtacaojifempclaaUD
import Derived.Test.YtacaojifempclaaWX
namespace Go.Proofs.Ytacaojifempclaa
open Go Go.RowKit

def Did (sum a k x y side : Int) : Prop := x + y < sum ∨ (x + y = sum ∧ (x < a ∨ (x = a ∧ side < k)))
def posT (f : Fmt) (s : Pr) (sum a k i j : Int) : Prop := (i = 0 ∧ j = 0) ∨ (OpenP f s (i - 1) j ∧ EndP f s (i - 1) j 0 = false ∧ Did sum a k (i - 1) j 0) ∨ (OpenP f s i (j - 1) ∧ EndP f s i (j - 1) 1 = false ∧ Did sum a k i (j - 1) 1)
def posU (f : Fmt) (s : Pr) (sum a k i j : Int) : Prop := (OpenP f s (i - 1) j ∧ EndP f s (i - 1) j 0 = true ∧ Did sum a k (i - 1) j 0) ∨ (OpenP f s i (j - 1) ∧ EndP f s i (j - 1) 1 = true ∧ Did sum a k i (j - 1) 1)
def MW : Int := 1000000000001
structure OrdI (f : Fmt) (s : Pr) (sum a k : Int) (T U : List MR) : Prop where
  t : ∀ i j : Nat, i < 45 → j < 45 → (0 ≤ gv T i j ∧ gv T i j ≤ MW) ∧ (0 < gv T i j ↔ posT f s sum a k i j)
  u : ∀ i j : Nat, i < 45 → j < 45 → (0 ≤ gv U i j ∧ gv U i j ≤ MW) ∧ (0 < gv U i j ↔ posU f s sum a k i j)
section
variable {f : Fmt} {s : Pr}
theorem open_of_prev (h : TieOk f s) {a b : Int} (ho : OpenP f s (a - 1) b) (he : EndP f s (a - 1) b 0 = false) : OpenP f s a b := by
  have := open_next h ho he
  rwa [Int.sub_add_cancel] at this
theorem open_of_prev' (h : TieOk f s) {a b : Int} (ho : OpenP f s a (b - 1)) (he : EndP f s a (b - 1) 1 = false) : OpenP f s a b := by
  have := open_next' h ho he
  rwa [Int.sub_add_cancel] at this
theorem pos_open (h : TieOk f s) {sum a k x y : Int} (hxy : x + y ≤ sum) : posT f s sum a k x y ↔ OpenP f s x y := by
  constructor
  · rintro (⟨rfl, rfl⟩ | ⟨h1, h2, _⟩ | ⟨h1, h2, _⟩)
    · exact open0 h
    · exact open_of_prev h h1 h2
    · exact open_of_prev' h h1 h2
  · intro ho
    rcases open_end h ho with h0 | ⟨h1, h2⟩ | ⟨_, h2, h3⟩
    · exact .inl h0
    · exact .inr (.inl ⟨h1, h2, .inl (by omega)⟩)
    · exact .inr (.inr ⟨h2, h3, .inl (by omega)⟩)
/-- What has been done may be told in another way. -/
theorem OrdI.weak {sum a k sum' a' k' : Int} {T U : List MR} (h : OrdI f s sum a k T U) (hd : ∀ x y side : Int, OpenP f s x y → (0 ≤ x ∧ x ≤ 44 ∧ 0 ≤ y ∧ y ≤ 44) → side = 0 ∨ side = 1 → (side = 0 → x ≤ 43) → (side = 1 → y ≤ 43) → (Did sum a k x y side ↔ Did sum' a' k' x y side)) : OrdI f s sum' a' k' T U := by
  refine ⟨fun i j hi hj => ⟨(h.t i j hi hj).1, (h.t i j hi hj).2.trans ?_⟩, fun i j hi hj => ⟨(h.u i j hi hj).1, (h.u i j hi hj).2.trans ?_⟩⟩
  · refine or_congr Iff.rfl (or_congr (and_congr_right fun h1 => and_congr_right fun _ => ?_) (and_congr_right fun h1 => and_congr_right fun _ => ?_))
    · have := h1; unfold OpenP at this; exact hd _ _ _ h1 (by omega) (.inl rfl) (by omega) (by omega)
    · have := h1; unfold OpenP at this; exact hd _ _ _ h1 (by omega) (.inr rfl) (by omega) (by omega)
  · refine or_congr (and_congr_right fun h1 => and_congr_right fun _ => ?_) (and_congr_right fun h1 => and_congr_right fun _ => ?_)
    · have := h1; unfold OpenP at this; exact hd _ _ _ h1 (by omega) (.inl rfl) (by omega) (by omega)
    · have := h1; unfold OpenP at this; exact hd _ _ _ h1 (by omega) (.inr rfl) (by omega) (by omega)
theorem ord_pair {sum a k : Int} {T U : List MR} (h : OrdI f s sum a k T U) (hk : 2 ≤ k ∨ ¬ OpenP f s a (sum - a)) (hk0 : 0 ≤ k) : OrdI f s sum (a + 1) 0 T U :=
  h.weak fun x y side ho hb hs _ _ => by
    rcases hk with hk | hk
    · unfold Did; omega
    · by_cases e : x = a ∧ y = sum - a
      · exact absurd (by rw [← e.1, ← show y = sum - x by omega]; exact ho) hk
      · unfold Did; omega
theorem ord_out {sum a k : Int} {T U : List MR} (h : OrdI f s sum a k T U) (hk : (k = 0 ∧ 44 ≤ a) ∨ (k = 1 ∧ 44 ≤ sum - a)) : OrdI f s sum a (k + 1) T U :=
  h.weak fun x y side ho hb hs h0 h1 => by unfold Did; omega
theorem ord_row {sum a : Int} {T U : List MR} (h : OrdI f s sum a 0 T U) (ha : min sum 44 < a) : OrdI f s (sum + 1) (max 0 (sum + 1 - 44)) 0 T U :=
  h.weak fun x y side ho hb hs h0 h1 => by unfold Did; omega
theorem did_next (sum a k x y side : Int) : Did sum a (k + 1) x y side ↔ Did sum a k x y side ∨ (x + y = sum ∧ x = a ∧ side = k) := by
  unfold Did; omega
def Tgt (sum a k i j : Int) : Prop := (k = 0 ∧ i = a + 1 ∧ j = sum - a) ∨ (k = 1 ∧ i = a ∧ j = sum - a + 1)
theorem next_aux {b : Bool} {sum a k i j : Int} (ho : OpenP f s a (sum - a)) :
    ((OpenP f s (i - 1) j ∧ EndP f s (i - 1) j 0 = b ∧ Did sum a (k + 1) (i - 1) j 0) ∨ (OpenP f s i (j - 1) ∧ EndP f s i (j - 1) 1 = b ∧ Did sum a (k + 1) i (j - 1) 1)) ↔
    ((OpenP f s (i - 1) j ∧ EndP f s (i - 1) j 0 = b ∧ Did sum a k (i - 1) j 0) ∨ (OpenP f s i (j - 1) ∧ EndP f s i (j - 1) 1 = b ∧ Did sum a k i (j - 1) 1)) ∨ (EndP f s a (sum - a) k = b ∧ Tgt sum a k i j) := by
  rw [did_next, did_next]
  constructor
  · rintro (⟨h1, h2, h3 | ⟨e1, e2, e3⟩⟩ | ⟨h1, h2, h3 | ⟨e1, e2, e3⟩⟩)
    · exact .inl (.inl ⟨h1, h2, h3⟩)
    · subst e3
      obtain rfl : j = sum - a := by omega
      rw [e2] at h2
      exact .inr ⟨h2, .inl ⟨rfl, by omega, rfl⟩⟩
    · exact .inl (.inr ⟨h1, h2, h3⟩)
    · subst e3 e2
      rw [show j - 1 = sum - i by omega] at h2
      exact .inr ⟨h2, .inr ⟨rfl, rfl, by omega⟩⟩
  · rintro ((⟨h1, h2, h3⟩ | ⟨h1, h2, h3⟩) | ⟨h1, (⟨rfl, rfl, rfl⟩ | ⟨rfl, rfl, rfl⟩)⟩)
    · exact .inl ⟨h1, h2, .inl h3⟩
    · exact .inr ⟨h1, h2, .inl h3⟩
    · exact .inl ⟨by rw [Int.add_sub_cancel]; exact ho, by rw [Int.add_sub_cancel]; exact h1, .inr ⟨by omega, by omega, rfl⟩⟩
    · exact .inr ⟨by rw [Int.add_sub_cancel]; exact ho, by rw [Int.add_sub_cancel]; exact h1, .inr ⟨by omega, rfl, rfl⟩⟩
theorem posU_next {sum a k i j : Int} (ho : OpenP f s a (sum - a)) : posU f s sum a (k + 1) i j ↔ posU f s sum a k i j ∨ (EndP f s a (sum - a) k = true ∧ Tgt sum a k i j) := next_aux ho
theorem posT_next {sum a k i j : Int} (ho : OpenP f s a (sum - a)) : posT f s sum a (k + 1) i j ↔ posT f s sum a k i j ∨ (EndP f s a (sum - a) k = false ∧ Tgt sum a k i j) := by
  unfold posT
  rw [next_aux ho]
  simp only [or_assoc]
theorem tgt_uniq {sum a k : Int} {i j x y : Nat} (h : Tgt sum a k i j) : Tgt sum a k x y ↔ x = i ∧ y = j := by
  unfold Tgt at *; omega
theorem ord_U {sum a k v : Int} {T U U' : List MR} (h : OrdI f s sum a k T U) {i j : Nat} (hk : Tgt sum a k i j) (ho : OpenP f s a (sum - a)) (he : EndP f s a (sum - a) k = true) (hv : 0 < v ∧ v ≤ MW)
    (hU : ∀ x y : Nat, gv U' x y = if x = i ∧ y = j then v else gv U x y) : OrdI f s sum a (k + 1) T U' := by
  refine ⟨fun x y hx hy => ⟨(h.t x y hx hy).1, (h.t x y hx hy).2.trans ?_⟩, fun x y hx hy => ?_⟩
  · rw [posT_next ho, he]
    exact ⟨.inl, fun e => e.resolve_right fun e => by cases e.1⟩
  · rw [hU, posU_next ho]
    have hu := h.u x y hx hy
    by_cases e : x = i ∧ y = j
    · rw [if_pos e]
      exact ⟨by omega, fun _ => .inr ⟨he, (tgt_uniq hk).2 e⟩, fun _ => hv.1⟩
    · rw [if_neg e]
      exact ⟨hu.1, fun e1 => .inl (hu.2.1 e1), fun e1 => hu.2.2 (e1.resolve_right fun e2 => e ((tgt_uniq hk).1 e2.2))⟩
theorem ord_T {sum a k v : Int} {T U T' : List MR} (h : OrdI f s sum a k T U) {i j : Nat} (hk : Tgt sum a k i j) (ho : OpenP f s a (sum - a)) (he : EndP f s a (sum - a) k = false) (hv : 0 < v ∧ v ≤ MW)
    (hT : ∀ x y : Nat, gv T' x y = if x = i ∧ y = j then v else gv T x y) : OrdI f s sum a (k + 1) T' U := by
  refine ⟨fun x y hx hy => ?_, fun x y hx hy => ⟨(h.u x y hx hy).1, (h.u x y hx hy).2.trans ?_⟩⟩
  · rw [hT, posT_next ho]
    have hu := h.t x y hx hy
    by_cases e : x = i ∧ y = j
    · rw [if_pos e]
      exact ⟨by omega, fun _ => .inr ⟨he, (tgt_uniq hk).2 e⟩, fun _ => hv.1⟩
    · rw [if_neg e]
      exact ⟨hu.1, fun e1 => .inl (hu.2.1 e1), fun e1 => hu.2.2 (e1.resolve_right fun e2 => e ((tgt_uniq hk).1 e2.2))⟩
  · rw [posU_next ho, he]
    exact ⟨.inl, fun e => e.resolve_right fun e => by cases e.1⟩
theorem ord_init {T U : List MR} (hT : ∀ i j : Nat, i < 45 → j < 45 → gv T i j = if i = 0 ∧ j = 0 then 1 else 0) (hU : ∀ i j : Nat, i < 45 → j < 45 → gv U i j = 0) : OrdI f s 0 0 0 T U := by
  have hn : ∀ x y side : Int, OpenP f s x y → side = 0 ∨ side = 1 → ¬ Did 0 0 0 x y side := fun x y side ho hs => by unfold OpenP at ho; unfold Did; omega
  refine ⟨fun i j hi hj => ?_, fun i j hi hj => ?_⟩
  · rw [hT i j hi hj]
    by_cases e : i = 0 ∧ j = 0
    · rw [if_pos e]
      exact ⟨by decide, fun _ => .inl (by omega), fun _ => by decide⟩
    · rw [if_neg e]
      refine ⟨by decide, fun h => absurd h (by decide), ?_⟩
      rintro (h | ⟨h1, _, h3⟩ | ⟨h1, _, h3⟩)
      · omega
      · exact absurd h3 (hn _ _ _ h1 (.inl rfl))
      · exact absurd h3 (hn _ _ _ h1 (.inr rfl))
  · rw [hU i j hi hj]
    refine ⟨by decide, fun h => absurd h (by decide), ?_⟩
    rintro (⟨h1, _, h3⟩ | ⟨h1, _, h3⟩)
    · exact absurd h3 (hn _ _ _ h1 (.inl rfl))
    · exact absurd h3 (hn _ _ _ h1 (.inr rfl))
/-- What the document's tables say in the end. -/
theorem ord_end (ht : TieOk f s) {a k : Int} {T U : List MR} (h : OrdI f s 88 a k T U) : ∀ i j : Nat, i < 45 → j < 45 → (0 < gv T i j ↔ expT f s i j = some false) ∧ (gv U i j = 0 ↔ ¬ expT f s i j = some true) := fun i j hi hj => by
  have h1 := h.t i j hi hj
  have h2 := h.u i j hi hj
  refine ⟨?_, ?_⟩
  · rw [exp_open ht, h1.2, pos_open ht (by omega)]
  · have hz : gv U i j = 0 ↔ ¬ 0 < gv U i j := by omega
    rw [hz, h2.2, not_congr]
    have hd : ∀ x y side : Int, x + y < 88 → Did 88 a k x y side := fun x y side h => .inl h
    constructor
    · rintro (⟨g1, g2, _⟩ | ⟨g1, g2, _⟩)
      · unfold expT
        rw [if_neg (fun e => by unfold OpenP at g1; omega), if_pos g1, g2]
      · unfold expT
        rw [if_neg (fun e => by unfold OpenP at g1; omega)]
        by_cases g : OpenP f s ((i : Int) - 1) j
        · rw [if_pos g, ends_agree ht g g1, g2]
        · rw [if_neg g, if_pos g1, g2]
    · intro he
      unfold expT at he
      by_cases g0 : (i : Int) = 0 ∧ (j : Int) = 0
      · rw [if_pos g0] at he; cases he
      · rw [if_neg g0] at he
        by_cases g : OpenP f s ((i : Int) - 1) j
        · rw [if_pos g] at he
          exact .inl ⟨g, Option.some.inj he, hd _ _ _ (by omega)⟩
        · rw [if_neg g] at he
          by_cases g2 : OpenP f s i ((j : Int) - 1)
          · rw [if_pos g2] at he
            exact .inr ⟨g2, Option.some.inj he, hd _ _ _ (by omega)⟩
          · rw [if_neg g2] at he; cases he
end
end Go.Proofs.Ytacaojifempclaa
