/- The order of the groups is strict; what holds of the crowd in each minute. -/
import Derived.Test.YtbcclgfobiholaaGA
namespace Go.Proofs.Ytbcclgfobiholaa
open Go Go.RowKit

/-! #### sorted rows -/
abbrev Srt (key : Int → Int) (l : List Int) : Prop := l.Pairwise fun a b => key a < key b
theorem posV_drop {lt : Int → Int → Bool} {l : List Int} {x : Int} : ∀ j, j ≤ l.length → ∀ y ∈ (l.take j).drop (posV lt l x j), lt x y = true
  | 0, _, y, h => by simp at h
  | j + 1, hj, y, h => by
    have hl : l[j]? = some l[j] := List.getElem?_eq_getElem (by omega)
    rw [posV_step hl] at h
    cases hb : lt x l[j] with
    | false =>
      rw [hb] at h
      simp only [cond_false] at h
      rw [List.drop_of_length_le (by simp; omega)] at h
      cases h
    | true =>
      rw [hb] at h
      simp only [cond_true] at h
      rw [List.take_add_one, hl, List.drop_append_of_le_length (by have := posV_le lt l x j; simp; omega)] at h
      rcases List.mem_append.1 h with h | h
      · exact posV_drop j (by omega) y h
      · simp only [Option.toList_some, List.mem_singleton] at h
        rw [h]; exact hb
theorem posV_last {lt : Int → Int → Bool} {l : List Int} {x : Int} : ∀ j, j ≤ l.length → ∀ p, posV lt l x j = p + 1 → ∃ y, l[p]? = some y ∧ lt x y = false
  | 0, _, p, h => by simp [posV] at h
  | j + 1, hj, p, h => by
    have hl : l[j]? = some l[j] := List.getElem?_eq_getElem (by omega)
    rw [posV_step hl] at h
    cases hb : lt x l[j] with
    | false =>
      rw [hb] at h
      simp only [cond_false] at h
      obtain rfl : j = p := by omega
      exact ⟨_, hl, hb⟩
    | true =>
      rw [hb] at h
      exact posV_last j (by omega) p h
theorem insV_srt {key : Int → Int} {lt : Int → Int → Bool} {l : List Int} {x : Int} (hlt : ∀ y ∈ l, lt x y = decide (key x < key y)) (hne : ∀ y ∈ l, key y ≠ key x) (hs : Srt key l) : Srt key (insV lt l x) := by
  have hs0 := hs
  unfold insV
  have hp := posV_le lt l x l.length
  have hd := posV_drop (lt := lt) (l := l) (x := x) l.length (Nat.le_refl _)
  have hla := posV_last (lt := lt) (l := l) (x := x) l.length (Nat.le_refl _)
  generalize posV lt l x l.length = p at *
  rw [List.take_length] at hd
  rw [← List.take_append_drop p l] at hs
  obtain ⟨h1, h2, h3⟩ := List.pairwise_append.1 hs
  have hx : ∀ y ∈ l.drop p, key x < key y := fun y hy => by
    have := hd y hy
    rw [hlt y (List.mem_of_mem_drop hy)] at this
    exact of_decide_eq_true this
  have ha : ∀ a ∈ l.take p, key a < key x := fun a hat => by
    cases p with
    | zero => simp at hat
    | succ p =>
      obtain ⟨y, hy, hb⟩ := hla p rfl
      have hyl := List.mem_of_getElem? hy
      rw [hlt y hyl] at hb
      have h4 := of_decide_eq_false hb
      have h5 := hne y hyl
      rw [List.take_add_one, hy] at hat
      rcases List.mem_append.1 hat with hat | hat
      · rw [List.take_add_one, hy] at h1
        have := (List.pairwise_append.1 h1).2.2 a hat y (by simp)
        omega
      · simp only [Option.toList_some, List.mem_singleton] at hat
        subst hat; omega
  refine List.pairwise_append.2 ⟨h1, List.pairwise_cons.2 ⟨hx, h2⟩, fun a hat b hb => ?_⟩
  rcases List.mem_cons.1 hb with rfl | hb
  · exact ha a hat
  · exact h3 a hat b hb
theorem sortTo_srt {key : Int → Int} {lt : Int → Int → Bool} {xs : List Int} (hlt : ∀ x ∈ xs, ∀ y ∈ xs, lt x y = decide (key x < key y)) (hnd : xs.Pairwise fun a b => key a ≠ key b) : ∀ k, k ≤ xs.length → Srt key (sortTo lt xs k)
  | 0, _ => List.Pairwise.nil
  | k + 1, hk => by
    have hx : xs[k]? = some xs[k] := List.getElem?_eq_getElem (by omega)
    rw [sortTo, hx]
    refine insV_srt (fun y hy => hlt _ (List.getElem_mem _) _ (List.mem_of_mem_take ((sortTo_mem lt xs y k (by omega)).1 hy))) (fun y hy => ?_) (sortTo_srt hlt hnd k (by omega))
    have hm := (sortTo_mem lt xs y k (by omega)).1 hy
    obtain ⟨i, hi, rfl⟩ := List.getElem_of_mem hm
    rw [List.getElem_take]
    rw [List.length_take] at hi
    exact List.pairwise_iff_getElem.1 hnd i k (by omega) (by omega) (by omega)
theorem srt_uniq {key : Int → Int} : ∀ {l l' : List Int}, Srt key l → Srt key l' → (∀ x, x ∈ l ↔ x ∈ l') → l = l'
  | [], [], _, _, _ => rfl
  | [], b :: t, _, _, h => by have := (h b).2 (by simp); cases this
  | a :: t, [], _, _, h => by have := (h a).1 (by simp); cases this
  | a :: t, b :: t', hl, hl', h => by
    obtain ⟨h1, h2⟩ := List.pairwise_cons.1 hl
    obtain ⟨h3, h4⟩ := List.pairwise_cons.1 hl'
    have e : a = b := by
      rcases List.mem_cons.1 ((h a).1 (by simp)) with e | e
      · exact e
      · rcases List.mem_cons.1 ((h b).2 (by simp)) with e' | e'
        · exact e'.symm
        · have := h3 a e
          have := h1 b e'
          omega
    subst e
    congr 1
    refine srt_uniq h2 h4 fun x => ⟨fun hx => ?_, fun hx => ?_⟩
    · rcases List.mem_cons.1 ((h x).1 (List.mem_cons_of_mem _ hx)) with rfl | e
      · have := h1 x hx; omega
      · exact e
    · rcases List.mem_cons.1 ((h x).2 (List.mem_cons_of_mem _ hx)) with rfl | e
      · have := h3 x hx; omega
      · exact e
theorem srt_nodup {key : Int → Int} {l : List Int} (h : Srt key l) : l.Pairwise fun a b => a ≠ b := h.imp fun {a b} hab e => by subst e; omega
theorem filter_split {α : Type} (p q : α → Bool) : ∀ {l : List α}, l.Pairwise (fun a b => q b = true → q a = true) → l.filter p = l.filter (fun x => p x && q x) ++ l.filter (fun x => p x && !q x)
  | [], _ => rfl
  | a :: t, h => by
    obtain ⟨h1, h2⟩ := List.pairwise_cons.1 h
    cases hq : q a
    · have hn : ∀ b ∈ t, q b = false := fun b hb => by
        cases hqb : q b
        · rfl
        · have := h1 b hb hqb
          rw [hq] at this; cases this
      have he : t.filter (fun x => p x && q x) = [] := List.filter_eq_nil_iff.2 fun b hb => by simp [hn b hb]
      simp only [List.filter_cons, hq, Bool.and_false, Bool.not_false, Bool.and_true, Bool.false_eq_true, if_false, he, List.nil_append]
      have : t.filter p = t.filter (fun x => p x && !q x) := List.filter_congr fun b hb => by simp [hn b hb]
      rw [this]
    · simp only [List.filter_cons, hq, Bool.and_true, Bool.not_true, Bool.and_false, Bool.false_eq_true, if_false]
      have := filter_split p q h2
      cases hp : p a
      · simp only [Bool.false_eq_true, if_false]; exact this
      · simp only [if_true]; rw [List.cons_append, ← this]

/-! #### the key of a group -/
def keyV (gs : List Pt) (i : Int) : Int := match gs[i.toNat]? with
  | some g => g.at_ * 1000 + g.id
  | none => 0
def quitV (gs : List Pt) (i : Int) : Int := match gs[i.toNat]? with
  | some g => g.quits
  | none => 0
theorem pt_at {q : Qu} (hq : q.Ok) {i : Int} (hi : 0 ≤ i ∧ i < q.gs.length) : ∃ g, q.gs[i.toNat]? = some g ∧ ((0 ≤ g.id ∧ g.id ≤ 999) ∧ (0 ≤ g.at_ ∧ g.at_ ≤ 1440) ∧ (1 ≤ g.size ∧ g.size ≤ 20) ∧ (g.quits = -1 ∨ g.at_ ≤ g.quits ∧ g.quits ≤ 1440)) := by
  obtain ⟨g, hg⟩ : ∃ g, q.gs[i.toNat]? = some g := ⟨_, List.getElem?_eq_getElem (by omega)⟩
  exact ⟨g, hg, pt_rng (hq.pt g (List.mem_of_getElem? hg))⟩
theorem ltQ_key {q : Qu} (hq : q.Ok) {i j : Int} (hi : 0 ≤ i ∧ i < q.gs.length) (hj : 0 ≤ j ∧ j < q.gs.length) : ltQ q.gs i j = decide (keyV q.gs i < keyV q.gs j) := by
  obtain ⟨g, hg, h1, h2, -⟩ := pt_at hq hi
  obtain ⟨k, hk, h3, h4, -⟩ := pt_at hq hj
  unfold ltQ cmpQ keyV
  rw [hg, hk]
  refine decide_eq_decide.2 ?_
  show orV [g.at_ - k.at_, g.id - k.id] < 0 ↔ g.at_ * 1000 + g.id < k.at_ * 1000 + k.id
  rw [orV, orV, orV]
  by_cases e : g.at_ - k.at_ = 0
  · rw [decide_eq_true e]
    by_cases e' : g.id - k.id = 0
    · rw [decide_eq_true e']; simp only [Bool.not_true, cond_false]; omega
    · rw [decide_eq_false e']; simp only [Bool.not_true, cond_false, Bool.not_false, cond_true]; omega
  · rw [decide_eq_false e]; simp only [Bool.not_false, cond_true]; omega
theorem key_at {q : Qu} (hq : q.Ok) {i j : Int} (hi : 0 ≤ i ∧ i < q.gs.length) (hj : 0 ≤ j ∧ j < q.gs.length) (h : keyV q.gs i < keyV q.gs j) : atV q.gs i ≤ atV q.gs j := by
  obtain ⟨g, hg, h1, h2, -⟩ := pt_at hq hi
  obtain ⟨k, hk, h3, h4, -⟩ := pt_at hq hj
  unfold keyV at h
  unfold atV
  rw [hg, hk] at h ⊢
  simp only at h ⊢
  omega
theorem key_inj {q : Qu} (hq : q.Ok) {i j : Int} (hi : 0 ≤ i ∧ i < q.gs.length) (hj : 0 ≤ j ∧ j < q.gs.length) (h : keyV q.gs i = keyV q.gs j) : i = j := by
  obtain ⟨g, hg, h1, h2, -⟩ := pt_at hq hi
  obtain ⟨k, hk, h3, h4, -⟩ := pt_at hq hj
  unfold keyV at h
  rw [hg, hk] at h
  simp only at h
  have hid : g.id = k.id := by omega
  rcases Nat.lt_trichotomy i.toNat j.toNat with h | h | h
  · exact absurd hid (hq.nd _ _ _ _ h hg hk)
  · omega
  · exact absurd hid.symm (hq.nd _ _ _ _ h hk hg)
theorem idxs_nd (n : Nat) : (idxs n).Pairwise fun a b => a ≠ b := by
  rw [idxs, List.pairwise_map]
  exact List.nodup_range.imp fun h e => h (by omega)
theorem ordV_srt {q : Qu} (hq : q.Ok) : Srt (keyV q.gs) (ordV q) := by
  refine sortTo_srt (key := keyV q.gs) (lt := ltQ q.gs) (xs := idxs q.gs.length) (fun x hx y hy => ltQ_key (i := x) (j := y) hq (idxs_mem.1 hx) (idxs_mem.1 hy)) ?_ _ (Nat.le_refl _)
  refine List.Pairwise.imp_of_mem ?_ (idxs_nd q.gs.length)
  intro a b ha hb hab e
  exact hab (key_inj hq (idxs_mem.1 ha) (idxs_mem.1 hb) e)
end Go.Proofs.Ytbcclgfobiholaa
