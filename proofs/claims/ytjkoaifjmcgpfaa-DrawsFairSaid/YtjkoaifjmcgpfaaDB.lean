/- What obeys is what the document calls legal. Plain. -/
import Derived.Test.YtjkoaifjmcgpfaaDA
namespace Go.Proofs.Ytjkoaifjmcgpfaa
open Go Go.RowKit

theorem seatV_iff (p : Pl) (slot n : Int) : seatV p slot n = true ↔ ((slot = 0 ∧ 0 < p.seeds) ∧ n = 0) ∨ (¬ (slot = 0 ∧ 0 < p.seeds) ∧ (slot = p.size - 1 ∧ 1 < p.seeds) ∧ n = 1) ∨ (¬ (slot = 0 ∧ 0 < p.seeds) ∧ ¬ (slot = p.size - 1 ∧ 1 < p.seeds) ∧ (n = -1 ∨ p.seeds ≤ n ∨ (1 < n ∧ (slot = p.size / 4 ∨ slot = p.size - 1 - p.size / 4)))) := by
  unfold seatV
  by_cases h1 : slot = 0 ∧ 0 < p.seeds
  · rw [decide_eq_true h1.1, decide_eq_true h1.2]
    simp [h1]
  · have e1 : (decide (slot = 0) && decide (0 < p.seeds)) = false := by rw [← Bool.decide_and]; exact decide_eq_false h1
    rw [e1]
    by_cases h2 : slot = p.size - 1 ∧ 1 < p.seeds
    · rw [decide_eq_true h2.1, decide_eq_true h2.2]
      simp only [cond_false, Bool.and_self, cond_true, decide_eq_true_eq]
      constructor
      · intro h; exact .inr (.inl ⟨h1, h2, h⟩)
      · rintro (⟨h, _⟩ | ⟨_, _, h⟩ | ⟨_, h, _⟩)
        · exact absurd h h1
        · exact h
        · exact absurd h2 h
    · have e2 : (decide (slot = p.size - 1) && decide (1 < p.seeds)) = false := by rw [← Bool.decide_and]; exact decide_eq_false h2
      rw [e2]
      simp only [cond_false]
      by_cases h3 : n = -1 ∨ p.seeds ≤ n
      · have e3 : (decide (n = -1) || decide (p.seeds ≤ n)) = true := by rw [← Bool.decide_or]; exact decide_eq_true h3
        rw [e3]
        simp only [cond_true, true_iff]
        refine .inr (.inr ⟨h1, h2, ?_⟩)
        rcases h3 with h | h
        · exact .inl h
        · exact .inr (.inl h)
      · have e3 : (decide (n = -1) || decide (p.seeds ≤ n)) = false := by rw [← Bool.decide_or]; exact decide_eq_false h3
        rw [e3]
        simp only [cond_false, List.any_cons, List.any_nil, Bool.or_false, Bool.and_eq_true, Bool.or_eq_true, decide_eq_true_eq]
        constructor
        · intro h; exact .inr (.inr ⟨h1, h2, .inr (.inr h)⟩)
        · rintro (⟨h, _⟩ | ⟨_, h, _⟩ | ⟨_, _, h | h | h⟩)
          · exact absurd h h1
          · exact absurd h h2
          · exact absurd (.inl h) h3
          · exact absurd (.inr h) h3
          · exact h
theorem beq_iff (a b : Prop) [Decidable a] [Decidable b] : ((decide a == decide b) = true) ↔ (a ↔ b) := by
  by_cases ha : a <;> by_cases hb : b <;> simp [ha, hb]
theorem byeV_iff (p : Pl) (n o : Int) : byeV p n o = true ↔ n = -1 ∨ p.seeds ≤ n ∨ (o = -1 ↔ n < byesV p) := by
  unfold byeV
  rw [Bool.or_eq_true, Bool.or_eq_true, beq_iff, decide_eq_true_eq, decide_eq_true_eq, or_assoc]
theorem matchV_iff (p : Pl) (a b : Int) : matchV p a b = true ↔ ¬ (byesV p ≤ p.seeds ∧ ((a = -1 ∧ p.seeds ≤ b) ∨ (b = -1 ∧ p.seeds ≤ a))) ∧ apartV p a b = true ∧ byeV p a b = true ∧ byeV p b a = true := by
  unfold matchV
  by_cases h : byesV p ≤ p.seeds ∧ ((a = -1 ∧ p.seeds ≤ b) ∨ (b = -1 ∧ p.seeds ≤ a))
  · have e : (decide (byesV p ≤ p.seeds) && ((decide (a = -1) && decide (p.seeds ≤ b)) || (decide (b = -1) && decide (p.seeds ≤ a)))) = true := by
      simp only [Bool.and_eq_true, Bool.or_eq_true, decide_eq_true_eq]; exact h
    rw [e]
    simp only [cond_true]
    exact ⟨fun h' => (by cases h'), fun h' => absurd h h'.1⟩
  · have e : (decide (byesV p ≤ p.seeds) && ((decide (a = -1) && decide (p.seeds ≤ b)) || (decide (b = -1) && decide (p.seeds ≤ a)))) = false := by
      rw [← Bool.not_eq_true]
      simp only [Bool.and_eq_true, Bool.or_eq_true, decide_eq_true_eq]; exact h
    rw [e]
    simp only [cond_false, Bool.and_eq_true]
    exact ⟨fun h' => ⟨h, h'.1.1, h'.1.2, h'.2⟩, fun h' => ⟨⟨h'.2.1, h'.2.2.1⟩, h'.2.2.2⟩⟩
theorem seatBad_no (p : Pl) (s : Nat) (q : Int) : seatBad p s q = false ↔ ((s = 0 → q = 0) ∧ (s = 1 → q = p.size - 1) ∧ (2 ≤ s → q = p.size / 4 ∨ q = p.size - 1 - p.size / 4)) := by
  rw [← Bool.not_eq_true]
  simp only [seatBad, Bool.or_eq_true, Bool.and_eq_true, Bool.not_eq_true', decide_eq_true_eq, decide_eq_false_iff_not]
  omega
theorem obTo_iff (p : Pl) (l : List Int) : ∀ K, obTo p l K = true ↔ ∀ k, k < K → seatV p k (l.getD k 0) = true ∧ (k % 2 = 1 → matchV p (l.getD (k - 1) 0) (l.getD k 0) = true)
  | 0 => by simp [obTo]
  | K + 1 => by
    rw [obTo, Bool.and_eq_true, obTo_iff p l K, Bool.and_eq_true, Bool.not_eq_true', Bool.and_eq_false_iff, decide_eq_false_iff_not, Bool.not_eq_false']
    constructor
    · rintro ⟨h1, h2, h3⟩ k hk
      by_cases e : k = K
      · subst e
        refine ⟨h2, fun hm => ?_⟩
        rcases h3 with h | h
        · exact absurd hm h
        · exact h
      · exact h1 k (by omega)
    · intro h
      refine ⟨fun k hk => h k (by omega), (h K (by omega)).1, ?_⟩
      by_cases hm : K % 2 = 1
      · exact .inr ((h K (by omega)).2 hm)
      · exact .inl hm
theorem pairTo_iff (p : Pl) (sheet : List Int) : ∀ K, pairTo p sheet K = true ↔ ∀ j, j < K → pairOk p sheet j = true
  | 0 => by simp [pairTo]
  | K + 1 => by
    rw [pairTo, Bool.and_eq_true, pairTo_iff p sheet K]
    constructor
    · rintro ⟨h1, h2⟩ j hj
      by_cases e : j = K
      · subst e; exact h2
      · exact h1 j (by omega)
    · intro h; exact ⟨fun j hj => h j (by omega), h K (by omega)⟩
theorem seedTo_iff (p : Pl) (sheet : List Int) : ∀ K, seedTo p sheet K = true ↔ ∀ s, s < K → seedOk p sheet s = true
  | 0 => by simp [seedTo]
  | K + 1 => by
    rw [seedTo, Bool.and_eq_true, seedTo_iff p sheet K]
    constructor
    · rintro ⟨h1, h2⟩ j hj
      by_cases e : j = K
      · subst e; exact h2
      · exact h1 j (by omega)
    · intro h; exact ⟨fun j hj => h j (by omega), h K (by omega)⟩
theorem isTo_at {p : Pl} {sheet : List Int} : ∀ {K : Nat}, isTo p sheet K = true → ∀ (k : Nat) (y : Int), k < K → sheet[k]? = some y → y = -1 ∨ (0 ≤ perI p y ∧ y ∉ sheet.take k)
  | 0, _, k, _, hk, _ => by omega
  | K + 1, h, k, y, hk, hy => by
    rw [isTo, Bool.and_eq_true] at h
    by_cases e : k = K
    · subst e
      have h2 := h.2
      rw [hy] at h2
      simp only [Bool.or_eq_true, decide_eq_true_eq, Bool.not_eq_true', Bool.or_eq_false_iff, decide_eq_false_iff_not] at h2
      rcases h2 with h2 | h2
      · exact .inl h2
      · refine .inr ⟨by omega, fun hm => ?_⟩
        rw [inV_iff.2 hm] at h2
        cases h2.2
    · exact isTo_at h.1 k y (by omega) hy
/-- A sheet that is one. -/
structure Shq (p : Pl) (sheet : List Int) : Prop where
  q : p.Ok
  len : (sheet.length : Int) = p.size
  sh : ∀ y ∈ sheet, ShP p y
  uq : ∀ (i j : Nat) (y : Int), sheet[i]? = some y → sheet[j]? = some y → y ≠ -1 → i = j
theorem sh_ok {p : Pl} {sheet : List Int} (hb : pOk p = true) (h : isShV p sheet = true) : Shq p sheet := by
  rw [isShV, Bool.and_eq_true, decide_eq_true_eq] at h
  have ha := isTo_at h.1
  refine ⟨p_ok hb, h.2, fun y hy => ?_, fun i j y hi hj hn => ?_⟩
  · obtain ⟨k, hk, rfl⟩ := List.getElem_of_mem hy
    by_cases hb : sheet[k] = -1
    · exact .inl hb
    · rcases ha k _ hk (List.getElem?_eq_getElem hk) with h | h
      · exact .inl h
      · exact .inr ⟨hb, h.1⟩
  · have key : ∀ i j : Nat, i < j → sheet[i]? = some y → sheet[j]? = some y → False := fun i j hij hi hj => by
      rcases ha j y (List.getElem?_eq_some_iff.1 hj).1 hj with h | h
      · exact hn h
      · refine h.2 ?_
        have : (sheet.take j)[i]? = some y := by rw [List.getElem?_take, if_pos hij]; exact hi
        exact List.mem_of_getElem? this
    rcases Nat.lt_trichotomy i j with h | h | h
    · exact (key i j h hi hj).elim
    · exact h
    · exact (key j i h hj hi).elim
theorem per_of {p : Pl} (hq : p.Ok) {i : Nat} {x : Ps} (h : p.ps[i]? = some x) : perI p x.player = i := by
  have hi := (List.getElem?_eq_some_iff.1 h).1
  rcases idxF_spec (pAt p.ps fun y => decide (y.player = x.player)) p.ps.length with ⟨k, hk, he, hp, _⟩ | ⟨he, hb⟩
  · have he' : perI p x.player = k := he
    obtain ⟨z, hz⟩ : ∃ z, p.ps[k]? = some z := ⟨_, List.getElem?_eq_getElem hk⟩
    rw [pAt_eq hz] at hp
    have hp := of_decide_eq_true hp
    rcases Nat.lt_trichotomy i k with h' | h' | h'
    · exact absurd hp.symm (hq.nd _ _ _ _ h' h hz)
    · rw [he', h']
    · exact absurd hp (hq.nd _ _ _ _ h' hz h)
  · have := hb i hi
    rw [pAt_eq h, decide_eq_true rfl] at this
    cases this
theorem num_of {p : Pl} (hq : p.Ok) {i : Nat} {x : Ps} (h : p.ps[i]? = some x) : numV p x.player = i ∧ x.player ≠ -1 := by
  have := (hq.pr i x h).1
  have hn : x.player ≠ -1 := by omega
  exact ⟨by rw [numV, decide_eq_false hn]; exact per_of hq h, hn⟩
theorem whole_full {p : Pl} (hq : p.Ok) (sheet : List Int) : wholeV p (sheet.map (numV p)) = fullV p sheet := by
  unfold wholeV fullV
  have h : ∀ x ∈ p.ps, (!hasV (sheet.map (numV p)) (perI p x.player)) = !inV sheet x.player := fun x hx => by
    obtain ⟨i, hi, rfl⟩ := List.getElem_of_mem hx
    have hx' : p.ps[i]? = some p.ps[i] := List.getElem?_eq_getElem hi
    have h1 := per_of hq hx'
    rw [num_has (by omega) (num_of hq hx').2]
  congr 1
  rw [Bool.eq_iff_iff, List.any_eq_true, List.any_eq_true]
  exact ⟨fun ⟨x, hx, hp⟩ => ⟨x, hx, by rw [← h x hx]; exact hp⟩, fun ⟨x, hx, hp⟩ => ⟨x, hx, by rw [h x hx]; exact hp⟩⟩
/-! #### pigeons -/
theorem filter_sum {α : Type} (q : α → Bool) : ∀ xs : List α, (xs.filter q).length + (xs.filter fun x => !q x).length = xs.length
  | [] => rfl
  | x :: xs => by
    have := filter_sum q xs
    simp only [List.filter_cons]
    cases q x <;> simp <;> omega
theorem pigeon : ∀ (xs ys : List Nat), xs.Nodup → (∀ x ∈ xs, x ∈ ys) → xs.length ≤ ys.length
  | [], _, _, _ => Nat.zero_le _
  | x :: xs, ys, hn, hs => by
    obtain ⟨h1, h2⟩ := List.nodup_cons.1 hn
    have hx := hs x (by simp)
    have := pigeon xs (ys.erase x) h2 fun y hy => by
      have hne : y ≠ x := fun e => h1 (e ▸ hy)
      exact (List.mem_erase_of_ne hne).2 (hs y (List.mem_cons_of_mem _ hy))
    rw [List.length_erase_of_mem hx] at this
    have := List.length_pos_of_mem hx
    rw [List.length_cons]; omega
def facN (k : Nat) : Nat := if k % 2 = 0 then k + 1 else k - 1
theorem facN_fac (k : Nat) : facN (facN k) = k := by
  unfold facN
  by_cases h : k % 2 = 0
  · rw [if_pos h, if_neg (by omega)]; omega
  · rw [if_neg h, if_pos (by omega)]; omega
theorem facV_nat (k : Nat) : (facV (k : Int)).toNat = facN k := by
  unfold facV facN
  by_cases h : k % 2 = 0
  · rw [decide_eq_true (by omega), if_pos h]; simp only [cond_true]; omega
  · rw [decide_eq_false (by omega), if_neg h]; simp only [cond_false]; omega
theorem facN_lt {S k : Nat} (hS : S = 4 ∨ S = 8) (hk : k < S) : facN k < S := by
  unfold facN
  by_cases h : k % 2 = 0
  · rw [if_pos h]; omega
  · rw [if_neg h]; omega
/-! #### a full sheet -/
structure Fu (p : Pl) (sheet : List Int) : Prop extends Shq p sheet where
  pos : ∀ i : Nat, i < p.ps.length → ∃ k, k < sheet.length ∧ sheet[k]? = some (psAt p i).player
theorem ps_get {p : Pl} {i : Nat} (h : i < p.ps.length) : p.ps[i]? = some (psAt p i) := by
  unfold psAt
  rw [Int.toNat_natCast, List.getElem?_eq_getElem h]; rfl
theorem fu_ok {p : Pl} {sheet : List Int} (h : Shq p sheet) (hf : fullV p sheet = true) : Fu p sheet := by
  refine ⟨h, fun i hi => ?_⟩
  unfold fullV at hf
  rw [Bool.not_eq_true', List.any_eq_false] at hf
  have := hf (psAt p i) (List.mem_of_getElem? (ps_get hi))
  obtain ⟨k, _, hk, hk2⟩ := slot_in (sheet := sheet) (y := (psAt p i).player) (by simpa using this)
  exact ⟨k, hk, hk2⟩
section
variable {p : Pl} {sheet : List Int}
abbrev pv (p : Pl) (sheet : List Int) (k : Nat) : Int := numV p (sheet.getD k 0)
theorem pv_at {k : Nat} {y : Int} (h : sheet[k]? = some y) : pv p sheet k = numV p y := by rw [pv, getD_at h]
theorem map_getD {k : Nat} (hk : k < sheet.length) : (sheet.map (numV p)).getD k 0 = pv p sheet k := by
  rw [List.getD_eq_getElem?_getD, List.getElem?_map, List.getElem?_eq_getElem hk, pv, List.getD_eq_getElem?_getD, List.getElem?_eq_getElem hk]; rfl
/-- Who has a slot: a person's number is at one slot alone. -/
theorem pv_inj (h : Shq p sheet) {i j : Nat} (hi : i < sheet.length) (hj : j < sheet.length) (he : pv p sheet i = pv p sheet j) (hn : pv p sheet i ≠ -1) : i = j := by
  have h1 : sheet[i]? = some sheet[i] := List.getElem?_eq_getElem hi
  have h2 : sheet[j]? = some sheet[j] := List.getElem?_eq_getElem hj
  have s1 := h.sh _ (List.getElem_mem hi)
  have s2 := h.sh _ (List.getElem_mem hj)
  rw [pv_at h1, pv_at h2] at he
  rw [pv_at h1] at hn
  have e := num_eq s1 s2
  rw [decide_eq_true he] at e
  have e := of_decide_eq_true e.symm
  refine h.uq i j _ h1 (e ▸ h2) fun hb => hn ?_
  have := num_none s1
  rw [decide_eq_true hb] at this
  exact of_decide_eq_true this
theorem at_pos (h : Fu p sheet) {s : Nat} (hs : s < p.ps.length) : ∃ q : Nat, atV p sheet s = q ∧ q < sheet.length ∧ pv p sheet q = s := by
  obtain ⟨k, hk, hk2⟩ := h.pos s hs
  obtain ⟨q, h1, h2, h3⟩ := slot_in (inV_iff.2 (List.mem_of_getElem? hk2))
  exact ⟨q, h1, h2, by rw [pv_at h3]; exact (num_of h.q (ps_get hs)).1⟩
theorem pv_none (h : Shq p sheet) {k : Nat} (hk : k < sheet.length) : (sheet.getD k 0 = -1) ↔ pv p sheet k = -1 := by
  have s1 := h.sh _ (List.getElem_mem hk)
  have e := num_none s1
  rw [pv, List.getD_eq_getElem?_getD, List.getElem?_eq_getElem hk]
  exact (decide_eq_decide.1 e).symm
theorem pv_rng (h : Shq p sheet) {k : Nat} (hk : k < sheet.length) : pv p sheet k = -1 ∨ (0 ≤ pv p sheet k ∧ pv p sheet k < p.ps.length) := by
  rw [pv_at (List.getElem?_eq_getElem hk)]
  exact num_in (h.sh _ (List.getElem_mem hk))
/-- There are as many slots without a person as there are byes. -/
theorem nones (h : Fu p sheet) : (((List.range sheet.length).filter fun k => decide (pv p sheet k = -1)).length : Int) ≤ byesV p := by
  have h1 := h.len
  have hpos : ∀ i : Nat, i < p.ps.length → ∃ q, q < sheet.length ∧ pv p sheet q = i := fun i hi => by
    obtain ⟨q, _, h2, h3⟩ := at_pos h hi; exact ⟨q, h2, h3⟩
  have hle : p.ps.length ≤ ((List.range sheet.length).filter fun k => !decide (pv p sheet k = -1)).length := by
    have := pigeon ((List.range p.ps.length).map fun i : Nat => ((List.range sheet.length).find? fun q => decide (pv p sheet q = (i : Int))).getD 0) ((List.range sheet.length).filter fun k => !decide (pv p sheet k = -1)) ?_ ?_
    · simpa using this
    · rw [List.nodup_iff_pairwise_ne, List.pairwise_map]
      refine List.Pairwise.imp_of_mem ?_ List.nodup_range
      intro i j hi hj hij he
      rw [List.mem_range] at hi hj
      have key : ∀ i : Nat, i < p.ps.length → pv p sheet (((List.range sheet.length).find? fun q => decide (pv p sheet q = (i : Int))).getD 0) = i := fun i hi => by
        obtain ⟨q, hq1, hq2⟩ := hpos i hi
        cases hf : (List.range sheet.length).find? fun q => decide (pv p sheet q = (i : Int)) with
        | none =>
          have := List.find?_eq_none.1 hf q (List.mem_range.2 hq1)
          exact absurd (decide_eq_true hq2) this
        | some r =>
          have h3 : pv p sheet r = i := of_decide_eq_true (List.find?_some (p := fun q => decide (pv p sheet q = (i : Int))) hf)
          exact h3
      have e1 := key i hi
      have e2 := key j hj
      rw [he, e2] at e1
      exact hij (by omega)
    · intro x hx
      obtain ⟨i, hi, rfl⟩ := List.mem_map.1 hx
      rw [List.mem_range] at hi
      obtain ⟨q, hq1, hq2⟩ := hpos i hi
      cases hf : (List.range sheet.length).find? fun q => decide (pv p sheet q = (i : Int)) with
      | none =>
        have := List.find?_eq_none.1 hf q (List.mem_range.2 hq1)
        exact absurd (decide_eq_true hq2) this
      | some r =>
        have h3 : pv p sheet r = i := of_decide_eq_true (List.find?_some (p := fun q => decide (pv p sheet q = (i : Int))) hf)
        refine List.mem_filter.2 ⟨List.mem_of_find?_eq_some hf, ?_⟩
        simp only [Option.getD_some, h3]
        rw [decide_eq_false (by omega)]; rfl
  have hsum := filter_sum (fun k => decide (pv p sheet k = -1)) (List.range sheet.length)
  rw [List.length_range] at hsum
  unfold byesV
  omega
/-- A seed's slot and the slot that faces it. -/
theorem seed_iff (h : Fu p sheet) {s q : Nat} (ha : atV p sheet s = q) (hq : q < sheet.length) : seedOk p sheet s = true ↔ ((s = 0 → q = 0) ∧ (s = 1 → (q : Int) = p.size - 1) ∧ (2 ≤ s → (q : Int) = p.size / 4 ∨ (q : Int) = p.size - 1 - p.size / 4)) ∧ ((s : Int) < byesV p ↔ pv p sheet (facN q) = -1) := by
  have hz := h.q.z
  have hl := h.len
  have hf : facN q < sheet.length := facN_lt (by omega) hq
  rw [seedOk, ha, facV_nat, Bool.and_eq_true, Bool.not_eq_true', seatBad_no, beq_iff, pv_none h.toShq hf]
  constructor
  · rintro ⟨h1, h2⟩; exact ⟨⟨fun e => by have := h1.1 e; omega, h1.2⟩, h2⟩
  · rintro ⟨h1, h2⟩; exact ⟨⟨fun e => by have := h1.1 e; omega, h1.2⟩, h2⟩
theorem obeys_legal (h : Fu p sheet) : obTo p (sheet.map (numV p)) sheet.length = (pairTo p sheet (p.size / 2).toNat && seedTo p sheet p.seeds.toNat) := by
  have hz := h.q.z
  have hl := h.len
  have hn := h.q.n
  have hs := h.q.s
  rw [Bool.eq_iff_iff, Bool.and_eq_true, obTo_iff, pairTo_iff, seedTo_iff]
  have hob : (∀ k, k < sheet.length → seatV p k ((sheet.map (numV p)).getD k 0) = true ∧ (k % 2 = 1 → matchV p ((sheet.map (numV p)).getD (k - 1) 0) ((sheet.map (numV p)).getD k 0) = true)) ↔ ∀ k, k < sheet.length → seatV p k (pv p sheet k) = true ∧ (k % 2 = 1 → matchV p (pv p sheet (k - 1)) (pv p sheet k) = true) := by
    constructor
    · intro hh k hk
      have := hh k hk
      rwa [map_getD hk, map_getD (k := k - 1) (by omega)] at this
    · intro hh k hk
      rw [map_getD hk, map_getD (k := k - 1) (by omega)]
      exact hh k hk
  rw [hob]
  have hpair : ∀ j, pairOk p sheet j = apartV p (pv p sheet (2 * j)) (pv p sheet (2 * j + 1)) := fun j => rfl
  constructor
  · intro H
    refine ⟨fun j hj => ?_, fun s hsl => ?_⟩
    · have := (H (2 * j + 1) (by omega)).2 (by omega)
      rw [show 2 * j + 1 - 1 = 2 * j by omega, matchV_iff] at this
      rw [hpair]; exact this.2.1
    · obtain ⟨q, ha, hq, hpq⟩ := at_pos h (s := s) (by omega)
      have hqs := (seatV_iff p q (pv p sheet q)).1 (H q hq).1
      rw [hpq] at hqs
      rw [seed_iff h ha hq]
      refine ⟨⟨fun e => ?_, fun e => ?_, fun e => ?_⟩, ?_⟩
      · subst e
        have h0 := (seatV_iff p ((0 : Nat) : Int) (pv p sheet 0)).1 (H 0 (by omega)).1
        have hp0 : pv p sheet 0 = 0 := by
          rcases h0 with h0 | h0 | h0
          · exact h0.2
          · omega
          · omega
        have := pv_inj h.toShq (i := q) (j := 0) hq (by omega) (by rw [hpq, hp0]; rfl) (by rw [hpq]; omega)
        exact this
      · subst e
        have h0 := (seatV_iff p ((sheet.length - 1 : Nat) : Int) (pv p sheet (sheet.length - 1))).1 (H (sheet.length - 1) (by omega)).1
        have hp0 : pv p sheet (sheet.length - 1) = 1 := by
          rcases h0 with h0 | h0 | h0
          · omega
          · exact h0.2.2
          · omega
        have := pv_inj h.toShq (i := q) (j := sheet.length - 1) hq (by omega) (by rw [hpq, hp0]; rfl) (by rw [hpq]; omega)
        omega
      · omega
      · have hfl : facN q < sheet.length := facN_lt (by omega) hq
        by_cases hev : q % 2 = 0
        · have hm := (H (q + 1) (by omega)).2 (by omega)
          rw [show q + 1 - 1 = q by omega, matchV_iff] at hm
          have hb := (byeV_iff p _ _).1 hm.2.2.1
          rw [hpq] at hb
          have hfq : facN q = q + 1 := by unfold facN; rw [if_pos hev]
          rw [hfq]
          rcases hb with hb | hb | hb
          · omega
          · omega
          · exact hb.symm
        · have hm := (H q hq).2 (by omega)
          rw [matchV_iff] at hm
          have hb := (byeV_iff p _ _).1 hm.2.2.2
          rw [hpq] at hb
          have hfq : facN q = q - 1 := by unfold facN; rw [if_neg hev]
          rw [hfq]
          rcases hb with hb | hb | hb
          · omega
          · omega
          · exact hb.symm
  · rintro ⟨hP, hS⟩
    have hseed : ∀ k, k < sheet.length → ∀ s : Nat, pv p sheet k = s → (s : Int) < p.seeds → ((s = 0 → k = 0) ∧ (s = 1 → (k : Int) = p.size - 1) ∧ (2 ≤ s → (k : Int) = p.size / 4 ∨ (k : Int) = p.size - 1 - p.size / 4)) ∧ ((s : Int) < byesV p ↔ pv p sheet (facN k) = -1) := by
      intro k hk s hks hss
      obtain ⟨q, ha, hq, hpq⟩ := at_pos h (s := s) (by omega)
      have e : q = k := pv_inj h.toShq hq hk (by rw [hpq, hks]) (by rw [hpq]; omega)
      subst e
      exact (seed_iff h ha hq).1 (hS s (by omega))
    have hbyes : ∀ k, k < sheet.length → byesV p ≤ p.seeds → pv p sheet k = -1 → ¬ p.seeds ≤ pv p sheet (facN k) := by
      intro k hk hbs hkn hge
      have hby : 0 ≤ byesV p := by unfold byesV; omega
      have hpos : ∀ i : Nat, (i : Int) < byesV p → ∃ q, q < sheet.length ∧ pv p sheet q = i ∧ pv p sheet (facN q) = -1 := fun i hi => by
        obtain ⟨q, ha, hq, hpq⟩ := at_pos h (s := i) (by omega)
        exact ⟨q, hq, hpq, ((hseed q hq i hpq (by omega)).2).1 hi⟩
      have hfind : ∀ i : Nat, (i : Int) < byesV p → ∃ q, ((List.range sheet.length).find? fun q => decide (pv p sheet q = (i : Int))) = some q ∧ q < sheet.length ∧ pv p sheet q = i ∧ pv p sheet (facN q) = -1 := fun i hi => by
        obtain ⟨q, hq1, hq2, hq3⟩ := hpos i hi
        cases hf : (List.range sheet.length).find? fun q => decide (pv p sheet q = (i : Int)) with
        | none =>
          have := List.find?_eq_none.1 hf q (List.mem_range.2 hq1)
          exact absurd (decide_eq_true hq2) this
        | some r =>
          have h3 : pv p sheet r = i := of_decide_eq_true (List.find?_some (p := fun q => decide (pv p sheet q = (i : Int))) hf)
          have hr : r < sheet.length := List.mem_range.1 (List.mem_of_find?_eq_some hf)
          have e : r = q := pv_inj h.toShq hr hq1 (by rw [h3, hq2]) (by rw [h3]; omega)
          subst e
          exact ⟨r, rfl, hr, h3, hq3⟩
      have hno := nones h
      have hpg := pigeon (k :: (List.range (byesV p).toNat).map fun i : Nat => facN (((List.range sheet.length).find? fun q => decide (pv p sheet q = (i : Int))).getD 0)) ((List.range sheet.length).filter fun k => decide (pv p sheet k = -1)) ?_ ?_
      · rw [List.length_cons, List.length_map, List.length_range] at hpg
        omega
      · refine List.nodup_cons.2 ⟨fun hm => ?_, ?_⟩
        · obtain ⟨i, hi, he⟩ := List.mem_map.1 hm
          rw [List.mem_range] at hi
          obtain ⟨q, hf, hq, hpq, _⟩ := hfind i (by omega)
          rw [hf] at he
          have he' : facN q = k := he
          rw [← he', facN_fac, hpq] at hge
          omega
        · rw [List.nodup_iff_pairwise_ne, List.pairwise_map]
          refine List.Pairwise.imp_of_mem ?_ List.nodup_range
          intro i j hi hj hij he
          rw [List.mem_range] at hi hj
          obtain ⟨q, hf, hq, hpq, _⟩ := hfind i (by omega)
          obtain ⟨r, hf2, hr, hpr, _⟩ := hfind j (by omega)
          rw [hf, hf2] at he
          have he' : facN q = facN r := he
          have : q = r := by rw [← facN_fac q, he', facN_fac]
          subst this
          rw [hpq] at hpr
          exact hij (by omega)
      · intro x hx
        rcases List.mem_cons.1 hx with rfl | hx
        · exact List.mem_filter.2 ⟨List.mem_range.2 hk, decide_eq_true hkn⟩
        · obtain ⟨i, hi, rfl⟩ := List.mem_map.1 hx
          rw [List.mem_range] at hi
          obtain ⟨q, hf, hq, hpq, hp1⟩ := hfind i (by omega)
          rw [hf]
          exact List.mem_filter.2 ⟨List.mem_range.2 (facN_lt (by omega) hq), decide_eq_true hp1⟩
    intro k hk
    refine ⟨(seatV_iff p k (pv p sheet k)).2 ?_, fun hodd => (matchV_iff p _ _).2 ⟨?_, ?_, ?_, ?_⟩⟩
    · by_cases c1 : ((k : Int) = 0 ∧ 0 < p.seeds)
      · left
        refine ⟨c1, ?_⟩
        obtain ⟨q, ha, hq, hpq⟩ := at_pos h (s := 0) (by omega)
        have := (hseed q hq 0 hpq (by omega)).1.1 rfl
        have e : q = k := by omega
        rw [← e, hpq]; rfl
      · by_cases c2 : ((k : Int) = p.size - 1 ∧ 1 < p.seeds)
        · right; left
          refine ⟨c1, c2, ?_⟩
          obtain ⟨q, ha, hq, hpq⟩ := at_pos h (s := 1) (by omega)
          have := (hseed q hq 1 hpq (by omega)).1.2.1 rfl
          have e : q = k := by omega
          rw [← e, hpq]; rfl
        · right; right
          refine ⟨c1, c2, ?_⟩
          rcases pv_rng h.toShq hk with hv | hv
          · exact .inl hv
          · by_cases hge : p.seeds ≤ pv p sheet k
            · exact .inr (.inl hge)
            · have hse := (hseed k hk (pv p sheet k).toNat (by omega) (by omega)).1
              right; right
              omega
    · rintro ⟨hbs, hc | hc⟩
      · have hf : facN (k - 1) = k := by unfold facN; rw [if_pos (by omega)]; omega
        exact hbyes (k - 1) (by omega) hbs hc.1 (by rw [hf]; exact hc.2)
      · have hf : facN k = k - 1 := by unfold facN; rw [if_neg (by omega)]
        exact hbyes k hk hbs hc.1 (by rw [hf]; exact hc.2)
    · have := hP (k / 2) (by omega)
      rw [hpair] at this
      rwa [show 2 * (k / 2) + 1 = k by omega, show 2 * (k / 2) = k - 1 by omega] at this
    · refine (byeV_iff p _ _).2 ?_
      rcases pv_rng h.toShq (k := k - 1) (by omega) with hv | hv
      · exact .inl hv
      · by_cases hge : p.seeds ≤ pv p sheet (k - 1)
        · exact .inr (.inl hge)
        · have hse := (hseed (k - 1) (by omega) (pv p sheet (k - 1)).toNat (by omega) (by omega)).2
          have hf : facN (k - 1) = k := by unfold facN; rw [if_pos (by omega)]; omega
          rw [hf] at hse
          right; right
          rw [← hse]; omega
    · refine (byeV_iff p _ _).2 ?_
      rcases pv_rng h.toShq (k := k) hk with hv | hv
      · exact .inl hv
      · by_cases hge : p.seeds ≤ pv p sheet k
        · exact .inr (.inl hge)
        · have hse := (hseed k hk (pv p sheet k).toNat (by omega) (by omega)).2
          have hf : facN k = k - 1 := by unfold facN; rw [if_neg (by omega)]
          rw [hf] at hse
          right; right
          rw [← hse]; omega
/-- What obeys is what is legal. -/
theorem legal_eq (hb : pOk p = true) (hs : isShV p sheet = true) : obeysV p (sheet.map (numV p)) = legalV p sheet := by
  have h := sh_ok hb hs
  rw [obeysV, legalV, whole_full h.q, List.length_map]
  cases hf : fullV p sheet
  · rw [Bool.and_false]; rfl
  · rw [obeys_legal (fu_ok h hf), Bool.and_true, Bool.true_and]
end
end Go.Proofs.Ytjkoaifjmcgpfaa
