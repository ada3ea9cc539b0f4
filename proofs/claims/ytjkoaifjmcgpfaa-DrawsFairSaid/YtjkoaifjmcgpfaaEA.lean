/- Plain laws: the document's draws are the program's. -/
import Derived.Test.YtjkoaifjmcgpfaaDV
namespace Go.Proofs.Ytjkoaifjmcgpfaa
open Go Go.RowKit

section
variable {p : Pl}
def allR (p : Pl) : Nat → List Int → List (List Int)
  | 0, first => bif legalV p first then [first] else []
  | f + 1, first => (choV p).flatMap fun ch => bif skR p first ch || !fitV p (first ++ [ch]) then [] else allR p f (first ++ [ch])
theorem take_all {α : Type} {l : List α} {n : Nat} (h : l.length ≤ n) : l.take n = l := List.take_of_length_le h
/-- The loop over the choices, as a list that is cut off. -/
theorem fold_cut {f : Nat} {first : List Int} {most : Int} (h0 : 0 ≤ most) (ih : ∀ l m, 0 ≤ m → shF p f l m = (allR p f l).take (m + 1).toNat) : ∀ (cs : List Int) (out : List (List Int)), (out.length : Int) ≤ most + 1 →
    cs.foldl (shStep p first most (shF p f)) out = (out ++ cs.flatMap fun ch => bif skR p first ch || !fitV p (first ++ [ch]) then [] else allR p f (first ++ [ch])).take (most + 1).toNat
  | [], out, ho => by rw [List.flatMap_nil, List.append_nil, take_all (by omega)]; rfl
  | ch :: cs, out, ho => by
    by_cases hf : (out.length : Int) ≤ most
    · rw [List.foldl_cons, List.flatMap_cons]
      cases hs : skR p first ch || !fitV p (first ++ [ch])
      · have e : shStep p first most (shF p f) out ch = out ++ (allR p f (first ++ [ch])).take (most - out.length + 1).toNat := by
          unfold shStep
          rw [decide_eq_true hf, hs, ih _ _ (by omega)]; rfl
        rw [e, fold_cut h0 ih cs _ (by rw [List.length_append, List.length_take]; omega)]
        simp only [cond_false]
        rw [List.append_assoc, List.take_append (l₁ := out), List.take_append (l₁ := out)]
        congr 1
        have e2 : (most + 1).toNat - out.length = (most - out.length + 1).toNat := by omega
        rw [e2]
        by_cases hl : (allR p f (first ++ [ch])).length ≤ (most - out.length + 1).toNat
        · rw [take_all hl]
        · rw [List.take_append_of_le_length (by rw [List.length_take]; omega), List.take_append_of_le_length (by omega), List.take_take, Nat.min_self]
      · have e : shStep p first most (shF p f) out ch = out := by unfold shStep; rw [hs]; simp
        rw [e, fold_cut h0 ih cs _ ho]
        simp only [cond_true, List.nil_append]
    · have e : (ch :: cs).foldl (shStep p first most (shF p f)) out = out := fold_full _ _ (by omega)
      rw [e, List.take_append_of_le_length (by omega), take_all (by omega)]
theorem sh_cut : ∀ (f : Nat) (first : List Int) (most : Int), 0 ≤ most → shF p f first most = (allR p f first).take (most + 1).toNat
  | 0, first, most, h => by
    rw [shF, allR]
    cases legalV p first
    · simp only [cond_false, List.take_nil]
    · rw [take_all (by simp; omega)]
  | f + 1, first, most, h => by
    rw [shF, allR, fold_cut h (fun l m hm => sh_cut f l m hm) _ _ (by simp; omega), List.nil_append]
/-! #### what is legal fits -/
theorem isTo_of {sheet : List Int} (h : ∀ (k : Nat) (y : Int), sheet[k]? = some y → y = -1 ∨ (0 ≤ perI p y ∧ y ∉ sheet.take k)) : ∀ K, isTo p sheet K = true
  | 0 => rfl
  | K + 1 => by
    rw [isTo, isTo_of h K, Bool.true_and]
    cases hy : sheet[K]? with
    | none => rfl
    | some y =>
      rcases h K y hy with rfl | ⟨h1, h2⟩
      · rfl
      · have : inV (sheet.take K) y = false := by
          cases hi : inV (sheet.take K) y
          · rfl
          · exact absurd (inV_iff.1 hi) h2
        simp only [this, Bool.or_false]
        rw [decide_eq_false (p := perI p y < 0) (by omega)]; simp
/-- A sheet of numbers, as one of players. -/
theorem sheet_is (hq : p.Ok) {v : List Int} (hl : (v.length : Int) = p.size) (hv : ∀ x ∈ v, InP p x) (hr : NoRep v) : isShV p (v.map (plyV p)) = true := by
  rw [isShV, List.length_map, decide_eq_true hl, Bool.and_true]
  refine isTo_of (fun k y hy => ?_) _
  rw [List.getElem?_map] at hy
  obtain ⟨n, hn, rfl⟩ := Option.map_eq_some_iff.1 hy
  have hin := hv n (List.mem_of_getElem? hn)
  rcases ply_sh hq hin with h | ⟨h1, h2⟩
  · exact .inl h
  · refine .inr ⟨h2, fun hm => ?_⟩
    rw [← List.map_take, List.mem_map] at hm
    obtain ⟨m, hm, he⟩ := hm
    have hmv := List.mem_of_mem_take hm
    have e := ply_inj hq (hv m hmv) hin he
    subst e
    obtain ⟨j, hj, hj2⟩ := List.getElem_of_mem hm
    rw [List.length_take] at hj
    rw [List.getElem_take] at hj2
    have hj3 : v[j]? = some m := by rw [List.getElem?_eq_getElem (by omega), hj2]
    have := hr j k m hj3 hn (fun e => h1 ((ply_neg hq hin).2 e))
    omega
theorem whole_enum (hq : p.Ok) {v : List Int} (hl : (v.length : Int) = p.size) (hv : ∀ x ∈ v, InP p x) (hr : NoRep v) (hc : (v.count (-1) : Int) ≤ byesV p) : wholeV p v = true := by
  rw [wholeV, Bool.not_eq_true', List.any_eq_false]
  intro x hx hno
  obtain ⟨i, hi, rfl⟩ := List.getElem_of_mem hx
  have hper := per_of hq (List.getElem?_eq_getElem hi)
  rw [hper, ← inV_has, Bool.not_eq_true'] at hno
  have hnm : (i : Int) ∉ v := fun h => by rw [inV_iff.2 h] at hno; cases hno
  have h1 := pigeon ((v.filter fun y => !decide (y = -1)).map Int.toNat) ((List.range p.ps.length).erase i) ?_ ?_
  · rw [List.length_map, List.length_erase_of_mem (List.mem_range.2 hi), List.length_range] at h1
    have h2 := filter_sum (fun y => decide (y = -1)) v
    have h3 : (v.filter fun y => decide (y = -1)).length = v.count (-1) := by
      rw [List.count_eq_length_filter]
      congr 1
    unfold byesV at hc
    omega
  · rw [List.nodup_iff_pairwise_ne, List.pairwise_map, List.pairwise_filter, List.pairwise_iff_getElem]
    intro a b ha hb hab h3 h4 he
    simp only [Bool.not_eq_true', decide_eq_false_iff_not] at h3 h4
    have h5 := (hv _ (List.getElem_mem ha)).resolve_left h3
    have h6 := (hv _ (List.getElem_mem hb)).resolve_left h4
    have he2 : v[a] = v[b] := by omega
    have := hr a b v[a] (List.getElem?_eq_getElem ha) (by rw [List.getElem?_eq_getElem hb, he2]) h3
    omega
  · intro y hy
    obtain ⟨x, hx, rfl⟩ := List.mem_map.1 hy
    rw [List.mem_filter, Bool.not_eq_true', decide_eq_false_iff_not] at hx
    have h5 := (hv x hx.1).resolve_left hx.2
    have hne : x.toNat ≠ i := fun e => hnm (by rw [show (i : Int) = x by omega]; exact hx.1)
    exact (List.mem_erase_of_ne hne).2 (List.mem_range.2 (by omega))
theorem legal_ob (hb : pOk p = true) {v : List Int} (hl : (v.length : Int) = p.size) (hv : ∀ x ∈ v, InP p x) (hr : NoRep v) (hc : (v.count (-1) : Int) ≤ byesV p) : legalV p (v.map (plyV p)) = obTo p v v.length := by
  have hq := p_ok hb
  rw [← legal_eq hb (sheet_is hq hl hv hr), map_num hq hv, obeysV, whole_enum hq hl hv hr hc, Bool.and_true]
/-- What is in no sheet that obeys does not fit: each first part of a sheet that obeys fits. -/
theorem fit_ob (hq : p.Ok) {v : List Int} (hl : (v.length : Int) = p.size) (hv : ∀ x ∈ v, InP p x) (ho : obTo p v v.length = true) {k : Nat} (hk : k < v.length) : fitV p ((v.take (k + 1)).map (plyV p)) = true := by
  have hz := hq.z
  have hqn := hq.n
  have hqs := hq.s
  have hob := (obTo_iff p v v.length).1 ho
  have hlen : ((v.take (k + 1)).map (plyV p)).length - 1 = k := by rw [List.length_map, List.length_take]; omega
  have hget : ∀ j, j ≤ k → ((v.take (k + 1)).map (plyV p)).getD j 0 = plyV p (v.getD j 0) := fun j hj => by
    rw [List.getD_eq_getElem?_getD, List.getElem?_map, List.getElem?_take, if_pos (by omega), getD_some (l := v) (k := j) (by omega)]; rfl
  have hin : ∀ j, j < v.length → InP p (v.getD j 0) := fun j hj => hv _ (List.mem_of_getElem? (getD_some hj))
  rw [fitV, hlen, Bool.and_eq_true, Bool.not_eq_true']
  constructor
  · rw [fitF, hget k (Nat.le_refl _), hget (k - 1) (by omega), ply_num hq (hin _ hk), ply_num hq (hin _ (by omega))]
    by_cases hm : (k : Int) % 2 = 1
    · have := (hob k hk).2 (by omega)
      rw [matchV_iff] at this
      rw [decide_eq_true hm, this.2.1]; rfl
    · rw [decide_eq_false hm]; rfl
  · rw [hget k (Nat.le_refl _)]
    have hseat := (seatV_iff p k (v.getD k 0)).1 (hob k hk).1
    have hik := hin k hk
    have key : ∀ s : Nat, (s : Int) < p.seeds → fitS p k (plyV p (v.getD k 0)) s = true := fun s hs => by
      have hx : InP p (s : Int) := .inr (by omega)
      have he : decide (plyV p (v.getD k 0) = (psAt p s).player) = decide (v.getD k 0 = (s : Int)) := by
        have e1 : (psAt p s).player = plyV p (s : Int) := by
          have : (s : Int) ≠ -1 := by omega
          rw [plyV, decide_eq_false this]; rfl
        rw [e1]
        exact decide_eq_decide.2 ⟨fun h => ply_inj hq hik hx h, fun h => by rw [h]⟩
      generalize v.getD k 0 = y at hseat he hik
      rw [fitS, he]
      by_cases h0 : (s : Int) = 0
      · rw [decide_eq_true h0]
        simp only [cond_true]
        rw [beq_iff]
        omega
      · rw [decide_eq_false h0]
        simp only [cond_false]
        by_cases h1 : (s : Int) = 1
        · rw [decide_eq_true h1]
          simp only [cond_true]
          rw [beq_iff]
          omega
        · rw [decide_eq_false h1]
          simp only [cond_false]
          rw [Bool.not_eq_true', ← Bool.not_eq_true]
          simp only [Bool.and_eq_true, Bool.not_eq_true', decide_eq_true_eq, decide_eq_false_iff_not]
          omega
    have : ∀ S : Nat, (S : Int) ≤ p.seeds → fitTo p k (plyV p (v.getD k 0)) S = true := fun S => by
      induction S with
      | zero => intro _; rfl
      | succ S ih => intro h; rw [fitTo, ih (by omega), key S (by omega)]; rfl
    exact this _ (by omega)
/-- The document's draws: all sheets of players that are legal. -/
theorem all_enum (hb : pOk p = true) : ∀ (f : Nat) (l : List Int) (byes : Int), (∀ x ∈ l, InP p x) → NoRep l → 0 ≤ byes → ((l.length + f : Nat) : Int) = p.size → byes + l.count (-1) = byesV p →
    allR p f (l.map (plyV p)) = ((enumV p f l byes).filter fun v => obTo p v v.length).map fun v => v.map (plyV p)
  | 0, l, byes, hl, hr, h0, hz, hc => by
    rw [allR, enumV, legal_ob hb (by simpa using hz) hl hr (by omega), List.filter_cons]
    cases obTo p l l.length <;> rfl
  | f + 1, l, byes, hl, hr, h0, hz, hc => by
    have hq := p_ok hb
    rw [allR, enumV, List.filter_flatMap, List.map_flatMap, cho_rk hq, List.flatMap_map]
    refine flatMap_congr_ fun n hn => ?_
    have hin := rk_mem.1 hn
    have hsk : skR p (l.map (plyV p)) (plyV p n) = skE l byes n := by
      rw [skR, skE, ply_dec hq hin, ply_has hq hl hin, ply_count hq hl]
      have e : p.size - p.ps.length = byesV p := rfl
      rw [e]
      unfold leftB
      by_cases e : n = -1
      · rw [decide_eq_true e]
        simp only [Bool.true_and, Bool.not_true, Bool.false_and, Bool.or_false, cond_true]
        exact decide_eq_decide.2 (by omega)
      · rw [decide_eq_false e]
        simp only [Bool.false_and, Bool.not_false, Bool.true_and, Bool.false_or, cond_false]
        rw [decide_eq_false (p := byes < 0) (by omega), Bool.false_or]
    rw [hsk]
    cases hs : skE l byes n
    · have hs' := hs
      simp only [skE, Bool.or_eq_false_iff, decide_eq_false_iff_not, Bool.and_eq_false_iff, Bool.not_eq_false', decide_eq_true_eq] at hs'
      have hnm : n = -1 ∨ n ∉ l := hs'.2.imp id fun h => by rw [← inV_has] at h; exact fun hm => by rw [inV_iff.2 hm] at h; cases h
      have hl2 : ∀ x ∈ l ++ [n], InP p x := fun x hx => by
        rcases List.mem_append.1 hx with hx | hx
        · exact hl x hx
        · simp only [List.mem_singleton] at hx; subst hx; exact hin
      have hr2 := norep_add hr hnm
      have hz2 : (((l ++ [n]).length + f : Nat) : Int) = p.size := by rw [List.length_append]; simp; omega
      have hc2 : leftB byes n + (l ++ [n]).count (-1) = byesV p := by
        rw [List.count_append]
        unfold leftB
        by_cases e : n = -1
        · subst e
          rw [decide_eq_true rfl]
          simp only [cond_true, List.count_singleton_self]
          omega
        · rw [decide_eq_false e]
          have : List.count (-1) [n] = 0 := by rw [List.count_eq_zero]; simp; exact fun h => e h.symm
          simp only [cond_false]
          omega
      have hih := all_enum hb f (l ++ [n]) (leftB byes n) hl2 hr2 (by omega) hz2 hc2
      have hmap : l.map (plyV p) ++ [plyV p n] = (l ++ [n]).map (plyV p) := by rw [List.map_append]; rfl
      rw [hmap]
      simp only [Bool.false_or, cond_false]
      cases hfit : fitV p ((l ++ [n]).map (plyV p))
      · simp only [Bool.not_false, cond_true]
        symm
        rw [List.map_eq_nil_iff, List.filter_eq_nil_iff]
        intro v hv hov
        obtain ⟨h1, h2, h3, _⟩ := enum_mem f _ _ hl2 hr2 (by omega) v hv
        have := fit_ob hq (v := v) (k := l.length) (by omega) h3 hov (by rw [h1, List.length_append]; simp; omega)
        have e : v.take (l.length + 1) = l ++ [n] := by rw [List.length_append] at h2; exact h2
        rw [e, hfit] at this
        cases this
      · simp only [Bool.not_true, cond_false]
        exact hih
    · simp
def refAll (p : Pl) : List (List Int) := (drawsV p).map fun v => v.map (plyV p)
/-- All draws, the document's and the program's. -/
theorem ref_all (hb : pOk p = true) : allR p p.size.toNat [] = refAll p := by
  have hq := p_ok hb
  have hz := hq.z
  have hqn := hq.n
  have h0 : 0 ≤ byesV p := by unfold byesV; omega
  have hn : NoRep [] := fun i j y h => by simp at h
  have := all_enum hb p.size.toNat [] (byesV p) (fun x hx => by cases hx) hn h0 (by simp; omega) (by simp)
  rw [refAll, drawsV, more_enum _ _ _ (fun x hx => by cases hx) hn h0 rfl]
  exact this
theorem sh_all (hb : pOk p = true) {most : Int} (h : 0 ≤ most) : shF p p.size.toNat [] most = (refAll p).take (most + 1).toNat := by
  rw [sh_cut _ _ _ h, ref_all hb]
end
end Go.Proofs.Ytjkoaifjmcgpfaa
