/- Plain laws: the program's draws are the document's. -/
import Derived.Test.YtjkoaifjmcgpfaaDU
namespace Go.Proofs.Ytjkoaifjmcgpfaa
open Go Go.RowKit

section
variable {p : Pl}
/-! #### numbers and players -/
theorem flatMap_congr_ {α β : Type} {l : List α} {f g : α → List β} (h : ∀ x ∈ l, f x = g x) : l.flatMap f = l.flatMap g := by
  induction l with
  | nil => rfl
  | cons x l ih => rw [List.flatMap_cons, List.flatMap_cons, h x (by simp), ih fun y hy => h y (List.mem_cons_of_mem _ hy)]
theorem ply_none : plyV p (-1) = -1 := rfl
theorem ply_num (hq : p.Ok) {n : Int} (h : InP p n) : numV p (plyV p n) = n := by
  rcases h with rfl | h
  · rfl
  · have hx := psAt_eq h
    have := (num_of hq hx).1
    have hn : n ≠ -1 := by omega
    rw [plyV, decide_eq_false hn]
    simp only [cond_false]
    rw [this]; omega
theorem ply_inj (hq : p.Ok) {n m : Int} (hn : InP p n) (hm : InP p m) (h : plyV p n = plyV p m) : n = m := by
  rw [← ply_num hq hn, ← ply_num hq hm, h]
theorem ply_neg (hq : p.Ok) {n : Int} (hn : InP p n) : plyV p n = -1 ↔ n = -1 :=
  ⟨fun h => ply_inj hq hn (.inl rfl) h, fun h => by rw [h]; rfl⟩
theorem ply_dec (hq : p.Ok) {n : Int} (hn : InP p n) : decide (plyV p n = -1) = decide (n = -1) := decide_eq_decide.2 (ply_neg hq hn)
theorem ply_sh (hq : p.Ok) {n : Int} (hn : InP p n) : ShP p (plyV p n) := by
  rcases hn with rfl | h
  · exact .inl rfl
  · have hx := psAt_eq h
    have h1 := num_of hq hx
    have h2 := per_of hq hx
    have hn : n ≠ -1 := by omega
    rw [plyV, decide_eq_false hn]
    exact .inr ⟨h1.2, by simp only [cond_false]; omega⟩
theorem map_num (hq : p.Ok) {v : List Int} (hv : ∀ x ∈ v, InP p x) : (v.map (plyV p)).map (numV p) = v := by
  rw [List.map_map]
  conv => rhs; rw [← List.map_id v]
  exact List.map_congr_left fun x hx => ply_num hq (hv x hx)
theorem ply_has (hq : p.Ok) {l : List Int} {n : Int} (hl : ∀ x ∈ l, InP p x) (hn : InP p n) : inV (l.map (plyV p)) (plyV p n) = hasV l n := by
  rw [Bool.eq_iff_iff, inV_iff, ← inV_has, inV_iff, List.mem_map]
  exact ⟨fun ⟨x, hx, e⟩ => ply_inj hq (hl x hx) hn e ▸ hx, fun h => ⟨n, h, rfl⟩⟩
theorem ply_count (hq : p.Ok) : ∀ {l : List Int}, (∀ x ∈ l, InP p x) → (l.map (plyV p)).count (-1) = l.count (-1)
  | [], _ => rfl
  | x :: l, h => by
    have ih := ply_count hq (l := l) fun y hy => h y (List.mem_cons_of_mem _ hy)
    have hx := ply_neg hq (h x (by simp))
    rw [List.map_cons, List.count_cons, List.count_cons, ih]
    by_cases e : x = -1
    · simp [e, ply_none]
    · have e2 : ¬ plyV p x = -1 := fun h => e (hx.1 h)
      simp [e, e2]
/-! #### the choices -/
theorem ins_srt {l : List Int} {n : Int} (hl : l.Pairwise (· < ·)) (hn : n ∉ l) : (insL l n).Pairwise (· < ·) := by
  have e := List.takeWhile_append_dropWhile (p := fun x => decide (x < n)) (l := l)
  have hl' := hl
  rw [← e] at hl'
  obtain ⟨h1, h2, h3⟩ := List.pairwise_append.1 hl'
  have hlt : ∀ x ∈ l.takeWhile (fun x => decide (x < n)), x < n := fun x hx => of_decide_eq_true (List.all_eq_true.1 (List.all_takeWhile (p := fun x => decide (x < n)) (l := l)) x hx)
  have hge : ∀ x ∈ l.dropWhile (fun x => decide (x < n)), n < x := fun x hx => by
    have hm : x ∈ l := by rw [← e]; exact List.mem_append.2 (.inr hx)
    have hne : x ≠ n := fun h => hn (h ▸ hm)
    cases hd : l.dropWhile (fun x => decide (x < n)) with
    | nil => rw [hd] at hx; cases hx
    | cons y t =>
      have hy : decide (y < n) = false := by
        have := List.head_dropWhile_not (fun x => decide (x < n)) (l := l) (by rw [hd]; simp)
        simpa [hd] using this
      have hy := of_decide_eq_false hy
      rw [hd] at hx h2
      rcases List.mem_cons.1 hx with rfl | hx
      · omega
      · have := (List.pairwise_cons.1 h2).1 x hx
        omega
  refine List.pairwise_append.2 ⟨h1, List.pairwise_cons.2 ⟨hge, h2⟩, fun a ha b hb => ?_⟩
  rcases List.mem_cons.1 hb with rfl | hb
  · exact hlt a ha
  · exact h3 a ha b hb
theorem ord_srt (hq : p.Ok) : ∀ k, k ≤ p.ps.length → (ordTo p.ps k).Pairwise (· < ·)
  | 0, _ => List.Pairwise.nil
  | k + 1, hk => by
    have hx : p.ps[k]? = some p.ps[k] := List.getElem?_eq_getElem (by omega)
    rw [ord_succ hx]
    refine ins_srt (ord_srt hq k (by omega)) fun h => ?_
    obtain ⟨j, x, hj, h1, h2⟩ := (ord_mem k (by omega)).1 h
    exact hq.nd j k _ _ hj h1 hx h2
theorem ps_key {i : Nat} {x : Ps} (h : p.ps[i]? = some x) : (psAt p i).player = x.player := by unfold psAt; rw [Int.toNat_natCast, h]; rfl
theorem cho_rk (hq : p.Ok) : choV p = (rkV p).map (plyV p) := by
  have hlt : ∀ x y, ltP p x y = decide ((psAt p x).player < (psAt p y).player) := fun x y => by
    unfold ltP cmpP
    exact decide_eq_decide.2 (by omega)
  have hnd : (idxs p.ps.length).Pairwise fun a b => (psAt p a).player ≠ (psAt p b).player := by
    unfold idxs
    rw [List.pairwise_map]
    refine List.Pairwise.imp_of_mem ?_ (List.pairwise_lt_range (n := p.ps.length))
    intro i j hi hj hij
    rw [List.mem_range] at hi hj
    rw [ps_key (List.getElem?_eq_getElem hi), ps_key (List.getElem?_eq_getElem hj)]
    exact hq.nd i j _ _ hij (List.getElem?_eq_getElem hi) (List.getElem?_eq_getElem hj)
  have hs : Srt (fun n => (psAt p n).player) (sortV (ltP p) (idxs p.ps.length)) := sortTo_srt (fun x _ y _ => hlt x y) hnd _ (Nat.le_refl _)
  have hm : ∀ x ∈ sortV (ltP p) (idxs p.ps.length), plyV p x = (psAt p x).player := fun x hx => by
    rw [sortV_mem, idxs_mem] at hx
    have : x ≠ -1 := by omega
    rw [plyV, decide_eq_false this]; rfl
  rw [choV, rkV, List.map_cons]
  congr 1
  refine srt_uniq (key := fun x => x) (ord_srt hq _ (Nat.le_refl _)) ?_ fun y => ?_
  · show List.Pairwise _ _
    rw [List.pairwise_map]
    refine List.Pairwise.imp_of_mem ?_ hs
    intro a b ha hb hab
    rw [hm a ha, hm b hb]; exact hab
  · rw [ord_mem _ (Nat.le_refl _), List.mem_map]
    constructor
    · rintro ⟨j, x, hj, h1, h2⟩
      have hj' : (j : Int) ∈ sortV (ltP p) (idxs p.ps.length) := by rw [sortV_mem, idxs_mem]; omega
      exact ⟨j, hj', by rw [hm _ hj', ps_key h1, h2]⟩
    · rintro ⟨n, hn, e⟩
      have hn' := hn
      rw [sortV_mem, idxs_mem] at hn'
      have hx := psAt_eq (p := p) (n := n) hn'
      exact ⟨n.toNat, _, by omega, hx, by rw [← e, hm n hn]⟩
/-! #### all sheets -/
def skE (l : List Int) (byes n : Int) : Bool := decide (leftB byes n < 0) || (!decide (n = -1) && hasV l n)
def enumV (p : Pl) : Nat → List Int → Int → List (List Int)
  | 0, l, _ => [l]
  | f + 1, l, byes => (rkV p).flatMap fun n => bif skE l byes n then [] else enumV p f (l ++ [n]) (leftB byes n)
/-- Numbers of persons, each at most once. -/
def NoRep (v : List Int) : Prop := ∀ (i j : Nat) (y : Int), v[i]? = some y → v[j]? = some y → y ≠ -1 → i = j
theorem norep_add {l : List Int} {n : Int} (h : NoRep l) (hn : n = -1 ∨ n ∉ l) : NoRep (l ++ [n]) := by
  have key : ∀ i y, (l ++ [n])[i]? = some y → (i < l.length ∧ l[i]? = some y) ∨ (i = l.length ∧ y = n) := fun i y h => by
    rcases Nat.lt_trichotomy i l.length with hi | hi | hi
    · rw [List.getElem?_append_left hi] at h; exact .inl ⟨hi, h⟩
    · subst hi; rw [List.getElem?_append_right (Nat.le_refl _)] at h; simp at h; exact .inr ⟨rfl, h.symm⟩
    · rw [List.getElem?_eq_none (by rw [List.length_append]; simp; omega)] at h; cases h
  intro i j y hi hj hy
  rcases key i y hi with ⟨h1, h2⟩ | ⟨h1, h2⟩ <;> rcases key j y hj with ⟨h3, h4⟩ | ⟨h3, h4⟩
  · exact h i j y h2 h4 hy
  · subst h4
    rcases hn with rfl | hn
    · exact absurd rfl hy
    · exact absurd (List.mem_of_getElem? h2) hn
  · subst h2
    rcases hn with rfl | hn
    · exact absurd rfl hy
    · exact absurd (List.mem_of_getElem? h4) hn
  · omega
theorem enum_mem : ∀ (f : Nat) (l : List Int) (byes : Int), (∀ x ∈ l, InP p x) → NoRep l → 0 ≤ byes → ∀ v ∈ enumV p f l byes, v.length = l.length + f ∧ v.take l.length = l ∧ (∀ x ∈ v, InP p x) ∧ NoRep v ∧ (v.count (-1) : Int) ≤ l.count (-1) + byes
  | 0, l, byes, hl, hr, h0, v, hv => by
    rw [enumV, List.mem_singleton] at hv
    subst hv
    exact ⟨rfl, List.take_length, hl, hr, by omega⟩
  | f + 1, l, byes, hl, hr, h0, v, hv => by
    rw [enumV, List.mem_flatMap] at hv
    obtain ⟨n, hn, hv⟩ := hv
    cases hs : skE l byes n
    · rw [hs] at hv
      simp only [skE, Bool.or_eq_false_iff, decide_eq_false_iff_not, Bool.and_eq_false_iff, Bool.not_eq_false', decide_eq_true_eq] at hs
      have hnm : n = -1 ∨ n ∉ l := hs.2.imp id fun h => by rw [← inV_has] at h; exact fun hm => by rw [inV_iff.2 hm] at h; cases h
      obtain ⟨h1, h2, h3, h4, h5⟩ := enum_mem f (l ++ [n]) (leftB byes n) (fun x hx => by
        rcases List.mem_append.1 hx with hx | hx
        · exact hl x hx
        · simp only [List.mem_singleton] at hx; subst hx; exact rk_mem.1 hn) (norep_add hr hnm) (by omega) v hv
      rw [List.length_append] at h1 h2
      refine ⟨by simp at h1; omega, ?_, h3, h4, ?_⟩
      · have := congrArg (List.take l.length) h2
        rw [List.take_take, List.take_append_of_le_length (Nat.le_refl _), List.take_length] at this
        have hmin : min l.length (l.length + [n].length) = l.length := by simp
        rw [hmin] at this; exact this
      · rw [List.count_append] at h5
        unfold leftB at h5
        by_cases e : n = -1
        · subst e
          rw [decide_eq_true rfl] at h5
          simp only [cond_true, List.count_singleton_self] at h5
          omega
        · rw [decide_eq_false e] at h5
          have : List.count (-1) [n] = 0 := by rw [List.count_eq_zero]; simp; exact fun h => e h.symm
          simp only [cond_false] at h5
          omega
    · rw [hs] at hv; cases hv
theorem obTo_take {v l : List Int} (h : v.take l.length = l) : ∀ K, K ≤ l.length → obTo p v K = obTo p l K
  | 0, _ => rfl
  | K + 1, hK => by
    have e : ∀ j, j < l.length → v.getD j 0 = l.getD j 0 := fun j hj => by
      rw [← h, List.getD_eq_getElem?_getD, List.getD_eq_getElem?_getD, List.getElem?_take, if_pos hj]
    rw [obTo, obTo, obTo_take h K (by omega), e K (by omega), e (K - 1) (by omega)]
theorem last_getD {l : List Int} {n : Int} (h : 0 < l.length) : (l ++ [n]).getD (l.length - 1) 0 = lastV l := by
  rw [lastV, List.getLast?_eq_getElem?, List.getD_eq_getElem?_getD, List.getElem?_append_left (by omega)]
theorem ob_step (l : List Int) (n : Int) (hob : obTo p l l.length = true) : obTo p (l ++ [n]) (l.length + 1) = (seatV p l.length n && !(decide ((l.length : Int) % 2 = 1) && !matchV p (lastV l) n)) := by
  rw [obTo, obTo_take (l := l) (by rw [List.take_append_of_le_length (Nat.le_refl _), List.take_length]) _ (Nat.le_refl _), hob, Bool.true_and]
  have e1 : (l ++ [n]).getD l.length 0 = n := by rw [List.getD_eq_getElem?_getD, List.getElem?_append_right (Nat.le_refl _)]; simp
  rw [e1]
  have e2 : decide (l.length % 2 = 1) = decide ((l.length : Int) % 2 = 1) := decide_eq_decide.2 (by omega)
  rw [e2]
  by_cases ho : (l.length : Int) % 2 = 1
  · rw [last_getD (by omega)]
  · rw [decide_eq_false ho]; simp
/-- The program's draws: all sheets of which the slots obey. -/
theorem more_enum : ∀ (f : Nat) (l : List Int) (byes : Int), (∀ x ∈ l, InP p x) → NoRep l → 0 ≤ byes → obTo p l l.length = true → moreV p (rkV p) f l byes = (enumV p f l byes).filter fun v => obTo p v v.length
  | 0, l, byes, _, _, _, hob => by rw [moreV, enumV, List.filter_cons, hob]; rfl
  | f + 1, l, byes, hl, hr, h0, hob => by
    rw [moreV, enumV, List.filter_flatMap]
    refine flatMap_congr_ fun n hn => ?_
    have hsk : skipV p l byes n = (skE l byes n || !(seatV p l.length n && !(decide ((l.length : Int) % 2 = 1) && !matchV p (lastV l) n))) := by
      unfold skipV skE
      rw [Bool.not_and, Bool.not_not, Bool.or_assoc]
    rw [hsk]
    cases hs : skE l byes n
    · simp only [Bool.false_or, cond_false]
      have hs' := hs
      simp only [skE, Bool.or_eq_false_iff, decide_eq_false_iff_not, Bool.and_eq_false_iff, Bool.not_eq_false', decide_eq_true_eq] at hs'
      have hnm : n = -1 ∨ n ∉ l := hs'.2.imp id fun h => by rw [← inV_has] at h; exact fun hm => by rw [inV_iff.2 hm] at h; cases h
      have hl2 : ∀ x ∈ l ++ [n], InP p x := fun x hx => by
        rcases List.mem_append.1 hx with hx | hx
        · exact hl x hx
        · simp only [List.mem_singleton] at hx; subst hx; exact rk_mem.1 hn
      have hr2 := norep_add hr hnm
      have hst := ob_step (p := p) l n hob
      cases hb : (seatV p l.length n && !(decide ((l.length : Int) % 2 = 1) && !matchV p (lastV l) n))
      · rw [hb] at hst
        simp only [Bool.not_false, cond_true]
        symm
        rw [List.filter_eq_nil_iff]
        intro v hv hov
        obtain ⟨h1, h2, _⟩ := enum_mem f _ _ hl2 hr2 (by omega) v hv
        rw [List.length_append] at h1 h2
        have h3 : obTo p v (l.length + 1) = false := by
          rw [obTo_take (l := l ++ [n]) (by rw [List.length_append]; exact h2) _ (by simp), hst]
        rw [obTo_le h3 (by simp at h1; omega)] at hov
        cases hov
      · rw [hb] at hst
        simp only [Bool.not_true, cond_false]
        exact more_enum f _ _ hl2 hr2 (by omega) (by rw [List.length_append]; exact hst)
    · simp
end
end Go.Proofs.Ytjkoaifjmcgpfaa
