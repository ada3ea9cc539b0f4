/- Plain laws of the equal chance: the numbers of Facing are together all draws; nobody faces itself or its nation; exchanging two persons. -/
import Derived.Test.YtjkoaifjmcgpfaaED
namespace Go.Proofs.Ytjkoaifjmcgpfaa
open Go Go.RowKit

def swp (a b n : Int) : Int := bif decide (n = a) then b else bif decide (n = b) then a else n
theorem swp_l (a b : Int) : swp a b a = b := by simp [swp]
theorem swp_r (a b : Int) : swp a b b = a := by
  unfold swp
  by_cases h : b = a
  · subst h; simp
  · simp [h]
theorem swp_o {a b n : Int} (h1 : n ≠ a) (h2 : n ≠ b) : swp a b n = n := by simp [swp, h1, h2]
theorem swp_cases (a b n : Int) : (n = a ∧ swp a b n = b) ∨ (n = b ∧ swp a b n = a) ∨ (n ≠ a ∧ n ≠ b ∧ swp a b n = n) := by
  by_cases h1 : n = a
  · exact .inl ⟨h1, by rw [h1, swp_l]⟩
  · by_cases h2 : n = b
    · exact .inr (.inl ⟨h2, by rw [h2, swp_r]⟩)
    · exact .inr (.inr ⟨h1, h2, swp_o h1 h2⟩)
theorem swp_swp (a b n : Int) : swp a b (swp a b n) = n := by
  rcases swp_cases a b n with ⟨h, e⟩ | ⟨h, e⟩ | ⟨h1, h2, e⟩
  · rw [e, swp_r, h]
  · rw [e, swp_l, h]
  · rw [e, e]
theorem swp_inj {a b n m : Int} (h : swp a b n = swp a b m) : n = m := by rw [← swp_swp a b n, h, swp_swp]
theorem C_swapped (n a b : Int) (w : World) : C0 Try.prog 28 [.int .i64 n, .int .i64 a, .int .i64 b] w (.int .i64 (swp a b n)) := by
  refine ⟨en Try.func28 Try.ntmps28 (St.init w) (h := fun F => ?_)⟩
  refine sq (h := ?_)
  refine rg (h := ?_)
  refine WL.y (hy := asg) (h := ?_)
  refine nl (h := ?_)
  refine q_seq (h := ?_)
  refine sq (h := ?_)
  refine sq (h := ?_)
  refine rg (h := ?_)
  refine WL.y (hy := mv) (h := ?_)
  refine WL.y (hy := mv) (h := ?_)
  refine WL.y (hy := eql) (h := ?_)
  refine nl (h := ?_)
  refine q_seq (h := ?_)
  refine cd (by exact rfl) (fun h0 => ?_) (fun h0 => ?_)
  · skip
    have hE : swp a b n = b := by rw [swp, h0]; rfl
    refine sq (h := ?_)
    refine rg (h := ?_)
    refine WL.y (hy := mv) (h := ?_)
    refine WL.y (hy := asg) (h := ?_)
    refine nl (h := ?_)
    refine q_seq (h := ?_)
    refine rtn (h := ?_)
    refine q_then_ret (h := ?_)
    refine q_ret (hR := ?_)
    rw [hE]
    exact fun w hS => ⟨rfl, hS.sub (by repeat (first | exact SubL.nil | (apply SubL.cons; (repeat (first | exact At.here | apply At.there))) | exact SubL.refl _ | apply SubL.skip))⟩
  · skip
    have g1 := h0
    refine skp (h := ?_)
    refine q_seq (h := ?_)
    refine sq (h := ?_)
    refine sq (h := ?_)
    refine rg (h := ?_)
    refine WL.y (hy := mv) (h := ?_)
    refine WL.y (hy := mv) (h := ?_)
    refine WL.y (hy := eql) (h := ?_)
    refine nl (h := ?_)
    refine q_seq (h := ?_)
    refine cd (by exact rfl) (fun h1 => ?_) (fun h1 => ?_)
    · skip
      have hE : swp a b n = a := by rw [swp, g1, h1]; rfl
      refine sq (h := ?_)
      refine rg (h := ?_)
      refine WL.y (hy := mv) (h := ?_)
      refine WL.y (hy := asg) (h := ?_)
      refine nl (h := ?_)
      refine q_seq (h := ?_)
      refine rtn (h := ?_)
      refine q_then_ret (h := ?_)
      refine q_ret (hR := ?_)
      rw [hE]
      exact fun w hS => ⟨rfl, hS.sub (by repeat (first | exact SubL.nil | (apply SubL.cons; (repeat (first | exact At.here | apply At.there))) | exact SubL.refl _ | apply SubL.skip))⟩
    · skip
      have hE : swp a b n = n := by rw [swp, g1, h1]; rfl
      refine skp (h := ?_)
      refine q_seq (h := ?_)
      refine sq (h := ?_)
      refine rg (h := ?_)
      refine WL.y (hy := mv) (h := ?_)
      refine WL.y (hy := asg) (h := ?_)
      refine nl (h := ?_)
      refine q_seq (h := ?_)
      refine rtn (h := ?_)
      refine q_ret (hR := ?_)
      rw [hE]
      exact fun w hS => ⟨rfl, hS.sub (by repeat (first | exact SubL.nil | (apply SubL.cons; (repeat (first | exact At.here | apply At.there))) | exact SubL.refl _ | apply SubL.skip))⟩
theorem sum_put {l : List Int} : ∀ {i : Nat}, i < l.length → sumI (l.set i (l.getD i 0 + 1)) = sumI l + 1 := by
  induction l with
  | nil => intro i h; cases h
  | cons x l ih =>
    intro i h
    cases i with
    | zero => simp [sumI]; omega
    | succ i =>
      have := ih (i := i) (by simpa using h)
      rw [List.set_cons_succ, sumI, sumI, List.getD_cons_succ]; omega
theorem sum_rep (n : Nat) : sumI (List.replicate n 0) = 0 := by
  induction n with
  | zero => rfl
  | succ n ih => rw [List.replicate_succ, sumI, ih]; rfl
section
variable {p : Pl}
theorem draws_at {k : Nat} (hk : k < (drawsV p).length) : (drawsV p).getD k [] ∈ drawsV p := by
  rw [List.getD_eq_getElem?_getD, List.getElem?_eq_getElem hk]; exact List.getElem_mem hk
/-- All numbers of Facing are together the number of the draws. -/
theorem fac_sum (hb : pOk p = true) {own : Int} (ho : 0 ≤ own ∧ own < p.ps.length) : ∀ k, k ≤ (drawsV p).length → sumI (facTo p own k) = k
  | 0, _ => sum_rep _
  | k + 1, hk => by
    have hl := oth_lt hb (draws_at (p := p) (k := k) (by omega)) ho
    rw [facTo, bump, sum_put (by rw [fac_len]; omega), fac_sum hb ho k (by omega)]; omega
/-- A number of Facing counts the draws with this other one. -/
theorem fac_cnt (own : Int) (i : Nat) (hi : i ≤ p.ps.length) : ∀ k, k ≤ (drawsV p).length → (facTo p own k).getD i 0 = ((((drawsV p).take k).filter fun v => othN p own v == i).length : Int)
  | 0, _ => by
    rw [facTo, List.getD_eq_getElem?_getD, List.getElem?_eq_getElem (by rw [List.length_replicate]; omega)]
    simp
  | k + 1, hk => by
    have hx : (drawsV p)[k]? = some ((drawsV p).getD k []) := by rw [List.getD_eq_getElem?_getD, List.getElem?_eq_getElem (by omega)]; rfl
    have ih := fac_cnt own i hi k (by omega)
    rw [List.take_add_one, hx, facTo, bump, List.filter_append, List.length_append, Int.natCast_add, ← ih]
    generalize (drawsV p).getD k [] = v
    have hfl := fac_len (p := p) own k
    by_cases e : othN p own v = i
    · rw [e, List.getD_eq_getElem?_getD, List.getElem?_set_self (by omega)]
      simp [List.filter, e]
    · rw [List.getD_eq_getElem?_getD, List.getElem?_set_ne e, ← List.getD_eq_getElem?_getD]
      have e2 : (othN p own v == i) = false := by simpa using e
      simp [List.filter, e2]
theorem fac_all (own : Int) (i : Nat) (hi : i ≤ p.ps.length) : (facTo p own (drawsV p).length).getD i 0 = (((drawsV p).filter fun v => othN p own v == i).length : Int) := by
  rw [fac_cnt own i hi _ (Nat.le_refl _), List.take_length]
theorem dr_mem (hb : pOk p = true) {v : List Int} : v ∈ drawsV p ↔ ((v.length : Int) = p.size ∧ (∀ x ∈ v, InP p x) ∧ NoRep v ∧ (v.count (-1) : Int) ≤ byesV p) ∧ obTo p v v.length = true := by
  refine ⟨dr_enum hb, fun ⟨⟨h1, h2, h3, h4⟩, h5⟩ => ?_⟩
  have hq := p_ok hb
  have hz := hq.z
  have hqn := hq.n
  have h0 : 0 ≤ byesV p := by unfold byesV; omega
  have hn : NoRep [] := fun i j y h => by simp at h
  rw [drawsV, more_enum _ _ _ (fun x hx => by cases hx) hn h0 rfl, List.mem_filter]
  exact ⟨enum_all _ _ _ _ (by simp; omega) rfl h2 h3 (by simpa using h4), h5⟩
/-- The match of a person in a draw: both slots, one after the other. -/
theorem oth_match (hb : pOk p = true) {v : List Int} (hv : v ∈ drawsV p) {own : Int} (ho : 0 ≤ own ∧ own < p.ps.length) {o : Int} {q : Nat} (hq : idxV v own = q) (hvo : v[facN q]? = some o) : o ≠ own ∧ (apartV p own o = true ∨ apartV p o own = true) := by
  obtain ⟨⟨h1, h2, h3, h4⟩, h5⟩ := dr_enum hb hv
  have hz := (p_ok hb).z
  obtain ⟨q', e, hq1, hq2, _⟩ := own_at hb hv ho
  obtain rfl : q' = q := by rw [hq] at e; omega
  have hob := (obTo_iff p v v.length).1 h5
  have hf := facN_lt (S := v.length) (by omega) hq1
  have g1 : v.getD q' 0 = own := by rw [List.getD_eq_getElem?_getD, hq2]; rfl
  have g2 : v.getD (facN q') 0 = o := by rw [List.getD_eq_getElem?_getD, hvo]; rfl
  have hm : ∀ {a b : Int}, matchV p a b = true → apartV p a b = true := fun {a b} h => by
    unfold matchV at h
    cases hc : (decide (byesV p ≤ p.seeds) && ((decide (a = -1) && decide (p.seeds ≤ b)) || (decide (b = -1) && decide (p.seeds ≤ a))))
    · rw [hc] at h
      simp only [cond_false, Bool.and_eq_true] at h
      exact h.1.1
    · rw [hc] at h; cases h
  have hne : facN q' ≠ q' := by unfold facN; split <;> omega
  refine ⟨fun e => ?_, ?_⟩
  · subst e
    exact hne (h3 _ _ _ hvo hq2 (by omega))
  · by_cases hpar : q' % 2 = 1
    · have h := (hob q' hq1).2 hpar
      rw [show q' - 1 = facN q' by unfold facN; split <;> omega, g1, g2] at h
      exact .inr (hm h)
    · have h := (hob (facN q') hf).2 (by unfold facN; split <;> omega)
      rw [show facN q' - 1 = q' by unfold facN; split <;> omega, g1, g2] at h
      exact .inl (hm h)
theorem filter_none {α : Type} {l : List α} {f : α → Bool} (h : ∀ x ∈ l, f x = false) : (l.filter f).length = 0 := by
  rw [List.length_eq_zero_iff, List.filter_eq_nil_iff]
  intro x hx; rw [h x hx]; simp
/-- Nobody faces itself. -/
theorem fac_self (hb : pOk p = true) {a : Nat} (ha : a < p.ps.length) : (facTo p a (drawsV p).length).getD a 0 = 0 := by
  rw [fac_all _ _ (by omega), filter_none]
  · rfl
  intro v hv
  obtain ⟨q, o, hqi, _, _, _, _, _, hvo, hoi, hot⟩ := oth_at hb hv (own := (a : Int)) (by omega)
  have := (oth_match hb hv (by omega) hqi hvo).1
  rw [hot, beq_eq_false_iff_ne]
  rcases hoi with rfl | h
  · show p.ps.length ≠ a; omega
  · rw [decide_eq_false (by omega)]; simp only [cond_false]; omega
/-- Nobody faces one of the same nation. -/
theorem fac_nat (hb : pOk p = true) {a i : Nat} (ha : a < p.ps.length) (hi : i < p.ps.length) (hn : (psAt p i).nation = (psAt p a).nation) (h0 : (psAt p a).nation ≠ 0) : (facTo p a (drawsV p).length).getD i 0 = 0 := by
  rw [fac_all _ _ (by omega), filter_none]
  · rfl
  intro v hv
  obtain ⟨q, o, hqi, _, _, _, _, _, hvo, hoi, hot⟩ := oth_at hb hv (own := (a : Int)) (by omega)
  have hm := (oth_match hb hv (by omega) hqi hvo).2
  rw [hot, beq_eq_false_iff_ne]
  rcases hoi with rfl | h
  · show p.ps.length ≠ i; omega
  · rw [decide_eq_false (by omega)]
    simp only [cond_false]
    intro e
    obtain rfl : o = (i : Int) := by omega
    have hoa : ((i : Int) = -1) = False := by simp
    have hob : ((a : Int) = -1) = False := by simp
    unfold apartV at hm
    simp [hoa, hob, hn, h0] at hm
theorem seat_swp {a b : Nat} (ha : p.seeds ≤ a) (hb : p.seeds ≤ b) (slot n : Int) : seatV p slot (swp a b n) = seatV p slot n := by
  rcases swp_cases a b n with ⟨h, e⟩ | ⟨h, e⟩ | ⟨_, _, e⟩
  · rw [e]; unfold seatV
    by_cases h0 : slot = 0 ∧ 0 < p.seeds
    · rw [decide_eq_true h0.1, decide_eq_true h0.2, decide_eq_false (show ¬ ((b : Int) = 0) by omega), decide_eq_false (show ¬ (n = 0) by omega)]; rfl
    · by_cases h1 : slot = p.size - 1 ∧ 1 < p.seeds
      · rw [decide_eq_true h1.1, decide_eq_true h1.2, decide_eq_false (show ¬ ((b : Int) = 1) by omega), decide_eq_false (show ¬ (n = 1) by omega)]
        have : (decide (slot = 0) && decide (0 < p.seeds)) = false := by simpa using h0
        rw [this]; rfl
      · have h2 : (decide (slot = 0) && decide (0 < p.seeds)) = false := by simpa using h0
        have h3 : (decide (slot = p.size - 1) && decide (1 < p.seeds)) = false := by simpa using h1
        rw [h2, h3, decide_eq_true (show p.seeds ≤ (b : Int) by omega), decide_eq_true (show p.seeds ≤ n by omega), Bool.or_true, Bool.or_true]; rfl
  · rw [e]; unfold seatV
    by_cases h0 : slot = 0 ∧ 0 < p.seeds
    · rw [decide_eq_true h0.1, decide_eq_true h0.2, decide_eq_false (show ¬ ((a : Int) = 0) by omega), decide_eq_false (show ¬ (n = 0) by omega)]; rfl
    · by_cases h1 : slot = p.size - 1 ∧ 1 < p.seeds
      · rw [decide_eq_true h1.1, decide_eq_true h1.2, decide_eq_false (show ¬ ((a : Int) = 1) by omega), decide_eq_false (show ¬ (n = 1) by omega)]
        have : (decide (slot = 0) && decide (0 < p.seeds)) = false := by simpa using h0
        rw [this]; rfl
      · have h2 : (decide (slot = 0) && decide (0 < p.seeds)) = false := by simpa using h0
        have h3 : (decide (slot = p.size - 1) && decide (1 < p.seeds)) = false := by simpa using h1
        rw [h2, h3, decide_eq_true (show p.seeds ≤ (a : Int) by omega), decide_eq_true (show p.seeds ≤ n by omega), Bool.or_true, Bool.or_true]; rfl
  · rw [e]
theorem swp_none {a b : Nat} (n : Int) : (swp a b n = -1) = (n = -1) := by
  apply propext
  rcases swp_cases a b n with ⟨h, e⟩ | ⟨h, e⟩ | ⟨_, _, e⟩ <;> rw [e] <;> omega
theorem swp_seed {a b : Nat} (ha : p.seeds ≤ a) (hb : p.seeds ≤ b) (n : Int) : (p.seeds ≤ swp a b n) = (p.seeds ≤ n) := by
  apply propext
  rcases swp_cases a b n with ⟨h, e⟩ | ⟨h, e⟩ | ⟨_, _, e⟩ <;> rw [e] <;> omega
theorem swp_has {a b : Nat} (h1 : (psAt p a).nation = (psAt p b).nation) (h2 : (psAt p a).qual = (psAt p b).qual) (n : Int) : (psAt p (swp a b n)).nation = (psAt p n).nation ∧ (psAt p (swp a b n)).qual = (psAt p n).qual := by
  rcases swp_cases a b n with ⟨h, e⟩ | ⟨h, e⟩ | ⟨_, _, e⟩ <;> rw [e]
  · subst h; exact ⟨h1.symm, h2.symm⟩
  · subst h; exact ⟨h1, h2⟩
  · exact ⟨rfl, rfl⟩
theorem bye_swp {a b : Nat} (ha : p.seeds ≤ a) (hb : p.seeds ≤ b) (n o : Int) : byeV p (swp a b n) (swp a b o) = byeV p n o := by
  unfold byeV
  rw [decide_eq_decide.2 (iff_of_eq (swp_none (a := a) (b := b) n)), decide_eq_decide.2 (iff_of_eq (swp_seed ha hb n)), decide_eq_decide.2 (iff_of_eq (swp_none (a := a) (b := b) o))]
  by_cases h : p.seeds ≤ n
  · rw [decide_eq_true h]; simp
  · have : swp (a : Int) b n = n := swp_o (by omega) (by omega)
    rw [this]
theorem match_swp {a b : Nat} (ha : p.seeds ≤ a) (hb : p.seeds ≤ b) (h1 : (psAt p a).nation = (psAt p b).nation) (h2 : (psAt p a).qual = (psAt p b).qual) (n o : Int) : matchV p (swp a b n) (swp a b o) = matchV p n o := by
  have hap : apartV p (swp a b n) (swp a b o) = apartV p n o := by
    have hn := swp_has h1 h2 n
    have ho := swp_has h1 h2 o
    unfold apartV
    rw [hn.1, hn.2, ho.1, ho.2, decide_eq_decide.2 (iff_of_eq (swp_none (a := a) (b := b) n)), decide_eq_decide.2 (iff_of_eq (swp_none (a := a) (b := b) o)), decide_eq_decide.2 (show swp (a : Int) b n = swp a b o ↔ n = o from ⟨swp_inj, fun e => by rw [e]⟩)]
  unfold matchV
  rw [hap, bye_swp ha hb, bye_swp ha hb, decide_eq_decide.2 (iff_of_eq (swp_none (a := a) (b := b) n)), decide_eq_decide.2 (iff_of_eq (swp_none (a := a) (b := b) o)), decide_eq_decide.2 (iff_of_eq (swp_seed ha hb n)), decide_eq_decide.2 (iff_of_eq (swp_seed ha hb o))]
theorem count_swp {a b : Nat} : ∀ (v : List Int), (v.map (swp a b)).count (-1) = v.count (-1)
  | [] => rfl
  | x :: v => by
    rw [List.map_cons, List.count_cons, List.count_cons, count_swp v]
    have : (swp (a : Int) b x == -1) = (x == -1) := by rw [Bool.eq_iff_iff, beq_iff_eq, beq_iff_eq]; exact iff_of_eq (swp_none x)
    rw [this]
theorem getD_map {l : List Int} {f : Int → Int} {i : Nat} (h : i < l.length) : (l.map f).getD i 0 = f (l.getD i 0) := by
  rw [List.getD_eq_getElem?_getD, List.getElem?_map, List.getD_eq_getElem?_getD, List.getElem?_eq_getElem h]; rfl
/-- Two persons exchanged in a draw. -/
theorem dr_swp (hb : pOk p = true) {a b : Nat} (ha : a < p.ps.length) (hbl : b < p.ps.length) (sa : p.seeds ≤ a) (sb : p.seeds ≤ b) (h1 : (psAt p a).nation = (psAt p b).nation) (h2 : (psAt p a).qual = (psAt p b).qual) {v : List Int} (hv : v ∈ drawsV p) : v.map (swp a b) ∈ drawsV p := by
  obtain ⟨⟨g1, g2, g3, g4⟩, g5⟩ := (dr_mem hb).1 hv
  refine (dr_mem hb).2 ⟨⟨by rw [List.length_map]; exact g1, fun x hx => ?_, fun i j y hi hj hy => ?_, by rw [count_swp]; exact g4⟩, ?_⟩
  · obtain ⟨z, hz, rfl⟩ := List.mem_map.1 hx
    have := g2 z hz
    rcases swp_cases a b z with ⟨h, e⟩ | ⟨h, e⟩ | ⟨_, _, e⟩ <;> rw [e]
    · exact .inr (by omega)
    · exact .inr (by omega)
    · exact this
  · rw [List.getElem?_map, Option.map_eq_some_iff] at hi hj
    obtain ⟨z, hz, e⟩ := hi
    obtain ⟨z', hz', e'⟩ := hj
    obtain rfl : z = z' := swp_inj (e.trans e'.symm)
    refine g3 i j z hz hz' fun h => hy ?_
    rw [← e]; exact (iff_of_eq (swp_none (a := a) (b := b) z)).2 h
  · rw [List.length_map]
    refine (obTo_iff p _ _).2 fun k hk => ?_
    have := (obTo_iff p v v.length).1 g5 k hk
    rw [getD_map hk, getD_map (i := k - 1) (by omega), seat_swp sa sb, match_swp sa sb h1 h2]
    exact this
theorem oth_swp (hb : pOk p = true) {a b : Nat} (ha : a < p.ps.length) (hbl : b < p.ps.length) {v : List Int} (hv : v ∈ drawsV p) (hv' : v.map (swp a b) ∈ drawsV p) (own : Int) (ho : 0 ≤ own ∧ own < p.ps.length) (ho' : 0 ≤ swp a b own ∧ swp a b own < p.ps.length) : (othN p (swp a b own) (v.map (swp a b)) : Int) = swp a b (othN p own v) := by
  obtain ⟨q, o, hqi, _, _, _, _, _, hvo, hoi, hot⟩ := oth_at hb hv ho
  obtain ⟨q1, hq1, hq2, hq3, hq4⟩ := own_at hb hv ho
  obtain ⟨q', o', hqi', _, _, _, _, _, hvo', hoi', hot'⟩ := oth_at hb hv' ho'
  obtain ⟨q2, hr1, hr2, hr3, hr4⟩ := own_at hb hv' ho'
  obtain rfl : q1 = q := by rw [hqi] at hq1; omega
  obtain rfl : q2 = q' := by rw [hqi'] at hr1; omega
  have hnr := (dr_enum hb hv').1.2.2.1
  obtain rfl : q1 = q2 := hnr _ _ (swp a b own) (by rw [List.getElem?_map, hq3]; rfl) hr3 (by omega)
  rw [List.getElem?_map, hvo] at hvo'
  obtain rfl : swp a b o = o' := Option.some.inj hvo'
  rw [hot, hot', decide_eq_decide.2 (iff_of_eq (swp_none (a := a) (b := b) o))]
  rcases hoi with rfl | h
  · have e1 : swp (a : Int) b (p.ps.length : Int) = p.ps.length := swp_o (by omega) (by omega)
    simp only [decide_true, cond_true]
    exact e1.symm
  · rw [decide_eq_false (show ¬ o = -1 by omega)]
    simp only [cond_false]
    have := swp_cases a b o
    rw [Int.toNat_of_nonneg h.1, Int.toNat_of_nonneg (by omega)]
theorem draws_nd (hb : pOk p = true) : (drawsV p).Nodup := by
  have h := ref_lex hb
  rw [refAll, List.pairwise_map] at h
  exact h.imp fun {x y} hxy e => by subst e; exact lex_irr hxy
theorem map_nd {α β : Type} {l : List α} {f : α → β} (hf : ∀ x y, f x = f y → x = y) (h : l.Nodup) : (l.map f).Nodup := by
  unfold List.Nodup
  rw [List.pairwise_map]
  exact h.imp fun {x y} hxy e => hxy (hf x y e)
theorem fac_le (hb : pOk p = true) {a b : Nat} (ha : a < p.ps.length) (hbl : b < p.ps.length) (sa : p.seeds ≤ a) (sb : p.seeds ≤ b) (h1 : (psAt p a).nation = (psAt p b).nation) (h2 : (psAt p a).qual = (psAt p b).qual) {i : Nat} (hi : i ≤ p.ps.length) {own : Nat} (ho : own < p.ps.length) :
    (facTo p own (drawsV p).length).getD i 0 ≤ (facTo p (swp a b own) (drawsV p).length).getD (swp a b i).toNat 0 := by
  have hc := swp_cases a b own
  have hci := swp_cases a b i
  rw [fac_all _ _ hi, fac_all _ _ (by omega)]
  have hinj : ∀ x y : List Int, x.map (swp a b) = y.map (swp a b) → x = y := fun x y e => by
    have := congrArg (List.map (swp a b)) e
    rw [List.map_map, List.map_map] at this
    have hid : (swp (a : Int) b) ∘ (swp (a : Int) b) = id := funext fun n => swp_swp a b n
    rwa [hid, List.map_id, List.map_id] at this
  have hnd : (((drawsV p).filter fun v => othN p own v == i).map (List.map (swp a b))).Nodup := map_nd hinj ((draws_nd hb).sublist List.filter_sublist)
  have hsub : (((drawsV p).filter fun v => othN p own v == i).map (List.map (swp a b))) ⊆ ((drawsV p).filter fun v => othN p (swp a b own) v == (swp a b i).toNat) := fun x hx => by
    obtain ⟨v, hv, rfl⟩ := List.mem_map.1 hx
    rw [List.mem_filter, beq_iff_eq] at hv
    have hm := dr_swp hb ha hbl sa sb h1 h2 hv.1
    have he := oth_swp hb ha hbl hv.1 hm own (by omega) (by omega)
    rw [List.mem_filter, beq_iff_eq]
    refine ⟨hm, ?_⟩
    rw [hv.2] at he; omega
  have := hnd.length_le_of_subset hsub
  rw [List.length_map] at this
  omega
/-- Two persons exchanged in Facing. -/
theorem fac_swp (hb : pOk p = true) {a b : Nat} (ha : a < p.ps.length) (hbl : b < p.ps.length) (sa : p.seeds ≤ a) (sb : p.seeds ≤ b) (h1 : (psAt p a).nation = (psAt p b).nation) (h2 : (psAt p a).qual = (psAt p b).qual) {i : Nat} (hi : i ≤ p.ps.length) :
    (facTo p a (drawsV p).length).getD i 0 = (facTo p b (drawsV p).length).getD (swp a b i).toNat 0 := by
  have hci := swp_cases a b i
  have h3 := fac_le hb ha hbl sa sb h1 h2 hi (own := a) ha
  have h4 := fac_le hb ha hbl sa sb h1 h2 (i := (swp a b i).toNat) (by omega) (own := b) hbl
  rw [swp_l] at h3
  rw [swp_r, Int.toNat_of_nonneg (by omega), swp_swp, Int.toNat_natCast] at h4
  omega
theorem fac_own (hb : pOk p = true) {a : Nat} (ha : a < p.ps.length) : facP p (psAt p a).player = (facTo p a (drawsV p).length, 0) := by
  have hx : p.ps[a]? = some (psAt p a) := by have := psAt_eq (p := p) (n := (a : Int)) (by omega); rwa [Int.toNat_natCast] at this
  rw [facP, hb, per_of (p_ok hb) hx, decide_eq_false (by omega)]; rfl
end
end Go.Proofs.Ytjkoaifjmcgpfaa
