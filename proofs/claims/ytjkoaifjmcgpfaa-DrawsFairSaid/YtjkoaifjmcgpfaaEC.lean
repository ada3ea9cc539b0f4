/- Plain laws of the lots: the order of the draws; which sheets are among them. -/
import Derived.Test.YtjkoaifjmcgpfaaEB
namespace Go.Proofs.Ytjkoaifjmcgpfaa
open Go Go.RowKit

def lexLt (a b : List Int) : Prop := ∃ (k : Nat) (x y : Int), a.take k = b.take k ∧ a[k]? = some x ∧ b[k]? = some y ∧ x < y
theorem lex_irr {a : List Int} : ¬ lexLt a a := fun ⟨k, x, y, _, h1, h2, h3⟩ => by
  rw [h1] at h2; injection h2 with h2; omega
def earV : List Int → List Int → Bool
  | x :: xs, y :: ys => bif decide (x = y) then earV xs ys else decide (x < y)
  | _, _ => false
theorem ear_lex : ∀ (k : Nat) {a b : List Int} {x y : Int}, a.take k = b.take k → a[k]? = some x → b[k]? = some y → x < y → earV a b = true
  | 0, a, b, x, y, _, ha, hb, h => by
    cases a with
    | nil => simp at ha
    | cons u a =>
      cases b with
      | nil => simp at hb
      | cons v b =>
        simp at ha hb
        subst ha hb
        rw [earV, decide_eq_false (by omega)]
        exact decide_eq_true h
  | k + 1, a, b, x, y, ht, ha, hb, h => by
    cases a with
    | nil => simp at ha
    | cons u a =>
      cases b with
      | nil => simp at hb
      | cons v b =>
        simp only [List.take_succ_cons, List.cons.injEq] at ht
        rw [List.getElem?_cons_succ] at ha hb
        rw [earV, decide_eq_true ht.1]
        exact ear_lex k ht.2 ha hb h
theorem ear_drop {a b : List Int} : ∀ k, k ≤ a.length → k ≤ b.length → a.take k = b.take k → earV a b = earV (a.drop k) (b.drop k)
  | 0, _, _, _ => by rw [List.drop_zero, List.drop_zero]
  | k + 1, ha, hb, h => by
    have h1 : a.take k = b.take k := by
      have := congrArg (List.take k) h
      rwa [List.take_take, List.take_take, Nat.min_eq_left (by omega)] at this
    have h2 : a[k]'(by omega) = b[k]'(by omega) := by
      have e1 : (a.take (k + 1))[k]? = some (a[k]'(by omega)) := by rw [List.getElem?_take, if_pos (by omega), List.getElem?_eq_getElem]
      have e2 : (b.take (k + 1))[k]? = some (b[k]'(by omega)) := by rw [List.getElem?_take, if_pos (by omega), List.getElem?_eq_getElem]
      rw [h, e2] at e1
      exact (Option.some.inj e1).symm
    rw [ear_drop k (by omega) (by omega) h1, List.drop_eq_getElem_cons (by omega), List.drop_eq_getElem_cons (l := b) (by omega), earV, decide_eq_true h2]
    rfl
structure EZ where
  (k : Nat)
theorem C_earlier (xs ys : List Int) (A B : Option Addr) (n c m d : Nat) (w : World) (h : Rd w A 1 n (enI xs)) (h' : Rd w B 1 m (enI ys)) (hn : n ≤ 1000000) (hm : m ≤ 1000000) :
    C0 Try.prog 25 [.slice A n c, .slice B m d] w (.bool (earV xs ys)) := by
  have hlx : xs.length = n := by have := h.len; rwa [enI_len] at this
  have hly : ys.length = m := by have := h'.len; rwa [enI_len] at this
  refine ⟨en Try.func25 Try.ntmps25 (((St.init w).share (e := .ro A 1 n (enI xs)) h rfl rfl rfl).share (e := .ro B 1 m (enI ys)) h' rfl rfl rfl) (h := fun F => ?_)⟩
  refine sq (h := ?_)
  refine rg (h := ?_)
  refine WL.y (hy := asg) (h := ?_)
  refine nl (h := ?_)
  refine q_seq (h := ?_)
  refine sq (h := ?_)
  refine sq (h := ?_)
  refine rg (h := ?_)
  refine WL.y (hy := asg) (h := ?_)
  refine nl (h := ?_)
  refine q_seq (h := ?_)
  refine bk (h := ?_)
  refine lp (X := EZ) (I := fun z => (z.k ≤ n ∧ z.k ≤ m) ∧ xs.take z.k = ys.take z.k) (le := fun z => [(0, .slice A n c), (1, .slice B m d), (5, .int .i64 z.k)]) (Le := fun _ => [.ro A 1 n (enI xs), .ro B 1 m (enI ys)]) (μ := fun z => n - z.k) ⟨0⟩ ⟨⟨Nat.zero_le _, Nat.zero_le _⟩, rfl⟩ (by repeat (first | exact trivial | refine ⟨rfl, ?_⟩)) (by repeat (first | exact SubL.nil | (apply SubL.cons; (repeat (first | exact At.here | apply At.there))) | exact SubL.refl _ | apply SubL.skip)) (fun z hz => ?_)
  obtain ⟨hz1, hz2⟩ := hz
  refine sq (h := ?_)
  refine sq (h := ?_)
  refine rg (h := ?_)
  refine WL.y (hy := mv) (h := ?_)
  refine WL.y (hy := mv) (h := ?_)
  refine WL.y (hy := lenS) (h := ?_)
  refine WL.y (hy := lss) (h := ?_)
  refine WL.y (hy := mv) (h := ?_)
  apply brAnd 5 10 15 (by exact rfl)
  · intro hb0
    refine un (h := ?_)
    refine WL.y (hy := mv) (h := ?_)
    refine un (h := ?_)
    refine WL.y (hy := mv) (h := ?_)
    refine un (h := ?_)
    refine WL.y (hy := lenS) (h := ?_)
    refine un (h := ?_)
    refine WL.y (hy := lss) (h := ?_)
    refine WL.y (hy := (by first | exact pkT | exact pkF)) (h := ?_)
    exact mg (by repeat (first | exact trivial | refine ⟨rfl, ?_⟩ | refine ⟨by rw [hb0]; rfl, ?_⟩)) (by repeat (first | exact SubL.nil | (apply SubL.cons; (repeat (first | exact At.here | apply At.there))) | exact SubL.refl _ | apply SubL.skip))
  · intro hb0
    repeat (first | refine un (h := ?_) | refine sk (h := ?_) | refine WL.y (hy := pkF) (h := ?_) | refine WL.y (hy := pkT) (h := ?_))
    exact mg (by repeat (first | exact trivial | refine ⟨rfl, ?_⟩ | refine ⟨by rw [hb0]; rfl, ?_⟩)) (by repeat (first | exact SubL.nil | (apply SubL.cons; (repeat (first | exact At.here | apply At.there))) | exact SubL.refl _ | apply SubL.skip))
  refine nl (h := ?_)
  refine q_seq (h := ?_)
  refine cd (by exact rfl) (fun h1 => ?_) (fun h1 => ?_)
  · skip
    have hg := h1
    simp only [Bool.and_eq_true, decide_eq_true_eq] at hg
    have hkn : z.k < n ∧ z.k < m := by omega
    have hx1 := getD_some (l := xs) (k := z.k) (by omega)
    have hy1 := getD_some (l := ys) (k := z.k) (by omega)
    have hxe := enI_at hx1
    have hye := enI_at hy1
    have hdr := ear_drop (a := xs) (b := ys) z.k (by omega) (by omega) hz2
    rw [List.drop_eq_getElem_cons (by omega), List.drop_eq_getElem_cons (l := ys) (by omega), earV] at hdr
    have hgx : xs[z.k]'(by omega) = xs.getD z.k 0 := (Option.some.inj ((List.getElem?_eq_getElem (by omega)).symm.trans hx1))
    have hgy : ys[z.k]'(by omega) = ys.getD z.k 0 := (Option.some.inj ((List.getElem?_eq_getElem (by omega)).symm.trans hy1))
    rw [hgx, hgy] at hdr
    refine skp (h := ?_)
    refine q_seq (h := ?_)
    refine sq (h := ?_)
    refine bk (h := ?_)
    refine sq (h := ?_)
    refine rgD0 (by kernel_rfl) (h := ?_)
    refine tk 0 (hy := mv) (h := ?_)
    refine tk 1 (hy := mv) (h := ?_)
    refine tk 2 (hy := ix (A := A) (m := n)) (h := ?_)
    refine tk 3 (hy := ldE (A := A) (hk := hxe)) (h := ?_)
    refine tk 4 (hy := mv) (h := ?_)
    refine tk 5 (hy := mv) (h := ?_)
    refine tk 6 (hy := ix (A := B) (m := m)) (h := ?_)
    refine tk 7 (hy := ldE (A := B) (hk := hye)) (h := ?_)
    refine tk 8 (hy := neq) (h := ?_)
    refine dn (h := ?_)
    refine q_seq (h := ?_)
    refine cd (by exact rfl) (fun h2 => ?_) (fun h2 => ?_)
    · skip
      have hne : ¬ xs.getD z.k 0 = ys.getD z.k 0 := by simpa using h2
      have hE : earV xs ys = decide (xs.getD z.k 0 < ys.getD z.k 0) := by rw [hdr, decide_eq_false hne]; rfl
      refine sq (h := ?_)
      refine rgD0 (by kernel_rfl) (h := ?_)
      refine tk 0 (hy := mv) (h := ?_)
      refine tk 1 (hy := mv) (h := ?_)
      refine tk 2 (hy := ix (A := A) (m := n)) (h := ?_)
      refine tk 3 (hy := ldE (A := A) (hk := hxe)) (h := ?_)
      refine tk 4 (hy := mv) (h := ?_)
      refine tk 5 (hy := mv) (h := ?_)
      refine tk 6 (hy := ix (A := B) (m := m)) (h := ?_)
      refine tk 7 (hy := ldE (A := B) (hk := hye)) (h := ?_)
      refine tk 8 (hy := lss) (h := ?_)
      refine tk 9 (hy := asg) (h := ?_)
      refine dn (h := ?_)
      refine q_seq (h := ?_)
      refine rtn (h := ?_)
      refine q_blk_ret (h := ?_)
      refine q_then_ret (h := ?_)
      refine q_then_ret (h := ?_)
      refine q_blk_ret (h := ?_)
      refine q_then_ret (h := ?_)
      refine q_ret (hR := ?_)
      rw [hE]
      exact fun w hS => ⟨rfl, hS.sub (by repeat (first | exact SubL.nil | (apply SubL.cons; (repeat (first | exact At.here | apply At.there))) | exact SubL.refl _ | apply SubL.skip))⟩
    · skip
      have hxy : xs.getD z.k 0 = ys.getD z.k 0 := by simpa using h2
      refine skp (h := ?_)
      refine q_blk_norm (h := ?_)
      refine q_seq (h := ?_)
      refine rg (h := ?_)
      refine WL.y (hy := mv) (h := ?_)
      refine WL.y (hy := addI) (h := ?_)
      refine WL.y (hy := asg) (h := ?_)
      refine nl (h := ?_)
      refine rn (x := z) ⟨z.k + 1⟩ ⟨by dsimp only; omega, by dsimp only; rw [List.take_add_one, List.take_add_one, hx1, hy1, hz2, hxy]⟩ (by dsimp only; omega) (by repeat (first | exact trivial | refine ⟨rfl, ?_⟩)) (by repeat (first | exact SubL.nil | (apply SubL.cons; (repeat (first | exact At.here | apply At.there))) | exact SubL.refl _ | apply SubL.skip))
  · skip
    have hfin : ¬ (z.k < n ∧ z.k < m) := by
      have hg := h1
      simp only [Bool.and_eq_false_iff, decide_eq_false_iff_not] at hg
      omega
    have hE : earV xs ys = false := by
      rw [ear_drop (a := xs) (b := ys) z.k (by omega) (by omega) hz2]
      by_cases hkn : z.k < n
      · rw [show ys.drop z.k = [] from List.drop_eq_nil_of_le (by omega)]
        cases xs.drop z.k <;> rfl
      · rw [show xs.drop z.k = [] from List.drop_eq_nil_of_le (by omega)]; rfl
    refine et (h := ?_)
    refine q_then_exit (h := ?_)
    refine q_then_exit (h := ?_)
    refine q_blk_hit (h := ?_)
    refine q_seq (h := ?_)
    refine sq (h := ?_)
    refine rg (h := ?_)
    refine WL.y (hy := asg) (h := ?_)
    refine nl (h := ?_)
    refine q_seq (h := ?_)
    refine rtn (h := ?_)
    refine q_ret (hR := ?_)
    rw [hE]
    exact fun w hS => ⟨rfl, hS.sub (by repeat (first | exact SubL.nil | (apply SubL.cons; (repeat (first | exact At.here | apply At.there))) | exact SubL.refl _ | apply SubL.skip))⟩
section
variable {p : Pl}
theorem all_pre : ∀ (f : Nat) (first : List Int), ∀ v ∈ allR p f first, v.length = first.length + f ∧ v.take first.length = first
  | 0, first, v, hv => by
    rw [allR] at hv
    cases hl : legalV p first
    · rw [hl] at hv; cases hv
    · rw [hl] at hv
      simp only [cond_true, List.mem_singleton] at hv
      subst hv; exact ⟨rfl, List.take_length⟩
  | f + 1, first, v, hv => by
    rw [allR, List.mem_flatMap] at hv
    obtain ⟨ch, _, hv⟩ := hv
    cases hs : skR p first ch || !fitV p (first ++ [ch])
    · rw [hs] at hv
      obtain ⟨h1, h2⟩ := all_pre f _ v hv
      rw [List.length_append] at h1 h2
      refine ⟨by simp at h1; omega, ?_⟩
      have := congrArg (List.take first.length) h2
      rw [List.take_take, List.take_append_of_le_length (Nat.le_refl _), List.take_length] at this
      have hmin : min first.length (first.length + [ch].length) = first.length := by simp
      rw [hmin] at this; exact this
    · rw [hs] at hv; cases hv
theorem cho_srt (hq : p.Ok) : (choV p).Pairwise (· < ·) := by
  rw [choV]
  refine List.pairwise_cons.2 ⟨fun y hy => ?_, ord_srt hq _ (Nat.le_refl _)⟩
  obtain ⟨j, x, _, h1, h2⟩ := (ord_mem _ (Nat.le_refl _)).1 hy
  have := (hq.pr j x h1).1
  omega
theorem all_lex (hq : p.Ok) : ∀ (f : Nat) (first : List Int), (allR p f first).Pairwise lexLt
  | 0, first => by
    rw [allR]
    cases legalV p first
    · exact List.Pairwise.nil
    · exact List.pairwise_singleton _ _
  | f + 1, first => by
    rw [allR, List.pairwise_flatMap]
    have hel : ∀ (ch : Int) (v : List Int), v ∈ (bif skR p first ch || !fitV p (first ++ [ch]) then [] else allR p f (first ++ [ch])) → v.take first.length = first ∧ v[first.length]? = some ch := fun ch v hv => by
      cases hs : skR p first ch || !fitV p (first ++ [ch])
      · rw [hs] at hv
        obtain ⟨h1, h2⟩ := all_pre f _ v hv
        rw [List.length_append] at h2
        have e : v.take (first.length + 1) = first ++ [ch] := h2
        constructor
        · have := congrArg (List.take first.length) e
          rwa [List.take_take, Nat.min_eq_left (by omega), List.take_append_of_le_length (Nat.le_refl _), List.take_length] at this
        · have : (v.take (first.length + 1))[first.length]? = some ch := by rw [e, List.getElem?_append_right (Nat.le_refl _)]; simp
          rwa [List.getElem?_take, if_pos (by omega)] at this
      · rw [hs] at hv; cases hv
    refine ⟨fun ch _ => ?_, (cho_srt hq).imp fun {c c'} hcc a ha b hb => ?_⟩
    · cases skR p first ch || !fitV p (first ++ [ch])
      · exact all_lex hq f _
      · exact List.Pairwise.nil
    · obtain ⟨h1, h2⟩ := hel c a ha
      obtain ⟨h3, h4⟩ := hel c' b hb
      exact ⟨first.length, c, c', h1.trans h3.symm, h2, h4, hcc⟩
theorem ref_lex (hb : pOk p = true) : (refAll p).Pairwise lexLt := by
  rw [← ref_all hb]; exact all_lex (p_ok hb) _ _
theorem ref_get {k : Nat} (hk : k < (drawsV p).length) : (refAll p)[k]? = some ((pickL p k).1) := by
  rw [refAll, List.getElem?_map, pickL, Int.toNat_natCast, List.getElem?_eq_getElem hk]; rfl
theorem pick_ear (hb : pOk p = true) {j k : Nat} (hj : j < k) (hk : k < (drawsV p).length) : earV (pickL p j).1 (pickL p k).1 = true := by
  have h1 := ref_get (p := p) (k := j) (by omega)
  have h2 := ref_get (p := p) hk
  obtain ⟨n, x, y, h3, h4, h5, h6⟩ : lexLt (pickL p j).1 (pickL p k).1 := by
    have := List.pairwise_iff_getElem.1 (ref_lex hb) j k (by rw [refAll, List.length_map]; omega) (by rw [refAll, List.length_map]; omega) hj
    have e1 := (List.getElem?_eq_some_iff.1 h1).2
    have e2 := (List.getElem?_eq_some_iff.1 h2).2
    rwa [e1, e2] at this
  exact ear_lex n h3 h4 h5 h6
theorem dr_enum (hb : pOk p = true) {v : List Int} (hv : v ∈ drawsV p) : ((v.length : Int) = p.size ∧ (∀ x ∈ v, InP p x) ∧ NoRep v ∧ (v.count (-1) : Int) ≤ byesV p) ∧ obTo p v v.length = true := by
  have hq := p_ok hb
  have hz := hq.z
  have hqn := hq.n
  have h0 : 0 ≤ byesV p := by unfold byesV; omega
  have hn : NoRep [] := fun i j y h => by simp at h
  rw [drawsV, more_enum _ _ _ (fun x hx => by cases hx) hn h0 rfl, List.mem_filter] at hv
  obtain ⟨h1, _, h3, h4, h5⟩ := enum_mem _ _ _ (fun x hx => by cases hx) hn h0 v hv.1
  exact ⟨⟨by simp at h1; omega, h3, h4, by simpa using h5⟩, hv.2⟩
theorem dr_legal (hb : pOk p = true) {v : List Int} (hv : v ∈ drawsV p) : isShV p (v.map (plyV p)) = true ∧ legalV p (v.map (plyV p)) = true := by
  obtain ⟨⟨h1, h2, h3, h4⟩, h5⟩ := dr_enum hb hv
  exact ⟨sheet_is (p_ok hb) h1 h2 h3, by rw [legal_ob hb h1 h2 h3 h4]; exact h5⟩
theorem pick_ok (hb : pOk p = true) {k : Nat} (hk : k < (drawsV p).length) : pikP p k = ((pickL p k).1, 0) ∧ isShV p (pickL p k).1 = true ∧ legalV p (pickL p k).1 = true := by
  have hv : (drawsV p)[k]? = some ((drawsV p)[k]) := List.getElem?_eq_getElem hk
  have hp : pickL p k = ((drawsV p)[k].map (plyV p), true) := by rw [pickL, Int.toNat_natCast, hv]
  have := dr_legal hb (List.mem_of_getElem? hv)
  refine ⟨?_, ?_⟩
  · rw [pikP, hb, decide_eq_false (by omega), hp]; rfl
  · rw [hp]; exact this
theorem idx_pick (hb : pOk p = true) {k : Nat} (hk : k < (drawsV p).length) : idxP p (pickL p k).1 = ((k : Int), 0) := by
  have hq := p_ok hb
  have hok := pick_ok hb hk
  have hv : (drawsV p)[k]? = some ((drawsV p)[k]) := List.getElem?_eq_getElem hk
  have hp : (pickL p k).1 = (drawsV p)[k].map (plyV p) := by rw [pickL, Int.toNat_natCast, hv]
  have hvm := draws_mem hq (List.mem_of_getElem? hv)
  have hch : chS p (pickL p k).1 = 0 := by rw [chS, hb, hok.2.1]; rfl
  have hcv := (chS_ok hch).2.2
  have hown : (chV p (pickL p k).1).1 = (drawsV p)[k] := by rw [hcv, hp]; exact map_num hq hvm.2
  have hix : idxL p (drawsV p)[k] = k := by
    refine (idxF_spec _ _).uniq (.inl ⟨k, hk, rfl, ?_, fun i hi => ?_⟩)
    · rw [pAt_eq hv]; exact decide_eq_true rfl
    · have hvi : (drawsV p)[i]? = some ((drawsV p)[i]'(by omega)) := List.getElem?_eq_getElem (by omega)
      rw [pAt_eq hvi]
      refine decide_eq_false fun e => ?_
      have h1 := List.pairwise_iff_getElem.1 (ref_lex hb) i k (by rw [refAll, List.length_map]; omega) (by rw [refAll, List.length_map]; omega) hi
      simp only [refAll, List.getElem_map] at h1
      rw [e] at h1
      exact lex_irr h1
  rw [idxP, chV_snd, hch, hown, hix, decide_eq_true (p := (0 : Int) ≤ k) (by omega)]; rfl
/-- Each sheet of numbers that takes each at most once, and not too many byes, is among all. -/
theorem enum_all : ∀ (f : Nat) (l : List Int) (byes : Int) (v : List Int), v.length = l.length + f → v.take l.length = l → (∀ x ∈ v, InP p x) → NoRep v → (v.count (-1) : Int) ≤ l.count (-1) + byes → v ∈ enumV p f l byes
  | 0, l, byes, v, h1, h2, _, _, _ => by
    rw [enumV, List.mem_singleton, ← h2, List.take_of_length_le (by omega)]
  | f + 1, l, byes, v, h1, h2, h3, h4, h5 => by
    have hx : v[l.length]? = some (v[l.length]'(by omega)) := List.getElem?_eq_getElem (by omega)
    generalize v[l.length]'(by omega) = n at hx
    have hin := h3 n (List.mem_of_getElem? hx)
    have h2' : v.take (l ++ [n]).length = l ++ [n] := by
      rw [List.length_append]
      show v.take (l.length + 1) = _
      rw [List.take_add_one, h2, hx]; rfl
    have hcnt : ((l ++ [n]).count (-1) : Int) ≤ v.count (-1) := by
      have := (List.take_sublist (l ++ [n]).length v).count_le (-1)
      rw [h2'] at this; omega
    have hca : (l ++ [n]).count (-1) = l.count (-1) + (bif decide (n = -1) then 1 else 0) := by
      rw [List.count_append]
      by_cases e : n = -1
      · subst e; simp
      · have : List.count (-1) [n] = 0 := by rw [List.count_eq_zero]; simp; exact fun h => e h.symm
        rw [this, decide_eq_false e]; rfl
    rw [enumV, List.mem_flatMap]
    refine ⟨n, rk_mem.2 hin, ?_⟩
    have hnr : n = -1 ∨ hasV l n = false := by
      by_cases e : n = -1
      · exact .inl e
      · right
        rw [← inV_has]
        cases hi : inV l n
        · rfl
        · exfalso
          have hm := inV_iff.1 hi
          rw [← h2] at hm
          obtain ⟨j, hj, hj2⟩ := List.getElem_of_mem hm
          rw [List.length_take] at hj
          rw [List.getElem_take] at hj2
          have := h4 j l.length n (by rw [List.getElem?_eq_getElem (by omega), hj2]) hx e
          omega
    have hlb : ((l ++ [n]).count (-1) : Int) + leftB byes n = l.count (-1) + byes := by
      rw [hca]
      unfold leftB
      by_cases e : n = -1
      · rw [decide_eq_true e]; simp only [cond_true]; omega
      · rw [decide_eq_false e]; simp only [cond_false]; omega
    have hsk : skE l byes n = false := by
      rw [skE, decide_eq_false (by omega), Bool.false_or]
      rcases hnr with e | e
      · rw [decide_eq_true e]; rfl
      · rw [e, Bool.and_false]
    rw [hsk]
    exact enum_all f (l ++ [n]) (leftB byes n) v (by rw [List.length_append]; simp; omega) h2' h3 h4 (by omega)
/-- A sheet is among the draws just if it is legal. -/
theorem dr_iff (hb : pOk p = true) {sheet : List Int} (hs : isShV p sheet = true) : sheet.map (numV p) ∈ drawsV p ↔ legalV p sheet = true := by
  have hq := p_ok hb
  have hsh := sh_ok hb hs
  have hback : (sheet.map (numV p)).map (plyV p) = sheet := by
    rw [List.map_map]
    conv => rhs; rw [← List.map_id sheet]
    exact List.map_congr_left fun y hy => num_ply (hsh.sh y hy)
  constructor
  · intro hm
    have := (dr_legal hb hm).2
    rwa [hback] at this
  · intro hl
    have hz := hq.z
    have hqn := hq.n
    have h0 : 0 ≤ byesV p := by unfold byesV; omega
    have hn : NoRep [] := fun i j y h => by simp at h
    have hfull : fullV p sheet = true := by
      rw [legalV, Bool.and_eq_true, Bool.and_eq_true] at hl; exact hl.1.1
    have hfu := fu_ok hsh hfull
    have hin := num_all hsh
    have hcnt : ((sheet.map (numV p)).count (-1) : Int) ≤ byesV p := by
      have h1 := nones hfu
      have h2 : (sheet.map (numV p)).count (-1) = ((List.range sheet.length).filter fun k => decide (pv p sheet k = -1)).length := by
        have e : sheet.map (numV p) = (List.range sheet.length).map (pv p sheet) := by
          refine List.ext_getElem (by simp) fun i h1 h2 => ?_
          rw [List.length_map] at h1
          rw [List.getElem_map, List.getElem_map, List.getElem_range, pv_at (List.getElem?_eq_getElem h1)]
        rw [e, List.count_eq_length_filter, List.filter_map, List.length_map]
        congr 1
      rw [h2]; exact h1
    have hrep : NoRep (sheet.map (numV p)) := fun i j y hi hj hy => by
      rw [List.getElem?_map] at hi hj
      obtain ⟨a, ha, hae⟩ := Option.map_eq_some_iff.1 hi
      obtain ⟨b, hb', hbe⟩ := Option.map_eq_some_iff.1 hj
      have hab : a = b := by
        have e := num_eq (hsh.sh a (List.mem_of_getElem? ha)) (hsh.sh b (List.mem_of_getElem? hb'))
        rw [hae, hbe, decide_eq_true rfl] at e
        exact of_decide_eq_true e.symm
      subst hab
      exact hsh.uq i j a ha hb' fun e => hy (by rw [← hae, e]; rfl)
    have hlen : ((sheet.map (numV p)).length : Int) = p.size := by rw [List.length_map]; exact hsh.len
    rw [drawsV, more_enum _ _ _ (fun x hx => by cases hx) hn h0 rfl, List.mem_filter]
    refine ⟨enum_all _ _ _ _ (by simp only [List.length_nil]; omega) (by simp) hin hrep (by simpa using hcnt), ?_⟩
    have := legal_ob hb hlen hin hrep hcnt
    rw [hback, hl] at this
    exact this.symm
theorem idx_no (hb : pOk p = true) {sheet : List Int} (hs : isShV p sheet = true) (hl : legalV p sheet = false) : idxP p sheet = (0, 3) := by
  have hch : chS p sheet = 0 := by rw [chS, hb, hs]; rfl
  have hcv := (chS_ok hch).2.2
  have hix : idxL p (sheet.map (numV p)) = -1 := by
    refine (idxF_spec _ _).uniq (.inr ⟨rfl, fun i hi => ?_⟩)
    rw [pAt_eq (List.getElem?_eq_getElem hi)]
    refine decide_eq_false fun e => ?_
    have := (dr_iff hb hs).1 (e ▸ List.getElem_mem hi)
    rw [hl] at this; cases this
  rw [idxP, chV_snd, hch, hcv, hix]; rfl
theorem idx_yes (hb : pOk p = true) {sheet : List Int} (hs : isShV p sheet = true) (hl : legalV p sheet = true) : ∃ k : Nat, k < (drawsV p).length ∧ idxP p sheet = ((k : Int), 0) ∧ (pickL p k).1 = sheet := by
  have hsh := sh_ok hb hs
  have hm := (dr_iff hb hs).2 hl
  obtain ⟨k, hk, he⟩ := List.getElem_of_mem hm
  have hp : (pickL p k).1 = sheet := by
    rw [pickL, Int.toNat_natCast, List.getElem?_eq_getElem hk, he]
    show (sheet.map (numV p)).map (plyV p) = sheet
    rw [List.map_map]
    conv => rhs; rw [← List.map_id sheet]
    exact List.map_congr_left fun y hy => num_ply (hsh.sh y hy)
  have := idx_pick hb hk
  rw [hp] at this
  exact ⟨k, hk, this, hp⟩
end
end Go.Proofs.Ytjkoaifjmcgpfaa
