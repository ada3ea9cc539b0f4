/- Walks of draws, four: persons in the order of their players. -/
import Derived.Test.YtjkoaifjmcgpfaaD3
namespace Go.Proofs.Ytjkoaifjmcgpfaa
open Go Go.RowKit

/-! #### insertion, plain -/
def posV (lt : Int → Int → Bool) (l : List Int) (x : Int) : Nat → Nat
  | 0 => 0
  | j + 1 => match l[j]? with
    | some y => bif lt x y then posV lt l x j else j + 1
    | none => j + 1
def insV (lt : Int → Int → Bool) (l : List Int) (x : Int) : List Int := l.take (posV lt l x l.length) ++ x :: l.drop (posV lt l x l.length)
def sortTo (lt : Int → Int → Bool) (xs : List Int) : Nat → List Int
  | 0 => []
  | k + 1 => match xs[k]? with
    | some x => insV lt (sortTo lt xs k) x
    | none => sortTo lt xs k
def sortV (lt : Int → Int → Bool) (xs : List Int) : List Int := sortTo lt xs xs.length
theorem posV_le (lt : Int → Int → Bool) (l : List Int) (x : Int) : ∀ j, posV lt l x j ≤ j
  | 0 => Nat.le_refl _
  | j + 1 => by
    rw [posV]
    cases l[j]? with
    | none => exact Nat.le_refl _
    | some y =>
      show (bif lt x y then posV lt l x j else j + 1) ≤ j + 1
      cases lt x y
      · exact Nat.le_refl _
      · exact Nat.le_succ_of_le (posV_le lt l x j)
theorem insV_len (lt : Int → Int → Bool) (l : List Int) (x : Int) : (insV lt l x).length = l.length + 1 := by
  have := posV_le lt l x l.length
  simp [insV]; omega
theorem sortTo_len (lt : Int → Int → Bool) (xs : List Int) : ∀ k, k ≤ xs.length → (sortTo lt xs k).length = k
  | 0, _ => rfl
  | k + 1, hk => by
    rw [sortTo, List.getElem?_eq_getElem (by omega)]
    simp only [insV_len, sortTo_len lt xs k (by omega)]
theorem posV_step {lt : Int → Int → Bool} {l : List Int} {x y : Int} {j : Nat} (h : l[j]? = some y) : posV lt l x (j + 1) = bif lt x y then posV lt l x j else j + 1 := by rw [posV, h]
theorem insV_mem (lt : Int → Int → Bool) (l : List Int) (x y : Int) : y ∈ insV lt l x ↔ y = x ∨ y ∈ l := by
  unfold insV
  constructor
  · intro h
    rcases List.mem_append.1 h with h | h
    · exact .inr (List.mem_of_mem_take h)
    · rcases List.mem_cons.1 h with h | h
      · exact .inl h
      · exact .inr (List.mem_of_mem_drop h)
  · rintro (rfl | h)
    · exact List.mem_append.2 (.inr (List.mem_cons_self ..))
    · rw [← List.take_append_drop (posV lt l x l.length) l] at h
      rcases List.mem_append.1 h with h | h
      · exact List.mem_append.2 (.inl h)
      · exact List.mem_append.2 (.inr (List.mem_cons_of_mem _ h))
theorem sortTo_mem (lt : Int → Int → Bool) (xs : List Int) (y : Int) : ∀ k, k ≤ xs.length → (y ∈ sortTo lt xs k ↔ y ∈ xs.take k)
  | 0, _ => by simp [sortTo]
  | k + 1, hk => by
    have h : xs[k]? = some xs[k] := List.getElem?_eq_getElem (by omega)
    rw [sortTo, h, List.take_add_one, h]
    simp only [insV_mem, sortTo_mem lt xs y k (by omega), List.mem_append, Option.toList_some, List.mem_singleton]
    exact Or.comm
theorem sortV_mem (lt : Int → Int → Bool) (xs : List Int) (y : Int) : y ∈ sortV lt xs ↔ y ∈ xs := by
  rw [sortV, sortTo_mem lt xs y _ (Nat.le_refl _), List.take_length]
/-- What a row looks like while its element k goes down to its place. -/
def midV (lt : Int → Int → Bool) (xs : List Int) (k j : Nat) (x : Int) : List Int := (sortTo lt xs k).take j ++ x :: ((sortTo lt xs k).drop j ++ xs.drop (k + 1))
theorem mid_len {lt : Int → Int → Bool} {xs : List Int} {k j : Nat} {x : Int} (hk : k < xs.length) (hj : j ≤ k) : (midV lt xs k j x).length = xs.length := by
  have := sortTo_len lt xs k (by omega)
  simp [midV]; omega
theorem mid_start {lt : Int → Int → Bool} {xs : List Int} {k : Nat} {x : Int} (hx : xs[k]? = some x) : midV lt xs k k x = sortTo lt xs k ++ xs.drop k := by
  have hk : k < xs.length := (List.getElem?_eq_some_iff.1 hx).1
  have hl := sortTo_len lt xs k (by omega)
  unfold midV
  rw [List.take_of_length_le (by omega), List.drop_of_length_le (by omega), List.nil_append, List.drop_eq_getElem_cons hk]
  congr 2
  rw [List.getElem?_eq_getElem hk] at hx
  injection hx with hx; exact hx.symm
theorem mid_at {lt : Int → Int → Bool} {xs : List Int} {k j : Nat} {x : Int} (hk : k < xs.length) (hj : j ≤ k) : (midV lt xs k j x)[j]? = some x := by
  have := sortTo_len lt xs k (by omega)
  unfold midV
  have hl : ((sortTo lt xs k).take j).length = j := by rw [List.length_take]; omega
  rw [List.getElem?_append_right (by omega), hl, Nat.sub_self]; rfl
theorem mid_below {lt : Int → Int → Bool} {xs : List Int} {k j : Nat} {x y : Int} (hk : k < xs.length) (hj : j + 1 ≤ k) (hy : (sortTo lt xs k)[j]? = some y) : (midV lt xs k (j + 1) x)[j]? = some y := by
  have := sortTo_len lt xs k (by omega)
  unfold midV
  rw [List.getElem?_append_left (by rw [List.length_take]; omega), List.getElem?_take]
  simp [hy]
theorem mid_swap {lt : Int → Int → Bool} {xs : List Int} {k j : Nat} {x y : Int} (hk : k < xs.length) (hj : j + 1 ≤ k) (hy : (sortTo lt xs k)[j]? = some y) : ((midV lt xs k (j + 1) x).set (j + 1) y).set j x = midV lt xs k j x := by
  have hl := sortTo_len lt xs k (by omega)
  have hjl : j < (sortTo lt xs k).length := by omega
  unfold midV
  have ht : (sortTo lt xs k).take (j + 1) = (sortTo lt xs k).take j ++ [y] := by rw [List.take_add_one, hy]; rfl
  have hd : (sortTo lt xs k).drop j = y :: (sortTo lt xs k).drop (j + 1) := by
    rw [List.drop_eq_getElem_cons hjl]
    congr 1
    rw [List.getElem?_eq_getElem hjl] at hy
    injection hy
  have hlt : ((sortTo lt xs k).take j).length = j := by rw [List.length_take]; omega
  rw [ht, hd, List.append_assoc, List.set_append_right _ _ (by omega), hlt]
  rw [show j + 1 - j = 1 by omega]
  simp only [List.singleton_append, List.set_cons_succ, List.set_cons_zero]
  rw [List.set_append_right _ _ (by omega), hlt, Nat.sub_self]
  simp
theorem mid_end {lt : Int → Int → Bool} {xs : List Int} {k : Nat} {x : Int} (hx : xs[k]? = some x) (j : Nat) (hj : posV lt (sortTo lt xs k) x k = j) : midV lt xs k j x = sortTo lt xs (k + 1) ++ xs.drop (k + 1) := by
  have hk : k < xs.length := (List.getElem?_eq_some_iff.1 hx).1
  have hl := sortTo_len lt xs k (by omega)
  rw [sortTo, hx]
  unfold midV insV
  simp only
  rw [hl, hj]
  simp

def cmpP (p : Pl) (x y : Int) : Int := (psAt p x).player - (psAt p y).player
def ltP (p : Pl) (x y : Int) : Bool := decide (cmpP p x y < 0)
abbrev ordL (p : Pl) (a : PA) (b : Nat) : List Ent := [.blk b 25 (p.cells a), .ro a.pA 3 p.ps.length (encPs p.ps)]
theorem ps_rng {p : Pl} (hq : p.Ok) {x : Int} (hx : 0 ≤ x ∧ x < p.ps.length) : 0 ≤ (psAt p x).player ∧ (psAt p x).player ≤ 999 := (hq.pr _ _ (psAt_eq hx)).1
theorem T_dsort (p : Pl) (a : PA) (b : Nat) (hq : p.Ok) (x y : Int) (hx : 0 ≤ x ∧ x < p.ps.length) (hy : 0 ≤ y ∧ y < p.ps.length) :
    Tr Try.prog 83 [.int .i64 x, .int .i64 y, .pointer (some ⟨b, 0, none⟩)] (ordL p a b) (fun _ : Unit => True) (fun _ => .int .i64 (cmpP p x y)) (fun _ => ordL p a b) := by
  refine ⟨fun w0 w R hst => ?_⟩
  have hge := encPs_at (psAt_eq hx)
  have hhe := encPs_at (psAt_eq hy)
  have hgo := ps_rng hq hx
  have hho := ps_rng hq hy
  refine en Try.func83 Try.ntmps83 hst (h := fun F => ?_)
  refine sq (h := ?_)
  refine rg (h := ?_)
  refine WL.y (hy := asg) (h := ?_)
  refine nl (h := ?_)
  refine q_seq (h := ?_)
  refine sq (h := ?_)
  refine rgD (by kernel_rfl) [(1000000, .blk b 25 (p.cells a)), (1000000, .ro a.pA 3 p.ps.length (encPs p.ps))] (by repeat (first | exact HS.nil | (apply HS.keep; (repeat (first | exact At.here | apply At.there))) | (apply HS.ro; (repeat (first | exact Rds.ro | exact Rds.own | apply Rds.there))))) (h := ?_)
  refine tk 0 (hy := (by first | exact fa | exact faE)) (h := ?_)
  refine tk 1 (hy := (by first | exact ld | exact ldE)) (h := ?_)
  refine tk 2 (hy := mv) (h := ?_)
  refine tk 3 (hy := ix (A := a.pA) (m := p.ps.length)) (h := ?_)
  refine tk 4 (hy := (by first | exact fa | exact faE)) (h := ?_)
  refine tk 5 (hy := ldE (A := a.pA) (hk := hge)) (h := ?_)
  refine tk 6 (hy := (by first | exact fa | exact faE)) (h := ?_)
  refine tk 7 (hy := (by first | exact ld | exact ldE)) (h := ?_)
  refine tk 8 (hy := mv) (h := ?_)
  refine tk 9 (hy := ix (A := a.pA) (m := p.ps.length)) (h := ?_)
  refine tk 10 (hy := (by first | exact fa | exact faE)) (h := ?_)
  refine tk 11 (hy := ldE (A := a.pA) (hk := hhe)) (h := ?_)
  refine tk 12 (hy := subI) (h := ?_)
  refine tk 13 (hy := asg) (h := ?_)
  refine dn (h := ?_)
  refine q_seq (h := ?_)
  refine rtn (h := ?_)
  refine q_ret (hR := ?_)
  exact fun w hS => ⟨(), trivial, rfl, hS.sub (by repeat (first | exact SubL.nil | (apply SubL.cons; (repeat (first | exact At.here | apply At.there))) | exact SubL.refl _ | apply SubL.skip))⟩
/-! #### sorting -/
structure SZ where
  (k : Nat)
set_option maxHeartbeats 1000000 in
theorem T_insertion (p : Pl) (a : PA) (b : Nat) (hq : p.Ok) (xs : List Int) (A : Option Addr) (n c : Nat) (hlen : xs.length = n) (hn : n ≤ 40) (hr : ∀ x ∈ xs, 0 ≤ x ∧ x < p.ps.length) :
    Tr Try.prog 95 [.slice A n c, .int .i64 0, .int .i64 n, .func (.func 83) #[] #[.pointer (some ⟨b, 0, none⟩)]] (.own A c 3 1 n (enI xs) :: ordL p a b) (fun _ : Unit => True) (fun _ => .tuple #[]) (fun _ => .own A c 3 1 n (enI (sortV (ltP p) xs)) :: ordL p a b) := by
  refine ⟨fun w0 w R hst => ?_⟩
  have h1 : sortTo (ltP p) xs 1 ++ xs.drop 1 = xs := by
    cases xs with
    | nil => rfl
    | cons x t => simp [sortTo, insV, posV]
  refine en Try.func95 Try.ntmps95 hst (h := fun F => ?_)
  refine sq (h := ?_)
  refine rg (h := ?_)
  refine WL.y (hy := mv) (h := ?_)
  refine WL.y (hy := addI) (h := ?_)
  refine WL.y (hy := asg) (h := ?_)
  refine nl (h := ?_)
  refine q_seq (h := ?_)
  refine bk (h := ?_)
  refine lp (X := Nat) (I := fun k => 1 ≤ k ∧ (k ≤ n ∨ k = 1)) (le := fun k => [(0, .slice A n c), (1, .int .i64 0), (2, .int .i64 n), (3, .func (.func 83) #[] #[.pointer (some ⟨b, 0, none⟩)]), (8, .int .i64 k)]) (Le := fun k => .own A c 3 1 n (enI (sortTo (ltP p) xs k ++ xs.drop k)) :: (ordL p a b ++ R)) (μ := fun k => n + 1 - k) 1 ⟨Nat.le_refl _, .inr rfl⟩ (by repeat (first | exact trivial | refine ⟨rfl, ?_⟩)) (by rw [h1]; exact SubL.refl _) (fun k hk => ?_)
  obtain ⟨hk1', hkn'⟩ := hk
  refine sq (h := ?_)
  refine sq (h := ?_)
  refine rg (h := ?_)
  refine WL.y (hy := mv) (h := ?_)
  refine WL.y (hy := mv) (h := ?_)
  refine WL.y (hy := lss) (h := ?_)
  refine nl (h := ?_)
  refine q_seq (h := ?_)
  refine cd (by exact rfl) (fun h0 => ?_) (fun h0 => ?_)
  · skip
    have hkn : k < n := by simp only [decide_eq_true_eq] at h0; omega
    obtain ⟨x, hx⟩ : ∃ x, xs[k]? = some x := ⟨_, List.getElem?_eq_getElem (by omega)⟩
    have hxr := hr x (List.mem_of_getElem? hx)
    have hsl := sortTo_len (ltP p) xs k (by omega)
    rw [← mid_start hx]
    refine skp (h := ?_)
    refine q_seq (h := ?_)
    refine sq (h := ?_)
    refine bk (h := ?_)
    refine sq (h := ?_)
    refine rg (h := ?_)
    refine WL.y (hy := mv) (h := ?_)
    refine WL.y (hy := asg) (h := ?_)
    refine nl (h := ?_)
    refine q_seq (h := ?_)
    refine bk (h := ?_)
    refine lp (X := Nat) (I := fun j => j ≤ k ∧ posV (ltP p) (sortTo (ltP p) xs k) x k = posV (ltP p) (sortTo (ltP p) xs k) x j) (le := fun j => [(0, .slice A n c), (1, .int .i64 0), (2, .int .i64 n), (3, .func (.func 83) #[] #[.pointer (some ⟨b, 0, none⟩)]), (8, .int .i64 k), (9, .int .i64 j)]) (Le := fun j => .own A c 3 1 n (enI (midV (ltP p) xs k j x)) :: (ordL p a b ++ R)) (μ := fun j => j) k ⟨Nat.le_refl _, rfl⟩ (by repeat (first | exact trivial | refine ⟨rfl, ?_⟩)) (by repeat (first | exact SubL.nil | (apply SubL.cons; (repeat (first | exact At.here | apply At.there))) | exact SubL.refl _ | apply SubL.skip)) (fun j hj => ?_)
    obtain ⟨hjk, hjp⟩ := hj
    refine sq (h := ?_)
    refine sq (h := ?_)
    refine rgD (by kernel_rfl) [(1000000, .own A c 3 1 n (enI (midV (ltP p) xs k j x)))] (by repeat (first | exact HS.nil | (apply HS.keep; (repeat (first | exact At.here | apply At.there))) | (apply HS.ro; (repeat (first | exact Rds.ro | exact Rds.own | apply Rds.there))))) (h := ?_)
    refine tk 0 (hy := mv) (h := ?_)
    refine tk 1 (hy := mv) (h := ?_)
    refine tk 2 (hy := gtr) (h := ?_)
    refine tk 3 (hy := mv) (h := ?_)
    refine brH (g := 21) (by exact rfl) (fun hb1 => ?_) (fun hb1 => ?_)
    · skip
      obtain ⟨i, hi⟩ : ∃ i, j = i + 1 := ⟨j - 1, by have := of_decide_eq_true hb1; omega⟩
      subst hi
      obtain ⟨y, hy⟩ : ∃ y, (sortTo (ltP p) xs k)[i]? = some y := ⟨_, List.getElem?_eq_getElem (by omega)⟩
      have hyr := hr y (List.mem_of_mem_take ((sortTo_mem (ltP p) xs y k (by omega)).1 (List.mem_of_getElem? hy)))
      have hbe := mid_below (lt := ltP p) (xs := xs) (k := k) (x := x) (by omega) (by omega) hy
      have hae := mid_at (lt := ltP p) (xs := xs) (k := k) (j := i + 1) (x := x) (by omega) (by omega)
      have hk0 : (enI (midV (ltP p) xs k (i + 1) x))[(((i + 1 : Nat) : Int) - 1).toNat]? = some [.int .i64 y] := by rw [show (((i + 1 : Nat) : Int) - 1).toNat = i by omega]; exact enI_at hbe
      have hk1 : (enI (midV (ltP p) xs k (i + 1) x))[(((i + 1 : Nat) : Int)).toNat]? = some [.int .i64 x] := enI_at hae
      refine tk 4 (hy := mv) (h := ?_)
      refine tk 5 (hy := mv) (h := ?_)
      refine tk 6 (hy := mv) (h := ?_)
      refine tk 7 (hy := ix (A := A) (m := n)) (h := ?_)
      refine tk 8 (hy := ldE (A := A) (hk := hk1)) (h := ?_)
      refine tk 9 (hy := mv) (h := ?_)
      refine tk 10 (hy := mv) (h := ?_)
      refine tk 11 (hy := subI) (h := ?_)
      refine tk 12 (hy := ix (A := A) (m := n)) (h := ?_)
      refine tk 13 (hy := ldE (A := A) (hk := hk0)) (h := ?_)
      refine one 14 (h := ?_)
      refine un (h := ?_)
      refine clfT inferInstance (fi := []) (cap := [.pointer (some ⟨b, 0, none⟩)]) (by exact rfl) (by repeat (first | exact Evs.nil | (apply Evs.cons; exact rfl))) (T_dsort p a b hq x y hxr hyr) rfl (by repeat (first | exact Spl.nil | (apply Spl.cons; (repeat (first | exact At.here | apply At.there))))) (h := fun _ _ => ?_)
      refine nx (h := ?_)
      refine tk 15 (hy := lss) (h := ?_)
      refine tk 16 (hy := (by first | exact pkT | exact pkF)) (h := ?_)
      refine dn (h := ?_)
      refine q_seq (h := ?_)
      refine cd (by exact rfl) (fun h2 => ?_) (fun h2 => ?_)
      · skip
        have hlt : ltP p x y = true := h2
        have hp2 : posV (ltP p) (sortTo (ltP p) xs k) x k = posV (ltP p) (sortTo (ltP p) xs k) x i := by rw [hjp, posV_step hy, hlt]; rfl
        have hi1 : (((i + 1 : Nat) : Int) - 1).toNat = i := by omega
        have hk2 : ((enI (midV (ltP p) xs k (i + 1) x)).set (((i + 1 : Nat) : Int)).toNat ([Value.int .i64 x].set 0 (.int .i64 y)))[(((i + 1 : Nat) : Int) - 1).toNat]? = some [.int .i64 y] := by
          rw [hi1, List.getElem?_set_ne (by show i + 1 ≠ i; omega)]
          exact enI_at hbe
        have hsw : ((enI (midV (ltP p) xs k (i + 1) x)).set (((i + 1 : Nat) : Int)).toNat ([Value.int .i64 x].set 0 (.int .i64 y))).set (((i + 1 : Nat) : Int) - 1).toNat ([Value.int .i64 y].set 0 (.int .i64 x)) = enI (midV (ltP p) xs k i x) := by
          rw [hi1]
          show ((enI _).set (i + 1) [.int .i64 y]).set i [.int .i64 x] = _
          rw [enI_set, enI_set, mid_swap (by omega) (by omega) hy]
        refine skp (h := ?_)
        refine q_seq (h := ?_)
        refine sq (h := ?_)
        refine bk (h := ?_)
        refine WC.some_ (A := A) (by repeat (first | exact At.here | apply At.there)) (by omega) (fun hAs => ?_)
        refine rgD (by kernel_rfl) [(15, .own A c 3 1 n (enI (midV (ltP p) xs k (i + 1) x)))] (by repeat (first | exact HS.nil | (apply HS.keep; (repeat (first | exact At.here | apply At.there))) | (apply HS.ro; (repeat (first | exact Rds.ro | exact Rds.own | apply Rds.there))))) (h := ?_)
        refine tk 0 (hy := mv) (h := ?_)
        refine tk 1 (hy := mv) (h := ?_)
        refine tk 2 (hy := mv) (h := ?_)
        refine tk 3 (hy := mv) (h := ?_)
        refine tk 4 (hy := subI) (h := ?_)
        refine tk 5 (hy := mv) (h := ?_)
        refine tk 6 (hy := mv) (h := ?_)
        refine tk 7 (hy := subI) (h := ?_)
        refine tk 8 (hy := ix (A := A) (m := n)) (h := ?_)
        refine tk 9 (hy := ldE (A := A) (hk := hk0)) (h := ?_)
        refine tk 10 (hy := mv) (h := ?_)
        refine tk 11 (hy := mv) (h := ?_)
        refine tk 12 (hy := ixS (A := A) (m := n) (hs := hAs)) (h := ?_)
        refine tk 13 (hy := ldE (A := A) (hk := hk1)) (h := ?_)
        refine tk 14 (hy := ix (A := A) (m := n)) (h := ?_)
        refine one 15 (h := ?_)
        refine stE (A := A) (hk := hk1) (h := ?_)
        refine nx (h := ?_)
        refine one 16 (h := ?_)
        refine WL.y (hy := ix (A := A) (m := n)) (h := ?_)
        refine nx (h := ?_)
        refine one 17 (h := ?_)
        refine stE (A := A) (hk := hk2) (h := ?_)
        refine nx (h := ?_)
        refine dn (h := ?_)
        refine q_blk_norm (h := ?_)
        refine q_seq (h := ?_)
        refine rg (h := ?_)
        refine WL.y (hy := mv) (h := ?_)
        refine WL.y (hy := subI) (h := ?_)
        refine WL.y (hy := asg) (h := ?_)
        refine nl (h := ?_)
        rw [hsw]
        refine rn (x := i + 1) i ⟨by omega, hp2⟩ (by omega) (by repeat (first | exact trivial | refine ⟨rfl, ?_⟩ | refine ⟨by show some (Value.int .i64 (((i + 1 : Nat) : Int) - 1)) = some (Value.int .i64 (i : Int)); congr 2; omega, ?_⟩)) (by repeat (first | exact SubL.nil | (apply SubL.cons; (repeat (first | exact At.here | apply At.there))) | exact SubL.refl _ | apply SubL.skip))
      · skip
        first
          | (have hlt : ltP p x y = false := ‹_›
             have hex : posV (ltP p) (sortTo (ltP p) xs k) x k = i + 1 := by rw [hjp, posV_step hy, hlt]; rfl)
          | skip
        refine et (h := ?_)
        refine q_then_exit (h := ?_)
        refine q_then_exit (h := ?_)
        refine q_blk_hit (h := ?_)
        refine q_blk_norm (h := ?_)
        refine q_seq (h := ?_)
        refine rg (h := ?_)
        refine WL.y (hy := mv) (h := ?_)
        refine WL.y (hy := addI) (h := ?_)
        refine WL.y (hy := asg) (h := ?_)
        refine nl (h := ?_)
        rw [mid_end hx _ hex]
        refine rn (x := k) (k + 1) ⟨by omega, by omega⟩ (by omega) (by repeat (first | exact trivial | refine ⟨rfl, ?_⟩)) (by repeat (first | exact SubL.nil | (apply SubL.cons; (repeat (first | exact At.here | apply At.there))) | exact SubL.refl _ | apply SubL.skip))
    · skip
      obtain rfl : j = 0 := by have := of_decide_eq_false hb1; omega
      have hex : posV (ltP p) (sortTo (ltP p) xs k) x k = 0 := hjp
      refine tkS 4 (h := ?_)
      refine tkS 5 (h := ?_)
      refine tkS 6 (h := ?_)
      refine tkS 7 (h := ?_)
      refine tkS 8 (h := ?_)
      refine tkS 9 (h := ?_)
      refine tkS 10 (h := ?_)
      refine tkS 11 (h := ?_)
      refine tkS 12 (h := ?_)
      refine tkS 13 (h := ?_)
      refine tkS 14 (h := ?_)
      refine tkS 15 (h := ?_)
      refine tk 16 (hy := (by first | exact pkT | exact pkF)) (h := ?_)
      refine dn (h := ?_)
      refine q_seq (h := ?_)
      refine cdF (h := ?_)
      first
        | (have hlt : ltP p x y = false := ‹_›
           have hex : posV (ltP p) (sortTo (ltP p) xs k) x k = i + 1 := by rw [hjp, posV_step hy, hlt]; rfl)
        | skip
      refine et (h := ?_)
      refine q_then_exit (h := ?_)
      refine q_then_exit (h := ?_)
      refine q_blk_hit (h := ?_)
      refine q_blk_norm (h := ?_)
      refine q_seq (h := ?_)
      refine rg (h := ?_)
      refine WL.y (hy := mv) (h := ?_)
      refine WL.y (hy := addI) (h := ?_)
      refine WL.y (hy := asg) (h := ?_)
      refine nl (h := ?_)
      rw [mid_end hx _ hex]
      refine rn (x := k) (k + 1) ⟨by omega, by omega⟩ (by omega) (by repeat (first | exact trivial | refine ⟨rfl, ?_⟩)) (by repeat (first | exact SubL.nil | (apply SubL.cons; (repeat (first | exact At.here | apply At.there))) | exact SubL.refl _ | apply SubL.skip))
  · skip
    have hkn : sortTo (ltP p) xs k ++ xs.drop k = sortV (ltP p) xs := by
      have hkn : n ≤ k := by simp only [decide_eq_false_iff_not] at h0; omega
      rcases (by omega : k = n ∨ (n = 0 ∧ k = 1)) with rfl | ⟨hn0, rfl⟩
      · rw [← hlen, List.drop_length, List.append_nil]; rfl
      · subst hn0
        rw [List.eq_nil_of_length_eq_zero hlen]; rfl
    rw [hkn]
    refine et (h := ?_)
    refine q_then_exit (h := ?_)
    refine q_then_exit (h := ?_)
    refine q_blk_hit (h := ?_)
    refine q_end (hR := ?_)
    exact fun w hS => ⟨(), trivial, rfl, hS.sub (by repeat (first | exact SubL.nil | (apply SubL.cons; (repeat (first | exact At.here | apply At.there))) | exact SubL.refl _ | apply SubL.skip))⟩
theorem wrap_u8 {a : Int} (h : 0 ≤ a ∧ a ≤ 255) : IntKind.u8.wrap a = a := by
  simp [IntKind.wrap, IntKind.bits, IntKind.signed]; omega
theorem wrap_u64 {a : Int} (h : 0 ≤ a ∧ a ≤ 1000) : IntKind.u64.wrap a = a := by
  simp [IntKind.wrap, IntKind.bits, IntKind.signed]; omega
theorem C_Len64 (a : Int) (ha : 0 ≤ a ∧ a ≤ 40) (w : World) : CR Try.prog 104 [.int .u64 a] w (fun x : Int => 0 ≤ x ∧ x ≤ 255) (fun x => .int .i64 x) (fun _ => []) := by
  refine ⟨en Try.func104 Try.ntmps104 (St.init w) (h := fun F => ?_)⟩
  refine sq (h := ?_)
  refine rg (h := ?_)
  refine WL.y (hy := asg) (h := ?_)
  refine nl (h := ?_)
  refine q_seq (h := ?_)
  refine sq (h := ?_)
  refine sq (h := ?_)
  refine rg (h := ?_)
  refine WL.y (hy := mv) (h := ?_)
  refine WL.y (hy := (Yd.fl (geq) (by refine decide_eq_false ?_; omega))) (h := ?_)
  refine nl (h := ?_)
  refine q_seq (h := ?_)
  refine cdF (h := ?_)
  refine skp (h := ?_)
  refine q_seq (h := ?_)
  refine sq (h := ?_)
  refine sq (h := ?_)
  refine rg (h := ?_)
  refine WL.y (hy := mv) (h := ?_)
  refine WL.y (hy := (Yd.fl (geq) (by refine decide_eq_false ?_; omega))) (h := ?_)
  refine nl (h := ?_)
  refine q_seq (h := ?_)
  refine cdF (h := ?_)
  refine skp (h := ?_)
  refine q_seq (h := ?_)
  refine sq (h := ?_)
  refine sq (h := ?_)
  refine rg (h := ?_)
  refine WL.y (hy := mv) (h := ?_)
  refine WL.y (hy := (Yd.fl (geq) (by refine decide_eq_false ?_; omega))) (h := ?_)
  refine nl (h := ?_)
  refine q_seq (h := ?_)
  refine cdF (h := ?_)
  refine skp (h := ?_)
  refine q_seq (h := ?_)
  refine sq (h := ?_)
  refine rg (h := ?_)
  refine WL.y (hy := mv) (h := ?_)
  refine WL.y (hy := mv) (h := ?_)
  refine WL.y (hy := cvI (hw := wrap_u8 (by omega))) (h := ?_)
  refine WL.byte (i := a) (by omega) (h := fun bt hbt => ?_)
  refine WL.y (hy := cvI (hw := IntWalk.i64_in _ (by omega))) (h := ?_)
  refine WL.y (hy := addI (hb := by omega)) (h := ?_)
  refine WL.y (hy := asg) (h := ?_)
  refine nl (h := ?_)
  refine q_seq (h := ?_)
  refine rtn (h := ?_)
  refine q_ret (hR := ?_)
  exact fun w hS => ⟨_, by omega, rfl, hS.sub (by repeat (first | exact SubL.nil | (apply SubL.cons; (repeat (first | exact At.here | apply At.there))) | exact SubL.refl _ | apply SubL.skip))⟩
theorem C_Len (a : Int) (ha : 0 ≤ a ∧ a ≤ 40) (w : World) : CR Try.prog 93 [.int .u64 a] w (fun x : Int => 0 ≤ x ∧ x ≤ 255) (fun x => .int .i64 x) (fun _ => []) := by
  refine ⟨en Try.func93 Try.ntmps93 (St.init w) (h := fun F => ?_)⟩
  refine sq (h := ?_)
  refine rg (h := ?_)
  refine WL.y (hy := asg) (h := ?_)
  refine nl (h := ?_)
  refine q_seq (h := ?_)
  refine sq (h := ?_)
  refine cdF (h := ?_)
  refine skp (h := ?_)
  refine q_seq (h := ?_)
  refine sq (h := ?_)
  refine rg (h := ?_)
  refine WL.y (hy := mv) (h := ?_)
  refine cl (hc := fun w hS => C_Len64 a ha w) (h := fun x hx => ?_)
  refine WL.y (hy := asg) (h := ?_)
  refine nl (h := ?_)
  refine q_seq (h := ?_)
  refine rtn (h := ?_)
  refine q_ret (hR := ?_)
  exact fun w hS => ⟨x, hx, rfl, hS.sub (by repeat (first | exact SubL.nil | (apply SubL.cons; (repeat (first | exact At.here | apply At.there))) | exact SubL.refl _ | apply SubL.skip))⟩
theorem T_pdq (p : Pl) (a : PA) (b : Nat) (hq : p.Ok) (xs : List Int) (A : Option Addr) (n c : Nat) (lim : Int) (hlen : xs.length = n) (hn : n ≤ 12) (hr : ∀ x ∈ xs, 0 ≤ x ∧ x < p.ps.length) :
    Tr Try.prog 92 [.slice A n c, .int .i64 0, .int .i64 n, .int .i64 lim, .func (.func 83) #[] #[.pointer (some ⟨b, 0, none⟩)]] (.own A c 3 1 n (enI xs) :: ordL p a b) (fun _ : Unit => True) (fun _ => .tuple #[]) (fun _ => .own A c 3 1 n (enI (sortV (ltP p) xs)) :: ordL p a b) := by
  refine ⟨fun w0 w R hst => ?_⟩
  refine en Try.func92 Try.ntmps92 hst (h := fun F => ?_)
  refine sq (h := ?_)
  refine rg (h := ?_)
  refine WL.y (hy := asg) (h := ?_)
  refine nl (h := ?_)
  refine q_seq (h := ?_)
  refine sq (h := ?_)
  refine rg (h := ?_)
  refine WL.y (hy := asg) (h := ?_)
  refine nl (h := ?_)
  refine q_seq (h := ?_)
  refine bk (h := ?_)
  refine lp (X := Unit) (I := fun _ => True) (le := fun _ => [(0, .slice A n c), (1, .int .i64 0), (2, .int .i64 n), (4, .func (.func 83) #[] #[.pointer (some ⟨b, 0, none⟩)])]) (Le := fun _ => .own A c 3 1 n (enI xs) :: (ordL p a b ++ R)) (μ := fun _ => 0) () trivial (by repeat (first | exact trivial | refine ⟨rfl, ?_⟩)) (SubL.refl _) (fun _ _ => ?_)
  refine bk (h := ?_)
  refine sq (h := ?_)
  refine rg (h := ?_)
  refine WL.y (hy := mv) (h := ?_)
  refine WL.y (hy := mv) (h := ?_)
  refine WL.y (hy := subI (hb := by omega)) (h := ?_)
  rw [Int.sub_zero]
  refine WL.y (hy := asg) (h := ?_)
  refine nl (h := ?_)
  refine q_seq (h := ?_)
  refine sq (h := ?_)
  refine sq (h := ?_)
  refine rg (h := ?_)
  refine WL.y (hy := mv) (h := ?_)
  refine WL.y (hy := (Yd.tr (leq) (by refine decide_eq_true ?_; omega))) (h := ?_)
  refine nl (h := ?_)
  refine q_seq (h := ?_)
  refine cdT (h := ?_)
  refine sq (h := ?_)
  refine rg (h := ?_)
  refine WL.y (hy := mv) (h := ?_)
  refine WL.y (hy := mv) (h := ?_)
  refine WL.y (hy := mv) (h := ?_)
  refine WL.y (hy := mv) (h := ?_)
  refine clT (hc := T_insertion p a b hq xs A n c hlen (by omega) hr) (hs := (by repeat (first | exact Spl.nil | (apply Spl.cons; (repeat (first | exact At.here | apply At.there)))))) (h := fun _ _ => ?_)
  refine nl (h := ?_)
  refine q_seq (h := ?_)
  refine rtn (h := ?_)
  refine q_then_ret (h := ?_)
  refine q_blk_ret (h := ?_)
  refine q_then_ret (h := ?_)
  refine q_blk_ret (h := ?_)
  refine q_ret (hR := ?_)
  exact fun w hS => ⟨(), trivial, rfl, hS⟩
theorem T_SortFunc (p : Pl) (a : PA) (b : Nat) (hq : p.Ok) (xs : List Int) (A : Option Addr) (n c : Nat) (hlen : xs.length = n) (hn : n ≤ 12) (hr : ∀ x ∈ xs, 0 ≤ x ∧ x < p.ps.length) :
    Tr Try.prog 82 [.slice A n c, .func (.func 83) #[] #[.pointer (some ⟨b, 0, none⟩)]] (.own A c 3 1 n (enI xs) :: ordL p a b) (fun _ : Unit => True) (fun _ => .tuple #[]) (fun _ => .own A c 3 1 n (enI (sortV (ltP p) xs)) :: ordL p a b) := by
  refine ⟨fun w0 w R hst => ?_⟩
  refine en Try.func82 Try.ntmps82 hst (h := fun F => ?_)
  refine sq (h := ?_)
  refine rg (h := ?_)
  refine WL.y (hy := mv) (h := ?_)
  refine WL.y (hy := lenS) (h := ?_)
  refine WL.y (hy := asg) (h := ?_)
  refine nl (h := ?_)
  refine q_seq (h := ?_)
  refine rg (h := ?_)
  refine WL.y (hy := mv) (h := ?_)
  refine WL.y (hy := mv) (h := ?_)
  refine WL.y (hy := mv) (h := ?_)
  refine WL.y (hy := cvI (hw := wrap_u64 (by omega))) (h := ?_)
  refine cl (hc := fun w hS => C_Len n (by omega) w) (h := fun x hx => ?_)
  refine WL.y (hy := mv) (h := ?_)
  refine clT (hc := T_pdq p a b hq xs A n c x hlen hn hr) (hs := (by repeat (first | exact Spl.nil | (apply Spl.cons; (repeat (first | exact At.here | apply At.there)))))) (h := fun _ _ => ?_)
  refine nl (h := ?_)
  refine q_end (hR := ?_)
  exact fun w hS => ⟨(), trivial, rfl, hS⟩

/-! #### sorted rows -/
abbrev Srt (key : Int → Int) (l : List Int) : Prop := l.Pairwise fun a b => key a < key b
theorem posV_drop {lt : Int → Int → Bool} {l : List Int} {x : Int} : ∀ j, j ≤ l.length → ∀ y ∈ (l.take j).drop (posV lt l x j), lt x y = true
  | 0, _, y, h => by simp at h
  | j + 1, hj, y, h => by
    have hl : l[j]? = some l[j] := List.getElem?_eq_getElem (by omega)
    rw [posV_step hl] at h
    cases hb : lt x l[j] with
    | false =>
      rw [hb] at h
      simp only [cond_false] at h
      rw [List.drop_of_length_le (by simp; omega)] at h
      cases h
    | true =>
      rw [hb] at h
      simp only [cond_true] at h
      rw [List.take_add_one, hl, List.drop_append_of_le_length (by have := posV_le lt l x j; simp; omega)] at h
      rcases List.mem_append.1 h with h | h
      · exact posV_drop j (by omega) y h
      · simp only [Option.toList_some, List.mem_singleton] at h
        rw [h]; exact hb
theorem posV_last {lt : Int → Int → Bool} {l : List Int} {x : Int} : ∀ j, j ≤ l.length → ∀ p, posV lt l x j = p + 1 → ∃ y, l[p]? = some y ∧ lt x y = false
  | 0, _, p, h => by simp [posV] at h
  | j + 1, hj, p, h => by
    have hl : l[j]? = some l[j] := List.getElem?_eq_getElem (by omega)
    rw [posV_step hl] at h
    cases hb : lt x l[j] with
    | false =>
      rw [hb] at h
      simp only [cond_false] at h
      obtain rfl : j = p := by omega
      exact ⟨_, hl, hb⟩
    | true =>
      rw [hb] at h
      exact posV_last j (by omega) p h
theorem insV_srt {key : Int → Int} {lt : Int → Int → Bool} {l : List Int} {x : Int} (hlt : ∀ y ∈ l, lt x y = decide (key x < key y)) (hne : ∀ y ∈ l, key y ≠ key x) (hs : Srt key l) : Srt key (insV lt l x) := by
  have hs0 := hs
  unfold insV
  have hp := posV_le lt l x l.length
  have hd := posV_drop (lt := lt) (l := l) (x := x) l.length (Nat.le_refl _)
  have hla := posV_last (lt := lt) (l := l) (x := x) l.length (Nat.le_refl _)
  generalize posV lt l x l.length = p at *
  rw [List.take_length] at hd
  rw [← List.take_append_drop p l] at hs
  obtain ⟨h1, h2, h3⟩ := List.pairwise_append.1 hs
  have hx : ∀ y ∈ l.drop p, key x < key y := fun y hy => by
    have := hd y hy
    rw [hlt y (List.mem_of_mem_drop hy)] at this
    exact of_decide_eq_true this
  have ha : ∀ a ∈ l.take p, key a < key x := fun a hat => by
    cases p with
    | zero => simp at hat
    | succ p =>
      obtain ⟨y, hy, hb⟩ := hla p rfl
      have hyl := List.mem_of_getElem? hy
      rw [hlt y hyl] at hb
      have h4 := of_decide_eq_false hb
      have h5 := hne y hyl
      rw [List.take_add_one, hy] at hat
      rcases List.mem_append.1 hat with hat | hat
      · rw [List.take_add_one, hy] at h1
        have := (List.pairwise_append.1 h1).2.2 a hat y (by simp)
        omega
      · simp only [Option.toList_some, List.mem_singleton] at hat
        subst hat; omega
  refine List.pairwise_append.2 ⟨h1, List.pairwise_cons.2 ⟨hx, h2⟩, fun a hat b hb => ?_⟩
  rcases List.mem_cons.1 hb with rfl | hb
  · exact ha a hat
  · exact h3 a hat b hb
theorem sortTo_srt {key : Int → Int} {lt : Int → Int → Bool} {xs : List Int} (hlt : ∀ x ∈ xs, ∀ y ∈ xs, lt x y = decide (key x < key y)) (hnd : xs.Pairwise fun a b => key a ≠ key b) : ∀ k, k ≤ xs.length → Srt key (sortTo lt xs k)
  | 0, _ => List.Pairwise.nil
  | k + 1, hk => by
    have hx : xs[k]? = some xs[k] := List.getElem?_eq_getElem (by omega)
    rw [sortTo, hx]
    refine insV_srt (fun y hy => hlt _ (List.getElem_mem _) _ (List.mem_of_mem_take ((sortTo_mem lt xs y k (by omega)).1 hy))) (fun y hy => ?_) (sortTo_srt hlt hnd k (by omega))
    have hm := (sortTo_mem lt xs y k (by omega)).1 hy
    obtain ⟨i, hi, rfl⟩ := List.getElem_of_mem hm
    rw [List.getElem_take]
    rw [List.length_take] at hi
    exact List.pairwise_iff_getElem.1 hnd i k (by omega) (by omega) (by omega)
theorem srt_uniq {key : Int → Int} : ∀ {l l' : List Int}, Srt key l → Srt key l' → (∀ x, x ∈ l ↔ x ∈ l') → l = l'
  | [], [], _, _, _ => rfl
  | [], b :: t, _, _, h => by have := (h b).2 (by simp); cases this
  | a :: t, [], _, _, h => by have := (h a).1 (by simp); cases this
  | a :: t, b :: t', hl, hl', h => by
    obtain ⟨h1, h2⟩ := List.pairwise_cons.1 hl
    obtain ⟨h3, h4⟩ := List.pairwise_cons.1 hl'
    have e : a = b := by
      rcases List.mem_cons.1 ((h a).1 (by simp)) with e | e
      · exact e
      · rcases List.mem_cons.1 ((h b).2 (by simp)) with e' | e'
        · exact e'.symm
        · have := h3 a e
          have := h1 b e'
          omega
    subst e
    congr 1
    refine srt_uniq h2 h4 fun x => ⟨fun hx => ?_, fun hx => ?_⟩
    · rcases List.mem_cons.1 ((h x).1 (List.mem_cons_of_mem _ hx)) with rfl | e
      · have := h1 x hx; omega
      · exact e
    · rcases List.mem_cons.1 ((h x).2 (List.mem_cons_of_mem _ hx)) with rfl | e
      · have := h3 x hx; omega
      · exact e
theorem srt_nodup {key : Int → Int} {l : List Int} (h : Srt key l) : l.Pairwise fun a b => a ≠ b := h.imp fun {a b} hab e => by subst e; omega
theorem filter_split {α : Type} (p q : α → Bool) : ∀ {l : List α}, l.Pairwise (fun a b => q b = true → q a = true) → l.filter p = l.filter (fun x => p x && q x) ++ l.filter (fun x => p x && !q x)
  | [], _ => rfl
  | a :: t, h => by
    obtain ⟨h1, h2⟩ := List.pairwise_cons.1 h
    cases hq : q a
    · have hn : ∀ b ∈ t, q b = false := fun b hb => by
        cases hqb : q b
        · rfl
        · have := h1 b hb hqb
          rw [hq] at this; cases this
      have he : t.filter (fun x => p x && q x) = [] := List.filter_eq_nil_iff.2 fun b hb => by simp [hn b hb]
      simp only [List.filter_cons, hq, Bool.and_false, Bool.not_false, Bool.and_true, Bool.false_eq_true, if_false, he, List.nil_append]
      have : t.filter p = t.filter (fun x => p x && !q x) := List.filter_congr fun b hb => by simp [hn b hb]
      rw [this]
    · simp only [List.filter_cons, hq, Bool.and_true, Bool.not_true, Bool.and_false, Bool.false_eq_true, if_false]
      have := filter_split p q h2
      cases hp : p a
      · simp only [Bool.false_eq_true, if_false]; exact this
      · simp only [if_true]; rw [List.cons_append, ← this]

end Go.Proofs.Ytjkoaifjmcgpfaa
