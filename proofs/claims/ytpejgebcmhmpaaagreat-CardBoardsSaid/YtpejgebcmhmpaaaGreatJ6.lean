/- The texts of the walk, part 6. -/
import Derived.Test.YtpejgebcmhmpaaaGreatJ5
namespace Go.Proofs.YtpejgebcmhmpaaaGreat
open Go Go.RowKit

def sqN : Nat → List (List Int)
  | 0 => [[]]
  | k + 1 => (sqN k).flatMap fun r => [r ++ [0], r ++ [1]]
theorem sqN_len : ∀ k, (sqN k).length = 2 ^ k
  | 0 => rfl
  | k + 1 => by
    rw [sqN, Nat.pow_succ, ← sqN_len k]
    generalize sqN k = l
    induction l with
    | nil => rfl
    | cons x l ih => rw [List.flatMap_cons, List.length_append, ih]; simp only [List.length_cons, List.length_nil]; omega
theorem sqN_mem : ∀ {ps : List Int}, (∀ p ∈ ps, p = 0 ∨ p = 1) → ps ∈ sqN ps.length := fun {ps} h => by
  obtain ⟨n, hn⟩ : ∃ n, ps.length = n := ⟨_, rfl⟩
  induction n generalizing ps with
  | zero => rw [List.eq_nil_of_length_eq_zero hn]; exact List.mem_singleton.2 rfl
  | succ n ih =>
    have hne : ps ≠ [] := fun e => by rw [e] at hn; cases hn
    obtain ⟨r, p, rfl⟩ : ∃ r p, ps = r ++ [p] := ⟨ps.dropLast, ps.getLast hne, (List.dropLast_concat_getLast hne).symm⟩
    have hl : r.length = n := by rw [List.length_append] at hn; simpa using hn
    have h1 := ih (ps := r) (fun p hp => h p (List.mem_append_left _ hp)) hl
    rw [hl] at h1
    rw [hn, sqN, List.mem_flatMap]
    refine ⟨r, h1, ?_⟩
    rcases h p (by simp) with rfl | rfl <;> simp
def sqS (f : Fmt) (k : Nat) : List Spot := ((sqN k).map fun r => spS f 0 r r.length) ++ (sqN k).map fun r => spS f 1 r r.length
def allS (f : Fmt) : Nat → List Spot
  | 0 => sqS f 0
  | k + 1 => allS f k ++ sqS f (k + 1)
theorem allS_len (f : Fmt) : ∀ k, (allS f k).length + 2 = 2 ^ (k + 2)
  | 0 => by show (sqS f 0).length + 2 = 4; unfold sqS; rw [List.length_append, List.length_map, List.length_map, sqN_len]
  | k + 1 => by
    have h1 := allS_len f k
    rw [allS, List.length_append]
    unfold sqS
    rw [List.length_append, List.length_map, List.length_map, sqN_len]
    rw [Nat.pow_succ 2 (k + 2), ← h1, Nat.pow_succ 2 k]
    have h2 : 2 ^ (k + 2) = 2 ^ k * 2 * 2 := by rw [Nat.pow_succ, Nat.pow_succ]
    omega
theorem allS_sub (f : Fmt) {s : Spot} {k : Nat} : ∀ {n : Nat}, k ≤ n → s ∈ sqS f k → s ∈ allS f n
  | 0, h, hs => by rw [show k = 0 by omega] at hs; exact hs
  | n + 1, h, hs => by
    by_cases e : k = n + 1
    · subst e; exact List.mem_append_right _ hs
    · exact List.mem_append_left _ (allS_sub f (n := n) (by omega) hs)
theorem stk_spot {f : Fmt} (hf : f.Ok) {K : Int} {U : List Row} {s : StA} (h : StK f K U s) {n : Nat} (hn : K ≤ (n : Int)) : spotOf s.m ∈ allS f n := by
  obtain ⟨h1, h2⟩ := play_can hf h.pl
  have h3 := h.n
  refine allS_sub f (k := s.ps.length) (by omega) ?_
  have hm : s.ps ∈ sqN s.ps.length := sqN_mem fun p hp => by
    obtain ⟨i, hi, e⟩ := List.mem_iff_getElem.1 hp
    exact (h1 i p (by rw [List.getElem?_eq_getElem hi, e])).1
  rw [h2]
  unfold sqS
  rcases h.fs with e | e
  · exact List.mem_append_left _ (List.mem_map.2 ⟨s.ps, hm, by rw [e]⟩)
  · exact List.mem_append_right _ (List.mem_map.2 ⟨s.ps, hm, by rw [e]⟩)
theorem stk_len {f : Fmt} (hf : f.Ok) {K : Int} {U : List Row} {l : List StA} (hk : Keys (l.map enA)) (h : ∀ x ∈ l, StK f K U x) (hK : K ≤ 22) : l.length ≤ 16777216 := by
  unfold Keys at hk
  have h1 : (((l.map enA).map (·.1)).length) ≤ (allS f 22).length := List.Nodup.length_le_of_subset hk fun s hs => by
    obtain ⟨e, he, rfl⟩ := List.mem_map.1 hs
    obtain ⟨x, hx, rfl⟩ := List.mem_map.1 he
    exact stk_spot hf (h x hx) (n := 22) (by exact hK)
  have h2 := allS_len f 22
  rw [List.length_map, List.length_map] at h1
  have h3 : (2 : Nat) ^ (22 + 2) = 16777216 := by decide
  omega
abbrev StA.up (s : StA) (v : Mn) : StA := ⟨s.m, s.sA, s.gA, s.sc, s.gc, s.ps, s.pA, s.pc, v⟩
set_option maxRecDepth 100000 in
theorem T_added (f : Fmt) (hf : f.Ok) (K : Int) (hK : K ≤ 900) (l : List StA) (s : StA) (A : Option Addr) (c : Nat) (U : List Row) (hok : ∀ x ∈ l, StK f K U x) (hs : StK f K U s) (hl : l.length ≤ 50000000) :
    Tr Tryz.prog 89 [.slice A l.length c, s.val] [.own A c 91 16 l.length (encY l), manyE true U] (fun _ : Option Addr × Nat => True) (fun p => .slice p.1 (addS l s).length p.2) (fun p => [.own p.1 p.2 91 16 (addS l s).length (encY (addS l s)), manyE true U]) := by
  refine ⟨fun w0 w R hst => ?_⟩
  have hsn : s.m.st.length ≤ 1000000 := by have := (hs.bd hf hK).s; have := hs.n; omega
  refine en Tryz.func89 Tryz.ntmps89 hst (h := fun F => ?_)
  refine sq (h := ?_)
  refine rg (h := ?_)
  refine bxA (h := fun b0 => ?_)
  refine WL.y (hy := asg) (h := ?_)
  refine WL.cut (by repeat (first | exact Cut.nil | apply Cut.hit | apply Cut.miss (by exact rfl))) ?_
  refine nl (h := ?_)
  refine q_seq (h := ?_)
  refine sq (h := ?_)
  refine sq (h := ?_)
  refine rg (h := ?_)
  refine WL.y (hy := asg) (h := ?_)
  refine WL.cut (by repeat (first | exact Cut.nil | apply Cut.hit | apply Cut.miss (by exact rfl))) ?_
  refine nl (h := ?_)
  refine q_seq (h := ?_)
  refine bk (h := ?_)
  refine lp (X := Nat) (I := fun k => k ≤ l.length ∧ ∀ i y, i < k → l[i]? = some y → spotOf y.m ≠ spotOf s.m) (le := fun k => [(0, .slice A l.length c), (3, .pointer (some ⟨b0, 0, none⟩)), (5, .int .i64 k)]) (Le := fun _ => .blk b0 91 s.cells :: .own A c 91 16 l.length (encY l) :: manyE true U :: R) (μ := fun k => l.length - k) 0 ⟨Nat.zero_le _, fun i y hi => absurd hi (Nat.not_lt_zero _)⟩ (by repeat (first | exact trivial | refine ⟨rfl, ?_⟩)) (by repeat (first | exact SubL.nil | (apply SubL.cons; (repeat (first | exact At.here | apply At.there))) | exact SubL.refl _ | apply SubL.skip)) (fun k hk => ?_)
  refine sq (h := ?_)
  refine sq (h := ?_)
  refine rg (h := ?_)
  refine WL.y (hy := mv) (h := ?_)
  refine WL.y (hy := mv) (h := ?_)
  refine WL.y (hy := lenS) (h := ?_)
  refine WL.y (hy := lss) (h := ?_)
  refine nl (h := ?_)
  refine q_seq (h := ?_)
  refine cd (by exact rfl) (fun h0 => ?_) (fun h0 => ?_)
  · skip
    have hkn : k < l.length := by have := of_decide_eq_true h0; omega
    obtain ⟨y, hy⟩ : ∃ y, l[k]? = some y := ⟨_, List.getElem?_eq_getElem hkn⟩
    have hym := hok y (List.mem_of_getElem? hy)
    have hyn : y.m.st.length ≤ 1000000 := by have := (hym.bd hf hK).s; have := hym.n; omega
    have hy1 : (l.set k (y.up (min y.mn.1 s.mn.1, y.mn.2.1, y.mn.2.2)))[k]? = some (y.up (min y.mn.1 s.mn.1, y.mn.2.1, y.mn.2.2)) := List.getElem?_set_self hkn
    have hy2 : (l.set k (y.up (min y.mn.1 s.mn.1, max y.mn.2.1 s.mn.2.1, y.mn.2.2)))[k]? = some (y.up (min y.mn.1 s.mn.1, max y.mn.2.1 s.mn.2.1, y.mn.2.2)) := List.getElem?_set_self hkn
    refine skp (h := ?_)
    refine q_seq (h := ?_)
    refine sq (h := ?_)
    refine bk (h := ?_)
    refine sq (h := ?_)
    refine rgD (by kernel_rfl) [(1000000, .own A c 91 16 l.length (encY l)), (1000000, .blk b0 91 s.cells)] (by repeat (first | exact HS.nil | (apply HS.keep; (repeat (first | exact At.here | apply At.there))) | (apply HS.ro; (repeat (first | exact Rds.ro | exact Rds.own | apply Rds.there))))) (h := ?_)
    refine tk 0 (hy := mv) (h := ?_)
    refine tk 1 (hy := mv) (h := ?_)
    refine tk 2 (hy := ix (A := A) (m := l.length)) (h := ?_)
    refine tk 3 (hy := (by first | exact fa | exact faE)) (h := ?_)
    refine tk 4 (hy := (by first | exact fa | exact faE)) (h := ?_)
    refine tk 5 (hy := ldE (A := A) (k := k) (hk := encY_at hy)) (h := ?_)
    refine tk 6 (hy := (by first | exact fa | exact faE)) (h := ?_)
    refine tk 7 (hy := (by first | exact fa | exact faE)) (h := ?_)
    refine tk 8 (hy := (by first | exact ld | exact ldE)) (h := ?_)
    refine tk 9 (hy := eql) (h := ?_)
    refine tk 10 (hy := mv) (h := ?_)
    refine brH (g := 22) (by exact rfl) (fun hb1 => ?_) (fun hb1 => ?_)
    · skip
      have hfe : y.m.first = s.m.first := of_decide_eq_true hb1
      refine tk 11 (hy := mv) (h := ?_)
      refine tk 12 (hy := mv) (h := ?_)
      refine tk 13 (hy := ix (A := A) (m := l.length)) (h := ?_)
      refine tk 14 (hy := (by first | exact fa | exact faE)) (h := ?_)
      refine tk 15 (hy := (by first | exact fa | exact faE)) (h := ?_)
      refine tk 16 (hy := (by first | exact fa | exact faE)) (h := ?_)
      refine tk 17 (hy := ldEA (A := A) (k := k) (hk := encY_at hy)) (h := ?_)
      refine tk 18 (hy := (by first | exact fa | exact faE)) (h := ?_)
      refine tk 19 (hy := (by first | exact fa | exact faE)) (h := ?_)
      refine tk 20 (hy := (by first | exact fa | exact faE)) (h := ?_)
      refine tk 21 (hy := (by first | exact ldA | exact ldEA)) (h := ?_)
      refine one 22 (h := ?_)
      refine un (h := ?_)
      refine cl0 (hc := fun w hS => C_ref3_SameBoard ⟨y.m.st, y.m.g, y.m.p⟩ ⟨s.m.st, s.m.g, s.m.p⟩ y.sA s.sA y.m.st.length y.sc s.m.st.length s.sc w (hS.many (by repeat (first | exact At.here | apply At.there)) hym.us) (hS.many (by repeat (first | exact At.here | apply At.there)) hs.us) (by omega) (by omega)) (h := ?_)
      refine nx (h := ?_)
      refine tk 23 (hy := (by first | exact pkT | exact pkF)) (h := ?_)
      refine dn (h := ?_)
      refine q_seq (h := ?_)
      refine cd (by exact rfl) (fun h2 => ?_) (fun h2 => ?_)
      · skip
        have hE : addS l s = l.set k (joinA y s) := addS_hit hk.2 hy (spot_eq.2 ⟨hfe, of_decide_eq_true h2⟩)
        refine sq (h := ?_)
        refine rgD (by kernel_rfl) [(12, .own A c 91 16 l.length (encY l)), (1000000, .blk b0 91 s.cells)] (by repeat (first | exact HS.nil | (apply HS.keep; (repeat (first | exact At.here | apply At.there))) | (apply HS.ro; (repeat (first | exact Rds.ro | exact Rds.own | apply Rds.there))))) (h := ?_)
        refine tk 0 (hy := mv) (h := ?_)
        refine tk 1 (hy := mv) (h := ?_)
        refine tk 2 (hy := mv) (h := ?_)
        refine tk 3 (hy := mv) (h := ?_)
        refine tk 4 (hy := ix (A := A) (m := l.length)) (h := ?_)
        refine tk 5 (hy := (by first | exact fa | exact faE)) (h := ?_)
        refine tk 6 (hy := ldE (A := A) (k := k) (hk := encY_at hy)) (h := ?_)
        refine tk 7 (hy := (by first | exact fa | exact faE)) (h := ?_)
        refine tk 8 (hy := (by first | exact ld | exact ldE)) (h := ?_)
        refine tk 9 (hy := minI) (h := ?_)
        refine one 10 (h := ?_)
        refine WL.y (hy := ix (A := A) (m := l.length) (hb := by omega)) (h := ?_)
        refine nx (h := ?_)
        refine tk 11 (hy := (by first | exact fa | exact faE)) (h := ?_)
        refine one 12 (h := ?_)
        refine stE (A := A) (k := k) (j := 13) (hk := encY_at hy) (h := ?_)
        rw [show (encY l).set k (y.cells.set 13 (Value.int .i64 (min y.mn.1 s.mn.1))) = encY (l.set k (y.up (min y.mn.1 s.mn.1, y.mn.2.1, y.mn.2.2))) from encY_set l k (y.up (min y.mn.1 s.mn.1, y.mn.2.1, y.mn.2.2))]
        refine nx (h := ?_)
        refine dn (h := ?_)
        refine q_seq (h := ?_)
        refine sq (h := ?_)
        refine rgD (by kernel_rfl) [(12, .own A c 91 16 l.length (encY (l.set k (y.up (min y.mn.1 s.mn.1, y.mn.2.1, y.mn.2.2))))), (1000000, .blk b0 91 s.cells)] (by repeat (first | exact HS.nil | (apply HS.keep; (repeat (first | exact At.here | apply At.there))) | (apply HS.ro; (repeat (first | exact Rds.ro | exact Rds.own | apply Rds.there))))) (h := ?_)
        refine tk 0 (hy := mv) (h := ?_)
        refine tk 1 (hy := mv) (h := ?_)
        refine tk 2 (hy := mv) (h := ?_)
        refine tk 3 (hy := mv) (h := ?_)
        refine tk 4 (hy := ix (A := A) (m := l.length)) (h := ?_)
        refine tk 5 (hy := (by first | exact fa | exact faE)) (h := ?_)
        refine tk 6 (hy := ldE (A := A) (k := k) (hk := encY_at hy1)) (h := ?_)
        refine tk 7 (hy := (by first | exact fa | exact faE)) (h := ?_)
        refine tk 8 (hy := (by first | exact ld | exact ldE)) (h := ?_)
        refine tk 9 (hy := maxI) (h := ?_)
        refine one 10 (h := ?_)
        refine WL.y (hy := ix (A := A) (m := l.length) (hb := by omega)) (h := ?_)
        refine nx (h := ?_)
        refine tk 11 (hy := (by first | exact fa | exact faE)) (h := ?_)
        refine one 12 (h := ?_)
        refine stE (A := A) (k := k) (j := 14) (hk := encY_at hy1) (h := ?_)
        rw [show (encY (l.set k (y.up (min y.mn.1 s.mn.1, y.mn.2.1, y.mn.2.2)))).set k ((y.up (min y.mn.1 s.mn.1, y.mn.2.1, y.mn.2.2)).cells.set 14 (Value.int .i64 (max y.mn.2.1 s.mn.2.1))) = encY (l.set k (y.up (min y.mn.1 s.mn.1, max y.mn.2.1 s.mn.2.1, y.mn.2.2))) from (encY_set _ k (y.up (min y.mn.1 s.mn.1, max y.mn.2.1 s.mn.2.1, y.mn.2.2))).trans (by rw [List.set_set])]
        refine nx (h := ?_)
        refine dn (h := ?_)
        refine q_seq (h := ?_)
        refine sq (h := ?_)
        refine rgD (by kernel_rfl) [(12, .own A c 91 16 l.length (encY (l.set k (y.up (min y.mn.1 s.mn.1, max y.mn.2.1 s.mn.2.1, y.mn.2.2))))), (1000000, .blk b0 91 s.cells)] (by repeat (first | exact HS.nil | (apply HS.keep; (repeat (first | exact At.here | apply At.there))) | (apply HS.ro; (repeat (first | exact Rds.ro | exact Rds.own | apply Rds.there))))) (h := ?_)
        refine tk 0 (hy := mv) (h := ?_)
        refine tk 1 (hy := mv) (h := ?_)
        refine tk 2 (hy := mv) (h := ?_)
        refine tk 3 (hy := mv) (h := ?_)
        refine tk 4 (hy := ix (A := A) (m := l.length)) (h := ?_)
        refine tk 5 (hy := (by first | exact fa | exact faE)) (h := ?_)
        refine tk 6 (hy := ldE (A := A) (k := k) (hk := encY_at hy2)) (h := ?_)
        refine tk 7 (hy := (by first | exact fa | exact faE)) (h := ?_)
        refine tk 8 (hy := (by first | exact ld | exact ldE)) (h := ?_)
        refine tk 9 (hy := minI) (h := ?_)
        refine one 10 (h := ?_)
        refine WL.y (hy := ix (A := A) (m := l.length) (hb := by omega)) (h := ?_)
        refine nx (h := ?_)
        refine tk 11 (hy := (by first | exact fa | exact faE)) (h := ?_)
        refine one 12 (h := ?_)
        refine stE (A := A) (k := k) (j := 15) (hk := encY_at hy2) (h := ?_)
        rw [show (encY (l.set k (y.up (min y.mn.1 s.mn.1, max y.mn.2.1 s.mn.2.1, y.mn.2.2)))).set k ((y.up (min y.mn.1 s.mn.1, max y.mn.2.1 s.mn.2.1, y.mn.2.2)).cells.set 15 (Value.int .i64 (min y.mn.2.2 s.mn.2.2))) = encY (l.set k (joinA y s)) from (encY_set _ k (joinA y s)).trans (by rw [List.set_set])]
        refine nx (h := ?_)
        refine dn (h := ?_)
        refine q_seq (h := ?_)
        refine sq (h := ?_)
        refine rg (h := ?_)
        refine WL.y (hy := mv) (h := ?_)
        refine WL.y (hy := asg) (h := ?_)
        refine WL.cut (by repeat (first | exact Cut.nil | apply Cut.hit | apply Cut.miss (by exact rfl))) ?_
        refine nl (h := ?_)
        refine q_seq (h := ?_)
        refine rtn (h := ?_)
        refine q_blk_ret (h := ?_)
        refine q_then_ret (h := ?_)
        refine q_then_ret (h := ?_)
        refine q_blk_ret (h := ?_)
        refine q_then_ret (h := ?_)
        refine q_ret (hR := ?_)
        first
          | (rw [hE, List.length_set]; exact fun w hS => ⟨(A, c), trivial, rfl, hS.sub (by repeat (first | exact SubL.nil | (apply SubL.cons; (repeat (first | exact At.here | apply At.there))) | exact SubL.refl _ | apply SubL.skip))⟩)
          | (rw [hE, List.length_append]; exact fun w hS => ⟨(A1, c1), trivial, rfl, hS.sub (by repeat (first | exact SubL.nil | (apply SubL.cons; (repeat (first | exact At.here | apply At.there))) | exact SubL.refl _ | apply SubL.skip))⟩)
      · skip
        have hne : spotOf y.m ≠ spotOf s.m := by
          first
            | exact fun e => hfe (spot_eq.1 e).1
            | exact fun e => of_decide_eq_false (show decide ((⟨y.m.st, y.m.g, y.m.p⟩ : Brd) = ⟨s.m.st, s.m.g, s.m.p⟩) = false by assumption) (spot_eq.1 e).2
        refine skp (h := ?_)
        refine q_blk_norm (h := ?_)
        refine q_seq (h := ?_)
        refine rg (h := ?_)
        refine WL.y (hy := mv) (h := ?_)
        refine WL.y (hy := addI) (h := ?_)
        refine WL.y (hy := asg) (h := ?_)
        refine WL.cut (by repeat (first | exact Cut.nil | apply Cut.hit | apply Cut.miss (by exact rfl))) ?_
        refine nl (h := ?_)
        refine rn (x := k) (k + 1) ⟨hkn, fun i z hi hz => by
          by_cases e : i = k
          · subst e; rw [hy] at hz; cases hz; exact hne
          · exact hk.2 i z (by omega) hz⟩ (by omega) (by repeat (first | exact trivial | refine ⟨rfl, ?_⟩)) (by repeat (first | exact SubL.nil | (apply SubL.cons; (repeat (first | exact At.here | apply At.there))) | exact SubL.refl _ | apply SubL.skip))
    · skip
      have hfe : ¬ y.m.first = s.m.first := of_decide_eq_false hb1
      refine tkS 11 (h := ?_)
      refine tkS 12 (h := ?_)
      refine tkS 13 (h := ?_)
      refine tkS 14 (h := ?_)
      refine tkS 15 (h := ?_)
      refine tkS 16 (h := ?_)
      refine tkS 17 (h := ?_)
      refine tkS 18 (h := ?_)
      refine tkS 19 (h := ?_)
      refine tkS 20 (h := ?_)
      refine tkS 21 (h := ?_)
      refine tkS 22 (h := ?_)
      refine tk 23 (hy := (by first | exact pkT | exact pkF)) (h := ?_)
      refine dn (h := ?_)
      refine q_seq (h := ?_)
      refine cdF (h := ?_)
      have hne : spotOf y.m ≠ spotOf s.m := by
        first
          | exact fun e => hfe (spot_eq.1 e).1
          | exact fun e => of_decide_eq_false (show decide ((⟨y.m.st, y.m.g, y.m.p⟩ : Brd) = ⟨s.m.st, s.m.g, s.m.p⟩) = false by assumption) (spot_eq.1 e).2
      refine skp (h := ?_)
      refine q_blk_norm (h := ?_)
      refine q_seq (h := ?_)
      refine rg (h := ?_)
      refine WL.y (hy := mv) (h := ?_)
      refine WL.y (hy := addI) (h := ?_)
      refine WL.y (hy := asg) (h := ?_)
      refine WL.cut (by repeat (first | exact Cut.nil | apply Cut.hit | apply Cut.miss (by exact rfl))) ?_
      refine nl (h := ?_)
      refine rn (x := k) (k + 1) ⟨hkn, fun i z hi hz => by
        by_cases e : i = k
        · subst e; rw [hy] at hz; cases hz; exact hne
        · exact hk.2 i z (by omega) hz⟩ (by omega) (by repeat (first | exact trivial | refine ⟨rfl, ?_⟩)) (by repeat (first | exact SubL.nil | (apply SubL.cons; (repeat (first | exact At.here | apply At.there))) | exact SubL.refl _ | apply SubL.skip))
  · skip
    have hkn : k = l.length := by have := of_decide_eq_false h0; omega
    have hE : addS l s = l ++ [s] := addS_miss fun y hy => by
      obtain ⟨i, hi, e⟩ := List.mem_iff_getElem.1 hy
      exact hk.2 i y (by omega) (by rw [List.getElem?_eq_getElem hi, e])
    refine et (h := ?_)
    refine q_then_exit (h := ?_)
    refine q_then_exit (h := ?_)
    refine q_blk_hit (h := ?_)
    refine q_seq (h := ?_)
    refine sq (h := ?_)
    refine rg (h := ?_)
    refine WL.y (hy := mv) (h := ?_)
    refine WL.y (hy := (by first | exact ldA | exact ldEA)) (h := ?_)
    refine bs (h := fun b1 => ?_)
    refine ap (es := encY l) (m := l.length) (k := 1) (A := A) (c := c) (h := fun A1 c1 => ?_)
    rw [encY_snoc]
    refine WL.y (hy := asg) (h := ?_)
    refine WL.cut (by repeat (first | exact Cut.nil | apply Cut.hit | apply Cut.miss (by exact rfl))) ?_
    refine nl (h := ?_)
    refine q_seq (h := ?_)
    refine rtn (h := ?_)
    refine q_ret (hR := ?_)
    first
      | (rw [hE, List.length_set]; exact fun w hS => ⟨(A, c), trivial, rfl, hS.sub (by repeat (first | exact SubL.nil | (apply SubL.cons; (repeat (first | exact At.here | apply At.there))) | exact SubL.refl _ | apply SubL.skip))⟩)
      | (rw [hE, List.length_append]; exact fun w hS => ⟨(A1, c1), trivial, rfl, hS.sub (by repeat (first | exact SubL.nil | (apply SubL.cons; (repeat (first | exact At.here | apply At.there))) | exact SubL.refl _ | apply SubL.skip))⟩)
end Go.Proofs.YtpejgebcmhmpaaaGreat

namespace Go.Proofs.YtpejgebcmhmpaaaGreat
open Go Go.RowKit

structure SpI (f : Fmt) (K : Int) (U : List Row) (es : List En) (out : List StA) (U' : List Row) : Prop where
  en : out.map enA = normC es
  ok : ∀ x ∈ out, StK f K U' x
  sub : ∀ r ∈ U, r ∈ U'
theorem SpI.add {f : Fmt} {K : Int} {U : List Row} {es : List En} {out : List StA} {U' U2 : List Row} (h : SpI f K U es out U') (hU : ∀ r ∈ U', r ∈ U2) {s : StA} (hs : StK f K U2 s) : SpI f K U (es ++ [enA s]) (addS out s) U2 :=
  ⟨by rw [addS_en, h.en, norm_snoc], addS_ok (fun x hx => (h.ok x hx).mono (Int.le_refl _) hU) hs, fun r hr => hU r (h.sub r hr)⟩
theorem SpI.keys {f : Fmt} {K : Int} {U : List Row} {es : List En} {out : List StA} {U' : List Row} (h : SpI f K U es out U') : Keys (out.map enA) := by rw [h.en]; exact norm_nodup _
def goP (f : Fmt) (side : Int) (e : En) : Nat → List En
  | 0 => []
  | k + 1 => goP f side e k ++ goE f side e (k : Int)
theorem stepI_succ {f : Fmt} {side : Int} {l : List StA} {i : Nat} {y : StA} (h : l[i]? = some y) : stepI f ((l.take (i + 1)).map enA) side = stepI f ((l.take i).map enA) side ++ goP f side (enA y) 2 := by
  unfold stepI
  rw [List.take_add_one, h, List.map_append, List.flatMap_append]
  show _ ++ ((goE f side (enA y) 0 ++ goE f side (enA y) 1) ++ []) = _ ++ (([] ++ goE f side (enA y) ((0 : Nat) : Int)) ++ goE f side (enA y) ((1 : Nat) : Int))
  rw [List.append_nil, List.nil_append]; rfl
theorem goE_yes {f : Fmt} {side p : Int} {y : StA} {u : Spot} (hs : side = -1 ∨ side = p) (hn : nxtS f (spotOf y.m) p = some u) : goE f side (enA y) p = [upE (enA y) u] := by
  unfold goE
  rw [if_pos hs, show (enA y).1 = spotOf y.m from rfl, hn]
theorem goE_no {f : Fmt} {side p : Int} {y : StA} (h : ¬ ((side = -1 ∨ side = p) ∧ nxtS f (spotOf y.m) p ≠ none)) : goE f side (enA y) p = [] := by
  unfold goE
  by_cases hs : side = -1 ∨ side = p
  · rw [if_pos hs, show (enA y).1 = spotOf y.m from rfl]
    cases hn : nxtS f (spotOf y.m) p with
    | none => rfl
    | some u => exact absurd ⟨hs, by rw [hn]; simp⟩ h
  · rw [if_neg hs]
structure SPZ where
  (i : Nat) (out : List StA) (A : Option Addr) (c : Nat) (U : List Row)
structure StR where
  (l : List StA) (A : Option Addr) (c : Nat) (U : List Row)
set_option maxRecDepth 100000 in
set_option maxHeartbeats 1000000 in
theorem T_step (f : Fmt) (hf : f.Ok) (K : Int) (hK : K ≤ 21) (l : List StA) (side : Int) (A : Option Addr) (c : Nat) (U : List Row) (hok : ∀ x ∈ l, StK f K U x) (hl : l.length ≤ 50000000) :
    Tr Tryz.prog 90 [f.val, .slice A l.length c, .int .i64 side] [.own A c 91 16 l.length (encY l), manyE true U] (fun q : StR => SpI f (K + 1) U (stepI f (l.map enA) side) q.l q.U) (fun q => .slice q.A q.l.length q.c) (fun q => [.own q.A q.c 91 16 q.l.length (encY q.l), manyE true q.U]) := by
  refine ⟨fun w0 w R hst => ?_⟩
  refine en Tryz.func90 Tryz.ntmps90 hst (h := fun F => ?_)
  refine sq (h := ?_)
  refine rg (h := ?_)
  refine bxA (h := fun b0 => ?_)
  refine WL.y (hy := asg) (h := ?_)
  refine WL.cut (by repeat (first | exact Cut.nil | apply Cut.hit | apply Cut.miss (by exact rfl))) ?_
  refine nl (h := ?_)
  refine q_seq (h := ?_)
  refine sq (h := ?_)
  refine rg (h := ?_)
  refine WL.y (hy := asg) (h := ?_)
  refine WL.cut (by repeat (first | exact Cut.nil | apply Cut.hit | apply Cut.miss (by exact rfl))) ?_
  refine nl (h := ?_)
  refine q_seq (h := ?_)
  refine sq (h := ?_)
  refine sq (h := ?_)
  refine WC.nilOwn 91 16 (h := ?_)
  refine rg (h := ?_)
  refine WL.y (hy := asg) (h := ?_)
  refine WL.cut (by repeat (first | exact Cut.nil | apply Cut.hit | apply Cut.miss (by exact rfl))) ?_
  refine nl (h := ?_)
  refine q_seq (h := ?_)
  refine bk (h := ?_)
  refine lp (X := SPZ) (I := fun z => z.i ≤ l.length ∧ SpI f (K + 1) U (stepI f ((l.take z.i).map enA) side) z.out z.U) (le := fun z => [(1, .slice A l.length c), (2, .int .i64 side), (3, .pointer (some ⟨b0, 0, none⟩)), (7, .slice z.A z.out.length z.c), (8, .int .i64 z.i)]) (Le := fun z => .own z.A z.c 91 16 z.out.length (encY z.out) :: manyE true z.U :: .own A c 91 16 l.length (encY l) :: .blk b0 23 f.cells :: R) (μ := fun z => l.length - z.i) ⟨0, [], none, 0, U⟩ ⟨Nat.zero_le _, ⟨rfl, fun x hx => (by cases hx), fun _ h => h⟩⟩ (by repeat (first | exact trivial | refine ⟨rfl, ?_⟩)) (by repeat (first | exact SubL.nil | (apply SubL.cons; (repeat (first | exact At.here | apply At.there))) | exact SubL.refl _ | apply SubL.skip)) (fun z hz => ?_)
  obtain ⟨hzi, hzI⟩ := hz
  refine sq (h := ?_)
  refine sq (h := ?_)
  refine rg (h := ?_)
  refine WL.y (hy := mv) (h := ?_)
  refine WL.y (hy := mv) (h := ?_)
  refine WL.y (hy := lenS) (h := ?_)
  refine WL.y (hy := lss) (h := ?_)
  refine nl (h := ?_)
  refine q_seq (h := ?_)
  refine cd (by exact rfl) (fun h0 => ?_) (fun h0 => ?_)
  · skip
    have hin : z.i < l.length := by have := of_decide_eq_true h0; omega
    obtain ⟨y, hy⟩ : ∃ y, l[z.i]? = some y := ⟨_, List.getElem?_eq_getElem hin⟩
    have hyk := hok y (List.mem_of_getElem? hy)
    obtain ⟨hy1, hy2, hy3⟩ := hyk.inv hf
    have hyb := hyk.bd hf (by omega)
    have hyn := hyk.n
    refine skp (h := ?_)
    refine q_seq (h := ?_)
    refine sq (h := ?_)
    refine bk (h := ?_)
    refine sq (h := ?_)
    refine rg (h := ?_)
    refine WL.y (hy := asg) (h := ?_)
    refine WL.cut (by repeat (first | exact Cut.nil | apply Cut.hit | apply Cut.miss (by exact rfl))) ?_
    refine nl (h := ?_)
    refine q_seq (h := ?_)
    refine bk (h := ?_)
    refine lp (X := SPZ) (I := fun v => v.i ≤ 2 ∧ SpI f (K + 1) U (stepI f ((l.take z.i).map enA) side ++ goP f side (enA y) v.i) v.out v.U) (le := fun v => [(1, .slice A l.length c), (2, .int .i64 side), (3, .pointer (some ⟨b0, 0, none⟩)), (7, .slice v.A v.out.length v.c), (8, .int .i64 z.i), (9, .int .i64 v.i)]) (Le := fun v => .own v.A v.c 91 16 v.out.length (encY v.out) :: manyE true v.U :: .own A c 91 16 l.length (encY l) :: .blk b0 23 f.cells :: R) (μ := fun v => 2 - v.i) ⟨0, z.out, z.A, z.c, z.U⟩ ⟨Nat.zero_le _, by rw [show goP f side (enA y) 0 = [] from rfl, List.append_nil]; exact hzI⟩ (by repeat (first | exact trivial | refine ⟨rfl, ?_⟩)) (by repeat (first | exact SubL.nil | (apply SubL.cons; (repeat (first | exact At.here | apply At.there))) | exact SubL.refl _ | apply SubL.skip)) (fun v hv => ?_)
    obtain ⟨hvi, hvI⟩ := hv
    refine sq (h := ?_)
    refine sq (h := ?_)
    refine rg (h := ?_)
    refine WL.y (hy := mv) (h := ?_)
    refine WL.y (hy := lss) (h := ?_)
    refine nl (h := ?_)
    refine q_seq (h := ?_)
    refine cd (by exact rfl) (fun h1 => ?_) (fun h1 => ?_)
    · skip
      have hp2 : v.i < 2 := by have := of_decide_eq_true h1; omega
      have hp01 : (v.i : Int) = 0 ∨ (v.i : Int) = 1 := by omega
      refine skp (h := ?_)
      refine q_seq (h := ?_)
      refine sq (h := ?_)
      refine bk (h := ?_)
      refine sq (h := ?_)
      refine rg (h := ?_)
      refine WL.y (hy := mv) (h := ?_)
      refine WL.y (hy := mv) (h := ?_)
      refine WL.y (hy := ix (A := A) (m := l.length) (hb := by omega)) (h := ?_)
      refine WL.y (hy := (by first | exact fa | exact faE)) (h := ?_)
      refine WL.y (hy := (by first | exact fa | exact faE)) (h := ?_)
      refine WL.y (hy := (by first | exact fa | exact faE)) (h := ?_)
      refine WL.y (hy := ldE (A := A) (k := z.i) (hk := encY_at hy)) (h := ?_)
      refine WL.y (hy := lss) (h := ?_)
      refine WL.y (hy := mv) (h := ?_)
      apply brAnd 8 29 37 (by exact rfl)
      · intro hb2
        refine un (h := ?_)
        refine WL.y (hy := mv) (h := ?_)
        refine un (h := ?_)
        refine WL.y (hy := eql) (h := ?_)
        refine un (h := ?_)
        refine WL.y (hy := mv) (h := ?_)
        apply brOr 4 32 36 (by exact rfl)
        · intro hb3
          refine un (h := ?_)
          refine WL.y (hy := mv) (h := ?_)
          refine un (h := ?_)
          refine WL.y (hy := mv) (h := ?_)
          refine un (h := ?_)
          refine WL.y (hy := eql) (h := ?_)
          refine un (h := ?_)
          refine WL.y (hy := (by first | exact pkT | exact pkF)) (h := ?_)
          exact mg (by repeat (first | exact trivial | refine ⟨rfl, ?_⟩ | refine ⟨by rw [hb3]; rfl, ?_⟩ | refine ⟨by rw [hb2]; rfl, ?_⟩)) (by repeat (first | exact SubL.nil | (apply SubL.cons; (repeat (first | exact At.here | apply At.there))) | exact SubL.refl _ | apply SubL.skip))
        · intro hb3
          repeat (first | refine un (h := ?_) | refine sk (h := ?_) | refine WL.y (hy := pkF) (h := ?_) | refine WL.y (hy := pkT) (h := ?_))
          exact mg (by repeat (first | exact trivial | refine ⟨rfl, ?_⟩ | refine ⟨by rw [hb3]; rfl, ?_⟩ | refine ⟨by rw [hb2]; rfl, ?_⟩)) (by repeat (first | exact SubL.nil | (apply SubL.cons; (repeat (first | exact At.here | apply At.there))) | exact SubL.refl _ | apply SubL.skip))
        refine WL.y (hy := (by first | exact pkT | exact pkF)) (h := ?_)
        exact mg (by repeat (first | exact trivial | refine ⟨rfl, ?_⟩ | refine ⟨by rw [hb2]; rfl, ?_⟩)) (by repeat (first | exact SubL.nil | (apply SubL.cons; (repeat (first | exact At.here | apply At.there))) | exact SubL.refl _ | apply SubL.skip))
      · intro hb2
        repeat (first | refine un (h := ?_) | refine sk (h := ?_) | refine WL.y (hy := pkF) (h := ?_) | refine WL.y (hy := pkT) (h := ?_))
        exact mg (by repeat (first | exact trivial | refine ⟨rfl, ?_⟩ | refine ⟨by rw [hb2]; rfl, ?_⟩)) (by repeat (first | exact SubL.nil | (apply SubL.cons; (repeat (first | exact At.here | apply At.there))) | exact SubL.refl _ | apply SubL.skip))
      refine nl (h := ?_)
      refine q_seq (h := ?_)
      refine cd (by exact rfl) (fun h4 => ?_) (fun h4 => ?_)
      · skip
        have h9' := h4
        rw [Bool.and_eq_true, Bool.or_eq_true, decide_eq_true_eq, decide_eq_true_eq, decide_eq_true_eq] at h9'
        obtain ⟨hgi, hgn, hgp, hgf⟩ := hyk.go hf h9'.1 hp01
        have hus := hvI.sub _ hyk.us
        have hug := hvI.sub _ hyk.ug
        have hup := hvI.sub _ hyk.up
        have hge := goE_yes h9'.2 hgn
        have hlo := hyk.lo
        have hhi := hyk.hi
        have hou := hyk.out
        have hvl := stk_len hf hvI.keys hvI.ok (by omega)
        refine sq (h := ?_)
        refine rg (h := ?_)
        refine WL.y (hy := mv) (h := ?_)
        refine WL.y (hy := mv) (h := ?_)
        refine WL.y (hy := ix (A := A) (m := l.length) (hb := by omega)) (h := ?_)
        refine WL.y (hy := ldEW (A := A) (k := z.i) (cs := y.cells) (hk := encY_at hy)) (h := ?_)
        refine al (h := fun b1 => ?_)
        first | refine stA (h := ?_) | refine stEA (h := ?_)
        refine nl (h := ?_)
        refine q_seq (h := ?_)
        refine sq (h := ?_)
        refine rg (h := ?_)
        refine WL.y (hy := (by first | exact ldA | exact ldEA)) (h := ?_)
        refine WL.y (hy := (by first | exact fa | exact faE)) (h := ?_)
        refine WL.y (hy := (by first | exact ldA | exact ldEA)) (h := ?_)
        refine WL.y (hy := mv) (h := ?_)
        refine clT (hc := T_ref1_PointU' f y.m hy1 (v.i : Int) y.ps.length y.sA y.sc y.gA y.gc v.U hus hug hf hyb (by omega) hgi hp01) (h := fun xu hxu => ?_)
        refine WL.y (hy := (by first | exact fa | exact faE)) (h := ?_)
        first | refine stA (h := ?_) | refine stEA (h := ?_)
        refine nl (h := ?_)
        refine q_seq (h := ?_)
        refine sq (h := ?_)
        refine WC.getRow (hxu.sub _ hup) (by repeat (first | exact At.here | apply At.there)) ?_
        refine rg (h := ?_)
        refine bs (h := fun b2 => ?_)
        refine WL.y (hy := (by first | exact fa | exact faE)) (h := ?_)
        refine WL.y (hy := (by first | exact ld | exact ldE)) (h := ?_)
        refine ap (es := []) (es2 := encI y.ps) (m := 0) (k := y.ps.length) (A := some ⟨b2, 0, none⟩) (A2 := y.pA) (h := fun A1 c1 => ?_)
        refine WL.y (hy := mv) (h := ?_)
        refine bs (h := fun b3 => ?_)
        refine ap (es := [] ++ encI y.ps) (m := 0 + y.ps.length) (k := 1) (A := A1) (c := c1) (h := fun A2 c2 => ?_)
        rw [show [] ++ encI y.ps ++ [[Value.int .i64 (v.i : Int)]] = encI (y.ps ++ [(v.i : Int)]) by rw [List.nil_append]; unfold encI; rw [List.map_append]; rfl, show 0 + y.ps.length + 1 = (y.ps ++ [(v.i : Int)]).length by rw [List.length_append, Nat.zero_add]; rfl]
        refine WL.y (hy := (by first | exact fa | exact faE)) (h := ?_)
        first | refine st (h := ?_) | refine stE (h := ?_)
        refine nl (h := ?_)
        refine q_seq (h := ?_)
        refine sq (h := ?_)
        refine WC.manyAdd (A := A2) (by repeat (first | exact At.here | apply At.there)) (by repeat (first | exact At.here | apply At.there)) ?_
        obtain ⟨U2, hU2⟩ : ∃ U2, U2 = xu.U ++ [(⟨A2, 1, (y.ps ++ [(v.i : Int)]).length, encI (y.ps ++ [(v.i : Int)])⟩ : Row)] := ⟨_, rfl⟩
        rw [← hU2]
        have hsub2 : ∀ r ∈ xu.U, r ∈ U2 := fun r hr => by rw [hU2]; exact List.mem_append_left _ hr
        have hs2 : StK f (K + 1) U2 ⟨pointV y.m (v.i : Int), xu.sA, xu.gA, xu.sc, xu.gc, y.ps ++ [(v.i : Int)], A2, c2, (y.mn.1 + 1, y.mn.2.1 + 1, y.mn.2.2)⟩ := ⟨by rw [show (StA.m ⟨pointV y.m (v.i : Int), xu.sA, xu.gA, xu.sc, xu.gc, y.ps ++ [(v.i : Int)], A2, c2, (y.mn.1 + 1, y.mn.2.1 + 1, y.mn.2.2)⟩).first = y.m.first from hgf]; exact hyk.fs, by rw [show (StA.m ⟨pointV y.m (v.i : Int), xu.sA, xu.gA, xu.sc, xu.gc, y.ps ++ [(v.i : Int)], A2, c2, (y.mn.1 + 1, y.mn.2.1 + 1, y.mn.2.2)⟩).first = y.m.first from hgf]; exact hgp, by show (((y.ps ++ [(v.i : Int)]).length : Nat) : Int) ≤ K + 1; rw [List.length_append]; show ((y.ps.length + 1 : Nat) : Int) ≤ K + 1; omega, hsub2 _ hxu.s, hsub2 _ hxu.g, by rw [hU2]; exact List.mem_append_right _ (List.mem_singleton.2 rfl), by show 0 ≤ y.mn.1 + 1 ∧ y.mn.1 + 1 ≤ K + 1; omega, by show 0 ≤ y.mn.2.1 + 1 ∧ y.mn.2.1 + 1 ≤ K + 1; omega, hou⟩
        have hvn : SpI f (K + 1) U (stepI f ((l.take z.i).map enA) side ++ goP f side (enA y) (v.i + 1)) (addS v.out ⟨pointV y.m (v.i : Int), xu.sA, xu.gA, xu.sc, xu.gc, y.ps ++ [(v.i : Int)], A2, c2, (y.mn.1 + 1, y.mn.2.1 + 1, y.mn.2.2)⟩) U2 := by
          have h9' := hvI.add (fun r hr => hsub2 r (hxu.sub r hr)) hs2
          show SpI f (K + 1) U (_ ++ (goP f side (enA y) v.i ++ goE f side (enA y) (v.i : Int))) _ _
          rw [hge, ← List.append_assoc]; exact h9'
        refine rg (h := ?_)
        refine WL.y (hy := (by first | exact fa | exact faE)) (h := ?_)
        refine WL.y (hy := (by first | exact ld | exact ldE)) (h := ?_)
        refine WL.y (hy := addI (hb := by omega)) (h := ?_)
        refine WL.y (hy := (by first | exact fa | exact faE)) (h := ?_)
        first | refine st (h := ?_) | refine stE (h := ?_)
        refine nl (h := ?_)
        refine q_seq (h := ?_)
        refine sq (h := ?_)
        refine rg (h := ?_)
        refine WL.y (hy := (by first | exact fa | exact faE)) (h := ?_)
        refine WL.y (hy := (by first | exact ld | exact ldE)) (h := ?_)
        refine WL.y (hy := addI (hb := by omega)) (h := ?_)
        refine WL.y (hy := (by first | exact fa | exact faE)) (h := ?_)
        first | refine st (h := ?_) | refine stE (h := ?_)
        refine nl (h := ?_)
        refine q_seq (h := ?_)
        refine rg (h := ?_)
        refine WL.y (hy := mv) (h := ?_)
        refine WL.y (hy := (by first | exact ldA | exact ldEA)) (h := ?_)
        refine clT (hc := T_added f hf (K + 1) (by omega) v.out ⟨pointV y.m (v.i : Int), xu.sA, xu.gA, xu.sc, xu.gc, y.ps ++ [(v.i : Int)], A2, c2, (y.mn.1 + 1, y.mn.2.1 + 1, y.mn.2.2)⟩ v.A v.c U2 (fun x hx => (hvI.ok x hx).mono (Int.le_refl _) fun r hr => hsub2 r (hxu.sub r hr)) hs2 (by omega)) (h := fun q _ => ?_)
        refine WL.y (hy := asg) (h := ?_)
        refine WL.cut (by repeat (first | exact Cut.nil | apply Cut.hit | apply Cut.miss (by exact rfl))) ?_
        refine nl (h := ?_)
        refine q_blk_norm (h := ?_)
        refine q_seq (h := ?_)
        refine rg (h := ?_)
        refine WL.y (hy := mv) (h := ?_)
        refine WL.y (hy := addI) (h := ?_)
        refine WL.y (hy := asg) (h := ?_)
        refine WL.cut (by repeat (first | exact Cut.nil | apply Cut.hit | apply Cut.miss (by exact rfl))) ?_
        refine nl (h := ?_)
        first
          | (refine rn (x := v) ⟨v.i + 1, addS v.out ⟨pointV y.m (v.i : Int), xu.sA, xu.gA, xu.sc, xu.gc, y.ps ++ [(v.i : Int)], A2, c2, (y.mn.1 + 1, y.mn.2.1 + 1, y.mn.2.2)⟩, q.1, q.2, U2⟩ ⟨hp2, hvn⟩ (by dsimp only; omega) (by repeat (first | exact trivial | refine ⟨rfl, ?_⟩)) (by repeat (first | exact SubL.nil | (apply SubL.cons; (repeat (first | exact At.here | apply At.there))) | exact SubL.refl _ | apply SubL.skip)); done)
          | (refine rn (x := v) ⟨v.i + 1, v.out, v.A, v.c, v.U⟩ ⟨hp2, hvn⟩ (by dsimp only; omega) (by repeat (first | exact trivial | refine ⟨rfl, ?_⟩)) (by repeat (first | exact SubL.nil | (apply SubL.cons; (repeat (first | exact At.here | apply At.there))) | exact SubL.refl _ | apply SubL.skip)); done)
      · skip
        have hge : goE f side (enA y) (v.i : Int) = [] := goE_no fun ⟨g1, g2⟩ => by
          have h9' := h4
          rw [Bool.and_eq_false_iff, Bool.or_eq_false_iff, decide_eq_false_iff_not, decide_eq_false_iff_not, decide_eq_false_iff_not] at h9'
          rcases h9' with h8' | ⟨h8', h7'⟩
          · exact g2 (hyk.stop hf h8' _)
          · rcases g1 with g1 | g1
            · exact h8' g1
            · exact h7' g1
        have hvn : SpI f (K + 1) U (stepI f ((l.take z.i).map enA) side ++ goP f side (enA y) (v.i + 1)) v.out v.U := by
          show SpI f (K + 1) U (_ ++ (goP f side (enA y) v.i ++ goE f side (enA y) (v.i : Int))) v.out v.U
          rw [hge, List.append_nil]; exact hvI
        refine skp (h := ?_)
        refine q_blk_norm (h := ?_)
        refine q_seq (h := ?_)
        refine rg (h := ?_)
        refine WL.y (hy := mv) (h := ?_)
        refine WL.y (hy := addI) (h := ?_)
        refine WL.y (hy := asg) (h := ?_)
        refine WL.cut (by repeat (first | exact Cut.nil | apply Cut.hit | apply Cut.miss (by exact rfl))) ?_
        refine nl (h := ?_)
        first
          | (refine rn (x := v) ⟨v.i + 1, addS v.out ⟨pointV y.m (v.i : Int), xu.sA, xu.gA, xu.sc, xu.gc, y.ps ++ [(v.i : Int)], A2, c2, (y.mn.1 + 1, y.mn.2.1 + 1, y.mn.2.2)⟩, q.1, q.2, U2⟩ ⟨hp2, hvn⟩ (by dsimp only; omega) (by repeat (first | exact trivial | refine ⟨rfl, ?_⟩)) (by repeat (first | exact SubL.nil | (apply SubL.cons; (repeat (first | exact At.here | apply At.there))) | exact SubL.refl _ | apply SubL.skip)); done)
          | (refine rn (x := v) ⟨v.i + 1, v.out, v.A, v.c, v.U⟩ ⟨hp2, hvn⟩ (by dsimp only; omega) (by repeat (first | exact trivial | refine ⟨rfl, ?_⟩)) (by repeat (first | exact SubL.nil | (apply SubL.cons; (repeat (first | exact At.here | apply At.there))) | exact SubL.refl _ | apply SubL.skip)); done)
    · skip
      have hp2 : v.i = 2 := by have := of_decide_eq_false h1; omega
      rw [hp2, ← stepI_succ hy] at hvI
      refine et (h := ?_)
      refine q_then_exit (h := ?_)
      refine q_then_exit (h := ?_)
      refine q_blk_hit (h := ?_)
      refine q_blk_norm (h := ?_)
      refine q_seq (h := ?_)
      refine rg (h := ?_)
      refine WL.y (hy := mv) (h := ?_)
      refine WL.y (hy := addI) (h := ?_)
      refine WL.y (hy := asg) (h := ?_)
      refine WL.cut (by repeat (first | exact Cut.nil | apply Cut.hit | apply Cut.miss (by exact rfl))) ?_
      refine nl (h := ?_)
      refine rn (x := z) ⟨z.i + 1, v.out, v.A, v.c, v.U⟩ ⟨hin, hvI⟩ (by dsimp only; omega) (by repeat (first | exact trivial | refine ⟨rfl, ?_⟩)) (by repeat (first | exact SubL.nil | (apply SubL.cons; (repeat (first | exact At.here | apply At.there))) | exact SubL.refl _ | apply SubL.skip))
  · skip
    have hin : z.i = l.length := by have := of_decide_eq_false h0; omega
    rw [hin, List.take_length] at hzI
    refine et (h := ?_)
    refine q_then_exit (h := ?_)
    refine q_then_exit (h := ?_)
    refine q_blk_hit (h := ?_)
    refine q_seq (h := ?_)
    refine sq (h := ?_)
    refine rg (h := ?_)
    refine WL.y (hy := mv) (h := ?_)
    refine WL.y (hy := asg) (h := ?_)
    refine WL.cut (by repeat (first | exact Cut.nil | apply Cut.hit | apply Cut.miss (by exact rfl))) ?_
    refine nl (h := ?_)
    refine q_seq (h := ?_)
    refine rtn (h := ?_)
    refine q_ret (hR := ?_)
    exact fun w hS => ⟨⟨z.out, z.A, z.c, z.U⟩, hzI, rfl, hS.sub (by repeat (first | exact SubL.nil | (apply SubL.cons; (repeat (first | exact At.here | apply At.there))) | exact SubL.refl _ | apply SubL.skip))⟩
theorem fold_en (b : List StA) : ∀ a : List StA, (b.foldl addS a).map enA = joinC (a.map enA) (b.map enA) := by
  induction b with
  | nil => exact fun a => rfl
  | cons x b ih => exact fun a => by rw [List.foldl_cons, ih, addS_en]; rfl
theorem fold_ok {f : Fmt} {K : Int} {U : List Row} (b : List StA) : ∀ a : List StA, (∀ x ∈ a, StK f K U x) → (∀ x ∈ b, StK f K U x) → ∀ x ∈ b.foldl addS a, StK f K U x := by
  induction b with
  | nil => exact fun a h _ => h
  | cons y b ih => exact fun a h hb => by rw [List.foldl_cons]; exact ih _ (addS_ok h (hb y (by simp))) fun x hx => hb x (by simp [hx])
structure JoZ where
  (k : Nat) (A : Option Addr) (c : Nat)
set_option maxRecDepth 100000 in
theorem T_joined (f : Fmt) (hf : f.Ok) (K : Int) (hK : K ≤ 22) (a b : List StA) (A B : Option Addr) (c d : Nat) (U : List Row) (ha : ∀ x ∈ a, StK f K U x) (hb : ∀ x ∈ b, StK f K U x) (hka : Keys (a.map enA)) (hbl : b.length ≤ 50000000) :
    Tr Tryz.prog 64 [.slice A a.length c, .slice B b.length d] [.own A c 91 16 a.length (encY a), .own B d 91 16 b.length (encY b), manyE true U] (fun _ : Option Addr × Nat => True) (fun q => .slice q.1 (b.foldl addS a).length q.2) (fun q => [.own q.1 q.2 91 16 (b.foldl addS a).length (encY (b.foldl addS a)), .own B d 91 16 b.length (encY b), manyE true U]) := by
  refine ⟨fun w0 w R hst => ?_⟩
  have hal := stk_len hf hka ha hK
  refine en Tryz.func64 Tryz.ntmps64 hst (h := fun F => ?_)
  refine sq (h := ?_)
  refine rg (h := ?_)
  refine WL.y (hy := asg) (h := ?_)
  refine WL.cut (by repeat (first | exact Cut.nil | apply Cut.hit | apply Cut.miss (by exact rfl))) ?_
  refine nl (h := ?_)
  refine q_seq (h := ?_)
  refine sq (h := ?_)
  refine rg (h := ?_)
  refine bs (h := fun b0 => ?_)
  refine WL.y (hy := mv) (h := ?_)
  refine ap (es := []) (es2 := encY a) (m := 0) (k := a.length) (A := some ⟨b0, 0, none⟩) (A2 := A) (h := fun A1 c1 => ?_)
  rw [List.nil_append, Nat.zero_add]
  refine WL.y (hy := asg) (h := ?_)
  refine WL.cut (by repeat (first | exact Cut.nil | apply Cut.hit | apply Cut.miss (by exact rfl))) ?_
  refine nl (h := ?_)
  refine q_seq (h := ?_)
  refine sq (h := ?_)
  refine sq (h := ?_)
  refine rg (h := ?_)
  refine WL.y (hy := asg) (h := ?_)
  refine WL.cut (by repeat (first | exact Cut.nil | apply Cut.hit | apply Cut.miss (by exact rfl))) ?_
  refine nl (h := ?_)
  refine q_seq (h := ?_)
  refine bk (h := ?_)
  refine lp (X := JoZ) (I := fun z => z.k ≤ b.length) (le := fun z => [(1, .slice B b.length d), (5, .slice z.A ((b.take z.k).foldl addS a).length z.c), (6, .int .i64 z.k)]) (Le := fun z => .own z.A z.c 91 16 ((b.take z.k).foldl addS a).length (encY ((b.take z.k).foldl addS a)) :: .own B d 91 16 b.length (encY b) :: manyE true U :: R) (μ := fun z => b.length - z.k) ⟨0, A1, c1⟩ (Nat.zero_le _) (by repeat (first | exact trivial | refine ⟨rfl, ?_⟩)) (by repeat (first | exact SubL.nil | (apply SubL.cons; (repeat (first | exact At.here | apply At.there))) | exact SubL.refl _ | apply SubL.skip)) (fun z hz => ?_)
  refine sq (h := ?_)
  refine sq (h := ?_)
  refine rg (h := ?_)
  refine WL.y (hy := mv) (h := ?_)
  refine WL.y (hy := mv) (h := ?_)
  refine WL.y (hy := lenS) (h := ?_)
  refine WL.y (hy := lss) (h := ?_)
  refine nl (h := ?_)
  refine q_seq (h := ?_)
  refine cd (by exact rfl) (fun h0 => ?_) (fun h0 => ?_)
  · skip
    have hkn : z.k < b.length := by have := of_decide_eq_true h0; omega
    obtain ⟨y, hy⟩ : ∃ y, b[z.k]? = some y := ⟨_, List.getElem?_eq_getElem hkn⟩
    have hzo := fold_ok (b.take z.k) a ha fun x hx => hb x (List.mem_of_mem_take hx)
    have hzk2 : Keys (((b.take z.k).foldl addS a).map enA) := by rw [fold_en]; exact join_keys _ hka
    have hzl := stk_len hf hzk2 hzo hK
    have hfs : (b.take (z.k + 1)).foldl addS a = addS ((b.take z.k).foldl addS a) y := by rw [List.take_add_one, hy, List.foldl_append]; rfl
    refine skp (h := ?_)
    refine q_seq (h := ?_)
    refine sq (h := ?_)
    refine bk (h := ?_)
    refine rg (h := ?_)
    refine WL.y (hy := mv) (h := ?_)
    refine WL.y (hy := mv) (h := ?_)
    refine WL.y (hy := mv) (h := ?_)
    refine WL.y (hy := ix (A := B) (m := b.length) (hb := by omega)) (h := ?_)
    refine WL.y (hy := ldEW (A := B) (k := z.k) (cs := y.cells) (hk := encY_at hy)) (h := ?_)
    refine clT (hc := T_added f hf K (by omega) ((b.take z.k).foldl addS a) y z.A z.c U hzo (hb y (List.mem_of_getElem? hy)) (by omega)) (h := fun q _ => ?_)
    rw [← hfs]
    refine WL.y (hy := asg) (h := ?_)
    refine WL.cut (by repeat (first | exact Cut.nil | apply Cut.hit | apply Cut.miss (by exact rfl))) ?_
    refine nl (h := ?_)
    refine q_blk_norm (h := ?_)
    refine q_seq (h := ?_)
    refine rg (h := ?_)
    refine WL.y (hy := mv) (h := ?_)
    refine WL.y (hy := addI) (h := ?_)
    refine WL.y (hy := asg) (h := ?_)
    refine WL.cut (by repeat (first | exact Cut.nil | apply Cut.hit | apply Cut.miss (by exact rfl))) ?_
    refine nl (h := ?_)
    refine rn (x := z) ⟨z.k + 1, q.1, q.2⟩ hkn (by dsimp only; omega) (by repeat (first | exact trivial | refine ⟨rfl, ?_⟩)) (by repeat (first | exact SubL.nil | (apply SubL.cons; (repeat (first | exact At.here | apply At.there))) | exact SubL.refl _ | apply SubL.skip))
  · skip
    have hkn : z.k = b.length := by have := of_decide_eq_false h0; omega
    rw [hkn, List.take_length]
    refine et (h := ?_)
    refine q_then_exit (h := ?_)
    refine q_then_exit (h := ?_)
    refine q_blk_hit (h := ?_)
    refine q_seq (h := ?_)
    refine sq (h := ?_)
    refine rg (h := ?_)
    refine WL.y (hy := mv) (h := ?_)
    refine WL.y (hy := asg) (h := ?_)
    refine WL.cut (by repeat (first | exact Cut.nil | apply Cut.hit | apply Cut.miss (by exact rfl))) ?_
    refine nl (h := ?_)
    refine q_seq (h := ?_)
    refine rtn (h := ?_)
    refine q_ret (hR := ?_)
    exact fun w hS => ⟨(z.A, z.c), trivial, rfl, hS.sub (by repeat (first | exact SubL.nil | (apply SubL.cons; (repeat (first | exact At.here | apply At.there))) | exact SubL.refl _ | apply SubL.skip))⟩
theorem C_ref3_Score (f : Fmt) (hf : f.Ok) (K : Int) (hK : K ≤ 900) (U : List Row) (s : StA) (hs : StK f K U s) (w : World) (h : Rd w s.sA 2 s.m.st.length (encP s.m.st)) : C0 Tryz.prog 57 [f.val, s.val] w (s.m.sc.val s.sA s.sc) := by
  obtain ⟨h1, h2, h3⟩ := hs.inv hf
  have hfs := hs.fs
  refine ⟨en Tryz.func57 Tryz.ntmps57 ((St.init w).share (e := .ro s.sA 2 s.m.st.length (encP s.m.st)) h rfl rfl rfl) (h := fun F => ?_)⟩
  refine sq (h := ?_)
  refine rg (h := ?_)
  refine bxA (h := fun b0 => ?_)
  refine bxA (h := fun b1 => ?_)
  refine al (h := fun b2 => ?_)
  refine nl (h := ?_)
  refine q_seq (h := ?_)
  refine sq (h := ?_)
  refine rg (h := ?_)
  refine WL.y (hy := (by first | exact fa | exact faE)) (h := ?_)
  refine WL.y (hy := (by first | exact fa | exact faE)) (h := ?_)
  refine WL.y (hy := (by first | exact ldA | exact ldEA)) (h := ?_)
  refine al (h := fun b3 => ?_)
  first | refine stA (h := ?_) | refine stEA (h := ?_)
  refine nl (h := ?_)
  refine q_seq (h := ?_)
  refine sq (h := ?_)
  refine rg (h := ?_)
  refine WL.y (hy := (by first | exact ldA | exact ldEA)) (h := ?_)
  refine WL.y (hy := (by first | exact fa | exact faE)) (h := ?_)
  refine WL.y (hy := (by first | exact ldA | exact ldEA)) (h := ?_)
  refine cl0 (hc := fun w hS => C_ref1_Next f s.m h1 s.sA s.sc s.gA s.gc hf (by omega) h2 (hs.bd hf hK) w (hS.get (by repeat (first | exact Rds.ro | exact Rds.own | apply Rds.there)))) (h := ?_)
  refine WL.y (hy := (by first | exact fa | exact faE)) (h := ?_)
  first | refine st (h := ?_) | refine stE (h := ?_)
  refine nl (h := ?_)
  refine q_seq (h := ?_)
  refine sq (h := ?_)
  refine rg (h := ?_)
  refine WL.y (hy := (by first | exact ldA | exact ldEA)) (h := ?_)
  first | refine stA (h := ?_) | refine stEA (h := ?_)
  refine nl (h := ?_)
  refine q_seq (h := ?_)
  refine rtn (h := ?_)
  refine q_ret (hR := ?_)
  exact fun w hS => ⟨rfl, hS.sub (by repeat (first | exact SubL.nil | (apply SubL.cons; (repeat (first | exact At.here | apply At.there))) | exact SubL.refl _ | apply SubL.skip))⟩
end Go.Proofs.YtpejgebcmhmpaaaGreat

namespace Go.Proofs.YtpejgebcmhmpaaaGreat
open Go Go.RowKit

structure AfI (f : Fmt) (K : Int) (U : List Row) (es : List En) (l : List StA) (U' : List Row) : Prop where
  en : l.map enA = es
  ok : ∀ x ∈ l, StK f K U' x
  sub : ∀ r ∈ U, r ∈ U'
theorem SpI.af {f : Fmt} {K : Int} {U U' : List Row} {es : List En} {l : List StA} (h : SpI f K U es l U') : AfI f K U (normC es) l U' := ⟨h.en, h.ok, h.sub⟩
theorem AfI.mono {f : Fmt} {K K' : Int} {U U' U2 : List Row} {es : List En} {l : List StA} (h : AfI f K U es l U') (hK : K ≤ K') (hU : ∀ r ∈ U', r ∈ U2) : AfI f K' U es l U2 := ⟨h.en, fun x hx => (h.ok x hx).mono hK hU, fun r hr => hU r (h.sub r hr)⟩
theorem AfI.len {f : Fmt} {K : Int} {U U' : List Row} {es : List En} {l : List StA} (h : AfI f K U es l U') (hf : f.Ok) (hk : Keys es) (hK : K ≤ 22) : l.length ≤ 16777216 := stk_len hf (by rw [h.en]; exact hk) h.ok hK
theorem AfI.num {f : Fmt} {K : Int} {U U' : List Row} {es : List En} {l : List StA} (h : AfI f K U es l U') : es.length = l.length := by rw [← h.en, List.length_map]
theorem iter_keys {f : Fmt} {es : List En} (h : Keys es) : ∀ n, Keys (iterC f es n)
  | 0 => h
  | _ + 1 => norm_nodup _
theorem missI_yes (f : Fmt) (es : List En) {a : Int} {n : Nat} (h : a ≤ (n : Int)) : normC (missI f es a (n + 1)) = joinC (normC (missI f es a n)) (iterC f es n) := by
  rw [missI, if_pos h]; unfold normC joinC; rw [List.foldl_append]
theorem missI_no (f : Fmt) (es : List En) {a : Int} {n : Nat} (h : ¬ a ≤ (n : Int)) : normC (missI f es a (n + 1)) = normC (missI f es a n) := by
  rw [missI, if_neg h, List.append_nil]
theorem AfI.join {f : Fmt} {K : Int} {U U' : List Row} {es es' : List En} {a b : List StA} (ha : AfI f K U es a U') (hb : AfI f K U es' b U') : AfI f K U (joinC es es') (b.foldl addS a) U' :=
  ⟨by rw [fold_en, ha.en, hb.en], fold_ok b a ha.ok hb.ok, ha.sub⟩
theorem test_succ {f : Fmt} {x : Nt} {l : List StA} {i : Nat} {y : StA} (h : l[i]? = some y) : testC f x ((l.take (i + 1)).map enA) = testC f x ((l.take i).map enA) ++ (if holdS f x (spotOf y.m) then [enA y] else []) := by
  unfold testC
  rw [List.take_add_one, h, List.map_append, List.filter_append]
  congr 1
  show List.filter _ [enA y] = _
  rw [List.filter_cons, List.filter_nil]; rfl
theorem AfI.test {f : Fmt} {K : Int} {U U' : List Row} {es : List En} {out : List StA} {y : StA} (h : AfI f K U es out U') (hy : StK f K U' y) : AfI f K U (es ++ [enA y]) (out ++ [y]) U' :=
  ⟨by rw [List.map_append, h.en]; rfl, fun x hx => by
    rcases List.mem_append.1 hx with hx | hx
    · exact h.ok x hx
    · rw [List.mem_singleton.1 hx]; exact hy, h.sub⟩
theorem StK.tst {f : Fmt} {K : Int} {U : List Row} {s : StA} (h : StK f K U s) (hf : f.Ok) {x : Nt} (hx : 3 ≤ x.kind ∧ x.kind ≤ 7) : tstV s.m.sc x = holdS f x (spotOf s.m) := by
  obtain ⟨h1, h2, h3⟩ := h.inv hf
  exact tst_hold h1 h3 (by have := h.fs; omega) hx
theorem after_one {f : Fmt} {es : List En} {x : Nt} (h : x.kind = 1) : afterC f es x = normC (stepI f es x.side) := by unfold afterC; rw [if_pos h]; rfl
theorem after_two {f : Fmt} {es : List En} {x : Nt} (h : x.kind = 2) : afterC f es x = normC (missI f es x.pair.1 (x.pair.2.toNat + 1)) := by unfold afterC; rw [if_neg (by omega), if_pos h]; rfl
theorem after_test {f : Fmt} {es : List En} {x : Nt} (h1 : ¬ x.kind = 1) (h2 : ¬ x.kind = 2) : afterC f es x = testC f x es := by unfold afterC; rw [if_neg h1, if_neg h2]
theorem most_one {x : Nt} (h : x.kind = 1) : mostN x = 1 := by unfold mostN; rw [if_pos h]
theorem most_two {x : Nt} (h : x.kind = 2) : mostN x = x.pair.2 := by unfold mostN; rw [if_neg (by omega), if_pos h]
theorem most_test {x : Nt} (h1 : ¬ x.kind = 1) (h2 : ¬ x.kind = 2) : mostN x = 0 := by unfold mostN; rw [if_neg h1, if_neg h2]
end Go.Proofs.YtpejgebcmhmpaaaGreat

namespace Go.Proofs.YtpejgebcmhmpaaaGreat
open Go Go.RowKit

structure MzI (f : Fmt) (K B : Int) (U : List Row) (es : List En) (a : Int) (n : Nat) (o l : List StA) (U' : List Row) : Prop where
  o : AfI f B U (normC (missI f es a n)) o U'
  l : AfI f (K + (n : Int)) U (iterC f es n) l U'
theorem MzI.start {f : Fmt} {K B : Int} {U : List Row} {l : List StA} (h : ∀ s ∈ l, StK f K U s) (a : Int) : MzI f K B U (l.map enA) a 0 [] l U :=
  ⟨⟨rfl, fun x hx => (by cases hx), fun _ h => h⟩, ⟨rfl, fun x hx => (h x hx).mono (by omega) (fun _ h => h), fun _ h => h⟩⟩
section
variable {f : Fmt} {K B : Int} {U U' : List Row} {es : List En} {a : Int} {n : Nat} {o l : List StA} {q : StR}
theorem MzI.iter (h : MzI f K B U es a n o l U') (hq : SpI f (K + (n : Int) + 1) U' (stepI f (l.map enA) (-1)) q.l q.U) : AfI f (K + ((n + 1 : Nat) : Int)) U (iterC f es (n + 1)) q.l q.U :=
  ⟨by rw [hq.en, h.l.en]; rfl, fun x hx => (hq.ok x hx).mono (by omega) (fun _ h => h), fun r hr => hq.sub r (h.l.sub r hr)⟩
theorem MzI.yes (h : MzI f K B U es a n o l U') (ha : a ≤ (n : Int)) (hB : K + (n : Int) ≤ B) (hq : SpI f (K + (n : Int) + 1) U' (stepI f (l.map enA) (-1)) q.l q.U) : MzI f K B U es a (n + 1) (l.foldl addS o) q.l q.U :=
  ⟨by rw [missI_yes f es ha]; exact (h.o.join (h.l.mono hB fun _ h => h)).mono (Int.le_refl _) hq.sub, h.iter hq⟩
theorem MzI.no (h : MzI f K B U es a n o l U') (ha : ¬ a ≤ (n : Int)) (hq : SpI f (K + (n : Int) + 1) U' (stepI f (l.map enA) (-1)) q.l q.U) : MzI f K B U es a (n + 1) o q.l q.U :=
  ⟨by rw [missI_no f es ha]; exact h.o.mono (Int.le_refl _) hq.sub, h.iter hq⟩
end
structure AfZ where
  (n : Nat) (o : List StA) (oA : Option Addr) (oc : Nat) (l : List StA) (lA : Option Addr) (lc : Nat) (U : List Row)
structure TsZ where
  (i : Nat) (o : List StA) (A : Option Addr) (c : Nat)
set_option maxRecDepth 100000 in
set_option maxHeartbeats 1000000 in
theorem T_After (f : Fmt) (hf : f.Ok) (K : Int) (l : List StA) (x : Nt) (A : Option Addr) (c : Nat) (U : List Row) (hk : Keys (l.map enA)) (hok : ∀ s ∈ l, StK f K U s) (hx : mkV x = true) (hK0 : 0 ≤ K) (hK : K + mostN x ≤ 20) :
    Tr Tryz.prog 65 [f.val, .slice A l.length c, x.val] [.own A c 91 16 l.length (encY l), manyE true U] (fun q : StR => AfI f (K + mostN x) U (afterC f (l.map enA) x) q.l q.U) (fun q => .slice q.A q.l.length q.c) (fun q => [.own q.A q.c 91 16 q.l.length (encY q.l), manyE true q.U]) := by
  refine ⟨fun w0 w R hst => ?_⟩
  have hxk := mk_kind hx
  have hm0 := (most_bd hx).1
  have hlen := stk_len hf hk hok (by omega)
  refine en Tryz.func65 Tryz.ntmps65 hst (h := fun F => ?_)
  refine sq (h := ?_)
  refine rg (h := ?_)
  refine bxA (h := fun b0 => ?_)
  refine bxA (h := fun b1 => ?_)
  refine WL.y (hy := asg) (h := ?_)
  refine WL.cut (by repeat (first | exact Cut.nil | apply Cut.hit | apply Cut.miss (by exact rfl))) ?_
  refine nl (h := ?_)
  refine q_seq (h := ?_)
  refine sq (h := ?_)
  refine rg (h := ?_)
  refine WL.y (hy := asg) (h := ?_)
  refine WL.cut (by repeat (first | exact Cut.nil | apply Cut.hit | apply Cut.miss (by exact rfl))) ?_
  refine nl (h := ?_)
  refine q_seq (h := ?_)
  refine sq (h := ?_)
  refine sq (h := ?_)
  refine rg (h := ?_)
  refine WL.y (hy := (by first | exact fa | exact faE)) (h := ?_)
  refine WL.y (hy := (by first | exact ld | exact ldE)) (h := ?_)
  refine nl (h := ?_)
  refine q_seq (h := ?_)
  refine bk (h := ?_)
  refine sq (h := ?_)
  refine rg (h := ?_)
  refine WL.y (hy := eql) (h := ?_)
  refine WL.y (hy := asg) (h := ?_)
  refine nl (h := ?_)
  refine q_seq (h := ?_)
  refine cd (by exact rfl) (fun h0 => ?_) (fun h0 => ?_)
  · skip
    have k1 : x.kind = 1 := of_decide_eq_true h0
    refine sq (h := ?_)
    refine rg (h := ?_)
    refine WL.y (hy := (by first | exact ldA | exact ldEA)) (h := ?_)
    refine WL.y (hy := mv) (h := ?_)
    refine WL.y (hy := (by first | exact fa | exact faE)) (h := ?_)
    refine WL.y (hy := (by first | exact ld | exact ldE)) (h := ?_)
    refine clT (hc := T_step f hf K (by omega) l x.side A c U hok (by omega)) (h := fun q hq => ?_)
    refine WL.y (hy := asg) (h := ?_)
    refine WL.cut (by repeat (first | exact Cut.nil | apply Cut.hit | apply Cut.miss (by exact rfl))) ?_
    refine nl (h := ?_)
    refine q_seq (h := ?_)
    refine rtn (h := ?_)
    refine q_blk_ret (h := ?_)
    refine q_then_ret (h := ?_)
    refine q_ret (hR := ?_)
    exact fun w hS => ⟨q, by rw [after_one k1, most_one k1]; exact hq.af, rfl, hS.sub (by repeat (first | exact SubL.nil | (apply SubL.cons; (repeat (first | exact At.here | apply At.there))) | exact SubL.refl _ | apply SubL.skip))⟩
  · skip
    have k1 : ¬ x.kind = 1 := of_decide_eq_false h0
    refine sq (h := ?_)
    refine rg (h := ?_)
    refine WL.y (hy := eql) (h := ?_)
    refine WL.y (hy := asg) (h := ?_)
    refine nl (h := ?_)
    refine q_seq (h := ?_)
    refine cd (by exact rfl) (fun h1 => ?_) (fun h1 => ?_)
    · skip
      have k2 : x.kind = 2 := of_decide_eq_true h1
      have hpb := hxk.2.2.1 k2
      have hm2 := most_two k2
      refine sq (h := ?_)
      refine sq (h := ?_)
      refine WC.nilOwn 91 16 (h := ?_)
      refine rg (h := ?_)
      refine WL.y (hy := asg) (h := ?_)
      refine WL.cut (by repeat (first | exact Cut.nil | apply Cut.hit | apply Cut.miss (by exact rfl))) ?_
      refine nl (h := ?_)
      refine q_seq (h := ?_)
      refine bk (h := ?_)
      refine lp (X := AfZ) (I := fun z => z.n ≤ x.pair.2.toNat + 1 ∧ MzI f K (K + mostN x) U (l.map enA) x.pair.1 z.n z.o z.l z.U) (le := fun z => [(1, .slice z.lA z.l.length z.lc), (3, .pointer (some ⟨b0, 0, none⟩)), (5, .pointer (some ⟨b1, 0, none⟩)), (7, .slice z.oA z.o.length z.oc), (8, .int .i64 z.n)]) (Le := fun z => .own z.oA z.oc 91 16 z.o.length (encY z.o) :: .own z.lA z.lc 91 16 z.l.length (encY z.l) :: manyE true z.U :: .blk b0 23 f.cells :: .blk b1 45 x.cells :: R) (μ := fun z => x.pair.2.toNat + 1 - z.n) ⟨0, [], none, 0, l, A, c, U⟩ ⟨Nat.zero_le _, MzI.start hok _⟩ (by repeat (first | exact trivial | refine ⟨rfl, ?_⟩)) (by repeat (first | exact SubL.nil | (apply SubL.cons; (repeat (first | exact At.here | apply At.there))) | exact SubL.refl _ | apply SubL.skip)) (fun z hz => ?_)
      obtain ⟨hzn, hz⟩ := hz
      refine sq (h := ?_)
      refine sq (h := ?_)
      refine rg (h := ?_)
      refine WL.y (hy := mv) (h := ?_)
      refine WL.y (hy := (by first | exact fa | exact faE)) (h := ?_)
      refine WL.y (hy := (by first | exact fa | exact faE)) (h := ?_)
      refine WL.y (hy := (by first | exact ld | exact ldE)) (h := ?_)
      refine WL.y (hy := leq) (h := ?_)
      refine nl (h := ?_)
      refine q_seq (h := ?_)
      refine cd (by exact rfl) (fun h2 => ?_) (fun h2 => ?_)
      · skip
        have hnb : z.n ≤ x.pair.2.toNat := by have := of_decide_eq_true h2; omega
        have hl2 := hz.l.len hf (iter_keys hk _) (by omega)
        refine skp (h := ?_)
        refine q_seq (h := ?_)
        refine sq (h := ?_)
        refine bk (h := ?_)
        refine sq (h := ?_)
        refine sq (h := ?_)
        refine rg (h := ?_)
        refine WL.y (hy := mv) (h := ?_)
        refine WL.y (hy := (by first | exact fa | exact faE)) (h := ?_)
        refine WL.y (hy := (by first | exact fa | exact faE)) (h := ?_)
        refine WL.y (hy := (by first | exact ld | exact ldE)) (h := ?_)
        refine WL.y (hy := geq) (h := ?_)
        refine nl (h := ?_)
        refine q_seq (h := ?_)
        refine cd (by exact rfl) (fun h3 => ?_) (fun h3 => ?_)
        · skip
          have hza : x.pair.1 ≤ (z.n : Int) := of_decide_eq_true h3
          refine rg (h := ?_)
          refine WL.y (hy := mv) (h := ?_)
          refine WL.y (hy := mv) (h := ?_)
          refine clT (hc := T_joined f hf (K + mostN x) (by omega) z.o z.l z.oA z.lA z.oc z.lc z.U hz.o.ok (hz.l.mono (by omega) fun _ h => h).ok (by rw [hz.o.en]; exact norm_nodup _) (by omega)) (h := fun q _ => ?_)
          refine WL.y (hy := asg) (h := ?_)
          refine WL.cut (by repeat (first | exact Cut.nil | apply Cut.hit | apply Cut.miss (by exact rfl))) ?_
          refine nl (h := ?_)
          refine q_seq (h := ?_)
          refine rg (h := ?_)
          refine WL.y (hy := (by first | exact ldA | exact ldEA)) (h := ?_)
          refine WL.y (hy := mv) (h := ?_)
          refine clT (hc := T_step f hf (K + (z.n : Int)) (by omega) z.l (-1) z.lA z.lc z.U hz.l.ok (by omega)) (h := fun q2 hq2 => ?_)
          refine WL.y (hy := asg) (h := ?_)
          refine WL.cut (by repeat (first | exact Cut.nil | apply Cut.hit | apply Cut.miss (by exact rfl))) ?_
          refine nl (h := ?_)
          refine q_blk_norm (h := ?_)
          refine q_seq (h := ?_)
          refine rg (h := ?_)
          refine WL.y (hy := mv) (h := ?_)
          refine WL.y (hy := addI) (h := ?_)
          refine WL.y (hy := asg) (h := ?_)
          refine WL.cut (by repeat (first | exact Cut.nil | apply Cut.hit | apply Cut.miss (by exact rfl))) ?_
          refine nl (h := ?_)
          first
            | (refine rn (x := z) ⟨z.n + 1, z.l.foldl addS z.o, q.1, q.2, q2.l, q2.A, q2.c, q2.U⟩ ⟨by dsimp only; omega, hz.yes hza (by omega) hq2⟩ (by dsimp only; omega) (by repeat (first | exact trivial | refine ⟨rfl, ?_⟩)) (by repeat (first | exact SubL.nil | (apply SubL.cons; (repeat (first | exact At.here | apply At.there))) | exact SubL.refl _ | apply SubL.skip)); done)
            | (refine rn (x := z) ⟨z.n + 1, z.o, z.oA, z.oc, q2.l, q2.A, q2.c, q2.U⟩ ⟨by dsimp only; omega, hz.no hza hq2⟩ (by dsimp only; omega) (by repeat (first | exact trivial | refine ⟨rfl, ?_⟩)) (by repeat (first | exact SubL.nil | (apply SubL.cons; (repeat (first | exact At.here | apply At.there))) | exact SubL.refl _ | apply SubL.skip)); done)
        · skip
          have hza : ¬ x.pair.1 ≤ (z.n : Int) := of_decide_eq_false h3
          refine skp (h := ?_)
          refine q_seq (h := ?_)
          refine rg (h := ?_)
          refine WL.y (hy := (by first | exact ldA | exact ldEA)) (h := ?_)
          refine WL.y (hy := mv) (h := ?_)
          refine clT (hc := T_step f hf (K + (z.n : Int)) (by omega) z.l (-1) z.lA z.lc z.U hz.l.ok (by omega)) (h := fun q2 hq2 => ?_)
          refine WL.y (hy := asg) (h := ?_)
          refine WL.cut (by repeat (first | exact Cut.nil | apply Cut.hit | apply Cut.miss (by exact rfl))) ?_
          refine nl (h := ?_)
          refine q_blk_norm (h := ?_)
          refine q_seq (h := ?_)
          refine rg (h := ?_)
          refine WL.y (hy := mv) (h := ?_)
          refine WL.y (hy := addI) (h := ?_)
          refine WL.y (hy := asg) (h := ?_)
          refine WL.cut (by repeat (first | exact Cut.nil | apply Cut.hit | apply Cut.miss (by exact rfl))) ?_
          refine nl (h := ?_)
          first
            | (refine rn (x := z) ⟨z.n + 1, z.l.foldl addS z.o, q.1, q.2, q2.l, q2.A, q2.c, q2.U⟩ ⟨by dsimp only; omega, hz.yes hza (by omega) hq2⟩ (by dsimp only; omega) (by repeat (first | exact trivial | refine ⟨rfl, ?_⟩)) (by repeat (first | exact SubL.nil | (apply SubL.cons; (repeat (first | exact At.here | apply At.there))) | exact SubL.refl _ | apply SubL.skip)); done)
            | (refine rn (x := z) ⟨z.n + 1, z.o, z.oA, z.oc, q2.l, q2.A, q2.c, q2.U⟩ ⟨by dsimp only; omega, hz.no hza hq2⟩ (by dsimp only; omega) (by repeat (first | exact trivial | refine ⟨rfl, ?_⟩)) (by repeat (first | exact SubL.nil | (apply SubL.cons; (repeat (first | exact At.here | apply At.there))) | exact SubL.refl _ | apply SubL.skip)); done)
      · skip
        have hnb : z.n = x.pair.2.toNat + 1 := by have := of_decide_eq_false h2; omega
        refine et (h := ?_)
        refine q_then_exit (h := ?_)
        refine q_then_exit (h := ?_)
        refine q_blk_hit (h := ?_)
        refine q_seq (h := ?_)
        refine sq (h := ?_)
        refine rg (h := ?_)
        refine WL.y (hy := mv) (h := ?_)
        refine WL.y (hy := asg) (h := ?_)
        refine WL.cut (by repeat (first | exact Cut.nil | apply Cut.hit | apply Cut.miss (by exact rfl))) ?_
        refine nl (h := ?_)
        refine q_seq (h := ?_)
        refine rtn (h := ?_)
        refine q_blk_ret (h := ?_)
        refine q_then_ret (h := ?_)
        refine q_ret (hR := ?_)
        exact fun w hS => ⟨⟨z.o, z.oA, z.oc, z.U⟩, by rw [after_two k2, ← hnb]; exact hz.o, rfl, hS.sub (by repeat (first | exact SubL.nil | (apply SubL.cons; (repeat (first | exact At.here | apply At.there))) | exact SubL.refl _ | apply SubL.skip))⟩
    · skip
      have k2 : ¬ x.kind = 2 := of_decide_eq_false h1
      have hm3 := most_test k1 k2
      refine skp (h := ?_)
      refine q_blk_norm (h := ?_)
      refine q_seq (h := ?_)
      refine sq (h := ?_)
      refine sq (h := ?_)
      refine WC.nilOwn 91 16 (h := ?_)
      refine rg (h := ?_)
      refine WL.y (hy := asg) (h := ?_)
      refine WL.cut (by repeat (first | exact Cut.nil | apply Cut.hit | apply Cut.miss (by exact rfl))) ?_
      refine nl (h := ?_)
      refine q_seq (h := ?_)
      refine bk (h := ?_)
      refine lp (X := TsZ) (I := fun z => z.i ≤ l.length ∧ AfI f K U (testC f x ((l.take z.i).map enA)) z.o U) (le := fun z => [(1, .slice A l.length c), (3, .pointer (some ⟨b0, 0, none⟩)), (5, .pointer (some ⟨b1, 0, none⟩)), (7, .slice z.A z.o.length z.c), (9, .int .i64 z.i)]) (Le := fun z => .own z.A z.c 91 16 z.o.length (encY z.o) :: .own A c 91 16 l.length (encY l) :: manyE true U :: .blk b0 23 f.cells :: .blk b1 45 x.cells :: R) (μ := fun z => l.length - z.i) ⟨0, [], none, 0⟩ ⟨Nat.zero_le _, ⟨rfl, fun x hx => (by cases hx), fun _ h => h⟩⟩ (by repeat (first | exact trivial | refine ⟨rfl, ?_⟩)) (by repeat (first | exact SubL.nil | (apply SubL.cons; (repeat (first | exact At.here | apply At.there))) | exact SubL.refl _ | apply SubL.skip)) (fun z hz => ?_)
      obtain ⟨hzi, hzT⟩ := hz
      refine sq (h := ?_)
      refine sq (h := ?_)
      refine rg (h := ?_)
      refine WL.y (hy := mv) (h := ?_)
      refine WL.y (hy := mv) (h := ?_)
      refine WL.y (hy := lenS) (h := ?_)
      refine WL.y (hy := lss) (h := ?_)
      refine nl (h := ?_)
      refine q_seq (h := ?_)
      refine cd (by exact rfl) (fun h4 => ?_) (fun h4 => ?_)
      · skip
        have hin : z.i < l.length := by have := of_decide_eq_true h4; omega
        obtain ⟨y, hy⟩ : ∃ y, l[z.i]? = some y := ⟨_, List.getElem?_eq_getElem hin⟩
        have hyk := hok y (List.mem_of_getElem? hy)
        have hyn : y.m.st.length ≤ 1000000 := by have := (hyk.bd hf (by omega)).s; have := hyk.n; omega
        have hts := test_succ (f := f) (x := x) hy
        have hol := hzT.num
        have hol2 : (testC f x ((l.take z.i).map enA)).length ≤ z.i := by
          unfold testC; exact Nat.le_trans (List.length_filter_le _ _) (by rw [List.length_map, List.length_take]; omega)
        refine skp (h := ?_)
        refine q_seq (h := ?_)
        refine sq (h := ?_)
        refine bk (h := ?_)
        refine sq (h := ?_)
        refine rgD (by kernel_rfl) [(1000000, .own A c 91 16 l.length (encY l)), (1000000, .blk b0 23 f.cells), (1000000, .blk b1 45 x.cells)] (by repeat (first | exact HS.nil | (apply HS.keep; (repeat (first | exact At.here | apply At.there))) | (apply HS.ro; (repeat (first | exact Rds.ro | exact Rds.own | apply Rds.there))))) (h := ?_)
        refine tk 0 (hy := (by first | exact ldA | exact ldEA)) (h := ?_)
        refine tk 1 (hy := mv) (h := ?_)
        refine tk 2 (hy := mv) (h := ?_)
        refine tk 3 (hy := ix (A := A) (m := l.length)) (h := ?_)
        refine tk 4 (hy := ldEW (A := A) (k := z.i) (cs := y.cells) (hk := encY_at hy)) (h := ?_)
        refine tk 6 (hy := (by first | exact ldA | exact ldEA)) (h := ?_)
        refine one 5 (h := ?_)
        refine cl0 (hc := fun w hS => C_ref3_Score f hf K (by omega) U y hyk w (hS.many (by repeat (first | exact At.here | apply At.there)) hyk.us)) (h := ?_)
        refine nx (h := ?_)
        refine one 7 (h := ?_)
        refine cl0 (hc := fun w hS => C_ref3_True y.m.sc y.sA y.sc x w (hS.many (by repeat (first | exact At.here | apply At.there)) hyk.us) hyn) (h := ?_)
        refine nx (h := ?_)
        refine dn (h := ?_)
        refine q_seq (h := ?_)
        refine cd (by exact rfl) (fun h5 => ?_) (fun h5 => ?_)
        · skip
          have htt : holdS f x (spotOf y.m) = true := by rw [← hyk.tst hf (by omega)]; exact h5
          rw [htt, if_pos rfl] at hts
          refine rg (h := ?_)
          refine WL.y (hy := mv) (h := ?_)
          refine WL.y (hy := mv) (h := ?_)
          refine WL.y (hy := mv) (h := ?_)
          refine WL.y (hy := ix (A := A) (m := l.length) (hb := by omega)) (h := ?_)
          refine WL.y (hy := ldEW (A := A) (k := z.i) (cs := y.cells) (hk := encY_at hy)) (h := ?_)
          refine bs (h := fun b2 => ?_)
          refine ap (es := encY z.o) (m := z.o.length) (k := 1) (A := z.A) (c := z.c) (h := fun A1 c1 => ?_)
          rw [encY_snoc, show z.o.length + 1 = (z.o ++ [y]).length by rw [List.length_append]; rfl]
          refine WL.y (hy := asg) (h := ?_)
          refine WL.cut (by repeat (first | exact Cut.nil | apply Cut.hit | apply Cut.miss (by exact rfl))) ?_
          refine nl (h := ?_)
          refine q_blk_norm (h := ?_)
          refine q_seq (h := ?_)
          refine rg (h := ?_)
          refine WL.y (hy := mv) (h := ?_)
          refine WL.y (hy := addI) (h := ?_)
          refine WL.y (hy := asg) (h := ?_)
          refine WL.cut (by repeat (first | exact Cut.nil | apply Cut.hit | apply Cut.miss (by exact rfl))) ?_
          refine nl (h := ?_)
          first
            | (refine rn (x := z) ⟨z.i + 1, z.o ++ [y], A1, c1⟩ ⟨hin, by dsimp only; rw [hts]; exact hzT.test hyk⟩ (by dsimp only; omega) (by repeat (first | exact trivial | refine ⟨rfl, ?_⟩)) (by repeat (first | exact SubL.nil | (apply SubL.cons; (repeat (first | exact At.here | apply At.there))) | exact SubL.refl _ | apply SubL.skip)); done)
            | (refine rn (x := z) ⟨z.i + 1, z.o, z.A, z.c⟩ ⟨hin, by dsimp only; rw [hts]; exact hzT⟩ (by dsimp only; omega) (by repeat (first | exact trivial | refine ⟨rfl, ?_⟩)) (by repeat (first | exact SubL.nil | (apply SubL.cons; (repeat (first | exact At.here | apply At.there))) | exact SubL.refl _ | apply SubL.skip)); done)
        · skip
          have htt : holdS f x (spotOf y.m) = false := by rw [← hyk.tst hf (by omega)]; exact h5
          rw [htt, if_neg (by decide), List.append_nil] at hts
          refine skp (h := ?_)
          refine q_blk_norm (h := ?_)
          refine q_seq (h := ?_)
          refine rg (h := ?_)
          refine WL.y (hy := mv) (h := ?_)
          refine WL.y (hy := addI) (h := ?_)
          refine WL.y (hy := asg) (h := ?_)
          refine WL.cut (by repeat (first | exact Cut.nil | apply Cut.hit | apply Cut.miss (by exact rfl))) ?_
          refine nl (h := ?_)
          first
            | (refine rn (x := z) ⟨z.i + 1, z.o ++ [y], A1, c1⟩ ⟨hin, by dsimp only; rw [hts]; exact hzT.test hyk⟩ (by dsimp only; omega) (by repeat (first | exact trivial | refine ⟨rfl, ?_⟩)) (by repeat (first | exact SubL.nil | (apply SubL.cons; (repeat (first | exact At.here | apply At.there))) | exact SubL.refl _ | apply SubL.skip)); done)
            | (refine rn (x := z) ⟨z.i + 1, z.o, z.A, z.c⟩ ⟨hin, by dsimp only; rw [hts]; exact hzT⟩ (by dsimp only; omega) (by repeat (first | exact trivial | refine ⟨rfl, ?_⟩)) (by repeat (first | exact SubL.nil | (apply SubL.cons; (repeat (first | exact At.here | apply At.there))) | exact SubL.refl _ | apply SubL.skip)); done)
      · skip
        have hin : z.i = l.length := by have := of_decide_eq_false h4; omega
        rw [hin, List.take_length] at hzT
        refine et (h := ?_)
        refine q_then_exit (h := ?_)
        refine q_then_exit (h := ?_)
        refine q_blk_hit (h := ?_)
        refine q_seq (h := ?_)
        refine sq (h := ?_)
        refine rg (h := ?_)
        refine WL.y (hy := mv) (h := ?_)
        refine WL.y (hy := asg) (h := ?_)
        refine WL.cut (by repeat (first | exact Cut.nil | apply Cut.hit | apply Cut.miss (by exact rfl))) ?_
        refine nl (h := ?_)
        refine q_seq (h := ?_)
        refine rtn (h := ?_)
        refine q_ret (hR := ?_)
        exact fun w hS => ⟨⟨z.o, z.A, z.c, U⟩, by rw [after_test k1 k2, hm3, Int.add_zero]; exact hzT, rfl, hS.sub (by repeat (first | exact SubL.nil | (apply SubL.cons; (repeat (first | exact At.here | apply At.there))) | exact SubL.refl _ | apply SubL.skip))⟩
end Go.Proofs.YtpejgebcmhmpaaaGreat

namespace Go.Proofs.YtpejgebcmhmpaaaGreat
open Go Go.RowKit

def nilU : List Row := [⟨none, 2, 0, []⟩] ++ [⟨none, 7, 0, []⟩] ++ [⟨none, 1, 0, []⟩]
def begS (f : Fmt) (k : Nat) : StA := ⟨beginV f (k : Int), none, none, 0, 0, [], none, 0, (0, 0, 0)⟩
def begA (f : Fmt) (cf : Int) : Nat → List StA
  | 0 => []
  | k + 1 => begA f cf k ++ if cf = -1 ∨ cf = (k : Int) then [begS f k] else []
theorem begA_en (f : Fmt) (cf : Int) : ∀ k, (begA f cf k).map enA = begTo cf k
  | 0 => rfl
  | k + 1 => by
    rw [begA, begTo, List.map_append, begA_en f cf k]
    by_cases h : cf = -1 ∨ cf = (k : Int)
    · rw [if_pos h, if_pos h]
      show _ ++ [enA (begS f k)] = _
      rw [show enA (begS f k) = ((⟨(k : Int), [], (0, 0), (0, 0)⟩ : Spot), ((0, 0, 0) : Mn)) from Prod.ext (begin_spot f (k : Int)) rfl]
    · rw [if_neg h, if_neg h]; rfl
theorem begA_len (f : Fmt) (cf : Int) : ∀ k, (begA f cf k).length ≤ k
  | 0 => Nat.le_refl _
  | k + 1 => by
    rw [begA, List.length_append]
    have := begA_len f cf k
    by_cases h : cf = -1 ∨ cf = (k : Int)
    · rw [if_pos h]; show _ + 1 ≤ _; omega
    · rw [if_neg h]; show _ + 0 ≤ _; omega
theorem begS_ok (f : Fmt) {k : Nat} (hk : k < 2) : StK f 0 nilU (begS f k) :=
  ⟨by show (k : Int) = 0 ∨ (k : Int) = 1; omega, rfl, Int.le_refl _, by unfold nilU; exact List.mem_append_left _ (List.mem_append_left _ (List.mem_singleton.2 rfl)), by unfold nilU; exact List.mem_append_left _ (List.mem_append_right _ (List.mem_singleton.2 rfl)), by unfold nilU; exact List.mem_append_right _ (List.mem_singleton.2 rfl), ⟨Int.le_refl _, Int.le_refl _⟩, ⟨Int.le_refl _, Int.le_refl _⟩, ⟨Int.le_refl _, by show (0 : Int) ≤ 100; omega⟩⟩
theorem begA_ok (f : Fmt) (cf : Int) : ∀ k, k ≤ 2 → ∀ x ∈ begA f cf k, StK f 0 nilU x
  | 0, _, x, hx => by cases hx
  | k + 1, hk, x, hx => by
    rw [begA] at hx
    rcases List.mem_append.1 hx with hx | hx
    · exact begA_ok f cf k (by omega) x hx
    · by_cases h : cf = -1 ∨ cf = (k : Int)
      · rw [if_pos h] at hx; rw [List.mem_singleton.1 hx]; exact begS_ok f (by omega)
      · rw [if_neg h] at hx; cases hx
theorem begA_af (f : Fmt) (cf : Int) : AfI f 0 nilU (begC cf) (begA f cf 2) nilU := ⟨by rw [begA_en, begTo_two], begA_ok f cf 2 (Nat.le_refl _), fun _ h => h⟩
structure BgZ where
  (k : Nat) (A : Option Addr) (c : Nat)
set_option maxRecDepth 100000 in
theorem C_ref3_begin (f : Fmt) (hf : f.Ok) (cf : Int) (A : Option Addr) (n c : Nat) (w : World) : CR Tryz.prog 63 [.agg (cardC f cf A n c).toArray] w (fun _ : Option Addr × Nat => True) (fun q => .slice q.1 (begA f cf 2).length q.2) (fun q => [.own q.1 q.2 91 16 (begA f cf 2).length (encY (begA f cf 2))]) := by
  refine ⟨en Tryz.func63 Tryz.ntmps63 (St.init w) (h := fun F => ?_)⟩
  refine sq (h := ?_)
  refine rg (h := ?_)
  refine bxA (h := fun b0 => ?_)
  refine WL.y (hy := asg) (h := ?_)
  refine WL.cut (by repeat (first | exact Cut.nil | apply Cut.hit | apply Cut.miss (by exact rfl))) ?_
  refine nl (h := ?_)
  refine q_seq (h := ?_)
  refine sq (h := ?_)
  refine rg (h := ?_)
  refine WL.y (hy := asg) (h := ?_)
  refine WL.cut (by repeat (first | exact Cut.nil | apply Cut.hit | apply Cut.miss (by exact rfl))) ?_
  refine nl (h := ?_)
  refine q_seq (h := ?_)
  refine sq (h := ?_)
  refine sq (h := ?_)
  refine WC.nilOwn 91 16 (h := ?_)
  refine rg (h := ?_)
  refine WL.y (hy := asg) (h := ?_)
  refine WL.cut (by repeat (first | exact Cut.nil | apply Cut.hit | apply Cut.miss (by exact rfl))) ?_
  refine nl (h := ?_)
  refine q_seq (h := ?_)
  refine bk (h := ?_)
  refine lp (X := BgZ) (I := fun z => z.k ≤ 2) (le := fun z => [(1, .pointer (some ⟨b0, 0, none⟩)), (3, .slice z.A (begA f cf z.k).length z.c), (4, .int .i64 z.k)]) (Le := fun z => [.own z.A z.c 91 16 (begA f cf z.k).length (encY (begA f cf z.k)), .blk b0 26 (cardC f cf A n c)]) (μ := fun z => 2 - z.k) ⟨0, none, 0⟩ (Nat.zero_le _) (by repeat (first | exact trivial | refine ⟨rfl, ?_⟩)) (by repeat (first | exact SubL.nil | (apply SubL.cons; (repeat (first | exact At.here | apply At.there))) | exact SubL.refl _ | apply SubL.skip)) (fun z hz => ?_)
  refine sq (h := ?_)
  refine sq (h := ?_)
  refine rg (h := ?_)
  refine WL.y (hy := mv) (h := ?_)
  refine WL.y (hy := lss) (h := ?_)
  refine nl (h := ?_)
  refine q_seq (h := ?_)
  refine cd (by exact rfl) (fun h0 => ?_) (fun h0 => ?_)
  · skip
    have hk2 : z.k < 2 := by have := of_decide_eq_true h0; omega
    have hbl := begA_len f cf z.k
    refine skp (h := ?_)
    refine q_seq (h := ?_)
    refine sq (h := ?_)
    refine bk (h := ?_)
    refine sq (h := ?_)
    refine rg (h := ?_)
    refine WL.y (hy := (by first | exact fa | exact faE)) (h := ?_)
    refine WL.y (hy := (by first | exact ld | exact ldE)) (h := ?_)
    refine WL.y (hy := eql) (h := ?_)
    refine WL.y (hy := mv) (h := ?_)
    apply brOr 5 12 17 (by exact rfl)
    · intro hb1
      refine un (h := ?_)
      refine WL.y (hy := (by first | exact fa | exact faE)) (h := ?_)
      refine un (h := ?_)
      refine WL.y (hy := (by first | exact ld | exact ldE)) (h := ?_)
      refine un (h := ?_)
      refine WL.y (hy := mv) (h := ?_)
      refine un (h := ?_)
      refine WL.y (hy := eql) (h := ?_)
      refine WL.y (hy := (by first | exact pkT | exact pkF)) (h := ?_)
      exact mg (by repeat (first | exact trivial | refine ⟨rfl, ?_⟩ | refine ⟨by rw [hb1]; rfl, ?_⟩)) (by repeat (first | exact SubL.nil | (apply SubL.cons; (repeat (first | exact At.here | apply At.there))) | exact SubL.refl _ | apply SubL.skip))
    · intro hb1
      repeat (first | refine un (h := ?_) | refine sk (h := ?_) | refine WL.y (hy := pkF) (h := ?_) | refine WL.y (hy := pkT) (h := ?_))
      exact mg (by repeat (first | exact trivial | refine ⟨rfl, ?_⟩ | refine ⟨by rw [hb1]; rfl, ?_⟩)) (by repeat (first | exact SubL.nil | (apply SubL.cons; (repeat (first | exact At.here | apply At.there))) | exact SubL.refl _ | apply SubL.skip))
    refine nl (h := ?_)
    refine q_seq (h := ?_)
    refine cd (by exact rfl) (fun h2 => ?_) (fun h2 => ?_)
    · skip
      have hck : cf = -1 ∨ cf = (z.k : Int) := by
        have g9 := h2
        rwa [Bool.or_eq_true, decide_eq_true_eq, decide_eq_true_eq] at g9
      have hE : begA f cf (z.k + 1) = begA f cf z.k ++ [begS f z.k] := by rw [begA, if_pos hck]
      refine rg (h := ?_)
      refine WL.y (hy := mv) (h := ?_)
      refine WL.y (hy := (by first | exact fa | exact faE)) (h := ?_)
      refine WL.y (hy := (by first | exact ldA | exact ldEA)) (h := ?_)
      refine WL.y (hy := mv) (h := ?_)
      refine cl0 (hc := fun w hS => C_ref1_Begin _ _ (by assumption) w) (h := ?_)
      refine WL.y (hy := bd) (h := ?_)
      refine bs (h := fun b1 => ?_)
      refine ap (es := encY (begA f cf z.k)) (m := (begA f cf z.k).length) (k := 1) (A := z.A) (c := z.c) (es2 := [(begS f z.k).cells]) (h := fun A1 c1 => ?_)
      rw [show encY (begA f cf z.k) ++ [(begS f z.k).cells] = encY (begA f cf z.k ++ [begS f z.k]) from encY_snoc _ (begS f z.k), show (begA f cf z.k).length + 1 = (begA f cf z.k ++ [begS f z.k]).length by rw [List.length_append]; rfl, ← hE]
      refine WL.y (hy := asg) (h := ?_)
      refine WL.cut (by repeat (first | exact Cut.nil | apply Cut.hit | apply Cut.miss (by exact rfl))) ?_
      refine nl (h := ?_)
      refine q_blk_norm (h := ?_)
      refine q_seq (h := ?_)
      refine rg (h := ?_)
      refine WL.y (hy := mv) (h := ?_)
      refine WL.y (hy := addI) (h := ?_)
      refine WL.y (hy := asg) (h := ?_)
      refine WL.cut (by repeat (first | exact Cut.nil | apply Cut.hit | apply Cut.miss (by exact rfl))) ?_
      refine nl (h := ?_)
      first
        | (refine rn (x := z) ⟨z.k + 1, A1, c1⟩ hk2 (by dsimp only; omega) (by repeat (first | exact trivial | refine ⟨rfl, ?_⟩)) (by repeat (first | exact SubL.nil | (apply SubL.cons; (repeat (first | exact At.here | apply At.there))) | exact SubL.refl _ | apply SubL.skip)); done)
        | (refine rn (x := z) ⟨z.k + 1, z.A, z.c⟩ hk2 (by dsimp only; omega) (by dsimp only; rw [hE]; repeat (first | exact trivial | refine ⟨rfl, ?_⟩)) (by dsimp only; rw [hE]; repeat (first | exact SubL.nil | (apply SubL.cons; (repeat (first | exact At.here | apply At.there))) | exact SubL.refl _ | apply SubL.skip)); done)
    · skip
      have hck : ¬ (cf = -1 ∨ cf = (z.k : Int)) := fun g8 => by
        have g9 := h2
        rw [Bool.or_eq_false_iff, decide_eq_false_iff_not, decide_eq_false_iff_not] at g9
        omega
      have hE : begA f cf (z.k + 1) = begA f cf z.k := by rw [begA, if_neg hck, List.append_nil]
      refine skp (h := ?_)
      refine q_blk_norm (h := ?_)
      refine q_seq (h := ?_)
      refine rg (h := ?_)
      refine WL.y (hy := mv) (h := ?_)
      refine WL.y (hy := addI) (h := ?_)
      refine WL.y (hy := asg) (h := ?_)
      refine WL.cut (by repeat (first | exact Cut.nil | apply Cut.hit | apply Cut.miss (by exact rfl))) ?_
      refine nl (h := ?_)
      first
        | (refine rn (x := z) ⟨z.k + 1, A1, c1⟩ hk2 (by dsimp only; omega) (by repeat (first | exact trivial | refine ⟨rfl, ?_⟩)) (by repeat (first | exact SubL.nil | (apply SubL.cons; (repeat (first | exact At.here | apply At.there))) | exact SubL.refl _ | apply SubL.skip)); done)
        | (refine rn (x := z) ⟨z.k + 1, z.A, z.c⟩ hk2 (by dsimp only; omega) (by dsimp only; rw [hE]; repeat (first | exact trivial | refine ⟨rfl, ?_⟩)) (by dsimp only; rw [hE]; repeat (first | exact SubL.nil | (apply SubL.cons; (repeat (first | exact At.here | apply At.there))) | exact SubL.refl _ | apply SubL.skip)); done)
  · skip
    have hk2 : z.k = 2 := by have := of_decide_eq_false h0; omega
    rw [hk2]
    refine et (h := ?_)
    refine q_then_exit (h := ?_)
    refine q_then_exit (h := ?_)
    refine q_blk_hit (h := ?_)
    refine q_seq (h := ?_)
    refine sq (h := ?_)
    refine rg (h := ?_)
    refine WL.y (hy := mv) (h := ?_)
    refine WL.y (hy := asg) (h := ?_)
    refine WL.cut (by repeat (first | exact Cut.nil | apply Cut.hit | apply Cut.miss (by exact rfl))) ?_
    refine nl (h := ?_)
    refine q_seq (h := ?_)
    refine rtn (h := ?_)
    refine q_ret (hR := ?_)
    exact fun w hS => ⟨(z.A, z.c), trivial, rfl, hS.sub (by repeat (first | exact SubL.nil | (apply SubL.cons; (repeat (first | exact At.here | apply At.there))) | exact SubL.refl _ | apply SubL.skip))⟩
theorem mst_rng {xs : List Nt} (h : ∀ x ∈ xs, mkV x = true) (k : Nat) : 0 ≤ mostS (xs.take k) ∧ mostS (xs.take k) ≤ mostS xs :=
  ⟨(sub_sums (ys := []) (List.nil_sublist _) (fun x hx => h x (List.mem_of_mem_take hx))).2, (sub_sums (List.take_sublist k xs) h).2⟩
structure SkZ where
  (k : Nat) (l : List StA) (A : Option Addr) (c : Nat) (U : List Row)
set_option maxRecDepth 100000 in
theorem C_ref3_stands (f : Fmt) (cf : Int) (xs : List Nt) (A : Option Addr) (n c : Nat) (w : World) (h : Rd w A 4 n (encN xs)) (hck : chkC f cf xs = 0) (hms : mostS xs ≤ 20) :
    CR Tryz.prog 38 [.agg (cardC f cf A n c).toArray] w (fun q : StR => AfI f (mostS xs) nilU (if badC f cf xs = -1 then crowdC f cf xs else []) q.l q.U) (fun q => .tuple #[.slice q.A q.l.length q.c, .int .i64 (badC f cf xs)]) (fun q => [.own q.A q.c 91 16 q.l.length (encY q.l), manyE true q.U]) := by
  have hlen : xs.length = n := by have := h.len; rwa [encN_len] at this
  obtain ⟨_, hf, hcf, hl30, hmk, -⟩ := chk_facts hck
  refine ⟨en Tryz.func38 Tryz.ntmps38 ((St.init w).share (e := .ro A 4 n (encN xs)) h rfl rfl rfl) (h := fun F => ?_)⟩
  refine sq (h := ?_)
  refine rg (h := ?_)
  refine bxA (h := fun b0 => ?_)
  refine WL.y (hy := asg) (h := ?_)
  refine WL.cut (by repeat (first | exact Cut.nil | apply Cut.hit | apply Cut.miss (by exact rfl))) ?_
  refine WL.y (hy := asg) (h := ?_)
  refine WL.cut (by repeat (first | exact Cut.nil | apply Cut.hit | apply Cut.miss (by exact rfl))) ?_
  refine nl (h := ?_)
  refine q_seq (h := ?_)
  refine sq (h := ?_)
  refine rg (h := ?_)
  refine WL.y (hy := (by first | exact ldA | exact ldEA)) (h := ?_)
  refine cl (hc := fun w hS => C_ref3_begin f hf cf A n c w) (h := fun q0 _ => ?_)
  refine WL.y (hy := asg) (h := ?_)
  refine WL.cut (by repeat (first | exact Cut.nil | apply Cut.hit | apply Cut.miss (by exact rfl))) ?_
  refine nl (h := ?_)
  refine q_seq (h := ?_)
  refine sq (h := ?_)
  refine sq (h := ?_)
  refine WC.nilOwn 43 2 (h := ?_)
  refine WC.nilOwn 140 7 (h := ?_)
  refine WC.nilOwn 3 1 (h := ?_)
  refine WC.many0 (h := ?_)
  refine WC.manyAdd (A := none) (size := 2) (by repeat (first | exact At.here | apply At.there)) (by repeat (first | exact At.here | apply At.there)) ?_
  refine WC.manyAdd (A := none) (size := 7) (by repeat (first | exact At.here | apply At.there)) (by repeat (first | exact At.here | apply At.there)) ?_
  refine WC.manyAdd (A := none) (size := 1) (by repeat (first | exact At.here | apply At.there)) (by repeat (first | exact At.here | apply At.there)) ?_
  rw [List.nil_append, show ([⟨none, 2, 0, []⟩] ++ [⟨none, 7, 0, []⟩] ++ [⟨none, 1, 0, []⟩] : List Row) = nilU from rfl]
  refine rg (h := ?_)
  refine WL.y (hy := asg) (h := ?_)
  refine WL.cut (by repeat (first | exact Cut.nil | apply Cut.hit | apply Cut.miss (by exact rfl))) ?_
  refine nl (h := ?_)
  refine q_seq (h := ?_)
  refine bk (h := ?_)
  refine lp (X := SkZ) (I := fun z => z.k ≤ n ∧ AfI f (mostS (xs.take z.k)) nilU (crowdC f cf (xs.take z.k)) z.l z.U ∧ ∀ j, j ≤ z.k → crowdC f cf (xs.take j) ≠ []) (le := fun z => [(1, .pointer (some ⟨b0, 0, none⟩)), (4, .slice z.A z.l.length z.c), (5, .int .i64 z.k)]) (Le := fun z => [.own z.A z.c 91 16 z.l.length (encY z.l), manyE true z.U, .blk b0 26 (cardC f cf A n c), .ro A 4 n (encN xs)]) (μ := fun z => n - z.k) ⟨0, begA f cf 2, q0.1, q0.2, nilU⟩ ⟨Nat.zero_le _, begA_af f cf, fun j hj => by rw [Nat.le_zero.1 hj]; exact beg_ne hcf⟩ (by repeat (first | exact trivial | refine ⟨rfl, ?_⟩)) (by repeat (first | exact SubL.nil | (apply SubL.cons; (repeat (first | exact At.here | apply At.there))) | exact SubL.refl _ | apply SubL.skip)) (fun z hz => ?_)
  obtain ⟨hzk, hzA, hzn⟩ := hz
  refine sq (h := ?_)
  refine sq (h := ?_)
  refine rg (h := ?_)
  refine WL.y (hy := mv) (h := ?_)
  refine WL.y (hy := (by first | exact fa | exact faE)) (h := ?_)
  refine WL.y (hy := (by first | exact ld | exact ldE)) (h := ?_)
  refine WL.y (hy := lenS) (h := ?_)
  refine WL.y (hy := lss) (h := ?_)
  refine nl (h := ?_)
  refine q_seq (h := ?_)
  refine cd (by exact rfl) (fun h0 => ?_) (fun h0 => ?_)
  · skip
    have hkn : z.k < n := by have := of_decide_eq_true h0; omega
    obtain ⟨x, hx⟩ : ∃ x, xs[z.k]? = some x := ⟨_, List.getElem?_eq_getElem (by omega)⟩
    have hxe := encN_at hx
    have hxm := hmk x (List.mem_of_getElem? hx)
    have hm1 := mst_rng hmk z.k
    have hm2 := mst_rng hmk (z.k + 1)
    have hm3 := mostS_succ hx
    have hcs := crowd_succ f cf hx
    refine skp (h := ?_)
    refine q_seq (h := ?_)
    refine sq (h := ?_)
    refine bk (h := ?_)
    refine sq (h := ?_)
    refine WC.cut 4 (by exact rfl) (by repeat (first | exact Cut.nil | apply Cut.hit | apply Cut.miss (by exact rfl))) ?_
    refine rgD (by kernel_rfl) [(8, .own z.A z.c 91 16 z.l.length (encY z.l)), (1000000, .blk b0 26 (cardC f cf A n c)), (1000000, .ro A 4 n (encN xs))] (by repeat (first | exact HS.nil | (apply HS.keep; (repeat (first | exact At.here | apply At.there))) | (apply HS.ro; (repeat (first | exact Rds.ro | exact Rds.own | apply Rds.there))))) (h := ?_)
    refine tk 0 (hy := (by first | exact fa | exact faE)) (h := ?_)
    refine tk 1 (hy := (by first | exact ldA | exact ldEA)) (h := ?_)
    refine tk 2 (hy := mv) (h := ?_)
    refine tk 3 (hy := (by first | exact fa | exact faE)) (h := ?_)
    refine tk 4 (hy := (by first | exact ld | exact ldE)) (h := ?_)
    refine tk 5 (hy := mv) (h := ?_)
    refine tk 6 (hy := ix (A := A) (m := n) (hb := by omega)) (h := ?_)
    refine tk 7 (hy := ldEA (A := A) (hk := hxe)) (h := ?_)
    refine one 8 (h := ?_)
    refine clT (hc := T_After f hf (mostS (xs.take z.k)) z.l x z.A z.c z.U (by rw [hzA.en]; exact crowd_keys _ _ _) hzA.ok hxm hm1.1 (by omega)) (h := fun q hq => ?_)
    have hqA : AfI f (mostS (xs.take (z.k + 1))) nilU (crowdC f cf (xs.take (z.k + 1))) q.l q.U := by
      rw [hcs, hm3, ← hzA.en]
      exact ⟨hq.en, hq.ok, fun r hr => hq.sub r (hzA.sub r hr)⟩
    refine nx (h := ?_)
    refine tk 9 (hy := asg) (h := ?_)
    refine dn (h := ?_)
    refine q_seq (h := ?_)
    refine sq (h := ?_)
    refine rg (h := ?_)
    refine WL.y (hy := mv) (h := ?_)
    refine WL.y (hy := lenS) (h := ?_)
    refine WL.y (hy := eql) (h := ?_)
    refine nl (h := ?_)
    refine q_seq (h := ?_)
    refine cd (by exact rfl) (fun h1 => ?_) (fun h1 => ?_)
    · skip
      have hql : q.l = [] := List.eq_nil_of_length_eq_zero (by have := of_decide_eq_true h1; omega)
      have hE : badC f cf xs = (z.k : Int) := bad_at (by omega) (by rw [← hqA.en, hql]; rfl) hzn
      refine sq (h := ?_)
      refine rg (h := ?_)
      refine WL.y (hy := mv) (h := ?_)
      refine WL.y (hy := asg) (h := ?_)
      refine WL.cut (by repeat (first | exact Cut.nil | apply Cut.hit | apply Cut.miss (by exact rfl))) ?_
      refine WL.y (hy := asg) (h := ?_)
      refine WL.cut (by repeat (first | exact Cut.nil | apply Cut.hit | apply Cut.miss (by exact rfl))) ?_
      refine nl (h := ?_)
      refine q_seq (h := ?_)
      refine rtn (h := ?_)
      refine q_blk_ret (h := ?_)
      refine q_then_ret (h := ?_)
      refine q_then_ret (h := ?_)
      refine q_blk_ret (h := ?_)
      refine q_then_ret (h := ?_)
      refine q_ret (hR := ?_)
      rw [hE, if_neg (by omega)]
      exact fun w hS => ⟨⟨[], none, 0, q.U⟩, ⟨rfl, fun x hx => (by cases hx), hqA.sub⟩, rfl, (hS.nilOwn 91 16).sub (by repeat (first | exact SubL.nil | (apply SubL.cons; (repeat (first | exact At.here | apply At.there))) | exact SubL.refl _ | apply SubL.skip))⟩
    · skip
      have hne : crowdC f cf (xs.take (z.k + 1)) ≠ [] := fun e => by
        have g9 := hqA.num
        rw [e] at g9
        have g8 := of_decide_eq_false h1
        apply g8
        rw [← g9]; rfl
      refine skp (h := ?_)
      refine q_blk_norm (h := ?_)
      refine q_seq (h := ?_)
      refine rg (h := ?_)
      refine WL.y (hy := mv) (h := ?_)
      refine WL.y (hy := addI) (h := ?_)
      refine WL.y (hy := asg) (h := ?_)
      refine WL.cut (by repeat (first | exact Cut.nil | apply Cut.hit | apply Cut.miss (by exact rfl))) ?_
      refine nl (h := ?_)
      refine rn (x := z) ⟨z.k + 1, q.l, q.A, q.c, q.U⟩ ⟨hkn, hqA, fun j hj => by
        by_cases e : j = z.k + 1
        · subst e; exact hne
        · exact hzn j (by dsimp only at hj; omega)⟩ (by dsimp only; omega) (by repeat (first | exact trivial | refine ⟨rfl, ?_⟩)) (by repeat (first | exact SubL.nil | (apply SubL.cons; (repeat (first | exact At.here | apply At.there))) | exact SubL.refl _ | apply SubL.skip))
  · skip
    have hkn : z.k = n := by have := of_decide_eq_false h0; omega
    have htk : xs.take z.k = xs := by rw [hkn, ← hlen, List.take_length]
    rw [htk] at hzA
    have hne : crowdC f cf xs ≠ [] := by rw [← htk]; exact hzn _ (Nat.le_refl _)
    have hE : badC f cf xs = -1 := (bad_none hcf).2 hne
    refine et (h := ?_)
    refine q_then_exit (h := ?_)
    refine q_then_exit (h := ?_)
    refine q_blk_hit (h := ?_)
    refine q_seq (h := ?_)
    refine sq (h := ?_)
    refine rg (h := ?_)
    refine WL.y (hy := mv) (h := ?_)
    refine WL.y (hy := asg) (h := ?_)
    refine WL.cut (by repeat (first | exact Cut.nil | apply Cut.hit | apply Cut.miss (by exact rfl))) ?_
    refine WL.y (hy := asg) (h := ?_)
    refine WL.cut (by repeat (first | exact Cut.nil | apply Cut.hit | apply Cut.miss (by exact rfl))) ?_
    refine nl (h := ?_)
    refine q_seq (h := ?_)
    refine rtn (h := ?_)
    refine q_ret (hR := ?_)
    rw [hE, if_pos rfl]
    exact fun w hS => ⟨⟨z.l, z.A, z.c, z.U⟩, hzA, rfl, hS.sub (by repeat (first | exact SubL.nil | (apply SubL.cons; (repeat (first | exact At.here | apply At.there))) | exact SubL.refl _ | apply SubL.skip))⟩
theorem chk_or (f : Fmt) (cf : Int) (xs : List Nt) : chkC f cf xs = 0 ∨ chkC f cf xs = 30 := by
  unfold chkC
  cases headB f cf xs.length
  · cases (!xs.all mkV)
    · cases decide (600 < mostS xs)
      · exact .inl rfl
      · exact .inr rfl
    · exact .inr rfl
  · exact .inr rfl
theorem C_ref3_First (f : Fmt) (cf : Int) (xs : List Nt) (A : Option Addr) (n c : Nat) (w : World) (h : Rd w A 4 n (encN xs)) (hn : n ≤ 9223372036854775807) (hsm : chkC f cf xs = 0 → mostS xs ≤ 20) :
    C0 Tryz.prog 13 [.agg (cardC f cf A n c).toArray] w (.tuple #[.int .i64 (allB f cf xs), .int .i64 (chkC f cf xs)]) := by
  refine ⟨en Tryz.func13 Tryz.ntmps13 ((St.init w).share (e := .ro A 4 n (encN xs)) h rfl rfl rfl) (h := fun F => ?_)⟩
  refine sq (h := ?_)
  refine rg (h := ?_)
  refine bxA (h := fun b0 => ?_)
  refine WL.y (hy := asg) (h := ?_)
  refine WL.cut (by repeat (first | exact Cut.nil | apply Cut.hit | apply Cut.miss (by exact rfl))) ?_
  refine WL.y (hy := asg) (h := ?_)
  refine WL.cut (by repeat (first | exact Cut.nil | apply Cut.hit | apply Cut.miss (by exact rfl))) ?_
  refine nl (h := ?_)
  refine q_seq (h := ?_)
  refine sq (h := ?_)
  refine sq (h := ?_)
  refine rg (h := ?_)
  refine WL.y (hy := (by first | exact ldA | exact ldEA)) (h := ?_)
  refine cl0 (hc := fun w hS => C_ref3_Check f cf xs A n c w (hS.get (by repeat (first | exact Rds.ro | exact Rds.own | apply Rds.there))) hn) (h := ?_)
  refine WL.y (hy := neq) (h := ?_)
  refine nl (h := ?_)
  refine q_seq (h := ?_)
  refine cd (by exact rfl) (fun h0 => ?_) (fun h0 => ?_)
  · skip
    have hck : ¬ chkC f cf xs = 0 := by have g9 := h0; simpa using g9
    have hE : chkC f cf xs = 30 := (chk_or f cf xs).resolve_left hck
    have hE2 : allB f cf xs = 0 := by rw [allB, decide_eq_false hck]; rfl
    refine sq (h := ?_)
    refine rg (h := ?_)
    refine WL.y (hy := asg) (h := ?_)
    refine WL.cut (by repeat (first | exact Cut.nil | apply Cut.hit | apply Cut.miss (by exact rfl))) ?_
    refine WL.y (hy := asg) (h := ?_)
    refine WL.cut (by repeat (first | exact Cut.nil | apply Cut.hit | apply Cut.miss (by exact rfl))) ?_
    refine nl (h := ?_)
    refine q_seq (h := ?_)
    refine rtn (h := ?_)
    refine q_then_ret (h := ?_)
    refine q_ret (hR := ?_)
    rw [hE, hE2]
    exact fun w hS => ⟨rfl, hS.sub (by repeat (first | exact SubL.nil | (apply SubL.cons; (repeat (first | exact At.here | apply At.there))) | exact SubL.refl _ | apply SubL.skip))⟩
  · skip
    have hck : chkC f cf xs = 0 := by have g9 := h0; simpa using g9
    have hE2 : allB f cf xs = badC f cf xs := by rw [allB, decide_eq_true hck]; rfl
    refine skp (h := ?_)
    refine q_seq (h := ?_)
    refine sq (h := ?_)
    refine rg (h := ?_)
    refine WL.y (hy := (by first | exact ldA | exact ldEA)) (h := ?_)
    refine cl (hc := fun w hS => C_ref3_stands f cf xs A n c w (hS.get (by repeat (first | exact Rds.ro | exact Rds.own | apply Rds.there))) hck (hsm hck)) (h := fun q hq => ?_)
    refine WL.y (hy := mv) (h := ?_)
    refine WL.y (hy := ex) (h := ?_)
    refine WL.y (hy := ex) (h := ?_)
    refine WL.y (hy := asg) (h := ?_)
    refine WL.y (hy := asg) (h := ?_)
    refine nl (h := ?_)
    refine q_seq (h := ?_)
    refine sq (h := ?_)
    refine rg (h := ?_)
    refine WL.y (hy := mv) (h := ?_)
    refine WL.y (hy := asg) (h := ?_)
    refine WL.cut (by repeat (first | exact Cut.nil | apply Cut.hit | apply Cut.miss (by exact rfl))) ?_
    refine WL.y (hy := asg) (h := ?_)
    refine WL.cut (by repeat (first | exact Cut.nil | apply Cut.hit | apply Cut.miss (by exact rfl))) ?_
    refine nl (h := ?_)
    refine q_seq (h := ?_)
    refine rtn (h := ?_)
    refine q_ret (hR := ?_)
    rw [hck, hE2]
    exact fun w hS => ⟨rfl, hS.sub (by repeat (first | exact SubL.nil | (apply SubL.cons; (repeat (first | exact At.here | apply At.there))) | exact SubL.refl _ | apply SubL.skip))⟩
structure KnI (f : Fmt) (cf : Int) (xs : List Nt) (q : StR) : Prop where
  no : posE f cf xs ≠ 0 → q.l = []
  yes : posE f cf xs = 0 → AfI f (mostS xs) nilU (crowdC f cf xs) q.l q.U
theorem C_ref3_known (f : Fmt) (cf : Int) (xs : List Nt) (A : Option Addr) (n c : Nat) (w : World) (h : Rd w A 4 n (encN xs)) (hn : n ≤ 9223372036854775807) (hsm : chkC f cf xs = 0 → mostS xs ≤ 20) :
    CR Tryz.prog 48 [.agg (cardC f cf A n c).toArray] w (KnI f cf xs) (fun q => .tuple #[.slice q.A q.l.length q.c, .int .i64 (posE f cf xs)]) (fun q => [.own q.A q.c 91 16 q.l.length (encY q.l), manyE true q.U]) := by
  refine ⟨en Tryz.func48 Tryz.ntmps48 ((St.init w).share (e := .ro A 4 n (encN xs)) h rfl rfl rfl) (h := fun F => ?_)⟩
  refine sq (h := ?_)
  refine rg (h := ?_)
  refine bxA (h := fun b0 => ?_)
  refine WL.y (hy := asg) (h := ?_)
  refine WL.cut (by repeat (first | exact Cut.nil | apply Cut.hit | apply Cut.miss (by exact rfl))) ?_
  refine WL.y (hy := asg) (h := ?_)
  refine WL.cut (by repeat (first | exact Cut.nil | apply Cut.hit | apply Cut.miss (by exact rfl))) ?_
  refine nl (h := ?_)
  refine q_seq (h := ?_)
  refine sq (h := ?_)
  refine sq (h := ?_)
  refine rg (h := ?_)
  refine WL.y (hy := (by first | exact ldA | exact ldEA)) (h := ?_)
  refine cl0 (hc := fun w hS => C_ref3_Check f cf xs A n c w (hS.get (by repeat (first | exact Rds.ro | exact Rds.own | apply Rds.there))) hn) (h := ?_)
  refine WL.y (hy := neq) (h := ?_)
  refine nl (h := ?_)
  refine q_seq (h := ?_)
  refine cd (by exact rfl) (fun h0 => ?_) (fun h0 => ?_)
  · skip
    have hck : ¬ chkC f cf xs = 0 := by have g9 := h0; simpa using g9
    have hE : posE f cf xs = 30 := by rw [posE, decide_eq_false hck]; exact (chk_or f cf xs).resolve_left hck
    refine sq (h := ?_)
    refine rg (h := ?_)
    refine WL.y (hy := asg) (h := ?_)
    refine WL.cut (by repeat (first | exact Cut.nil | apply Cut.hit | apply Cut.miss (by exact rfl))) ?_
    refine WL.y (hy := asg) (h := ?_)
    refine WL.cut (by repeat (first | exact Cut.nil | apply Cut.hit | apply Cut.miss (by exact rfl))) ?_
    refine nl (h := ?_)
    refine q_seq (h := ?_)
    refine rtn (h := ?_)
    refine q_then_ret (h := ?_)
    refine q_ret (hR := ?_)
    rw [hE]
    exact fun w hS => ⟨⟨[], none, 0, []⟩, ⟨fun _ => rfl, fun g9 => absurd (g9.symm.trans hE) (by decide)⟩, rfl, ((hS.many0).nilOwn 91 16).sub (by repeat (first | exact SubL.nil | (apply SubL.cons; (repeat (first | exact At.here | apply At.there))) | exact SubL.refl _ | apply SubL.skip))⟩
  · skip
    have hck : chkC f cf xs = 0 := by have g9 := h0; simpa using g9
    refine skp (h := ?_)
    refine q_seq (h := ?_)
    refine sq (h := ?_)
    refine rg (h := ?_)
    refine WL.y (hy := (by first | exact ldA | exact ldEA)) (h := ?_)
    refine cl (hc := fun w hS => C_ref3_stands f cf xs A n c w (hS.get (by repeat (first | exact Rds.ro | exact Rds.own | apply Rds.there))) hck (hsm hck)) (h := fun q hq => ?_)
    refine WL.y (hy := mv) (h := ?_)
    refine WL.y (hy := ex) (h := ?_)
    refine WL.y (hy := ex) (h := ?_)
    refine WL.y (hy := asg) (h := ?_)
    refine WL.y (hy := asg) (h := ?_)
    refine nl (h := ?_)
    refine q_seq (h := ?_)
    refine sq (h := ?_)
    refine sq (h := ?_)
    refine rg (h := ?_)
    refine WL.y (hy := mv) (h := ?_)
    refine WL.y (hy := geq) (h := ?_)
    refine nl (h := ?_)
    refine q_seq (h := ?_)
    refine cd (by exact rfl) (fun h1 => ?_) (fun h1 => ?_)
    · skip
      have hb0 : 0 ≤ badC f cf xs := of_decide_eq_true h1
      have hE : posE f cf xs = 3 := by rw [posE, decide_eq_true hck, decide_eq_true hb0]; rfl
      refine sq (h := ?_)
      refine rg (h := ?_)
      refine WL.y (hy := asg) (h := ?_)
      refine WL.cut (by repeat (first | exact Cut.nil | apply Cut.hit | apply Cut.miss (by exact rfl))) ?_
      refine WL.y (hy := asg) (h := ?_)
      refine WL.cut (by repeat (first | exact Cut.nil | apply Cut.hit | apply Cut.miss (by exact rfl))) ?_
      refine nl (h := ?_)
      refine q_seq (h := ?_)
      refine rtn (h := ?_)
      refine q_then_ret (h := ?_)
      refine q_ret (hR := ?_)
      rw [hE]
      exact fun w hS => ⟨⟨[], none, 0, q.U⟩, ⟨fun _ => rfl, fun g9 => absurd (g9.symm.trans hE) (by decide)⟩, rfl, (hS.nilOwn 91 16).sub (by repeat (first | exact SubL.nil | (apply SubL.cons; (repeat (first | exact At.here | apply At.there))) | exact SubL.refl _ | apply SubL.skip))⟩
    · skip
      have hb0 : badC f cf xs = -1 := by
        have g9 := of_decide_eq_false h1
        have := bad_rng f cf xs
        omega
      have hE : posE f cf xs = 0 := by rw [posE, decide_eq_true hck, hb0]; rfl
      rw [if_pos hb0] at hq
      refine skp (h := ?_)
      refine q_seq (h := ?_)
      refine sq (h := ?_)
      refine rg (h := ?_)
      refine WL.y (hy := mv) (h := ?_)
      refine WL.y (hy := asg) (h := ?_)
      refine WL.cut (by repeat (first | exact Cut.nil | apply Cut.hit | apply Cut.miss (by exact rfl))) ?_
      refine WL.y (hy := asg) (h := ?_)
      refine WL.cut (by repeat (first | exact Cut.nil | apply Cut.hit | apply Cut.miss (by exact rfl))) ?_
      refine nl (h := ?_)
      refine q_seq (h := ?_)
      refine rtn (h := ?_)
      refine q_ret (hR := ?_)
      rw [hE]
      exact fun w hS => ⟨q, ⟨fun g9 => absurd hE g9, fun _ => hq⟩, rfl, hS.sub (by repeat (first | exact SubL.nil | (apply SubL.cons; (repeat (first | exact At.here | apply At.there))) | exact SubL.refl _ | apply SubL.skip))⟩
end Go.Proofs.YtpejgebcmhmpaaaGreat

namespace Go.Proofs.YtpejgebcmhmpaaaGreat
open Go Go.RowKit

theorem far_facts {f : Fmt} {cf : Int} {xs : List Nt} (h : farC f cf xs = false) : xs.length ≤ 60 ∧ (chkC f cf xs = 0 → Rdy f cf xs) := by
  unfold farC at h
  rw [Bool.or_eq_false_iff, decide_eq_false_iff_not] at h
  refine ⟨by omega, fun hc => ?_⟩
  have h2 := h.2
  rw [decide_eq_true hc, Bool.true_and, Bool.or_eq_false_iff, decide_eq_false_iff_not, decide_eq_false_iff_not] at h2
  exact rdy_of hc (by omega) (by omega)
theorem pos_chk {f : Fmt} {cf : Int} {xs : List Nt} (h : posE f cf xs = 0) : chkC f cf xs = 0 := by
  unfold posE at h
  cases hd : decide (chkC f cf xs = 0)
  · rw [hd, cond_false] at h; exact h
  · exact of_decide_eq_true hd
end Go.Proofs.YtpejgebcmhmpaaaGreat

namespace Go.Proofs.YtpejgebcmhmpaaaGreat
open Go Go.RowKit

theorem pos_ne {f : Fmt} {cf : Int} {xs : List Nt} (h : posE f cf xs = 0) : crowdC f cf xs ≠ [] := by
  have hc := pos_chk h
  obtain ⟨_, _, hcf, _⟩ := chk_facts hc
  refine (bad_none hcf).1 ?_
  have := bad_rng f cf xs
  unfold posE at h
  rw [decide_eq_true hc, cond_true] at h
  cases hd : decide (0 ≤ badC f cf xs)
  · have := of_decide_eq_false hd; omega
  · rw [hd] at h; cases h
theorem AfI.keys {f : Fmt} {K : Int} {U U' : List Row} {es : List En} {l : List StA} (h : AfI f K U es l U') : keyC es = l.map fun s => spotOf s.m := by
  rw [← h.en]; unfold keyC; rw [List.map_map]; rfl
theorem span_succ {l : List StA} {k : Nat} {y : StA} (h : l[k]? = some y) (v : Pr) : spanC ((l.take (k + 1)).map enA) v = (min (spanC ((l.take k).map enA) v).1 y.mn.1, max (spanC ((l.take k).map enA) v).2 y.mn.2.1) := by
  unfold spanC
  rw [List.take_add_one, h, List.map_append, List.foldl_append]; rfl
structure CuZ where
  (k : Nat)
set_option maxRecDepth 100000 in
theorem C_ref3_Count (f : Fmt) (cf : Int) (xs : List Nt) (A : Option Addr) (n c : Nat) (w : World) (h : Rd w A 4 n (encN xs)) (hn : n ≤ 9223372036854775807) (hsm : chkC f cf xs = 0 → mostS xs ≤ 20) :
    C0 Tryz.prog 17 [.agg (cardC f cf A n c).toArray] w (.tuple #[pv (cntV f cf xs), .int .i64 (posE f cf xs)]) := by
  refine ⟨en Tryz.func17 Tryz.ntmps17 ((St.init w).share (e := .ro A 4 n (encN xs)) h rfl rfl rfl) (h := fun F => ?_)⟩
  refine sq (h := ?_)
  refine rg (h := ?_)
  refine bxA (h := fun b0 => ?_)
  refine al (h := fun b1 => ?_)
  refine WL.y (hy := asg) (h := ?_)
  refine WL.cut (by repeat (first | exact Cut.nil | apply Cut.hit | apply Cut.miss (by exact rfl))) ?_
  refine nl (h := ?_)
  refine q_seq (h := ?_)
  refine sq (h := ?_)
  refine rg (h := ?_)
  refine WL.y (hy := (by first | exact ldA | exact ldEA)) (h := ?_)
  refine cl (hc := fun w hS => C_ref3_known f cf xs A n c w (hS.get (by repeat (first | exact Rds.ro | exact Rds.own | apply Rds.there))) hn hsm) (h := fun q hq => ?_)
  refine WL.y (hy := mv) (h := ?_)
  refine WL.y (hy := ex) (h := ?_)
  refine WL.y (hy := ex) (h := ?_)
  refine WL.y (hy := asg) (h := ?_)
  refine WL.y (hy := asg) (h := ?_)
  refine nl (h := ?_)
  refine q_seq (h := ?_)
  refine sq (h := ?_)
  refine sq (h := ?_)
  refine rg (h := ?_)
  refine WL.y (hy := mv) (h := ?_)
  refine WL.y (hy := neq) (h := ?_)
  refine nl (h := ?_)
  refine q_seq (h := ?_)
  refine cd (by exact rfl) (fun h0 => ?_) (fun h0 => ?_)
  · skip
    have hp : ¬ posE f cf xs = 0 := by have g9 := h0; simpa using g9
    have hE : cntV f cf xs = (0, 0) := by rw [cntV, decide_eq_false hp]; rfl
    refine sq (h := ?_)
    refine rg (h := ?_)
    refine WL.y (hy := bd) (h := ?_)
    refine WL.y (hy := mv) (h := ?_)
    first | refine stA (h := ?_) | refine stEA (h := ?_)
    refine WL.y (hy := asg) (h := ?_)
    refine WL.cut (by repeat (first | exact Cut.nil | apply Cut.hit | apply Cut.miss (by exact rfl))) ?_
    refine nl (h := ?_)
    refine q_seq (h := ?_)
    refine rtn (h := ?_)
    refine q_then_ret (h := ?_)
    refine q_ret (hR := ?_)
    rw [hE]
    first
      | exact fun w hS => ⟨rfl, hS.sub .nil⟩
      | (rw [hp]; exact fun w hS => ⟨rfl, hS.sub .nil⟩)
  · skip
    have hp : posE f cf xs = 0 := by have g9 := h0; simpa using g9
    have hA := hq.yes hp
    have hck := pos_chk hp
    obtain ⟨_, hf, hcf, _, hmk, _⟩ := chk_facts hck
    have hms := hsm hck
    have hql := hA.len hf (crowd_keys _ _ _) (by omega)
    obtain ⟨y0, hy0⟩ : ∃ y, q.l[0]? = some y := by
      have g9 := pos_ne hp
      rw [← hA.en] at g9
      cases hql9 : q.l with
      | nil => rw [hql9] at g9; exact absurd rfl g9
      | cons y l => exact ⟨y, rfl⟩
    have hyk0 := hA.ok y0 (List.mem_of_getElem? hy0)
    have hlo := hyk0.lo
    have hhi := hyk0.hi
    have hq0 : 0 < q.l.length := (List.getElem?_eq_some_iff.1 hy0).1
    refine skp (h := ?_)
    refine q_seq (h := ?_)
    refine sq (h := ?_)
    refine rgD (by kernel_rfl) [(1000000, .own q.A q.c 91 16 q.l.length (encY q.l))] (by repeat (first | exact HS.nil | (apply HS.keep; (repeat (first | exact At.here | apply At.there))) | (apply HS.ro; (repeat (first | exact Rds.ro | exact Rds.own | apply Rds.there))))) (h := ?_)
    refine tk 0 (hy := mv) (h := ?_)
    refine tk 1 (hy := ix (A := q.A) (m := q.l.length) (hb := by omega)) (h := ?_)
    refine tk 2 (hy := (by first | exact fa | exact faE)) (h := ?_)
    refine tk 3 (hy := ldE (A := q.A) (k := 0) (hk := encY_at hy0)) (h := ?_)
    refine tk 4 (hy := mv) (h := ?_)
    refine tk 5 (hy := ix (A := q.A) (m := q.l.length) (hb := by omega)) (h := ?_)
    refine tk 6 (hy := (by first | exact fa | exact faE)) (h := ?_)
    refine tk 7 (hy := ldE (A := q.A) (k := 0) (hk := encY_at hy0)) (h := ?_)
    refine tk 8 (hy := bd) (h := ?_)
    refine one 9 (h := ?_)
    refine al (h := fun b2 => ?_)
    refine nx (h := ?_)
    refine one 10 (h := ?_)
    first | refine stA (h := ?_) | refine stEA (h := ?_)
    refine nx (h := ?_)
    refine dn (h := ?_)
    refine q_seq (h := ?_)
    refine sq (h := ?_)
    refine sq (h := ?_)
    refine rg (h := ?_)
    refine WL.y (hy := asg) (h := ?_)
    refine WL.cut (by repeat (first | exact Cut.nil | apply Cut.hit | apply Cut.miss (by exact rfl))) ?_
    refine nl (h := ?_)
    refine q_seq (h := ?_)
    refine bk (h := ?_)
    refine lp (X := CuZ) (I := fun z => z.k ≤ q.l.length) (le := fun z => [(2, .pointer (some ⟨b1, 0, none⟩)), (4, .slice q.A q.l.length q.c), (6, .pointer (some ⟨b2, 0, none⟩)), (7, .int .i64 z.k)]) (Le := fun z => [.blk b2 38 [.int .i64 (spanC ((q.l.take z.k).map enA) (y0.mn.1, y0.mn.2.1)).1, .int .i64 (spanC ((q.l.take z.k).map enA) (y0.mn.1, y0.mn.2.1)).2], .own q.A q.c 91 16 q.l.length (encY q.l), .blk b1 38 [.int .i64 0, .int .i64 0]]) (μ := fun z => q.l.length - z.k) ⟨0⟩ (Nat.zero_le _) (by repeat (first | exact trivial | refine ⟨rfl, ?_⟩)) (by repeat (first | exact SubL.nil | (apply SubL.cons; (repeat (first | exact At.here | apply At.there))) | exact SubL.refl _ | apply SubL.skip)) (fun z hz => ?_)
    refine sq (h := ?_)
    refine sq (h := ?_)
    refine rg (h := ?_)
    refine WL.y (hy := mv) (h := ?_)
    refine WL.y (hy := mv) (h := ?_)
    refine WL.y (hy := lenS) (h := ?_)
    refine WL.y (hy := lss) (h := ?_)
    refine nl (h := ?_)
    refine q_seq (h := ?_)
    refine cd (by exact rfl) (fun h1 => ?_) (fun h1 => ?_)
    · skip
      have hkn : z.k < q.l.length := by have := of_decide_eq_true h1; omega
      obtain ⟨y, hy⟩ : ∃ y, q.l[z.k]? = some y := ⟨_, List.getElem?_eq_getElem hkn⟩
      have hsc := span_succ hy (y0.mn.1, y0.mn.2.1)
      refine skp (h := ?_)
      refine q_seq (h := ?_)
      refine sq (h := ?_)
      refine bk (h := ?_)
      refine sq (h := ?_)
      refine rgD (by kernel_rfl) [(9, .blk b2 38 [.int .i64 (spanC ((q.l.take z.k).map enA) (y0.mn.1, y0.mn.2.1)).1, .int .i64 (spanC ((q.l.take z.k).map enA) (y0.mn.1, y0.mn.2.1)).2]), (1000000, .own q.A q.c 91 16 q.l.length (encY q.l))] (by repeat (first | exact HS.nil | (apply HS.keep; (repeat (first | exact At.here | apply At.there))) | (apply HS.ro; (repeat (first | exact Rds.ro | exact Rds.own | apply Rds.there))))) (h := ?_)
      refine tk 0 (hy := (by first | exact fa | exact faE)) (h := ?_)
      refine tk 1 (hy := (by first | exact ld | exact ldE)) (h := ?_)
      refine tk 2 (hy := mv) (h := ?_)
      refine tk 3 (hy := mv) (h := ?_)
      refine tk 4 (hy := ix (A := q.A) (m := q.l.length) (hb := by omega)) (h := ?_)
      refine tk 5 (hy := (by first | exact fa | exact faE)) (h := ?_)
      refine tk 6 (hy := ldE (A := q.A) (k := z.k) (hk := encY_at hy)) (h := ?_)
      refine tk 7 (hy := minI) (h := ?_)
      refine tk 8 (hy := (by first | exact fa | exact faE)) (h := ?_)
      refine one 9 (h := ?_)
      first | refine st (h := ?_) | refine stE (h := ?_)
      refine nx (h := ?_)
      refine dn (h := ?_)
      refine q_seq (h := ?_)
      refine rgD (by kernel_rfl) [(9, .blk b2 38 [.int .i64 (min (spanC ((q.l.take z.k).map enA) (y0.mn.1, y0.mn.2.1)).1 y.mn.1), .int .i64 (spanC ((q.l.take z.k).map enA) (y0.mn.1, y0.mn.2.1)).2]), (1000000, .own q.A q.c 91 16 q.l.length (encY q.l))] (by repeat (first | exact HS.nil | (apply HS.keep; (repeat (first | exact At.here | apply At.there))) | (apply HS.ro; (repeat (first | exact Rds.ro | exact Rds.own | apply Rds.there))))) (h := ?_)
      refine tk 0 (hy := (by first | exact fa | exact faE)) (h := ?_)
      refine tk 1 (hy := (by first | exact ld | exact ldE)) (h := ?_)
      refine tk 2 (hy := mv) (h := ?_)
      refine tk 3 (hy := mv) (h := ?_)
      refine tk 4 (hy := ix (A := q.A) (m := q.l.length) (hb := by omega)) (h := ?_)
      refine tk 5 (hy := (by first | exact fa | exact faE)) (h := ?_)
      refine tk 6 (hy := ldE (A := q.A) (k := z.k) (hk := encY_at hy)) (h := ?_)
      refine tk 7 (hy := maxI) (h := ?_)
      refine tk 8 (hy := (by first | exact fa | exact faE)) (h := ?_)
      refine one 9 (h := ?_)
      first | refine st (h := ?_) | refine stE (h := ?_)
      refine nx (h := ?_)
      refine dn (h := ?_)
      refine q_blk_norm (h := ?_)
      refine q_seq (h := ?_)
      refine rg (h := ?_)
      refine WL.y (hy := mv) (h := ?_)
      refine WL.y (hy := addI) (h := ?_)
      refine WL.y (hy := asg) (h := ?_)
      refine WL.cut (by repeat (first | exact Cut.nil | apply Cut.hit | apply Cut.miss (by exact rfl))) ?_
      refine nl (h := ?_)
      refine rn (x := z) ⟨z.k + 1⟩ hkn (by dsimp only; omega) (by repeat (first | exact trivial | refine ⟨rfl, ?_⟩)) (by dsimp only; rw [hsc]; exact (by repeat (first | exact SubL.nil | (apply SubL.cons; (repeat (first | exact At.here | apply At.there))) | exact SubL.refl _ | apply SubL.skip)))
    · skip
      have hkn : z.k = q.l.length := by have := of_decide_eq_false h1; omega
      have hE : cntV f cf xs = spanC ((q.l.take z.k).map enA) (y0.mn.1, y0.mn.2.1) := by
        rw [cntV, decide_eq_true hp, cond_true, cntC, hkn, List.take_length, ← hA.en]
        cases hql9 : q.l with
        | nil => rw [hql9] at hy0; cases hy0
        | cons y l =>
          rw [hql9] at hy0
          obtain rfl : y = y0 := by simpa using hy0
          exact span_start (x := enA y) ⟨by show y.mn.1 ≤ 600; omega, by show (0 : Int) ≤ y.mn.2.1; omega⟩
      refine et (h := ?_)
      refine q_then_exit (h := ?_)
      refine q_then_exit (h := ?_)
      refine q_blk_hit (h := ?_)
      refine q_seq (h := ?_)
      refine sq (h := ?_)
      refine rg (h := ?_)
      refine WL.y (hy := (by first | exact ldA | exact ldEA)) (h := ?_)
      first | refine stA (h := ?_) | refine stEA (h := ?_)
      refine WL.y (hy := asg) (h := ?_)
      refine WL.cut (by repeat (first | exact Cut.nil | apply Cut.hit | apply Cut.miss (by exact rfl))) ?_
      refine nl (h := ?_)
      refine q_seq (h := ?_)
      refine rtn (h := ?_)
      refine q_ret (hR := ?_)
      rw [hE]
      first
        | exact fun w hS => ⟨rfl, hS.sub .nil⟩
        | (rw [hp]; exact fun w hS => ⟨rfl, hS.sub .nil⟩)
end Go.Proofs.YtpejgebcmhmpaaaGreat

namespace Go.Proofs.YtpejgebcmhmpaaaGreat
open Go Go.RowKit

end Go.Proofs.YtpejgebcmhmpaaaGreat

namespace Go.Proofs.YtpejgebcmhmpaaaGreat
open Go Go.RowKit

def atF (zs : List BA) (b : Brd) (k : Nat) : Nat := k + (zs.drop k).findIdx fun c => decide (cmpB b c.b < 0)
def smF (zs : List BA) (b : Brd) (k : Nat) : Bool := (zs.drop k).any fun c => decide (c.b = b)
theorem atF_end (zs : List BA) (b : Brd) : atF zs b zs.length = zs.length := by unfold atF; rw [List.drop_length]; simp
theorem smF_end (zs : List BA) (b : Brd) : smF zs b zs.length = false := by unfold smF; rw [List.drop_length]; rfl
theorem atF_step {zs : List BA} {b : Brd} {k : Nat} {c : BA} (h : zs[k]? = some c) : atF zs b k = bif decide (cmpB b c.b < 0) then k else atF zs b (k + 1) := by
  unfold atF
  rw [drop_at h, List.findIdx_cons]
  cases decide (cmpB b c.b < 0)
  · simp only [cond_false]; omega
  · simp
theorem smF_step {zs : List BA} {b : Brd} {k : Nat} {c : BA} (h : zs[k]? = some c) : smF zs b k = (smF zs b (k + 1) || decide (c.b = b)) := by
  unfold smF
  rw [drop_at h, List.any_cons, Bool.or_comm]
theorem atF_le (zs : List BA) (b : Brd) {k : Nat} (hk : k ≤ zs.length) : k ≤ atF zs b k ∧ atF zs b k ≤ zs.length := by
  unfold atF
  have := List.findIdx_le_length (xs := zs.drop k) (p := fun c => decide (cmpB b c.b < 0))
  rw [List.length_drop] at this
  omega
theorem atF_pos (zs : List BA) (b : Brd) : atF zs b 0 = posB (zs.map (·.b)) b := by
  unfold atF posB
  rw [List.drop_zero, List.findIdx_map]
  simp only [Nat.zero_add]
  rfl
theorem smF_mem (zs : List BA) (b : Brd) : smF zs b 0 = true ↔ b ∈ zs.map (·.b) := by
  unfold smF
  rw [List.drop_zero, List.any_eq_true, List.mem_map]
  exact ⟨fun ⟨x, hx, e⟩ => ⟨x, hx, of_decide_eq_true e⟩, fun ⟨x, hx, e⟩ => ⟨x, hx, decide_eq_true e⟩⟩
def insK (zs : List BA) (x : BA) (k : Nat) : List BA := zs.take k ++ x :: zs.drop k
theorem insK_end (zs : List BA) (x : BA) : insK zs x zs.length = zs ++ [x] := by unfold insK; rw [List.take_length, List.drop_length]
theorem insK_len (zs : List BA) (x : BA) {k : Nat} (h : k ≤ zs.length) : (insK zs x k).length = zs.length + 1 := by
  unfold insK
  rw [List.length_append, List.length_cons, List.length_take, List.length_drop]; omega
theorem insK_swap {zs : List BA} {x y : BA} {k : Nat} (h : zs[k]? = some y) : (insK zs x (k + 1))[k + 1]? = some x ∧ (insK zs x (k + 1))[k]? = some y ∧ ((insK zs x (k + 1)).set (k + 1) y).set k x = insK zs x k := by
  obtain ⟨h1, h2⟩ := List.getElem?_eq_some_iff.1 h
  have e : zs.take (k + 1) = zs.take k ++ [y] := by rw [List.take_add_one, h]; rfl
  have hl : (zs.take k).length = k := by rw [List.length_take]; omega
  have e2 : insK zs x (k + 1) = zs.take k ++ y :: x :: zs.drop (k + 1) := by unfold insK; rw [e, List.append_assoc]; rfl
  rw [e2]
  refine ⟨?_, ?_, ?_⟩
  · rw [List.getElem?_append_right (by omega), hl, show k + 1 - k = 1 by omega]; rfl
  · rw [List.getElem?_append_right (by omega), hl, Nat.sub_self]; rfl
  · rw [List.set_append_right _ _ (by omega), hl, show k + 1 - k = 1 by omega, List.set_append_right _ _ (by omega), hl, Nat.sub_self]
    unfold insK
    rw [drop_at h]; rfl
theorem insK_map (zs : List BA) (x : BA) (hn : ¬ x.b ∈ zs.map (·.b)) : (insK zs x (atF zs x.b 0)).map (·.b) = insB (zs.map (·.b)) x.b := by
  unfold insK insB
  rw [if_neg hn, atF_pos, List.map_append, List.map_cons, List.map_take, List.map_drop]
theorem insK_mem {zs : List BA} {x y : BA} {k : Nat} (h : y ∈ insK zs x k) : y ∈ zs ∨ y = x := by
  unfold insK at h
  rcases List.mem_append.1 h with h | h
  · exact .inl (List.mem_of_mem_take h)
  · rcases List.mem_cons.1 h with h | h
    · exact .inr h
    · exact .inl (List.mem_of_mem_drop h)
theorem boards_snoc (l : List Spot) (s : Spot) : boardsC (l ++ [s]) = insB (boardsC l) (brdOf s) := by
  unfold boardsC
  rw [List.foldl_append]; rfl
end Go.Proofs.YtpejgebcmhmpaaaGreat

namespace Go.Proofs.YtpejgebcmhmpaaaGreat
open Go Go.RowKit

theorem less_pr (a b : Pr) : (decide (a.1 < b.1) || (decide (a.1 = b.1) && decide (a.2 < b.2))) = decide (cmpP a b < 0) := by
  rw [Bool.eq_iff_iff, Bool.or_eq_true, Bool.and_eq_true, decide_eq_true_eq, decide_eq_true_eq, decide_eq_true_eq, decide_eq_true_eq]
  unfold cmpP orI
  split <;> omega
theorem C_ref3_lessPair (a b : Pr) (w : World) : C0 Tryz.prog 55 [.agg #[.int .i64 a.1, .int .i64 a.2], .agg #[.int .i64 b.1, .int .i64 b.2]] w (.bool (decide (cmpP a b < 0))) := by
  refine ⟨en Tryz.func55 Tryz.ntmps55 (St.init w) (h := fun F => ?_)⟩
  refine sq (h := ?_)
  refine rg (h := ?_)
  refine bxA (h := fun b0 => ?_)
  refine bxA (h := fun b1 => ?_)
  refine WL.y (hy := asg) (h := ?_)
  refine nl (h := ?_)
  refine q_seq (h := ?_)
  refine sq (h := ?_)
  refine rg (h := ?_)
  refine WL.y (hy := (by first | exact fa | exact faE)) (h := ?_)
  refine WL.y (hy := (by first | exact ld | exact ldE)) (h := ?_)
  refine WL.y (hy := (by first | exact fa | exact faE)) (h := ?_)
  refine WL.y (hy := (by first | exact ld | exact ldE)) (h := ?_)
  refine WL.y (hy := lss) (h := ?_)
  refine WL.y (hy := mv) (h := ?_)
  apply brOr 13 10 23 (by exact rfl)
  · intro hb0
    refine un (h := ?_)
    refine WL.y (hy := (by first | exact fa | exact faE)) (h := ?_)
    refine un (h := ?_)
    refine WL.y (hy := (by first | exact ld | exact ldE)) (h := ?_)
    refine un (h := ?_)
    refine WL.y (hy := (by first | exact fa | exact faE)) (h := ?_)
    refine un (h := ?_)
    refine WL.y (hy := (by first | exact ld | exact ldE)) (h := ?_)
    refine un (h := ?_)
    refine WL.y (hy := eql) (h := ?_)
    refine un (h := ?_)
    refine WL.y (hy := mv) (h := ?_)
    apply brAnd 6 16 22 (by exact rfl)
    · intro hb1
      refine un (h := ?_)
      refine WL.y (hy := (by first | exact fa | exact faE)) (h := ?_)
      refine un (h := ?_)
      refine WL.y (hy := (by first | exact ld | exact ldE)) (h := ?_)
      refine un (h := ?_)
      refine WL.y (hy := (by first | exact fa | exact faE)) (h := ?_)
      refine un (h := ?_)
      refine WL.y (hy := (by first | exact ld | exact ldE)) (h := ?_)
      refine un (h := ?_)
      refine WL.y (hy := lss) (h := ?_)
      refine un (h := ?_)
      refine WL.y (hy := (by first | exact pkT | exact pkF)) (h := ?_)
      exact mg (by repeat (first | exact trivial | refine ⟨rfl, ?_⟩ | refine ⟨by rw [hb1]; rfl, ?_⟩ | refine ⟨by rw [hb0]; rfl, ?_⟩)) (by repeat (first | exact SubL.nil | (apply SubL.cons; (repeat (first | exact At.here | apply At.there))) | exact SubL.refl _ | apply SubL.skip))
    · intro hb1
      repeat (first | refine un (h := ?_) | refine sk (h := ?_) | refine WL.y (hy := pkF) (h := ?_) | refine WL.y (hy := pkT) (h := ?_))
      exact mg (by repeat (first | exact trivial | refine ⟨rfl, ?_⟩ | refine ⟨by rw [hb1]; rfl, ?_⟩ | refine ⟨by rw [hb0]; rfl, ?_⟩)) (by repeat (first | exact SubL.nil | (apply SubL.cons; (repeat (first | exact At.here | apply At.there))) | exact SubL.refl _ | apply SubL.skip))
    refine WL.y (hy := (by first | exact pkT | exact pkF)) (h := ?_)
    exact mg (by repeat (first | exact trivial | refine ⟨rfl, ?_⟩ | refine ⟨by rw [hb0]; rfl, ?_⟩)) (by repeat (first | exact SubL.nil | (apply SubL.cons; (repeat (first | exact At.here | apply At.there))) | exact SubL.refl _ | apply SubL.skip))
  · intro hb0
    repeat (first | refine un (h := ?_) | refine sk (h := ?_) | refine WL.y (hy := pkF) (h := ?_) | refine WL.y (hy := pkT) (h := ?_))
    exact mg (by repeat (first | exact trivial | refine ⟨rfl, ?_⟩ | refine ⟨by rw [hb0]; rfl, ?_⟩)) (by repeat (first | exact SubL.nil | (apply SubL.cons; (repeat (first | exact At.here | apply At.there))) | exact SubL.refl _ | apply SubL.skip))
  refine WL.y (hy := asg) (h := ?_)
  refine nl (h := ?_)
  refine q_seq (h := ?_)
  refine rtn (h := ?_)
  refine q_ret (hR := ?_)
  rw [← less_pr]
  exact fun w hS => ⟨rfl, hS.sub (by repeat (first | exact SubL.nil | (apply SubL.cons; (repeat (first | exact At.here | apply At.there))) | exact SubL.refl _ | apply SubL.skip))⟩
theorem cmpL_at : ∀ {a b : List Pr} {k : Nat}, a.take k = b.take k → cmpL a b = cmpL (a.drop k) (b.drop k)
  | a, b, 0, _ => rfl
  | [], [], k + 1, _ => rfl
  | [], _ :: _, k + 1, h => by cases h
  | _ :: _, [], k + 1, h => by cases h
  | x :: a, y :: b, k + 1, h => by
    rw [List.take_succ_cons, List.take_succ_cons] at h
    obtain ⟨rfl, h2⟩ := List.cons.inj h
    rw [List.drop_succ_cons, List.drop_succ_cons, ← cmpL_at h2, cmpL, orI, if_neg (by rw [cmpP_zero.2 rfl]; omega)]
theorem cmpL_diff {a b : List Pr} {k : Nat} {p q : Pr} (h : a.take k = b.take k) (hp : a[k]? = some p) (hq : b[k]? = some q) (hne : p ≠ q) : cmpL a b = cmpP p q := by
  obtain ⟨h1, e1⟩ := List.getElem?_eq_some_iff.1 hp
  obtain ⟨h2, e2⟩ := List.getElem?_eq_some_iff.1 hq
  rw [cmpL_at h, List.drop_eq_getElem_cons h1, List.drop_eq_getElem_cons h2, e1, e2, cmpL, orI, if_pos (fun e => hne (cmpP_zero.1 e))]
theorem cmpL_end {a b : List Pr} {k : Nat} (h : a.take k = b.take k) (hk : k = a.length ∨ k = b.length) (hne : a.length ≠ b.length) (hka : k ≤ a.length) (hkb : k ≤ b.length) : (cmpL a b < 0 ↔ a.length < b.length) ∧ cmpL a b ≠ 0 := by
  refine ⟨?_, fun e => hne (congrArg List.length (cmpL_zero.1 e))⟩
  rw [cmpL_at h]
  rcases hk with rfl | rfl
  · rw [List.drop_length]
    cases hd : b.drop a.length with
    | nil => have := congrArg List.length hd; rw [List.length_drop] at this; simp at this; omega
    | cons y l => exact ⟨fun _ => by omega, fun _ => by show (-1 : Int) < 0; decide⟩
  · rw [List.drop_length]
    cases hd : a.drop b.length with
    | nil => have := congrArg List.length hd; rw [List.length_drop] at this; simp at this; omega
    | cons y l => exact ⟨fun (h9 : (1 : Int) < 0) => absurd h9 (by decide), fun h9 => by omega⟩
theorem orI_of {a b : Int} (h : a ≠ 0) : orI a b = a := if_pos h
theorem orI_of0 {a b : Int} (h : a = 0) : orI a b = b := if_neg (fun g => g h)
set_option maxRecDepth 100000 in
theorem C_ref3_Less (a b : Brd) (A B : Option Addr) (n c m d : Nat) (w : World) (h : Rd w A 2 n (encP a.st)) (h' : Rd w B 2 m (encP b.st)) (hn : n ≤ 9223372036854775807) (hm : m ≤ 9223372036854775807) :
    C0 Tryz.prog 24 [a.val A n c, b.val B m d] w (.bool (decide (cmpB a b < 0))) := by
  have hla : a.st.length = n := by have := h.len; simpa [encP] using this
  have hlb : b.st.length = m := by have := h'.len; simpa [encP] using this
  refine ⟨en Tryz.func24 Tryz.ntmps24 (((St.init w).share (e := .ro A 2 n (encP a.st)) h rfl rfl rfl).share (e := .ro B 2 m (encP b.st)) h' rfl rfl rfl) (h := fun F => ?_)⟩
  refine sq (h := ?_)
  refine rg (h := ?_)
  refine bxA (h := fun b0 => ?_)
  refine bxA (h := fun b1 => ?_)
  refine WL.y (hy := asg) (h := ?_)
  refine nl (h := ?_)
  refine q_seq (h := ?_)
  refine sq (h := ?_)
  refine sq (h := ?_)
  refine rg (h := ?_)
  refine WL.y (hy := asg) (h := ?_)
  refine WL.cut (by repeat (first | exact Cut.nil | apply Cut.hit | apply Cut.miss (by exact rfl))) ?_
  refine nl (h := ?_)
  refine q_seq (h := ?_)
  refine bk (h := ?_)
  refine lp (X := Nat) (I := fun k => (k ≤ n ∧ k ≤ m) ∧ a.st.take k = b.st.take k) (le := fun k => [(2, .pointer (some ⟨b0, 0, none⟩)), (3, .pointer (some ⟨b1, 0, none⟩)), (5, .int .i64 k)]) (Le := fun _ => [.blk b0 52 (a.cells A n c), .blk b1 52 (b.cells B m d), .ro A 2 n (encP a.st), .ro B 2 m (encP b.st)]) (μ := fun k => n - k) 0 ⟨⟨Nat.zero_le _, Nat.zero_le _⟩, rfl⟩ (by repeat (first | exact trivial | refine ⟨rfl, ?_⟩)) (by repeat (first | exact SubL.nil | (apply SubL.cons; (repeat (first | exact At.here | apply At.there))) | exact SubL.refl _ | apply SubL.skip)) (fun k hk0 => ?_)
  obtain ⟨hk, htk⟩ := hk0
  refine sq (h := ?_)
  refine sq (h := ?_)
  refine rg (h := ?_)
  refine WL.y (hy := mv) (h := ?_)
  refine WL.y (hy := (by first | exact fa | exact faE)) (h := ?_)
  refine WL.y (hy := (by first | exact ld | exact ldE)) (h := ?_)
  refine WL.y (hy := lenS) (h := ?_)
  refine WL.y (hy := lss) (h := ?_)
  refine WL.y (hy := mv) (h := ?_)
  apply brAnd 6 11 17 (by exact rfl)
  · intro hb0
    refine un (h := ?_)
    refine WL.y (hy := mv) (h := ?_)
    refine un (h := ?_)
    refine WL.y (hy := (by first | exact fa | exact faE)) (h := ?_)
    refine un (h := ?_)
    refine WL.y (hy := (by first | exact ld | exact ldE)) (h := ?_)
    refine un (h := ?_)
    refine WL.y (hy := lenS) (h := ?_)
    refine un (h := ?_)
    refine WL.y (hy := lss) (h := ?_)
    refine WL.y (hy := (by first | exact pkT | exact pkF)) (h := ?_)
    exact mg (by repeat (first | exact trivial | refine ⟨rfl, ?_⟩ | refine ⟨by rw [hb0]; rfl, ?_⟩)) (by repeat (first | exact SubL.nil | (apply SubL.cons; (repeat (first | exact At.here | apply At.there))) | exact SubL.refl _ | apply SubL.skip))
  · intro hb0
    repeat (first | refine un (h := ?_) | refine sk (h := ?_) | refine WL.y (hy := pkF) (h := ?_) | refine WL.y (hy := pkT) (h := ?_))
    exact mg (by repeat (first | exact trivial | refine ⟨rfl, ?_⟩ | refine ⟨by rw [hb0]; rfl, ?_⟩)) (by repeat (first | exact SubL.nil | (apply SubL.cons; (repeat (first | exact At.here | apply At.there))) | exact SubL.refl _ | apply SubL.skip))
  refine nl (h := ?_)
  refine q_seq (h := ?_)
  refine cd (by exact rfl) (fun h1 => ?_) (fun h1 => ?_)
  · skip
    have hk2 : (k : Int) < n ∧ (k : Int) < m := by simpa using h1
    have hkn : k < n := by omega
    have hkm : k < m := by omega
    obtain ⟨p, hp⟩ : ∃ p, a.st[k]? = some p := ⟨_, List.getElem?_eq_getElem (by omega)⟩
    obtain ⟨q, hq⟩ : ∃ q, b.st[k]? = some q := ⟨_, List.getElem?_eq_getElem (by omega)⟩
    have hpe := encP_at hp
    have hqe := encP_at hq
    refine skp (h := ?_)
    refine q_seq (h := ?_)
    refine sq (h := ?_)
    refine bk (h := ?_)
    refine sq (h := ?_)
    refine rgD (by kernel_rfl) [(1000000, .blk b0 52 (a.cells A n c)), (1000000, .blk b1 52 (b.cells B m d)), (1000000, .ro A 2 n (encP a.st)), (1000000, .ro B 2 m (encP b.st))] (by repeat (first | exact HS.nil | (apply HS.keep; (repeat (first | exact At.here | apply At.there))) | (apply HS.ro; (repeat (first | exact Rds.ro | exact Rds.own | apply Rds.there))))) (h := ?_)
    refine tk 0 (hy := (by first | exact fa | exact faE)) (h := ?_)
    refine tk 1 (hy := (by first | exact ld | exact ldE)) (h := ?_)
    refine tk 2 (hy := mv) (h := ?_)
    refine tk 3 (hy := ix (A := A) (m := n)) (h := ?_)
    refine tk 4 (hy := ldEA (A := A) (hk := hpe)) (h := ?_)
    refine tk 5 (hy := (by first | exact fa | exact faE)) (h := ?_)
    refine tk 6 (hy := (by first | exact ld | exact ldE)) (h := ?_)
    refine tk 7 (hy := mv) (h := ?_)
    refine tk 8 (hy := ix (A := B) (m := m)) (h := ?_)
    refine tk 9 (hy := ldEA (A := B) (hk := hqe)) (h := ?_)
    refine tk 10 (hy := neqT) (h := ?_)
    refine dn (h := ?_)
    refine q_seq (h := ?_)
    refine cd (by exact rfl) (fun h2 => ?_) (fun h2 => ?_)
    · skip
      have hne : p ≠ q := fun e => by
        have h9 := h2
        rw [decP, e] at h9
        simp at h9
      have hcp : cmpP p q ≠ 0 := fun e => hne (cmpP_zero.1 e)
      have hE : decide (cmpB a b < 0) = decide (cmpP p q < 0) := by rw [cmpB, cmpL_diff htk hp hq hne, orI_of hcp, orI_of hcp]
      refine sq (h := ?_)
      refine rgD (by kernel_rfl) [(1000000, .blk b0 52 (a.cells A n c)), (1000000, .blk b1 52 (b.cells B m d)), (1000000, .ro A 2 n (encP a.st)), (1000000, .ro B 2 m (encP b.st))] (by repeat (first | exact HS.nil | (apply HS.keep; (repeat (first | exact At.here | apply At.there))) | (apply HS.ro; (repeat (first | exact Rds.ro | exact Rds.own | apply Rds.there))))) (h := ?_)
      refine tk 0 (hy := (by first | exact fa | exact faE)) (h := ?_)
      refine tk 1 (hy := (by first | exact ld | exact ldE)) (h := ?_)
      refine tk 2 (hy := mv) (h := ?_)
      refine tk 3 (hy := ix (A := A) (m := n)) (h := ?_)
      refine tk 4 (hy := ldEA (A := A) (hk := hpe)) (h := ?_)
      refine tk 5 (hy := (by first | exact fa | exact faE)) (h := ?_)
      refine tk 6 (hy := (by first | exact ld | exact ldE)) (h := ?_)
      refine tk 7 (hy := mv) (h := ?_)
      refine tk 8 (hy := ix (A := B) (m := m)) (h := ?_)
      refine tk 9 (hy := ldEA (A := B) (hk := hqe)) (h := ?_)
      refine one 10 (h := ?_)
      refine cl0 (hc := fun w hS => C_ref3_lessPair p q w) (h := ?_)
      refine nx (h := ?_)
      refine tk 11 (hy := asg) (h := ?_)
      refine dn (h := ?_)
      refine q_seq (h := ?_)
      refine rtn (h := ?_)
      refine q_blk_ret (h := ?_)
      refine q_then_ret (h := ?_)
      refine q_then_ret (h := ?_)
      refine q_blk_ret (h := ?_)
      refine q_then_ret (h := ?_)
      refine q_ret (hR := ?_)
      rw [hE]
      exact fun w hS => ⟨rfl, hS.sub (by repeat (first | exact SubL.nil | (apply SubL.cons; (repeat (first | exact At.here | apply At.there))) | exact SubL.refl _ | apply SubL.skip))⟩
    · skip
      have hpq : p = q := by
        have h9 := h2
        rw [decP] at h9
        simpa using h9
      refine skp (h := ?_)
      refine q_blk_norm (h := ?_)
      refine q_seq (h := ?_)
      refine rg (h := ?_)
      refine WL.y (hy := mv) (h := ?_)
      refine WL.y (hy := addI) (h := ?_)
      refine WL.y (hy := asg) (h := ?_)
      refine WL.cut (by repeat (first | exact Cut.nil | apply Cut.hit | apply Cut.miss (by exact rfl))) ?_
      refine nl (h := ?_)
      refine rn (x := k) (k + 1) ⟨⟨by omega, by omega⟩, by rw [List.take_add_one, List.take_add_one, hp, hq, htk, hpq]⟩ (by omega) (by repeat (first | exact trivial | refine ⟨rfl, ?_⟩)) (by repeat (first | exact SubL.nil | (apply SubL.cons; (repeat (first | exact At.here | apply At.there))) | exact SubL.refl _ | apply SubL.skip))
  · skip
    have hk2 : ¬ ((k : Int) < n ∧ (k : Int) < m) := by simpa using h1
    refine et (h := ?_)
    refine q_then_exit (h := ?_)
    refine q_then_exit (h := ?_)
    refine q_blk_hit (h := ?_)
    refine q_seq (h := ?_)
    refine sq (h := ?_)
    refine sq (h := ?_)
    refine rg (h := ?_)
    refine WL.y (hy := (by first | exact fa | exact faE)) (h := ?_)
    refine WL.y (hy := (by first | exact ld | exact ldE)) (h := ?_)
    refine WL.y (hy := lenS) (h := ?_)
    refine WL.y (hy := (by first | exact fa | exact faE)) (h := ?_)
    refine WL.y (hy := (by first | exact ld | exact ldE)) (h := ?_)
    refine WL.y (hy := lenS) (h := ?_)
    refine WL.y (hy := neq) (h := ?_)
    refine nl (h := ?_)
    refine q_seq (h := ?_)
    refine cd (by exact rfl) (fun h3 => ?_) (fun h3 => ?_)
    · skip
      have hlm : ¬ n = m := by have h9 := h3; simp only [Bool.not_eq_true', decide_eq_false_iff_not] at h9; omega
      have hen := cmpL_end htk (by omega) (by omega) (by omega) (by omega)
      have hE : decide (cmpB a b < 0) = decide ((n : Int) < m) := by
        rw [cmpB, orI_of hen.2, orI_of hen.2]
        exact decide_eq_decide.2 (hen.1.trans (by rw [hla, hlb]; omega))
      refine sq (h := ?_)
      refine rg (h := ?_)
      refine WL.y (hy := (by first | exact fa | exact faE)) (h := ?_)
      refine WL.y (hy := (by first | exact ld | exact ldE)) (h := ?_)
      refine WL.y (hy := lenS) (h := ?_)
      refine WL.y (hy := (by first | exact fa | exact faE)) (h := ?_)
      refine WL.y (hy := (by first | exact ld | exact ldE)) (h := ?_)
      refine WL.y (hy := lenS) (h := ?_)
      refine WL.y (hy := lss) (h := ?_)
      refine WL.y (hy := asg) (h := ?_)
      refine nl (h := ?_)
      refine q_seq (h := ?_)
      refine rtn (h := ?_)
      refine q_then_ret (h := ?_)
      refine q_ret (hR := ?_)
      rw [hE]
      exact fun w hS => ⟨rfl, hS.sub (by repeat (first | exact SubL.nil | (apply SubL.cons; (repeat (first | exact At.here | apply At.there))) | exact SubL.refl _ | apply SubL.skip))⟩
    · skip
      have hlm : n = m := by have h9 := h3; simp only [Bool.not_eq_false', decide_eq_true_eq] at h9; omega
      have hst : a.st = b.st := by
        have h9 := htk
        rw [List.take_of_length_le (by omega), List.take_of_length_le (by omega)] at h9; exact h9
      refine skp (h := ?_)
      refine q_seq (h := ?_)
      refine sq (h := ?_)
      refine sq (h := ?_)
      refine rg (h := ?_)
      refine WL.y (hy := (by first | exact fa | exact faE)) (h := ?_)
      refine WL.y (hy := (by first | exact ldA | exact ldEA)) (h := ?_)
      refine WL.y (hy := (by first | exact fa | exact faE)) (h := ?_)
      refine WL.y (hy := (by first | exact ldA | exact ldEA)) (h := ?_)
      refine WL.y (hy := neqT) (h := ?_)
      refine nl (h := ?_)
      refine q_seq (h := ?_)
      refine cd (by exact rfl) (fun h4 => ?_) (fun h4 => ?_)
      · skip
        have hne : a.g ≠ b.g := fun e => by
          have h9 := h4
          rw [decP, e] at h9
          simp at h9
        have hE : decide (cmpB a b < 0) = decide (cmpP a.g b.g < 0) := by
          have hcp : cmpP a.g b.g ≠ 0 := fun e => hne (cmpP_zero.1 e)
          rw [cmpB, orI_of0 (cmpL_zero.2 hst), orI_of hcp]
        refine sq (h := ?_)
        refine rg (h := ?_)
        refine WL.y (hy := (by first | exact fa | exact faE)) (h := ?_)
        refine WL.y (hy := (by first | exact ldA | exact ldEA)) (h := ?_)
        refine WL.y (hy := (by first | exact fa | exact faE)) (h := ?_)
        refine WL.y (hy := (by first | exact ldA | exact ldEA)) (h := ?_)
        refine cl0 (hc := fun w hS => C_ref3_lessPair a.g b.g w) (h := ?_)
        refine WL.y (hy := asg) (h := ?_)
        refine nl (h := ?_)
        refine q_seq (h := ?_)
        refine rtn (h := ?_)
        refine q_then_ret (h := ?_)
        refine q_ret (hR := ?_)
        rw [hE]
        exact fun w hS => ⟨rfl, hS.sub (by repeat (first | exact SubL.nil | (apply SubL.cons; (repeat (first | exact At.here | apply At.there))) | exact SubL.refl _ | apply SubL.skip))⟩
      · skip
        have hg : a.g = b.g := by
          have h9 := h4
          rw [decP] at h9
          simpa using h9
        have hE : decide (cmpB a b < 0) = decide (cmpP a.p b.p < 0) := by rw [cmpB, orI_of0 (cmpL_zero.2 hst), orI_of0 (cmpP_zero.2 hg)]
        refine skp (h := ?_)
        refine q_seq (h := ?_)
        refine sq (h := ?_)
        refine rg (h := ?_)
        refine WL.y (hy := (by first | exact fa | exact faE)) (h := ?_)
        refine WL.y (hy := (by first | exact ldA | exact ldEA)) (h := ?_)
        refine WL.y (hy := (by first | exact fa | exact faE)) (h := ?_)
        refine WL.y (hy := (by first | exact ldA | exact ldEA)) (h := ?_)
        refine cl0 (hc := fun w hS => C_ref3_lessPair a.p b.p w) (h := ?_)
        refine WL.y (hy := asg) (h := ?_)
        refine nl (h := ?_)
        refine q_seq (h := ?_)
        refine rtn (h := ?_)
        refine q_ret (hR := ?_)
        rw [hE]
        exact fun w hS => ⟨rfl, hS.sub (by repeat (first | exact SubL.nil | (apply SubL.cons; (repeat (first | exact At.here | apply At.there))) | exact SubL.refl _ | apply SubL.skip))⟩
end Go.Proofs.YtpejgebcmhmpaaaGreat

namespace Go.Proofs.YtpejgebcmhmpaaaGreat
open Go Go.RowKit

def staB (s : StA) : BA := ⟨brdOf (spotOf s.m), s.sA, s.sc⟩
def rowB (x : BA) : Row := ⟨x.A, 2, x.b.st.length, encP x.b.st⟩
structure BxI (f : Fmt) (U : List Row) (ls : List Spot) (zs : List BA) : Prop where
  m : zs.map (·.b) = boardsC ls
  u : ∀ x ∈ zs, rowB x ∈ U ∧ x.b.st.length ≤ 1000000
  len : zs.length ≤ ls.length
theorem BxI.start (f : Fmt) (U : List Row) : BxI f U [] [] := ⟨rfl, fun x hx => (by cases hx), Nat.le_refl _⟩
section
variable {f : Fmt} {U : List Row} {ls : List Spot} {zs : List BA} {K : Int} {y : StA}
theorem BxI.skip (h : BxI f U ls zs) (hm : (staB y).b ∈ zs.map (·.b)) : BxI f U (ls ++ [spotOf y.m]) zs :=
  ⟨by rw [boards_snoc, ← h.m]; unfold insB; exact (if_pos hm).symm, h.u, by rw [List.length_append]; have := h.len; omega⟩
theorem BxI.put (h : BxI f U ls zs) (hm : ¬ (staB y).b ∈ zs.map (·.b)) (hy : StK f K U y) (hn : y.m.st.length ≤ 1000000) : BxI f U (ls ++ [spotOf y.m]) (insK zs (staB y) (atF zs (staB y).b 0)) :=
  ⟨by rw [boards_snoc, ← h.m, insK_map _ _ hm]; rfl, fun x hx => by
    rcases insK_mem hx with hx | rfl
    · exact h.u x hx
    · exact ⟨hy.us, hn⟩, by rw [insK_len _ _ (atF_le _ _ (Nat.zero_le _)).2, List.length_append]; have := h.len; show _ + 1 ≤ _ + 1; omega⟩
end
theorem spots_succ {l : List StA} {k : Nat} {y : StA} (h : l[k]? = some y) : (l.take (k + 1)).map (fun s => spotOf s.m) = (l.take k).map (fun s => spotOf s.m) ++ [spotOf y.m] := by
  rw [List.take_add_one, h, List.map_append]; rfl
structure BrO where
  (zs : List BA) (A : Option Addr) (c : Nat) (U : List Row)
structure BrOk (f : Fmt) (cf : Int) (xs : List Nt) (q : BrO) : Prop where
  no : posE f cf xs ≠ 0 → q.zs = []
  yes : posE f cf xs = 0 → q.zs.map (·.b) = boardsC (keyC (crowdC f cf xs))
  u : ∀ x ∈ q.zs, rowB x ∈ q.U
  len : q.zs.length ≤ 16777216
structure BoZ where
  (k : Nat) (zs : List BA) (A : Option Addr) (c : Nat)
set_option maxRecDepth 100000 in
set_option maxHeartbeats 2000000 in
theorem C_ref3_Boards (f : Fmt) (cf : Int) (xs : List Nt) (A : Option Addr) (n c : Nat) (w : World) (h : Rd w A 4 n (encN xs)) (hn : n ≤ 9223372036854775807) (hsm : chkC f cf xs = 0 → mostS xs ≤ 20) :
    CR Tryz.prog 15 [.agg (cardC f cf A n c).toArray] w (BrOk f cf xs) (fun q => .tuple #[.slice q.A q.zs.length q.c, .int .i64 (posE f cf xs)]) (fun q => [.own q.A q.c 52 5 q.zs.length (encX q.zs), manyE true q.U]) := by
  refine ⟨en Tryz.func15 Tryz.ntmps15 ((St.init w).share (e := .ro A 4 n (encN xs)) h rfl rfl rfl) (h := fun F => ?_)⟩
  refine sq (h := ?_)
  refine rg (h := ?_)
  refine bxA (h := fun b0 => ?_)
  refine WL.y (hy := asg) (h := ?_)
  refine WL.cut (by repeat (first | exact Cut.nil | apply Cut.hit | apply Cut.miss (by exact rfl))) ?_
  refine WL.y (hy := asg) (h := ?_)
  refine WL.cut (by repeat (first | exact Cut.nil | apply Cut.hit | apply Cut.miss (by exact rfl))) ?_
  refine nl (h := ?_)
  refine q_seq (h := ?_)
  refine sq (h := ?_)
  refine rg (h := ?_)
  refine WL.y (hy := (by first | exact ldA | exact ldEA)) (h := ?_)
  refine cl (hc := fun w hS => C_ref3_known f cf xs A n c w (hS.get (by repeat (first | exact Rds.ro | exact Rds.own | apply Rds.there))) hn hsm) (h := fun q hq => ?_)
  refine WL.y (hy := mv) (h := ?_)
  refine WL.y (hy := ex) (h := ?_)
  refine WL.y (hy := ex) (h := ?_)
  refine WL.y (hy := asg) (h := ?_)
  refine WL.y (hy := asg) (h := ?_)
  refine nl (h := ?_)
  refine q_seq (h := ?_)
  refine sq (h := ?_)
  refine sq (h := ?_)
  refine rg (h := ?_)
  refine WL.y (hy := mv) (h := ?_)
  refine WL.y (hy := neq) (h := ?_)
  refine nl (h := ?_)
  refine q_seq (h := ?_)
  refine cd (by exact rfl) (fun h0 => ?_) (fun h0 => ?_)
  · skip
    have hp : ¬ posE f cf xs = 0 := by have g9 := h0; simpa using g9
    refine sq (h := ?_)
    refine rg (h := ?_)
    refine WL.y (hy := mv) (h := ?_)
    refine WL.y (hy := asg) (h := ?_)
    refine WL.cut (by repeat (first | exact Cut.nil | apply Cut.hit | apply Cut.miss (by exact rfl))) ?_
    refine WL.y (hy := asg) (h := ?_)
    refine WL.cut (by repeat (first | exact Cut.nil | apply Cut.hit | apply Cut.miss (by exact rfl))) ?_
    refine nl (h := ?_)
    refine q_seq (h := ?_)
    refine rtn (h := ?_)
    refine q_then_ret (h := ?_)
    refine q_ret (hR := ?_)
    exact fun w hS => ⟨⟨[], none, 0, q.U⟩, ⟨fun _ => rfl, fun g9 => absurd g9 hp, fun x hx => (by cases hx), by simp⟩, rfl, (hS.nilOwn 52 5).sub (by repeat (first | exact SubL.nil | (apply SubL.cons; (repeat (first | exact At.here | apply At.there))) | exact SubL.refl _ | apply SubL.skip))⟩
  · skip
    have hp : posE f cf xs = 0 := by have g9 := h0; simpa using g9
    have hA := hq.yes hp
    have hck := pos_chk hp
    obtain ⟨_, hf, hcf, _, hmk, _⟩ := chk_facts hck
    have hms := hsm hck
    have hql := hA.len hf (crowd_keys _ _ _) (by omega)
    have hks := hA.keys
    refine skp (h := ?_)
    refine q_seq (h := ?_)
    refine sq (h := ?_)
    refine rg (h := ?_)
    refine WL.y (hy := asg) (h := ?_)
    refine WL.cut (by repeat (first | exact Cut.nil | apply Cut.hit | apply Cut.miss (by exact rfl))) ?_
    refine nl (h := ?_)
    refine q_seq (h := ?_)
    refine sq (h := ?_)
    refine sq (h := ?_)
    refine WC.nilOwn 52 5 (h := ?_)
    refine rg (h := ?_)
    refine WL.y (hy := asg) (h := ?_)
    refine WL.cut (by repeat (first | exact Cut.nil | apply Cut.hit | apply Cut.miss (by exact rfl))) ?_
    refine nl (h := ?_)
    refine q_seq (h := ?_)
    refine bk (h := ?_)
    refine lp (X := BoZ) (I := fun z => z.k ≤ q.l.length ∧ BxI f q.U ((q.l.take z.k).map fun s => spotOf s.m) z.zs) (le := fun z => [(4, .slice q.A q.l.length q.c), (6, .slice z.A z.zs.length z.c), (7, .int .i64 z.k)]) (Le := fun z => [.own z.A z.c 52 5 z.zs.length (encX z.zs), .own q.A q.c 91 16 q.l.length (encY q.l), manyE true q.U]) (μ := fun z => q.l.length - z.k) ⟨0, [], none, 0⟩ ⟨Nat.zero_le _, BxI.start f q.U⟩ (by repeat (first | exact trivial | refine ⟨rfl, ?_⟩)) (by repeat (first | exact SubL.nil | (apply SubL.cons; (repeat (first | exact At.here | apply At.there))) | exact SubL.refl _ | apply SubL.skip)) (fun z hz => ?_)
    obtain ⟨hzk, hzB⟩ := hz
    refine sq (h := ?_)
    refine sq (h := ?_)
    refine rg (h := ?_)
    refine WL.y (hy := mv) (h := ?_)
    refine WL.y (hy := mv) (h := ?_)
    refine WL.y (hy := lenS) (h := ?_)
    refine WL.y (hy := lss) (h := ?_)
    refine nl (h := ?_)
    refine q_seq (h := ?_)
    refine cd (by exact rfl) (fun h1 => ?_) (fun h1 => ?_)
    · skip
      have hkn : z.k < q.l.length := by have := of_decide_eq_true h1; omega
      obtain ⟨y, hy⟩ : ∃ y, q.l[z.k]? = some y := ⟨_, List.getElem?_eq_getElem hkn⟩
      have hyk := hA.ok y (List.mem_of_getElem? hy)
      have hyn : y.m.st.length ≤ 1000000 := by have := (hyk.bd hf (by omega)).s; have := hyk.n; omega
      have hzl : z.zs.length ≤ 16777216 := by have := hzB.len; rw [List.length_map, List.length_take] at this; omega
      have hss := spots_succ hy
      refine skp (h := ?_)
      refine q_seq (h := ?_)
      refine sq (h := ?_)
      refine bk (h := ?_)
      refine sq (h := ?_)
      refine rg (h := ?_)
      refine WL.y (hy := mv) (h := ?_)
      refine WL.y (hy := mv) (h := ?_)
      refine WL.y (hy := ix (A := q.A) (m := q.l.length) (hb := by omega)) (h := ?_)
      refine WL.y (hy := (by first | exact fa | exact faE)) (h := ?_)
      refine WL.y (hy := (by first | exact fa | exact faE)) (h := ?_)
      refine WL.y (hy := (by first | exact fa | exact faE)) (h := ?_)
      refine WL.y (hy := ldEA (A := q.A) (k := z.k) (hk := encY_at hy)) (h := ?_)
      refine al (h := fun b1 => ?_)
      first | refine stA (h := ?_) | refine stEA (h := ?_)
      refine nl (h := ?_)
      refine q_seq (h := ?_)
      refine sq (h := ?_)
      refine rg (h := ?_)
      refine WL.y (hy := mv) (h := ?_)
      refine WL.y (hy := lenS) (h := ?_)
      refine WL.y (hy := asg) (h := ?_)
      refine WL.cut (by repeat (first | exact Cut.nil | apply Cut.hit | apply Cut.miss (by exact rfl))) ?_
      refine WL.y (hy := asg) (h := ?_)
      refine WL.cut (by repeat (first | exact Cut.nil | apply Cut.hit | apply Cut.miss (by exact rfl))) ?_
      refine nl (h := ?_)
      refine q_seq (h := ?_)
      refine sq (h := ?_)
      refine sq (h := ?_)
      refine rg (h := ?_)
      refine WL.y (hy := mv) (h := ?_)
      refine WL.y (hy := lenS) (h := ?_)
      refine WL.y (hy := subI (hb := by omega)) (h := ?_)
      refine WL.y (hy := asg) (h := ?_)
      refine WL.cut (by repeat (first | exact Cut.nil | apply Cut.hit | apply Cut.miss (by exact rfl))) ?_
      refine nl (h := ?_)
      refine q_seq (h := ?_)
      refine bk (h := ?_)
      refine lp (X := Nat) (I := fun j => j ≤ z.zs.length) (le := fun j => [(4, .slice q.A q.l.length q.c), (6, .slice z.A z.zs.length z.c), (7, .int .i64 z.k), (8, .pointer (some ⟨b1, 0, none⟩)), (9, .int .i64 (atF z.zs (staB y).b j : Nat)), (10, .bool (smF z.zs (staB y).b j)), (11, .int .i64 ((j : Int) - 1))]) (Le := fun _ => [.blk b1 52 (staB y).cells, .own z.A z.c 52 5 z.zs.length (encX z.zs), .own q.A q.c 91 16 q.l.length (encY q.l), manyE true q.U]) (μ := fun j => j) z.zs.length (Nat.le_refl _) (by repeat (first | exact trivial | refine ⟨rfl, ?_⟩ | refine ⟨by rw [atF_end]; rfl, ?_⟩ | refine ⟨by rw [smF_end]; rfl, ?_⟩)) (by repeat (first | exact SubL.nil | (apply SubL.cons; (repeat (first | exact At.here | apply At.there))) | exact SubL.refl _ | apply SubL.skip)) (fun j hj => ?_)
      refine sq (h := ?_)
      refine sq (h := ?_)
      refine rg (h := ?_)
      refine WL.y (hy := mv) (h := ?_)
      refine WL.y (hy := geq) (h := ?_)
      refine nl (h := ?_)
      refine q_seq (h := ?_)
      refine cd (by exact rfl) (fun h2 => ?_) (fun h2 => ?_)
      · skip
        obtain ⟨i, rfl⟩ : ∃ i, j = i + 1 := ⟨j - 1, by have := of_decide_eq_true h2; omega⟩
        rw [show (((i + 1 : Nat) : Int) - 1) = (i : Int) by omega]
        obtain ⟨o1, ho1⟩ : ∃ x, z.zs[i]? = some x := ⟨_, List.getElem?_eq_getElem (by omega)⟩
        obtain ⟨hou, hol⟩ := hzB.u o1 (List.mem_of_getElem? ho1)
        have hoe := encX_at ho1
        refine skp (h := ?_)
        refine q_seq (h := ?_)
        refine sq (h := ?_)
        refine bk (h := ?_)
        refine sq (h := ?_)
        refine rgD (by kernel_rfl) [(1000000, .own z.A z.c 52 5 z.zs.length (encX z.zs)), (1000000, .blk b1 52 (staB y).cells)] (by repeat (first | exact HS.nil | (apply HS.keep; (repeat (first | exact At.here | apply At.there))) | (apply HS.ro; (repeat (first | exact Rds.ro | exact Rds.own | apply Rds.there))))) (h := ?_)
        refine tk 0 (hy := mv) (h := ?_)
        refine tk 1 (hy := mv) (h := ?_)
        refine brH (g := 44) (by exact rfl) (fun hb3 => ?_) (fun hb3 => ?_)
        · skip
          have hsn : smF z.zs (staB y).b i = true := by rw [smF_step ho1, hb3]; rfl
          refine tkS 2 (h := ?_)
          refine tkS 3 (h := ?_)
          refine tkS 4 (h := ?_)
          refine tkS 5 (h := ?_)
          refine tkS 6 (h := ?_)
          refine tkS 7 (h := ?_)
          refine tk 8 (hy := (by first | exact pkT | exact pkF)) (h := ?_)
          refine tk 9 (hy := asg) (h := ?_)
          refine dn (h := ?_)
          refine q_seq (h := ?_)
          refine sq (h := ?_)
          refine rgD (by kernel_rfl) [(1000000, .own z.A z.c 52 5 z.zs.length (encX z.zs)), (1000000, .blk b1 52 (staB y).cells)] (by repeat (first | exact HS.nil | (apply HS.keep; (repeat (first | exact At.here | apply At.there))) | (apply HS.ro; (repeat (first | exact Rds.ro | exact Rds.own | apply Rds.there))))) (h := ?_)
          refine tk 0 (hy := (by first | exact ldA | exact ldEA)) (h := ?_)
          refine tk 1 (hy := mv) (h := ?_)
          refine tk 2 (hy := mv) (h := ?_)
          refine tk 3 (hy := ix (A := z.A) (m := z.zs.length) (hb := by omega)) (h := ?_)
          refine tk 4 (hy := ldEW (A := z.A) (k := i) (cs := o1.cells) (hk := hoe)) (h := ?_)
          refine one 5 (h := ?_)
          refine cl0 (hc := fun w hS => C_ref3_Less (staB y).b o1.b (staB y).A o1.A (staB y).b.st.length (staB y).c o1.b.st.length o1.c w (hS.many (by repeat (first | exact At.here | apply At.there)) hyk.us) (hS.many (by repeat (first | exact At.here | apply At.there)) hou) (Nat.le_trans hyn (by omega)) (by omega)) (h := ?_)
          refine nx (h := ?_)
          refine dn (h := ?_)
          refine q_seq (h := ?_)
          refine cd (by exact rfl) (fun h4 => ?_) (fun h4 => ?_)
          · skip
            have hat : atF z.zs (staB y).b i = i := by rw [atF_step ho1, h4]; rfl
            refine rg (h := ?_)
            refine WL.y (hy := mv) (h := ?_)
            refine WL.y (hy := asg) (h := ?_)
            refine WL.cut (by repeat (first | exact Cut.nil | apply Cut.hit | apply Cut.miss (by exact rfl))) ?_
            refine nl (h := ?_)
            refine q_blk_norm (h := ?_)
            refine q_seq (h := ?_)
            refine rg (h := ?_)
            refine WL.y (hy := mv) (h := ?_)
            refine WL.y (hy := subI (hb := by omega)) (h := ?_)
            refine WL.y (hy := asg) (h := ?_)
            refine WL.cut (by repeat (first | exact Cut.nil | apply Cut.hit | apply Cut.miss (by exact rfl))) ?_
            refine nl (h := ?_)
            refine rn (x := i + 1) i (by omega) (by omega) (by repeat (first | exact trivial | refine ⟨rfl, ?_⟩ | refine ⟨by rw [hat]; rfl, ?_⟩ | refine ⟨by rw [hsn]; rfl, ?_⟩)) (by repeat (first | exact SubL.nil | (apply SubL.cons; (repeat (first | exact At.here | apply At.there))) | exact SubL.refl _ | apply SubL.skip))
          · skip
            have hat : atF z.zs (staB y).b i = atF z.zs (staB y).b (i + 1) := by rw [atF_step ho1, h4]; rfl
            refine skp (h := ?_)
            refine q_blk_norm (h := ?_)
            refine q_seq (h := ?_)
            refine rg (h := ?_)
            refine WL.y (hy := mv) (h := ?_)
            refine WL.y (hy := subI (hb := by omega)) (h := ?_)
            refine WL.y (hy := asg) (h := ?_)
            refine WL.cut (by repeat (first | exact Cut.nil | apply Cut.hit | apply Cut.miss (by exact rfl))) ?_
            refine nl (h := ?_)
            refine rn (x := i + 1) i (by omega) (by omega) (by repeat (first | exact trivial | refine ⟨rfl, ?_⟩ | refine ⟨by rw [hat]; rfl, ?_⟩ | refine ⟨by rw [hsn]; rfl, ?_⟩)) (by repeat (first | exact SubL.nil | (apply SubL.cons; (repeat (first | exact At.here | apply At.there))) | exact SubL.refl _ | apply SubL.skip))
        · skip
          have hsn : smF z.zs (staB y).b i = decide (o1.b = (staB y).b) := by rw [smF_step ho1, hb3]; rfl
          refine tk 2 (hy := mv) (h := ?_)
          refine tk 3 (hy := mv) (h := ?_)
          refine tk 4 (hy := ix (A := z.A) (m := z.zs.length) (hb := by omega)) (h := ?_)
          refine tk 5 (hy := ldEW (A := z.A) (k := i) (cs := o1.cells) (hk := hoe)) (h := ?_)
          refine tk 6 (hy := (by first | exact ldA | exact ldEA)) (h := ?_)
          refine one 7 (h := ?_)
          refine un (h := ?_)
          refine cl0 (hc := fun w hS => C_ref3_SameBoard o1.b (staB y).b o1.A (staB y).A o1.b.st.length o1.c (staB y).b.st.length (staB y).c w (hS.many (by repeat (first | exact At.here | apply At.there)) hou) (hS.many (by repeat (first | exact At.here | apply At.there)) hyk.us) (by omega) (Nat.le_trans hyn (by omega))) (h := ?_)
          refine nx (h := ?_)
          refine tk 8 (hy := (by first | exact pkT | exact pkF)) (h := ?_)
          refine tk 9 (hy := asg) (h := ?_)
          refine dn (h := ?_)
          refine q_seq (h := ?_)
          refine sq (h := ?_)
          refine rgD (by kernel_rfl) [(1000000, .own z.A z.c 52 5 z.zs.length (encX z.zs)), (1000000, .blk b1 52 (staB y).cells)] (by repeat (first | exact HS.nil | (apply HS.keep; (repeat (first | exact At.here | apply At.there))) | (apply HS.ro; (repeat (first | exact Rds.ro | exact Rds.own | apply Rds.there))))) (h := ?_)
          refine tk 0 (hy := (by first | exact ldA | exact ldEA)) (h := ?_)
          refine tk 1 (hy := mv) (h := ?_)
          refine tk 2 (hy := mv) (h := ?_)
          refine tk 3 (hy := ix (A := z.A) (m := z.zs.length) (hb := by omega)) (h := ?_)
          refine tk 4 (hy := ldEW (A := z.A) (k := i) (cs := o1.cells) (hk := hoe)) (h := ?_)
          refine one 5 (h := ?_)
          refine cl0 (hc := fun w hS => C_ref3_Less (staB y).b o1.b (staB y).A o1.A (staB y).b.st.length (staB y).c o1.b.st.length o1.c w (hS.many (by repeat (first | exact At.here | apply At.there)) hyk.us) (hS.many (by repeat (first | exact At.here | apply At.there)) hou) (Nat.le_trans hyn (by omega)) (by omega)) (h := ?_)
          refine nx (h := ?_)
          refine dn (h := ?_)
          refine q_seq (h := ?_)
          refine cd (by exact rfl) (fun h5 => ?_) (fun h5 => ?_)
          · skip
            have hat : atF z.zs (staB y).b i = i := by rw [atF_step ho1, h5]; rfl
            refine rg (h := ?_)
            refine WL.y (hy := mv) (h := ?_)
            refine WL.y (hy := asg) (h := ?_)
            refine WL.cut (by repeat (first | exact Cut.nil | apply Cut.hit | apply Cut.miss (by exact rfl))) ?_
            refine nl (h := ?_)
            refine q_blk_norm (h := ?_)
            refine q_seq (h := ?_)
            refine rg (h := ?_)
            refine WL.y (hy := mv) (h := ?_)
            refine WL.y (hy := subI (hb := by omega)) (h := ?_)
            refine WL.y (hy := asg) (h := ?_)
            refine WL.cut (by repeat (first | exact Cut.nil | apply Cut.hit | apply Cut.miss (by exact rfl))) ?_
            refine nl (h := ?_)
            refine rn (x := i + 1) i (by omega) (by omega) (by repeat (first | exact trivial | refine ⟨rfl, ?_⟩ | refine ⟨by rw [hat]; rfl, ?_⟩ | refine ⟨by rw [hsn]; rfl, ?_⟩)) (by repeat (first | exact SubL.nil | (apply SubL.cons; (repeat (first | exact At.here | apply At.there))) | exact SubL.refl _ | apply SubL.skip))
          · skip
            have hat : atF z.zs (staB y).b i = atF z.zs (staB y).b (i + 1) := by rw [atF_step ho1, h5]; rfl
            refine skp (h := ?_)
            refine q_blk_norm (h := ?_)
            refine q_seq (h := ?_)
            refine rg (h := ?_)
            refine WL.y (hy := mv) (h := ?_)
            refine WL.y (hy := subI (hb := by omega)) (h := ?_)
            refine WL.y (hy := asg) (h := ?_)
            refine WL.cut (by repeat (first | exact Cut.nil | apply Cut.hit | apply Cut.miss (by exact rfl))) ?_
            refine nl (h := ?_)
            refine rn (x := i + 1) i (by omega) (by omega) (by repeat (first | exact trivial | refine ⟨rfl, ?_⟩ | refine ⟨by rw [hat]; rfl, ?_⟩ | refine ⟨by rw [hsn]; rfl, ?_⟩)) (by repeat (first | exact SubL.nil | (apply SubL.cons; (repeat (first | exact At.here | apply At.there))) | exact SubL.refl _ | apply SubL.skip))
      · skip
        obtain rfl : j = 0 := by have := of_decide_eq_false h2; omega
        have hle := atF_le z.zs (staB y).b (Nat.zero_le _)
        refine et (h := ?_)
        refine q_then_exit (h := ?_)
        refine q_then_exit (h := ?_)
        refine q_blk_hit (h := ?_)
        refine q_seq (h := ?_)
        refine sq (h := ?_)
        refine rg (h := ?_)
        refine WL.y (hy := mv) (h := ?_)
        refine WL.y (hy := notB) (h := ?_)
        refine nl (h := ?_)
        refine q_seq (h := ?_)
        refine cd (by exact rfl) (fun h6 => ?_) (fun h6 => ?_)
        · skip
          have hno : ¬ (staB y).b ∈ z.zs.map (·.b) := fun g9 => by
            have g8 := (smF_mem z.zs (staB y).b).2 g9
            have g7 := h6
            rw [g8] at g7; cases g7
          have hput := hzB.put hno hyk hyn
          rw [← hss] at hput
          refine sq (h := ?_)
          refine rg (h := ?_)
          refine WL.y (hy := mv) (h := ?_)
          refine WL.y (hy := (by first | exact ldA | exact ldEA)) (h := ?_)
          refine bs (h := fun b2 => ?_)
          refine ap (es := encX z.zs) (m := z.zs.length) (k := 1) (A := z.A) (c := z.c) (es2 := [(staB y).cells]) (h := fun A1 c1 => ?_)
          rw [show encX z.zs ++ [(staB y).cells] = encX (insK z.zs (staB y) z.zs.length) by rw [insK_end]; unfold encX; rw [List.map_append]; rfl]
          refine WL.y (hy := asg) (h := ?_)
          refine WL.cut (by repeat (first | exact Cut.nil | apply Cut.hit | apply Cut.miss (by exact rfl))) ?_
          refine nl (h := ?_)
          refine q_seq (h := ?_)
          refine sq (h := ?_)
          refine rg (h := ?_)
          refine WL.y (hy := mv) (h := ?_)
          refine WL.y (hy := lenS) (h := ?_)
          refine WL.y (hy := subI (hb := by omega)) (h := ?_)
          rw [show (((z.zs.length + 1 : Nat) : Int) - 1) = (z.zs.length : Int) by omega]
          refine WL.y (hy := asg) (h := ?_)
          refine WL.cut (by repeat (first | exact Cut.nil | apply Cut.hit | apply Cut.miss (by exact rfl))) ?_
          refine nl (h := ?_)
          refine q_seq (h := ?_)
          refine bk (h := ?_)
          refine lp (X := Nat) (I := fun j => atF z.zs (staB y).b 0 ≤ j ∧ j ≤ z.zs.length) (le := fun j => [(4, .slice q.A q.l.length q.c), (6, .slice A1 (z.zs.length + 1) c1), (7, .int .i64 z.k), (9, .int .i64 (atF z.zs (staB y).b 0 : Nat)), (12, .int .i64 j)]) (Le := fun j => [.own A1 c1 52 5 (z.zs.length + 1) (encX (insK z.zs (staB y) j)), .own q.A q.c 91 16 q.l.length (encY q.l), manyE true q.U]) (μ := fun j => j) z.zs.length ⟨hle.2, Nat.le_refl _⟩ (by repeat (first | exact trivial | refine ⟨rfl, ?_⟩)) (by repeat (first | exact SubL.nil | (apply SubL.cons; (repeat (first | exact At.here | apply At.there))) | exact SubL.refl _ | apply SubL.skip)) (fun j hj => ?_)
          refine sq (h := ?_)
          refine sq (h := ?_)
          refine rg (h := ?_)
          refine WL.y (hy := mv) (h := ?_)
          refine WL.y (hy := mv) (h := ?_)
          refine WL.y (hy := gtr) (h := ?_)
          refine nl (h := ?_)
          refine q_seq (h := ?_)
          refine cd (by exact rfl) (fun h7 => ?_) (fun h7 => ?_)
          · skip
            obtain ⟨i, rfl⟩ : ∃ i, j = i + 1 := ⟨j - 1, by have := of_decide_eq_true h7; omega⟩
            have hgi := of_decide_eq_true h7
            obtain ⟨o1, ho1⟩ : ∃ x, z.zs[i]? = some x := ⟨_, List.getElem?_eq_getElem (by omega)⟩
            obtain ⟨hw1, hw2, hw3⟩ := insK_swap (x := staB y) ho1
            have hi1 : (((i + 1 : Nat) : Int) - 1).toNat = i := by omega
            have hk0 : (encX (insK z.zs (staB y) (i + 1)))[(((i + 1 : Nat) : Int) - 1).toNat]? = some o1.cells := by rw [hi1]; exact encX_at hw2
            have hk1 : (encX (insK z.zs (staB y) (i + 1)))[(((i + 1 : Nat) : Int)).toNat]? = some (staB y).cells := encX_at hw1
            have hsw : ((encX (insK z.zs (staB y) (i + 1))).set (((i + 1 : Nat) : Int)).toNat o1.cells).set (((i + 1 : Nat) : Int) - 1).toNat (staB y).cells = encX (insK z.zs (staB y) i) := by
              rw [hi1]
              show ((encX _).set (i + 1) o1.cells).set i (staB y).cells = _
              rw [encX_set, encX_set, hw3]
            refine skp (h := ?_)
            refine q_seq (h := ?_)
            refine sq (h := ?_)
            refine bk (h := ?_)
            refine WC.some_ (A := A1) (by repeat (first | exact At.here | apply At.there)) (by omega) (fun hAs => ?_)
            refine rgD (by kernel_rfl) [(15, .own A1 c1 52 5 (z.zs.length + 1) (encX (insK z.zs (staB y) (i + 1))))] (by repeat (first | exact HS.nil | (apply HS.keep; (repeat (first | exact At.here | apply At.there))) | (apply HS.ro; (repeat (first | exact Rds.ro | exact Rds.own | apply Rds.there))))) (h := ?_)
            refine tk 0 (hy := mv) (h := ?_)
            refine tk 1 (hy := mv) (h := ?_)
            refine tk 2 (hy := mv) (h := ?_)
            refine tk 3 (hy := mv) (h := ?_)
            refine tk 4 (hy := subI (hb := by omega)) (h := ?_)
            refine tk 5 (hy := mv) (h := ?_)
            refine tk 6 (hy := mv) (h := ?_)
            refine tk 7 (hy := subI (hb := by omega)) (h := ?_)
            refine tk 8 (hy := ix (A := A1) (m := z.zs.length + 1) (hb := by omega)) (h := ?_)
            refine tk 9 (hy := ldEW (A := A1) (cs := o1.cells) (hk := hk0)) (h := ?_)
            refine tk 10 (hy := mv) (h := ?_)
            refine tk 11 (hy := mv) (h := ?_)
            refine tk 12 (hy := ixS (A := A1) (m := z.zs.length + 1) (hs := hAs) (hb := by omega)) (h := ?_)
            refine tk 13 (hy := ldEW (A := A1) (cs := (staB y).cells) (hk := hk1)) (h := ?_)
            refine tk 14 (hy := ix (A := A1) (m := z.zs.length + 1) (hb := by omega)) (h := ?_)
            refine one 15 (h := ?_)
            refine stEW (A := A1) (vs := o1.cells) (hk := by omega) (h := ?_)
            refine nx (h := ?_)
            refine one 16 (h := ?_)
            refine WL.y (hy := ix (A := A1) (m := z.zs.length + 1) (hb := by omega)) (h := ?_)
            refine nx (h := ?_)
            refine one 17 (h := ?_)
            refine stEW (A := A1) (vs := (staB y).cells) (hk := by omega) (h := ?_)
            rw [hsw]
            refine nx (h := ?_)
            refine dn (h := ?_)
            refine q_blk_norm (h := ?_)
            refine q_seq (h := ?_)
            refine rg (h := ?_)
            refine WL.y (hy := mv) (h := ?_)
            refine WL.y (hy := subI (hb := by omega)) (h := ?_)
            refine WL.y (hy := asg) (h := ?_)
            refine WL.cut (by repeat (first | exact Cut.nil | apply Cut.hit | apply Cut.miss (by exact rfl))) ?_
            refine nl (h := ?_)
            refine rn (x := i + 1) i ⟨by omega, by omega⟩ (by omega) (by repeat (first | exact trivial | refine ⟨rfl, ?_⟩ | refine ⟨by show some (Value.int .i64 (((i + 1 : Nat) : Int) - 1)) = some (Value.int .i64 (i : Int)); congr 2; omega, ?_⟩)) (by repeat (first | exact SubL.nil | (apply SubL.cons; (repeat (first | exact At.here | apply At.there))) | exact SubL.refl _ | apply SubL.skip))
          · skip
            have hja : j = atF z.zs (staB y).b 0 := by have := of_decide_eq_false h7; omega
            rw [hja, show z.zs.length + 1 = (insK z.zs (staB y) (atF z.zs (staB y).b 0)).length from (insK_len _ _ hle.2).symm]
            refine et (h := ?_)
            refine q_then_exit (h := ?_)
            refine q_then_exit (h := ?_)
            refine q_blk_hit (h := ?_)
            refine q_blk_norm (h := ?_)
            refine q_seq (h := ?_)
            refine rg (h := ?_)
            refine WL.y (hy := mv) (h := ?_)
            refine WL.y (hy := addI) (h := ?_)
            refine WL.y (hy := asg) (h := ?_)
            refine WL.cut (by repeat (first | exact Cut.nil | apply Cut.hit | apply Cut.miss (by exact rfl))) ?_
            refine nl (h := ?_)
            first
              | (refine rn (x := z) ⟨z.k + 1, insK z.zs (staB y) (atF z.zs (staB y).b 0), A1, c1⟩ ⟨hkn, hput⟩ (by dsimp only; omega) (by repeat (first | exact trivial | refine ⟨rfl, ?_⟩)) (by repeat (first | exact SubL.nil | (apply SubL.cons; (repeat (first | exact At.here | apply At.there))) | exact SubL.refl _ | apply SubL.skip)); done)
              | (refine rn (x := z) ⟨z.k + 1, z.zs, z.A, z.c⟩ ⟨hkn, hput⟩ (by dsimp only; omega) (by repeat (first | exact trivial | refine ⟨rfl, ?_⟩)) (by repeat (first | exact SubL.nil | (apply SubL.cons; (repeat (first | exact At.here | apply At.there))) | exact SubL.refl _ | apply SubL.skip)); done)
        · skip
          have hyes : (staB y).b ∈ z.zs.map (·.b) := (smF_mem z.zs (staB y).b).1 (by have g9 := h6; simpa using g9)
          have hput := hzB.skip hyes
          rw [← hss] at hput
          refine skp (h := ?_)
          refine q_blk_norm (h := ?_)
          refine q_seq (h := ?_)
          refine rg (h := ?_)
          refine WL.y (hy := mv) (h := ?_)
          refine WL.y (hy := addI) (h := ?_)
          refine WL.y (hy := asg) (h := ?_)
          refine WL.cut (by repeat (first | exact Cut.nil | apply Cut.hit | apply Cut.miss (by exact rfl))) ?_
          refine nl (h := ?_)
          first
            | (refine rn (x := z) ⟨z.k + 1, insK z.zs (staB y) (atF z.zs (staB y).b 0), A1, c1⟩ ⟨hkn, hput⟩ (by dsimp only; omega) (by repeat (first | exact trivial | refine ⟨rfl, ?_⟩)) (by repeat (first | exact SubL.nil | (apply SubL.cons; (repeat (first | exact At.here | apply At.there))) | exact SubL.refl _ | apply SubL.skip)); done)
            | (refine rn (x := z) ⟨z.k + 1, z.zs, z.A, z.c⟩ ⟨hkn, hput⟩ (by dsimp only; omega) (by repeat (first | exact trivial | refine ⟨rfl, ?_⟩)) (by repeat (first | exact SubL.nil | (apply SubL.cons; (repeat (first | exact At.here | apply At.there))) | exact SubL.refl _ | apply SubL.skip)); done)
    · skip
      have hkn : z.k = q.l.length := by have := of_decide_eq_false h1; omega
      rw [hkn, List.take_length, ← hks] at hzB
      have hzl : z.zs.length ≤ 16777216 := by have := hzB.len; unfold keyC at this; rw [List.length_map, hA.num] at this; omega
      refine et (h := ?_)
      refine q_then_exit (h := ?_)
      refine q_then_exit (h := ?_)
      refine q_blk_hit (h := ?_)
      refine q_seq (h := ?_)
      refine sq (h := ?_)
      refine rg (h := ?_)
      refine WL.y (hy := mv) (h := ?_)
      refine WL.y (hy := asg) (h := ?_)
      refine WL.cut (by repeat (first | exact Cut.nil | apply Cut.hit | apply Cut.miss (by exact rfl))) ?_
      refine WL.y (hy := asg) (h := ?_)
      refine WL.cut (by repeat (first | exact Cut.nil | apply Cut.hit | apply Cut.miss (by exact rfl))) ?_
      refine nl (h := ?_)
      refine q_seq (h := ?_)
      refine rtn (h := ?_)
      refine q_ret (hR := ?_)
      rw [hp]
      exact fun w hS => ⟨⟨z.zs, z.A, z.c, q.U⟩, ⟨fun g9 => absurd hp g9, fun _ => hzB.m, fun x hx => (hzB.u x hx).1, hzl⟩, rfl, hS.sub (by repeat (first | exact SubL.nil | (apply SubL.cons; (repeat (first | exact At.here | apply At.there))) | exact SubL.refl _ | apply SubL.skip))⟩
end Go.Proofs.YtpejgebcmhmpaaaGreat

namespace Go.Proofs.YtpejgebcmhmpaaaGreat
open Go Go.RowKit

theorem C_card_BoardsU (f : Fmt) (cf : Int) (xs : List Nt) (A : Option Addr) (n c : Nat) (w : World) (h : Rd w A 4 n (encN xs)) (hn : n ≤ 9223372036854775807) (hsm : chkC f cf xs = 0 → mostS xs ≤ 400) (hbig : chkC f cf xs = 0 → (crowdC f cf xs).length ≤ 4194304) :
    CR Tryz.prog 14 [.agg (cardC f cf A n c).toArray] w (BtOk f cf xs) (fun q => .tuple #[.slice q.A q.zs.length q.c, .int .i64 (posE f cf xs)]) (fun q => [.own q.A q.c 52 5 q.zs.length (encX q.zs), manyE true (q.zs.map rowX)]) := by
  refine ⟨Calls.mono (C_card_BoardsC f cf xs A n c w h hn hsm hbig).out fun e w' ⟨o, ho, he, hs⟩ => ?_⟩
  cases o with
  | none => exact ⟨⟨[], none, 0⟩, ⟨fun _ => rfl, fun h0 => absurd h0 ho, fun x hx => (by cases hx), Nat.zero_le _⟩, he, (St.many0 hs).nilOwn _ _⟩
  | some q => exact ⟨q, ⟨fun h0 => absurd ho.1 h0, fun _ => ho.2.1, ho.2.2.1, ho.2.2.2⟩, he, hs⟩
theorem both_brds {f : Fmt} {cf : Int} {xs : List Nt} {qa : BDR} {qb : BrO} (ha : BtOk f cf xs qa) (hb : BrOk f cf xs qb) : qa.zs.map (·.b) = qb.zs.map (·.b) := by
  by_cases e : posE f cf xs = 0
  · rw [ha.yes e, hb.yes e]
  · rw [ha.no e, hb.no e]
theorem both_sm {f : Fmt} {cf : Int} {xs : List Nt} {qa : BDR} {qb : BrO} (ha : BtOk f cf xs qa) (hb : BrOk f cf xs qb) : ∀ x ∈ qb.zs, BrdSm x.b := fun x hx => by
  have h1 : x.b ∈ qa.zs.map (·.b) := by rw [both_brds ha hb]; exact List.mem_map.2 ⟨x, hx, rfl⟩
  obtain ⟨y, hy, e⟩ := List.mem_map.1 h1
  rw [← e]; exact ha.sm y hy
instance flNote : FlatTy Tryz.prog 45 [false, false, false, false] := ⟨by kernel_rfl, by kernel_rfl, by kernel_rfl⟩
set_option maxRecDepth 100000 in
theorem K_CardBoards (f : Fmt) (cf : Int) (xs : List Nt) (A : Option Addr) (n c : Nat) (w : World) (h : Rd w A 4 n (encN xs)) (hn : n ≤ 9223372036854775807) : C0 Tryz.prog 3 [.agg (cardC f cf A n c).toArray] w (.bool true) := by
  have hlen : xs.length = n := by have := h.len; rwa [encN_len] at this
  refine ⟨en Tryz.func3 Tryz.ntmps3 ((St.init w).share (e := .ro A 4 n (encN xs)) h rfl rfl rfl) (h := fun F => ?_)⟩
  refine sq (h := ?_)
  refine rg (h := ?_)
  refine bxA (h := fun b0 => ?_)
  refine WL.y (hy := asg) (h := ?_)
  refine WL.cut (by repeat (first | exact Cut.nil | apply Cut.hit | apply Cut.miss (by exact rfl))) ?_
  refine nl (h := ?_)
  refine q_seq (h := ?_)
  refine sq (h := ?_)
  refine sq (h := ?_)
  refine rg (h := ?_)
  refine WL.y (hy := (by first | exact ldA | exact ldEA)) (h := ?_)
  refine cl0 (hc := fun w hS => C_law3_Far f cf xs A n c w (hS.get (by repeat (first | exact Rds.ro | exact Rds.own | apply Rds.there))) hn) (h := ?_)
  refine nl (h := ?_)
  refine q_seq (h := ?_)
  refine cd (by exact rfl) (fun h0 => ?_) (fun h0 => ?_)
  · skip
    refine sq (h := ?_)
    refine rg (h := ?_)
    refine cl0 (hc := fun w hS => C_law3_works w) (h := ?_)
    refine WL.y (hy := asg) (h := ?_)
    refine WL.cut (by repeat (first | exact Cut.nil | apply Cut.hit | apply Cut.miss (by exact rfl))) ?_
    refine nl (h := ?_)
    refine q_seq (h := ?_)
    refine rtn (h := ?_)
    refine q_then_ret (h := ?_)
    refine q_ret (hR := ?_)
    exact fun w hS => ⟨rfl, hS.sub (by repeat (first | exact SubL.nil | (apply SubL.cons; (repeat (first | exact At.here | apply At.there))) | exact SubL.refl _ | apply SubL.skip))⟩
  · skip
    have hF := far_facts h0
    refine skp (h := ?_)
    refine q_seq (h := ?_)
    refine sq (h := ?_)
    refine rg (h := ?_)
    refine WL.y (hy := (by first | exact ldA | exact ldEA)) (h := ?_)
    refine cl (hc := fun w hS => C_ref3_Copy f cf xs A n c w (hS.get (by repeat (first | exact Rds.ro | exact Rds.own | apply Rds.there))) (by have := hF.1; omega)) (h := fun q _ => ?_)
    refine al (h := fun b1 => ?_)
    first | refine stA (h := ?_) | refine stEA (h := ?_)
    refine nl (h := ?_)
    refine q_seq (h := ?_)
    refine sq (h := ?_)
    refine sq (h := ?_)
    refine rgD0 (by kernel_rfl) (h := ?_)
    refine tk 0 (hy := (by first | exact ldA | exact ldEA)) (h := ?_)
    refine tk 2 (hy := (by first | exact ldA | exact ldEA)) (h := ?_)
    refine one 1 (h := ?_)
    refine cl0 (hc := fun w hS => C_card_Check f cf xs q.1 n q.2 w (hS.get (by repeat (first | exact Rds.ro | exact Rds.own | apply Rds.there))) hn) (h := ?_)
    refine nx (h := ?_)
    refine one 3 (h := ?_)
    refine cl0 (hc := fun w hS => C_ref3_Check f cf xs A n c w (hS.get (by repeat (first | exact Rds.ro | exact Rds.own | apply Rds.there))) hn) (h := ?_)
    refine nx (h := ?_)
    refine tk 4 (hy := neq) (h := ?_)
    refine dn (h := ?_)
    refine q_seq (h := ?_)
    refine cd (by exact rfl) (fun h1 => ?_) (fun h1 => ?_)
    · skip
      have h0 := h1
      simp at h0
    · skip
      refine skp (h := ?_)
      refine q_seq (h := ?_)
      refine sq (h := ?_)
      refine rg (h := ?_)
      refine WL.y (hy := (by first | exact ldA | exact ldEA)) (h := ?_)
      refine cl0 (hc := fun w hS => C_card_First f cf xs q.1 n q.2 w (hS.get (by repeat (first | exact Rds.ro | exact Rds.own | apply Rds.there))) hn (fun hc => by have := (hF.2 hc).m; omega)) (h := ?_)
      refine WL.y (hy := mv) (h := ?_)
      refine WL.y (hy := ex) (h := ?_)
      refine WL.y (hy := ex) (h := ?_)
      refine WL.y (hy := asg) (h := ?_)
      refine WL.y (hy := asg) (h := ?_)
      refine nl (h := ?_)
      refine q_seq (h := ?_)
      refine sq (h := ?_)
      refine rg (h := ?_)
      refine WL.y (hy := (by first | exact ldA | exact ldEA)) (h := ?_)
      refine cl0 (hc := fun w hS => C_ref3_First f cf xs A n c w (hS.get (by repeat (first | exact Rds.ro | exact Rds.own | apply Rds.there))) hn (fun hc => (hF.2 hc).m)) (h := ?_)
      refine WL.y (hy := mv) (h := ?_)
      refine WL.y (hy := ex) (h := ?_)
      refine WL.y (hy := ex) (h := ?_)
      refine WL.y (hy := asg) (h := ?_)
      refine WL.y (hy := asg) (h := ?_)
      refine nl (h := ?_)
      refine q_seq (h := ?_)
      refine sq (h := ?_)
      refine rg (h := ?_)
      refine WL.y (hy := (by first | exact ldA | exact ldEA)) (h := ?_)
      refine cl (hc := fun w hS => C_card_BoardsU f cf xs q.1 n q.2 w (hS.get (by repeat (first | exact Rds.ro | exact Rds.own | apply Rds.there))) hn (fun hc => by have := (hF.2 hc).m; omega) (fun hc => (hF.2 hc).b)) (h := fun qa hqa => ?_)
      refine WL.y (hy := mv) (h := ?_)
      refine WL.y (hy := ex) (h := ?_)
      refine WL.y (hy := ex) (h := ?_)
      refine WL.y (hy := asg) (h := ?_)
      refine WL.y (hy := asg) (h := ?_)
      refine nl (h := ?_)
      refine q_seq (h := ?_)
      refine sq (h := ?_)
      refine rg (h := ?_)
      refine WL.y (hy := (by first | exact ldA | exact ldEA)) (h := ?_)
      refine cl (hc := fun w hS => C_ref3_Boards f cf xs A n c w (hS.get (by repeat (first | exact Rds.ro | exact Rds.own | apply Rds.there))) hn (fun hc => (hF.2 hc).m)) (h := fun qb hqb => ?_)
      refine WL.y (hy := mv) (h := ?_)
      refine WL.y (hy := ex) (h := ?_)
      refine WL.y (hy := ex) (h := ?_)
      refine WL.y (hy := asg) (h := ?_)
      refine WL.y (hy := asg) (h := ?_)
      refine nl (h := ?_)
      refine q_seq (h := ?_)
      refine sq (h := ?_)
      refine rg (h := ?_)
      refine WL.y (hy := (by first | exact ldA | exact ldEA)) (h := ?_)
      refine cl0 (hc := fun w hS => C_card_Count f cf xs q.1 n q.2 w (hS.get (by repeat (first | exact Rds.ro | exact Rds.own | apply Rds.there))) hn (fun hc => by have := (hF.2 hc).m; omega)) (h := ?_)
      refine WL.y (hy := mv) (h := ?_)
      refine WL.y (hy := ex) (h := ?_)
      refine WL.y (hy := ex) (h := ?_)
      refine al (h := fun b2 => ?_)
      first | refine stA (h := ?_) | refine stEA (h := ?_)
      refine WL.y (hy := asg) (h := ?_)
      refine nl (h := ?_)
      refine q_seq (h := ?_)
      refine sq (h := ?_)
      refine rg (h := ?_)
      refine WL.y (hy := (by first | exact ldA | exact ldEA)) (h := ?_)
      refine cl0 (hc := fun w hS => C_ref3_Count f cf xs A n c w (hS.get (by repeat (first | exact Rds.ro | exact Rds.own | apply Rds.there))) hn (fun hc => (hF.2 hc).m)) (h := ?_)
      refine WL.y (hy := mv) (h := ?_)
      refine WL.y (hy := ex) (h := ?_)
      refine WL.y (hy := ex) (h := ?_)
      refine al (h := fun b3 => ?_)
      first | refine stA (h := ?_) | refine stEA (h := ?_)
      refine WL.y (hy := asg) (h := ?_)
      refine nl (h := ?_)
      refine q_seq (h := ?_)
      refine sq (h := ?_)
      refine sq (h := ?_)
      refine rg (h := ?_)
      refine WL.y (hy := mv) (h := ?_)
      refine WL.y (hy := mv) (h := ?_)
      refine WL.y (hy := neq) (h := ?_)
      refine WL.y (hy := mv) (h := ?_)
      apply brOr 4 60 64 (by exact rfl)
      · intro hb2
        refine un (h := ?_)
        refine WL.y (hy := mv) (h := ?_)
        refine un (h := ?_)
        refine WL.y (hy := mv) (h := ?_)
        refine un (h := ?_)
        refine WL.y (hy := neq) (h := ?_)
        refine WL.y (hy := (by first | exact pkT | exact pkF)) (h := ?_)
        exact mg (by repeat (first | exact trivial | refine ⟨rfl, ?_⟩ | refine ⟨by rw [hb2]; rfl, ?_⟩)) (by repeat (first | exact SubL.nil | (apply SubL.cons; (repeat (first | exact At.here | apply At.there))) | exact SubL.refl _ | apply SubL.skip))
      · intro hb2
        repeat (first | refine un (h := ?_) | refine sk (h := ?_) | refine WL.y (hy := pkF) (h := ?_) | refine WL.y (hy := pkT) (h := ?_))
        exact mg (by repeat (first | exact trivial | refine ⟨rfl, ?_⟩ | refine ⟨by rw [hb2]; rfl, ?_⟩)) (by repeat (first | exact SubL.nil | (apply SubL.cons; (repeat (first | exact At.here | apply At.there))) | exact SubL.refl _ | apply SubL.skip))
      refine WL.y (hy := mv) (h := ?_)
      apply brOr 5 65 70 (by exact rfl)
      · intro hb3
        refine un (h := ?_)
        refine WL.y (hy := mv) (h := ?_)
        refine un (h := ?_)
        refine WL.y (hy := mv) (h := ?_)
        refine un (h := ?_)
        refine cl0 (hc := fun w hS => C_law3_sameBoards qa.zs qb.zs qa.A qb.A qa.zs.length qb.zs.length qa.c qb.c w (hS.get (by repeat (first | exact Rds.ro | exact Rds.own | apply Rds.there))) (hS.get (by repeat (first | exact Rds.ro | exact Rds.own | apply Rds.there))) (fun y hy => many_ok hy w (hS.ok _ (by repeat (first | exact List.mem_cons_self | apply List.mem_cons_of_mem)))) (fun y hy => hS.many (by repeat (first | exact At.here | apply At.there)) (hqb.u y hy)) hqa.sm (both_sm hqa hqb) (by have := hqa.len; omega) (by have := hqb.len; omega)) (h := ?_)
        rw [decide_eq_true (both_brds hqa hqb)]
        refine un (h := ?_)
        refine WL.y (hy := notB) (h := ?_)
        refine WL.y (hy := (by first | exact pkT | exact pkF)) (h := ?_)
        exact mg (by repeat (first | exact trivial | refine ⟨rfl, ?_⟩ | refine ⟨by rw [hb3]; rfl, ?_⟩)) (by repeat (first | exact SubL.nil | (apply SubL.cons; (repeat (first | exact At.here | apply At.there))) | exact SubL.refl _ | apply SubL.skip))
      · intro hb3
        repeat (first | refine un (h := ?_) | refine sk (h := ?_) | refine WL.y (hy := pkF) (h := ?_) | refine WL.y (hy := pkT) (h := ?_))
        exact mg (by repeat (first | exact trivial | refine ⟨rfl, ?_⟩ | refine ⟨by rw [hb3]; rfl, ?_⟩)) (by repeat (first | exact SubL.nil | (apply SubL.cons; (repeat (first | exact At.here | apply At.there))) | exact SubL.refl _ | apply SubL.skip))
      refine WL.y (hy := mv) (h := ?_)
      apply brOr 4 71 75 (by exact rfl)
      · intro hb4
        refine un (h := ?_)
        refine WL.y (hy := mv) (h := ?_)
        refine un (h := ?_)
        refine WL.y (hy := mv) (h := ?_)
        refine un (h := ?_)
        refine WL.y (hy := neq) (h := ?_)
        refine WL.y (hy := (by first | exact pkT | exact pkF)) (h := ?_)
        exact mg (by repeat (first | exact trivial | refine ⟨rfl, ?_⟩ | refine ⟨by rw [hb4]; rfl, ?_⟩)) (by repeat (first | exact SubL.nil | (apply SubL.cons; (repeat (first | exact At.here | apply At.there))) | exact SubL.refl _ | apply SubL.skip))
      · intro hb4
        repeat (first | refine un (h := ?_) | refine sk (h := ?_) | refine WL.y (hy := pkF) (h := ?_) | refine WL.y (hy := pkT) (h := ?_))
        exact mg (by repeat (first | exact trivial | refine ⟨rfl, ?_⟩ | refine ⟨by rw [hb4]; rfl, ?_⟩)) (by repeat (first | exact SubL.nil | (apply SubL.cons; (repeat (first | exact At.here | apply At.there))) | exact SubL.refl _ | apply SubL.skip))
      refine WL.y (hy := mv) (h := ?_)
      apply brOr 4 76 80 (by exact rfl)
      · intro hb5
        refine un (h := ?_)
        refine WL.y (hy := (by first | exact ldA | exact ldEA)) (h := ?_)
        refine un (h := ?_)
        refine WL.y (hy := (by first | exact ldA | exact ldEA)) (h := ?_)
        refine un (h := ?_)
        refine WL.y (hy := neqT) (h := ?_)
        refine WL.y (hy := (by first | exact pkT | exact pkF)) (h := ?_)
        exact mg (by repeat (first | exact trivial | refine ⟨rfl, ?_⟩ | refine ⟨by rw [hb5]; rfl, ?_⟩)) (by repeat (first | exact SubL.nil | (apply SubL.cons; (repeat (first | exact At.here | apply At.there))) | exact SubL.refl _ | apply SubL.skip))
      · intro hb5
        repeat (first | refine un (h := ?_) | refine sk (h := ?_) | refine WL.y (hy := pkF) (h := ?_) | refine WL.y (hy := pkT) (h := ?_))
        exact mg (by repeat (first | exact trivial | refine ⟨rfl, ?_⟩ | refine ⟨by rw [hb5]; rfl, ?_⟩)) (by repeat (first | exact SubL.nil | (apply SubL.cons; (repeat (first | exact At.here | apply At.there))) | exact SubL.refl _ | apply SubL.skip))
      refine WL.y (hy := mv) (h := ?_)
      apply brOr 4 81 85 (by exact rfl)
      · intro hb6
        refine un (h := ?_)
        refine WL.y (hy := mv) (h := ?_)
        refine un (h := ?_)
        refine WL.y (hy := mv) (h := ?_)
        refine un (h := ?_)
        refine WL.y (hy := neq) (h := ?_)
        refine WL.y (hy := (by first | exact pkT | exact pkF)) (h := ?_)
        exact mg (by repeat (first | exact trivial | refine ⟨rfl, ?_⟩ | refine ⟨by rw [hb6]; rfl, ?_⟩)) (by repeat (first | exact SubL.nil | (apply SubL.cons; (repeat (first | exact At.here | apply At.there))) | exact SubL.refl _ | apply SubL.skip))
      · intro hb6
        repeat (first | refine un (h := ?_) | refine sk (h := ?_) | refine WL.y (hy := pkF) (h := ?_) | refine WL.y (hy := pkT) (h := ?_))
        exact mg (by repeat (first | exact trivial | refine ⟨rfl, ?_⟩ | refine ⟨by rw [hb6]; rfl, ?_⟩)) (by repeat (first | exact SubL.nil | (apply SubL.cons; (repeat (first | exact At.here | apply At.there))) | exact SubL.refl _ | apply SubL.skip))
      refine nl (h := ?_)
      refine q_seq (h := ?_)
      refine cd (by exact rfl) (fun h7 => ?_) (fun h7 => ?_)
      · skip
        have h0 := h7
        simp at h0
      · skip
        refine skp (h := ?_)
        refine q_seq (h := ?_)
        refine sq (h := ?_)
        refine sq (h := ?_)
        refine rg (h := ?_)
        refine WL.y (hy := asg) (h := ?_)
        refine WL.cut (by repeat (first | exact Cut.nil | apply Cut.hit | apply Cut.miss (by exact rfl))) ?_
        refine nl (h := ?_)
        refine q_seq (h := ?_)
        refine bk (h := ?_)
        refine lp (X := Nat) (I := fun k => k ≤ n) (le := fun k => [(1, .pointer (some ⟨b0, 0, none⟩)), (3, .pointer (some ⟨b1, 0, none⟩)), (16, .int .i64 k)]) (Le := fun _ => [.blk b0 26 (cardC f cf A n c), .blk b1 26 (cardC f cf q.1 n q.2), .own q.1 q.2 45 4 n (encN xs), .ro A 4 n (encN xs)]) (μ := fun k => n - k) 0 (Nat.zero_le _) (by repeat (first | exact trivial | refine ⟨rfl, ?_⟩)) (by repeat (first | exact SubL.nil | (apply SubL.cons; (repeat (first | exact At.here | apply At.there))) | exact SubL.refl _ | apply SubL.skip)) (fun k hk => ?_)
        refine sq (h := ?_)
        refine sq (h := ?_)
        refine rg (h := ?_)
        refine WL.y (hy := mv) (h := ?_)
        refine WL.y (hy := (by first | exact fa | exact faE)) (h := ?_)
        refine WL.y (hy := (by first | exact ld | exact ldE)) (h := ?_)
        refine WL.y (hy := lenS) (h := ?_)
        refine WL.y (hy := lss) (h := ?_)
        refine nl (h := ?_)
        refine q_seq (h := ?_)
        refine cd (by exact rfl) (fun h8 => ?_) (fun h8 => ?_)
        · skip
          have hkn : k < n := by have := of_decide_eq_true h8; omega
          obtain ⟨x, hx⟩ : ∃ x, xs[k]? = some x := ⟨_, List.getElem?_eq_getElem (by omega)⟩
          have hxe := encN_at hx
          refine skp (h := ?_)
          refine q_seq (h := ?_)
          refine sq (h := ?_)
          refine bk (h := ?_)
          refine sq (h := ?_)
          refine rgD0 (by kernel_rfl) (h := ?_)
          refine tk 0 (hy := (by first | exact fa | exact faE)) (h := ?_)
          refine tk 1 (hy := (by first | exact ld | exact ldE)) (h := ?_)
          refine tk 2 (hy := mv) (h := ?_)
          refine tk 3 (hy := ix (A := q.1) (m := n) (hb := by omega)) (h := ?_)
          refine tk 4 (hy := ldEA (A := q.1) (hk := hxe)) (h := ?_)
          refine tk 5 (hy := (by first | exact fa | exact faE)) (h := ?_)
          refine tk 6 (hy := (by first | exact ld | exact ldE)) (h := ?_)
          refine tk 7 (hy := mv) (h := ?_)
          refine tk 8 (hy := ix (A := A) (m := n) (hb := by omega)) (h := ?_)
          refine tk 9 (hy := ldEA (A := A) (hk := hxe)) (h := ?_)
          refine tk 10 (hy := neqF) (h := ?_)
          refine dn (h := ?_)
          refine q_seq (h := ?_)
          refine cd (by exact rfl) (fun h9 => ?_) (fun h9 => ?_)
          · skip
            have h0 := h9
            simp at h0
          · skip
            refine skp (h := ?_)
            refine q_blk_norm (h := ?_)
            refine q_seq (h := ?_)
            refine rg (h := ?_)
            refine WL.y (hy := mv) (h := ?_)
            refine WL.y (hy := addI) (h := ?_)
            refine WL.y (hy := asg) (h := ?_)
            refine WL.cut (by repeat (first | exact Cut.nil | apply Cut.hit | apply Cut.miss (by exact rfl))) ?_
            refine nl (h := ?_)
            refine rn (x := k) (k + 1) hkn (by omega) (by repeat (first | exact trivial | refine ⟨rfl, ?_⟩)) (by repeat (first | exact SubL.nil | (apply SubL.cons; (repeat (first | exact At.here | apply At.there))) | exact SubL.refl _ | apply SubL.skip))
        · skip
          refine et (h := ?_)
          refine q_then_exit (h := ?_)
          refine q_then_exit (h := ?_)
          refine q_blk_hit (h := ?_)
          refine q_seq (h := ?_)
          refine sq (h := ?_)
          refine rg (h := ?_)
          refine cl0 (hc := fun w hS => C_law3_works w) (h := ?_)
          refine WL.y (hy := asg) (h := ?_)
          refine WL.cut (by repeat (first | exact Cut.nil | apply Cut.hit | apply Cut.miss (by exact rfl))) ?_
          refine nl (h := ?_)
          refine q_seq (h := ?_)
          refine rtn (h := ?_)
          refine q_ret (hR := ?_)
          exact fun w hS => ⟨rfl, hS.sub (by repeat (first | exact SubL.nil | (apply SubL.cons; (repeat (first | exact At.here | apply At.there))) | exact SubL.refl _ | apply SubL.skip))⟩
end Go.Proofs.YtpejgebcmhmpaaaGreat
