/- Walks of draws, fourteen: Replace of the program and of the document. -/
import Derived.Test.YtjkoaifjmcgpfaaDY
namespace Go.Proofs.Ytjkoaifjmcgpfaa
open Go Go.RowKit

/-- The sheet of which the first k slots are replaced, and how many lucky losers are used. -/
def repTo (sheet players lucky : List Int) : Nat → List Int × Nat
  | 0 => (sheet, 0)
  | k + 1 => match sheet[k]? with
    | none => repTo sheet players lucky k
    | some y => bif inV players y then (match lucky[(repTo sheet players lucky k).2]? with
        | none => ((repTo sheet players lucky k).1.set k (-1), (repTo sheet players lucky k).2)
        | some v => ((repTo sheet players lucky k).1.set k v, (repTo sheet players lucky k).2 + 1)) else repTo sheet players lucky k
def repR (p : Pl) (sheet players lucky : List Int) : List Int × Int := bif decide (chS p sheet = 0) then (bif luckyV sheet players lucky then ((repTo sheet players lucky sheet.length).1, 0) else ([], 1)) else ([], chS p sheet)
section
variable {sheet players lucky : List Int}
theorem rep_no {k : Nat} {y : Int} (h : sheet[k]? = some y) (hi : inV players y = false) : repTo sheet players lucky (k + 1) = repTo sheet players lucky k := by rw [repTo, h]; simp only [hi]; rfl
theorem rep_nil {k : Nat} {y : Int} (h : sheet[k]? = some y) (hi : inV players y = true) (hl : lucky[(repTo sheet players lucky k).2]? = none) : repTo sheet players lucky (k + 1) = ((repTo sheet players lucky k).1.set k (-1), (repTo sheet players lucky k).2) := by rw [repTo, h]; simp only [hi, hl]; rfl
theorem rep_some {k : Nat} {y v : Int} (h : sheet[k]? = some y) (hi : inV players y = true) (hl : lucky[(repTo sheet players lucky k).2]? = some v) : repTo sheet players lucky (k + 1) = ((repTo sheet players lucky k).1.set k v, (repTo sheet players lucky k).2 + 1) := by rw [repTo, h]; simp only [hi, hl]; rfl
theorem rep_len : ∀ k, (repTo sheet players lucky k).1.length = sheet.length
  | 0 => rfl
  | k + 1 => by
    have ih := rep_len k
    cases h : sheet[k]? with
    | none => rw [repTo, h]; exact ih
    | some y =>
      cases hi : inV players y
      · rw [rep_no h hi]; exact ih
      · cases hl : lucky[(repTo sheet players lucky k).2]? with
        | none => rw [rep_nil h hi hl, List.length_set]; exact ih
        | some v => rw [rep_some h hi hl, List.length_set]; exact ih
theorem rep_at : ∀ (k j : Nat), k ≤ j → (repTo sheet players lucky k).1[j]? = sheet[j]?
  | 0, j, _ => rfl
  | k + 1, j, hj => by
    have ih := rep_at k j (by omega)
    cases h : sheet[k]? with
    | none => rw [repTo, h]; exact ih
    | some y =>
      cases hi : inV players y
      · rw [rep_no h hi]; exact ih
      · cases hl : lucky[(repTo sheet players lucky k).2]? with
        | none => rw [rep_nil h hi hl, List.getElem?_set_ne (by omega)]; exact ih
        | some v => rw [rep_some h hi hl, List.getElem?_set_ne (by omega)]; exact ih
theorem rep_used : ∀ k, (repTo sheet players lucky k).2 ≤ lucky.length
  | 0 => Nat.zero_le _
  | k + 1 => by
    have ih := rep_used k
    cases h : sheet[k]? with
    | none => rw [repTo, h]; exact ih
    | some y =>
      cases hi : inV players y
      · rw [rep_no h hi]; exact ih
      · cases hl : lucky[(repTo sheet players lucky k).2]? with
        | none => rw [rep_nil h hi hl]; exact ih
        | some v =>
          have := (List.getElem?_eq_some_iff.1 hl).1
          rw [rep_some h hi hl]; exact this
end
theorem enI_put (xs : List Int) (k : Nat) (y v : Int) : (enI xs).set k ([Value.int .i64 y].set 0 (.int .i64 v)) = enI (xs.set k v) := by
  show (enI xs).set k [Value.int .i64 v] = _
  unfold enI
  rw [List.map_set]; rfl
theorem enI_drop (xs : List Int) (m : Nat) : ((enI (xs.drop m)).drop 1).take (xs.length - m - 1) = enI (xs.drop (m + 1)) := by
  unfold enI
  rw [← List.map_drop, List.drop_drop, List.take_of_length_le (by rw [List.length_map, List.length_drop]; omega)]
structure RZ where
  (k : Nat) (B : Option Addr) (d : Nat)
set_option maxRecDepth 100000 in
set_option maxHeartbeats 4000000 in
theorem C_ref06_Replace (p : Pl) (a : PA) (hz0 : -9223372036854775808 ≤ p.size ∧ p.size ≤ 9223372036854775807) (sheet players lucky : List Int) (sA pA lA : Option Addr) (sc pc lc : Nat) (hn : sheet.length ≤ 1000 ∧ players.length ≤ 1000 ∧ lucky.length ≤ 1000) (hsc : sheet.length ≤ sc) (hlc : lucky.length ≤ lc) (w : World) (h : PRd w p a) (hs : Rd w sA 1 sheet.length (enI sheet)) (hP : Rd w pA 1 players.length (enI players)) (hL : Rd w lA 1 lucky.length (enI lucky)) :
    CR Try.prog 44 [p.val a, .slice sA sheet.length sc, .slice pA players.length pc, .slice lA lucky.length lc] w (fun _ : Option Addr × Nat => True) (fun x => .tuple #[.slice x.1 (repR p sheet players lucky).1.length x.2, .int .i64 (repR p sheet players lucky).2]) (fun x => [.own x.1 x.2 3 1 (repR p sheet players lucky).1.length (enI (repR p sheet players lucky).1)]) := by
  obtain ⟨hp, hl, hpn, hln, hpc⟩ := h
  refine ⟨en Try.func44 Try.ntmps44 ((((((St.init w).share (e := .ro a.pA 3 p.ps.length (encPs p.ps)) hp rfl rfl rfl).share (e := .ro a.lA 1 p.lots.length (enI p.lots)) hl rfl rfl rfl).share (e := .ro sA 1 sheet.length (enI sheet)) hs rfl rfl rfl).share (e := .ro pA 1 players.length (enI players)) hP rfl rfl rfl).share (e := .ro lA 1 lucky.length (enI lucky)) hL rfl rfl rfl) (h := fun F => ?_)⟩
  refine sq (h := ?_)
  refine rg (h := ?_)
  refine bxA (h := fun b0 => ?_)
  refine WL.y (hy := asg) (h := ?_)
  refine WL.y (hy := asg) (h := ?_)
  refine nl (h := ?_)
  refine q_seq (h := ?_)
  refine sq (h := ?_)
  refine sq (h := ?_)
  refine rg (h := ?_)
  refine WL.y (hy := (by first | exact ldA | exact ldEA)) (h := ?_)
  refine WL.y (hy := mv) (h := ?_)
  refine cl0 (hc := fun w hS => C_CheckSheet p a hz0 sheet sA sc (by omega) hsc w ⟨hS.get (by repeat (first | exact Rds.ro | apply Rds.there)), hS.get (by repeat (first | exact Rds.ro | apply Rds.there)), hpn, hln, hpc⟩ (hS.get (by repeat (first | exact Rds.ro | apply Rds.there)))) (h := ?_)
  refine WL.y (hy := asg) (h := ?_)
  refine nl (h := ?_)
  refine q_seq (h := ?_)
  refine sq (h := ?_)
  refine rg (h := ?_)
  refine WL.y (hy := mv) (h := ?_)
  refine WL.y (hy := neq) (h := ?_)
  refine nl (h := ?_)
  refine q_seq (h := ?_)
  refine cd (by exact rfl) (fun h0 => ?_) (fun h0 => ?_)
  · skip
    have hc : ¬ chS p sheet = 0 := by simpa using h0
    have hE : repR p sheet players lucky = ([], chS p sheet) := by rw [repR, decide_eq_false hc]; rfl
    refine WC.nilOwn 3 1 (h := ?_)
    refine sq (h := ?_)
    refine rg (h := ?_)
    refine WL.y (hy := mv) (h := ?_)
    refine WL.y (hy := asg) (h := ?_)
    refine WL.y (hy := asg) (h := ?_)
    refine nl (h := ?_)
    refine q_seq (h := ?_)
    refine rtn (h := ?_)
    refine q_then_ret (h := ?_)
    refine q_ret (hR := ?_)
    rw [hE]
    exact fun w hS => ⟨(none, 0), trivial, rfl, hS.sub (by repeat (first | exact SubL.nil | (apply SubL.cons; (repeat (first | exact At.here | apply At.there))) | exact SubL.refl _ | apply SubL.skip))⟩
  · skip
    have hc : chS p sheet = 0 := by simpa using h0
    obtain ⟨hb, hs2, hcv⟩ := chS_ok hc
    have hq := p_ok hb
    have hsh := sh_ok hb hs2
    have hlen := hsh.len
    refine skp (h := ?_)
    refine q_seq (h := ?_)
    refine sq (h := ?_)
    refine sq (h := ?_)
    refine rg (h := ?_)
    refine WL.y (hy := mv) (h := ?_)
    refine WL.y (hy := mv) (h := ?_)
    refine WL.y (hy := mv) (h := ?_)
    refine cl0 (hc := fun w hS => C_AreLucky sheet players lucky sA pA lA sc pc lc hn hlc w (hS.get (by repeat (first | exact Rds.ro | apply Rds.there))) (hS.get (by repeat (first | exact Rds.ro | apply Rds.there))) (hS.get (by repeat (first | exact Rds.ro | apply Rds.there)))) (h := ?_)
    refine WL.y (hy := notB) (h := ?_)
    refine nl (h := ?_)
    refine q_seq (h := ?_)
    refine cd (by exact rfl) (fun h1 => ?_) (fun h1 => ?_)
    · skip
      have hE : repR p sheet players lucky = ([], 1) := by rw [repR, decide_eq_true hc, (by simpa using h1 : luckyV sheet players lucky = false)]; rfl
      refine WC.nilOwn 3 1 (h := ?_)
      refine sq (h := ?_)
      refine rg (h := ?_)
      refine WL.y (hy := asg) (h := ?_)
      refine WL.y (hy := asg) (h := ?_)
      refine nl (h := ?_)
      refine q_seq (h := ?_)
      refine rtn (h := ?_)
      refine q_then_ret (h := ?_)
      refine q_ret (hR := ?_)
      rw [hE]
      exact fun w hS => ⟨(none, 0), trivial, rfl, hS.sub (by repeat (first | exact SubL.nil | (apply SubL.cons; (repeat (first | exact At.here | apply At.there))) | exact SubL.refl _ | apply SubL.skip))⟩
    · skip
      have hlu : luckyV sheet players lucky = true := by simpa using h1
      refine skp (h := ?_)
      refine q_seq (h := ?_)
      refine sq (h := ?_)
      refine rg (h := ?_)
      refine bs (h := fun b1 => ?_)
      refine WL.y (hy := mv) (h := ?_)
      first | refine ap (h := fun A1 c1 => ?_) | refine ap0 (h := fun A1 c1 => ?_)
      refine WL.y (hy := asg) (h := ?_)
      simp only [Nat.zero_add, List.nil_append]
      refine nl (h := ?_)
      refine q_seq (h := ?_)
      refine sq (h := ?_)
      refine rg (h := ?_)
      refine WL.y (hy := asg) (h := ?_)
      refine nl (h := ?_)
      refine q_seq (h := ?_)
      refine sq (h := ?_)
      refine sq (h := ?_)
      refine rg (h := ?_)
      refine WL.y (hy := asg) (h := ?_)
      refine nl (h := ?_)
      refine q_seq (h := ?_)
      refine bk (h := ?_)
      refine lp (X := IZ) (I := fun z => z.k ≤ sheet.length) (le := fun z => [(1, .slice sA sheet.length sc), (2, .slice pA players.length pc), (3, .slice lA lucky.length lc), (11, .slice A1 sheet.length c1), (12, .int .i64 (repTo sheet players lucky z.k).2), (13, .int .i64 z.k)]) (Le := fun z => [.own A1 c1 3 1 sheet.length (enI (repTo sheet players lucky z.k).1), .ro sA 1 sheet.length (enI sheet), .ro pA 1 players.length (enI players), .ro lA 1 lucky.length (enI lucky)]) (μ := fun z => sheet.length - z.k) ⟨0⟩ (Nat.zero_le _) (by repeat (first | exact trivial | refine ⟨rfl, ?_⟩)) (by repeat (first | exact SubL.nil | (apply SubL.cons; (repeat (first | exact At.here | apply At.there))) | exact SubL.refl _ | apply SubL.skip)) (fun z hz => ?_)
      refine sq (h := ?_)
      refine sq (h := ?_)
      refine rg (h := ?_)
      refine WL.y (hy := mv) (h := ?_)
      refine WL.y (hy := mv) (h := ?_)
      refine WL.y (hy := lenS) (h := ?_)
      refine WL.y (hy := lss) (h := ?_)
      refine nl (h := ?_)
      refine q_seq (h := ?_)
      refine cd (by exact rfl) (fun h2 => ?_) (fun h2 => ?_)
      · skip
        have hkn : z.k < sheet.length := by simp only [decide_eq_true_eq] at h2; omega
        obtain ⟨y, hy1⟩ : ∃ y, sheet[z.k]? = some y := ⟨_, List.getElem?_eq_getElem hkn⟩
        have hye := enI_at hy1
        have hoe := enI_at ((rep_at (sheet := sheet) (players := players) (lucky := lucky) z.k z.k (Nat.le_refl _)).trans hy1)
        have hus := rep_used (sheet := sheet) (players := players) (lucky := lucky) z.k
        have hrl := rep_len (sheet := sheet) (players := players) (lucky := lucky) z.k
        refine skp (h := ?_)
        refine q_seq (h := ?_)
        refine sq (h := ?_)
        refine bk (h := ?_)
        refine sq (h := ?_)
        refine sq (h := ?_)
        refine rg (h := ?_)
        refine WL.y (hy := mv) (h := ?_)
        refine WL.y (hy := mv) (h := ?_)
        refine WL.y (hy := mv) (h := ?_)
        refine WL.y (hy := ix (A := sA) (m := sheet.length)) (h := ?_)
        refine WL.y (hy := ldE (A := sA) (hk := hye)) (h := ?_)
        refine cl0 (hc := fun w hS => C_In players y pA players.length pc (by omega) w (hS.get (by repeat (first | exact Rds.ro | apply Rds.there)))) (h := ?_)
        refine WL.y (hy := notB) (h := ?_)
        refine nl (h := ?_)
        refine q_seq (h := ?_)
        refine cd (by exact rfl) (fun h3 => ?_) (fun h3 => ?_)
        · skip
          have hnx := rep_no (lucky := lucky) hy1 (by simpa using h3 : inV players y = false)
          refine et (h := ?_)
          refine q_then_exit (h := ?_)
          refine q_blk_hit (h := ?_)
          refine q_seq (h := ?_)
          refine rg (h := ?_)
          refine WL.y (hy := mv) (h := ?_)
          refine WL.y (hy := addI) (h := ?_)
          refine WL.y (hy := asg) (h := ?_)
          refine nl (h := ?_)
          refine rn (x := z) ⟨z.k + 1⟩ (by dsimp only; omega) (by dsimp only; omega) (by dsimp only; rw [hnx]; repeat (first | exact trivial | refine ⟨rfl, ?_⟩)) (by dsimp only; rw [hnx]; repeat (first | exact SubL.nil | (apply SubL.cons; (repeat (first | exact At.here | apply At.there))) | exact SubL.refl _ | apply SubL.skip))
        · skip
          have hin : inV players y = true := by simpa using h3
          have hoe2 := enI_at (xs := (repTo sheet players lucky z.k).1.set z.k (-1)) (k := z.k) (x := -1) (List.getElem?_set_self (by omega))
          refine skp (h := ?_)
          refine q_seq (h := ?_)
          refine sq (h := ?_)
          refine rg (h := ?_)
          refine WL.y (hy := mv) (h := ?_)
          refine WL.y (hy := mv) (h := ?_)
          refine WL.y (hy := ix (A := A1) (m := sheet.length)) (h := ?_)
          refine stE (A := A1) (k := z.k) (j := 0) (hk := hoe) (h := ?_)
          rw [enI_put]
          refine nl (h := ?_)
          refine q_seq (h := ?_)
          refine sq (h := ?_)
          refine rg (h := ?_)
          refine WL.y (hy := mv) (h := ?_)
          refine WL.y (hy := mv) (h := ?_)
          refine WL.y (hy := lenS) (h := ?_)
          refine WL.y (hy := lss) (h := ?_)
          refine nl (h := ?_)
          refine q_seq (h := ?_)
          refine cd (by exact rfl) (fun h4 => ?_) (fun h4 => ?_)
          · skip
            have hul : (repTo sheet players lucky z.k).2 < lucky.length := by simp only [decide_eq_true_eq] at h4; omega
            obtain ⟨v, hv⟩ : ∃ v, lucky[(repTo sheet players lucky z.k).2]? = some v := ⟨_, List.getElem?_eq_getElem hul⟩
            have hve := enI_at hv
            have hnx := rep_some hy1 hin hv
            refine sq (h := ?_)
            refine rg (h := ?_)
            refine WL.y (hy := mv) (h := ?_)
            refine WL.y (hy := mv) (h := ?_)
            refine WL.y (hy := mv) (h := ?_)
            refine WL.y (hy := mv) (h := ?_)
            refine WL.y (hy := ix (A := lA) (m := lucky.length)) (h := ?_)
            refine WL.y (hy := ldE (A := lA) (hk := hve)) (h := ?_)
            refine WL.y (hy := ix (A := A1) (m := sheet.length)) (h := ?_)
            refine stE (A := A1) (k := z.k) (j := 0) (hk := hoe2) (h := ?_)
            rw [enI_put, List.set_set]
            refine nl (h := ?_)
            refine q_seq (h := ?_)
            refine rg (h := ?_)
            refine WL.y (hy := mv) (h := ?_)
            refine WL.y (hy := addI) (h := ?_)
            refine WL.y (hy := asg) (h := ?_)
            refine nl (h := ?_)
            refine q_blk_norm (h := ?_)
            refine q_seq (h := ?_)
            refine rg (h := ?_)
            refine WL.y (hy := mv) (h := ?_)
            refine WL.y (hy := addI) (h := ?_)
            refine WL.y (hy := asg) (h := ?_)
            refine nl (h := ?_)
            refine rn (x := z) ⟨z.k + 1⟩ (by dsimp only; omega) (by dsimp only; omega) (by dsimp only; rw [hnx]; repeat (first | exact trivial | refine ⟨rfl, ?_⟩)) (by dsimp only; rw [hnx]; repeat (first | exact SubL.nil | (apply SubL.cons; (repeat (first | exact At.here | apply At.there))) | exact SubL.refl _ | apply SubL.skip))
          · skip
            have hul : lucky.length ≤ (repTo sheet players lucky z.k).2 := by simp only [decide_eq_false_iff_not] at h4; omega
            have hnx := rep_nil hy1 hin (List.getElem?_eq_none hul)
            refine skp (h := ?_)
            refine q_blk_norm (h := ?_)
            refine q_seq (h := ?_)
            refine rg (h := ?_)
            refine WL.y (hy := mv) (h := ?_)
            refine WL.y (hy := addI) (h := ?_)
            refine WL.y (hy := asg) (h := ?_)
            refine nl (h := ?_)
            refine rn (x := z) ⟨z.k + 1⟩ (by dsimp only; omega) (by dsimp only; omega) (by dsimp only; rw [hnx]; repeat (first | exact trivial | refine ⟨rfl, ?_⟩)) (by dsimp only; rw [hnx]; repeat (first | exact SubL.nil | (apply SubL.cons; (repeat (first | exact At.here | apply At.there))) | exact SubL.refl _ | apply SubL.skip))
      · skip
        have hkn : sheet.length = z.k := by simp only [decide_eq_false_iff_not] at h2; omega
        have hE : repR p sheet players lucky = ((repTo sheet players lucky z.k).1, 0) := by rw [repR, decide_eq_true hc, hlu, hkn]; rfl
        have hrl := rep_len (sheet := sheet) (players := players) (lucky := lucky) z.k
        refine et (h := ?_)
        refine q_then_exit (h := ?_)
        refine q_then_exit (h := ?_)
        refine q_blk_hit (h := ?_)
        refine q_seq (h := ?_)
        refine sq (h := ?_)
        refine rg (h := ?_)
        refine WL.y (hy := mv) (h := ?_)
        refine WL.y (hy := asg) (h := ?_)
        refine WL.y (hy := asg) (h := ?_)
        refine nl (h := ?_)
        refine q_seq (h := ?_)
        refine rtn (h := ?_)
        refine q_ret (hR := ?_)
        rw [hE]
        exact fun w hS => ⟨(A1, c1), trivial, by dsimp only; rw [hrl]; rfl, by dsimp only; rw [hrl]; exact hS.sub (by repeat (first | exact SubL.nil | (apply SubL.cons; (repeat (first | exact At.here | apply At.there))) | exact SubL.refl _ | apply SubL.skip))⟩
theorem pl_no {sheet players : List Int} (h : players.any (plBad sheet) = false) : inV players (-1) = false := by
  cases hi : inV players (-1)
  · rfl
  · have := any_le (q := plBad sheet) (inV_iff.1 hi) rfl
    rw [h] at this; cases this
theorem lucky_pl {sheet players lucky : List Int} (h : luckyV sheet players lucky = true) : players.any (plBad sheet) = false := by
  unfold luckyV at h
  cases hb : players.any (plBad sheet)
  · rfl
  · rw [hb] at h; cases h
set_option maxRecDepth 100000 in
set_option maxHeartbeats 8000000 in
theorem C_dr_Replace (p : Pl) (a : PA) (hz0 : -9223372036854775808 ≤ p.size ∧ p.size ≤ 9223372036854775807) (sheet players lucky : List Int) (sA pA lA : Option Addr) (sc pc lc : Nat) (hn : sheet.length ≤ 1000 ∧ players.length ≤ 1000 ∧ lucky.length ≤ 1000) (hlc : lucky.length ≤ lc) (w : World) (h : PRd w p a) (hs : Rd w sA 1 sheet.length (enI sheet)) (hP : Rd w pA 1 players.length (enI players)) (hL : Rd w lA 1 lucky.length (enI lucky)) :
    CR Try.prog 41 [p.val a, .slice sA sheet.length sc, .slice pA players.length pc, .slice lA lucky.length lc] w (fun _ : Option Addr × Nat => True) (fun x => .tuple #[.slice x.1 (repR p sheet players lucky).1.length x.2, .int .i64 (repR p sheet players lucky).2]) (fun x => [.own x.1 x.2 3 1 (repR p sheet players lucky).1.length (enI (repR p sheet players lucky).1)]) := by
  obtain ⟨hp, hl, hpn, hln, hpc⟩ := h
  refine ⟨en Try.func41 Try.ntmps41 ((((((St.init w).share (e := .ro a.pA 3 p.ps.length (encPs p.ps)) hp rfl rfl rfl).share (e := .ro a.lA 1 p.lots.length (enI p.lots)) hl rfl rfl rfl).share (e := .ro sA 1 sheet.length (enI sheet)) hs rfl rfl rfl).share (e := .ro pA 1 players.length (enI players)) hP rfl rfl rfl).share (e := .ro lA 1 lucky.length (enI lucky)) hL rfl rfl rfl) (h := fun F => ?_)⟩
  refine sq (h := ?_)
  refine rg (h := ?_)
  refine bxA (h := fun b0 => ?_)
  refine WL.y (hy := asg) (h := ?_)
  refine WL.y (hy := asg) (h := ?_)
  refine nl (h := ?_)
  refine q_seq (h := ?_)
  refine sq (h := ?_)
  refine sq (h := ?_)
  refine rg (h := ?_)
  refine WL.y (hy := (by first | exact ldA | exact ldEA)) (h := ?_)
  refine WL.y (hy := mv) (h := ?_)
  refine cl (hc := fun w hS => C_dr_check p a hz0 sheet sA sc (by omega) w ⟨hS.get (by repeat (first | exact Rds.ro | apply Rds.there)), hS.get (by repeat (first | exact Rds.ro | apply Rds.there)), hpn, hln, hpc⟩ (hS.get (by repeat (first | exact Rds.ro | apply Rds.there)))) (h := fun x0 _ => ?_)
  refine WL.y (hy := mv) (h := ?_)
  refine WL.y (hy := ex) (h := ?_)
  refine WL.y (hy := ex) (h := ?_)
  refine WL.y (hy := asg) (h := ?_)
  refine WL.y (hy := asg) (h := ?_)
  refine nl (h := ?_)
  refine q_seq (h := ?_)
  refine sq (h := ?_)
  refine rg (h := ?_)
  refine WL.y (hy := mv) (h := ?_)
  refine WL.y (hy := neq) (h := ?_)
  refine nl (h := ?_)
  refine q_seq (h := ?_)
  refine cd (by exact rfl) (fun h0 => ?_) (fun h0 => ?_)
  · skip
    have hc : ¬ chS p sheet = 0 := by rw [chV_snd] at h0; simpa using h0
    have hE : repR p sheet players lucky = ([], (chV p sheet).2) := by rw [repR, decide_eq_false hc, chV_snd]; rfl
    refine WC.nilOwn 3 1 (h := ?_)
    refine sq (h := ?_)
    refine rg (h := ?_)
    refine WL.y (hy := mv) (h := ?_)
    refine WL.y (hy := asg) (h := ?_)
    refine WL.y (hy := asg) (h := ?_)
    refine nl (h := ?_)
    refine q_seq (h := ?_)
    refine rtn (h := ?_)
    refine q_then_ret (h := ?_)
    refine q_ret (hR := ?_)
    rw [hE]
    exact fun w hS => ⟨(none, 0), trivial, rfl, hS.sub (by repeat (first | exact SubL.nil | (apply SubL.cons; (repeat (first | exact At.here | apply At.there))) | exact SubL.refl _ | apply SubL.skip))⟩
  · skip
    have hc : chS p sheet = 0 := by rw [chV_snd] at h0; simpa using h0
    obtain ⟨hb, hs2, hcv⟩ := chS_ok hc
    have hq := p_ok hb
    have hsh := sh_ok hb hs2
    have hlen := hsh.len
    refine skp (h := ?_)
    refine q_seq (h := ?_)
    refine sq (h := ?_)
    refine sq (h := ?_)
    refine rg (h := ?_)
    refine WL.y (hy := mv) (h := ?_)
    refine WL.y (hy := lenS) (h := ?_)
    refine WL.y (hy := mv) (h := ?_)
    refine nl (h := ?_)
    refine q_seq (h := ?_)
    refine bk (h := ?_)
    refine lp (X := IZ) (I := fun z => z.k ≤ players.length ∧ (players.take z.k).any (plBad sheet) = false) (le := fun z => [(1, .slice sA sheet.length sc), (2, .slice pA players.length pc), (3, .slice lA lucky.length lc), (28, .slice pA players.length pc), (29, .int .i64 players.length), (30, .int .i64 z.k)]) (Le := fun _ => [.ro sA 1 sheet.length (enI sheet), .ro pA 1 players.length (enI players), .ro lA 1 lucky.length (enI lucky)]) (μ := fun z => players.length - z.k) ⟨0⟩ ⟨Nat.zero_le _, rfl⟩ (by repeat (first | exact trivial | refine ⟨rfl, ?_⟩)) (by repeat (first | exact SubL.nil | (apply SubL.cons; (repeat (first | exact At.here | apply At.there))) | exact SubL.refl _ | apply SubL.skip)) (fun z hz => ?_)
    obtain ⟨hz1, hz2⟩ := hz
    refine sq (h := ?_)
    refine rg (h := ?_)
    refine WL.y (hy := lss) (h := ?_)
    refine nl (h := ?_)
    refine q_seq (h := ?_)
    refine sq (h := ?_)
    refine cd (by exact rfl) (fun h1 => ?_) (fun h1 => ?_)
    · skip
      have hkn : z.k < players.length := by simp only [decide_eq_true_eq] at h1; omega
      obtain ⟨y, hy1⟩ : ∃ y, players[z.k]? = some y := ⟨_, List.getElem?_eq_getElem hkn⟩
      have hye := enI_at hy1
      refine skp (h := ?_)
      refine q_seq (h := ?_)
      refine sq (h := ?_)
      refine bk (h := ?_)
      refine sq (h := ?_)
      refine rg (h := ?_)
      refine WL.y (hy := ix (A := pA) (m := players.length)) (h := ?_)
      refine WL.y (hy := ldE (A := pA) (hk := hye)) (h := ?_)
      refine WL.y (hy := asg) (h := ?_)
      refine nl (h := ?_)
      refine q_seq (h := ?_)
      refine sq (h := ?_)
      refine rg (h := ?_)
      refine WL.y (hy := mv) (h := ?_)
      refine WL.y (hy := eql) (h := ?_)
      refine WL.y (hy := mv) (h := ?_)
      apply brOr 5 36 41 (by exact rfl)
      · intro hb2
        refine un (h := ?_)
        refine WL.y (hy := mv) (h := ?_)
        refine un (h := ?_)
        refine WL.y (hy := mv) (h := ?_)
        refine un (h := ?_)
        refine cl0 (hc := fun w hS => C_slices_Contains sheet y sA sheet.length sc w (hS.get (by repeat (first | exact Rds.ro | apply Rds.there))) (by omega)) (h := ?_)
        refine un (h := ?_)
        refine WL.y (hy := notB) (h := ?_)
        refine WL.y (hy := (by first | exact pkT | exact pkF)) (h := ?_)
        exact mg (by repeat (first | exact trivial | refine ⟨rfl, ?_⟩ | refine ⟨by rw [hb2]; rfl, ?_⟩)) (by repeat (first | exact SubL.nil | (apply SubL.cons; (repeat (first | exact At.here | apply At.there))) | exact SubL.refl _ | apply SubL.skip))
      · intro hb2
        repeat (first | refine un (h := ?_) | refine sk (h := ?_) | refine WL.y (hy := pkF) (h := ?_) | refine WL.y (hy := pkT) (h := ?_))
        exact mg (by repeat (first | exact trivial | refine ⟨rfl, ?_⟩ | refine ⟨by rw [hb2]; rfl, ?_⟩)) (by repeat (first | exact SubL.nil | (apply SubL.cons; (repeat (first | exact At.here | apply At.there))) | exact SubL.refl _ | apply SubL.skip))
      refine nl (h := ?_)
      refine q_seq (h := ?_)
      refine cd (by exact rfl) (fun h3 => ?_) (fun h3 => ?_)
      · skip
        have hE : repR p sheet players lucky = ([], 1) := by rw [repR, decide_eq_true hc, luckyV, any_le (List.mem_of_getElem? hy1) (by rw [plBad, inV_has]; exact h3)]; rfl
        refine WC.nilOwn 3 1 (h := ?_)
        refine sq (h := ?_)
        refine rg (h := ?_)
        refine WL.y (hy := asg) (h := ?_)
        refine WL.y (hy := asg) (h := ?_)
        refine nl (h := ?_)
        refine q_seq (h := ?_)
        refine rtn (h := ?_)
        refine q_blk_ret (h := ?_)
        refine q_then_ret (h := ?_)
        refine q_then_ret (h := ?_)
        refine q_blk_ret (h := ?_)
        refine q_then_ret (h := ?_)
        refine q_ret (hR := ?_)
        rw [hE]
        exact fun w hS => ⟨(none, 0), trivial, rfl, hS.sub (by repeat (first | exact SubL.nil | (apply SubL.cons; (repeat (first | exact At.here | apply At.there))) | exact SubL.refl _ | apply SubL.skip))⟩
      · skip
        have hpb : plBad sheet y = false := by rw [plBad, inV_has]; exact h3
        refine skp (h := ?_)
        refine q_blk_norm (h := ?_)
        refine q_seq (h := ?_)
        refine rg (h := ?_)
        refine WL.y (hy := addI) (h := ?_)
        refine WL.y (hy := mv) (h := ?_)
        refine nl (h := ?_)
        refine rn (x := z) ⟨z.k + 1⟩ ⟨by dsimp only; omega, by rw [any_take hy1, hz2, hpb]; rfl⟩ (by dsimp only; omega) (by repeat (first | exact trivial | refine ⟨rfl, ?_⟩)) (by repeat (first | exact SubL.nil | (apply SubL.cons; (repeat (first | exact At.here | apply At.there))) | exact SubL.refl _ | apply SubL.skip))
    · skip
      have hkn : z.k = players.length := by simp only [decide_eq_false_iff_not] at h1; omega
      rw [hkn, List.take_length] at hz2
      have hno1 := pl_no hz2
      refine et (h := ?_)
      refine q_then_exit (h := ?_)
      refine q_then_exit (h := ?_)
      refine q_blk_hit (h := ?_)
      refine q_seq (h := ?_)
      refine sq (h := ?_)
      refine sq (h := ?_)
      refine rg (h := ?_)
      refine WL.y (hy := mv) (h := ?_)
      refine WL.y (hy := lenS) (h := ?_)
      refine WL.y (hy := mv) (h := ?_)
      refine nl (h := ?_)
      refine q_seq (h := ?_)
      refine bk (h := ?_)
      refine lp (X := IZ) (I := fun u => u.k ≤ lucky.length ∧ lkTo sheet lucky u.k = true) (le := fun u => [(1, .slice sA sheet.length sc), (2, .slice pA players.length pc), (3, .slice lA lucky.length lc), (43, .slice lA lucky.length lc), (44, .int .i64 lucky.length), (45, .int .i64 u.k)]) (Le := fun _ => [.ro sA 1 sheet.length (enI sheet), .ro pA 1 players.length (enI players), .ro lA 1 lucky.length (enI lucky)]) (μ := fun u => lucky.length - u.k) ⟨0⟩ ⟨Nat.zero_le _, rfl⟩ (by repeat (first | exact trivial | refine ⟨rfl, ?_⟩)) (by repeat (first | exact SubL.nil | (apply SubL.cons; (repeat (first | exact At.here | apply At.there))) | exact SubL.refl _ | apply SubL.skip)) (fun u hu => ?_)
      obtain ⟨hu1, hu2⟩ := hu
      refine sq (h := ?_)
      refine rg (h := ?_)
      refine WL.y (hy := lss) (h := ?_)
      refine nl (h := ?_)
      refine q_seq (h := ?_)
      refine sq (h := ?_)
      refine cd (by exact rfl) (fun h4 => ?_) (fun h4 => ?_)
      · skip
        have hkn2 : u.k < lucky.length := by simp only [decide_eq_true_eq] at h4; omega
        obtain ⟨x, hx1⟩ : ∃ y, lucky[u.k]? = some y := ⟨_, List.getElem?_eq_getElem hkn2⟩
        have hxe := enI_at hx1
        have hst := lkTo_succ (sheet := sheet) hx1
        have htk : List.take u.k (enI lucky) = enI (lucky.take u.k) := by unfold enI; rw [List.map_take]
        refine skp (h := ?_)
        refine q_seq (h := ?_)
        refine sq (h := ?_)
        refine bk (h := ?_)
        refine sq (h := ?_)
        refine rg (h := ?_)
        refine WL.y (hy := mv) (h := ?_)
        refine WL.y (hy := ix (A := lA) (m := lucky.length)) (h := ?_)
        refine WL.y (hy := ldE (A := lA) (hk := hxe)) (h := ?_)
        refine WL.y (hy := asg) (h := ?_)
        refine WL.y (hy := asg) (h := ?_)
        refine nl (h := ?_)
        refine q_seq (h := ?_)
        refine ct (X := Bool) (fun s => s = lkBad sheet lucky u.k x) (fun s => [(1, .slice sA sheet.length sc), (2, .slice pA players.length pc), (3, .slice lA lucky.length lc), (43, .slice lA lucky.length lc), (44, .int .i64 lucky.length), (45, .int .i64 u.k), (64, .bool s)]) (fun _ => [.ro sA 1 sheet.length (enI sheet), .ro pA 1 players.length (enI players), .ro lA 1 lucky.length (enI lucky)]) (h1 := ?_) (h2 := ?_)
        · skip
          refine WC.pre (A := lA) (m := lucky.length) (by repeat (first | exact At.here | apply At.there)) u.k (by omega) ?_
          rw [htk]
          refine rg (h := ?_)
          refine WL.y (hy := mv) (h := ?_)
          refine cl0 (hc := fun w hS => C_dr_within _ _ _ w) (h := ?_)
          refine WL.y (hy := notB) (h := ?_)
          refine WL.y (hy := mv) (h := ?_)
          apply brOr 4 53 57 (by exact rfl)
          · intro hb5
            refine un (h := ?_)
            refine WL.y (hy := mv) (h := ?_)
            refine un (h := ?_)
            refine WL.y (hy := mv) (h := ?_)
            refine un (h := ?_)
            refine cl0 (hc := fun w hS => C_slices_Contains sheet x sA sheet.length sc w (hS.get (by repeat (first | exact Rds.ro | apply Rds.there))) (by omega)) (h := ?_)
            refine WL.y (hy := (by first | exact pkT | exact pkF)) (h := ?_)
            exact mg (by repeat (first | exact trivial | refine ⟨rfl, ?_⟩ | refine ⟨by rw [hb5]; rfl, ?_⟩)) (by repeat (first | exact SubL.nil | (apply SubL.cons; (repeat (first | exact At.here | apply At.there))) | exact SubL.refl _ | apply SubL.skip))
          · intro hb5
            repeat (first | refine un (h := ?_) | refine sk (h := ?_) | refine WL.y (hy := pkF) (h := ?_) | refine WL.y (hy := pkT) (h := ?_))
            exact mg (by repeat (first | exact trivial | refine ⟨rfl, ?_⟩ | refine ⟨by rw [hb5]; rfl, ?_⟩)) (by repeat (first | exact SubL.nil | (apply SubL.cons; (repeat (first | exact At.here | apply At.there))) | exact SubL.refl _ | apply SubL.skip))
          refine WL.y (hy := mv) (h := ?_)
          apply brOr 6 58 64 (by exact rfl)
          · intro hb6
            refine un (h := ?_)
            refine WL.y (hy := mv) (h := ?_)
            refine un (h := ?_)
            refine WL.y (hy := mv) (h := ?_)
            refine un (h := ?_)
            refine WL.y (hy := slP (A := lA) (m := lucky.length) (cap := lc) (hi' := u.k)) (h := ?_)
            refine un (h := ?_)
            refine WL.y (hy := mv) (h := ?_)
            refine un (h := ?_)
            refine cl0 (hc := fun w hS => C_slices_Contains (lucky.take u.k) x lA u.k lc w (hS.get (by repeat (first | exact Rds.ro | apply Rds.there))) (by omega)) (h := ?_)
            refine WL.y (hy := (by first | exact pkT | exact pkF)) (h := ?_)
            exact mg (by repeat (first | exact trivial | refine ⟨rfl, ?_⟩ | refine ⟨by rw [hb6]; rfl, ?_⟩)) (by repeat (first | exact SubL.nil | (apply SubL.cons; (repeat (first | exact At.here | apply At.there))) | exact SubL.refl _ | apply SubL.skip))
          · intro hb6
            repeat (first | refine un (h := ?_) | refine sk (h := ?_) | refine WL.y (hy := pkF) (h := ?_) | refine WL.y (hy := pkT) (h := ?_))
            exact mg (by repeat (first | exact trivial | refine ⟨rfl, ?_⟩ | refine ⟨by rw [hb6]; rfl, ?_⟩)) (by repeat (first | exact SubL.nil | (apply SubL.cons; (repeat (first | exact At.here | apply At.there))) | exact SubL.refl _ | apply SubL.skip))
          refine nl (h := ?_)
          refine ctnL _ (by repeat (first | exact trivial | refine ⟨rfl, ?_⟩)) (by repeat (first | exact SubL.nil | (apply SubL.cons; (repeat (first | exact At.here | apply At.there))) | exact SubL.refl _ | apply SubL.skip)) ?_
          simp only [lkBad, inV_has, hasV, *]
          try simp
        intro s hs'
        refine cd (by exact rfl) (fun h7 => ?_) (fun h7 => ?_)
        · skip
          have hE : repR p sheet players lucky = ([], 1) := by rw [repR, decide_eq_true hc, luckyV, lkTo_le (j := u.k + 1) (by rw [hst, ← hs', h7]; simp) (by omega), Bool.and_false]; rfl
          refine WC.nilOwn 3 1 (h := ?_)
          refine sq (h := ?_)
          refine rg (h := ?_)
          refine WL.y (hy := asg) (h := ?_)
          refine WL.y (hy := asg) (h := ?_)
          refine nl (h := ?_)
          refine q_seq (h := ?_)
          refine rtn (h := ?_)
          refine q_blk_ret (h := ?_)
          refine q_then_ret (h := ?_)
          refine q_then_ret (h := ?_)
          refine q_blk_ret (h := ?_)
          refine q_then_ret (h := ?_)
          refine q_ret (hR := ?_)
          rw [hE]
          exact fun w hS => ⟨(none, 0), trivial, rfl, hS.sub (by repeat (first | exact SubL.nil | (apply SubL.cons; (repeat (first | exact At.here | apply At.there))) | exact SubL.refl _ | apply SubL.skip))⟩
        · skip
          have hgood : lkTo sheet lucky (u.k + 1) = true := by rw [hst, hu2, ← hs', h7]; rfl
          refine skp (h := ?_)
          refine q_blk_norm (h := ?_)
          refine q_seq (h := ?_)
          refine rg (h := ?_)
          refine WL.y (hy := addI) (h := ?_)
          refine WL.y (hy := mv) (h := ?_)
          refine nl (h := ?_)
          refine rn (x := u) ⟨u.k + 1⟩ ⟨by dsimp only; omega, hgood⟩ (by dsimp only; omega) (by repeat (first | exact trivial | refine ⟨rfl, ?_⟩)) (by repeat (first | exact SubL.nil | (apply SubL.cons; (repeat (first | exact At.here | apply At.there))) | exact SubL.refl _ | apply SubL.skip))
      · skip
        have hkn2 : u.k = lucky.length := by simp only [decide_eq_false_iff_not] at h4; omega
        have hlu : luckyV sheet players lucky = true := by rw [luckyV, hz2, ← hkn2, hu2]; rfl
        refine et (h := ?_)
        refine q_then_exit (h := ?_)
        refine q_then_exit (h := ?_)
        refine q_blk_hit (h := ?_)
        refine q_seq (h := ?_)
        refine sq (h := ?_)
        refine rg (h := ?_)
        refine WL.y (hy := mv) (h := ?_)
        refine cl (hc := fun w hS => C_CloneInts sA sheet.length sc (enI sheet) w (hS.get (by repeat (first | exact Rds.ro | apply Rds.there))) (by omega)) (h := fun x1 _ => ?_)
        refine WL.y (hy := asg) (h := ?_)
        refine nl (h := ?_)
        refine q_seq (h := ?_)
        refine sq (h := ?_)
        refine sq (h := ?_)
        refine rg (h := ?_)
        refine WL.y (hy := mv) (h := ?_)
        refine WL.y (hy := lenS) (h := ?_)
        refine WL.y (hy := mv) (h := ?_)
        refine nl (h := ?_)
        refine q_seq (h := ?_)
        refine bk (h := ?_)
        refine lp (X := RZ) (I := fun v => v.k ≤ sheet.length ∧ lucky.length - (repTo sheet players lucky v.k).2 ≤ v.d) (le := fun v => [(1, .slice sA sheet.length sc), (2, .slice pA players.length pc), (3, .slice v.B (lucky.length - (repTo sheet players lucky v.k).2) v.d), (16, .slice x1.1 sheet.length x1.2), (68, .slice x1.1 sheet.length x1.2), (69, .int .i64 sheet.length), (70, .int .i64 v.k)]) (Le := fun v => [.own x1.1 x1.2 3 1 sheet.length (enI (repTo sheet players lucky v.k).1), .ro v.B 1 (lucky.length - (repTo sheet players lucky v.k).2) (enI (lucky.drop (repTo sheet players lucky v.k).2)), .ro sA 1 sheet.length (enI sheet), .ro pA 1 players.length (enI players)]) (μ := fun v => sheet.length - v.k) ⟨0, lA, lc⟩ ⟨Nat.zero_le _, hlc⟩ (by repeat (first | exact trivial | refine ⟨rfl, ?_⟩)) (by repeat (first | exact SubL.nil | (apply SubL.cons; (repeat (first | exact At.here | apply At.there))) | exact SubL.refl _ | apply SubL.skip)) (fun v hz => ?_)
        obtain ⟨hv1, hv2⟩ := hz
        refine sq (h := ?_)
        refine rg (h := ?_)
        refine WL.y (hy := lss) (h := ?_)
        refine nl (h := ?_)
        refine q_seq (h := ?_)
        refine sq (h := ?_)
        refine cd (by exact rfl) (fun h8 => ?_) (fun h8 => ?_)
        · skip
          have hkn3 : v.k < sheet.length := by simp only [decide_eq_true_eq] at h8; omega
          obtain ⟨y, hy1⟩ : ∃ y, sheet[v.k]? = some y := ⟨_, List.getElem?_eq_getElem hkn3⟩
          have hoe := enI_at ((rep_at (sheet := sheet) (players := players) (lucky := lucky) v.k v.k (Nat.le_refl _)).trans hy1)
          have hus := rep_used (sheet := sheet) (players := players) (lucky := lucky) v.k
          have hrl := rep_len (sheet := sheet) (players := players) (lucky := lucky) v.k
          refine skp (h := ?_)
          refine q_seq (h := ?_)
          refine sq (h := ?_)
          refine bk (h := ?_)
          refine sq (h := ?_)
          refine rg (h := ?_)
          refine WL.y (hy := mv) (h := ?_)
          refine WL.y (hy := ix (A := x1.1) (m := sheet.length)) (h := ?_)
          refine WL.y (hy := ldE (A := x1.1) (hk := hoe)) (h := ?_)
          refine WL.y (hy := asg) (h := ?_)
          refine WL.y (hy := asg) (h := ?_)
          refine nl (h := ?_)
          refine q_seq (h := ?_)
          refine sq (h := ?_)
          refine sq (h := ?_)
          refine rg (h := ?_)
          refine WL.y (hy := mv) (h := ?_)
          refine WL.y (hy := eql) (h := ?_)
          refine WL.y (hy := mv) (h := ?_)
          apply brOr 5 77 82 (by exact rfl)
          · intro hb9
            refine un (h := ?_)
            refine WL.y (hy := mv) (h := ?_)
            refine un (h := ?_)
            refine WL.y (hy := mv) (h := ?_)
            refine un (h := ?_)
            refine cl0 (hc := fun w hS => C_slices_Contains players y pA players.length pc w (hS.get (by repeat (first | exact Rds.ro | apply Rds.there))) (by omega)) (h := ?_)
            refine un (h := ?_)
            refine WL.y (hy := notB) (h := ?_)
            refine WL.y (hy := (by first | exact pkT | exact pkF)) (h := ?_)
            exact mg (by repeat (first | exact trivial | refine ⟨rfl, ?_⟩ | refine ⟨by rw [hb9]; rfl, ?_⟩)) (by repeat (first | exact SubL.nil | (apply SubL.cons; (repeat (first | exact At.here | apply At.there))) | exact SubL.refl _ | apply SubL.skip))
          · intro hb9
            repeat (first | refine un (h := ?_) | refine sk (h := ?_) | refine WL.y (hy := pkF) (h := ?_) | refine WL.y (hy := pkT) (h := ?_))
            exact mg (by repeat (first | exact trivial | refine ⟨rfl, ?_⟩ | refine ⟨by rw [hb9]; rfl, ?_⟩)) (by repeat (first | exact SubL.nil | (apply SubL.cons; (repeat (first | exact At.here | apply At.there))) | exact SubL.refl _ | apply SubL.skip))
          refine nl (h := ?_)
          refine q_seq (h := ?_)
          refine cd (by exact rfl) (fun h10 => ?_) (fun h10 => ?_)
          · skip
            have hni : inV players y = false := by
              by_cases e : y = -1
              · rw [e]; exact hno1
              · rw [inV_has, hasV]; simpa [e] using h10
            have hnx := rep_no (lucky := lucky) hy1 hni
            refine et (h := ?_)
            refine q_then_exit (h := ?_)
            refine q_blk_hit (h := ?_)
            refine q_seq (h := ?_)
            refine rg (h := ?_)
            refine WL.y (hy := addI) (h := ?_)
            refine WL.y (hy := mv) (h := ?_)
            refine nl (h := ?_)
            first
              | refine rn (x := v) ⟨v.k + 1, v.B, v.d⟩ ⟨by dsimp only; omega, by dsimp only; rw [hnx]; exact hv2⟩ (by dsimp only; omega) (by dsimp only; rw [hnx]; repeat (first | exact trivial | refine ⟨rfl, ?_⟩)) (by dsimp only; rw [hnx]; repeat (first | exact SubL.nil | (apply SubL.cons; (repeat (first | exact At.here | apply At.there))) | exact SubL.refl _ | apply SubL.skip))
              | refine rn (x := v) ⟨v.k + 1, if v.d = 1 then v.B else v.B.map (·.add (1 * 1)), v.d - 1⟩ ⟨by dsimp only; omega, by dsimp only; rw [hnx]; dsimp only; omega⟩ (by dsimp only; omega) (by dsimp only; rw [hnx]; repeat (first | exact trivial | refine ⟨rfl, ?_⟩)) (by dsimp only; rw [hnx]; repeat (first | exact SubL.nil | (apply SubL.cons; (repeat (first | exact At.here | apply At.there))) | exact SubL.refl _ | apply SubL.skip))
          · skip
            have hin : inV players y = true := by
              rw [inV_has, hasV]
              simp only [Bool.or_eq_false_iff, Bool.not_eq_false'] at h10
              exact h10.2
            have hoe2 := enI_at (xs := (repTo sheet players lucky v.k).1.set v.k (-1)) (k := v.k) (x := -1) (List.getElem?_set_self (by omega))
            refine skp (h := ?_)
            refine q_seq (h := ?_)
            refine sq (h := ?_)
            refine rg (h := ?_)
            refine WL.y (hy := mv) (h := ?_)
            refine WL.y (hy := mv) (h := ?_)
            refine WL.y (hy := ix (A := x1.1) (m := sheet.length)) (h := ?_)
            refine stE (A := x1.1) (k := v.k) (j := 0) (hk := hoe) (h := ?_)
            rw [enI_put]
            refine nl (h := ?_)
            refine q_seq (h := ?_)
            refine sq (h := ?_)
            refine rg (h := ?_)
            refine WL.y (hy := mv) (h := ?_)
            refine WL.y (hy := lenS) (h := ?_)
            refine WL.y (hy := gtr) (h := ?_)
            refine nl (h := ?_)
            refine q_seq (h := ?_)
            refine cd (by exact rfl) (fun h11 => ?_) (fun h11 => ?_)
            · skip
              have hul : (repTo sheet players lucky v.k).2 < lucky.length := by simp only [decide_eq_true_eq] at h11; omega
              obtain ⟨g, hv⟩ : ∃ g, lucky[(repTo sheet players lucky v.k).2]? = some g := ⟨_, List.getElem?_eq_getElem hul⟩
              have hve : (enI (lucky.drop (repTo sheet players lucky v.k).2))[0]? = some [.int .i64 g] := enI_at (by rw [List.getElem?_drop]; exact hv)
              have hnx := rep_some hy1 hin hv
              have hdr := enI_drop lucky (repTo sheet players lucky v.k).2
              refine WC.part (A := v.B) (m := lucky.length - (repTo sheet players lucky v.k).2) (cap := v.d) (by repeat (first | exact At.here | apply At.there)) 1 (lucky.length - (repTo sheet players lucky v.k).2) (by omega) (Nat.le_refl _) (by omega) ?_
              rw [hdr]
              refine rgD (by kernel_rfl) [(8, .own x1.1 x1.2 3 1 sheet.length (enI ((repTo sheet players lucky v.k).1.set v.k (-1)))), (1000000, .ro v.B 1 (lucky.length - (repTo sheet players lucky v.k).2) (enI (lucky.drop (repTo sheet players lucky v.k).2)))] (by repeat (first | exact HS.nil | (apply HS.keep; (repeat (first | exact At.here | apply At.there))) | (apply HS.ro; (repeat (first | exact Rds.ro | exact Rds.own | apply Rds.there))))) (h := ?_)
              refine tk 0 (hy := mv) (h := ?_)
              refine tk 1 (hy := mv) (h := ?_)
              refine tk 2 (hy := mv) (h := ?_)
              refine tk 3 (hy := ix (A := v.B) (m := lucky.length - (repTo sheet players lucky v.k).2)) (h := ?_)
              refine tk 4 (hy := ldE (A := v.B) (hk := hve)) (h := ?_)
              refine tk 5 (hy := mv) (h := ?_)
              refine tk 6 (hy := slV (A := v.B) (m := lucky.length - (repTo sheet players lucky v.k).2) (cap := v.d) (lo' := 1) (hi' := lucky.length - (repTo sheet players lucky v.k).2) (hh := .inl ⟨rfl, rfl⟩) (hl := .inr ⟨_, _, _, rfl, rfl, by omega, by omega, by omega⟩)) (h := ?_)
              refine tk 7 (hy := ix (A := x1.1) (m := sheet.length)) (h := ?_)
              refine one 8 (h := ?_)
              refine stE (A := x1.1) (k := v.k) (j := 0) (hk := hoe2) (h := ?_)
              rw [enI_put, List.set_set]
              refine nx (h := ?_)
              refine tk 9 (hy := asg) (h := ?_)
              refine dn (h := ?_)
              refine q_blk_norm (h := ?_)
              refine q_seq (h := ?_)
              refine rg (h := ?_)
              refine WL.y (hy := addI) (h := ?_)
              refine WL.y (hy := mv) (h := ?_)
              refine nl (h := ?_)
              first
                | refine rn (x := v) ⟨v.k + 1, v.B, v.d⟩ ⟨by dsimp only; omega, by dsimp only; rw [hnx]; exact hv2⟩ (by dsimp only; omega) (by dsimp only; rw [hnx]; repeat (first | exact trivial | refine ⟨rfl, ?_⟩)) (by dsimp only; rw [hnx]; repeat (first | exact SubL.nil | (apply SubL.cons; (repeat (first | exact At.here | apply At.there))) | exact SubL.refl _ | apply SubL.skip))
                | refine rn (x := v) ⟨v.k + 1, if v.d = 1 then v.B else v.B.map (·.add (1 * 1)), v.d - 1⟩ ⟨by dsimp only; omega, by dsimp only; rw [hnx]; dsimp only; omega⟩ (by dsimp only; omega) (by dsimp only; rw [hnx]; repeat (first | exact trivial | refine ⟨rfl, ?_⟩)) (by dsimp only; rw [hnx]; repeat (first | exact SubL.nil | (apply SubL.cons; (repeat (first | exact At.here | apply At.there))) | exact SubL.refl _ | apply SubL.skip))
            · skip
              have hul : lucky.length ≤ (repTo sheet players lucky v.k).2 := by simp only [decide_eq_false_iff_not] at h11; omega
              have hnx := rep_nil hy1 hin (List.getElem?_eq_none hul)
              refine skp (h := ?_)
              refine q_blk_norm (h := ?_)
              refine q_seq (h := ?_)
              refine rg (h := ?_)
              refine WL.y (hy := addI) (h := ?_)
              refine WL.y (hy := mv) (h := ?_)
              refine nl (h := ?_)
              first
                | refine rn (x := v) ⟨v.k + 1, v.B, v.d⟩ ⟨by dsimp only; omega, by dsimp only; rw [hnx]; exact hv2⟩ (by dsimp only; omega) (by dsimp only; rw [hnx]; repeat (first | exact trivial | refine ⟨rfl, ?_⟩)) (by dsimp only; rw [hnx]; repeat (first | exact SubL.nil | (apply SubL.cons; (repeat (first | exact At.here | apply At.there))) | exact SubL.refl _ | apply SubL.skip))
                | refine rn (x := v) ⟨v.k + 1, if v.d = 1 then v.B else v.B.map (·.add (1 * 1)), v.d - 1⟩ ⟨by dsimp only; omega, by dsimp only; rw [hnx]; dsimp only; omega⟩ (by dsimp only; omega) (by dsimp only; rw [hnx]; repeat (first | exact trivial | refine ⟨rfl, ?_⟩)) (by dsimp only; rw [hnx]; repeat (first | exact SubL.nil | (apply SubL.cons; (repeat (first | exact At.here | apply At.there))) | exact SubL.refl _ | apply SubL.skip))
        · skip
          have hkn3 : sheet.length = v.k := by simp only [decide_eq_false_iff_not] at h8; omega
          have hE : repR p sheet players lucky = ((repTo sheet players lucky v.k).1, 0) := by rw [repR, decide_eq_true hc, hlu, hkn3]; rfl
          have hrl := rep_len (sheet := sheet) (players := players) (lucky := lucky) v.k
          refine et (h := ?_)
          refine q_then_exit (h := ?_)
          refine q_then_exit (h := ?_)
          refine q_blk_hit (h := ?_)
          refine q_seq (h := ?_)
          refine sq (h := ?_)
          refine rg (h := ?_)
          refine WL.y (hy := mv) (h := ?_)
          refine WL.y (hy := asg) (h := ?_)
          refine WL.y (hy := asg) (h := ?_)
          refine nl (h := ?_)
          refine q_seq (h := ?_)
          refine rtn (h := ?_)
          refine q_ret (hR := ?_)
          rw [hE]
          exact fun w hS => ⟨x1, trivial, by dsimp only; rw [hrl]; rfl, by dsimp only; rw [hrl]; exact hS.sub (by repeat (first | exact SubL.nil | (apply SubL.cons; (repeat (first | exact At.here | apply At.there))) | exact SubL.refl _ | apply SubL.skip))⟩
theorem repR_len (p : Pl) (sheet players lucky : List Int) : (repR p sheet players lucky).1.length ≤ sheet.length := by
  unfold repR
  cases decide (chS p sheet = 0)
  · exact Nat.zero_le _
  · cases luckyV sheet players lucky
    · exact Nat.zero_le _
    · exact Nat.le_of_eq (rep_len _)
end Go.Proofs.Ytjkoaifjmcgpfaa
