/- Walks of draws, nine: sheets; players who withdraw. -/
import Derived.Test.YtjkoaifjmcgpfaaD8
namespace Go.Proofs.Ytjkoaifjmcgpfaa
open Go Go.RowKit

def numV (p : Pl) (y : Int) : Int := bif decide (y = -1) then -1 else perI p y
def isTo (p : Pl) (sheet : List Int) : Nat → Bool
  | 0 => true
  | k + 1 => isTo p sheet k && (match sheet[k]? with
    | some y => decide (y = -1) || !(decide (perI p y < 0) || inV (sheet.take k) y)
    | none => true)
theorem isTo_succ {p : Pl} {sheet : List Int} {k : Nat} {y : Int} (h : sheet[k]? = some y) : isTo p sheet (k + 1) = (isTo p sheet k && (decide (y = -1) || !(decide (perI p y < 0) || inV (sheet.take k) y))) := by rw [isTo, h]
theorem isTo_le {p : Pl} {sheet : List Int} {j : Nat} (h : isTo p sheet j = false) : ∀ {k : Nat}, j ≤ k → isTo p sheet k = false
  | 0, hk => by obtain rfl : j = 0 := by omega
                exact h
  | k + 1, hk => by
    by_cases e : j = k + 1
    · subst e; exact h
    · rw [isTo, isTo_le h (k := k) (by omega)]; rfl
theorem per_player {p : Pl} {y : Int} (h : 0 ≤ perI p y) : ∃ x, p.ps[(perI p y).toNat]? = some x ∧ x.player = y := by
  rcases idxF_spec (pAt p.ps fun x => decide (x.player = y)) p.ps.length with ⟨k, hk, he, hp, _⟩ | ⟨he, _⟩
  · have he' : perI p y = k := he
    obtain ⟨x, hx⟩ : ∃ x, p.ps[k]? = some x := ⟨_, List.getElem?_eq_getElem hk⟩
    rw [pAt_eq hx] at hp
    exact ⟨x, by rw [he', Int.toNat_natCast]; exact hx, of_decide_eq_true hp⟩
  · have he' : perI p y = -1 := he
    omega
theorem per_inj {p : Pl} {y y' : Int} (h : 0 ≤ perI p y) (he : perI p y = perI p y') : y = y' := by
  obtain ⟨x, hx, h1⟩ := per_player h
  obtain ⟨x', hx', h2⟩ := per_player (he ▸ h)
  rw [← he, hx] at hx'
  rw [← h1, Option.some.inj hx', h2]
theorem num_has {p : Pl} {l : List Int} {y : Int} (hy : 0 ≤ perI p y) (hb : y ≠ -1) : hasV (l.map (numV p)) (perI p y) = inV l y := by
  rw [Bool.eq_iff_iff, inV_iff, ← inV_has, inV_iff, List.mem_map]
  constructor
  · rintro ⟨z, hz, he⟩
    unfold numV at he
    by_cases h1 : z = -1
    · rw [decide_eq_true h1] at he
      have he' : (-1 : Int) = perI p y := he
      omega
    · rw [decide_eq_false h1] at he
      rw [per_inj hy he.symm]; exact hz
  · intro h
    exact ⟨y, h, by rw [numV, decide_eq_false hb]; rfl⟩
theorem prs_is (p : Pl) (sheet : List Int) : ∀ k, k ≤ sheet.length → prsTo p sheet k = bif isTo p sheet k then some ((sheet.take k).map (numV p)) else none
  | 0, _ => rfl
  | k + 1, hk => by
    have hy : sheet[k]? = some sheet[k] := List.getElem?_eq_getElem (by omega)
    rw [prsTo, prs_is p sheet k (by omega), isTo_succ hy]
    cases h1 : isTo p sheet k
    · rfl
    · simp only [cond_true, hy, Bool.true_and]
      rw [List.take_add_one, hy, List.map_append]
      unfold pr1
      by_cases hb : sheet[k] = -1
      · rw [decide_eq_true hb]
        show some _ = some _
        congr 2
        show -1 = numV p sheet[k]
        rw [numV, decide_eq_true hb]; rfl
      · rw [decide_eq_false hb]
        simp only [cond_false, Bool.false_or]
        by_cases hp : perI p sheet[k] < 0
        · rw [decide_eq_true hp]; rfl
        · rw [decide_eq_false hp, Bool.false_or, num_has (by omega) hb]
          cases inV (sheet.take k) sheet[k]
          · show some _ = some _
            congr 2
            show perI p sheet[k] = numV p sheet[k]
            rw [numV, decide_eq_false hb]; rfl
          · rfl
def isShV (p : Pl) (sheet : List Int) : Bool := isTo p sheet sheet.length && decide ((sheet.length : Int) = p.size)
def chS (p : Pl) (sheet : List Int) : Int := bif !pOk p then 60 else bif !isShV p sheet then 61 else 0
theorem pers_is (p : Pl) (sheet : List Int) : persV p sheet = bif isTo p sheet sheet.length then (sheet.map (numV p), decide ((sheet.length : Int) = p.size)) else ([], false) := by
  rw [persV, prs_is p sheet _ (Nat.le_refl _), List.take_length]
  cases isTo p sheet sheet.length
  · rfl
  · simp
theorem ch_is (p : Pl) (sheet : List Int) : chV p sheet = bif decide (chS p sheet = 0) then (sheet.map (numV p), 0) else ([], chS p sheet) := by
  unfold chV chS isShV
  rw [pers_is]
  cases pOk p <;> cases isTo p sheet sheet.length <;> cases decide ((sheet.length : Int) = p.size) <;> rfl
set_option maxRecDepth 100000 in
theorem C_IsSheet (p : Pl) (a : PA) (sheet : List Int) (sA : Option Addr) (sc : Nat) (hn : sheet.length ≤ 1000) (hsc : sheet.length ≤ sc) (w : World) (h : PRd w p a) (hs : Rd w sA 1 sheet.length (enI sheet)) : C0 Try.prog 23 [p.val a, .slice sA sheet.length sc] w (.bool (isShV p sheet)) := by
  obtain ⟨hp, hl, hpn, hln, hpc⟩ := h
  refine ⟨en Try.func23 Try.ntmps23 ((((St.init w).share (e := .ro a.pA 3 p.ps.length (encPs p.ps)) hp rfl rfl rfl).share (e := .ro a.lA 1 p.lots.length (enI p.lots)) hl rfl rfl rfl).share (e := .ro sA 1 sheet.length (enI sheet)) hs rfl rfl rfl) (h := fun F => ?_)⟩
  refine sq (h := ?_)
  refine rg (h := ?_)
  refine bxA (h := fun b0 => ?_)
  refine WL.y (hy := asg) (h := ?_)
  refine nl (h := ?_)
  refine q_seq (h := ?_)
  refine sq (h := ?_)
  refine sq (h := ?_)
  refine rg (h := ?_)
  refine WL.y (hy := asg) (h := ?_)
  refine nl (h := ?_)
  refine q_seq (h := ?_)
  refine bk (h := ?_)
  refine lp (X := IZ) (I := fun z => z.k ≤ sheet.length ∧ isTo p sheet z.k = true) (le := fun z => [(1, .slice sA sheet.length sc), (2, .pointer (some ⟨b0, 0, none⟩)), (5, .int .i64 z.k)]) (Le := fun _ => .ro sA 1 sheet.length (enI sheet) :: plL p a b0) (μ := fun z => sheet.length - z.k) ⟨0⟩ ⟨Nat.zero_le _, rfl⟩ (by repeat (first | exact trivial | refine ⟨rfl, ?_⟩)) (by repeat (first | exact SubL.nil | (apply SubL.cons; (repeat (first | exact At.here | apply At.there))) | exact SubL.refl _ | apply SubL.skip)) (fun z hz => ?_)
  obtain ⟨hz1, hz2⟩ := hz
  refine sq (h := ?_)
  refine sq (h := ?_)
  refine rg (h := ?_)
  refine WL.y (hy := mv) (h := ?_)
  refine WL.y (hy := mv) (h := ?_)
  refine WL.y (hy := lenS) (h := ?_)
  refine WL.y (hy := lss) (h := ?_)
  refine nl (h := ?_)
  refine q_seq (h := ?_)
  refine cd (by exact rfl) (fun h0 => ?_) (fun h0 => ?_)
  · skip
    have hkn : z.k < sheet.length := by simp only [decide_eq_true_eq] at h0; omega
    obtain ⟨y, hy1⟩ : ∃ y, sheet[z.k]? = some y := ⟨_, List.getElem?_eq_getElem hkn⟩
    have hye := enI_at hy1
    have hst := isTo_succ (p := p) hy1
    have htk : List.take z.k (enI sheet) = enI (sheet.take z.k) := by unfold enI; rw [List.map_take]
    refine skp (h := ?_)
    refine q_seq (h := ?_)
    refine sq (h := ?_)
    refine bk (h := ?_)
    refine ct (X := Bool) (fun s => s = (!decide (y = -1) && (decide (perI p y < 0) || inV (sheet.take z.k) y))) (fun s => [(1, .slice sA sheet.length sc), (2, .pointer (some ⟨b0, 0, none⟩)), (5, .int .i64 z.k), (35, .bool s)]) (fun _ => .ro sA 1 sheet.length (enI sheet) :: plL p a b0) (h1 := ?_) (h2 := ?_)
    · skip
      refine WC.pre (A := sA) (m := sheet.length) (by repeat (first | exact At.here | apply At.there)) z.k (by omega) ?_
      rw [htk]
      refine rgD0 (by kernel_rfl) (h := ?_)
      refine tk 0 (hy := mv) (h := ?_)
      refine tk 1 (hy := mv) (h := ?_)
      refine tk 2 (hy := ix (A := sA) (m := sheet.length)) (h := ?_)
      refine tk 3 (hy := ldE (A := sA) (hk := hye)) (h := ?_)
      refine tk 4 (hy := neq) (h := ?_)
      refine tk 5 (hy := mv) (h := ?_)
      refine brH (g := 17) (by exact rfl) (fun hb1 => ?_) (fun hb1 => ?_)
      · skip
        refine tk 6 (hy := (by first | exact ldA | exact ldEA)) (h := ?_)
        refine tk 7 (hy := mv) (h := ?_)
        refine tk 8 (hy := mv) (h := ?_)
        refine tk 9 (hy := ix (A := sA) (m := sheet.length)) (h := ?_)
        refine tk 10 (hy := ldE (A := sA) (hk := hye)) (h := ?_)
        refine one 11 (h := ?_)
        refine un (h := ?_)
        refine cl0 (hc := fun w hS => C_Number p a y w ⟨hS.get (by repeat (first | exact Rds.ro | apply Rds.there)), hS.get (by repeat (first | exact Rds.ro | apply Rds.there)), hpn, hln, hpc⟩) (h := ?_)
        refine nx (h := ?_)
        refine tk 12 (hy := lss) (h := ?_)
        refine tk 13 (hy := mv) (h := ?_)
        refine brH (g := 25) (by exact rfl) (fun hb2 => ?_) (fun hb2 => ?_)
        · skip
          refine tkS 14 (h := ?_)
          refine tkS 15 (h := ?_)
          refine tkS 16 (h := ?_)
          refine tkS 17 (h := ?_)
          refine tkS 18 (h := ?_)
          refine tkS 19 (h := ?_)
          refine tkS 20 (h := ?_)
          refine tkS 21 (h := ?_)
          refine tk 22 (hy := (by first | exact pkT | exact pkF)) (h := ?_)
          refine tk 23 (hy := (by first | exact pkT | exact pkF)) (h := ?_)
          refine dn (h := ?_)
          refine ctnL _ (by repeat (first | exact trivial | refine ⟨rfl, ?_⟩)) (by repeat (first | exact SubL.nil | (apply SubL.cons; (repeat (first | exact At.here | apply At.there))) | exact SubL.refl _ | apply SubL.skip)) ?_
          simp only [*]
          try simp
        · skip
          refine tk 14 (hy := mv) (h := ?_)
          refine tk 15 (hy := mv) (h := ?_)
          refine tk 16 (hy := slP (A := sA) (m := sheet.length) (cap := sc) (hi' := z.k)) (h := ?_)
          refine tk 17 (hy := mv) (h := ?_)
          refine tk 18 (hy := mv) (h := ?_)
          refine tk 19 (hy := ix (A := sA) (m := sheet.length)) (h := ?_)
          refine tk 20 (hy := ldE (A := sA) (hk := hye)) (h := ?_)
          refine one 21 (h := ?_)
          refine un (h := ?_)
          refine cl0 (hc := fun w hS => C_In (sheet.take z.k) y sA z.k sc (by omega) w (hS.get (by repeat (first | exact Rds.ro | apply Rds.there)))) (h := ?_)
          refine nx (h := ?_)
          refine tk 22 (hy := (by first | exact pkT | exact pkF)) (h := ?_)
          refine tk 23 (hy := (by first | exact pkT | exact pkF)) (h := ?_)
          refine dn (h := ?_)
          refine ctnL _ (by repeat (first | exact trivial | refine ⟨rfl, ?_⟩)) (by repeat (first | exact SubL.nil | (apply SubL.cons; (repeat (first | exact At.here | apply At.there))) | exact SubL.refl _ | apply SubL.skip)) ?_
          simp only [*]
          try simp
      · skip
        refine tkS 6 (h := ?_)
        refine tkS 7 (h := ?_)
        refine tkS 8 (h := ?_)
        refine tkS 9 (h := ?_)
        refine tkS 10 (h := ?_)
        refine tkS 11 (h := ?_)
        refine tkS 12 (h := ?_)
        refine tkS 13 (h := ?_)
        refine tkS 14 (h := ?_)
        refine tkS 15 (h := ?_)
        refine tkS 16 (h := ?_)
        refine tkS 17 (h := ?_)
        refine tkS 18 (h := ?_)
        refine tkS 19 (h := ?_)
        refine tkS 20 (h := ?_)
        refine tkS 21 (h := ?_)
        refine tkS 22 (h := ?_)
        refine tk 23 (hy := (by first | exact pkT | exact pkF)) (h := ?_)
        refine dn (h := ?_)
        refine ctnL _ (by repeat (first | exact trivial | refine ⟨rfl, ?_⟩)) (by repeat (first | exact SubL.nil | (apply SubL.cons; (repeat (first | exact At.here | apply At.there))) | exact SubL.refl _ | apply SubL.skip)) ?_
        simp only [*]
        try simp
    intro s hs'
    refine cd (by exact rfl) (fun h3 => ?_) (fun h3 => ?_)
    · skip
      have hbad : isTo p sheet (z.k + 1) = false := by rw [hst, hz2, Bool.true_and, ← Bool.not_eq_true', Bool.not_or, Bool.not_not]; exact hs'.symm.trans h3
      have hE : isShV p sheet = false := by rw [isShV, isTo_le hbad (by omega)]; rfl
      refine sq (h := ?_)
      refine rg (h := ?_)
      refine WL.y (hy := asg) (h := ?_)
      refine nl (h := ?_)
      refine q_seq (h := ?_)
      refine rtn (h := ?_)
      refine q_blk_ret (h := ?_)
      refine q_then_ret (h := ?_)
      refine q_then_ret (h := ?_)
      refine q_blk_ret (h := ?_)
      refine q_then_ret (h := ?_)
      refine q_ret (hR := ?_)
      rw [hE]
      exact fun w hS => ⟨rfl, hS.sub (by repeat (first | exact SubL.nil | (apply SubL.cons; (repeat (first | exact At.here | apply At.there))) | exact SubL.refl _ | apply SubL.skip))⟩
    · skip
      have hgood : isTo p sheet (z.k + 1) = true := by rw [hst, hz2, Bool.true_and, ← Bool.not_eq_false', Bool.not_or, Bool.not_not]; exact hs'.symm.trans h3
      refine skp (h := ?_)
      refine q_blk_norm (h := ?_)
      refine q_seq (h := ?_)
      refine rg (h := ?_)
      refine WL.y (hy := mv) (h := ?_)
      refine WL.y (hy := addI) (h := ?_)
      refine WL.y (hy := asg) (h := ?_)
      refine nl (h := ?_)
      refine rn (x := z) ⟨z.k + 1⟩ ⟨by dsimp only; omega, hgood⟩ (by dsimp only; omega) (by repeat (first | exact trivial | refine ⟨rfl, ?_⟩)) (by repeat (first | exact SubL.nil | (apply SubL.cons; (repeat (first | exact At.here | apply At.there))) | exact SubL.refl _ | apply SubL.skip))
  · skip
    have hkn : z.k = sheet.length := by simp only [decide_eq_false_iff_not] at h0; omega
    have hE : isShV p sheet = decide ((sheet.length : Int) = p.size) := by rw [isShV, ← hkn, hz2]; rfl
    refine et (h := ?_)
    refine q_then_exit (h := ?_)
    refine q_then_exit (h := ?_)
    refine q_blk_hit (h := ?_)
    refine q_seq (h := ?_)
    refine sq (h := ?_)
    refine rg (h := ?_)
    refine WL.y (hy := mv) (h := ?_)
    refine WL.y (hy := lenS) (h := ?_)
    refine WL.y (hy := (by first | exact fa | exact faE)) (h := ?_)
    refine WL.y (hy := (by first | exact ld | exact ldE)) (h := ?_)
    refine WL.y (hy := eql) (h := ?_)
    refine WL.y (hy := asg) (h := ?_)
    refine nl (h := ?_)
    refine q_seq (h := ?_)
    refine rtn (h := ?_)
    refine q_ret (hR := ?_)
    rw [hE]
    exact fun w hS => ⟨rfl, hS.sub (by repeat (first | exact SubL.nil | (apply SubL.cons; (repeat (first | exact At.here | apply At.there))) | exact SubL.refl _ | apply SubL.skip))⟩
theorem C_CheckSheet (p : Pl) (a : PA) (hz0 : -9223372036854775808 ≤ p.size ∧ p.size ≤ 9223372036854775807) (sheet : List Int) (sA : Option Addr) (sc : Nat) (hn : sheet.length ≤ 1000) (hsc : sheet.length ≤ sc) (w : World) (h : PRd w p a) (hs : Rd w sA 1 sheet.length (enI sheet)) : C0 Try.prog 51 [p.val a, .slice sA sheet.length sc] w (.int .i64 (chS p sheet)) := by
  obtain ⟨hp, hl, hpn, hln, hpc⟩ := h
  refine ⟨en Try.func51 Try.ntmps51 ((((St.init w).share (e := .ro a.pA 3 p.ps.length (encPs p.ps)) hp rfl rfl rfl).share (e := .ro a.lA 1 p.lots.length (enI p.lots)) hl rfl rfl rfl).share (e := .ro sA 1 sheet.length (enI sheet)) hs rfl rfl rfl) (h := fun F => ?_)⟩
  refine sq (h := ?_)
  refine rg (h := ?_)
  refine bxA (h := fun b0 => ?_)
  refine WL.y (hy := asg) (h := ?_)
  refine nl (h := ?_)
  refine q_seq (h := ?_)
  refine sq (h := ?_)
  refine sq (h := ?_)
  refine rg (h := ?_)
  refine WL.y (hy := (by first | exact ldA | exact ldEA)) (h := ?_)
  refine cl0 (hc := fun w hS => C_ref06_Check p a hz0 w ⟨hS.get, hS.get, hpn, hln, hpc⟩) (h := ?_)
  refine WL.y (hy := neq) (h := ?_)
  refine nl (h := ?_)
  refine q_seq (h := ?_)
  refine cd (by exact rfl) (fun h0 => ?_) (fun h0 => ?_)
  · skip
    have hb := chkP_no h0
    have hE : chS p sheet = 60 := by rw [chS, hb]; rfl
    refine sq (h := ?_)
    refine rg (h := ?_)
    refine WL.y (hy := asg) (h := ?_)
    refine nl (h := ?_)
    refine q_seq (h := ?_)
    refine rtn (h := ?_)
    refine q_then_ret (h := ?_)
    refine q_ret (hR := ?_)
    rw [hE]
    exact fun w hS => ⟨rfl, hS.sub (by repeat (first | exact SubL.nil | (apply SubL.cons; (repeat (first | exact At.here | apply At.there))) | exact SubL.refl _ | apply SubL.skip))⟩
  · skip
    obtain ⟨hq, hb⟩ := chkP_ok h0
    refine skp (h := ?_)
    refine q_seq (h := ?_)
    refine sq (h := ?_)
    refine sq (h := ?_)
    refine rg (h := ?_)
    refine WL.y (hy := (by first | exact ldA | exact ldEA)) (h := ?_)
    refine WL.y (hy := mv) (h := ?_)
    refine cl0 (hc := fun w hS => C_IsSheet p a sheet sA sc hn hsc w ⟨hS.get, hS.get, hpn, hln, hpc⟩ hS.get) (h := ?_)
    refine WL.y (hy := notB) (h := ?_)
    refine nl (h := ?_)
    refine q_seq (h := ?_)
    refine cd (by exact rfl) (fun h1 => ?_) (fun h1 => ?_)
    · skip
      have hE : chS p sheet = 61 := by rw [chS, hb, show (!isShV p sheet) = true from h1]; rfl
      refine sq (h := ?_)
      refine rg (h := ?_)
      refine WL.y (hy := asg) (h := ?_)
      refine nl (h := ?_)
      refine q_seq (h := ?_)
      refine rtn (h := ?_)
      refine q_then_ret (h := ?_)
      refine q_ret (hR := ?_)
      rw [hE]
      exact fun w hS => ⟨rfl, hS.sub (by repeat (first | exact SubL.nil | (apply SubL.cons; (repeat (first | exact At.here | apply At.there))) | exact SubL.refl _ | apply SubL.skip))⟩
    · skip
      have hE : chS p sheet = 0 := by rw [chS, hb, show (!isShV p sheet) = false from h1]; rfl
      refine skp (h := ?_)
      refine q_seq (h := ?_)
      refine sq (h := ?_)
      refine rg (h := ?_)
      refine WL.y (hy := asg) (h := ?_)
      refine nl (h := ?_)
      refine q_seq (h := ?_)
      refine rtn (h := ?_)
      refine q_ret (hR := ?_)
      rw [hE]
      exact fun w hS => ⟨rfl, hS.sub (by repeat (first | exact SubL.nil | (apply SubL.cons; (repeat (first | exact At.here | apply At.there))) | exact SubL.refl _ | apply SubL.skip))⟩
/-! #### who is lucky -/
def plBad (sheet : List Int) (n : Int) : Bool := decide (n = -1) || !inV sheet n
def lkBad (sheet lucky : List Int) (k : Nat) (n : Int) : Bool := !win n 0 999 || inV sheet n || inV (lucky.take k) n
def lkTo (sheet lucky : List Int) : Nat → Bool
  | 0 => true
  | k + 1 => lkTo sheet lucky k && (match lucky[k]? with | some n => !lkBad sheet lucky k n | none => true)
theorem lkTo_succ {sheet lucky : List Int} {k : Nat} {n : Int} (h : lucky[k]? = some n) : lkTo sheet lucky (k + 1) = (lkTo sheet lucky k && !lkBad sheet lucky k n) := by rw [lkTo, h]
theorem lkTo_le {sheet lucky : List Int} {j : Nat} (h : lkTo sheet lucky j = false) : ∀ {k : Nat}, j ≤ k → lkTo sheet lucky k = false
  | 0, hk => by obtain rfl : j = 0 := by omega
                exact h
  | k + 1, hk => by
    by_cases e : j = k + 1
    · subst e; exact h
    · rw [lkTo, lkTo_le h (k := k) (by omega)]; rfl
def luckyV (sheet players lucky : List Int) : Bool := !players.any (plBad sheet) && lkTo sheet lucky lucky.length
theorem any_take {l : List Int} {q : Int → Bool} {k : Nat} {n : Int} (h : l[k]? = some n) : (l.take (k + 1)).any q = ((l.take k).any q || q n) := by
  rw [List.take_add_one, h, List.any_append]; simp
theorem any_le {l : List Int} {q : Int → Bool} {n : Int} (h : n ∈ l) (hq : q n = true) : l.any q = true := List.any_eq_true.2 ⟨n, h, hq⟩
set_option maxRecDepth 100000 in
set_option maxHeartbeats 1000000 in
theorem C_AreLucky (sheet players lucky : List Int) (sA pA lA : Option Addr) (sc pc lc : Nat) (hn : sheet.length ≤ 1000 ∧ players.length ≤ 1000 ∧ lucky.length ≤ 1000) (hlc : lucky.length ≤ lc) (w : World) (hs : Rd w sA 1 sheet.length (enI sheet)) (hp : Rd w pA 1 players.length (enI players)) (hl : Rd w lA 1 lucky.length (enI lucky)) :
    C0 Try.prog 76 [.slice sA sheet.length sc, .slice pA players.length pc, .slice lA lucky.length lc] w (.bool (luckyV sheet players lucky)) := by
  refine ⟨en Try.func76 Try.ntmps76 ((((St.init w).share (e := .ro sA 1 sheet.length (enI sheet)) hs rfl rfl rfl).share (e := .ro pA 1 players.length (enI players)) hp rfl rfl rfl).share (e := .ro lA 1 lucky.length (enI lucky)) hl rfl rfl rfl) (h := fun F => ?_)⟩
  refine sq (h := ?_)
  refine rg (h := ?_)
  refine WL.y (hy := asg) (h := ?_)
  refine nl (h := ?_)
  refine q_seq (h := ?_)
  refine sq (h := ?_)
  refine sq (h := ?_)
  refine rg (h := ?_)
  refine WL.y (hy := asg) (h := ?_)
  refine nl (h := ?_)
  refine q_seq (h := ?_)
  refine bk (h := ?_)
  refine lp (X := IZ) (I := fun z => z.k ≤ players.length ∧ (players.take z.k).any (plBad sheet) = false) (le := fun z => [(0, .slice sA sheet.length sc), (1, .slice pA players.length pc), (2, .slice lA lucky.length lc), (7, .int .i64 z.k)]) (Le := fun _ => [.ro sA 1 sheet.length (enI sheet), .ro pA 1 players.length (enI players), .ro lA 1 lucky.length (enI lucky)]) (μ := fun z => players.length - z.k) ⟨0⟩ ⟨Nat.zero_le _, rfl⟩ (by repeat (first | exact trivial | refine ⟨rfl, ?_⟩)) (by repeat (first | exact SubL.nil | (apply SubL.cons; (repeat (first | exact At.here | apply At.there))) | exact SubL.refl _ | apply SubL.skip)) (fun z hz => ?_)
  obtain ⟨hz1, hz2⟩ := hz
  refine sq (h := ?_)
  refine sq (h := ?_)
  refine rg (h := ?_)
  refine WL.y (hy := mv) (h := ?_)
  refine WL.y (hy := mv) (h := ?_)
  refine WL.y (hy := lenS) (h := ?_)
  refine WL.y (hy := lss) (h := ?_)
  refine nl (h := ?_)
  refine q_seq (h := ?_)
  refine cd (by exact rfl) (fun h0 => ?_) (fun h0 => ?_)
  · skip
    have hkn : z.k < players.length := by simp only [decide_eq_true_eq] at h0; omega
    obtain ⟨y, hy1⟩ : ∃ y, players[z.k]? = some y := ⟨_, List.getElem?_eq_getElem hkn⟩
    have hye := enI_at hy1
    refine skp (h := ?_)
    refine q_seq (h := ?_)
    refine sq (h := ?_)
    refine bk (h := ?_)
    refine sq (h := ?_)
    refine rg (h := ?_)
    refine WL.y (hy := mv) (h := ?_)
    refine WL.y (hy := mv) (h := ?_)
    refine WL.y (hy := ix (A := pA) (m := players.length)) (h := ?_)
    refine WL.y (hy := ldE (A := pA) (hk := hye)) (h := ?_)
    refine WL.y (hy := eql) (h := ?_)
    refine WL.y (hy := mv) (h := ?_)
    apply brOr 8 20 28 (by exact rfl)
    · intro hb1
      refine un (h := ?_)
      refine WL.y (hy := mv) (h := ?_)
      refine un (h := ?_)
      refine WL.y (hy := mv) (h := ?_)
      refine un (h := ?_)
      refine WL.y (hy := mv) (h := ?_)
      refine un (h := ?_)
      refine WL.y (hy := ix (A := pA) (m := players.length)) (h := ?_)
      refine un (h := ?_)
      refine WL.y (hy := ldE (A := pA) (hk := hye)) (h := ?_)
      refine un (h := ?_)
      refine cl0 (hc := fun w hS => C_In sheet y sA sheet.length sc (by omega) w (hS.get (by repeat (first | exact Rds.ro | apply Rds.there)))) (h := ?_)
      refine un (h := ?_)
      refine WL.y (hy := notB) (h := ?_)
      refine WL.y (hy := (by first | exact pkT | exact pkF)) (h := ?_)
      exact mg (by repeat (first | exact trivial | refine ⟨rfl, ?_⟩ | refine ⟨by rw [hb1]; rfl, ?_⟩)) (by repeat (first | exact SubL.nil | (apply SubL.cons; (repeat (first | exact At.here | apply At.there))) | exact SubL.refl _ | apply SubL.skip))
    · intro hb1
      repeat (first | refine un (h := ?_) | refine sk (h := ?_) | refine WL.y (hy := pkF) (h := ?_) | refine WL.y (hy := pkT) (h := ?_))
      exact mg (by repeat (first | exact trivial | refine ⟨rfl, ?_⟩ | refine ⟨by rw [hb1]; rfl, ?_⟩)) (by repeat (first | exact SubL.nil | (apply SubL.cons; (repeat (first | exact At.here | apply At.there))) | exact SubL.refl _ | apply SubL.skip))
    refine nl (h := ?_)
    refine q_seq (h := ?_)
    refine cd (by exact rfl) (fun h2 => ?_) (fun h2 => ?_)
    · skip
      have hE : luckyV sheet players lucky = false := by rw [luckyV, any_le (List.mem_of_getElem? hy1) h2]; rfl
      refine sq (h := ?_)
      refine rg (h := ?_)
      refine WL.y (hy := asg) (h := ?_)
      refine nl (h := ?_)
      refine q_seq (h := ?_)
      refine rtn (h := ?_)
      refine q_blk_ret (h := ?_)
      refine q_then_ret (h := ?_)
      refine q_then_ret (h := ?_)
      refine q_blk_ret (h := ?_)
      refine q_then_ret (h := ?_)
      refine q_ret (hR := ?_)
      rw [hE]
      exact fun w hS => ⟨rfl, hS.sub (by repeat (first | exact SubL.nil | (apply SubL.cons; (repeat (first | exact At.here | apply At.there))) | exact SubL.refl _ | apply SubL.skip))⟩
    · skip
      have hpb : plBad sheet y = false := h2
      refine skp (h := ?_)
      refine q_blk_norm (h := ?_)
      refine q_seq (h := ?_)
      refine rg (h := ?_)
      refine WL.y (hy := mv) (h := ?_)
      refine WL.y (hy := addI) (h := ?_)
      refine WL.y (hy := asg) (h := ?_)
      refine nl (h := ?_)
      refine rn (x := z) ⟨z.k + 1⟩ ⟨by dsimp only; omega, by rw [any_take hy1, hz2, hpb]; rfl⟩ (by dsimp only; omega) (by repeat (first | exact trivial | refine ⟨rfl, ?_⟩)) (by repeat (first | exact SubL.nil | (apply SubL.cons; (repeat (first | exact At.here | apply At.there))) | exact SubL.refl _ | apply SubL.skip))
  · skip
    have hkn : z.k = players.length := by simp only [decide_eq_false_iff_not] at h0; omega
    rw [hkn, List.take_length] at hz2
    refine et (h := ?_)
    refine q_then_exit (h := ?_)
    refine q_then_exit (h := ?_)
    refine q_blk_hit (h := ?_)
    refine q_seq (h := ?_)
    refine sq (h := ?_)
    refine sq (h := ?_)
    refine rg (h := ?_)
    refine WL.y (hy := asg) (h := ?_)
    refine nl (h := ?_)
    refine q_seq (h := ?_)
    refine bk (h := ?_)
    refine lp (X := IZ) (I := fun u => u.k ≤ lucky.length ∧ lkTo sheet lucky u.k = true) (le := fun u => [(0, .slice sA sheet.length sc), (1, .slice pA players.length pc), (2, .slice lA lucky.length lc), (8, .int .i64 u.k)]) (Le := fun _ => [.ro sA 1 sheet.length (enI sheet), .ro pA 1 players.length (enI players), .ro lA 1 lucky.length (enI lucky)]) (μ := fun u => lucky.length - u.k) ⟨0⟩ ⟨Nat.zero_le _, rfl⟩ (by repeat (first | exact trivial | refine ⟨rfl, ?_⟩)) (by repeat (first | exact SubL.nil | (apply SubL.cons; (repeat (first | exact At.here | apply At.there))) | exact SubL.refl _ | apply SubL.skip)) (fun u hu => ?_)
    obtain ⟨hu1, hu2⟩ := hu
    refine sq (h := ?_)
    refine sq (h := ?_)
    refine rg (h := ?_)
    refine WL.y (hy := mv) (h := ?_)
    refine WL.y (hy := mv) (h := ?_)
    refine WL.y (hy := lenS) (h := ?_)
    refine WL.y (hy := lss) (h := ?_)
    refine nl (h := ?_)
    refine q_seq (h := ?_)
    refine cd (by exact rfl) (fun h3 => ?_) (fun h3 => ?_)
    · skip
      have hkn2 : u.k < lucky.length := by simp only [decide_eq_true_eq] at h3; omega
      obtain ⟨x, hx1⟩ : ∃ y, lucky[u.k]? = some y := ⟨_, List.getElem?_eq_getElem hkn2⟩
      have hxe := enI_at hx1
      have hst := lkTo_succ (sheet := sheet) hx1
      have htk : List.take u.k (enI lucky) = enI (lucky.take u.k) := by unfold enI; rw [List.map_take]
      refine skp (h := ?_)
      refine q_seq (h := ?_)
      refine sq (h := ?_)
      refine bk (h := ?_)
      refine ct (X := Bool) (fun s => s = lkBad sheet lucky u.k x) (fun s => [(0, .slice sA sheet.length sc), (1, .slice pA players.length pc), (2, .slice lA lucky.length lc), (8, .int .i64 u.k), (58, .bool s)]) (fun _ => [.ro sA 1 sheet.length (enI sheet), .ro pA 1 players.length (enI players), .ro lA 1 lucky.length (enI lucky)]) (h1 := ?_) (h2 := ?_)
      · skip
        refine WC.pre (A := lA) (m := lucky.length) (by repeat (first | exact At.here | apply At.there)) u.k (by omega) ?_
        rw [htk]
        refine rgD0 (by kernel_rfl) (h := ?_)
        refine tk 0 (hy := mv) (h := ?_)
        refine tk 1 (hy := mv) (h := ?_)
        refine tk 2 (hy := ix (A := lA) (m := lucky.length)) (h := ?_)
        refine tk 3 (hy := ldE (A := lA) (hk := hxe)) (h := ?_)
        refine one 4 (h := ?_)
        refine cl0 (hc := fun w hS => C_ref06_within _ _ _ w) (h := ?_)
        refine nx (h := ?_)
        refine tk 5 (hy := notB) (h := ?_)
        refine tk 6 (hy := mv) (h := ?_)
        refine brH (g := 41) (by exact rfl) (fun hb4 => ?_) (fun hb4 => ?_)
        · skip
          refine tkS 7 (h := ?_)
          refine tkS 8 (h := ?_)
          refine tkS 9 (h := ?_)
          refine tkS 10 (h := ?_)
          refine tkS 11 (h := ?_)
          refine tkS 12 (h := ?_)
          refine tk 13 (hy := (by first | exact pkT | exact pkF)) (h := ?_)
          refine tk 14 (hy := mv) (h := ?_)
          refine tkS 15 (h := ?_)
          refine tkS 16 (h := ?_)
          refine tkS 17 (h := ?_)
          refine tkS 18 (h := ?_)
          refine tkS 19 (h := ?_)
          refine tkS 20 (h := ?_)
          refine tkS 21 (h := ?_)
          refine tkS 22 (h := ?_)
          refine tk 23 (hy := (by first | exact pkT | exact pkF)) (h := ?_)
          refine dn (h := ?_)
          refine ctnL _ (by repeat (first | exact trivial | refine ⟨rfl, ?_⟩)) (by repeat (first | exact SubL.nil | (apply SubL.cons; (repeat (first | exact At.here | apply At.there))) | exact SubL.refl _ | apply SubL.skip)) ?_
          simp only [lkBad, *]
          try simp
        · skip
          refine tk 7 (hy := mv) (h := ?_)
          refine tk 8 (hy := mv) (h := ?_)
          refine tk 9 (hy := mv) (h := ?_)
          refine tk 10 (hy := ix (A := lA) (m := lucky.length)) (h := ?_)
          refine tk 11 (hy := ldE (A := lA) (hk := hxe)) (h := ?_)
          refine one 12 (h := ?_)
          refine un (h := ?_)
          refine cl0 (hc := fun w hS => C_In sheet x sA sheet.length sc (by omega) w (hS.get (by repeat (first | exact Rds.ro | apply Rds.there)))) (h := ?_)
          refine nx (h := ?_)
          refine tk 13 (hy := (by first | exact pkT | exact pkF)) (h := ?_)
          refine tk 14 (hy := mv) (h := ?_)
          refine brH (g := 49) (by exact rfl) (fun hb5 => ?_) (fun hb5 => ?_)
          · skip
            refine tkS 15 (h := ?_)
            refine tkS 16 (h := ?_)
            refine tkS 17 (h := ?_)
            refine tkS 18 (h := ?_)
            refine tkS 19 (h := ?_)
            refine tkS 20 (h := ?_)
            refine tkS 21 (h := ?_)
            refine tkS 22 (h := ?_)
            refine tk 23 (hy := (by first | exact pkT | exact pkF)) (h := ?_)
            refine dn (h := ?_)
            refine ctnL _ (by repeat (first | exact trivial | refine ⟨rfl, ?_⟩)) (by repeat (first | exact SubL.nil | (apply SubL.cons; (repeat (first | exact At.here | apply At.there))) | exact SubL.refl _ | apply SubL.skip)) ?_
            simp only [lkBad, *]
            try simp
          · skip
            refine tk 15 (hy := mv) (h := ?_)
            refine tk 16 (hy := mv) (h := ?_)
            refine tk 17 (hy := slP (A := lA) (m := lucky.length) (cap := lc) (hi' := u.k)) (h := ?_)
            refine tk 18 (hy := mv) (h := ?_)
            refine tk 19 (hy := mv) (h := ?_)
            refine tk 20 (hy := ix (A := lA) (m := lucky.length)) (h := ?_)
            refine tk 21 (hy := ldE (A := lA) (hk := hxe)) (h := ?_)
            refine one 22 (h := ?_)
            refine un (h := ?_)
            refine cl0 (hc := fun w hS => C_In (lucky.take u.k) x lA u.k lc (by omega) w (hS.get (by repeat (first | exact Rds.ro | apply Rds.there)))) (h := ?_)
            refine nx (h := ?_)
            refine tk 23 (hy := (by first | exact pkT | exact pkF)) (h := ?_)
            refine dn (h := ?_)
            refine ctnL _ (by repeat (first | exact trivial | refine ⟨rfl, ?_⟩)) (by repeat (first | exact SubL.nil | (apply SubL.cons; (repeat (first | exact At.here | apply At.there))) | exact SubL.refl _ | apply SubL.skip)) ?_
            simp only [lkBad, *]
            try simp
      intro s hs'
      refine cd (by exact rfl) (fun h6 => ?_) (fun h6 => ?_)
      · skip
        have hE : luckyV sheet players lucky = false := by rw [luckyV, lkTo_le (j := u.k + 1) (by rw [hst, ← hs', h6]; simp) (by omega), Bool.and_false]
        refine sq (h := ?_)
        refine rg (h := ?_)
        refine WL.y (hy := asg) (h := ?_)
        refine nl (h := ?_)
        refine q_seq (h := ?_)
        refine rtn (h := ?_)
        refine q_blk_ret (h := ?_)
        refine q_then_ret (h := ?_)
        refine q_then_ret (h := ?_)
        refine q_blk_ret (h := ?_)
        refine q_then_ret (h := ?_)
        refine q_ret (hR := ?_)
        rw [hE]
        exact fun w hS => ⟨rfl, hS.sub (by repeat (first | exact SubL.nil | (apply SubL.cons; (repeat (first | exact At.here | apply At.there))) | exact SubL.refl _ | apply SubL.skip))⟩
      · skip
        have hgood : lkTo sheet lucky (u.k + 1) = true := by rw [hst, hu2, ← hs', h6]; rfl
        refine skp (h := ?_)
        refine q_blk_norm (h := ?_)
        refine q_seq (h := ?_)
        refine rg (h := ?_)
        refine WL.y (hy := mv) (h := ?_)
        refine WL.y (hy := addI) (h := ?_)
        refine WL.y (hy := asg) (h := ?_)
        refine nl (h := ?_)
        refine rn (x := u) ⟨u.k + 1⟩ ⟨by dsimp only; omega, hgood⟩ (by dsimp only; omega) (by repeat (first | exact trivial | refine ⟨rfl, ?_⟩)) (by repeat (first | exact SubL.nil | (apply SubL.cons; (repeat (first | exact At.here | apply At.there))) | exact SubL.refl _ | apply SubL.skip))
    · skip
      have hkn2 : u.k = lucky.length := by simp only [decide_eq_false_iff_not] at h3; omega
      have hE : luckyV sheet players lucky = true := by rw [luckyV, hz2, ← hkn2, hu2]; rfl
      refine et (h := ?_)
      refine q_then_exit (h := ?_)
      refine q_then_exit (h := ?_)
      refine q_blk_hit (h := ?_)
      refine q_seq (h := ?_)
      refine sq (h := ?_)
      refine rg (h := ?_)
      refine WL.y (hy := asg) (h := ?_)
      refine nl (h := ?_)
      refine q_seq (h := ?_)
      refine rtn (h := ?_)
      refine q_ret (hR := ?_)
      rw [hE]
      exact fun w hS => ⟨rfl, hS.sub (by repeat (first | exact SubL.nil | (apply SubL.cons; (repeat (first | exact At.here | apply At.there))) | exact SubL.refl _ | apply SubL.skip))⟩
end Go.Proofs.Ytjkoaifjmcgpfaa
