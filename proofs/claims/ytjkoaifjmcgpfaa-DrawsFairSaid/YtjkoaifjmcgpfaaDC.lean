/- Walks of draws, eleven: Obeys and Breaks of the program, and the document's answers. -/
import Derived.Test.YtjkoaifjmcgpfaaDB
namespace Go.Proofs.Ytjkoaifjmcgpfaa
open Go Go.RowKit

def obeysR (p : Pl) (sheet : List Int) : Bool × Int := bif decide (chS p sheet = 0) then (legalV p sheet, 0) else (false, chS p sheet)
def brkTo (p : Pl) (sheet : List Int) : Nat → List Int
  | 0 => []
  | j + 1 => bif pairOk p sheet j then brkTo p sheet j else brkTo p sheet j ++ [(j : Int)]
def breaksR (p : Pl) (sheet : List Int) : List Int × Int := bif decide (chS p sheet = 0) then (bif fullV p sheet then (brkTo p sheet (p.size / 2).toNat, 0) else ([], 1)) else ([], chS p sheet)
theorem chS_ok {p : Pl} {sheet : List Int} (h : chS p sheet = 0) : pOk p = true ∧ isShV p sheet = true ∧ chV p sheet = (sheet.map (numV p), 0) := by
  have h2 := ch_is p sheet
  rw [decide_eq_true h] at h2
  refine ⟨?_, ?_, h2⟩ <;> unfold chS at h <;> cases hb : pOk p <;> cases hs : isShV p sheet <;> rw [hb, hs] at h <;> first | rfl | cases h
theorem chS_no {p : Pl} {sheet : List Int} (h : ¬ chS p sheet = 0) : chV p sheet = ([], chS p sheet) := by
  have h2 := ch_is p sheet
  rw [decide_eq_false h] at h2
  exact h2
theorem chV_snd (p : Pl) (sheet : List Int) : (chV p sheet).2 = chS p sheet := by
  by_cases h : chS p sheet = 0
  · rw [(chS_ok h).2.2, h]
  · rw [chS_no h]
theorem num_all {p : Pl} {sheet : List Int} (h : Shq p sheet) : ∀ x ∈ sheet.map (numV p), InP p x := fun x hx => by
  obtain ⟨y, hy, rfl⟩ := List.mem_map.1 hx
  exact num_in (h.sh y hy)
theorem C_dr_Obeys (p : Pl) (a : PA) (hz0 : -9223372036854775808 ≤ p.size ∧ p.size ≤ 9223372036854775807) (sheet : List Int) (sA : Option Addr) (sc : Nat) (hsn : sheet.length ≤ 1000) (w : World) (h : PRd w p a) (hs : Rd w sA 1 sheet.length (enI sheet)) : C0 Try.prog 35 [p.val a, .slice sA sheet.length sc] w (.tuple #[.bool (obeysR p sheet).1, .int .i64 (obeysR p sheet).2]) := by
  obtain ⟨hp, hl, hpn, hln, hpc⟩ := h
  refine ⟨en Try.func35 Try.ntmps35 ((((St.init w).share (e := .ro a.pA 3 p.ps.length (encPs p.ps)) hp rfl rfl rfl).share (e := .ro a.lA 1 p.lots.length (enI p.lots)) hl rfl rfl rfl).share (e := .ro sA 1 sheet.length (enI sheet)) hs rfl rfl rfl) (h := fun F => ?_)⟩
  refine sq (h := ?_)
  refine rg (h := ?_)
  refine bxA (h := fun b0 => ?_)
  refine WL.y (hy := asg) (h := ?_)
  refine WL.y (hy := asg) (h := ?_)
  refine nl (h := ?_)
  refine q_seq (h := ?_)
  refine sq (h := ?_)
  refine rg (h := ?_)
  refine WL.y (hy := (by first | exact ldA | exact ldEA)) (h := ?_)
  refine WL.y (hy := mv) (h := ?_)
  refine cl (hc := fun w hS => C_dr_check p a hz0 sheet sA sc hsn w ⟨hS.get, hS.get, hpn, hln, hpc⟩ hS.get) (h := fun x0 _ => ?_)
  refine WL.y (hy := mv) (h := ?_)
  refine WL.y (hy := ex) (h := ?_)
  refine WL.y (hy := ex) (h := ?_)
  refine WL.y (hy := asg) (h := ?_)
  refine WL.y (hy := asg) (h := ?_)
  refine nl (h := ?_)
  refine q_seq (h := ?_)
  refine sq (h := ?_)
  refine sq (h := ?_)
  refine rg (h := ?_)
  refine WL.y (hy := mv) (h := ?_)
  refine WL.y (hy := neq) (h := ?_)
  refine nl (h := ?_)
  refine q_seq (h := ?_)
  refine cd (by exact rfl) (fun h0 => ?_) (fun h0 => ?_)
  · skip
    have hc : ¬ chS p sheet = 0 := by rw [chV_snd] at h0; simpa using h0
    have hE : obeysR p sheet = (false, (chV p sheet).2) := by rw [obeysR, decide_eq_false hc, chV_snd]; rfl
    refine sq (h := ?_)
    refine rg (h := ?_)
    refine WL.y (hy := mv) (h := ?_)
    refine WL.y (hy := asg) (h := ?_)
    refine WL.y (hy := asg) (h := ?_)
    refine nl (h := ?_)
    refine q_seq (h := ?_)
    refine rtn (h := ?_)
    refine q_then_ret (h := ?_)
    refine q_ret (hR := ?_)
    rw [hE]
    exact fun w hS => ⟨rfl, hS.sub (by repeat (first | exact SubL.nil | (apply SubL.cons; (repeat (first | exact At.here | apply At.there))) | exact SubL.refl _ | apply SubL.skip))⟩
  · skip
    have hc : chS p sheet = 0 := by rw [chV_snd] at h0; simpa using h0
    obtain ⟨hb, hs2, hcv⟩ := chS_ok hc
    have hq := p_ok hb
    have hsh := sh_ok hb hs2
    have hE : obeysR p sheet = (obeysV p (chV p sheet).1, 0) := by rw [obeysR, decide_eq_true hc, hcv, legal_eq hb hs2]; rfl
    have hcl : (chV p sheet).1.length ≤ 1000 := by rw [hcv, List.length_map]; exact hsn
    have hin : ∀ x ∈ (chV p sheet).1, InP p x := by rw [hcv]; exact num_all hsh
    refine skp (h := ?_)
    refine q_seq (h := ?_)
    refine sq (h := ?_)
    refine rg (h := ?_)
    refine WL.y (hy := (by first | exact ldA | exact ldEA)) (h := ?_)
    refine WL.y (hy := mv) (h := ?_)
    refine cl0 (hc := fun w hS => C_obeys p a (chV p sheet).1 x0.1 (chV p sheet).1.length x0.2 hq rfl hcl hin w ⟨hS.get (by repeat (first | exact Rds.ro | apply Rds.there)), hS.get (by repeat (first | exact Rds.ro | apply Rds.there)), hpn, hln, hpc⟩ (hS.get (by repeat (first | exact Rds.own | apply Rds.there)))) (h := ?_)
    refine WL.y (hy := asg) (h := ?_)
    refine WL.y (hy := asg) (h := ?_)
    refine nl (h := ?_)
    refine q_seq (h := ?_)
    refine rtn (h := ?_)
    refine q_ret (hR := ?_)
    rw [hE]
    exact fun w hS => ⟨rfl, hS.sub (by repeat (first | exact SubL.nil | (apply SubL.cons; (repeat (first | exact At.here | apply At.there))) | exact SubL.refl _ | apply SubL.skip))⟩
theorem C_ref06_Obeys (p : Pl) (a : PA) (hz0 : -9223372036854775808 ≤ p.size ∧ p.size ≤ 9223372036854775807) (sheet : List Int) (sA : Option Addr) (sc : Nat) (hsn : sheet.length ≤ 1000) (hsc : sheet.length ≤ sc) (w : World) (h : PRd w p a) (hs : Rd w sA 1 sheet.length (enI sheet)) : C0 Try.prog 36 [p.val a, .slice sA sheet.length sc] w (.tuple #[.bool (obeysR p sheet).1, .int .i64 (obeysR p sheet).2]) := by
  obtain ⟨hp, hl, hpn, hln, hpc⟩ := h
  refine ⟨en Try.func36 Try.ntmps36 ((((St.init w).share (e := .ro a.pA 3 p.ps.length (encPs p.ps)) hp rfl rfl rfl).share (e := .ro a.lA 1 p.lots.length (enI p.lots)) hl rfl rfl rfl).share (e := .ro sA 1 sheet.length (enI sheet)) hs rfl rfl rfl) (h := fun F => ?_)⟩
  refine sq (h := ?_)
  refine rg (h := ?_)
  refine bxA (h := fun b0 => ?_)
  refine WL.y (hy := asg) (h := ?_)
  refine WL.y (hy := asg) (h := ?_)
  refine nl (h := ?_)
  refine q_seq (h := ?_)
  refine sq (h := ?_)
  refine sq (h := ?_)
  refine rg (h := ?_)
  refine WL.y (hy := (by first | exact ldA | exact ldEA)) (h := ?_)
  refine WL.y (hy := mv) (h := ?_)
  refine cl0 (hc := fun w hS => C_CheckSheet p a hz0 sheet sA sc hsn hsc w ⟨hS.get, hS.get, hpn, hln, hpc⟩ hS.get) (h := ?_)
  refine WL.y (hy := asg) (h := ?_)
  refine nl (h := ?_)
  refine q_seq (h := ?_)
  refine sq (h := ?_)
  refine rg (h := ?_)
  refine WL.y (hy := mv) (h := ?_)
  refine WL.y (hy := neq) (h := ?_)
  refine nl (h := ?_)
  refine q_seq (h := ?_)
  refine cd (by exact rfl) (fun h0 => ?_) (fun h0 => ?_)
  · skip
    have hc : ¬ chS p sheet = 0 := by simpa using h0
    have hE : obeysR p sheet = (false, chS p sheet) := by rw [obeysR, decide_eq_false hc]; rfl
    refine sq (h := ?_)
    refine rg (h := ?_)
    refine WL.y (hy := mv) (h := ?_)
    refine WL.y (hy := asg) (h := ?_)
    refine WL.y (hy := asg) (h := ?_)
    refine nl (h := ?_)
    refine q_seq (h := ?_)
    refine rtn (h := ?_)
    refine q_then_ret (h := ?_)
    refine q_ret (hR := ?_)
    rw [hE]
    exact fun w hS => ⟨rfl, hS.sub (by repeat (first | exact SubL.nil | (apply SubL.cons; (repeat (first | exact At.here | apply At.there))) | exact SubL.refl _ | apply SubL.skip))⟩
  · skip
    have hc : chS p sheet = 0 := by simpa using h0
    obtain ⟨hb, hs2, hcv⟩ := chS_ok hc
    have hq := p_ok hb
    have hsh := sh_ok hb hs2
    have hE : obeysR p sheet = (legalV p sheet, 0) := by rw [obeysR, decide_eq_true hc]; rfl
    refine skp (h := ?_)
    refine q_seq (h := ?_)
    refine sq (h := ?_)
    refine rg (h := ?_)
    refine WL.y (hy := (by first | exact ldA | exact ldEA)) (h := ?_)
    refine WL.y (hy := mv) (h := ?_)
    refine cl0 (hc := fun w hS => C_Legal p a sheet sA sheet.length sc hq rfl hsh.len hsh.sh w ⟨hS.get, hS.get, hpn, hln, hpc⟩ hS.get) (h := ?_)
    refine WL.y (hy := asg) (h := ?_)
    refine WL.y (hy := asg) (h := ?_)
    refine nl (h := ?_)
    refine q_seq (h := ?_)
    refine rtn (h := ?_)
    refine q_ret (hR := ?_)
    rw [hE]
    exact fun w hS => ⟨rfl, hS.sub (by repeat (first | exact SubL.nil | (apply SubL.cons; (repeat (first | exact At.here | apply At.there))) | exact SubL.refl _ | apply SubL.skip))⟩
/-! #### Breaks -/
theorem brk_len (p : Pl) (sheet : List Int) : ∀ k, (brkTo p sheet k).length ≤ k
  | 0 => by simp [brkTo]
  | k + 1 => by
    have := brk_len p sheet k
    rw [brkTo]
    cases pairOk p sheet k
    · simp; omega
    · simp; omega
structure BZ where
  (k : Nat) (A : Option Addr) (c : Nat)
set_option maxHeartbeats 2000000 in
theorem C_dr_Breaks (p : Pl) (a : PA) (hz0 : -9223372036854775808 ≤ p.size ∧ p.size ≤ 9223372036854775807) (sheet : List Int) (sA : Option Addr) (sc : Nat) (hsn : sheet.length ≤ 1000) (w : World) (h : PRd w p a) (hs : Rd w sA 1 sheet.length (enI sheet)) :
    CR Try.prog 37 [p.val a, .slice sA sheet.length sc] w (fun _ : Option Addr × Nat => True) (fun x => .tuple #[.slice x.1 (breaksR p sheet).1.length x.2, .int .i64 (breaksR p sheet).2]) (fun x => [.own x.1 x.2 3 1 (breaksR p sheet).1.length (enI (breaksR p sheet).1)]) := by
  obtain ⟨hp, hl, hpn, hln, hpc⟩ := h
  refine ⟨en Try.func37 Try.ntmps37 ((((St.init w).share (e := .ro a.pA 3 p.ps.length (encPs p.ps)) hp rfl rfl rfl).share (e := .ro a.lA 1 p.lots.length (enI p.lots)) hl rfl rfl rfl).share (e := .ro sA 1 sheet.length (enI sheet)) hs rfl rfl rfl) (h := fun F => ?_)⟩
  refine sq (h := ?_)
  refine rg (h := ?_)
  refine bxA (h := fun b0 => ?_)
  refine WL.y (hy := asg) (h := ?_)
  refine WL.y (hy := asg) (h := ?_)
  refine nl (h := ?_)
  refine q_seq (h := ?_)
  refine sq (h := ?_)
  refine rg (h := ?_)
  refine WL.y (hy := (by first | exact ldA | exact ldEA)) (h := ?_)
  refine WL.y (hy := mv) (h := ?_)
  refine cl (hc := fun w hS => C_dr_check p a hz0 sheet sA sc hsn w ⟨hS.get, hS.get, hpn, hln, hpc⟩ hS.get) (h := fun x0 _ => ?_)
  refine WL.y (hy := mv) (h := ?_)
  refine WL.y (hy := ex) (h := ?_)
  refine WL.y (hy := ex) (h := ?_)
  refine WL.y (hy := asg) (h := ?_)
  refine WL.y (hy := asg) (h := ?_)
  refine nl (h := ?_)
  refine q_seq (h := ?_)
  refine sq (h := ?_)
  refine sq (h := ?_)
  refine rg (h := ?_)
  refine WL.y (hy := mv) (h := ?_)
  refine WL.y (hy := neq) (h := ?_)
  refine nl (h := ?_)
  refine q_seq (h := ?_)
  refine cd (by exact rfl) (fun h0 => ?_) (fun h0 => ?_)
  · skip
    have hc : ¬ chS p sheet = 0 := by rw [chV_snd] at h0; simpa using h0
    have hE : breaksR p sheet = ([], (chV p sheet).2) := by rw [breaksR, decide_eq_false hc, chV_snd]; rfl
    refine WC.nilOwn 3 1 (h := ?_)
    refine sq (h := ?_)
    refine rg (h := ?_)
    refine WL.y (hy := mv) (h := ?_)
    refine WL.y (hy := asg) (h := ?_)
    refine WL.y (hy := asg) (h := ?_)
    refine nl (h := ?_)
    refine q_seq (h := ?_)
    refine rtn (h := ?_)
    refine q_then_ret (h := ?_)
    refine q_ret (hR := ?_)
    rw [hE]
    exact fun w hS => ⟨(none, 0), trivial, rfl, hS.sub (by repeat (first | exact SubL.nil | (apply SubL.cons; (repeat (first | exact At.here | apply At.there))) | exact SubL.refl _ | apply SubL.skip))⟩
  · skip
    have hc : chS p sheet = 0 := by rw [chV_snd] at h0; simpa using h0
    obtain ⟨hb, hs2, hcv⟩ := chS_ok hc
    have hq := p_ok hb
    have hsh := sh_ok hb hs2
    have hzq := hq.z
    have hlen := hsh.len
    have hcn : (chV p sheet).1.length = sheet.length := by rw [hcv, List.length_map]
    have hwf := whole_full hq sheet
    refine skp (h := ?_)
    refine q_seq (h := ?_)
    refine sq (h := ?_)
    refine sq (h := ?_)
    refine rg (h := ?_)
    refine WL.y (hy := (by first | exact ldA | exact ldEA)) (h := ?_)
    refine WL.y (hy := mv) (h := ?_)
    refine cl0 (hc := fun w hS => C_whole p a (chV p sheet).1 x0.1 (chV p sheet).1.length x0.2 rfl (by omega) w ⟨hS.get (by repeat (first | exact Rds.ro | apply Rds.there)), hS.get (by repeat (first | exact Rds.ro | apply Rds.there)), hpn, hln, hpc⟩ (hS.get (by repeat (first | exact Rds.own | apply Rds.there)))) (h := ?_)
    refine WL.y (hy := notB) (h := ?_)
    refine nl (h := ?_)
    refine q_seq (h := ?_)
    refine cd (by exact rfl) (fun h1 => ?_) (fun h1 => ?_)
    · skip
      have hE : breaksR p sheet = ([], 1) := by rw [breaksR, decide_eq_true hc, ← hwf]; rw [hcv] at h1; rw [(by simpa using h1 : wholeV p (sheet.map (numV p)) = false)]; rfl
      refine WC.nilOwn 3 1 (h := ?_)
      refine sq (h := ?_)
      refine rg (h := ?_)
      refine WL.y (hy := asg) (h := ?_)
      refine WL.y (hy := asg) (h := ?_)
      refine nl (h := ?_)
      refine q_seq (h := ?_)
      refine rtn (h := ?_)
      refine q_then_ret (h := ?_)
      refine q_ret (hR := ?_)
      rw [hE]
      exact fun w hS => ⟨(none, 0), trivial, rfl, hS.sub (by repeat (first | exact SubL.nil | (apply SubL.cons; (repeat (first | exact At.here | apply At.there))) | exact SubL.refl _ | apply SubL.skip))⟩
    · skip
      have hfull : fullV p sheet = true := by rw [← hwf]; rw [hcv] at h1; simpa using h1
      refine skp (h := ?_)
      refine q_seq (h := ?_)
      refine sq (h := ?_)
      refine rg (h := ?_)
      refine WL.y (hy := asg) (h := ?_)
      refine nl (h := ?_)
      refine q_seq (h := ?_)
      refine sq (h := ?_)
      refine sq (h := ?_)
      refine WC.nilOwn 3 1 (h := ?_)
      refine rg (h := ?_)
      refine WL.y (hy := asg) (h := ?_)
      refine nl (h := ?_)
      refine q_seq (h := ?_)
      refine bk (h := ?_)
      refine lp (X := BZ) (I := fun z => (2 * z.k : Int) ≤ p.size) (le := fun z => [(2, .pointer (some ⟨b0, 0, none⟩)), (6, .slice x0.1 (chV p sheet).1.length x0.2), (8, .slice z.A (brkTo p sheet z.k).length z.c), (9, .int .i64 (2 * (z.k : Int)))]) (Le := fun z => .own z.A z.c 3 1 (brkTo p sheet z.k).length (enI (brkTo p sheet z.k)) :: .own x0.1 x0.2 3 1 (chV p sheet).1.length (enI (chV p sheet).1) :: plL p a b0) (μ := fun z => p.size.toNat - z.k) ⟨0, none, 0⟩ (by dsimp only; omega) (by repeat (first | exact trivial | refine ⟨rfl, ?_⟩)) (by repeat (first | exact SubL.nil | (apply SubL.cons; (repeat (first | exact At.here | apply At.there))) | exact SubL.refl _ | apply SubL.skip)) (fun z hz => ?_)
      refine sq (h := ?_)
      refine sq (h := ?_)
      refine rg (h := ?_)
      refine WL.y (hy := mv) (h := ?_)
      refine WL.y (hy := mv) (h := ?_)
      refine WL.y (hy := lenS) (h := ?_)
      refine WL.y (hy := lss) (h := ?_)
      refine nl (h := ?_)
      refine q_seq (h := ?_)
      refine cd (by exact rfl) (fun h2 => ?_) (fun h2 => ?_)
      · skip
        have hkn : 2 * z.k + 1 < sheet.length := by simp only [decide_eq_true_eq] at h2; omega
        have hbl := brk_len p sheet z.k
        obtain ⟨x, hx1⟩ : ∃ x, sheet[2 * z.k]? = some x := ⟨_, List.getElem?_eq_getElem (by omega)⟩
        obtain ⟨y, hy1⟩ : ∃ y, sheet[2 * z.k + 1]? = some y := ⟨_, List.getElem?_eq_getElem (by omega)⟩
        have hxs := num_in (hsh.sh x (List.mem_of_getElem? hx1))
        have hys := num_in (hsh.sh y (List.mem_of_getElem? hy1))
        have hxe : (enI (chV p sheet).1)[((2 * (z.k : Int))).toNat]? = some [.int .i64 (numV p x)] := by rw [show (2 * (z.k : Int)).toNat = 2 * z.k by omega, hcv]; exact enI_at (by rw [List.getElem?_map, hx1]; rfl)
        have hye : (enI (chV p sheet).1)[((2 * (z.k : Int)) + 1).toNat]? = some [.int .i64 (numV p y)] := by rw [show (2 * (z.k : Int) + 1).toNat = 2 * z.k + 1 by omega, hcv]; exact enI_at (by rw [List.getElem?_map, hy1]; rfl)
        have hpk : pairOk p sheet z.k = apartV p (numV p x) (numV p y) := by rw [pairOk, getD_at hx1, getD_at hy1]
        refine skp (h := ?_)
        refine q_seq (h := ?_)
        refine sq (h := ?_)
        refine bk (h := ?_)
        refine sq (h := ?_)
        refine rgD0 (by kernel_rfl) (h := ?_)
        refine tk 0 (hy := (by first | exact ldA | exact ldEA)) (h := ?_)
        refine tk 1 (hy := mv) (h := ?_)
        refine tk 2 (hy := mv) (h := ?_)
        refine tk 3 (hy := ix (A := x0.1) (m := (chV p sheet).1.length)) (h := ?_)
        refine tk 4 (hy := ldE (A := x0.1) (hk := hxe)) (h := ?_)
        refine tk 5 (hy := mv) (h := ?_)
        refine tk 6 (hy := mv) (h := ?_)
        refine tk 7 (hy := addI) (h := ?_)
        refine tk 8 (hy := ix (A := x0.1) (m := (chV p sheet).1.length)) (h := ?_)
        refine tk 9 (hy := ldE (A := x0.1) (hk := hye)) (h := ?_)
        refine one 10 (h := ?_)
        refine cl0 (hc := fun w hS => C_apart p a (numV p x) (numV p y) hxs hys w ⟨hS.get (by repeat (first | exact Rds.ro | apply Rds.there)), hS.get (by repeat (first | exact Rds.ro | apply Rds.there)), hpn, hln, hpc⟩) (h := ?_)
        refine nx (h := ?_)
        refine tk 11 (hy := notB) (h := ?_)
        refine dn (h := ?_)
        refine q_seq (h := ?_)
        refine cd (by exact rfl) (fun h3 => ?_) (fun h3 => ?_)
        · skip
          have hst : brkTo p sheet (z.k + 1) = brkTo p sheet z.k ++ [2 * (z.k : Int) / 2] := by rw [show 2 * (z.k : Int) / 2 = z.k by omega, brkTo, hpk, (by simpa using h3 : apartV p (numV p x) (numV p y) = false)]; rfl
          refine rg (h := ?_)
          refine WL.y (hy := mv) (h := ?_)
          refine WL.y (hy := mv) (h := ?_)
          refine WL.y (hy := quoI) (h := ?_)
          refine bs (h := fun b1 => ?_)
          first | refine ap (h := fun A1 c1 => ?_) | refine ap0 (h := fun A1 c1 => ?_)
          refine WL.y (hy := asg) (h := ?_)
          refine nl (h := ?_)
          refine q_blk_norm (h := ?_)
          refine q_seq (h := ?_)
          refine rg (h := ?_)
          refine WL.y (hy := mv) (h := ?_)
          refine WL.y (hy := addI) (h := ?_)
          refine WL.y (hy := asg) (h := ?_)
          refine nl (h := ?_)
          refine rn (x := z) ⟨z.k + 1, _, _⟩ (by dsimp only; omega) (by dsimp only; omega) (by dsimp only; rw [hst]; (try rw [List.length_append]); repeat (first | exact trivial | refine ⟨rfl, ?_⟩ | refine ⟨by show some (Value.int .i64 (2 * (z.k : Int) + 2)) = some (Value.int .i64 (2 * ((z.k + 1 : Nat) : Int))); congr 2; omega, ?_⟩)) (by dsimp only; rw [hst]; (try rw [← enI_app, List.length_append]); repeat (first | exact SubL.nil | (apply SubL.cons; (repeat (first | exact At.here | apply At.there))) | exact SubL.refl _ | apply SubL.skip))
        · skip
          have hst : brkTo p sheet (z.k + 1) = brkTo p sheet z.k := by rw [brkTo, hpk, (by simpa using h3 : apartV p (numV p x) (numV p y) = true)]; rfl
          refine skp (h := ?_)
          refine q_blk_norm (h := ?_)
          refine q_seq (h := ?_)
          refine rg (h := ?_)
          refine WL.y (hy := mv) (h := ?_)
          refine WL.y (hy := addI) (h := ?_)
          refine WL.y (hy := asg) (h := ?_)
          refine nl (h := ?_)
          refine rn (x := z) ⟨z.k + 1, _, _⟩ (by dsimp only; omega) (by dsimp only; omega) (by dsimp only; rw [hst]; (try rw [List.length_append]); repeat (first | exact trivial | refine ⟨rfl, ?_⟩ | refine ⟨by show some (Value.int .i64 (2 * (z.k : Int) + 2)) = some (Value.int .i64 (2 * ((z.k + 1 : Nat) : Int))); congr 2; omega, ?_⟩)) (by dsimp only; rw [hst]; (try rw [← enI_app, List.length_append]); repeat (first | exact SubL.nil | (apply SubL.cons; (repeat (first | exact At.here | apply At.there))) | exact SubL.refl _ | apply SubL.skip))
      · skip
        have hkn : (p.size / 2).toNat = z.k := by simp only [decide_eq_false_iff_not] at h2; omega
        have hE : breaksR p sheet = (brkTo p sheet z.k, 0) := by rw [breaksR, decide_eq_true hc, hfull, hkn]; rfl
        refine et (h := ?_)
        refine q_then_exit (h := ?_)
        refine q_then_exit (h := ?_)
        refine q_blk_hit (h := ?_)
        refine q_seq (h := ?_)
        refine sq (h := ?_)
        refine rg (h := ?_)
        refine WL.y (hy := mv) (h := ?_)
        refine WL.y (hy := asg) (h := ?_)
        refine WL.y (hy := asg) (h := ?_)
        refine nl (h := ?_)
        refine q_seq (h := ?_)
        refine rtn (h := ?_)
        refine q_ret (hR := ?_)
        rw [hE]
        exact fun w hS => ⟨(z.A, z.c), trivial, rfl, hS.sub (by repeat (first | exact SubL.nil | (apply SubL.cons; (repeat (first | exact At.here | apply At.there))) | exact SubL.refl _ | apply SubL.skip))⟩
set_option maxHeartbeats 2000000 in
theorem C_ref06_Breaks (p : Pl) (a : PA) (hz0 : -9223372036854775808 ≤ p.size ∧ p.size ≤ 9223372036854775807) (sheet : List Int) (sA : Option Addr) (sc : Nat) (hsn : sheet.length ≤ 1000) (hsc : sheet.length ≤ sc) (w : World) (h : PRd w p a) (hs : Rd w sA 1 sheet.length (enI sheet)) :
    CR Try.prog 38 [p.val a, .slice sA sheet.length sc] w (fun _ : Option Addr × Nat => True) (fun x => .tuple #[.slice x.1 (breaksR p sheet).1.length x.2, .int .i64 (breaksR p sheet).2]) (fun x => [.own x.1 x.2 3 1 (breaksR p sheet).1.length (enI (breaksR p sheet).1)]) := by
  obtain ⟨hp, hl, hpn, hln, hpc⟩ := h
  refine ⟨en Try.func38 Try.ntmps38 ((((St.init w).share (e := .ro a.pA 3 p.ps.length (encPs p.ps)) hp rfl rfl rfl).share (e := .ro a.lA 1 p.lots.length (enI p.lots)) hl rfl rfl rfl).share (e := .ro sA 1 sheet.length (enI sheet)) hs rfl rfl rfl) (h := fun F => ?_)⟩
  refine sq (h := ?_)
  refine rg (h := ?_)
  refine bxA (h := fun b0 => ?_)
  refine WL.y (hy := asg) (h := ?_)
  refine WL.y (hy := asg) (h := ?_)
  refine nl (h := ?_)
  refine q_seq (h := ?_)
  refine sq (h := ?_)
  refine sq (h := ?_)
  refine rg (h := ?_)
  refine WL.y (hy := (by first | exact ldA | exact ldEA)) (h := ?_)
  refine WL.y (hy := mv) (h := ?_)
  refine cl0 (hc := fun w hS => C_CheckSheet p a hz0 sheet sA sc hsn hsc w ⟨hS.get, hS.get, hpn, hln, hpc⟩ hS.get) (h := ?_)
  refine WL.y (hy := asg) (h := ?_)
  refine nl (h := ?_)
  refine q_seq (h := ?_)
  refine sq (h := ?_)
  refine rg (h := ?_)
  refine WL.y (hy := mv) (h := ?_)
  refine WL.y (hy := neq) (h := ?_)
  refine nl (h := ?_)
  refine q_seq (h := ?_)
  refine cd (by exact rfl) (fun h0 => ?_) (fun h0 => ?_)
  · skip
    have hc : ¬ chS p sheet = 0 := by simpa using h0
    have hE : breaksR p sheet = ([], chS p sheet) := by rw [breaksR, decide_eq_false hc]; rfl
    refine WC.nilOwn 3 1 (h := ?_)
    refine sq (h := ?_)
    refine rg (h := ?_)
    refine WL.y (hy := mv) (h := ?_)
    refine WL.y (hy := asg) (h := ?_)
    refine WL.y (hy := asg) (h := ?_)
    refine nl (h := ?_)
    refine q_seq (h := ?_)
    refine rtn (h := ?_)
    refine q_then_ret (h := ?_)
    refine q_ret (hR := ?_)
    rw [hE]
    exact fun w hS => ⟨(none, 0), trivial, rfl, hS.sub (by repeat (first | exact SubL.nil | (apply SubL.cons; (repeat (first | exact At.here | apply At.there))) | exact SubL.refl _ | apply SubL.skip))⟩
  · skip
    have hc : chS p sheet = 0 := by simpa using h0
    obtain ⟨hb, hs2, hcv⟩ := chS_ok hc
    have hq := p_ok hb
    have hsh := sh_ok hb hs2
    have hzq := hq.z
    have hlen := hsh.len
    refine skp (h := ?_)
    refine q_seq (h := ?_)
    refine sq (h := ?_)
    refine sq (h := ?_)
    refine rg (h := ?_)
    refine WL.y (hy := (by first | exact ldA | exact ldEA)) (h := ?_)
    refine WL.y (hy := mv) (h := ?_)
    refine cl0 (hc := fun w hS => C_isFull p a sheet sA sheet.length sc rfl hsn w ⟨hS.get, hS.get, hpn, hln, hpc⟩ hS.get) (h := ?_)
    refine WL.y (hy := notB) (h := ?_)
    refine nl (h := ?_)
    refine q_seq (h := ?_)
    refine cd (by exact rfl) (fun h1 => ?_) (fun h1 => ?_)
    · skip
      have hE : breaksR p sheet = ([], 1) := by rw [breaksR, decide_eq_true hc, (by simpa using h1 : fullV p sheet = false)]; rfl
      refine WC.nilOwn 3 1 (h := ?_)
      refine sq (h := ?_)
      refine rg (h := ?_)
      refine WL.y (hy := asg) (h := ?_)
      refine WL.y (hy := asg) (h := ?_)
      refine nl (h := ?_)
      refine q_seq (h := ?_)
      refine rtn (h := ?_)
      refine q_then_ret (h := ?_)
      refine q_ret (hR := ?_)
      rw [hE]
      exact fun w hS => ⟨(none, 0), trivial, rfl, hS.sub (by repeat (first | exact SubL.nil | (apply SubL.cons; (repeat (first | exact At.here | apply At.there))) | exact SubL.refl _ | apply SubL.skip))⟩
    · skip
      have hfull : fullV p sheet = true := by simpa using h1
      refine skp (h := ?_)
      refine q_seq (h := ?_)
      refine sq (h := ?_)
      refine rg (h := ?_)
      refine WL.y (hy := asg) (h := ?_)
      refine nl (h := ?_)
      refine q_seq (h := ?_)
      refine sq (h := ?_)
      refine sq (h := ?_)
      refine WC.nilOwn 3 1 (h := ?_)
      refine rg (h := ?_)
      refine WL.y (hy := asg) (h := ?_)
      refine nl (h := ?_)
      refine q_seq (h := ?_)
      refine bk (h := ?_)
      refine lp (X := BZ) (I := fun z => (2 * z.k : Int) ≤ p.size) (le := fun z => [(1, .slice sA sheet.length sc), (2, .pointer (some ⟨b0, 0, none⟩)), (7, .slice z.A (brkTo p sheet z.k).length z.c), (8, .int .i64 (2 * (z.k : Int)))]) (Le := fun z => .own z.A z.c 3 1 (brkTo p sheet z.k).length (enI (brkTo p sheet z.k)) :: .ro sA 1 sheet.length (enI sheet) :: plL p a b0) (μ := fun z => p.size.toNat - z.k) ⟨0, none, 0⟩ (by dsimp only; omega) (by repeat (first | exact trivial | refine ⟨rfl, ?_⟩)) (by repeat (first | exact SubL.nil | (apply SubL.cons; (repeat (first | exact At.here | apply At.there))) | exact SubL.refl _ | apply SubL.skip)) (fun z hz => ?_)
      refine sq (h := ?_)
      refine sq (h := ?_)
      refine rg (h := ?_)
      refine WL.y (hy := mv) (h := ?_)
      refine WL.y (hy := (by first | exact fa | exact faE)) (h := ?_)
      refine WL.y (hy := (by first | exact ld | exact ldE)) (h := ?_)
      refine WL.y (hy := lss) (h := ?_)
      refine nl (h := ?_)
      refine q_seq (h := ?_)
      refine cd (by exact rfl) (fun h2 => ?_) (fun h2 => ?_)
      · skip
        have hkn : 2 * z.k + 1 < sheet.length := by simp only [decide_eq_true_eq] at h2; omega
        have hbl := brk_len p sheet z.k
        obtain ⟨x, hx1⟩ : ∃ x, sheet[2 * z.k]? = some x := ⟨_, List.getElem?_eq_getElem (by omega)⟩
        obtain ⟨y, hy1⟩ : ∃ y, sheet[2 * z.k + 1]? = some y := ⟨_, List.getElem?_eq_getElem (by omega)⟩
        have hxs := hsh.sh x (List.mem_of_getElem? hx1)
        have hys := hsh.sh y (List.mem_of_getElem? hy1)
        have hxe : (enI sheet)[((2 * (z.k : Int))).toNat]? = some [.int .i64 x] := by rw [show (2 * (z.k : Int)).toNat = 2 * z.k by omega]; exact enI_at hx1
        have hye : (enI sheet)[((2 * (z.k : Int)) + 1).toNat]? = some [.int .i64 y] := by rw [show (2 * (z.k : Int) + 1).toNat = 2 * z.k + 1 by omega]; exact enI_at hy1
        have hpk : pairOk p sheet z.k = apartV p (numV p x) (numV p y) := by rw [pairOk, getD_at hx1, getD_at hy1]
        refine skp (h := ?_)
        refine q_seq (h := ?_)
        refine sq (h := ?_)
        refine bk (h := ?_)
        refine sq (h := ?_)
        refine rgD0 (by kernel_rfl) (h := ?_)
        refine tk 0 (hy := (by first | exact ldA | exact ldEA)) (h := ?_)
        refine tk 1 (hy := mv) (h := ?_)
        refine tk 2 (hy := mv) (h := ?_)
        refine tk 3 (hy := ix (A := sA) (m := sheet.length)) (h := ?_)
        refine tk 4 (hy := ldE (A := sA) (hk := hxe)) (h := ?_)
        refine tk 5 (hy := mv) (h := ?_)
        refine tk 6 (hy := mv) (h := ?_)
        refine tk 7 (hy := addI) (h := ?_)
        refine tk 8 (hy := ix (A := sA) (m := sheet.length)) (h := ?_)
        refine tk 9 (hy := ldE (A := sA) (hk := hye)) (h := ?_)
        refine one 10 (h := ?_)
        refine cl0 (hc := fun w hS => C_mayFace p a x y hxs hys w ⟨hS.get (by repeat (first | exact Rds.ro | apply Rds.there)), hS.get (by repeat (first | exact Rds.ro | apply Rds.there)), hpn, hln, hpc⟩) (h := ?_)
        refine nx (h := ?_)
        refine tk 11 (hy := notB) (h := ?_)
        refine dn (h := ?_)
        refine q_seq (h := ?_)
        refine cd (by exact rfl) (fun h3 => ?_) (fun h3 => ?_)
        · skip
          have hst : brkTo p sheet (z.k + 1) = brkTo p sheet z.k ++ [2 * (z.k : Int) / 2] := by rw [show 2 * (z.k : Int) / 2 = z.k by omega, brkTo, hpk, (by simpa using h3 : apartV p (numV p x) (numV p y) = false)]; rfl
          refine rg (h := ?_)
          refine WL.y (hy := mv) (h := ?_)
          refine WL.y (hy := mv) (h := ?_)
          refine WL.y (hy := quoI) (h := ?_)
          refine bs (h := fun b1 => ?_)
          first | refine ap (h := fun A1 c1 => ?_) | refine ap0 (h := fun A1 c1 => ?_)
          refine WL.y (hy := asg) (h := ?_)
          refine nl (h := ?_)
          refine q_blk_norm (h := ?_)
          refine q_seq (h := ?_)
          refine rg (h := ?_)
          refine WL.y (hy := mv) (h := ?_)
          refine WL.y (hy := addI) (h := ?_)
          refine WL.y (hy := asg) (h := ?_)
          refine nl (h := ?_)
          refine rn (x := z) ⟨z.k + 1, _, _⟩ (by dsimp only; omega) (by dsimp only; omega) (by dsimp only; rw [hst]; (try rw [List.length_append]); repeat (first | exact trivial | refine ⟨rfl, ?_⟩ | refine ⟨by show some (Value.int .i64 (2 * (z.k : Int) + 2)) = some (Value.int .i64 (2 * ((z.k + 1 : Nat) : Int))); congr 2; omega, ?_⟩)) (by dsimp only; rw [hst]; (try rw [← enI_app, List.length_append]); repeat (first | exact SubL.nil | (apply SubL.cons; (repeat (first | exact At.here | apply At.there))) | exact SubL.refl _ | apply SubL.skip))
        · skip
          have hst : brkTo p sheet (z.k + 1) = brkTo p sheet z.k := by rw [brkTo, hpk, (by simpa using h3 : apartV p (numV p x) (numV p y) = true)]; rfl
          refine skp (h := ?_)
          refine q_blk_norm (h := ?_)
          refine q_seq (h := ?_)
          refine rg (h := ?_)
          refine WL.y (hy := mv) (h := ?_)
          refine WL.y (hy := addI) (h := ?_)
          refine WL.y (hy := asg) (h := ?_)
          refine nl (h := ?_)
          refine rn (x := z) ⟨z.k + 1, _, _⟩ (by dsimp only; omega) (by dsimp only; omega) (by dsimp only; rw [hst]; (try rw [List.length_append]); repeat (first | exact trivial | refine ⟨rfl, ?_⟩ | refine ⟨by show some (Value.int .i64 (2 * (z.k : Int) + 2)) = some (Value.int .i64 (2 * ((z.k + 1 : Nat) : Int))); congr 2; omega, ?_⟩)) (by dsimp only; rw [hst]; (try rw [← enI_app, List.length_append]); repeat (first | exact SubL.nil | (apply SubL.cons; (repeat (first | exact At.here | apply At.there))) | exact SubL.refl _ | apply SubL.skip))
      · skip
        have hkn : (p.size / 2).toNat = z.k := by simp only [decide_eq_false_iff_not] at h2; omega
        have hE : breaksR p sheet = (brkTo p sheet z.k, 0) := by rw [breaksR, decide_eq_true hc, hfull, hkn]; rfl
        refine et (h := ?_)
        refine q_then_exit (h := ?_)
        refine q_then_exit (h := ?_)
        refine q_blk_hit (h := ?_)
        refine q_seq (h := ?_)
        refine sq (h := ?_)
        refine rg (h := ?_)
        refine WL.y (hy := mv) (h := ?_)
        refine WL.y (hy := asg) (h := ?_)
        refine WL.y (hy := asg) (h := ?_)
        refine nl (h := ?_)
        refine q_seq (h := ?_)
        refine rtn (h := ?_)
        refine q_ret (hR := ?_)
        rw [hE]
        exact fun w hS => ⟨(z.A, z.c), trivial, rfl, hS.sub (by repeat (first | exact SubL.nil | (apply SubL.cons; (repeat (first | exact At.here | apply At.there))) | exact SubL.refl _ | apply SubL.skip))⟩
end Go.Proofs.Ytjkoaifjmcgpfaa
