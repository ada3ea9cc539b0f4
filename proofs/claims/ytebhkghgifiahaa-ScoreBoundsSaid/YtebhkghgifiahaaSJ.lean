/- Walks of the reference package of score, three: where a match is, one more point. -/
import Derived.Test.YtebhkghgifiahaaSI
namespace Go.Proofs.Ytebhkghgifiahaa
open Go Go.RowKit

structure RS where
  (st : List Pr) (g p : Pr) (server ends balls winner first : Int) (gs : List Gm) (fresh : Bool)
abbrev RS.cells (r : RS) (sA : Option Addr) (sc : Nat) (gA : Option Addr) (gc : Nat) : List Value := [.slice sA r.st.length sc, .int .i64 r.g.1, .int .i64 r.g.2, .int .i64 r.p.1, .int .i64 r.p.2, .int .i64 r.server, .int .i64 r.ends, .int .i64 r.balls, .int .i64 r.winner, .int .i64 r.first, .slice gA r.gs.length gc, .bool r.fresh]
abbrev RS.val (r : RS) (sA : Option Addr) (sc : Nat) (gA : Option Addr) (gc : Nat) : Value := .agg #[.slice sA r.st.length sc, .int .i64 r.g.1, .int .i64 r.g.2, .int .i64 r.p.1, .int .i64 r.p.2, .int .i64 r.server, .int .i64 r.ends, .int .i64 r.balls, .int .i64 r.winner, .int .i64 r.first, .slice gA r.gs.length gc, .bool r.fresh]
def gsTie (gs : List Gm) (i : Int) : Bool := match gs[i.toNat]? with | some g => g.tie | none => false
def rFresh (f : Fmt) (r : RS) : Bool := dueV f r.gs.length && !tiedV f r.st r.g || (decide (2 ≤ (r.gs.length : Int)) && dueV f ((r.gs.length : Int) - 2) && gsTie r.gs ((r.gs.length : Int) - 2))
def rBegin (f : Fmt) (r : RS) : RS := { r with fresh := rFresh f r, balls := bif rFresh f r then r.balls + 1 else r.balls }
theorem gs_tie {gs : List Gm} {i : Int} {g : Gm} (h : gs[i.toNat]? = some g) : gsTie gs i = g.tie := by rw [gsTie, h]
theorem encG_at {gs : List Gm} {i : Nat} {g : Gm} (h : gs[i]? = some g) : (encG gs)[i]? = some g.enc := by simp [encG, h]

theorem C_ref1_begin (f : Fmt) (r : RS) (sA : Option Addr) (sc : Nat) (gA : Option Addr) (gc n m : Nat) (hf : f.Ok) (w : World) (h : Rd w sA 2 n (encP r.st)) (h' : Rd w gA 7 m (encG r.gs)) (hn : n ≤ 1000) (hm : m ≤ 1000) (hb : 0 ≤ r.balls ∧ r.balls ≤ 1000000) :
    C0 Try.prog 83 [f.val, r.val sA sc gA gc] w ((rBegin f r).val sA sc gA gc) := by
  obtain rfl : r.st.length = n := by have := h.len; simpa [encP] using this
  obtain rfl : r.gs.length = m := by have := h'.len; simpa [encG] using this
  have hfr : rFresh f r = rFresh f r := rfl
  refine ⟨en Try.func83 Try.ntmps83 (((St.init w).share (e := .ro sA 2 r.st.length (encP r.st)) h rfl rfl rfl).share (e := .ro gA 7 r.gs.length (encG r.gs)) h' rfl rfl rfl) (h := fun F => ?_)⟩
  refine sq (h := ?_)
  refine rg (h := ?_)
  refine bxA (h := fun b0 => ?_)
  refine bxA (h := fun b1 => ?_)
  refine al (h := fun b2 => ?_)
  refine nl (h := ?_)
  refine q_seq (h := ?_)
  refine sq (h := ?_)
  refine rg (h := ?_)
  refine WL.y (hy := (by first | exact fa | exact faE)) (h := ?_)
  refine WL.y (hy := (by first | exact ld | exact ldE)) (h := ?_)
  refine WL.y (hy := lenS) (h := ?_)
  refine WL.y (hy := asg) (h := ?_)
  refine nl (h := ?_)
  refine q_seq (h := ?_)
  refine sq (h := ?_)
  refine rg (h := ?_)
  refine WL.y (hy := (by first | exact ldA | exact ldEA)) (h := ?_)
  refine WL.y (hy := (by first | exact fa | exact faE)) (h := ?_)
  refine WL.y (hy := (by first | exact fa | exact faE)) (h := ?_)
  refine WL.y (hy := (by first | exact ldA | exact ldEA)) (h := ?_)
  refine cl0 (hc := fun w hS => C_ref1_tied f ⟨r.st, r.g, r.p⟩ sA r.st.length sc hf w (hS.get (by repeat (first | exact Rds.ro | exact Rds.own | apply Rds.there))) (by omega)) (h := ?_)
  refine WL.y (hy := mv) (h := ?_)
  refine WL.y (hy := ex) (h := ?_)
  refine WL.y (hy := ex) (h := ?_)
  refine WL.y (hy := asg) (h := ?_)
  refine WL.y (hy := asg) (h := ?_)
  refine nl (h := ?_)
  refine q_seq (h := ?_)
  refine sq (h := ?_)
  refine rg (h := ?_)
  refine WL.y (hy := (by first | exact ldA | exact ldEA)) (h := ?_)
  refine WL.y (hy := mv) (h := ?_)
  refine cl0 (hc := fun w hS => C_ref1_due _ _ (by assumption) (by omega) w) (h := ?_)
  refine WL.y (hy := mv) (h := ?_)
  apply brAnd 3 22 25 (by exact rfl)
  · intro hb0
    refine un (h := ?_)
    refine WL.y (hy := mv) (h := ?_)
    refine un (h := ?_)
    refine WL.y (hy := notB) (h := ?_)
    refine WL.y (hy := (by first | exact pkT | exact pkF)) (h := ?_)
    exact mg (by repeat (first | exact trivial | refine ⟨rfl, ?_⟩ | refine ⟨by rw [hb0]; rfl, ?_⟩)) (by repeat (first | exact SubL.nil | (apply SubL.cons; (repeat (first | exact At.here | apply At.there))) | exact SubL.refl _ | apply SubL.skip))
  · intro hb0
    repeat (first | refine un (h := ?_) | refine sk (h := ?_) | refine WL.y (hy := pkF) (h := ?_) | refine WL.y (hy := pkT) (h := ?_))
    exact mg (by repeat (first | exact trivial | refine ⟨rfl, ?_⟩ | refine ⟨by rw [hb0]; rfl, ?_⟩)) (by repeat (first | exact SubL.nil | (apply SubL.cons; (repeat (first | exact At.here | apply At.there))) | exact SubL.refl _ | apply SubL.skip))
  refine WL.y (hy := mv) (h := ?_)
  apply brOr 18 26 44 (by exact rfl)
  · intro hb1
    refine un (h := ?_)
    refine WL.y (hy := mv) (h := ?_)
    refine un (h := ?_)
    refine WL.y (hy := geq) (h := ?_)
    refine un (h := ?_)
    refine WL.y (hy := mv) (h := ?_)
    apply brAnd 5 29 34 (by exact rfl)
    · intro hb2
      have h2 : 2 ≤ r.gs.length := by simp only [decide_eq_true_eq] at hb2; omega
      refine un (h := ?_)
      refine WL.y (hy := (by first | exact ldA | exact ldEA)) (h := ?_)
      refine un (h := ?_)
      refine WL.y (hy := mv) (h := ?_)
      refine un (h := ?_)
      refine WL.y (hy := subI) (h := ?_)
      refine un (h := ?_)
      refine cl0 (hc := fun w hS => C_ref1_due _ _ (by assumption) (by omega) w) (h := ?_)
      refine un (h := ?_)
      refine WL.y (hy := (by first | exact pkT | exact pkF)) (h := ?_)
      exact mg (by repeat (first | exact trivial | refine ⟨rfl, ?_⟩ | refine ⟨by rw [hb2]; rfl, ?_⟩ | refine ⟨by rw [hb1]; rfl, ?_⟩)) (by repeat (first | exact SubL.nil | (apply SubL.cons; (repeat (first | exact At.here | apply At.there))) | exact SubL.refl _ | apply SubL.skip))
    · intro hb2
      repeat (first | refine un (h := ?_) | refine sk (h := ?_) | refine WL.y (hy := pkF) (h := ?_) | refine WL.y (hy := pkT) (h := ?_))
      exact mg (by repeat (first | exact trivial | refine ⟨rfl, ?_⟩ | refine ⟨by rw [hb2]; rfl, ?_⟩ | refine ⟨by rw [hb1]; rfl, ?_⟩)) (by repeat (first | exact SubL.nil | (apply SubL.cons; (repeat (first | exact At.here | apply At.there))) | exact SubL.refl _ | apply SubL.skip))
    refine un (h := ?_)
    refine WL.y (hy := mv) (h := ?_)
    apply brAnd 8 35 43 (by exact rfl)
    · intro hb3
      have h2 : 2 ≤ r.gs.length := by simp only [Bool.and_eq_true, decide_eq_true_eq] at hb3; omega
      obtain ⟨g, hg⟩ : ∃ g, r.gs[((r.gs.length : Int) - 2).toNat]? = some g := ⟨_, List.getElem?_eq_getElem (by omega)⟩
      have hge : (encG r.gs)[((r.gs.length : Int) - 2).toNat]? = some [.int .i64 g.set, .bool (gsTie r.gs ((r.gs.length : Int) - 2)), .int .i64 g.server, .int .i64 g.winner, .int .i64 g.pts.1, .int .i64 g.pts.2, .bool g.fresh] := by rw [gs_tie hg]; exact encG_at hg
      refine un (h := ?_)
      refine WL.y (hy := (by first | exact fa | exact faE)) (h := ?_)
      refine un (h := ?_)
      refine WL.y (hy := (by first | exact ld | exact ldE)) (h := ?_)
      refine un (h := ?_)
      refine WL.y (hy := mv) (h := ?_)
      refine un (h := ?_)
      refine WL.y (hy := subI) (h := ?_)
      refine un (h := ?_)
      refine WL.y (hy := ix (A := gA) (m := r.gs.length) (hb := by omega)) (h := ?_)
      refine un (h := ?_)
      refine WL.y (hy := (by first | exact fa | exact faE)) (h := ?_)
      refine un (h := ?_)
      refine WL.y (hy := ldE (hk := hge)) (h := ?_)
      refine un (h := ?_)
      refine WL.y (hy := (by first | exact pkT | exact pkF)) (h := ?_)
      exact mg (by repeat (first | exact trivial | refine ⟨rfl, ?_⟩ | refine ⟨by rw [hb3]; rfl, ?_⟩ | refine ⟨by rw [hb1]; rfl, ?_⟩)) (by repeat (first | exact SubL.nil | (apply SubL.cons; (repeat (first | exact At.here | apply At.there))) | exact SubL.refl _ | apply SubL.skip))
    · intro hb3
      repeat (first | refine un (h := ?_) | refine sk (h := ?_) | refine WL.y (hy := pkF) (h := ?_) | refine WL.y (hy := pkT) (h := ?_))
      exact mg (by repeat (first | exact trivial | refine ⟨rfl, ?_⟩ | refine ⟨by rw [hb3]; rfl, ?_⟩ | refine ⟨by rw [hb1]; rfl, ?_⟩)) (by repeat (first | exact SubL.nil | (apply SubL.cons; (repeat (first | exact At.here | apply At.there))) | exact SubL.refl _ | apply SubL.skip))
    refine WL.y (hy := (by first | exact pkT | exact pkF)) (h := ?_)
    exact mg (by repeat (first | exact trivial | refine ⟨rfl, ?_⟩ | refine ⟨by rw [hb1]; rfl, ?_⟩)) (by repeat (first | exact SubL.nil | (apply SubL.cons; (repeat (first | exact At.here | apply At.there))) | exact SubL.refl _ | apply SubL.skip))
  · intro hb1
    repeat (first | refine un (h := ?_) | refine sk (h := ?_) | refine WL.y (hy := pkF) (h := ?_) | refine WL.y (hy := pkT) (h := ?_))
    exact mg (by repeat (first | exact trivial | refine ⟨rfl, ?_⟩ | refine ⟨by rw [hb1]; rfl, ?_⟩)) (by repeat (first | exact SubL.nil | (apply SubL.cons; (repeat (first | exact At.here | apply At.there))) | exact SubL.refl _ | apply SubL.skip))
  refine WL.y (hy := (by first | exact fa | exact faE)) (h := ?_)
  first | refine st (h := ?_) | refine stE (h := ?_)
  refine nl (h := ?_)
  refine q_seq (h := ?_)
  refine sq (h := ?_)
  refine sq (h := ?_)
  refine rg (h := ?_)
  refine WL.y (hy := (by first | exact fa | exact faE)) (h := ?_)
  refine WL.y (hy := (by first | exact ld | exact ldE)) (h := ?_)
  refine nl (h := ?_)
  refine q_seq (h := ?_)
  refine cd (by exact rfl) (fun h4 => ?_) (fun h4 => ?_)
  · skip
    have hB : rBegin f r = { r with fresh := rFresh f r, balls := r.balls + 1 } := by
      have h' : rFresh f r = true := h4
      simp only [rBegin, h', cond_true]
    refine rg (h := ?_)
    refine WL.y (hy := (by first | exact fa | exact faE)) (h := ?_)
    refine WL.y (hy := (by first | exact fa | exact faE)) (h := ?_)
    refine WL.y (hy := (by first | exact ld | exact ldE)) (h := ?_)
    refine WL.y (hy := addI) (h := ?_)
    refine WL.y (hy := (by first | exact fa | exact faE)) (h := ?_)
    refine WL.y (hy := (by first | exact fa | exact faE)) (h := ?_)
    first | refine st (h := ?_) | refine stE (h := ?_)
    refine nl (h := ?_)
    refine q_seq (h := ?_)
    refine sq (h := ?_)
    refine rg (h := ?_)
    refine WL.y (hy := (by first | exact ldA | exact ldEA)) (h := ?_)
    first | refine stA (h := ?_) | refine stEA (h := ?_)
    refine nl (h := ?_)
    refine q_seq (h := ?_)
    refine rtn (h := ?_)
    refine q_ret (hR := ?_)
    rw [hB]
    exact fun w hS => ⟨rfl, hS.sub (by repeat (first | exact SubL.nil | (apply SubL.cons; (repeat (first | exact At.here | apply At.there))) | exact SubL.refl _ | apply SubL.skip))⟩
  · skip
    have hB : rBegin f r = { r with fresh := rFresh f r, balls := r.balls } := by
      have h' : rFresh f r = false := h4
      simp only [rBegin, h', cond_false]
    refine skp (h := ?_)
    refine q_seq (h := ?_)
    refine sq (h := ?_)
    refine rg (h := ?_)
    refine WL.y (hy := (by first | exact ldA | exact ldEA)) (h := ?_)
    first | refine stA (h := ?_) | refine stEA (h := ?_)
    refine nl (h := ?_)
    refine q_seq (h := ?_)
    refine rtn (h := ?_)
    refine q_ret (hR := ?_)
    rw [hB]
    exact fun w hS => ⟨rfl, hS.sub (by repeat (first | exact SubL.nil | (apply SubL.cons; (repeat (first | exact At.here | apply At.there))) | exact SubL.refl _ | apply SubL.skip))⟩

/-! #### one more point -/
def rW (f : Fmt) (r : RS) (side : Int) : Int := bif tiedV f r.st r.g then leadsV (addV r.p side) (setV f (wonV r.st)).2 2 else gameR f (addV r.p side)
def rEnds (f : Fmt) (r : RS) (side : Int) : Int := bif tiedV f r.st r.g && (decide (rW f r side < 0) && decide (((addV r.p side).1 + (addV r.p side).2) % 6 = 0)) then r.ends + 1 else r.ends
def rN (f : Fmt) (r : RS) (side : Int) : RS := { r with p := addV r.p side, ends := rEnds f r side }
def rGm (f : Fmt) (r : RS) (side : Int) : Gm := ⟨r.st.length, tiedV f r.st r.g, servR f r.first r.gs.length (tiedV f r.st r.g) 0, rW f r side, addV r.p side, r.fresh⟩
def rG (f : Fmt) (r : RS) (side : Int) : RS := { r with p := (0, 0), gs := r.gs ++ [rGm f r side], g := addV r.g (rW f r side) }
def rSet (f : Fmt) (r : RS) (side : Int) : Bool := tiedV f r.st r.g || decide (0 ≤ leadsV (addV r.g (rW f r side)) f.games 2)
def rS (f : Fmt) (r : RS) (side : Int) : RS := bif rSet f r side then { rG f r side with st := r.st ++ [addV r.g (rW f r side)], g := (0, 0) } else rG f r side
def rOver (f : Fmt) (r : RS) (side : Int) : Bool := rSet f r side && (decide ((wonV (r.st ++ [addV r.g (rW f r side)])).1 = f.sets) || decide ((wonV (r.st ++ [addV r.g (rW f r side)])).2 = f.sets))
def rOdd (f : Fmt) (r : RS) (side : Int) : Bool := decide (((addV r.g (rW f r side)).1 + (addV r.g (rW f r side)).2) % 2 = 1)
def rPoint (f : Fmt) (r : RS) (side : Int) : RS :=
  bif decide (rW f r side < 0) then rN f r side else bif rOver f r side then { rS f r side with winner := rW f r side }
  else rBegin f { rS f r side with ends := bif rOdd f r side then (rS f r side).ends + 1 else (rS f r side).ends }
structure RS.Bd (r : RS) (K : Int) : Prop where
  k : 0 ≤ K ∧ K ≤ 990
  fst : 0 ≤ r.first ∧ r.first ≤ 1
  g : (0 ≤ r.g.1 ∧ r.g.1 ≤ K) ∧ 0 ≤ r.g.2 ∧ r.g.2 ≤ K
  p : (0 ≤ r.p.1 ∧ r.p.1 ≤ K) ∧ 0 ≤ r.p.2 ∧ r.p.2 ≤ K
  e : 0 ≤ r.ends ∧ r.ends ≤ K
  b : 0 ≤ r.balls ∧ r.balls ≤ K + 1
  s : (r.st.length : Int) ≤ K
  gs : (r.gs.length : Int) ≤ K
theorem rS_ends (f : Fmt) (r : RS) (side : Int) : (rS f r side).ends = r.ends := by unfold rS rG; cases rSet f r side <;> rfl
theorem rS_balls (f : Fmt) (r : RS) (side : Int) : (rS f r side).balls = r.balls := by unfold rS rG; cases rSet f r side <;> rfl
theorem rS_gs (f : Fmt) (r : RS) (side : Int) : (rS f r side).gs.length = r.gs.length + 1 := by unfold rS rG; cases rSet f r side <;> simp
theorem rS_st (f : Fmt) (r : RS) (side : Int) : (rS f r side).st.length ≤ r.st.length + 1 := by unfold rS rG; cases rSet f r side <;> simp
structure RA where
  (sA gA : Option Addr) (sc gc : Nat)

set_option maxRecDepth 100000 in
set_option maxHeartbeats 2000000 in
theorem T_ref1_Point (f : Fmt) (r : RS) (side K : Int) (sA : Option Addr) (sc : Nat) (gA : Option Addr) (gc : Nat) (hf : f.Ok) (hB : r.Bd K) :
    Tr Try.prog 68 [f.val, r.val sA sc gA gc, .int .i64 side] [.own sA sc 31 2 r.st.length (encP r.st), .own gA gc 48 7 r.gs.length (encG r.gs)] (fun _ : RA => True) (fun x => (rPoint f r side).val x.sA x.sc x.gA x.gc)
      (fun x => [.own x.sA x.sc 31 2 (rPoint f r side).st.length (encP (rPoint f r side).st), .own x.gA x.gc 48 7 (rPoint f r side).gs.length (encG (rPoint f r side).gs)]) := by
  refine ⟨fun w0 w R hst => ?_⟩
  obtain ⟨hk, hfst, hg, hp, he, hb, hsl, hgl⟩ := hB
  have hSp : Sm r.p := sm_of hp (by omega)
  have hSp1 : Sm (addV r.p side) := sm_of (addV_bd (side := side) hp) (by omega)
  have hSg : Sm r.g := sm_of hg (by omega)
  have hSg1 : Sm (addV r.g (rW f r side)) := sm_of (addV_bd (side := rW f r side) hg) (by omega)
  have hgb := addV_bd (side := rW f r side) hg
  have hpb := addV_bd (side := side) hp
  have hse1 := rS_ends f r side
  have hsb1 := rS_balls f r side
  have hsg1 := rS_gs f r side
  have hss1 := rS_st f r side
  have hsl1 : (r.gs ++ [rGm f r side]).length = 0 + r.gs.length + 1 := by simp
  have hsl2 : encG (r.gs ++ [rGm f r side]) = [] ++ encG r.gs ++ [(rGm f r side).enc] := by simp [encG]
  have hsl3 : (r.st ++ [addV r.g (rW f r side)]).length = 0 + r.st.length + 1 := by simp
  have hsl4 : encP (r.st ++ [addV r.g (rW f r side)]) = [] ++ encP r.st ++ [[.int .i64 (addV r.g (rW f r side)).1, .int .i64 (addV r.g (rW f r side)).2]] := by simp [encP]
  refine en Try.func68 Try.ntmps68 hst (h := fun F => ?_)
  refine sq (h := ?_)
  refine rg (h := ?_)
  refine bxA (h := fun b0 => ?_)
  refine bxA (h := fun b1 => ?_)
  refine al (h := fun b2 => ?_)
  refine nl (h := ?_)
  refine q_seq (h := ?_)
  refine sq (h := ?_)
  refine rg (h := ?_)
  refine WL.y (hy := (by first | exact ldA | exact ldEA)) (h := ?_)
  refine WL.y (hy := (by first | exact fa | exact faE)) (h := ?_)
  refine WL.y (hy := (by first | exact fa | exact faE)) (h := ?_)
  refine WL.y (hy := (by first | exact ldA | exact ldEA)) (h := ?_)
  refine cl0 (hc := fun w hS => C_ref1_tied f ⟨r.st, r.g, r.p⟩ sA r.st.length sc hf w (hS.get (by repeat (first | exact Rds.ro | exact Rds.own | apply Rds.there))) (by omega)) (h := ?_)
  refine WL.y (hy := mv) (h := ?_)
  refine WL.y (hy := ex) (h := ?_)
  refine WL.y (hy := ex) (h := ?_)
  refine WL.y (hy := asg) (h := ?_)
  refine WL.y (hy := asg) (h := ?_)
  refine nl (h := ?_)
  refine q_seq (h := ?_)
  refine sq (h := ?_)
  refine rg (h := ?_)
  refine WL.y (hy := (by first | exact fa | exact faE)) (h := ?_)
  refine WL.y (hy := (by first | exact fa | exact faE)) (h := ?_)
  refine WL.y (hy := (by first | exact fa | exact faE)) (h := ?_)
  refine WL.y (hy := (by first | exact ldA | exact ldEA)) (h := ?_)
  refine WL.y (hy := mv) (h := ?_)
  refine cl0 (hc := fun w hS => C_ref1_plus _ _ (by assumption) w) (h := ?_)
  refine WL.y (hy := (by first | exact fa | exact faE)) (h := ?_)
  refine WL.y (hy := (by first | exact fa | exact faE)) (h := ?_)
  refine WL.y (hy := (by first | exact fa | exact faE)) (h := ?_)
  first | refine stA (h := ?_) | refine stEA (h := ?_)
  refine nl (h := ?_)
  refine q_seq (h := ?_)
  refine sq (h := ?_)
  refine rg (h := ?_)
  refine WL.y (hy := (by first | exact fa | exact faE)) (h := ?_)
  refine WL.y (hy := (by first | exact fa | exact faE)) (h := ?_)
  refine WL.y (hy := (by first | exact fa | exact faE)) (h := ?_)
  refine WL.y (hy := (by first | exact ldA | exact ldEA)) (h := ?_)
  refine al (h := fun b3 => ?_)
  first | refine stA (h := ?_) | refine stEA (h := ?_)
  refine nl (h := ?_)
  refine q_seq (h := ?_)
  refine sq (h := ?_)
  refine rg (h := ?_)
  refine WL.y (hy := (by first | exact ldA | exact ldEA)) (h := ?_)
  refine WL.y (hy := (by first | exact ldA | exact ldEA)) (h := ?_)
  refine cl0 (hc := fun w hS => C_ref1_game _ _ (by assumption) w) (h := ?_)
  refine WL.y (hy := asg) (h := ?_)
  refine nl (h := ?_)
  refine q_seq (h := ?_)
  refine ct (X := Unit) (fun _ => True) (fun _ => [(3, .pointer (some ⟨b0, 0, none⟩)), (4, .pointer (some ⟨b1, 0, none⟩)), (6, .pointer (some ⟨b2, 0, none⟩)), (7, .bool (tiedV f r.st r.g)), (9, .pointer (some ⟨b3, 0, none⟩)), (10, .int .i64 (rW f r side))]) (fun _ => .blk b0 23 f.cells :: .blk b1 86 ((rN f r side).cells sA sc gA gc) :: .blk b2 86 [.slice none 0 0, .int .i64 0, .int .i64 0, .int .i64 0, .int .i64 0, .int .i64 0, .int .i64 0, .int .i64 0, .int .i64 0, .int .i64 0, .slice none 0 0, .bool false] :: .blk b3 31 [.int .i64 (addV r.p side).1, .int .i64 (addV r.p side).2] :: .own sA sc 31 2 r.st.length (encP r.st) :: .own gA gc 48 7 r.gs.length (encG r.gs) :: R) (h1 := ?_) (h2 := ?_)
  · skip
    refine sq (h := ?_)
    refine rg (h := ?_)
    refine WL.y (hy := mv) (h := ?_)
    refine nl (h := ?_)
    refine q_seq (h := ?_)
    refine cd (by exact rfl) (fun h0 => ?_) (fun h0 => ?_)
    · skip
      have hti : tiedV f r.st r.g = true := h0
      have hW : rW f r side = leadsV (addV r.p side) (setV f (wonV r.st)).2 2 := by rw [rW, hti]; rfl
      refine sq (h := ?_)
      refine rg (h := ?_)
      refine WL.y (hy := (by first | exact ldA | exact ldEA)) (h := ?_)
      refine WL.y (hy := mv) (h := ?_)
      refine cl0 (hc := fun w hS => C_ref1_leads _ _ (by assumption) w) (h := ?_)
      refine WL.y (hy := asg) (h := ?_)
      refine nl (h := ?_)
      refine q_seq (h := ?_)
      refine sq (h := ?_)
      refine WC.sub (l' := [(3, .pointer (some ⟨b0, 0, none⟩)), (4, .pointer (some ⟨b1, 0, none⟩)), (6, .pointer (some ⟨b2, 0, none⟩)), (7, .bool (tiedV f r.st r.g)), (9, .pointer (some ⟨b3, 0, none⟩)), (10, .int .i64 (leadsV (addV r.p side) (setV f (wonV r.st)).2 2))]) (by repeat (first | exact trivial | refine ⟨rfl, ?_⟩)) ?_
      refine rg (h := ?_)
      refine WL.y (hy := mv) (h := ?_)
      refine WL.y (hy := lss) (h := ?_)
      refine WL.y (hy := mv) (h := ?_)
      apply brAnd 8 44 52 (by exact rfl)
      · intro hb1
        refine un (h := ?_)
        refine WL.y (hy := (by first | exact fa | exact faE)) (h := ?_)
        refine un (h := ?_)
        refine WL.y (hy := (by first | exact ld | exact ldE)) (h := ?_)
        refine un (h := ?_)
        refine WL.y (hy := (by first | exact fa | exact faE)) (h := ?_)
        refine un (h := ?_)
        refine WL.y (hy := (by first | exact ld | exact ldE)) (h := ?_)
        refine un (h := ?_)
        refine WL.y (hy := addI) (h := ?_)
        refine un (h := ?_)
        refine WL.y (hy := remI) (h := ?_)
        refine un (h := ?_)
        refine WL.y (hy := eql) (h := ?_)
        refine WL.y (hy := (by first | exact pkT | exact pkF)) (h := ?_)
        exact mg (by repeat (first | exact trivial | refine ⟨rfl, ?_⟩ | refine ⟨by rw [hb1]; rfl, ?_⟩)) (by repeat (first | exact SubL.nil | (apply SubL.cons; (repeat (first | exact At.here | apply At.there))) | exact SubL.refl _ | apply SubL.skip))
      · intro hb1
        repeat (first | refine un (h := ?_) | refine sk (h := ?_) | refine WL.y (hy := pkF) (h := ?_) | refine WL.y (hy := pkT) (h := ?_))
        exact mg (by repeat (first | exact trivial | refine ⟨rfl, ?_⟩ | refine ⟨by rw [hb1]; rfl, ?_⟩)) (by repeat (first | exact SubL.nil | (apply SubL.cons; (repeat (first | exact At.here | apply At.there))) | exact SubL.refl _ | apply SubL.skip))
      refine nl (h := ?_)
      refine q_seq (h := ?_)
      refine cd (by exact rfl) (fun h2 => ?_) (fun h2 => ?_)
      · skip
        have hE : rEnds f r side = r.ends + 1 := by
          have h' : (decide (leadsV (addV r.p side) (setV f (wonV r.st)).2 2 < 0) && decide (((addV r.p side).1 + (addV r.p side).2) % 6 = 0)) = true := h2
          rw [rEnds, hti, hW, h']; rfl
        refine rg (h := ?_)
        refine WL.y (hy := (by first | exact fa | exact faE)) (h := ?_)
        refine WL.y (hy := (by first | exact fa | exact faE)) (h := ?_)
        refine WL.y (hy := (by first | exact ld | exact ldE)) (h := ?_)
        refine WL.y (hy := addI) (h := ?_)
        refine WL.y (hy := (by first | exact fa | exact faE)) (h := ?_)
        refine WL.y (hy := (by first | exact fa | exact faE)) (h := ?_)
        first | refine st (h := ?_) | refine stE (h := ?_)
        refine nl (h := ?_)
        exact ctn () trivial (by repeat (first | exact trivial | refine ⟨rfl, ?_⟩ | refine ⟨by rw [hW]; rfl, ?_⟩)) (by dsimp only [rN, RS.cells]; rw [hE]; repeat (first | exact SubL.nil | (apply SubL.cons; (repeat (first | exact At.here | apply At.there))) | exact SubL.refl _ | apply SubL.skip))
      · skip
        have hE : rEnds f r side = r.ends := by
          have h' : (decide (leadsV (addV r.p side) (setV f (wonV r.st)).2 2 < 0) && decide (((addV r.p side).1 + (addV r.p side).2) % 6 = 0)) = false := h2
          rw [rEnds, hti, hW, h']; rfl
        refine skp (h := ?_)
        exact ctn () trivial (by repeat (first | exact trivial | refine ⟨rfl, ?_⟩ | refine ⟨by rw [hW]; rfl, ?_⟩)) (by dsimp only [rN, RS.cells]; rw [hE]; repeat (first | exact SubL.nil | (apply SubL.cons; (repeat (first | exact At.here | apply At.there))) | exact SubL.refl _ | apply SubL.skip))
    · skip
      have hti : tiedV f r.st r.g = false := h0
      have hW : rW f r side = gameR f (addV r.p side) := by rw [rW, hti]; rfl
      have hE : rEnds f r side = r.ends := by rw [rEnds, hti]; rfl
      refine skp (h := ?_)
      exact ctn () trivial (by repeat (first | exact trivial | refine ⟨rfl, ?_⟩ | refine ⟨by rw [hW]; rfl, ?_⟩)) (by dsimp only [rN, RS.cells]; rw [hE]; repeat (first | exact SubL.nil | (apply SubL.cons; (repeat (first | exact At.here | apply At.there))) | exact SubL.refl _ | apply SubL.skip))
  rintro ⟨⟩ -
  dsimp only [rN, RS.cells]
  refine sq (h := ?_)
  refine sq (h := ?_)
  refine rg (h := ?_)
  refine WL.y (hy := mv) (h := ?_)
  refine WL.y (hy := lss) (h := ?_)
  refine nl (h := ?_)
  refine q_seq (h := ?_)
  refine cd (by exact rfl) (fun h3 => ?_) (fun h3 => ?_)
  · skip
    have hlt : decide (rW f r side < 0) = true := h3
    have hP : rPoint f r side = rN f r side := by rw [rPoint, hlt]; rfl
    refine sq (h := ?_)
    refine rg (h := ?_)
    refine WL.y (hy := (by first | exact ldA | exact ldEA)) (h := ?_)
    first | refine stA (h := ?_) | refine stEA (h := ?_)
    refine nl (h := ?_)
    refine q_seq (h := ?_)
    refine rtn (h := ?_)
    refine q_then_ret (h := ?_)
    refine q_ret (hR := ?_)
    rw [hP]
    exact fun w hS => ⟨⟨sA, gA, sc, gc⟩, trivial, rfl, hS.sub (by repeat (first | exact SubL.nil | (apply SubL.cons; (repeat (first | exact At.here | apply At.there))) | exact SubL.refl _ | apply SubL.skip))⟩
  · skip
    have hlt : decide (rW f r side < 0) = false := h3
    have hE : rEnds f r side = r.ends := by rw [rEnds, hlt, Bool.false_and, Bool.and_false]; rfl
    rw [hE]
    refine skp (h := ?_)
    refine q_seq (h := ?_)
    refine sq (h := ?_)
    refine rg (h := ?_)
    refine WL.y (hy := (by first | exact fa | exact faE)) (h := ?_)
    refine WL.y (hy := (by first | exact fa | exact faE)) (h := ?_)
    refine WL.y (hy := (by first | exact fa | exact faE)) (h := ?_)
    refine WL.y (hy := (by first | exact ld | exact ldE)) (h := ?_)
    refine WL.y (hy := lenS) (h := ?_)
    refine WL.y (hy := asg) (h := ?_)
    refine nl (h := ?_)
    refine q_seq (h := ?_)
    refine ct (X := Option Addr × Nat) (fun _ => True) (fun _ => [(3, .pointer (some ⟨b0, 0, none⟩)), (4, .pointer (some ⟨b1, 0, none⟩)), (6, .pointer (some ⟨b2, 0, none⟩)), (7, .bool (tiedV f r.st r.g)), (10, .int .i64 (rW f r side))]) (fun x => .blk b0 23 f.cells :: .blk b1 86 ({ r with p := addV r.p side, gs := r.gs ++ [rGm f r side] : RS}.cells sA sc x.1 x.2) :: .blk b2 86 [.slice none 0 0, .int .i64 0, .int .i64 0, .int .i64 0, .int .i64 0, .int .i64 0, .int .i64 0, .int .i64 0, .int .i64 0, .int .i64 0, .slice none 0 0, .bool false] :: .own sA sc 31 2 r.st.length (encP r.st) :: .own x.1 x.2 48 7 (r.gs ++ [rGm f r side]).length (encG (r.gs ++ [rGm f r side])) :: R) (h1 := ?_) (h2 := ?_)
    · skip
      refine rgD (by kernel_rfl) [(22, .blk b1 86 [.slice sA r.st.length sc, .int .i64 r.g.1, .int .i64 r.g.2, .int .i64 (addV r.p side).1, .int .i64 (addV r.p side).2, .int .i64 r.server, .int .i64 r.ends, .int .i64 r.balls, .int .i64 r.winner, .int .i64 r.first, .slice gA r.gs.length gc, .bool r.fresh]), (1000000, .blk b0 23 f.cells), (1000000, .blk b3 31 [.int .i64 (addV r.p side).1, .int .i64 (addV r.p side).2])] (by repeat (first | exact HS.nil | (apply HS.keep; (repeat (first | exact At.here | apply At.there))) | (apply HS.ro; (repeat (first | exact Rds.ro | exact Rds.own | apply Rds.there))))) (h := ?_)
      refine tk 1 (hy := (by first | exact fa | exact faE)) (h := ?_)
      refine tk 2 (hy := (by first | exact ld | exact ldE)) (h := ?_)
      refine tk 4 (hy := mv) (h := ?_)
      refine tk 5 (hy := mv) (h := ?_)
      refine tk 6 (hy := (by first | exact ldA | exact ldEA)) (h := ?_)
      refine tk 7 (hy := (by first | exact fa | exact faE)) (h := ?_)
      refine tk 8 (hy := (by first | exact ld | exact ldE)) (h := ?_)
      refine tk 9 (hy := (by first | exact fa | exact faE)) (h := ?_)
      refine tk 10 (hy := (by first | exact ld | exact ldE)) (h := ?_)
      refine tk 11 (hy := lenS) (h := ?_)
      refine tk 12 (hy := mv) (h := ?_)
      refine tk 14 (hy := mv) (h := ?_)
      refine tk 15 (hy := (by first | exact ldA | exact ldEA)) (h := ?_)
      refine tk 16 (hy := (by first | exact fa | exact faE)) (h := ?_)
      refine tk 17 (hy := (by first | exact ld | exact ldE)) (h := ?_)
      refine one 0 (h := ?_)
      refine bs (h := fun b4 => ?_)
      refine nx (h := ?_)
      refine one 3 (h := ?_)
      first | refine ap (h := fun A1 c1 => ?_) | refine ap0 (h := fun A1 c1 => ?_)
      refine nx (h := ?_)
      refine one 13 (h := ?_)
      refine cl0 (hc := fun w hS => C_ref1_Server f r.first r.gs.length (tiedV f r.st r.g) 0 hfst (by omega) (by omega) w) (h := ?_)
      refine nx (h := ?_)
      refine tk 18 (hy := bd) (h := ?_)
      refine one 19 (h := ?_)
      refine bs (h := fun b5 => ?_)
      refine nx (h := ?_)
      refine one 20 (h := ?_)
      first | refine ap (h := fun A2 c2 => ?_) | refine ap0 (h := fun A2 c2 => ?_)
      refine nx (h := ?_)
      refine tk 21 (hy := (by first | exact fa | exact faE)) (h := ?_)
      refine one 22 (h := ?_)
      first | refine st (h := ?_) | refine stE (h := ?_)
      refine nx (h := ?_)
      refine dn (h := ?_)
      exact ctn ⟨_, _⟩ trivial (by repeat (first | exact trivial | refine ⟨rfl, ?_⟩)) (by dsimp only [RS.cells]; rw [hsl1, hsl2]; repeat (first | exact SubL.nil | (apply SubL.cons; (repeat (first | exact At.here | apply At.there))) | exact SubL.refl _ | apply SubL.skip))
    rintro ⟨gA1, gc1⟩ -
    dsimp only [RS.cells]
    refine sq (h := ?_)
    refine rg (h := ?_)
    refine WL.y (hy := bd) (h := ?_)
    refine WL.y (hy := (by first | exact fa | exact faE)) (h := ?_)
    refine WL.y (hy := (by first | exact fa | exact faE)) (h := ?_)
    refine WL.y (hy := (by first | exact fa | exact faE)) (h := ?_)
    first | refine stA (h := ?_) | refine stEA (h := ?_)
    refine nl (h := ?_)
    refine q_seq (h := ?_)
    refine sq (h := ?_)
    refine rg (h := ?_)
    refine WL.y (hy := (by first | exact fa | exact faE)) (h := ?_)
    refine WL.y (hy := (by first | exact fa | exact faE)) (h := ?_)
    refine WL.y (hy := (by first | exact fa | exact faE)) (h := ?_)
    refine WL.y (hy := (by first | exact ldA | exact ldEA)) (h := ?_)
    refine WL.y (hy := mv) (h := ?_)
    refine cl0 (hc := fun w hS => C_ref1_plus _ _ (by assumption) w) (h := ?_)
    refine al (h := fun b6 => ?_)
    first | refine stA (h := ?_) | refine stEA (h := ?_)
    refine nl (h := ?_)
    refine q_seq (h := ?_)
    refine sq (h := ?_)
    refine rg (h := ?_)
    refine WL.y (hy := (by first | exact ldA | exact ldEA)) (h := ?_)
    refine WL.y (hy := (by first | exact fa | exact faE)) (h := ?_)
    refine WL.y (hy := (by first | exact fa | exact faE)) (h := ?_)
    refine WL.y (hy := (by first | exact fa | exact faE)) (h := ?_)
    first | refine stA (h := ?_) | refine stEA (h := ?_)
    refine nl (h := ?_)
    refine q_seq (h := ?_)
    refine ct (X := Option Addr × Nat) (fun _ => rOver f r side = false) (fun _ => [(3, .pointer (some ⟨b0, 0, none⟩)), (4, .pointer (some ⟨b1, 0, none⟩)), (6, .pointer (some ⟨b2, 0, none⟩)), (12, .pointer (some ⟨b6, 0, none⟩))]) (fun x => .blk b0 23 f.cells :: .blk b1 86 ((rS f r side).cells x.1 x.2 gA1 gc1) :: .blk b2 86 [.slice none 0 0, .int .i64 0, .int .i64 0, .int .i64 0, .int .i64 0, .int .i64 0, .int .i64 0, .int .i64 0, .int .i64 0, .int .i64 0, .slice none 0 0, .bool false] :: .blk b6 31 [.int .i64 (addV r.g (rW f r side)).1, .int .i64 (addV r.g (rW f r side)).2] :: .own x.1 x.2 31 2 (rS f r side).st.length (encP (rS f r side).st) :: .own gA1 gc1 48 7 (rS f r side).gs.length (encG (rS f r side).gs) :: R) (h1 := ?_) (h2 := ?_)
    · skip
      refine sq (h := ?_)
      refine rg (h := ?_)
      refine WL.y (hy := mv) (h := ?_)
      refine WL.y (hy := mv) (h := ?_)
      apply brOr 6 104 110 (by exact rfl)
      · intro hb4
        refine un (h := ?_)
        refine WL.y (hy := (by first | exact ldA | exact ldEA)) (h := ?_)
        refine un (h := ?_)
        refine WL.y (hy := (by first | exact fa | exact faE)) (h := ?_)
        refine un (h := ?_)
        refine WL.y (hy := (by first | exact ld | exact ldE)) (h := ?_)
        refine un (h := ?_)
        refine cl0 (hc := fun w hS => C_ref1_leads _ _ (by assumption) w) (h := ?_)
        refine un (h := ?_)
        refine WL.y (hy := geq) (h := ?_)
        refine WL.y (hy := (by first | exact pkT | exact pkF)) (h := ?_)
        exact mg (by repeat (first | exact trivial | refine ⟨rfl, ?_⟩ | refine ⟨by rw [hb4]; rfl, ?_⟩)) (by repeat (first | exact SubL.nil | (apply SubL.cons; (repeat (first | exact At.here | apply At.there))) | exact SubL.refl _ | apply SubL.skip))
      · intro hb4
        repeat (first | refine un (h := ?_) | refine sk (h := ?_) | refine WL.y (hy := pkF) (h := ?_) | refine WL.y (hy := pkT) (h := ?_))
        exact mg (by repeat (first | exact trivial | refine ⟨rfl, ?_⟩ | refine ⟨by rw [hb4]; rfl, ?_⟩)) (by repeat (first | exact SubL.nil | (apply SubL.cons; (repeat (first | exact At.here | apply At.there))) | exact SubL.refl _ | apply SubL.skip))
      refine nl (h := ?_)
      refine q_seq (h := ?_)
      refine cd (by exact rfl) (fun h5 => ?_) (fun h5 => ?_)
      · skip
        have hse : rSet f r side = true := h5
        have hS : rS f r side = { rG f r side with st := r.st ++ [addV r.g (rW f r side)], g := (0, 0) } := by rw [rS, hse]; rfl
        refine ct (X := Option Addr × Nat) (fun _ => True) (fun _ => [(3, .pointer (some ⟨b0, 0, none⟩)), (4, .pointer (some ⟨b1, 0, none⟩)), (6, .pointer (some ⟨b2, 0, none⟩)), (10, .int .i64 (rW f r side)), (12, .pointer (some ⟨b6, 0, none⟩))]) (fun x => .blk b0 23 f.cells :: .blk b1 86 ({ rG f r side with st := r.st ++ [addV r.g (rW f r side)] : RS}.cells x.1 x.2 gA1 gc1) :: .blk b2 86 [.slice none 0 0, .int .i64 0, .int .i64 0, .int .i64 0, .int .i64 0, .int .i64 0, .int .i64 0, .int .i64 0, .int .i64 0, .int .i64 0, .slice none 0 0, .bool false] :: .blk b6 31 [.int .i64 (addV r.g (rW f r side)).1, .int .i64 (addV r.g (rW f r side)).2] :: .own x.1 x.2 31 2 (r.st ++ [addV r.g (rW f r side)]).length (encP (r.st ++ [addV r.g (rW f r side)])) :: .own gA1 gc1 48 7 (r.gs ++ [rGm f r side]).length (encG (r.gs ++ [rGm f r side])) :: R) (h1 := ?_) (h2 := ?_)
        · skip
          refine rgD (by kernel_rfl) [(12, .blk b1 86 [.slice sA r.st.length sc, .int .i64 (addV r.g (rW f r side)).1, .int .i64 (addV r.g (rW f r side)).2, .int .i64 0, .int .i64 0, .int .i64 r.server, .int .i64 r.ends, .int .i64 r.balls, .int .i64 r.winner, .int .i64 r.first, .slice gA1 (r.gs ++ [rGm f r side]).length gc1, .bool r.fresh]), (1000000, .blk b6 31 [.int .i64 (addV r.g (rW f r side)).1, .int .i64 (addV r.g (rW f r side)).2])] (by repeat (first | exact HS.nil | (apply HS.keep; (repeat (first | exact At.here | apply At.there))) | (apply HS.ro; (repeat (first | exact Rds.ro | exact Rds.own | apply Rds.there))))) (h := ?_)
          refine tk 1 (hy := (by first | exact fa | exact faE)) (h := ?_)
          refine tk 2 (hy := (by first | exact fa | exact faE)) (h := ?_)
          refine tk 3 (hy := (by first | exact fa | exact faE)) (h := ?_)
          refine tk 4 (hy := (by first | exact ld | exact ldE)) (h := ?_)
          refine tk 6 (hy := (by first | exact ldA | exact ldEA)) (h := ?_)
          refine two 0 7 (h1 := ?_) (h2 := ?_)
          · skip
            refine bs (h := fun b7 => ?_)
            refine nx (h := ?_)
            refine two 5 7 (h1 := ?_) (h2 := ?_)
            · skip
              first | refine ap (h := fun A3 c3 => ?_) | refine ap0 (h := fun A3 c3 => ?_)
              refine nx (h := ?_)
              refine one 7 (h := ?_)
              refine bs (h := fun b8 => ?_)
              refine nx (h := ?_)
              refine one 8 (h := ?_)
              first | refine ap (h := fun A4 c4 => ?_) | refine ap0 (h := fun A4 c4 => ?_)
              refine nx (h := ?_)
              refine tk 9 (hy := (by first | exact fa | exact faE)) (h := ?_)
              refine tk 10 (hy := (by first | exact fa | exact faE)) (h := ?_)
              refine tk 11 (hy := (by first | exact fa | exact faE)) (h := ?_)
              refine one 12 (h := ?_)
              first | refine st (h := ?_) | refine stE (h := ?_)
              refine nx (h := ?_)
              refine dn (h := ?_)
              exact ctn ⟨_, _⟩ trivial (by repeat (first | exact trivial | refine ⟨rfl, ?_⟩)) (by dsimp only [rG, RS.cells]; rw [hsl3, hsl4]; repeat (first | exact SubL.nil | (apply SubL.cons; (repeat (first | exact At.here | apply At.there))) | exact SubL.refl _ | apply SubL.skip))
            · skip
              refine bs (h := fun b9 => ?_)
              refine nx (h := ?_)
              refine one 5 (h := ?_)
              first | refine ap (h := fun A5 c5 => ?_) | refine ap0 (h := fun A5 c5 => ?_)
              refine nx (h := ?_)
              refine one 8 (h := ?_)
              first | refine ap (h := fun A6 c6 => ?_) | refine ap0 (h := fun A6 c6 => ?_)
              refine nx (h := ?_)
              refine tk 9 (hy := (by first | exact fa | exact faE)) (h := ?_)
              refine tk 10 (hy := (by first | exact fa | exact faE)) (h := ?_)
              refine tk 11 (hy := (by first | exact fa | exact faE)) (h := ?_)
              refine one 12 (h := ?_)
              first | refine st (h := ?_) | refine stE (h := ?_)
              refine nx (h := ?_)
              refine dn (h := ?_)
              exact ctn ⟨_, _⟩ trivial (by repeat (first | exact trivial | refine ⟨rfl, ?_⟩)) (by dsimp only [rG, RS.cells]; rw [hsl3, hsl4]; repeat (first | exact SubL.nil | (apply SubL.cons; (repeat (first | exact At.here | apply At.there))) | exact SubL.refl _ | apply SubL.skip))
          · skip
            refine bs (h := fun b10 => ?_)
            refine nx (h := ?_)
            refine one 0 (h := ?_)
            refine bs (h := fun b11 => ?_)
            refine nx (h := ?_)
            refine one 5 (h := ?_)
            first | refine ap (h := fun A7 c7 => ?_) | refine ap0 (h := fun A7 c7 => ?_)
            refine nx (h := ?_)
            refine one 8 (h := ?_)
            first | refine ap (h := fun A8 c8 => ?_) | refine ap0 (h := fun A8 c8 => ?_)
            refine nx (h := ?_)
            refine tk 9 (hy := (by first | exact fa | exact faE)) (h := ?_)
            refine tk 10 (hy := (by first | exact fa | exact faE)) (h := ?_)
            refine tk 11 (hy := (by first | exact fa | exact faE)) (h := ?_)
            refine one 12 (h := ?_)
            first | refine st (h := ?_) | refine stE (h := ?_)
            refine nx (h := ?_)
            refine dn (h := ?_)
            exact ctn ⟨_, _⟩ trivial (by repeat (first | exact trivial | refine ⟨rfl, ?_⟩)) (by dsimp only [rG, RS.cells]; rw [hsl3, hsl4]; repeat (first | exact SubL.nil | (apply SubL.cons; (repeat (first | exact At.here | apply At.there))) | exact SubL.refl _ | apply SubL.skip))
        rintro ⟨sA1, sc1⟩ -
        dsimp only [rG, RS.cells]
        refine sq (h := ?_)
        refine rg (h := ?_)
        refine WL.y (hy := bd) (h := ?_)
        refine WL.y (hy := (by first | exact fa | exact faE)) (h := ?_)
        refine WL.y (hy := (by first | exact fa | exact faE)) (h := ?_)
        refine WL.y (hy := (by first | exact fa | exact faE)) (h := ?_)
        first | refine stA (h := ?_) | refine stEA (h := ?_)
        refine nl (h := ?_)
        refine q_seq (h := ?_)
        refine sq (h := ?_)
        refine rg (h := ?_)
        refine WL.y (hy := (by first | exact fa | exact faE)) (h := ?_)
        refine WL.y (hy := (by first | exact fa | exact faE)) (h := ?_)
        refine WL.y (hy := (by first | exact fa | exact faE)) (h := ?_)
        refine WL.y (hy := (by first | exact ld | exact ldE)) (h := ?_)
        refine cl0 (hc := fun w hS => C_ref1_Won (r.st ++ [addV r.g (rW f r side)]) sA1 _ sc1 w (hS.get (by repeat (first | exact Rds.ro | exact Rds.own | apply Rds.there))) (by omega)) (h := ?_)
        refine al (h := fun b12 => ?_)
        first | refine stA (h := ?_) | refine stEA (h := ?_)
        refine nl (h := ?_)
        refine q_seq (h := ?_)
        refine sq (h := ?_)
        refine rg (h := ?_)
        refine WL.y (hy := (by first | exact fa | exact faE)) (h := ?_)
        refine WL.y (hy := (by first | exact ld | exact ldE)) (h := ?_)
        refine WL.y (hy := (by first | exact fa | exact faE)) (h := ?_)
        refine WL.y (hy := (by first | exact ld | exact ldE)) (h := ?_)
        refine WL.y (hy := eql) (h := ?_)
        refine WL.y (hy := mv) (h := ?_)
        apply brOr 6 137 143 (by exact rfl)
        · intro hb6
          refine un (h := ?_)
          refine WL.y (hy := (by first | exact fa | exact faE)) (h := ?_)
          refine un (h := ?_)
          refine WL.y (hy := (by first | exact ld | exact ldE)) (h := ?_)
          refine un (h := ?_)
          refine WL.y (hy := (by first | exact fa | exact faE)) (h := ?_)
          refine un (h := ?_)
          refine WL.y (hy := (by first | exact ld | exact ldE)) (h := ?_)
          refine un (h := ?_)
          refine WL.y (hy := eql) (h := ?_)
          refine WL.y (hy := (by first | exact pkT | exact pkF)) (h := ?_)
          exact mg (by repeat (first | exact trivial | refine ⟨rfl, ?_⟩ | refine ⟨by rw [hb6]; rfl, ?_⟩)) (by repeat (first | exact SubL.nil | (apply SubL.cons; (repeat (first | exact At.here | apply At.there))) | exact SubL.refl _ | apply SubL.skip))
        · intro hb6
          repeat (first | refine un (h := ?_) | refine sk (h := ?_) | refine WL.y (hy := pkF) (h := ?_) | refine WL.y (hy := pkT) (h := ?_))
          exact mg (by repeat (first | exact trivial | refine ⟨rfl, ?_⟩ | refine ⟨by rw [hb6]; rfl, ?_⟩)) (by repeat (first | exact SubL.nil | (apply SubL.cons; (repeat (first | exact At.here | apply At.there))) | exact SubL.refl _ | apply SubL.skip))
        refine nl (h := ?_)
        refine q_seq (h := ?_)
        refine cd (by exact rfl) (fun h7 => ?_) (fun h7 => ?_)
        · skip
          have hO : rOver f r side = true := by rw [rOver, hse]; exact h7
          have hP : rPoint f r side = { rS f r side with winner := rW f r side } := by rw [rPoint, hlt, hO]; rfl
          refine sq (h := ?_)
          refine rg (h := ?_)
          refine WL.y (hy := mv) (h := ?_)
          refine WL.y (hy := (by first | exact fa | exact faE)) (h := ?_)
          refine WL.y (hy := (by first | exact fa | exact faE)) (h := ?_)
          first | refine st (h := ?_) | refine stE (h := ?_)
          refine nl (h := ?_)
          refine q_seq (h := ?_)
          refine sq (h := ?_)
          refine rg (h := ?_)
          refine WL.y (hy := (by first | exact ldA | exact ldEA)) (h := ?_)
          first | refine stA (h := ?_) | refine stEA (h := ?_)
          refine nl (h := ?_)
          refine q_seq (h := ?_)
          refine rtn (h := ?_)
          refine q_then_ret (h := ?_)
          refine q_ret (hR := ?_)
          rw [hP, hS]
          exact fun w hS => ⟨⟨sA1, gA1, sc1, gc1⟩, trivial, rfl, hS.sub (by repeat (first | exact SubL.nil | (apply SubL.cons; (repeat (first | exact At.here | apply At.there))) | exact SubL.refl _ | apply SubL.skip))⟩
        · skip
          have hO : rOver f r side = false := by rw [rOver, hse]; exact h7
          refine skp (h := ?_)
          first
            | exact ctn (x := (sA1, sc1)) hO (by repeat (first | exact trivial | refine ⟨rfl, ?_⟩)) (by rw [hS]; dsimp only [rG, RS.cells]; repeat (first | exact SubL.nil | (apply SubL.cons; (repeat (first | exact At.here | apply At.there))) | exact SubL.refl _ | apply SubL.skip))
            | exact ctn (x := (sA, sc)) hO (by repeat (first | exact trivial | refine ⟨rfl, ?_⟩)) (by rw [hS]; dsimp only [rG, RS.cells]; repeat (first | exact SubL.nil | (apply SubL.cons; (repeat (first | exact At.here | apply At.there))) | exact SubL.refl _ | apply SubL.skip))
      · skip
        have hse : rSet f r side = false := h5
        have hS : rS f r side = rG f r side := by rw [rS, hse]; rfl
        have hO : rOver f r side = false := by rw [rOver, hse]; rfl
        refine skp (h := ?_)
        first
          | exact ctn (x := (sA1, sc1)) hO (by repeat (first | exact trivial | refine ⟨rfl, ?_⟩)) (by rw [hS]; dsimp only [rG, RS.cells]; repeat (first | exact SubL.nil | (apply SubL.cons; (repeat (first | exact At.here | apply At.there))) | exact SubL.refl _ | apply SubL.skip))
          | exact ctn (x := (sA, sc)) hO (by repeat (first | exact trivial | refine ⟨rfl, ?_⟩)) (by rw [hS]; dsimp only [rG, RS.cells]; repeat (first | exact SubL.nil | (apply SubL.cons; (repeat (first | exact At.here | apply At.there))) | exact SubL.refl _ | apply SubL.skip))
    rintro ⟨sA2, sc2⟩ hO
    dsimp only [RS.cells]
    refine sq (h := ?_)
    refine sq (h := ?_)
    refine rg (h := ?_)
    refine WL.y (hy := (by first | exact fa | exact faE)) (h := ?_)
    refine WL.y (hy := (by first | exact ld | exact ldE)) (h := ?_)
    refine WL.y (hy := (by first | exact fa | exact faE)) (h := ?_)
    refine WL.y (hy := (by first | exact ld | exact ldE)) (h := ?_)
    refine WL.y (hy := addI) (h := ?_)
    refine WL.y (hy := remI) (h := ?_)
    refine WL.y (hy := eql) (h := ?_)
    refine nl (h := ?_)
    refine q_seq (h := ?_)
    refine cd (by exact rfl) (fun h8 => ?_) (fun h8 => ?_)
    · skip
      have hP : rPoint f r side = rBegin f { rS f r side with ends := (rS f r side).ends + 1 } := by
        have h' : rOdd f r side = true := h8
        rw [rPoint, hlt, hO, h']; rfl
      obtain ⟨r2, hr2⟩ : ∃ r2 : RS, r2 = { rS f r side with ends := (rS f r side).ends + 1 } := ⟨_, rfl⟩
      refine rg (h := ?_)
      refine WL.y (hy := (by first | exact fa | exact faE)) (h := ?_)
      refine WL.y (hy := (by first | exact fa | exact faE)) (h := ?_)
      refine WL.y (hy := (by first | exact ld | exact ldE)) (h := ?_)
      refine WL.y (hy := addI) (h := ?_)
      refine WL.y (hy := (by first | exact fa | exact faE)) (h := ?_)
      refine WL.y (hy := (by first | exact fa | exact faE)) (h := ?_)
      first | refine st (h := ?_) | refine stE (h := ?_)
      refine nl (h := ?_)
      refine q_seq (h := ?_)
      refine sq (h := ?_)
      refine rg (h := ?_)
      refine WL.y (hy := (by first | exact ldA | exact ldEA)) (h := ?_)
      refine WL.y (hy := (by first | exact ldA | exact ldEA)) (h := ?_)
      refine cl0 (hc := fun w hS => C_ref1_begin f r2 sA2 sc2 gA1 gc1 (rS f r side).st.length (rS f r side).gs.length hf w (hS.get (by subst hr2; repeat (first | exact Rds.ro | exact Rds.own | apply Rds.there))) (hS.get (by subst hr2; repeat (first | exact Rds.ro | exact Rds.own | apply Rds.there))) (by omega) (by omega) (by subst hr2; dsimp only; omega)) (hargs := by subst hr2; repeat (first | exact Evs.nil | (apply Evs.cons; exact rfl))) (h := ?_)
      first | refine stA (h := ?_) | refine stEA (h := ?_)
      refine nl (h := ?_)
      refine q_seq (h := ?_)
      refine rtn (h := ?_)
      refine q_ret (hR := ?_)
      rw [hP, ← hr2]
      exact fun w hS => ⟨⟨sA2, gA1, sc2, gc1⟩, trivial, rfl, hS.sub (by subst hr2; dsimp only [rBegin]; repeat (first | exact SubL.nil | (apply SubL.cons; (repeat (first | exact At.here | apply At.there))) | exact SubL.refl _ | apply SubL.skip))⟩
    · skip
      have hP : rPoint f r side = rBegin f { rS f r side with ends := (rS f r side).ends } := by
        have h' : rOdd f r side = false := h8
        rw [rPoint, hlt, hO, h']; rfl
      obtain ⟨r2, hr2⟩ : ∃ r2 : RS, r2 = { rS f r side with ends := (rS f r side).ends } := ⟨_, rfl⟩
      refine skp (h := ?_)
      refine q_seq (h := ?_)
      refine sq (h := ?_)
      refine rg (h := ?_)
      refine WL.y (hy := (by first | exact ldA | exact ldEA)) (h := ?_)
      refine WL.y (hy := (by first | exact ldA | exact ldEA)) (h := ?_)
      refine cl0 (hc := fun w hS => C_ref1_begin f r2 sA2 sc2 gA1 gc1 (rS f r side).st.length (rS f r side).gs.length hf w (hS.get (by subst hr2; repeat (first | exact Rds.ro | exact Rds.own | apply Rds.there))) (hS.get (by subst hr2; repeat (first | exact Rds.ro | exact Rds.own | apply Rds.there))) (by omega) (by omega) (by subst hr2; dsimp only; omega)) (hargs := by subst hr2; repeat (first | exact Evs.nil | (apply Evs.cons; exact rfl))) (h := ?_)
      first | refine stA (h := ?_) | refine stEA (h := ?_)
      refine nl (h := ?_)
      refine q_seq (h := ?_)
      refine rtn (h := ?_)
      refine q_ret (hR := ?_)
      rw [hP, ← hr2]
      exact fun w hS => ⟨⟨sA2, gA1, sc2, gc1⟩, trivial, rfl, hS.sub (by subst hr2; dsimp only [rBegin]; repeat (first | exact SubL.nil | (apply SubL.cons; (repeat (first | exact At.here | apply At.there))) | exact SubL.refl _ | apply SubL.skip))⟩
end Go.Proofs.Ytebhkghgifiahaa
