/- The law LinesLess, walked. -/
import Derived.Test.YtdphljhhcaoleaaK4
import Derived.Test.YtdphljhhcaoleaaWB
import Derived.Test.YtdphljhhcaoleaaLO
namespace Go.Proofs.Ytdphljhhcaoleaa
open Go Go.RowKit

structure Loose where
  (w s a o : Int)
abbrev Loose.val (x : Loose) : Value := .agg #[.int .i64 x.w, .int .i64 x.s, .int .i64 x.a, .int .i64 x.o]
theorem loose_open {w : World} {cs : List Value} (h : Mts w i4 cs) : ∃ b : Loose, Value.agg cs.toArray = b.val := by
  obtain ⟨a, b, c, d, rfl⟩ := i4_open h
  exact ⟨⟨a, b, c, d⟩, rfl⟩
def lessV (v : View) (x : Loose) (ss : List Strip) : View := ⟨v.size, ss, min 3 (v.wr + x.w), max 1 (v.hxl - x.a), min 5 (v.hxh + x.a), max 1 (v.hyl - x.a), min 5 (v.hyh + x.a)⟩
structure LZ where
  (o : View) (A : Option Addr) (n c : Nat)
theorem vbad_wr {v : View} (h : vbad v = false) : 0 ≤ v.wr ∧ v.wr ≤ 3 := by
  simp only [vbad, Bool.or_eq_false_iff, Bool.not_eq_false', wi_iff] at h
  omega
theorem less_of {v : View} {x : Loose} {ss : List Strip} (hv : vbad v = false) (hx : v.hxh ≤ 5) (hy : v.hyh ≤ 5) (hw : 0 ≤ x.w) (ha : 0 ≤ x.a) (hs : 0 ≤ x.s) (hss : ss.Sublist (v.strips.map (wid1 x.s))) : Less v (lessV v x ss) := by
  have hwr := vbad_wr hv
  obtain ⟨a1, a2, a3, a4, a5, a6, a7, a8, _, _⟩ := vbad_near hv
  refine ⟨rfl, fun p hp => ?_, by simp only [lessV]; omega, by simp only [lessV]; omega, by simp only [lessV]; omega, by simp only [lessV]; omega⟩
  simp only [tru, decide_eq_true_eq, wrongs_count] at *
  have h1 := wid_count (ss := v.strips) (x := p.1) (y := p.2) hs
  have h2 := hss.countP_le (p := fun s => miss s p.1 p.2)
  simp only [lessV]
  omega
theorem known_callE {v : View} {b : Box} (hv : vbad v = false) (hb : bbad b = false) : callE v b = knownE v := by
  rcases none_of hv hb with ⟨e, h⟩ | ⟨e, h, _⟩ <;> rw [e] <;> simp [knownE, hv, h]
theorem less_fin {v o : View} {b : Box} (hv : vbad v = false) (ho : vbad o = false) (hb : bbad b = false) (h : Less v o) :
    (((!decide (callE v b = knownE v) || !decide (callE o b = knownE o)) || (decide (callE v b = 0) && !decide (callE o b = 0))) || decide (((knownL o).length : Int) < (knownL v).length)) = false ∧
    (((!decide (callE v b = 0) || decide (callN o b = callN v b)) || decide (callN o b = 3)) && true) = true := by
  have e1 := known_callE hv hb
  have e2 := known_callE ho hb
  have hl := h.len
  have k1 : knownL v = trus v := by simp [knownL, hv]
  have k2 : knownL o = trus o := by simp [knownL, ho]
  have n1 := (callE_ok hv hb).2
  have n2 := (callE_ok ho hb).2
  rw [k1, k2, n1, n2]
  rcases none_of hv hb with ⟨c1, h1⟩ | ⟨c1, h1, _⟩
  · refine ⟨?_, by simp [c1]⟩
    rw [← e1, ← e2, c1]
    simp
    omega
  · have hno := h.none h1
    have c2 : callE o b = 0 := by
      rcases none_of ho hb with ⟨_, h2⟩ | ⟨c2, _⟩
      · rw [hno] at h2; cases h2
      · exact c2
    refine ⟨?_, ?_⟩
    · rw [← e1, ← e2, c1, c2]
      simp
      omega
    · rcases h.call (b := b) (vbad_near hv) (vbad_near ho) h1 with e | e <;> simp [e]
theorem cut_sub {α : Type} (l : List α) (k : Nat) : (l.take k ++ l.drop (k + 1)).Sublist l := by
  have h1 : (l.drop (k + 1)).Sublist (l.drop k) := by
    rw [← List.drop_drop]; exact List.drop_sublist 1 _
  have h2 := (List.Sublist.refl (l.take k)).append h1
  rwa [List.take_append_drop] at h2
theorem cut_enc {v : View} {x : Loose} {n : Nat} (hlen : v.strips.length = n) : ([] ++ ((wid v x.s).enc.drop 0).take (x.o.toNat - 0)) ++ ((wid v x.s).enc.drop (x.o.toNat + 1)).take (n - (x.o.toNat + 1)) = (lessV v x ((wid v x.s).strips.take x.o.toNat ++ (wid v x.s).strips.drop (x.o.toNat + 1))).enc := by
  have hl : (wid v x.s).strips.length = n := by simp [wid, hlen]
  simp only [List.nil_append, List.drop_zero, Nat.sub_zero, lessV, View.enc, List.map_append, List.map_take, List.map_drop]
  rw [List.take_of_length_le (l := List.drop _ _) (by simp [hl])]
structure LW where
  (o : View) (A : Option Addr) (n c : Nat) (es : List (List Value))
def cutV (v : View) (x : Loose) : View := lessV v x ((wid v x.s).strips.take x.o.toNat ++ (wid v x.s).strips.drop (x.o.toNat + 1))

set_option maxHeartbeats 2000000 in
theorem K_LinesLess (v : View) (b : Box) (x : Loose) (A : Option Addr) (n c : Nat) (w : World) (h : Rd w A 4 n v.enc) (hn : n ≤ 9223372036854775807) : C0 Try.prog 3 [v.val A n c, b.val, x.val] w (.bool true) := by
  have hlen : v.strips.length = n := by have := h.len; simpa using this
  refine ⟨en Try.func3 Try.ntmps3 ((St.init w).share (e := .ro A 4 n v.enc) h rfl rfl rfl) (h := fun F => ?_)⟩
  refine sq (h := ?_)
  refine rg (h := ?_)
  refine bxA (h := fun b0 => ?_)
  refine bxA (h := fun b1 => ?_)
  refine bxA (h := fun b2 => ?_)
  refine WL.y (hy := asg) (h := ?_)
  refine nl (h := ?_)
  refine q_seq (h := ?_)
  refine sq (h := ?_)
  refine sq (h := ?_)
  refine rg (h := ?_)
  refine WL.y (hy := (by first | exact ldA | exact ldEA)) (h := ?_)
  refine WL.y (hy := (by first | exact ldA | exact ldEA)) (h := ?_)
  refine cl0 (hc := fun w hS => C_deucelaw02_valid _ _ _ _ _ w (hS.get (by repeat (first | exact Rds.ro | exact Rds.own | apply Rds.there))) (by omega)) (h := ?_)
  refine WL.y (hy := notB) (h := ?_)
  refine WL.y (hy := mv) (h := ?_)
  apply brOr 4 24 28 (by exact rfl)
  · intro hb0
    refine un (h := ?_)
    refine WL.y (hy := (by first | exact fa | exact faE)) (h := ?_)
    refine un (h := ?_)
    refine WL.y (hy := (by first | exact ld | exact ldE)) (h := ?_)
    refine un (h := ?_)
    refine WL.y (hy := lss) (h := ?_)
    refine WL.y (hy := (by first | exact pkT | exact pkF)) (h := ?_)
    exact mg (by repeat (first | exact trivial | refine ⟨rfl, ?_⟩ | refine ⟨by rw [hb0]; rfl, ?_⟩)) (by repeat (first | exact SubL.nil | (apply SubL.cons; (repeat (first | exact At.here | apply At.there)))))
  · intro hb0
    repeat (first | refine un (h := ?_) | refine sk (h := ?_) | refine WL.y (hy := pkF) (h := ?_) | refine WL.y (hy := pkT) (h := ?_))
    exact mg (by repeat (first | exact trivial | refine ⟨rfl, ?_⟩ | refine ⟨by rw [hb0]; rfl, ?_⟩)) (by repeat (first | exact SubL.nil | (apply SubL.cons; (repeat (first | exact At.here | apply At.there)))))
  refine WL.y (hy := mv) (h := ?_)
  apply brOr 4 29 33 (by exact rfl)
  · intro hb1
    refine un (h := ?_)
    refine WL.y (hy := (by first | exact fa | exact faE)) (h := ?_)
    refine un (h := ?_)
    refine WL.y (hy := (by first | exact ld | exact ldE)) (h := ?_)
    refine un (h := ?_)
    refine WL.y (hy := gtr) (h := ?_)
    refine WL.y (hy := (by first | exact pkT | exact pkF)) (h := ?_)
    exact mg (by repeat (first | exact trivial | refine ⟨rfl, ?_⟩ | refine ⟨by rw [hb1]; rfl, ?_⟩)) (by repeat (first | exact SubL.nil | (apply SubL.cons; (repeat (first | exact At.here | apply At.there)))))
  · intro hb1
    repeat (first | refine un (h := ?_) | refine sk (h := ?_) | refine WL.y (hy := pkF) (h := ?_) | refine WL.y (hy := pkT) (h := ?_))
    exact mg (by repeat (first | exact trivial | refine ⟨rfl, ?_⟩ | refine ⟨by rw [hb1]; rfl, ?_⟩)) (by repeat (first | exact SubL.nil | (apply SubL.cons; (repeat (first | exact At.here | apply At.there)))))
  refine WL.y (hy := mv) (h := ?_)
  apply brOr 4 34 38 (by exact rfl)
  · intro hb2
    refine un (h := ?_)
    refine WL.y (hy := (by first | exact fa | exact faE)) (h := ?_)
    refine un (h := ?_)
    refine WL.y (hy := (by first | exact ld | exact ldE)) (h := ?_)
    refine un (h := ?_)
    refine WL.y (hy := lss) (h := ?_)
    refine WL.y (hy := (by first | exact pkT | exact pkF)) (h := ?_)
    exact mg (by repeat (first | exact trivial | refine ⟨rfl, ?_⟩ | refine ⟨by rw [hb2]; rfl, ?_⟩)) (by repeat (first | exact SubL.nil | (apply SubL.cons; (repeat (first | exact At.here | apply At.there)))))
  · intro hb2
    repeat (first | refine un (h := ?_) | refine sk (h := ?_) | refine WL.y (hy := pkF) (h := ?_) | refine WL.y (hy := pkT) (h := ?_))
    exact mg (by repeat (first | exact trivial | refine ⟨rfl, ?_⟩ | refine ⟨by rw [hb2]; rfl, ?_⟩)) (by repeat (first | exact SubL.nil | (apply SubL.cons; (repeat (first | exact At.here | apply At.there)))))
  refine WL.y (hy := mv) (h := ?_)
  apply brOr 4 39 43 (by exact rfl)
  · intro hb3
    refine un (h := ?_)
    refine WL.y (hy := (by first | exact fa | exact faE)) (h := ?_)
    refine un (h := ?_)
    refine WL.y (hy := (by first | exact ld | exact ldE)) (h := ?_)
    refine un (h := ?_)
    refine WL.y (hy := gtr) (h := ?_)
    refine WL.y (hy := (by first | exact pkT | exact pkF)) (h := ?_)
    exact mg (by repeat (first | exact trivial | refine ⟨rfl, ?_⟩ | refine ⟨by rw [hb3]; rfl, ?_⟩)) (by repeat (first | exact SubL.nil | (apply SubL.cons; (repeat (first | exact At.here | apply At.there)))))
  · intro hb3
    repeat (first | refine un (h := ?_) | refine sk (h := ?_) | refine WL.y (hy := pkF) (h := ?_) | refine WL.y (hy := pkT) (h := ?_))
    exact mg (by repeat (first | exact trivial | refine ⟨rfl, ?_⟩ | refine ⟨by rw [hb3]; rfl, ?_⟩)) (by repeat (first | exact SubL.nil | (apply SubL.cons; (repeat (first | exact At.here | apply At.there)))))
  refine WL.y (hy := mv) (h := ?_)
  apply brOr 4 44 48 (by exact rfl)
  · intro hb4
    refine un (h := ?_)
    refine WL.y (hy := (by first | exact fa | exact faE)) (h := ?_)
    refine un (h := ?_)
    refine WL.y (hy := (by first | exact ld | exact ldE)) (h := ?_)
    refine un (h := ?_)
    refine WL.y (hy := lss) (h := ?_)
    refine WL.y (hy := (by first | exact pkT | exact pkF)) (h := ?_)
    exact mg (by repeat (first | exact trivial | refine ⟨rfl, ?_⟩ | refine ⟨by rw [hb4]; rfl, ?_⟩)) (by repeat (first | exact SubL.nil | (apply SubL.cons; (repeat (first | exact At.here | apply At.there)))))
  · intro hb4
    repeat (first | refine un (h := ?_) | refine sk (h := ?_) | refine WL.y (hy := pkF) (h := ?_) | refine WL.y (hy := pkT) (h := ?_))
    exact mg (by repeat (first | exact trivial | refine ⟨rfl, ?_⟩ | refine ⟨by rw [hb4]; rfl, ?_⟩)) (by repeat (first | exact SubL.nil | (apply SubL.cons; (repeat (first | exact At.here | apply At.there)))))
  refine WL.y (hy := mv) (h := ?_)
  apply brOr 4 49 53 (by exact rfl)
  · intro hb5
    refine un (h := ?_)
    refine WL.y (hy := (by first | exact fa | exact faE)) (h := ?_)
    refine un (h := ?_)
    refine WL.y (hy := (by first | exact ld | exact ldE)) (h := ?_)
    refine un (h := ?_)
    refine WL.y (hy := gtr) (h := ?_)
    refine WL.y (hy := (by first | exact pkT | exact pkF)) (h := ?_)
    exact mg (by repeat (first | exact trivial | refine ⟨rfl, ?_⟩ | refine ⟨by rw [hb5]; rfl, ?_⟩)) (by repeat (first | exact SubL.nil | (apply SubL.cons; (repeat (first | exact At.here | apply At.there)))))
  · intro hb5
    repeat (first | refine un (h := ?_) | refine sk (h := ?_) | refine WL.y (hy := pkF) (h := ?_) | refine WL.y (hy := pkT) (h := ?_))
    exact mg (by repeat (first | exact trivial | refine ⟨rfl, ?_⟩ | refine ⟨by rw [hb5]; rfl, ?_⟩)) (by repeat (first | exact SubL.nil | (apply SubL.cons; (repeat (first | exact At.here | apply At.there)))))
  refine nl (h := ?_)
  refine q_seq (h := ?_)
  refine cd (by exact rfl) (fun h6 => ?_) (fun h6 => ?_)
  · skip
    refine sq (h := ?_)
    refine rg (h := ?_)
    refine cl0 (hc := fun w hS => C_deucelaw02_works w) (h := ?_)
    refine WL.y (hy := asg) (h := ?_)
    refine nl (h := ?_)
    refine q_seq (h := ?_)
    refine rtn (h := ?_)
    refine q_then_ret (h := ?_)
    refine q_ret (hR := ?_)
    first
      | exact fun w hS => ⟨rfl, hS.sub (by repeat (first | exact SubL.nil | (apply SubL.cons; (repeat (first | exact At.here | apply At.there)))))⟩
      | exact fun w hS => ⟨congrArg (fun x => Ending.returned (Value.bool x)) hfin.2, hS.sub (by repeat (first | exact SubL.nil | (apply SubL.cons; (repeat (first | exact At.here | apply At.there)))))⟩
  · skip
    simp only [Bool.or_eq_false_iff, decide_eq_false_iff_not] at h6
    obtain ⟨⟨⟨⟨⟨⟨hva, hw0⟩, hw1⟩, hs0⟩, hs1⟩, ha0⟩, ha1⟩ := h6
    obtain ⟨hn40, hvb, hbb, hvs, hvx, hvy⟩ := valid_of hva
    have hwr := vbad_wr hvb
    obtain ⟨k1, k2, k3, k4, k5, k6, k7, k8, _, _⟩ := vbad_near hvb
    have hrg : Rng v 1000 := fun s hs => by have := vbad_rng hvb s hs; omega
    refine skp (h := ?_)
    refine q_seq (h := ?_)
    refine sq (h := ?_)
    refine rg (h := ?_)
    refine WL.y (hy := (by first | exact ldA | exact ldEA)) (h := ?_)
    refine WL.y (hy := (by first | exact fa | exact faE)) (h := ?_)
    refine WL.y (hy := (by first | exact ld | exact ldE)) (h := ?_)
    refine cl (hc := fun w hS => C_ref_Wider _ _ _ _ _ w (hS.get (by repeat (first | exact Rds.ro | exact Rds.own | apply Rds.there))) (by omega) ‹_› (by omega)) (h := fun x2 _ => ?_)
    refine al (h := fun b3 => ?_)
    first | refine stA (h := ?_) | refine stEA (h := ?_)
    refine nl (h := ?_)
    refine q_seq (h := ?_)
    refine sq (h := ?_)
    refine rg (h := ?_)
    refine WL.y (hy := (by first | exact fa | exact faE)) (h := ?_)
    refine WL.y (hy := (by first | exact ld | exact ldE)) (h := ?_)
    refine WL.y (hy := (by first | exact fa | exact faE)) (h := ?_)
    refine WL.y (hy := (by first | exact ld | exact ldE)) (h := ?_)
    refine WL.y (hy := addI) (h := ?_)
    refine WL.y (hy := minI) (h := ?_)
    refine WL.y (hy := (by first | exact fa | exact faE)) (h := ?_)
    first | refine st (h := ?_) | refine stE (h := ?_)
    refine nl (h := ?_)
    refine q_seq (h := ?_)
    refine sq (h := ?_)
    refine rg (h := ?_)
    refine WL.y (hy := (by first | exact fa | exact faE)) (h := ?_)
    refine WL.y (hy := (by first | exact fa | exact faE)) (h := ?_)
    refine WL.y (hy := (by first | exact ld | exact ldE)) (h := ?_)
    refine WL.y (hy := (by first | exact fa | exact faE)) (h := ?_)
    refine WL.y (hy := (by first | exact ld | exact ldE)) (h := ?_)
    refine WL.y (hy := subI) (h := ?_)
    refine WL.y (hy := maxI) (h := ?_)
    refine WL.y (hy := (by first | exact fa | exact faE)) (h := ?_)
    refine WL.y (hy := (by first | exact fa | exact faE)) (h := ?_)
    refine WL.y (hy := (by first | exact ld | exact ldE)) (h := ?_)
    refine WL.y (hy := (by first | exact fa | exact faE)) (h := ?_)
    refine WL.y (hy := (by first | exact ld | exact ldE)) (h := ?_)
    refine WL.y (hy := addI) (h := ?_)
    refine WL.y (hy := minI) (h := ?_)
    refine WL.y (hy := bd) (h := ?_)
    refine WL.y (hy := (by first | exact fa | exact faE)) (h := ?_)
    first | refine stA (h := ?_) | refine stEA (h := ?_)
    refine nl (h := ?_)
    refine q_seq (h := ?_)
    refine sq (h := ?_)
    refine rg (h := ?_)
    refine WL.y (hy := (by first | exact fa | exact faE)) (h := ?_)
    refine WL.y (hy := (by first | exact fa | exact faE)) (h := ?_)
    refine WL.y (hy := (by first | exact ld | exact ldE)) (h := ?_)
    refine WL.y (hy := (by first | exact fa | exact faE)) (h := ?_)
    refine WL.y (hy := (by first | exact ld | exact ldE)) (h := ?_)
    refine WL.y (hy := subI) (h := ?_)
    refine WL.y (hy := maxI) (h := ?_)
    refine WL.y (hy := (by first | exact fa | exact faE)) (h := ?_)
    refine WL.y (hy := (by first | exact fa | exact faE)) (h := ?_)
    refine WL.y (hy := (by first | exact ld | exact ldE)) (h := ?_)
    refine WL.y (hy := (by first | exact fa | exact faE)) (h := ?_)
    refine WL.y (hy := (by first | exact ld | exact ldE)) (h := ?_)
    refine WL.y (hy := addI) (h := ?_)
    refine WL.y (hy := minI) (h := ?_)
    refine WL.y (hy := bd) (h := ?_)
    refine WL.y (hy := (by first | exact fa | exact faE)) (h := ?_)
    first | refine stA (h := ?_) | refine stEA (h := ?_)
    refine nl (h := ?_)
    refine q_seq (h := ?_)
    refine ct (X := LW) (fun z => Less v z.o ∧ z.es = z.o.enc ∧ z.n ≤ 1000) (fun z => [(3, .pointer (some ⟨b0, 0, none⟩)), (4, .pointer (some ⟨b1, 0, none⟩)), (7, .pointer (some ⟨b3, 0, none⟩))]) (fun z => [.blk b0 26 (v.cells A n c), .blk b1 28 [.int .i64 b.l, .int .i64 b.r, .int .i64 b.b, .int .i64 b.t], .blk b3 26 (z.o.cells z.A z.n z.c), .own z.A z.c 59 4 z.n z.es, .ro A 4 n v.enc]) (h1 := ?_) (h2 := ?_)
    · skip
      refine sq (h := ?_)
      refine rg (h := ?_)
      refine WL.y (hy := (by first | exact fa | exact faE)) (h := ?_)
      refine WL.y (hy := (by first | exact ld | exact ldE)) (h := ?_)
      refine WL.y (hy := geq) (h := ?_)
      refine WL.y (hy := mv) (h := ?_)
      apply brAnd 7 101 108 (by exact rfl)
      · intro hb7
        refine un (h := ?_)
        refine WL.y (hy := (by first | exact fa | exact faE)) (h := ?_)
        refine un (h := ?_)
        refine WL.y (hy := (by first | exact ld | exact ldE)) (h := ?_)
        refine un (h := ?_)
        refine WL.y (hy := (by first | exact fa | exact faE)) (h := ?_)
        refine un (h := ?_)
        refine WL.y (hy := (by first | exact ld | exact ldE)) (h := ?_)
        refine un (h := ?_)
        refine WL.y (hy := lenS) (h := ?_)
        refine un (h := ?_)
        refine WL.y (hy := lss) (h := ?_)
        refine WL.y (hy := (by first | exact pkT | exact pkF)) (h := ?_)
        exact mg (by repeat (first | exact trivial | refine ⟨rfl, ?_⟩ | refine ⟨by rw [hb7]; rfl, ?_⟩)) (by repeat (first | exact SubL.nil | (apply SubL.cons; (repeat (first | exact At.here | apply At.there)))))
      · intro hb7
        repeat (first | refine un (h := ?_) | refine sk (h := ?_) | refine WL.y (hy := pkF) (h := ?_) | refine WL.y (hy := pkT) (h := ?_))
        exact mg (by repeat (first | exact trivial | refine ⟨rfl, ?_⟩ | refine ⟨by rw [hb7]; rfl, ?_⟩)) (by repeat (first | exact SubL.nil | (apply SubL.cons; (repeat (first | exact At.here | apply At.there)))))
      refine nl (h := ?_)
      refine q_seq (h := ?_)
      refine cd (by exact rfl) (fun h8 => ?_) (fun h8 => ?_)
      · skip
        simp only [Bool.and_eq_true, decide_eq_true_eq] at h8
        obtain ⟨ho0, ho1⟩ := h8
        refine WC.room (by repeat (first | exact At.here | apply At.there)) (fun hroom => ?_)
        refine WC.toRo (by repeat (first | exact At.here | apply At.there)) ?_
        refine WC.part (A := x2.1) (m := n) (cap := x2.2) (by repeat (first | exact At.here | apply At.there)) 0 x.o.toNat (by omega) (by omega) (by omega) ?_
        refine WC.part (A := x2.1) (m := n) (cap := x2.2) (es := (wid v x.s).enc) (by repeat (first | exact At.here | apply At.there)) (x.o.toNat + 1) n (by omega) (by omega) (by omega) ?_
        refine rgD (by kernel_rfl) [(15, .blk b3 26 ((lessV v x (wid v x.s).strips).cells x2.1 n x2.2)), (1000000, .blk b2 30 [.int .i64 x.w, .int .i64 x.s, .int .i64 x.a, .int .i64 x.o])] (by repeat (first | exact HS.nil | (apply HS.keep; (repeat (first | exact At.here | apply At.there))) | (apply HS.ro; (repeat (first | exact Rds.ro | exact Rds.own | apply Rds.there))))) (h := ?_)
        refine tk 1 (hy := (by first | exact fa | exact faE)) (h := ?_)
        refine tk 2 (hy := (by first | exact ld | exact ldE)) (h := ?_)
        refine tk 3 (hy := (by first | exact fa | exact faE)) (h := ?_)
        refine tk 4 (hy := (by first | exact ld | exact ldE)) (h := ?_)
        refine tk 5 (hy := slV (A := x2.1) (m := n) (cap := x2.2) (lo' := 0) (hi' := x.o.toNat) (hh := .inr ⟨_, _, _, rfl, rfl, by omega, by omega, rfl⟩) (hl := .inl ⟨rfl, rfl⟩)) (h := ?_)
        refine tk 7 (hy := (by first | exact fa | exact faE)) (h := ?_)
        refine tk 8 (hy := (by first | exact ld | exact ldE)) (h := ?_)
        refine tk 9 (hy := (by first | exact fa | exact faE)) (h := ?_)
        refine tk 10 (hy := (by first | exact ld | exact ldE)) (h := ?_)
        refine tk 11 (hy := addI) (h := ?_)
        refine tk 12 (hy := slV (A := x2.1) (m := n) (cap := x2.2) (lo' := x.o.toNat + 1) (hi' := n) (hh := .inl ⟨rfl, rfl⟩) (hl := .inr ⟨_, _, _, rfl, rfl, by omega, by omega, by omega⟩)) (h := ?_)
        refine one 0 (h := ?_)
        refine bs (h := fun b4 => ?_)
        refine nx (h := ?_)
        refine one 6 (h := ?_)
        first | refine ap (h := fun A1 c1 => ?_) | refine ap0 (h := fun A1 c1 => ?_)
        refine nx (h := ?_)
        refine one 13 (h := ?_)
        first | refine ap (h := fun A2 c2 => ?_) | refine ap0 (h := fun A2 c2 => ?_)
        refine nx (h := ?_)
        refine tk 14 (hy := (by first | exact fa | exact faE)) (h := ?_)
        refine one 15 (h := ?_)
        first | refine st (h := ?_) | refine stE (h := ?_)
        refine nx (h := ?_)
        refine dn (h := ?_)
        first
          | exact ctn (x := ⟨cutV v x, A2, 0 + (x.o.toNat - 0) + (n - (x.o.toNat + 1)), c2, ([] ++ ((wid v x.s).enc.drop 0).take (x.o.toNat - 0)) ++ ((wid v x.s).enc.drop (x.o.toNat + 1)).take (n - (x.o.toNat + 1))⟩) ⟨less_of hvb hvx hvy (by omega) (by omega) (by omega) (cut_sub _ _), cut_enc hlen, by dsimp only; omega⟩ (by repeat (first | exact trivial | refine ⟨rfl, ?_⟩)) (by repeat (first | exact SubL.nil | (apply SubL.cons; (repeat (first | exact At.here | apply At.there)))))
          | exact ctn (x := ⟨lessV v x (wid v x.s).strips, x2.1, n, x2.2, (wid v x.s).enc⟩) ⟨less_of hvb hvx hvy (by omega) (by omega) (by omega) (List.Sublist.refl _), rfl, by dsimp only; omega⟩ (by repeat (first | exact trivial | refine ⟨rfl, ?_⟩)) (by repeat (first | exact SubL.nil | (apply SubL.cons; (repeat (first | exact At.here | apply At.there)))))
      · skip
        refine skp (h := ?_)
        first
          | exact ctn (x := ⟨cutV v x, A2, 0 + (x.o.toNat - 0) + (n - (x.o.toNat + 1)), c2, ([] ++ ((wid v x.s).enc.drop 0).take (x.o.toNat - 0)) ++ ((wid v x.s).enc.drop (x.o.toNat + 1)).take (n - (x.o.toNat + 1))⟩) ⟨less_of hvb hvx hvy (by omega) (by omega) (by omega) (cut_sub _ _), cut_enc hlen, by dsimp only; omega⟩ (by repeat (first | exact trivial | refine ⟨rfl, ?_⟩)) (by repeat (first | exact SubL.nil | (apply SubL.cons; (repeat (first | exact At.here | apply At.there)))))
          | exact ctn (x := ⟨lessV v x (wid v x.s).strips, x2.1, n, x2.2, (wid v x.s).enc⟩) ⟨less_of hvb hvx hvy (by omega) (by omega) (by omega) (List.Sublist.refl _), rfl, by dsimp only; omega⟩ (by repeat (first | exact trivial | refine ⟨rfl, ?_⟩)) (by repeat (first | exact SubL.nil | (apply SubL.cons; (repeat (first | exact At.here | apply At.there)))))
    rintro ⟨zo, zA, zn, zc, zes⟩ ⟨hless, hzes, hzn⟩
    dsimp only at hless hzes hzn ⊢
    subst hzes
    refine sq (h := ?_)
    refine sq (h := ?_)
    refine rg (h := ?_)
    refine WL.y (hy := (by first | exact ldA | exact ldEA)) (h := ?_)
    refine cl0 (hc := fun w hS => C_ref_Check _ _ _ _ w (hS.get (by repeat (first | exact Rds.ro | exact Rds.own | apply Rds.there))) (by omega)) (h := ?_)
    refine WL.y (hy := neq) (h := ?_)
    refine nl (h := ?_)
    refine q_seq (h := ?_)
    refine cd (by exact rfl) (fun h9 => ?_) (fun h9 => ?_)
    · skip
      refine sq (h := ?_)
      refine rg (h := ?_)
      refine cl0 (hc := fun w hS => C_deucelaw02_works w) (h := ?_)
      refine WL.y (hy := asg) (h := ?_)
      refine nl (h := ?_)
      refine q_seq (h := ?_)
      refine rtn (h := ?_)
      refine q_then_ret (h := ?_)
      refine q_ret (hR := ?_)
      first
        | exact fun w hS => ⟨rfl, hS.sub (by repeat (first | exact SubL.nil | (apply SubL.cons; (repeat (first | exact At.here | apply At.there)))))⟩
        | exact fun w hS => ⟨congrArg (fun x => Ending.returned (Value.bool x)) hfin.2, hS.sub (by repeat (first | exact SubL.nil | (apply SubL.cons; (repeat (first | exact At.here | apply At.there)))))⟩
    · skip
      have hvo := chkV_ok h9
      have hfin := less_fin hvb hvo hbb hless
      refine skp (h := ?_)
      refine q_seq (h := ?_)
      refine sq (h := ?_)
      refine rg (h := ?_)
      refine WL.y (hy := (by first | exact ldA | exact ldEA)) (h := ?_)
      refine WL.y (hy := (by first | exact ldA | exact ldEA)) (h := ?_)
      refine cl0 (hc := fun w hS => C_lines_Call _ _ _ _ _ w (hS.get (by repeat (first | exact Rds.ro | exact Rds.own | apply Rds.there))) (by omega)) (h := ?_); rw [callR_eq]
      refine WL.y (hy := mv) (h := ?_)
      refine WL.y (hy := ex) (h := ?_)
      refine WL.y (hy := ex) (h := ?_)
      refine WL.y (hy := asg) (h := ?_)
      refine WL.y (hy := asg) (h := ?_)
      refine nl (h := ?_)
      refine q_seq (h := ?_)
      refine sq (h := ?_)
      refine rg (h := ?_)
      refine WL.y (hy := (by first | exact ldA | exact ldEA)) (h := ?_)
      refine WL.y (hy := (by first | exact ldA | exact ldEA)) (h := ?_)
      refine cl0 (hc := fun w hS => C_lines_Call _ _ _ _ _ w (hS.get (by repeat (first | exact Rds.ro | exact Rds.own | apply Rds.there))) (by omega)) (h := ?_); rw [callR_eq]
      refine WL.y (hy := mv) (h := ?_)
      refine WL.y (hy := ex) (h := ?_)
      refine WL.y (hy := ex) (h := ?_)
      refine WL.y (hy := asg) (h := ?_)
      refine WL.y (hy := asg) (h := ?_)
      refine nl (h := ?_)
      refine q_seq (h := ?_)
      refine sq (h := ?_)
      refine rg (h := ?_)
      refine WL.y (hy := (by first | exact ldA | exact ldEA)) (h := ?_)
      refine cl0 (hc := fun w hS => C_lines_Centres _ _ _ _ w (hS.get (by repeat (first | exact Rds.ro | exact Rds.own | apply Rds.there))) (by omega)) (h := ?_)
      refine WL.y (hy := mv) (h := ?_)
      refine WL.y (hy := ex) (h := ?_)
      refine WL.y (hy := ex) (h := ?_)
      refine WL.y (hy := ex) (h := ?_)
      refine WL.y (hy := ex) (h := ?_)
      refine al (h := fun b5 => ?_)
      refine al (h := fun b6 => ?_)
      refine WL.y (hy := asg) (h := ?_)
      first | refine stA (h := ?_) | refine stEA (h := ?_)
      first | refine stA (h := ?_) | refine stEA (h := ?_)
      refine WL.y (hy := asg) (h := ?_)
      refine nl (h := ?_)
      refine q_seq (h := ?_)
      refine sq (h := ?_)
      refine rg (h := ?_)
      refine WL.y (hy := (by first | exact ldA | exact ldEA)) (h := ?_)
      refine cl0 (hc := fun w hS => C_lines_Centres _ _ _ _ w (hS.get (by repeat (first | exact Rds.ro | exact Rds.own | apply Rds.there))) (by omega)) (h := ?_)
      refine WL.y (hy := mv) (h := ?_)
      refine WL.y (hy := ex) (h := ?_)
      refine WL.y (hy := ex) (h := ?_)
      refine WL.y (hy := ex) (h := ?_)
      refine WL.y (hy := ex) (h := ?_)
      refine al (h := fun b7 => ?_)
      refine al (h := fun b8 => ?_)
      refine WL.y (hy := asg) (h := ?_)
      first | refine stA (h := ?_) | refine stEA (h := ?_)
      first | refine stA (h := ?_) | refine stEA (h := ?_)
      refine WL.y (hy := asg) (h := ?_)
      refine nl (h := ?_)
      refine q_seq (h := ?_)
      refine sq (h := ?_)
      refine sq (h := ?_)
      refine rg (h := ?_)
      refine WL.y (hy := mv) (h := ?_)
      refine WL.y (hy := mv) (h := ?_)
      refine WL.y (hy := neq) (h := ?_)
      refine WL.y (hy := mv) (h := ?_)
      apply brOr 4 157 161 (by exact rfl)
      · intro hb10
        refine un (h := ?_)
        refine WL.y (hy := mv) (h := ?_)
        refine un (h := ?_)
        refine WL.y (hy := mv) (h := ?_)
        refine un (h := ?_)
        refine WL.y (hy := neq) (h := ?_)
        refine WL.y (hy := (by first | exact pkT | exact pkF)) (h := ?_)
        exact mg (by repeat (first | exact trivial | refine ⟨rfl, ?_⟩ | refine ⟨by rw [hb10]; rfl, ?_⟩)) (by repeat (first | exact SubL.nil | (apply SubL.cons; (repeat (first | exact At.here | apply At.there)))))
      · intro hb10
        repeat (first | refine un (h := ?_) | refine sk (h := ?_) | refine WL.y (hy := pkF) (h := ?_) | refine WL.y (hy := pkT) (h := ?_))
        exact mg (by repeat (first | exact trivial | refine ⟨rfl, ?_⟩ | refine ⟨by rw [hb10]; rfl, ?_⟩)) (by repeat (first | exact SubL.nil | (apply SubL.cons; (repeat (first | exact At.here | apply At.there)))))
      refine WL.y (hy := mv) (h := ?_)
      apply brOr 7 162 169 (by exact rfl)
      · intro hb11
        refine un (h := ?_)
        refine WL.y (hy := mv) (h := ?_)
        refine un (h := ?_)
        refine WL.y (hy := eql) (h := ?_)
        refine un (h := ?_)
        refine WL.y (hy := mv) (h := ?_)
        apply brAnd 3 165 168 (by exact rfl)
        · intro hb12
          refine un (h := ?_)
          refine WL.y (hy := mv) (h := ?_)
          refine un (h := ?_)
          refine WL.y (hy := neq) (h := ?_)
          refine un (h := ?_)
          refine WL.y (hy := (by first | exact pkT | exact pkF)) (h := ?_)
          exact mg (by repeat (first | exact trivial | refine ⟨rfl, ?_⟩ | refine ⟨by rw [hb12]; rfl, ?_⟩ | refine ⟨by rw [hb11]; rfl, ?_⟩)) (by repeat (first | exact SubL.nil | (apply SubL.cons; (repeat (first | exact At.here | apply At.there)))))
        · intro hb12
          repeat (first | refine un (h := ?_) | refine sk (h := ?_) | refine WL.y (hy := pkF) (h := ?_) | refine WL.y (hy := pkT) (h := ?_))
          exact mg (by repeat (first | exact trivial | refine ⟨rfl, ?_⟩ | refine ⟨by rw [hb12]; rfl, ?_⟩ | refine ⟨by rw [hb11]; rfl, ?_⟩)) (by repeat (first | exact SubL.nil | (apply SubL.cons; (repeat (first | exact At.here | apply At.there)))))
        refine WL.y (hy := (by first | exact pkT | exact pkF)) (h := ?_)
        exact mg (by repeat (first | exact trivial | refine ⟨rfl, ?_⟩ | refine ⟨by rw [hb11]; rfl, ?_⟩)) (by repeat (first | exact SubL.nil | (apply SubL.cons; (repeat (first | exact At.here | apply At.there)))))
      · intro hb11
        repeat (first | refine un (h := ?_) | refine sk (h := ?_) | refine WL.y (hy := pkF) (h := ?_) | refine WL.y (hy := pkT) (h := ?_))
        exact mg (by repeat (first | exact trivial | refine ⟨rfl, ?_⟩ | refine ⟨by rw [hb11]; rfl, ?_⟩)) (by repeat (first | exact SubL.nil | (apply SubL.cons; (repeat (first | exact At.here | apply At.there)))))
      refine WL.y (hy := mv) (h := ?_)
      apply brOr 4 170 174 (by exact rfl)
      · intro hb13
        refine un (h := ?_)
        refine WL.y (hy := mv) (h := ?_)
        refine un (h := ?_)
        refine WL.y (hy := mv) (h := ?_)
        refine un (h := ?_)
        refine WL.y (hy := gtr) (h := ?_)
        refine WL.y (hy := (by first | exact pkT | exact pkF)) (h := ?_)
        exact mg (by repeat (first | exact trivial | refine ⟨rfl, ?_⟩ | refine ⟨by rw [hb13]; rfl, ?_⟩)) (by repeat (first | exact SubL.nil | (apply SubL.cons; (repeat (first | exact At.here | apply At.there)))))
      · intro hb13
        repeat (first | refine un (h := ?_) | refine sk (h := ?_) | refine WL.y (hy := pkF) (h := ?_) | refine WL.y (hy := pkT) (h := ?_))
        exact mg (by repeat (first | exact trivial | refine ⟨rfl, ?_⟩ | refine ⟨by rw [hb13]; rfl, ?_⟩)) (by repeat (first | exact SubL.nil | (apply SubL.cons; (repeat (first | exact At.here | apply At.there)))))
      refine nl (h := ?_)
      refine q_seq (h := ?_)
      refine cd (by exact rfl) (fun h14 => ?_) (fun h14 => ?_)
      · skip
        exact absurd (hfin.1.symm.trans h14) (by decide)
      · skip
        refine skp (h := ?_)
        refine q_seq (h := ?_)
        refine sq (h := ?_)
        refine rg (h := ?_)
        refine WL.y (hy := mv) (h := ?_)
        refine WL.y (hy := neq) (h := ?_)
        refine WL.y (hy := mv) (h := ?_)
        apply brOr 4 177 181 (by exact rfl)
        · intro hb15
          refine un (h := ?_)
          refine WL.y (hy := mv) (h := ?_)
          refine un (h := ?_)
          refine WL.y (hy := mv) (h := ?_)
          refine un (h := ?_)
          refine WL.y (hy := eql) (h := ?_)
          refine WL.y (hy := (by first | exact pkT | exact pkF)) (h := ?_)
          exact mg (by repeat (first | exact trivial | refine ⟨rfl, ?_⟩ | refine ⟨by rw [hb15]; rfl, ?_⟩)) (by repeat (first | exact SubL.nil | (apply SubL.cons; (repeat (first | exact At.here | apply At.there)))))
        · intro hb15
          repeat (first | refine un (h := ?_) | refine sk (h := ?_) | refine WL.y (hy := pkF) (h := ?_) | refine WL.y (hy := pkT) (h := ?_))
          exact mg (by repeat (first | exact trivial | refine ⟨rfl, ?_⟩ | refine ⟨by rw [hb15]; rfl, ?_⟩)) (by repeat (first | exact SubL.nil | (apply SubL.cons; (repeat (first | exact At.here | apply At.there)))))
        refine WL.y (hy := mv) (h := ?_)
        apply brOr 3 182 185 (by exact rfl)
        · intro hb16
          refine un (h := ?_)
          refine WL.y (hy := mv) (h := ?_)
          refine un (h := ?_)
          refine WL.y (hy := eql) (h := ?_)
          refine WL.y (hy := (by first | exact pkT | exact pkF)) (h := ?_)
          exact mg (by repeat (first | exact trivial | refine ⟨rfl, ?_⟩ | refine ⟨by rw [hb16]; rfl, ?_⟩)) (by repeat (first | exact SubL.nil | (apply SubL.cons; (repeat (first | exact At.here | apply At.there)))))
        · intro hb16
          repeat (first | refine un (h := ?_) | refine sk (h := ?_) | refine WL.y (hy := pkF) (h := ?_) | refine WL.y (hy := pkT) (h := ?_))
          exact mg (by repeat (first | exact trivial | refine ⟨rfl, ?_⟩ | refine ⟨by rw [hb16]; rfl, ?_⟩)) (by repeat (first | exact SubL.nil | (apply SubL.cons; (repeat (first | exact At.here | apply At.there)))))
        refine WL.y (hy := mv) (h := ?_)
        apply brAnd 2 186 188 (by exact rfl)
        · intro hb17
          refine un (h := ?_)
          refine cl0 (hc := fun w hS => C_deucelaw02_works w) (h := ?_)
          refine WL.y (hy := (by first | exact pkT | exact pkF)) (h := ?_)
          exact mg (by repeat (first | exact trivial | refine ⟨rfl, ?_⟩ | refine ⟨by rw [hb17]; rfl, ?_⟩)) (by repeat (first | exact SubL.nil | (apply SubL.cons; (repeat (first | exact At.here | apply At.there)))))
        · intro hb17
          repeat (first | refine un (h := ?_) | refine sk (h := ?_) | refine WL.y (hy := pkF) (h := ?_) | refine WL.y (hy := pkT) (h := ?_))
          exact mg (by repeat (first | exact trivial | refine ⟨rfl, ?_⟩ | refine ⟨by rw [hb17]; rfl, ?_⟩)) (by repeat (first | exact SubL.nil | (apply SubL.cons; (repeat (first | exact At.here | apply At.there)))))
        refine WL.y (hy := asg) (h := ?_)
        refine nl (h := ?_)
        refine q_seq (h := ?_)
        refine rtn (h := ?_)
        refine q_ret (hR := ?_)
        first
          | exact fun w hS => ⟨rfl, hS.sub (by repeat (first | exact SubL.nil | (apply SubL.cons; (repeat (first | exact At.here | apply At.there)))))⟩
          | exact fun w hS => ⟨congrArg (fun x => Ending.returned (Value.bool x)) hfin.2, hS.sub (by repeat (first | exact SubL.nil | (apply SubL.cons; (repeat (first | exact At.here | apply At.there)))))⟩
end Go.Proofs.Ytdphljhhcaoleaa
