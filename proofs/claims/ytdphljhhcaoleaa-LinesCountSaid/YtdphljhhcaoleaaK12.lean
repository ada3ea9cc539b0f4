/- The law LinesCount, walked. -/
import Derived.Test.YtdphljhhcaoleaaLV
import Derived.Test.YtdphljhhcaoleaaLR
import Derived.Test.YtdphljhhcaoleaaK5
namespace Go.Proofs.Ytdphljhhcaoleaa
open Go Go.RowKit

def newSet : Appeal := ⟨1, 0, 0, ⟨0, [], 0, 0, 0, 0, 0⟩, none, 0, 0, ⟨0, 0, 0, 0⟩⟩
def tieBreak : Appeal := ⟨2, 0, 0, ⟨0, [], 0, 0, 0, 0, 0⟩, none, 0, 0, ⟨0, 0, 0, 0⟩⟩
theorem newSet_ok (w : World) : newSet.ok w := ⟨Rd.nil _ _ _, by decide⟩
theorem tieBreak_ok (w : World) : tieBreak.ok w := ⟨Rd.nil _ _ _, by decide⟩
theorem callV_rng (v : View) (b : Box) : callV v b = 0 ∨ callV v b = 1 ∨ callV v b = 2 ∨ callV v b = 3 := by
  cases hn : none0 v
  · exact .inr (call_range hn)
  · left; simp [callV, hn]
/-- Decide and Call of a valid question. -/
theorem cnt_ok {s : Int} {v : View} {b : Box} (hvb : vbad v = false) (hbb : bbad b = false) (hs : s = 1 ∨ s = 2) :
    ((!decide (callE v b = 0) && !decide (callE v b = 3) || !decide (decE s v b = 0) || (decB s v b == (decide (callE v b = 0) && decide (callN v b = s))) || (!decide (callE v b = 0) || decide (callN v b = 3)) && !decide (decN s v b = s)) || decide (callE v b = 0) && !decide (callN v b = 3) && !decide (decN s v b = callN v b)) = false := by
  have h0 : chkVB v b = 0 := by simp [chkVB, chkV, hvb, chkB, hbb]
  obtain ⟨e1, e2⟩ := callE_good hvb hbb
  have hc : isC s = false := by rcases hs with rfl | rfl <;> rfl
  simp only [decE, decB, decN, h0, hc, decide_true, Bool.not_true, cond_false]
  rw [e1, e2]
  rcases callV_rng v b with e | e | e | e <;> rw [e] <;> rcases hs with rfl | rfl <;> rfl
theorem decE_ok {s : Int} {v : View} {b : Box} (hvb : vbad v = false) (hbb : bbad b = false) (hs : s = 1 ∨ s = 2) : decE s v b = 0 := by
  have h0 : chkVB v b = 0 := by simp [chkVB, chkV, hvb, chkB, hbb]
  have hc : isC s = false := by rcases hs with rfl | rfl <;> rfl
  simp [decE, h0, hc]
theorem runTo_app (each more : Int) (aps bs : List Appeal) : ∀ k, k ≤ aps.length → runTo each more (aps ++ bs) k = runTo each more aps k
  | 0, _ => rfl
  | k + 1, h => by rw [runTo, runTo, runTo_app each more aps bs k (by omega), List.getElem?_append_left (by omega)]
structure MZ where
  (b : Nat) (A : Option Addr) (c : Nat)

set_option maxRecDepth 100000 in
set_option maxHeartbeats 4000000 in
theorem K_LinesCount (each more : Int) (aps : List Appeal) (A : Option Addr) (n c : Nat) (w : World) (h : Rd w A 14 n (aps.map Appeal.enc)) (hs : ∀ a ∈ aps, a.ok w) (hn : n ≤ 9223372036854775807) : C0 Try.prog 8 [.agg #[.int .i64 each, .int .i64 more], .slice A n c] w (.bool true) := by
  have hlen : aps.length = n := by have := h.len; simpa using this
  refine ⟨en Try.func8 Try.ntmps8 ((St.init w).share (e := .ro A 14 n (aps.map Appeal.enc)) h rfl rfl rfl) (h := fun F => ?_)⟩
  refine sq (h := ?_)
  refine rg (h := ?_)
  refine bxA (h := fun b0 => ?_)
  refine WL.y (hy := asg) (h := ?_)
  refine nl (h := ?_)
  refine q_seq (h := ?_)
  refine sq (h := ?_)
  refine sq (h := ?_)
  refine rg (h := ?_)
  refine WL.y (hy := mv) (h := ?_)
  refine WL.y (hy := lenS) (h := ?_)
  refine WL.y (hy := gtr) (h := ?_)
  refine WL.y (hy := mv) (h := ?_)
  apply brOr 4 22 26 (by exact rfl)
  · intro hb0
    refine un (h := ?_)
    refine WL.y (hy := (by first | exact fa | exact faE)) (h := ?_)
    refine un (h := ?_)
    refine WL.y (hy := (by first | exact ld | exact ldE)) (h := ?_)
    refine un (h := ?_)
    refine WL.y (hy := lss) (h := ?_)
    refine WL.y (hy := (by first | exact pkT | exact pkF)) (h := ?_)
    exact mg (by repeat (first | exact trivial | refine ⟨rfl, ?_⟩ | refine ⟨by rw [hb0]; rfl, ?_⟩)) (by repeat (first | exact SubL.nil | (apply SubL.cons; (repeat (first | exact At.here | apply At.there)))))
  · intro hb0
    repeat (first | refine un (h := ?_) | refine sk (h := ?_) | refine WL.y (hy := pkF) (h := ?_) | refine WL.y (hy := pkT) (h := ?_))
    exact mg (by repeat (first | exact trivial | refine ⟨rfl, ?_⟩ | refine ⟨by rw [hb0]; rfl, ?_⟩)) (by repeat (first | exact SubL.nil | (apply SubL.cons; (repeat (first | exact At.here | apply At.there)))))
  refine WL.y (hy := mv) (h := ?_)
  apply brOr 4 27 31 (by exact rfl)
  · intro hb1
    refine un (h := ?_)
    refine WL.y (hy := (by first | exact fa | exact faE)) (h := ?_)
    refine un (h := ?_)
    refine WL.y (hy := (by first | exact ld | exact ldE)) (h := ?_)
    refine un (h := ?_)
    refine WL.y (hy := gtr) (h := ?_)
    refine WL.y (hy := (by first | exact pkT | exact pkF)) (h := ?_)
    exact mg (by repeat (first | exact trivial | refine ⟨rfl, ?_⟩ | refine ⟨by rw [hb1]; rfl, ?_⟩)) (by repeat (first | exact SubL.nil | (apply SubL.cons; (repeat (first | exact At.here | apply At.there)))))
  · intro hb1
    repeat (first | refine un (h := ?_) | refine sk (h := ?_) | refine WL.y (hy := pkF) (h := ?_) | refine WL.y (hy := pkT) (h := ?_))
    exact mg (by repeat (first | exact trivial | refine ⟨rfl, ?_⟩ | refine ⟨by rw [hb1]; rfl, ?_⟩)) (by repeat (first | exact SubL.nil | (apply SubL.cons; (repeat (first | exact At.here | apply At.there)))))
  refine WL.y (hy := mv) (h := ?_)
  apply brOr 4 32 36 (by exact rfl)
  · intro hb2
    refine un (h := ?_)
    refine WL.y (hy := (by first | exact fa | exact faE)) (h := ?_)
    refine un (h := ?_)
    refine WL.y (hy := (by first | exact ld | exact ldE)) (h := ?_)
    refine un (h := ?_)
    refine WL.y (hy := lss) (h := ?_)
    refine WL.y (hy := (by first | exact pkT | exact pkF)) (h := ?_)
    exact mg (by repeat (first | exact trivial | refine ⟨rfl, ?_⟩ | refine ⟨by rw [hb2]; rfl, ?_⟩)) (by repeat (first | exact SubL.nil | (apply SubL.cons; (repeat (first | exact At.here | apply At.there)))))
  · intro hb2
    repeat (first | refine un (h := ?_) | refine sk (h := ?_) | refine WL.y (hy := pkF) (h := ?_) | refine WL.y (hy := pkT) (h := ?_))
    exact mg (by repeat (first | exact trivial | refine ⟨rfl, ?_⟩ | refine ⟨by rw [hb2]; rfl, ?_⟩)) (by repeat (first | exact SubL.nil | (apply SubL.cons; (repeat (first | exact At.here | apply At.there)))))
  refine WL.y (hy := mv) (h := ?_)
  apply brOr 4 37 41 (by exact rfl)
  · intro hb3
    refine un (h := ?_)
    refine WL.y (hy := (by first | exact fa | exact faE)) (h := ?_)
    refine un (h := ?_)
    refine WL.y (hy := (by first | exact ld | exact ldE)) (h := ?_)
    refine un (h := ?_)
    refine WL.y (hy := gtr) (h := ?_)
    refine WL.y (hy := (by first | exact pkT | exact pkF)) (h := ?_)
    exact mg (by repeat (first | exact trivial | refine ⟨rfl, ?_⟩ | refine ⟨by rw [hb3]; rfl, ?_⟩)) (by repeat (first | exact SubL.nil | (apply SubL.cons; (repeat (first | exact At.here | apply At.there)))))
  · intro hb3
    repeat (first | refine un (h := ?_) | refine sk (h := ?_) | refine WL.y (hy := pkF) (h := ?_) | refine WL.y (hy := pkT) (h := ?_))
    exact mg (by repeat (first | exact trivial | refine ⟨rfl, ?_⟩ | refine ⟨by rw [hb3]; rfl, ?_⟩)) (by repeat (first | exact SubL.nil | (apply SubL.cons; (repeat (first | exact At.here | apply At.there)))))
  refine nl (h := ?_)
  refine q_seq (h := ?_)
  refine cd (by exact rfl) (fun h4 => ?_) (fun h4 => ?_)
  · skip
    refine sq (h := ?_)
    refine rg (h := ?_)
    refine cl0 (hc := fun w hS => C_deucelaw02_works w) (h := ?_)
    refine WL.y (hy := asg) (h := ?_)
    refine nl (h := ?_)
    refine q_seq (h := ?_)
    refine rtn (h := ?_)
    refine q_then_ret (h := ?_)
    refine q_ret (hR := ?_)
    first
      | exact fun w hS => ⟨rfl, hS.sub (by repeat (first | exact SubL.nil | (apply SubL.cons; (repeat (first | exact At.here | apply At.there)))))⟩
      | exact fun w hS => ⟨by simp [resV], hS.sub (by repeat (first | exact SubL.nil | (apply SubL.cons; (repeat (first | exact At.here | apply At.there)))))⟩
  · skip
    obtain ⟨hn8, he9, hm9⟩ : n ≤ 8 ∧ (0 ≤ each ∧ each ≤ 9) ∧ 0 ≤ more ∧ more ≤ 9 := by
      simp only [Bool.or_eq_false_iff, decide_eq_false_iff_not] at h4
      omega
    have hr0 : runTo each more (newSet :: aps) 1 = some ⟨[], each, each⟩ := rfl
    refine skp (h := ?_)
    refine q_seq (h := ?_)
    refine sq (h := ?_)
    refine rg (h := ?_)
    refine WL.y (hy := (by first | exact fa | exact faE)) (h := ?_)
    refine WL.y (hy := (by first | exact ld | exact ldE)) (h := ?_)
    refine WL.y (hy := (by first | exact fa | exact faE)) (h := ?_)
    refine WL.y (hy := (by first | exact ld | exact ldE)) (h := ?_)
    refine WL.y (hy := bdA) (h := ?_)
    refine al (h := fun b1 => ?_)
    first | refine stA (h := ?_) | refine stEA (h := ?_)
    refine nl (h := ?_)
    refine q_seq (h := ?_)
    refine sq (h := ?_)
    refine rg (h := ?_)
    refine WL.y (hy := asg) (h := ?_)
    refine nl (h := ?_)
    refine q_seq (h := ?_)
    refine sq (h := ?_)
    refine sq (h := ?_)
    refine WC.nilOwn 3 1 (h := ?_)
    refine rg (h := ?_)
    refine WL.y (hy := asg) (h := ?_)
    refine nl (h := ?_)
    refine q_seq (h := ?_)
    refine bk (h := ?_)
    refine lp (X := RZ) (I := fun z => z.k ≤ n ∧ runTo each more (newSet :: aps) (z.k + 1) = some z.s) (le := fun z => [(1, .slice A n c), (2, .pointer (some ⟨b0, 0, none⟩)), (5, .pointer (some ⟨b1, 0, none⟩)), (6, .slice z.A z.s.ds.length z.c), (7, .int .i64 z.k)]) (Le := fun z => [.own z.A z.c 3 1 z.s.ds.length (encI z.s.ds), .blk b0 64 [.int .i64 each, .int .i64 more], .blk b1 66 [.int .i64 z.s.x, .int .i64 z.s.y], .ro A 14 n (aps.map Appeal.enc)]) (μ := fun z => n - z.k) ⟨0, ⟨[], each, each⟩, none, 0⟩ ⟨Nat.zero_le _, hr0⟩ (by repeat (first | exact trivial | refine ⟨rfl, ?_⟩)) (by repeat (first | exact SubL.nil | (apply SubL.cons; (repeat (first | exact At.here | apply At.there))))) (fun z hz => ?_)
    obtain ⟨hzk, hzr⟩ := hz
    obtain ⟨hz1, hz2, hzl⟩ := runTo_bnd he9 hm9 hzr
    refine sq (h := ?_)
    refine sq (h := ?_)
    refine rg (h := ?_)
    refine WL.y (hy := mv) (h := ?_)
    refine WL.y (hy := mv) (h := ?_)
    refine WL.y (hy := lenS) (h := ?_)
    refine WL.y (hy := lss) (h := ?_)
    refine nl (h := ?_)
    refine q_seq (h := ?_)
    refine cd (by exact rfl) (fun h5 => ?_) (fun h5 => ?_)
    · skip
      have hkn : z.k < n := by simp only [decide_eq_true_eq] at h5; omega
      obtain ⟨a, ha⟩ : ∃ a, aps[z.k]? = some a := ⟨_, List.getElem?_eq_getElem (by omega)⟩
      have hae : (aps.map Appeal.enc)[z.k]? = some a.enc := by rw [List.getElem?_map, ha]; rfl
      have hstep := runTo_succ (aps := newSet :: aps) (a := a) hzr (by simpa using ha)
      have han := (hs a (List.mem_of_getElem? ha)).2
      refine WC.old (hs a (List.mem_of_getElem? ha)).1 ?_
      refine skp (h := ?_)
      refine q_seq (h := ?_)
      refine sq (h := ?_)
      refine bk (h := ?_)
      refine sq (h := ?_)
      refine ct1 105 (v := .bool (!decide (a.kind = 3) || decide (a.side < 0) || decide (1 < a.side) || !validB a.v a.n a.b || (!decide (a.said = 1) && !decide (a.said = 2)))) (h1 := ?_) (h2 := ?_)
      · skip
        refine rgD0 (by kernel_rfl) (h := ?_)
        refine tk 0 (hy := mv) (h := ?_)
        refine tk 1 (hy := mv) (h := ?_)
        refine tk 2 (hy := ix) (h := ?_)
        refine tk 3 (hy := (by first | exact fa | exact faE)) (h := ?_)
        refine tk 4 (hy := ldE (A := A) (k := z.k) (hk := hae)) (h := ?_)
        refine tk 5 (hy := neq) (h := ?_)
        refine tk 6 (hy := mv) (h := ?_)
        refine brH (g := 60) (by exact rfl) (fun hb6 => ?_) (fun hb6 => ?_)
        · skip
          refine tkS 7 (h := ?_)
          refine tkS 8 (h := ?_)
          refine tkS 9 (h := ?_)
          refine tkS 10 (h := ?_)
          refine tkS 11 (h := ?_)
          refine tkS 12 (h := ?_)
          refine tk 13 (hy := (by first | exact pkT | exact pkF)) (h := ?_)
          refine tk 14 (hy := mv) (h := ?_)
          refine tkS 15 (h := ?_)
          refine tkS 16 (h := ?_)
          refine tkS 17 (h := ?_)
          refine tkS 18 (h := ?_)
          refine tkS 19 (h := ?_)
          refine tkS 20 (h := ?_)
          refine tk 21 (hy := (by first | exact pkT | exact pkF)) (h := ?_)
          refine tk 22 (hy := mv) (h := ?_)
          refine tkS 23 (h := ?_)
          refine tkS 24 (h := ?_)
          refine tkS 25 (h := ?_)
          refine tkS 26 (h := ?_)
          refine tkS 27 (h := ?_)
          refine tkS 28 (h := ?_)
          refine tkS 29 (h := ?_)
          refine tkS 30 (h := ?_)
          refine tkS 31 (h := ?_)
          refine tkS 32 (h := ?_)
          refine tkS 33 (h := ?_)
          refine tkS 34 (h := ?_)
          refine tk 35 (hy := (by first | exact pkT | exact pkF)) (h := ?_)
          refine tk 36 (hy := mv) (h := ?_)
          refine tkS 37 (h := ?_)
          refine tkS 38 (h := ?_)
          refine tkS 39 (h := ?_)
          refine tkS 40 (h := ?_)
          refine tkS 41 (h := ?_)
          refine tkS 42 (h := ?_)
          refine tkS 43 (h := ?_)
          refine tkS 44 (h := ?_)
          refine tkS 45 (h := ?_)
          refine tkS 46 (h := ?_)
          refine tkS 47 (h := ?_)
          refine tkS 48 (h := ?_)
          refine tkS 49 (h := ?_)
          refine tkS 50 (h := ?_)
          refine tk 51 (hy := (by first | exact pkT | exact pkF)) (h := ?_)
          refine dn (h := ?_)
          exact ct1n (by repeat (first | exact trivial | refine ⟨rfl, ?_⟩ | refine ⟨by simp only [*]; rfl, ?_⟩)) (by repeat (first | exact SubL.nil | (apply SubL.cons; (repeat (first | exact At.here | apply At.there)))))
        · skip
          refine tk 7 (hy := mv) (h := ?_)
          refine tk 8 (hy := mv) (h := ?_)
          refine tk 9 (hy := ix) (h := ?_)
          refine tk 10 (hy := (by first | exact fa | exact faE)) (h := ?_)
          refine tk 11 (hy := ldE (A := A) (k := z.k) (hk := hae)) (h := ?_)
          refine tk 12 (hy := lss) (h := ?_)
          refine tk 13 (hy := (by first | exact pkT | exact pkF)) (h := ?_)
          refine tk 14 (hy := mv) (h := ?_)
          refine brH (g := 68) (by exact rfl) (fun hb7 => ?_) (fun hb7 => ?_)
          · skip
            refine tkS 15 (h := ?_)
            refine tkS 16 (h := ?_)
            refine tkS 17 (h := ?_)
            refine tkS 18 (h := ?_)
            refine tkS 19 (h := ?_)
            refine tkS 20 (h := ?_)
            refine tk 21 (hy := (by first | exact pkT | exact pkF)) (h := ?_)
            refine tk 22 (hy := mv) (h := ?_)
            refine tkS 23 (h := ?_)
            refine tkS 24 (h := ?_)
            refine tkS 25 (h := ?_)
            refine tkS 26 (h := ?_)
            refine tkS 27 (h := ?_)
            refine tkS 28 (h := ?_)
            refine tkS 29 (h := ?_)
            refine tkS 30 (h := ?_)
            refine tkS 31 (h := ?_)
            refine tkS 32 (h := ?_)
            refine tkS 33 (h := ?_)
            refine tkS 34 (h := ?_)
            refine tk 35 (hy := (by first | exact pkT | exact pkF)) (h := ?_)
            refine tk 36 (hy := mv) (h := ?_)
            refine tkS 37 (h := ?_)
            refine tkS 38 (h := ?_)
            refine tkS 39 (h := ?_)
            refine tkS 40 (h := ?_)
            refine tkS 41 (h := ?_)
            refine tkS 42 (h := ?_)
            refine tkS 43 (h := ?_)
            refine tkS 44 (h := ?_)
            refine tkS 45 (h := ?_)
            refine tkS 46 (h := ?_)
            refine tkS 47 (h := ?_)
            refine tkS 48 (h := ?_)
            refine tkS 49 (h := ?_)
            refine tkS 50 (h := ?_)
            refine tk 51 (hy := (by first | exact pkT | exact pkF)) (h := ?_)
            refine dn (h := ?_)
            exact ct1n (by repeat (first | exact trivial | refine ⟨rfl, ?_⟩ | refine ⟨by simp only [*]; rfl, ?_⟩)) (by repeat (first | exact SubL.nil | (apply SubL.cons; (repeat (first | exact At.here | apply At.there)))))
          · skip
            refine tk 15 (hy := mv) (h := ?_)
            refine tk 16 (hy := mv) (h := ?_)
            refine tk 17 (hy := ix) (h := ?_)
            refine tk 18 (hy := (by first | exact fa | exact faE)) (h := ?_)
            refine tk 19 (hy := ldE (A := A) (k := z.k) (hk := hae)) (h := ?_)
            refine tk 20 (hy := gtr) (h := ?_)
            refine tk 21 (hy := (by first | exact pkT | exact pkF)) (h := ?_)
            refine tk 22 (hy := mv) (h := ?_)
            refine brH (g := 76) (by exact rfl) (fun hb8 => ?_) (fun hb8 => ?_)
            · skip
              refine tkS 23 (h := ?_)
              refine tkS 24 (h := ?_)
              refine tkS 25 (h := ?_)
              refine tkS 26 (h := ?_)
              refine tkS 27 (h := ?_)
              refine tkS 28 (h := ?_)
              refine tkS 29 (h := ?_)
              refine tkS 30 (h := ?_)
              refine tkS 31 (h := ?_)
              refine tkS 32 (h := ?_)
              refine tkS 33 (h := ?_)
              refine tkS 34 (h := ?_)
              refine tk 35 (hy := (by first | exact pkT | exact pkF)) (h := ?_)
              refine tk 36 (hy := mv) (h := ?_)
              refine tkS 37 (h := ?_)
              refine tkS 38 (h := ?_)
              refine tkS 39 (h := ?_)
              refine tkS 40 (h := ?_)
              refine tkS 41 (h := ?_)
              refine tkS 42 (h := ?_)
              refine tkS 43 (h := ?_)
              refine tkS 44 (h := ?_)
              refine tkS 45 (h := ?_)
              refine tkS 46 (h := ?_)
              refine tkS 47 (h := ?_)
              refine tkS 48 (h := ?_)
              refine tkS 49 (h := ?_)
              refine tkS 50 (h := ?_)
              refine tk 51 (hy := (by first | exact pkT | exact pkF)) (h := ?_)
              refine dn (h := ?_)
              exact ct1n (by repeat (first | exact trivial | refine ⟨rfl, ?_⟩ | refine ⟨by simp only [*]; rfl, ?_⟩)) (by repeat (first | exact SubL.nil | (apply SubL.cons; (repeat (first | exact At.here | apply At.there)))))
            · skip
              refine tk 23 (hy := mv) (h := ?_)
              refine tk 24 (hy := mv) (h := ?_)
              refine tk 25 (hy := ix) (h := ?_)
              refine tk 26 (hy := (by first | exact fa | exact faE)) (h := ?_)
              refine tk 27 (hy := ldEA (A := A) (k := z.k) (hk := hae)) (h := ?_)
              refine tk 28 (hy := mv) (h := ?_)
              refine tk 29 (hy := mv) (h := ?_)
              refine tk 30 (hy := ix) (h := ?_)
              refine tk 31 (hy := (by first | exact fa | exact faE)) (h := ?_)
              refine tk 32 (hy := ldEA (A := A) (k := z.k) (hk := hae)) (h := ?_)
              refine one 33 (h := ?_)
              refine un (h := ?_)
              refine cl0 (hc := fun w hS => C_deucelaw02_valid a.v a.b a.A a.n a.c w (hS.get (by repeat (first | exact Rds.ro | exact Rds.own | apply Rds.there))) han) (h := ?_)
              refine nx (h := ?_)
              refine tk 34 (hy := notB) (h := ?_)
              refine tk 35 (hy := (by first | exact pkT | exact pkF)) (h := ?_)
              refine tk 36 (hy := mv) (h := ?_)
              refine brH (g := 90) (by exact rfl) (fun hb9 => ?_) (fun hb9 => ?_)
              · skip
                refine tkS 37 (h := ?_)
                refine tkS 38 (h := ?_)
                refine tkS 39 (h := ?_)
                refine tkS 40 (h := ?_)
                refine tkS 41 (h := ?_)
                refine tkS 42 (h := ?_)
                refine tkS 43 (h := ?_)
                refine tkS 44 (h := ?_)
                refine tkS 45 (h := ?_)
                refine tkS 46 (h := ?_)
                refine tkS 47 (h := ?_)
                refine tkS 48 (h := ?_)
                refine tkS 49 (h := ?_)
                refine tkS 50 (h := ?_)
                refine tk 51 (hy := (by first | exact pkT | exact pkF)) (h := ?_)
                refine dn (h := ?_)
                exact ct1n (by repeat (first | exact trivial | refine ⟨rfl, ?_⟩ | refine ⟨by simp only [*]; rfl, ?_⟩)) (by repeat (first | exact SubL.nil | (apply SubL.cons; (repeat (first | exact At.here | apply At.there)))))
              · skip
                refine tk 37 (hy := mv) (h := ?_)
                refine tk 38 (hy := mv) (h := ?_)
                refine tk 39 (hy := ix) (h := ?_)
                refine tk 40 (hy := (by first | exact fa | exact faE)) (h := ?_)
                refine tk 41 (hy := ldE (A := A) (k := z.k) (hk := hae)) (h := ?_)
                refine tk 42 (hy := neq) (h := ?_)
                refine tk 43 (hy := mv) (h := ?_)
                refine brH (g := 97) (by exact rfl) (fun hb10 => ?_) (fun hb10 => ?_)
                · skip
                  refine tk 44 (hy := mv) (h := ?_)
                  refine tk 45 (hy := mv) (h := ?_)
                  refine tk 46 (hy := ix) (h := ?_)
                  refine tk 47 (hy := (by first | exact fa | exact faE)) (h := ?_)
                  refine tk 48 (hy := ldE (A := A) (k := z.k) (hk := hae)) (h := ?_)
                  refine tk 49 (hy := neq) (h := ?_)
                  refine tk 50 (hy := (by first | exact pkT | exact pkF)) (h := ?_)
                  refine tk 51 (hy := (by first | exact pkT | exact pkF)) (h := ?_)
                  refine dn (h := ?_)
                  exact ct1n (by repeat (first | exact trivial | refine ⟨rfl, ?_⟩ | refine ⟨by simp only [*]; rfl, ?_⟩)) (by repeat (first | exact SubL.nil | (apply SubL.cons; (repeat (first | exact At.here | apply At.there)))))
                · skip
                  refine tkS 44 (h := ?_)
                  refine tkS 45 (h := ?_)
                  refine tkS 46 (h := ?_)
                  refine tkS 47 (h := ?_)
                  refine tkS 48 (h := ?_)
                  refine tkS 49 (h := ?_)
                  refine tk 50 (hy := (by first | exact pkT | exact pkF)) (h := ?_)
                  refine tk 51 (hy := (by first | exact pkT | exact pkF)) (h := ?_)
                  refine dn (h := ?_)
                  exact ct1n (by repeat (first | exact trivial | refine ⟨rfl, ?_⟩ | refine ⟨by simp only [*]; rfl, ?_⟩)) (by repeat (first | exact SubL.nil | (apply SubL.cons; (repeat (first | exact At.here | apply At.there)))))
      refine cd (by exact rfl) (fun h11 => ?_) (fun h11 => ?_)
      · skip
        refine sq (h := ?_)
        refine rg (h := ?_)
        refine cl0 (hc := fun w hS => C_deucelaw02_works w) (h := ?_)
        refine WL.y (hy := asg) (h := ?_)
        refine nl (h := ?_)
        refine q_seq (h := ?_)
        refine rtn (h := ?_)
        refine q_then_ret (h := ?_)
        refine q_blk_ret (h := ?_)
        refine q_then_ret (h := ?_)
        refine q_then_ret (h := ?_)
        refine q_blk_ret (h := ?_)
        refine q_then_ret (h := ?_)
        refine q_ret (hR := ?_)
        first
          | exact fun w hS => ⟨rfl, hS.sub (by repeat (first | exact SubL.nil | (apply SubL.cons; (repeat (first | exact At.here | apply At.there)))))⟩
          | exact fun w hS => ⟨by simp [resV], hS.sub (by repeat (first | exact SubL.nil | (apply SubL.cons; (repeat (first | exact At.here | apply At.there)))))⟩
      · skip
        obtain ⟨⟨⟨⟨hk3, hs0⟩, hs1⟩, hva⟩, hsaid⟩ : ((((!decide (a.kind = 3)) = false ∧ decide (a.side < 0) = false) ∧ decide (1 < a.side) = false) ∧ (!validB a.v a.n a.b) = false) ∧ (!decide (a.said = 1) && !decide (a.said = 2)) = false := by
          simpa only [Bool.or_eq_false_iff] using h11
        obtain ⟨han40, hvb, hbb, _, _, _⟩ := valid_of hva
        have hsd12 : a.said = 1 ∨ a.said = 2 := by simpa [isC] using isC_or (c := a.said) hsaid
        have hk3' : a.kind = 3 := by simpa using hk3
        have hsd : 0 ≤ a.side ∧ a.side ≤ 1 := by
          simp only [decide_eq_false_iff_not] at hs0 hs1
          omega
        have hlv := lft_at z.s hsd
        refine skp (h := ?_)
        refine q_seq (h := ?_)
        refine sq (h := ?_)
        refine sq (h := ?_)
        refine rg (h := ?_)
        refine WL.y (hy := mv) (h := ?_)
        refine WL.y (hy := mv) (h := ?_)
        refine WL.y (hy := ix) (h := ?_)
        refine WL.y (hy := (by first | exact fa | exact faE)) (h := ?_)
        refine WL.y (hy := ldE (A := A) (k := z.k) (hk := hae)) (h := ?_)
        refine WL.y (hy := ixA) (h := ?_)
        refine WL.y (hy := ld (hc := hlv)) (h := ?_)
        refine WL.y (hy := eql) (h := ?_)
        refine nl (h := ?_)
        refine q_seq (h := ?_)
        refine cd (by exact rfl) (fun h12 => ?_) (fun h12 => ?_)
        · skip
          refine sq (h := ?_)
          refine rg (h := ?_)
          refine cl0 (hc := fun w hS => C_deucelaw02_works w) (h := ?_)
          refine WL.y (hy := asg) (h := ?_)
          refine nl (h := ?_)
          refine q_seq (h := ?_)
          refine rtn (h := ?_)
          refine q_then_ret (h := ?_)
          refine q_blk_ret (h := ?_)
          refine q_then_ret (h := ?_)
          refine q_then_ret (h := ?_)
          refine q_blk_ret (h := ?_)
          refine q_then_ret (h := ?_)
          refine q_ret (hR := ?_)
          first
            | exact fun w hS => ⟨rfl, hS.sub (by repeat (first | exact SubL.nil | (apply SubL.cons; (repeat (first | exact At.here | apply At.there)))))⟩
            | exact fun w hS => ⟨by simp [resV], hS.sub (by repeat (first | exact SubL.nil | (apply SubL.cons; (repeat (first | exact At.here | apply At.there)))))⟩
        · skip
          have hl0 : ¬ z.s.lft a.side = 0 := by simpa using h12
          have hdE := decE_ok hvb hbb hsd12
          have hab : askBad a z.s = false := by simp [askBad, hdE, wi_iff.2 hsd, hl0]
          refine skp (h := ?_)
          refine q_seq (h := ?_)
          refine sq (h := ?_)
          refine rgD0 (by kernel_rfl) (h := ?_)
          refine tk 0 (hy := mv) (h := ?_)
          refine tk 1 (hy := mv) (h := ?_)
          refine tk 2 (hy := ix) (h := ?_)
          refine tk 3 (hy := (by first | exact fa | exact faE)) (h := ?_)
          refine tk 4 (hy := ldEA (A := A) (k := z.k) (hk := hae)) (h := ?_)
          refine tk 5 (hy := mv) (h := ?_)
          refine tk 6 (hy := mv) (h := ?_)
          refine tk 7 (hy := ix) (h := ?_)
          refine tk 8 (hy := (by first | exact fa | exact faE)) (h := ?_)
          refine tk 9 (hy := ldEA (A := A) (k := z.k) (hk := hae)) (h := ?_)
          refine one 10 (h := ?_)
          refine cl0 (hc := fun w hS => C_lines_Call a.v a.b a.A a.n a.c w (hS.get (by repeat (first | exact Rds.ro | exact Rds.own | apply Rds.there))) han) (h := ?_); rw [callR_eq]
          refine nx (h := ?_)
          refine tk 11 (hy := mv) (h := ?_)
          refine tk 12 (hy := ex) (h := ?_)
          refine tk 13 (hy := ex) (h := ?_)
          refine tk 14 (hy := asg) (h := ?_)
          refine tk 15 (hy := asg) (h := ?_)
          refine dn (h := ?_)
          refine q_seq (h := ?_)
          refine sq (h := ?_)
          refine rgD0 (by kernel_rfl) (h := ?_)
          refine tk 0 (hy := mv) (h := ?_)
          refine tk 1 (hy := mv) (h := ?_)
          refine tk 2 (hy := ix) (h := ?_)
          refine tk 3 (hy := (by first | exact fa | exact faE)) (h := ?_)
          refine tk 4 (hy := ldE (A := A) (k := z.k) (hk := hae)) (h := ?_)
          refine tk 5 (hy := mv) (h := ?_)
          refine tk 6 (hy := mv) (h := ?_)
          refine tk 7 (hy := ix) (h := ?_)
          refine tk 8 (hy := (by first | exact fa | exact faE)) (h := ?_)
          refine tk 9 (hy := ldEA (A := A) (k := z.k) (hk := hae)) (h := ?_)
          refine tk 10 (hy := mv) (h := ?_)
          refine tk 11 (hy := mv) (h := ?_)
          refine tk 12 (hy := ix) (h := ?_)
          refine tk 13 (hy := (by first | exact fa | exact faE)) (h := ?_)
          refine tk 14 (hy := ldEA (A := A) (k := z.k) (hk := hae)) (h := ?_)
          refine one 15 (h := ?_)
          refine cl0 (hc := fun w hS => C_lines_Decide a.said a.v a.b a.A a.n a.c w (hS.get (by repeat (first | exact Rds.ro | exact Rds.own | apply Rds.there))) han) (h := ?_); rw [decR_eq]
          refine nx (h := ?_)
          refine tk 16 (hy := mv) (h := ?_)
          refine tk 17 (hy := ex) (h := ?_)
          refine tk 18 (hy := ex) (h := ?_)
          refine tk 19 (hy := ex) (h := ?_)
          refine tk 20 (hy := asg) (h := ?_)
          refine tk 21 (hy := asg) (h := ?_)
          refine tk 22 (hy := asg) (h := ?_)
          refine dn (h := ?_)
          refine q_seq (h := ?_)
          refine sq (h := ?_)
          refine sq (h := ?_)
          refine rg (h := ?_)
          refine WL.y (hy := mv) (h := ?_)
          refine WL.y (hy := neq) (h := ?_)
          refine WL.y (hy := mv) (h := ?_)
          apply brAnd 3 152 155 (by exact rfl)
          · intro hb13
            refine un (h := ?_)
            refine WL.y (hy := mv) (h := ?_)
            refine un (h := ?_)
            refine WL.y (hy := neq) (h := ?_)
            refine WL.y (hy := (by first | exact pkT | exact pkF)) (h := ?_)
            exact mg (by repeat (first | exact trivial | refine ⟨rfl, ?_⟩ | refine ⟨by rw [hb13]; rfl, ?_⟩)) (by repeat (first | exact SubL.nil | (apply SubL.cons; (repeat (first | exact At.here | apply At.there)))))
          · intro hb13
            repeat (first | refine un (h := ?_) | refine sk (h := ?_) | refine WL.y (hy := pkF) (h := ?_) | refine WL.y (hy := pkT) (h := ?_))
            exact mg (by repeat (first | exact trivial | refine ⟨rfl, ?_⟩ | refine ⟨by rw [hb13]; rfl, ?_⟩)) (by repeat (first | exact SubL.nil | (apply SubL.cons; (repeat (first | exact At.here | apply At.there)))))
          refine WL.y (hy := mv) (h := ?_)
          apply brOr 3 156 159 (by exact rfl)
          · intro hb14
            refine un (h := ?_)
            refine WL.y (hy := mv) (h := ?_)
            refine un (h := ?_)
            refine WL.y (hy := neq) (h := ?_)
            refine WL.y (hy := (by first | exact pkT | exact pkF)) (h := ?_)
            exact mg (by repeat (first | exact trivial | refine ⟨rfl, ?_⟩ | refine ⟨by rw [hb14]; rfl, ?_⟩)) (by repeat (first | exact SubL.nil | (apply SubL.cons; (repeat (first | exact At.here | apply At.there)))))
          · intro hb14
            repeat (first | refine un (h := ?_) | refine sk (h := ?_) | refine WL.y (hy := pkF) (h := ?_) | refine WL.y (hy := pkT) (h := ?_))
            exact mg (by repeat (first | exact trivial | refine ⟨rfl, ?_⟩ | refine ⟨by rw [hb14]; rfl, ?_⟩)) (by repeat (first | exact SubL.nil | (apply SubL.cons; (repeat (first | exact At.here | apply At.there)))))
          refine WL.y (hy := mv) (h := ?_)
          apply brOr 14 160 174 (by exact rfl)
          · intro hb15
            refine un (h := ?_)
            refine WL.y (hy := mv) (h := ?_)
            refine un (h := ?_)
            refine WL.y (hy := mv) (h := ?_)
            refine un (h := ?_)
            refine WL.y (hy := eql) (h := ?_)
            refine un (h := ?_)
            refine WL.y (hy := mv) (h := ?_)
            apply brAnd 8 164 172 (by exact rfl)
            · intro hb16
              refine un (h := ?_)
              refine WL.y (hy := mv) (h := ?_)
              refine un (h := ?_)
              refine WL.y (hy := mv) (h := ?_)
              refine un (h := ?_)
              refine WL.y (hy := mv) (h := ?_)
              refine un (h := ?_)
              refine WL.y (hy := ix) (h := ?_)
              refine un (h := ?_)
              refine WL.y (hy := (by first | exact fa | exact faE)) (h := ?_)
              refine un (h := ?_)
              refine WL.y (hy := ldE (A := A) (k := z.k) (hk := hae)) (h := ?_)
              refine un (h := ?_)
              refine WL.y (hy := eql) (h := ?_)
              refine un (h := ?_)
              refine WL.y (hy := (by first | exact pkT | exact pkF)) (h := ?_)
              exact mg (by repeat (first | exact trivial | refine ⟨rfl, ?_⟩ | refine ⟨by rw [hb16]; rfl, ?_⟩ | refine ⟨by rw [hb15]; rfl, ?_⟩)) (by repeat (first | exact SubL.nil | (apply SubL.cons; (repeat (first | exact At.here | apply At.there)))))
            · intro hb16
              repeat (first | refine un (h := ?_) | refine sk (h := ?_) | refine WL.y (hy := pkF) (h := ?_) | refine WL.y (hy := pkT) (h := ?_))
              exact mg (by repeat (first | exact trivial | refine ⟨rfl, ?_⟩ | refine ⟨by rw [hb16]; rfl, ?_⟩ | refine ⟨by rw [hb15]; rfl, ?_⟩)) (by repeat (first | exact SubL.nil | (apply SubL.cons; (repeat (first | exact At.here | apply At.there)))))
            refine un (h := ?_)
            refine WL.y (hy := eqlB) (h := ?_)
            refine WL.y (hy := (by first | exact pkT | exact pkF)) (h := ?_)
            exact mg (by repeat (first | exact trivial | refine ⟨rfl, ?_⟩ | refine ⟨by rw [hb15]; rfl, ?_⟩)) (by repeat (first | exact SubL.nil | (apply SubL.cons; (repeat (first | exact At.here | apply At.there)))))
          · intro hb15
            repeat (first | refine un (h := ?_) | refine sk (h := ?_) | refine WL.y (hy := pkF) (h := ?_) | refine WL.y (hy := pkT) (h := ?_))
            exact mg (by repeat (first | exact trivial | refine ⟨rfl, ?_⟩ | refine ⟨by rw [hb15]; rfl, ?_⟩)) (by repeat (first | exact SubL.nil | (apply SubL.cons; (repeat (first | exact At.here | apply At.there)))))
          refine WL.y (hy := mv) (h := ?_)
          apply brOr 16 175 191 (by exact rfl)
          · intro hb17
            refine un (h := ?_)
            refine WL.y (hy := mv) (h := ?_)
            refine un (h := ?_)
            refine WL.y (hy := neq) (h := ?_)
            refine un (h := ?_)
            refine WL.y (hy := mv) (h := ?_)
            apply brOr 3 178 181 (by exact rfl)
            · intro hb18
              refine un (h := ?_)
              refine WL.y (hy := mv) (h := ?_)
              refine un (h := ?_)
              refine WL.y (hy := eql) (h := ?_)
              refine un (h := ?_)
              refine WL.y (hy := (by first | exact pkT | exact pkF)) (h := ?_)
              exact mg (by repeat (first | exact trivial | refine ⟨rfl, ?_⟩ | refine ⟨by rw [hb18]; rfl, ?_⟩ | refine ⟨by rw [hb17]; rfl, ?_⟩)) (by repeat (first | exact SubL.nil | (apply SubL.cons; (repeat (first | exact At.here | apply At.there)))))
            · intro hb18
              repeat (first | refine un (h := ?_) | refine sk (h := ?_) | refine WL.y (hy := pkF) (h := ?_) | refine WL.y (hy := pkT) (h := ?_))
              exact mg (by repeat (first | exact trivial | refine ⟨rfl, ?_⟩ | refine ⟨by rw [hb18]; rfl, ?_⟩ | refine ⟨by rw [hb17]; rfl, ?_⟩)) (by repeat (first | exact SubL.nil | (apply SubL.cons; (repeat (first | exact At.here | apply At.there)))))
            refine un (h := ?_)
            refine WL.y (hy := mv) (h := ?_)
            apply brAnd 8 182 190 (by exact rfl)
            · intro hb19
              refine un (h := ?_)
              refine WL.y (hy := mv) (h := ?_)
              refine un (h := ?_)
              refine WL.y (hy := mv) (h := ?_)
              refine un (h := ?_)
              refine WL.y (hy := mv) (h := ?_)
              refine un (h := ?_)
              refine WL.y (hy := ix) (h := ?_)
              refine un (h := ?_)
              refine WL.y (hy := (by first | exact fa | exact faE)) (h := ?_)
              refine un (h := ?_)
              refine WL.y (hy := ldE (A := A) (k := z.k) (hk := hae)) (h := ?_)
              refine un (h := ?_)
              refine WL.y (hy := neq) (h := ?_)
              refine un (h := ?_)
              refine WL.y (hy := (by first | exact pkT | exact pkF)) (h := ?_)
              exact mg (by repeat (first | exact trivial | refine ⟨rfl, ?_⟩ | refine ⟨by rw [hb19]; rfl, ?_⟩ | refine ⟨by rw [hb17]; rfl, ?_⟩)) (by repeat (first | exact SubL.nil | (apply SubL.cons; (repeat (first | exact At.here | apply At.there)))))
            · intro hb19
              repeat (first | refine un (h := ?_) | refine sk (h := ?_) | refine WL.y (hy := pkF) (h := ?_) | refine WL.y (hy := pkT) (h := ?_))
              exact mg (by repeat (first | exact trivial | refine ⟨rfl, ?_⟩ | refine ⟨by rw [hb19]; rfl, ?_⟩ | refine ⟨by rw [hb17]; rfl, ?_⟩)) (by repeat (first | exact SubL.nil | (apply SubL.cons; (repeat (first | exact At.here | apply At.there)))))
            refine WL.y (hy := (by first | exact pkT | exact pkF)) (h := ?_)
            exact mg (by repeat (first | exact trivial | refine ⟨rfl, ?_⟩ | refine ⟨by rw [hb17]; rfl, ?_⟩)) (by repeat (first | exact SubL.nil | (apply SubL.cons; (repeat (first | exact At.here | apply At.there)))))
          · intro hb17
            repeat (first | refine un (h := ?_) | refine sk (h := ?_) | refine WL.y (hy := pkF) (h := ?_) | refine WL.y (hy := pkT) (h := ?_))
            exact mg (by repeat (first | exact trivial | refine ⟨rfl, ?_⟩ | refine ⟨by rw [hb17]; rfl, ?_⟩)) (by repeat (first | exact SubL.nil | (apply SubL.cons; (repeat (first | exact At.here | apply At.there)))))
          refine WL.y (hy := mv) (h := ?_)
          apply brOr 12 192 204 (by exact rfl)
          · intro hb20
            refine un (h := ?_)
            refine WL.y (hy := mv) (h := ?_)
            refine un (h := ?_)
            refine WL.y (hy := eql) (h := ?_)
            refine un (h := ?_)
            refine WL.y (hy := mv) (h := ?_)
            apply brAnd 3 195 198 (by exact rfl)
            · intro hb21
              refine un (h := ?_)
              refine WL.y (hy := mv) (h := ?_)
              refine un (h := ?_)
              refine WL.y (hy := neq) (h := ?_)
              refine un (h := ?_)
              refine WL.y (hy := (by first | exact pkT | exact pkF)) (h := ?_)
              exact mg (by repeat (first | exact trivial | refine ⟨rfl, ?_⟩ | refine ⟨by rw [hb21]; rfl, ?_⟩ | refine ⟨by rw [hb20]; rfl, ?_⟩)) (by repeat (first | exact SubL.nil | (apply SubL.cons; (repeat (first | exact At.here | apply At.there)))))
            · intro hb21
              repeat (first | refine un (h := ?_) | refine sk (h := ?_) | refine WL.y (hy := pkF) (h := ?_) | refine WL.y (hy := pkT) (h := ?_))
              exact mg (by repeat (first | exact trivial | refine ⟨rfl, ?_⟩ | refine ⟨by rw [hb21]; rfl, ?_⟩ | refine ⟨by rw [hb20]; rfl, ?_⟩)) (by repeat (first | exact SubL.nil | (apply SubL.cons; (repeat (first | exact At.here | apply At.there)))))
            refine un (h := ?_)
            refine WL.y (hy := mv) (h := ?_)
            apply brAnd 4 199 203 (by exact rfl)
            · intro hb22
              refine un (h := ?_)
              refine WL.y (hy := mv) (h := ?_)
              refine un (h := ?_)
              refine WL.y (hy := mv) (h := ?_)
              refine un (h := ?_)
              refine WL.y (hy := neq) (h := ?_)
              refine un (h := ?_)
              refine WL.y (hy := (by first | exact pkT | exact pkF)) (h := ?_)
              exact mg (by repeat (first | exact trivial | refine ⟨rfl, ?_⟩ | refine ⟨by rw [hb22]; rfl, ?_⟩ | refine ⟨by rw [hb20]; rfl, ?_⟩)) (by repeat (first | exact SubL.nil | (apply SubL.cons; (repeat (first | exact At.here | apply At.there)))))
            · intro hb22
              repeat (first | refine un (h := ?_) | refine sk (h := ?_) | refine WL.y (hy := pkF) (h := ?_) | refine WL.y (hy := pkT) (h := ?_))
              exact mg (by repeat (first | exact trivial | refine ⟨rfl, ?_⟩ | refine ⟨by rw [hb22]; rfl, ?_⟩ | refine ⟨by rw [hb20]; rfl, ?_⟩)) (by repeat (first | exact SubL.nil | (apply SubL.cons; (repeat (first | exact At.here | apply At.there)))))
            refine WL.y (hy := (by first | exact pkT | exact pkF)) (h := ?_)
            exact mg (by repeat (first | exact trivial | refine ⟨rfl, ?_⟩ | refine ⟨by rw [hb20]; rfl, ?_⟩)) (by repeat (first | exact SubL.nil | (apply SubL.cons; (repeat (first | exact At.here | apply At.there)))))
          · intro hb20
            repeat (first | refine un (h := ?_) | refine sk (h := ?_) | refine WL.y (hy := pkF) (h := ?_) | refine WL.y (hy := pkT) (h := ?_))
            exact mg (by repeat (first | exact trivial | refine ⟨rfl, ?_⟩ | refine ⟨by rw [hb20]; rfl, ?_⟩)) (by repeat (first | exact SubL.nil | (apply SubL.cons; (repeat (first | exact At.here | apply At.there)))))
          refine nl (h := ?_)
          refine q_seq (h := ?_)
          refine cd (by exact rfl) (fun h23 => ?_) (fun h23 => ?_)
          · skip
            exact absurd ((cnt_ok hvb hbb hsd12).symm.trans h23) (by decide)
          · skip
            refine skp (h := ?_)
            refine q_seq (h := ?_)
            refine sq (h := ?_)
            refine sq (h := ?_)
            refine rg (h := ?_)
            refine WL.y (hy := mv) (h := ?_)
            refine WL.y (hy := notB) (h := ?_)
            refine nl (h := ?_)
            refine q_seq (h := ?_)
            refine cd (by exact rfl) (fun h24 => ?_) (fun h24 => ?_)
            · skip
              have hB : decB a.said a.v a.b = false := by simpa using h24
              have hnx : runTo each more (newSet :: aps) (z.k + 1 + 1) = some (z.s.dec a.side (decN a.said a.v a.b)) := by rw [hstep, stepA, hk3', hab, hB]; rfl
              have hlb := lft_bnd (side := a.side) hz1 hz2
              have hset := dec_at z.s (decN a.said a.v a.b) hsd
              refine rg (h := ?_)
              refine WL.y (hy := mv) (h := ?_)
              refine WL.y (hy := mv) (h := ?_)
              refine WL.y (hy := ix) (h := ?_)
              refine WL.y (hy := (by first | exact fa | exact faE)) (h := ?_)
              refine WL.y (hy := ldE (A := A) (k := z.k) (hk := hae)) (h := ?_)
              refine WL.y (hy := ixA) (h := ?_)
              refine WL.y (hy := ld (hc := hlv)) (h := ?_)
              refine WL.y (hy := subI) (h := ?_)
              refine WL.y (hy := ixA) (h := ?_)
              refine stI (ho := by simp; omega) (h := ?_)
              rw [hset]
              refine nl (h := ?_)
              refine q_seq (h := ?_)
              refine rg (h := ?_)
              refine WL.y (hy := mv) (h := ?_)
              refine WL.y (hy := mv) (h := ?_)
              refine bs (h := fun b2 => ?_)
              first | refine ap (h := fun A1 c1 => ?_) | refine ap0 (h := fun A1 c1 => ?_)
              refine WL.y (hy := asg) (h := ?_)
              refine nl (h := ?_)
              refine q_blk_norm (h := ?_)
              refine q_seq (h := ?_)
              refine rg (h := ?_)
              refine WL.y (hy := mv) (h := ?_)
              refine WL.y (hy := addI) (h := ?_)
              refine WL.y (hy := asg) (h := ?_)
              refine nl (h := ?_)
              refine rn (x := z) ⟨z.k + 1, _, _, _⟩ ⟨by dsimp only; omega, hnx⟩ (by dsimp only; omega) (by (try dsimp only [RS.dec]); (try rw [List.length_append]); repeat (first | exact trivial | refine ⟨rfl, ?_⟩)) (by (try dsimp only [RS.dec]); (try rw [List.length_append, ← encI_app]); repeat (first | exact SubL.nil | (apply SubL.cons; (repeat (first | exact At.here | apply At.there)))))
            · skip
              have hB : decB a.said a.v a.b = true := by simpa using h24
              have hnx : runTo each more (newSet :: aps) (z.k + 1 + 1) = some ⟨z.s.ds ++ [decN a.said a.v a.b], z.s.x, z.s.y⟩ := by rw [hstep, stepA, hk3', hab, hB]; rfl
              refine skp (h := ?_)
              refine q_seq (h := ?_)
              refine rg (h := ?_)
              refine WL.y (hy := mv) (h := ?_)
              refine WL.y (hy := mv) (h := ?_)
              refine bs (h := fun b3 => ?_)
              first | refine ap (h := fun A2 c2 => ?_) | refine ap0 (h := fun A2 c2 => ?_)
              refine WL.y (hy := asg) (h := ?_)
              refine nl (h := ?_)
              refine q_blk_norm (h := ?_)
              refine q_seq (h := ?_)
              refine rg (h := ?_)
              refine WL.y (hy := mv) (h := ?_)
              refine WL.y (hy := addI) (h := ?_)
              refine WL.y (hy := asg) (h := ?_)
              refine nl (h := ?_)
              refine rn (x := z) ⟨z.k + 1, _, _, _⟩ ⟨by dsimp only; omega, hnx⟩ (by dsimp only; omega) (by (try dsimp only [RS.dec]); (try rw [List.length_append]); repeat (first | exact trivial | refine ⟨rfl, ?_⟩)) (by (try dsimp only [RS.dec]); (try rw [List.length_append, ← encI_app]); repeat (first | exact SubL.nil | (apply SubL.cons; (repeat (first | exact At.here | apply At.there)))))
    · skip
      have hkn : z.k = n := by simp only [decide_eq_false_iff_not] at h5; omega
      have hR1 : runV each more (newSet :: aps) = some z.s := by
        rw [runV_run (by simp [ruleBad, wi_iff.2 he9, wi_iff.2 hm9]; omega), show (newSet :: aps).length = z.k + 1 by simp; omega]; exact hzr
      have hR2 : runV each more ((newSet :: aps) ++ [tieBreak]) = some ⟨z.s.ds, z.s.x + more, z.s.y + more⟩ := by
        rw [runV_run (by simp [ruleBad, wi_iff.2 he9, wi_iff.2 hm9]; omega), show ((newSet :: aps) ++ [tieBreak]).length = z.k + 1 + 1 by simp; omega]
        rw [runTo_succ (a := tieBreak) (s := z.s) (by rw [runTo_app _ _ _ _ _ (by simp; omega)]; exact hzr) (by rw [List.getElem?_append_right (by simp; omega)]; simp [hkn, hlen])]
        rfl
      refine et (h := ?_)
      refine q_then_exit (h := ?_)
      refine q_then_exit (h := ?_)
      refine q_blk_hit (h := ?_)
      refine q_seq (h := ?_)
      refine ct (X := MZ) (fun _ => True) (fun x => [(1, .slice A n c), (2, .pointer (some ⟨b0, 0, none⟩)), (5, .pointer (some ⟨b1, 0, none⟩)), (6, .slice z.A z.s.ds.length z.c), (13, .slice x.A z.s.ds.length x.c), (14, .pointer (some ⟨x.b, 0, none⟩)), (15, .int .i64 0)]) (fun x => [.blk x.b 66 [.int .i64 z.s.x, .int .i64 z.s.y], .own x.A x.c 3 1 z.s.ds.length (encI z.s.ds), .own z.A z.c 3 1 z.s.ds.length (encI z.s.ds), .blk b0 64 [.int .i64 each, .int .i64 more], .blk b1 66 [.int .i64 z.s.x, .int .i64 z.s.y], .ro A 14 n (aps.map Appeal.enc)]) (h1 := ?_) (h2 := ?_)
      · skip
        refine rgD (by kernel_rfl) [(1000000, .blk b0 64 [.int .i64 each, .int .i64 more])] (by repeat (first | exact HS.nil | (apply HS.keep; (repeat (first | exact At.here | apply At.there))) | (apply HS.ro; (repeat (first | exact Rds.ro | exact Rds.own | apply Rds.there))))) (h := ?_)
        refine tk 0 (hy := (by first | exact ldA | exact ldEA)) (h := ?_)
        refine tk 1 (hy := bd) (h := ?_)
        refine tk 3 (hy := mv) (h := ?_)
        refine two 2 10 (h1 := ?_) (h2 := ?_)
        · skip
          refine bs (h := fun b4 => ?_)
          refine nx (h := ?_)
          refine two 4 10 (h1 := ?_) (h2 := ?_)
          · skip
            first | refine ap (h := fun A3 c3 => ?_) | refine ap0 (h := fun A3 c3 => ?_)
            refine nx (h := ?_)
            refine two 5 10 (h1 := ?_) (h2 := ?_)
            · skip
              refine cl (hc := fun w hS => C_lines_Run each more (newSet :: aps) _ _ _ w (hS.get (by repeat (first | exact Rds.own | apply Rds.there))) (fun a ha => by
                rcases List.mem_cons.1 ha with rfl | ha
                · exact newSet_ok w
                · exact ⟨(hS.old (hs a ha).1).ok _ List.mem_cons_self, (hs a ha).2⟩) (by omega)) (h := fun xa _ => ?_)
              rw [hR1]
              refine nx (h := ?_)
              refine tk 6 (hy := mv) (h := ?_)
              refine tk 7 (hy := ex) (h := ?_)
              refine tk 8 (hy := ex) (h := ?_)
              refine tk 9 (hy := ex) (h := ?_)
              refine one 10 (h := ?_)
              refine al (h := fun b5 => ?_)
              refine nx (h := ?_)
              refine tk 11 (hy := asg) (h := ?_)
              refine one 12 (h := ?_)
              first | refine stA (h := ?_) | refine stEA (h := ?_)
              refine nx (h := ?_)
              refine tk 13 (hy := asg) (h := ?_)
              refine dn (h := ?_)
              exact ctn ⟨_, _, _⟩ trivial (by repeat (first | exact trivial | refine ⟨rfl, ?_⟩)) (by repeat (first | exact SubL.nil | (apply SubL.cons; (repeat (first | exact At.here | apply At.there)))))
            · skip
              refine al (h := fun b6 => ?_)
              refine nx (h := ?_)
              refine one 5 (h := ?_)
              refine cl (hc := fun w hS => C_lines_Run each more (newSet :: aps) _ _ _ w (hS.get (by repeat (first | exact Rds.own | apply Rds.there))) (fun a ha => by
                rcases List.mem_cons.1 ha with rfl | ha
                · exact newSet_ok w
                · exact ⟨(hS.old (hs a ha).1).ok _ List.mem_cons_self, (hs a ha).2⟩) (by omega)) (h := fun xa _ => ?_)
              rw [hR1]
              refine nx (h := ?_)
              refine tk 6 (hy := mv) (h := ?_)
              refine tk 7 (hy := ex) (h := ?_)
              refine tk 8 (hy := ex) (h := ?_)
              refine tk 9 (hy := ex) (h := ?_)
              refine tk 11 (hy := asg) (h := ?_)
              refine one 12 (h := ?_)
              first | refine stA (h := ?_) | refine stEA (h := ?_)
              refine nx (h := ?_)
              refine tk 13 (hy := asg) (h := ?_)
              refine dn (h := ?_)
              exact ctn ⟨_, _, _⟩ trivial (by repeat (first | exact trivial | refine ⟨rfl, ?_⟩)) (by repeat (first | exact SubL.nil | (apply SubL.cons; (repeat (first | exact At.here | apply At.there)))))
          · skip
            refine al (h := fun b7 => ?_)
            refine nx (h := ?_)
            refine one 4 (h := ?_)
            first | refine ap (h := fun A4 c4 => ?_) | refine ap0 (h := fun A4 c4 => ?_)
            refine nx (h := ?_)
            refine one 5 (h := ?_)
            refine cl (hc := fun w hS => C_lines_Run each more (newSet :: aps) _ _ _ w (hS.get (by repeat (first | exact Rds.own | apply Rds.there))) (fun a ha => by
              rcases List.mem_cons.1 ha with rfl | ha
              · exact newSet_ok w
              · exact ⟨(hS.old (hs a ha).1).ok _ List.mem_cons_self, (hs a ha).2⟩) (by omega)) (h := fun xa _ => ?_)
            rw [hR1]
            refine nx (h := ?_)
            refine tk 6 (hy := mv) (h := ?_)
            refine tk 7 (hy := ex) (h := ?_)
            refine tk 8 (hy := ex) (h := ?_)
            refine tk 9 (hy := ex) (h := ?_)
            refine tk 11 (hy := asg) (h := ?_)
            refine one 12 (h := ?_)
            first | refine stA (h := ?_) | refine stEA (h := ?_)
            refine nx (h := ?_)
            refine tk 13 (hy := asg) (h := ?_)
            refine dn (h := ?_)
            exact ctn ⟨_, _, _⟩ trivial (by repeat (first | exact trivial | refine ⟨rfl, ?_⟩)) (by repeat (first | exact SubL.nil | (apply SubL.cons; (repeat (first | exact At.here | apply At.there)))))
        · skip
          refine al (h := fun b8 => ?_)
          refine nx (h := ?_)
          refine one 2 (h := ?_)
          refine bs (h := fun b9 => ?_)
          refine nx (h := ?_)
          refine one 4 (h := ?_)
          first | refine ap (h := fun A5 c5 => ?_) | refine ap0 (h := fun A5 c5 => ?_)
          refine nx (h := ?_)
          refine one 5 (h := ?_)
          refine cl (hc := fun w hS => C_lines_Run each more (newSet :: aps) _ _ _ w (hS.get (by repeat (first | exact Rds.own | apply Rds.there))) (fun a ha => by
            rcases List.mem_cons.1 ha with rfl | ha
            · exact newSet_ok w
            · exact ⟨(hS.old (hs a ha).1).ok _ List.mem_cons_self, (hs a ha).2⟩) (by omega)) (h := fun xa _ => ?_)
          rw [hR1]
          refine nx (h := ?_)
          refine tk 6 (hy := mv) (h := ?_)
          refine tk 7 (hy := ex) (h := ?_)
          refine tk 8 (hy := ex) (h := ?_)
          refine tk 9 (hy := ex) (h := ?_)
          refine tk 11 (hy := asg) (h := ?_)
          refine one 12 (h := ?_)
          first | refine stA (h := ?_) | refine stEA (h := ?_)
          refine nx (h := ?_)
          refine tk 13 (hy := asg) (h := ?_)
          refine dn (h := ?_)
          exact ctn ⟨_, _, _⟩ trivial (by repeat (first | exact trivial | refine ⟨rfl, ?_⟩)) (by repeat (first | exact SubL.nil | (apply SubL.cons; (repeat (first | exact At.here | apply At.there)))))
      rintro x -
      refine ct (X := MZ) (fun _ => True) (fun y => [(2, .pointer (some ⟨b0, 0, none⟩)), (5, .pointer (some ⟨b1, 0, none⟩)), (6, .slice z.A z.s.ds.length z.c), (13, .slice x.A z.s.ds.length x.c), (14, .pointer (some ⟨x.b, 0, none⟩)), (15, .int .i64 0), (16, .slice y.A z.s.ds.length y.c), (17, .pointer (some ⟨y.b, 0, none⟩)), (18, .int .i64 0)]) (fun y => [.blk x.b 66 [.int .i64 z.s.x, .int .i64 z.s.y], .own x.A x.c 3 1 z.s.ds.length (encI z.s.ds), .blk y.b 66 [.int .i64 (z.s.x + more), .int .i64 (z.s.y + more)], .own y.A y.c 3 1 z.s.ds.length (encI z.s.ds), .own z.A z.c 3 1 z.s.ds.length (encI z.s.ds), .blk b0 64 [.int .i64 each, .int .i64 more], .blk b1 66 [.int .i64 z.s.x, .int .i64 z.s.y]]) (h1 := ?_) (h2 := ?_)
      · skip
        refine rgD (by kernel_rfl) [(1000000, .blk b0 64 [.int .i64 each, .int .i64 more])] (by repeat (first | exact HS.nil | (apply HS.keep; (repeat (first | exact At.here | apply At.there))) | (apply HS.ro; (repeat (first | exact Rds.ro | exact Rds.own | apply Rds.there))))) (h := ?_)
        refine tk 0 (hy := (by first | exact ldA | exact ldEA)) (h := ?_)
        refine tk 1 (hy := bd) (h := ?_)
        refine tk 3 (hy := mv) (h := ?_)
        refine tk 5 (hy := bd) (h := ?_)
        refine fan [2, 6, 13] (h := ⟨⟨_, by exact rfl, ?_⟩, ⟨_, by exact rfl, ?_⟩, ⟨_, by exact rfl, ?_⟩, trivial⟩)
        · skip
          refine bs (h := fun b10 => ?_)
          refine nx (h := ?_)
          refine fan [4, 6, 13] (h := ⟨⟨_, by exact rfl, ?_⟩, ⟨_, by exact rfl, ?_⟩, ⟨_, by exact rfl, ?_⟩, trivial⟩)
          · skip
            first | refine ap (h := fun A6 c6 => ?_) | refine ap0 (h := fun A6 c6 => ?_)
            refine nx (h := ?_)
            refine two 6 13 (h1 := ?_) (h2 := ?_)
            · skip
              refine bs (h := fun b11 => ?_)
              refine nx (h := ?_)
              refine two 7 13 (h1 := ?_) (h2 := ?_)
              · skip
                first | refine ap (h := fun A7 c7 => ?_) | refine ap0 (h := fun A7 c7 => ?_)
                refine nx (h := ?_)
                refine two 8 13 (h1 := ?_) (h2 := ?_)
                · skip
                  refine cl (hc := fun w hS => C_lines_Run each more ((newSet :: aps) ++ [tieBreak]) _ _ _ w (by rw [List.map_append]; exact hS.get (by repeat (first | exact Rds.own | apply Rds.there))) (fun a ha => by
                    rcases List.mem_append.1 ha with ha | ha
                    · rcases List.mem_cons.1 ha with rfl | ha
                      · exact newSet_ok w
                      · exact ⟨(hS.old (hs a ha).1).ok _ List.mem_cons_self, (hs a ha).2⟩
                    · simp only [List.mem_singleton] at ha; subst ha; exact tieBreak_ok w) (by omega)) (h := fun xa _ => ?_)
                  rw [hR2]
                  refine nx (h := ?_)
                  refine tk 9 (hy := mv) (h := ?_)
                  refine tk 10 (hy := ex) (h := ?_)
                  refine tk 11 (hy := ex) (h := ?_)
                  refine tk 12 (hy := ex) (h := ?_)
                  refine one 13 (h := ?_)
                  refine al (h := fun b12 => ?_)
                  refine nx (h := ?_)
                  refine tk 14 (hy := asg) (h := ?_)
                  refine one 15 (h := ?_)
                  first | refine stA (h := ?_) | refine stEA (h := ?_)
                  refine nx (h := ?_)
                  refine tk 16 (hy := asg) (h := ?_)
                  refine dn (h := ?_)
                  exact ctn ⟨_, _, _⟩ trivial (by repeat (first | exact trivial | refine ⟨rfl, ?_⟩)) (by repeat (first | exact SubL.nil | (apply SubL.cons; (repeat (first | exact At.here | apply At.there)))))
                · skip
                  refine al (h := fun b13 => ?_)
                  refine nx (h := ?_)
                  refine one 8 (h := ?_)
                  refine cl (hc := fun w hS => C_lines_Run each more ((newSet :: aps) ++ [tieBreak]) _ _ _ w (by rw [List.map_append]; exact hS.get (by repeat (first | exact Rds.own | apply Rds.there))) (fun a ha => by
                    rcases List.mem_append.1 ha with ha | ha
                    · rcases List.mem_cons.1 ha with rfl | ha
                      · exact newSet_ok w
                      · exact ⟨(hS.old (hs a ha).1).ok _ List.mem_cons_self, (hs a ha).2⟩
                    · simp only [List.mem_singleton] at ha; subst ha; exact tieBreak_ok w) (by omega)) (h := fun xa _ => ?_)
                  rw [hR2]
                  refine nx (h := ?_)
                  refine tk 9 (hy := mv) (h := ?_)
                  refine tk 10 (hy := ex) (h := ?_)
                  refine tk 11 (hy := ex) (h := ?_)
                  refine tk 12 (hy := ex) (h := ?_)
                  refine tk 14 (hy := asg) (h := ?_)
                  refine one 15 (h := ?_)
                  first | refine stA (h := ?_) | refine stEA (h := ?_)
                  refine nx (h := ?_)
                  refine tk 16 (hy := asg) (h := ?_)
                  refine dn (h := ?_)
                  exact ctn ⟨_, _, _⟩ trivial (by repeat (first | exact trivial | refine ⟨rfl, ?_⟩)) (by repeat (first | exact SubL.nil | (apply SubL.cons; (repeat (first | exact At.here | apply At.there)))))
              · skip
                refine al (h := fun b14 => ?_)
                refine nx (h := ?_)
                refine one 7 (h := ?_)
                first | refine ap (h := fun A8 c8 => ?_) | refine ap0 (h := fun A8 c8 => ?_)
                refine nx (h := ?_)
                refine one 8 (h := ?_)
                refine cl (hc := fun w hS => C_lines_Run each more ((newSet :: aps) ++ [tieBreak]) _ _ _ w (by rw [List.map_append]; exact hS.get (by repeat (first | exact Rds.own | apply Rds.there))) (fun a ha => by
                  rcases List.mem_append.1 ha with ha | ha
                  · rcases List.mem_cons.1 ha with rfl | ha
                    · exact newSet_ok w
                    · exact ⟨(hS.old (hs a ha).1).ok _ List.mem_cons_self, (hs a ha).2⟩
                  · simp only [List.mem_singleton] at ha; subst ha; exact tieBreak_ok w) (by omega)) (h := fun xa _ => ?_)
                rw [hR2]
                refine nx (h := ?_)
                refine tk 9 (hy := mv) (h := ?_)
                refine tk 10 (hy := ex) (h := ?_)
                refine tk 11 (hy := ex) (h := ?_)
                refine tk 12 (hy := ex) (h := ?_)
                refine tk 14 (hy := asg) (h := ?_)
                refine one 15 (h := ?_)
                first | refine stA (h := ?_) | refine stEA (h := ?_)
                refine nx (h := ?_)
                refine tk 16 (hy := asg) (h := ?_)
                refine dn (h := ?_)
                exact ctn ⟨_, _, _⟩ trivial (by repeat (first | exact trivial | refine ⟨rfl, ?_⟩)) (by repeat (first | exact SubL.nil | (apply SubL.cons; (repeat (first | exact At.here | apply At.there)))))
            · skip
              refine al (h := fun b15 => ?_)
              refine nx (h := ?_)
              refine one 6 (h := ?_)
              refine bs (h := fun b16 => ?_)
              refine nx (h := ?_)
              refine one 7 (h := ?_)
              first | refine ap (h := fun A9 c9 => ?_) | refine ap0 (h := fun A9 c9 => ?_)
              refine nx (h := ?_)
              refine one 8 (h := ?_)
              refine cl (hc := fun w hS => C_lines_Run each more ((newSet :: aps) ++ [tieBreak]) _ _ _ w (by rw [List.map_append]; exact hS.get (by repeat (first | exact Rds.own | apply Rds.there))) (fun a ha => by
                rcases List.mem_append.1 ha with ha | ha
                · rcases List.mem_cons.1 ha with rfl | ha
                  · exact newSet_ok w
                  · exact ⟨(hS.old (hs a ha).1).ok _ List.mem_cons_self, (hs a ha).2⟩
                · simp only [List.mem_singleton] at ha; subst ha; exact tieBreak_ok w) (by omega)) (h := fun xa _ => ?_)
              rw [hR2]
              refine nx (h := ?_)
              refine tk 9 (hy := mv) (h := ?_)
              refine tk 10 (hy := ex) (h := ?_)
              refine tk 11 (hy := ex) (h := ?_)
              refine tk 12 (hy := ex) (h := ?_)
              refine tk 14 (hy := asg) (h := ?_)
              refine one 15 (h := ?_)
              first | refine stA (h := ?_) | refine stEA (h := ?_)
              refine nx (h := ?_)
              refine tk 16 (hy := asg) (h := ?_)
              refine dn (h := ?_)
              exact ctn ⟨_, _, _⟩ trivial (by repeat (first | exact trivial | refine ⟨rfl, ?_⟩)) (by repeat (first | exact SubL.nil | (apply SubL.cons; (repeat (first | exact At.here | apply At.there)))))
          · skip
            refine bs (h := fun b17 => ?_)
            refine nx (h := ?_)
            refine two 4 13 (h1 := ?_) (h2 := ?_)
            · skip
              first | refine ap (h := fun A10 c10 => ?_) | refine ap0 (h := fun A10 c10 => ?_)
              refine nx (h := ?_)
              refine two 7 13 (h1 := ?_) (h2 := ?_)
              · skip
                first | refine ap (h := fun A11 c11 => ?_) | refine ap0 (h := fun A11 c11 => ?_)
                refine nx (h := ?_)
                refine two 8 13 (h1 := ?_) (h2 := ?_)
                · skip
                  refine cl (hc := fun w hS => C_lines_Run each more ((newSet :: aps) ++ [tieBreak]) _ _ _ w (by rw [List.map_append]; exact hS.get (by repeat (first | exact Rds.own | apply Rds.there))) (fun a ha => by
                    rcases List.mem_append.1 ha with ha | ha
                    · rcases List.mem_cons.1 ha with rfl | ha
                      · exact newSet_ok w
                      · exact ⟨(hS.old (hs a ha).1).ok _ List.mem_cons_self, (hs a ha).2⟩
                    · simp only [List.mem_singleton] at ha; subst ha; exact tieBreak_ok w) (by omega)) (h := fun xa _ => ?_)
                  rw [hR2]
                  refine nx (h := ?_)
                  refine tk 9 (hy := mv) (h := ?_)
                  refine tk 10 (hy := ex) (h := ?_)
                  refine tk 11 (hy := ex) (h := ?_)
                  refine tk 12 (hy := ex) (h := ?_)
                  refine one 13 (h := ?_)
                  refine al (h := fun b18 => ?_)
                  refine nx (h := ?_)
                  refine tk 14 (hy := asg) (h := ?_)
                  refine one 15 (h := ?_)
                  first | refine stA (h := ?_) | refine stEA (h := ?_)
                  refine nx (h := ?_)
                  refine tk 16 (hy := asg) (h := ?_)
                  refine dn (h := ?_)
                  exact ctn ⟨_, _, _⟩ trivial (by repeat (first | exact trivial | refine ⟨rfl, ?_⟩)) (by repeat (first | exact SubL.nil | (apply SubL.cons; (repeat (first | exact At.here | apply At.there)))))
                · skip
                  refine al (h := fun b19 => ?_)
                  refine nx (h := ?_)
                  refine one 8 (h := ?_)
                  refine cl (hc := fun w hS => C_lines_Run each more ((newSet :: aps) ++ [tieBreak]) _ _ _ w (by rw [List.map_append]; exact hS.get (by repeat (first | exact Rds.own | apply Rds.there))) (fun a ha => by
                    rcases List.mem_append.1 ha with ha | ha
                    · rcases List.mem_cons.1 ha with rfl | ha
                      · exact newSet_ok w
                      · exact ⟨(hS.old (hs a ha).1).ok _ List.mem_cons_self, (hs a ha).2⟩
                    · simp only [List.mem_singleton] at ha; subst ha; exact tieBreak_ok w) (by omega)) (h := fun xa _ => ?_)
                  rw [hR2]
                  refine nx (h := ?_)
                  refine tk 9 (hy := mv) (h := ?_)
                  refine tk 10 (hy := ex) (h := ?_)
                  refine tk 11 (hy := ex) (h := ?_)
                  refine tk 12 (hy := ex) (h := ?_)
                  refine tk 14 (hy := asg) (h := ?_)
                  refine one 15 (h := ?_)
                  first | refine stA (h := ?_) | refine stEA (h := ?_)
                  refine nx (h := ?_)
                  refine tk 16 (hy := asg) (h := ?_)
                  refine dn (h := ?_)
                  exact ctn ⟨_, _, _⟩ trivial (by repeat (first | exact trivial | refine ⟨rfl, ?_⟩)) (by repeat (first | exact SubL.nil | (apply SubL.cons; (repeat (first | exact At.here | apply At.there)))))
              · skip
                refine al (h := fun b20 => ?_)
                refine nx (h := ?_)
                refine one 7 (h := ?_)
                first | refine ap (h := fun A12 c12 => ?_) | refine ap0 (h := fun A12 c12 => ?_)
                refine nx (h := ?_)
                refine one 8 (h := ?_)
                refine cl (hc := fun w hS => C_lines_Run each more ((newSet :: aps) ++ [tieBreak]) _ _ _ w (by rw [List.map_append]; exact hS.get (by repeat (first | exact Rds.own | apply Rds.there))) (fun a ha => by
                  rcases List.mem_append.1 ha with ha | ha
                  · rcases List.mem_cons.1 ha with rfl | ha
                    · exact newSet_ok w
                    · exact ⟨(hS.old (hs a ha).1).ok _ List.mem_cons_self, (hs a ha).2⟩
                  · simp only [List.mem_singleton] at ha; subst ha; exact tieBreak_ok w) (by omega)) (h := fun xa _ => ?_)
                rw [hR2]
                refine nx (h := ?_)
                refine tk 9 (hy := mv) (h := ?_)
                refine tk 10 (hy := ex) (h := ?_)
                refine tk 11 (hy := ex) (h := ?_)
                refine tk 12 (hy := ex) (h := ?_)
                refine tk 14 (hy := asg) (h := ?_)
                refine one 15 (h := ?_)
                first | refine stA (h := ?_) | refine stEA (h := ?_)
                refine nx (h := ?_)
                refine tk 16 (hy := asg) (h := ?_)
                refine dn (h := ?_)
                exact ctn ⟨_, _, _⟩ trivial (by repeat (first | exact trivial | refine ⟨rfl, ?_⟩)) (by repeat (first | exact SubL.nil | (apply SubL.cons; (repeat (first | exact At.here | apply At.there)))))
            · skip
              refine al (h := fun b21 => ?_)
              refine nx (h := ?_)
              refine one 4 (h := ?_)
              first | refine ap (h := fun A13 c13 => ?_) | refine ap0 (h := fun A13 c13 => ?_)
              refine nx (h := ?_)
              refine one 7 (h := ?_)
              first | refine ap (h := fun A14 c14 => ?_) | refine ap0 (h := fun A14 c14 => ?_)
              refine nx (h := ?_)
              refine one 8 (h := ?_)
              refine cl (hc := fun w hS => C_lines_Run each more ((newSet :: aps) ++ [tieBreak]) _ _ _ w (by rw [List.map_append]; exact hS.get (by repeat (first | exact Rds.own | apply Rds.there))) (fun a ha => by
                rcases List.mem_append.1 ha with ha | ha
                · rcases List.mem_cons.1 ha with rfl | ha
                  · exact newSet_ok w
                  · exact ⟨(hS.old (hs a ha).1).ok _ List.mem_cons_self, (hs a ha).2⟩
                · simp only [List.mem_singleton] at ha; subst ha; exact tieBreak_ok w) (by omega)) (h := fun xa _ => ?_)
              rw [hR2]
              refine nx (h := ?_)
              refine tk 9 (hy := mv) (h := ?_)
              refine tk 10 (hy := ex) (h := ?_)
              refine tk 11 (hy := ex) (h := ?_)
              refine tk 12 (hy := ex) (h := ?_)
              refine tk 14 (hy := asg) (h := ?_)
              refine one 15 (h := ?_)
              first | refine stA (h := ?_) | refine stEA (h := ?_)
              refine nx (h := ?_)
              refine tk 16 (hy := asg) (h := ?_)
              refine dn (h := ?_)
              exact ctn ⟨_, _, _⟩ trivial (by repeat (first | exact trivial | refine ⟨rfl, ?_⟩)) (by repeat (first | exact SubL.nil | (apply SubL.cons; (repeat (first | exact At.here | apply At.there)))))
          · skip
            refine al (h := fun b22 => ?_)
            refine nx (h := ?_)
            refine two 4 6 (h1 := ?_) (h2 := ?_)
            · skip
              first | refine ap (h := fun A15 c15 => ?_) | refine ap0 (h := fun A15 c15 => ?_)
              refine nx (h := ?_)
              refine one 6 (h := ?_)
              refine bs (h := fun b23 => ?_)
              refine nx (h := ?_)
              refine one 7 (h := ?_)
              first | refine ap (h := fun A16 c16 => ?_) | refine ap0 (h := fun A16 c16 => ?_)
              refine nx (h := ?_)
              refine one 8 (h := ?_)
              refine cl (hc := fun w hS => C_lines_Run each more ((newSet :: aps) ++ [tieBreak]) _ _ _ w (by rw [List.map_append]; exact hS.get (by repeat (first | exact Rds.own | apply Rds.there))) (fun a ha => by
                rcases List.mem_append.1 ha with ha | ha
                · rcases List.mem_cons.1 ha with rfl | ha
                  · exact newSet_ok w
                  · exact ⟨(hS.old (hs a ha).1).ok _ List.mem_cons_self, (hs a ha).2⟩
                · simp only [List.mem_singleton] at ha; subst ha; exact tieBreak_ok w) (by omega)) (h := fun xa _ => ?_)
              rw [hR2]
              refine nx (h := ?_)
              refine tk 9 (hy := mv) (h := ?_)
              refine tk 10 (hy := ex) (h := ?_)
              refine tk 11 (hy := ex) (h := ?_)
              refine tk 12 (hy := ex) (h := ?_)
              refine tk 14 (hy := asg) (h := ?_)
              refine one 15 (h := ?_)
              first | refine stA (h := ?_) | refine stEA (h := ?_)
              refine nx (h := ?_)
              refine tk 16 (hy := asg) (h := ?_)
              refine dn (h := ?_)
              exact ctn ⟨_, _, _⟩ trivial (by repeat (first | exact trivial | refine ⟨rfl, ?_⟩)) (by repeat (first | exact SubL.nil | (apply SubL.cons; (repeat (first | exact At.here | apply At.there)))))
            · skip
              refine bs (h := fun b24 => ?_)
              refine nx (h := ?_)
              refine one 4 (h := ?_)
              first | refine ap (h := fun A17 c17 => ?_) | refine ap0 (h := fun A17 c17 => ?_)
              refine nx (h := ?_)
              refine one 7 (h := ?_)
              first | refine ap (h := fun A18 c18 => ?_) | refine ap0 (h := fun A18 c18 => ?_)
              refine nx (h := ?_)
              refine one 8 (h := ?_)
              refine cl (hc := fun w hS => C_lines_Run each more ((newSet :: aps) ++ [tieBreak]) _ _ _ w (by rw [List.map_append]; exact hS.get (by repeat (first | exact Rds.own | apply Rds.there))) (fun a ha => by
                rcases List.mem_append.1 ha with ha | ha
                · rcases List.mem_cons.1 ha with rfl | ha
                  · exact newSet_ok w
                  · exact ⟨(hS.old (hs a ha).1).ok _ List.mem_cons_self, (hs a ha).2⟩
                · simp only [List.mem_singleton] at ha; subst ha; exact tieBreak_ok w) (by omega)) (h := fun xa _ => ?_)
              rw [hR2]
              refine nx (h := ?_)
              refine tk 9 (hy := mv) (h := ?_)
              refine tk 10 (hy := ex) (h := ?_)
              refine tk 11 (hy := ex) (h := ?_)
              refine tk 12 (hy := ex) (h := ?_)
              refine tk 14 (hy := asg) (h := ?_)
              refine one 15 (h := ?_)
              first | refine stA (h := ?_) | refine stEA (h := ?_)
              refine nx (h := ?_)
              refine tk 16 (hy := asg) (h := ?_)
              refine dn (h := ?_)
              exact ctn ⟨_, _, _⟩ trivial (by repeat (first | exact trivial | refine ⟨rfl, ?_⟩)) (by repeat (first | exact SubL.nil | (apply SubL.cons; (repeat (first | exact At.here | apply At.there)))))
        · skip
          refine bs (h := fun b25 => ?_)
          refine nx (h := ?_)
          refine two 2 13 (h1 := ?_) (h2 := ?_)
          · skip
            refine bs (h := fun b26 => ?_)
            refine nx (h := ?_)
            refine two 4 13 (h1 := ?_) (h2 := ?_)
            · skip
              first | refine ap (h := fun A19 c19 => ?_) | refine ap0 (h := fun A19 c19 => ?_)
              refine nx (h := ?_)
              refine two 7 13 (h1 := ?_) (h2 := ?_)
              · skip
                first | refine ap (h := fun A20 c20 => ?_) | refine ap0 (h := fun A20 c20 => ?_)
                refine nx (h := ?_)
                refine two 8 13 (h1 := ?_) (h2 := ?_)
                · skip
                  refine cl (hc := fun w hS => C_lines_Run each more ((newSet :: aps) ++ [tieBreak]) _ _ _ w (by rw [List.map_append]; exact hS.get (by repeat (first | exact Rds.own | apply Rds.there))) (fun a ha => by
                    rcases List.mem_append.1 ha with ha | ha
                    · rcases List.mem_cons.1 ha with rfl | ha
                      · exact newSet_ok w
                      · exact ⟨(hS.old (hs a ha).1).ok _ List.mem_cons_self, (hs a ha).2⟩
                    · simp only [List.mem_singleton] at ha; subst ha; exact tieBreak_ok w) (by omega)) (h := fun xa _ => ?_)
                  rw [hR2]
                  refine nx (h := ?_)
                  refine tk 9 (hy := mv) (h := ?_)
                  refine tk 10 (hy := ex) (h := ?_)
                  refine tk 11 (hy := ex) (h := ?_)
                  refine tk 12 (hy := ex) (h := ?_)
                  refine one 13 (h := ?_)
                  refine al (h := fun b27 => ?_)
                  refine nx (h := ?_)
                  refine tk 14 (hy := asg) (h := ?_)
                  refine one 15 (h := ?_)
                  first | refine stA (h := ?_) | refine stEA (h := ?_)
                  refine nx (h := ?_)
                  refine tk 16 (hy := asg) (h := ?_)
                  refine dn (h := ?_)
                  exact ctn ⟨_, _, _⟩ trivial (by repeat (first | exact trivial | refine ⟨rfl, ?_⟩)) (by repeat (first | exact SubL.nil | (apply SubL.cons; (repeat (first | exact At.here | apply At.there)))))
                · skip
                  refine al (h := fun b28 => ?_)
                  refine nx (h := ?_)
                  refine one 8 (h := ?_)
                  refine cl (hc := fun w hS => C_lines_Run each more ((newSet :: aps) ++ [tieBreak]) _ _ _ w (by rw [List.map_append]; exact hS.get (by repeat (first | exact Rds.own | apply Rds.there))) (fun a ha => by
                    rcases List.mem_append.1 ha with ha | ha
                    · rcases List.mem_cons.1 ha with rfl | ha
                      · exact newSet_ok w
                      · exact ⟨(hS.old (hs a ha).1).ok _ List.mem_cons_self, (hs a ha).2⟩
                    · simp only [List.mem_singleton] at ha; subst ha; exact tieBreak_ok w) (by omega)) (h := fun xa _ => ?_)
                  rw [hR2]
                  refine nx (h := ?_)
                  refine tk 9 (hy := mv) (h := ?_)
                  refine tk 10 (hy := ex) (h := ?_)
                  refine tk 11 (hy := ex) (h := ?_)
                  refine tk 12 (hy := ex) (h := ?_)
                  refine tk 14 (hy := asg) (h := ?_)
                  refine one 15 (h := ?_)
                  first | refine stA (h := ?_) | refine stEA (h := ?_)
                  refine nx (h := ?_)
                  refine tk 16 (hy := asg) (h := ?_)
                  refine dn (h := ?_)
                  exact ctn ⟨_, _, _⟩ trivial (by repeat (first | exact trivial | refine ⟨rfl, ?_⟩)) (by repeat (first | exact SubL.nil | (apply SubL.cons; (repeat (first | exact At.here | apply At.there)))))
              · skip
                refine al (h := fun b29 => ?_)
                refine nx (h := ?_)
                refine one 7 (h := ?_)
                first | refine ap (h := fun A21 c21 => ?_) | refine ap0 (h := fun A21 c21 => ?_)
                refine nx (h := ?_)
                refine one 8 (h := ?_)
                refine cl (hc := fun w hS => C_lines_Run each more ((newSet :: aps) ++ [tieBreak]) _ _ _ w (by rw [List.map_append]; exact hS.get (by repeat (first | exact Rds.own | apply Rds.there))) (fun a ha => by
                  rcases List.mem_append.1 ha with ha | ha
                  · rcases List.mem_cons.1 ha with rfl | ha
                    · exact newSet_ok w
                    · exact ⟨(hS.old (hs a ha).1).ok _ List.mem_cons_self, (hs a ha).2⟩
                  · simp only [List.mem_singleton] at ha; subst ha; exact tieBreak_ok w) (by omega)) (h := fun xa _ => ?_)
                rw [hR2]
                refine nx (h := ?_)
                refine tk 9 (hy := mv) (h := ?_)
                refine tk 10 (hy := ex) (h := ?_)
                refine tk 11 (hy := ex) (h := ?_)
                refine tk 12 (hy := ex) (h := ?_)
                refine tk 14 (hy := asg) (h := ?_)
                refine one 15 (h := ?_)
                first | refine stA (h := ?_) | refine stEA (h := ?_)
                refine nx (h := ?_)
                refine tk 16 (hy := asg) (h := ?_)
                refine dn (h := ?_)
                exact ctn ⟨_, _, _⟩ trivial (by repeat (first | exact trivial | refine ⟨rfl, ?_⟩)) (by repeat (first | exact SubL.nil | (apply SubL.cons; (repeat (first | exact At.here | apply At.there)))))
            · skip
              refine al (h := fun b30 => ?_)
              refine nx (h := ?_)
              refine one 4 (h := ?_)
              first | refine ap (h := fun A22 c22 => ?_) | refine ap0 (h := fun A22 c22 => ?_)
              refine nx (h := ?_)
              refine one 7 (h := ?_)
              first | refine ap (h := fun A23 c23 => ?_) | refine ap0 (h := fun A23 c23 => ?_)
              refine nx (h := ?_)
              refine one 8 (h := ?_)
              refine cl (hc := fun w hS => C_lines_Run each more ((newSet :: aps) ++ [tieBreak]) _ _ _ w (by rw [List.map_append]; exact hS.get (by repeat (first | exact Rds.own | apply Rds.there))) (fun a ha => by
                rcases List.mem_append.1 ha with ha | ha
                · rcases List.mem_cons.1 ha with rfl | ha
                  · exact newSet_ok w
                  · exact ⟨(hS.old (hs a ha).1).ok _ List.mem_cons_self, (hs a ha).2⟩
                · simp only [List.mem_singleton] at ha; subst ha; exact tieBreak_ok w) (by omega)) (h := fun xa _ => ?_)
              rw [hR2]
              refine nx (h := ?_)
              refine tk 9 (hy := mv) (h := ?_)
              refine tk 10 (hy := ex) (h := ?_)
              refine tk 11 (hy := ex) (h := ?_)
              refine tk 12 (hy := ex) (h := ?_)
              refine tk 14 (hy := asg) (h := ?_)
              refine one 15 (h := ?_)
              first | refine stA (h := ?_) | refine stEA (h := ?_)
              refine nx (h := ?_)
              refine tk 16 (hy := asg) (h := ?_)
              refine dn (h := ?_)
              exact ctn ⟨_, _, _⟩ trivial (by repeat (first | exact trivial | refine ⟨rfl, ?_⟩)) (by repeat (first | exact SubL.nil | (apply SubL.cons; (repeat (first | exact At.here | apply At.there)))))
          · skip
            refine al (h := fun b31 => ?_)
            refine nx (h := ?_)
            refine one 2 (h := ?_)
            refine bs (h := fun b32 => ?_)
            refine nx (h := ?_)
            refine one 4 (h := ?_)
            first | refine ap (h := fun A24 c24 => ?_) | refine ap0 (h := fun A24 c24 => ?_)
            refine nx (h := ?_)
            refine one 7 (h := ?_)
            first | refine ap (h := fun A25 c25 => ?_) | refine ap0 (h := fun A25 c25 => ?_)
            refine nx (h := ?_)
            refine one 8 (h := ?_)
            refine cl (hc := fun w hS => C_lines_Run each more ((newSet :: aps) ++ [tieBreak]) _ _ _ w (by rw [List.map_append]; exact hS.get (by repeat (first | exact Rds.own | apply Rds.there))) (fun a ha => by
              rcases List.mem_append.1 ha with ha | ha
              · rcases List.mem_cons.1 ha with rfl | ha
                · exact newSet_ok w
                · exact ⟨(hS.old (hs a ha).1).ok _ List.mem_cons_self, (hs a ha).2⟩
              · simp only [List.mem_singleton] at ha; subst ha; exact tieBreak_ok w) (by omega)) (h := fun xa _ => ?_)
            rw [hR2]
            refine nx (h := ?_)
            refine tk 9 (hy := mv) (h := ?_)
            refine tk 10 (hy := ex) (h := ?_)
            refine tk 11 (hy := ex) (h := ?_)
            refine tk 12 (hy := ex) (h := ?_)
            refine tk 14 (hy := asg) (h := ?_)
            refine one 15 (h := ?_)
            first | refine stA (h := ?_) | refine stEA (h := ?_)
            refine nx (h := ?_)
            refine tk 16 (hy := asg) (h := ?_)
            refine dn (h := ?_)
            exact ctn ⟨_, _, _⟩ trivial (by repeat (first | exact trivial | refine ⟨rfl, ?_⟩)) (by repeat (first | exact SubL.nil | (apply SubL.cons; (repeat (first | exact At.here | apply At.there)))))
        · skip
          refine al (h := fun b33 => ?_)
          refine nx (h := ?_)
          refine two 2 6 (h1 := ?_) (h2 := ?_)
          · skip
            refine bs (h := fun b34 => ?_)
            refine nx (h := ?_)
            refine two 4 6 (h1 := ?_) (h2 := ?_)
            · skip
              first | refine ap (h := fun A26 c26 => ?_) | refine ap0 (h := fun A26 c26 => ?_)
              refine nx (h := ?_)
              refine one 6 (h := ?_)
              refine bs (h := fun b35 => ?_)
              refine nx (h := ?_)
              refine one 7 (h := ?_)
              first | refine ap (h := fun A27 c27 => ?_) | refine ap0 (h := fun A27 c27 => ?_)
              refine nx (h := ?_)
              refine one 8 (h := ?_)
              refine cl (hc := fun w hS => C_lines_Run each more ((newSet :: aps) ++ [tieBreak]) _ _ _ w (by rw [List.map_append]; exact hS.get (by repeat (first | exact Rds.own | apply Rds.there))) (fun a ha => by
                rcases List.mem_append.1 ha with ha | ha
                · rcases List.mem_cons.1 ha with rfl | ha
                  · exact newSet_ok w
                  · exact ⟨(hS.old (hs a ha).1).ok _ List.mem_cons_self, (hs a ha).2⟩
                · simp only [List.mem_singleton] at ha; subst ha; exact tieBreak_ok w) (by omega)) (h := fun xa _ => ?_)
              rw [hR2]
              refine nx (h := ?_)
              refine tk 9 (hy := mv) (h := ?_)
              refine tk 10 (hy := ex) (h := ?_)
              refine tk 11 (hy := ex) (h := ?_)
              refine tk 12 (hy := ex) (h := ?_)
              refine tk 14 (hy := asg) (h := ?_)
              refine one 15 (h := ?_)
              first | refine stA (h := ?_) | refine stEA (h := ?_)
              refine nx (h := ?_)
              refine tk 16 (hy := asg) (h := ?_)
              refine dn (h := ?_)
              exact ctn ⟨_, _, _⟩ trivial (by repeat (first | exact trivial | refine ⟨rfl, ?_⟩)) (by repeat (first | exact SubL.nil | (apply SubL.cons; (repeat (first | exact At.here | apply At.there)))))
            · skip
              refine bs (h := fun b36 => ?_)
              refine nx (h := ?_)
              refine one 4 (h := ?_)
              first | refine ap (h := fun A28 c28 => ?_) | refine ap0 (h := fun A28 c28 => ?_)
              refine nx (h := ?_)
              refine one 7 (h := ?_)
              first | refine ap (h := fun A29 c29 => ?_) | refine ap0 (h := fun A29 c29 => ?_)
              refine nx (h := ?_)
              refine one 8 (h := ?_)
              refine cl (hc := fun w hS => C_lines_Run each more ((newSet :: aps) ++ [tieBreak]) _ _ _ w (by rw [List.map_append]; exact hS.get (by repeat (first | exact Rds.own | apply Rds.there))) (fun a ha => by
                rcases List.mem_append.1 ha with ha | ha
                · rcases List.mem_cons.1 ha with rfl | ha
                  · exact newSet_ok w
                  · exact ⟨(hS.old (hs a ha).1).ok _ List.mem_cons_self, (hs a ha).2⟩
                · simp only [List.mem_singleton] at ha; subst ha; exact tieBreak_ok w) (by omega)) (h := fun xa _ => ?_)
              rw [hR2]
              refine nx (h := ?_)
              refine tk 9 (hy := mv) (h := ?_)
              refine tk 10 (hy := ex) (h := ?_)
              refine tk 11 (hy := ex) (h := ?_)
              refine tk 12 (hy := ex) (h := ?_)
              refine tk 14 (hy := asg) (h := ?_)
              refine one 15 (h := ?_)
              first | refine stA (h := ?_) | refine stEA (h := ?_)
              refine nx (h := ?_)
              refine tk 16 (hy := asg) (h := ?_)
              refine dn (h := ?_)
              exact ctn ⟨_, _, _⟩ trivial (by repeat (first | exact trivial | refine ⟨rfl, ?_⟩)) (by repeat (first | exact SubL.nil | (apply SubL.cons; (repeat (first | exact At.here | apply At.there)))))
          · skip
            refine bs (h := fun b37 => ?_)
            refine nx (h := ?_)
            refine one 2 (h := ?_)
            refine bs (h := fun b38 => ?_)
            refine nx (h := ?_)
            refine one 4 (h := ?_)
            first | refine ap (h := fun A30 c30 => ?_) | refine ap0 (h := fun A30 c30 => ?_)
            refine nx (h := ?_)
            refine one 7 (h := ?_)
            first | refine ap (h := fun A31 c31 => ?_) | refine ap0 (h := fun A31 c31 => ?_)
            refine nx (h := ?_)
            refine one 8 (h := ?_)
            refine cl (hc := fun w hS => C_lines_Run each more ((newSet :: aps) ++ [tieBreak]) _ _ _ w (by rw [List.map_append]; exact hS.get (by repeat (first | exact Rds.own | apply Rds.there))) (fun a ha => by
              rcases List.mem_append.1 ha with ha | ha
              · rcases List.mem_cons.1 ha with rfl | ha
                · exact newSet_ok w
                · exact ⟨(hS.old (hs a ha).1).ok _ List.mem_cons_self, (hs a ha).2⟩
              · simp only [List.mem_singleton] at ha; subst ha; exact tieBreak_ok w) (by omega)) (h := fun xa _ => ?_)
            rw [hR2]
            refine nx (h := ?_)
            refine tk 9 (hy := mv) (h := ?_)
            refine tk 10 (hy := ex) (h := ?_)
            refine tk 11 (hy := ex) (h := ?_)
            refine tk 12 (hy := ex) (h := ?_)
            refine tk 14 (hy := asg) (h := ?_)
            refine one 15 (h := ?_)
            first | refine stA (h := ?_) | refine stEA (h := ?_)
            refine nx (h := ?_)
            refine tk 16 (hy := asg) (h := ?_)
            refine dn (h := ?_)
            exact ctn ⟨_, _, _⟩ trivial (by repeat (first | exact trivial | refine ⟨rfl, ?_⟩)) (by repeat (first | exact SubL.nil | (apply SubL.cons; (repeat (first | exact At.here | apply At.there)))))
      rintro y -
      refine sq (h := ?_)
      refine rg (h := ?_)
      refine WL.y (hy := mv) (h := ?_)
      refine WL.y (hy := eql) (h := ?_)
      refine WL.y (hy := mv) (h := ?_)
      apply brAnd 3 245 248 (by exact rfl)
      · intro hb25
        refine un (h := ?_)
        refine WL.y (hy := mv) (h := ?_)
        refine un (h := ?_)
        refine WL.y (hy := eql) (h := ?_)
        refine WL.y (hy := (by first | exact pkT | exact pkF)) (h := ?_)
        exact mg (by repeat (first | exact trivial | refine ⟨rfl, ?_⟩ | refine ⟨by rw [hb25]; rfl, ?_⟩)) (by repeat (first | exact SubL.nil | (apply SubL.cons; (repeat (first | exact At.here | apply At.there)))))
      · intro hb25
        repeat (first | refine un (h := ?_) | refine sk (h := ?_) | refine WL.y (hy := pkF) (h := ?_) | refine WL.y (hy := pkT) (h := ?_))
        exact mg (by repeat (first | exact trivial | refine ⟨rfl, ?_⟩ | refine ⟨by rw [hb25]; rfl, ?_⟩)) (by repeat (first | exact SubL.nil | (apply SubL.cons; (repeat (first | exact At.here | apply At.there)))))
      refine WL.y (hy := mv) (h := ?_)
      apply brAnd 4 249 253 (by exact rfl)
      · intro hb26
        refine un (h := ?_)
        refine WL.y (hy := mv) (h := ?_)
        refine un (h := ?_)
        refine WL.y (hy := mv) (h := ?_)
        refine un (h := ?_)
        refine cl0 (hc := fun w hS => C_deucelaw02_sameInts _ _ _ _ _ _ _ _ w (hS.get (by repeat (first | exact Rds.ro | exact Rds.own | apply Rds.there))) (hS.get (by repeat (first | exact Rds.ro | exact Rds.own | apply Rds.there))) (by omega)) (h := ?_)
        refine WL.y (hy := (by first | exact pkT | exact pkF)) (h := ?_)
        exact mg (by repeat (first | exact trivial | refine ⟨rfl, ?_⟩ | refine ⟨by rw [hb26]; rfl, ?_⟩)) (by repeat (first | exact SubL.nil | (apply SubL.cons; (repeat (first | exact At.here | apply At.there)))))
      · intro hb26
        repeat (first | refine un (h := ?_) | refine sk (h := ?_) | refine WL.y (hy := pkF) (h := ?_) | refine WL.y (hy := pkT) (h := ?_))
        exact mg (by repeat (first | exact trivial | refine ⟨rfl, ?_⟩ | refine ⟨by rw [hb26]; rfl, ?_⟩)) (by repeat (first | exact SubL.nil | (apply SubL.cons; (repeat (first | exact At.here | apply At.there)))))
      refine WL.y (hy := mv) (h := ?_)
      apply brAnd 4 254 258 (by exact rfl)
      · intro hb27
        refine un (h := ?_)
        refine WL.y (hy := mv) (h := ?_)
        refine un (h := ?_)
        refine WL.y (hy := mv) (h := ?_)
        refine un (h := ?_)
        refine cl0 (hc := fun w hS => C_deucelaw02_sameInts _ _ _ _ _ _ _ _ w (hS.get (by repeat (first | exact Rds.ro | exact Rds.own | apply Rds.there))) (hS.get (by repeat (first | exact Rds.ro | exact Rds.own | apply Rds.there))) (by omega)) (h := ?_)
        refine WL.y (hy := (by first | exact pkT | exact pkF)) (h := ?_)
        exact mg (by repeat (first | exact trivial | refine ⟨rfl, ?_⟩ | refine ⟨by rw [hb27]; rfl, ?_⟩)) (by repeat (first | exact SubL.nil | (apply SubL.cons; (repeat (first | exact At.here | apply At.there)))))
      · intro hb27
        repeat (first | refine un (h := ?_) | refine sk (h := ?_) | refine WL.y (hy := pkF) (h := ?_) | refine WL.y (hy := pkT) (h := ?_))
        exact mg (by repeat (first | exact trivial | refine ⟨rfl, ?_⟩ | refine ⟨by rw [hb27]; rfl, ?_⟩)) (by repeat (first | exact SubL.nil | (apply SubL.cons; (repeat (first | exact At.here | apply At.there)))))
      refine WL.y (hy := mv) (h := ?_)
      apply brAnd 4 259 263 (by exact rfl)
      · intro hb28
        refine un (h := ?_)
        refine WL.y (hy := (by first | exact ldA | exact ldEA)) (h := ?_)
        refine un (h := ?_)
        refine WL.y (hy := (by first | exact ldA | exact ldEA)) (h := ?_)
        refine un (h := ?_)
        refine WL.y (hy := eqlA) (h := ?_)
        refine WL.y (hy := (by first | exact pkT | exact pkF)) (h := ?_)
        exact mg (by repeat (first | exact trivial | refine ⟨rfl, ?_⟩ | refine ⟨by rw [hb28]; rfl, ?_⟩)) (by repeat (first | exact SubL.nil | (apply SubL.cons; (repeat (first | exact At.here | apply At.there)))))
      · intro hb28
        repeat (first | refine un (h := ?_) | refine sk (h := ?_) | refine WL.y (hy := pkF) (h := ?_) | refine WL.y (hy := pkT) (h := ?_))
        exact mg (by repeat (first | exact trivial | refine ⟨rfl, ?_⟩ | refine ⟨by rw [hb28]; rfl, ?_⟩)) (by repeat (first | exact SubL.nil | (apply SubL.cons; (repeat (first | exact At.here | apply At.there)))))
      refine WL.y (hy := mv) (h := ?_)
      apply brAnd 14 264 278 (by exact rfl)
      · intro hb29
        refine un (h := ?_)
        refine WL.y (hy := (by first | exact ldA | exact ldEA)) (h := ?_)
        refine un (h := ?_)
        refine WL.y (hy := ixA) (h := ?_)
        refine un (h := ?_)
        refine WL.y (hy := (by first | exact ld | exact ldE)) (h := ?_)
        refine un (h := ?_)
        refine WL.y (hy := (by first | exact fa | exact faE)) (h := ?_)
        refine un (h := ?_)
        refine WL.y (hy := (by first | exact ld | exact ldE)) (h := ?_)
        refine un (h := ?_)
        refine WL.y (hy := addI) (h := ?_)
        refine un (h := ?_)
        refine WL.y (hy := ixA) (h := ?_)
        refine un (h := ?_)
        refine WL.y (hy := (by first | exact ld | exact ldE)) (h := ?_)
        refine un (h := ?_)
        refine WL.y (hy := (by first | exact fa | exact faE)) (h := ?_)
        refine un (h := ?_)
        refine WL.y (hy := (by first | exact ld | exact ldE)) (h := ?_)
        refine un (h := ?_)
        refine WL.y (hy := addI) (h := ?_)
        refine un (h := ?_)
        refine WL.y (hy := bdA) (h := ?_)
        refine un (h := ?_)
        refine WL.y (hy := eqlA) (h := ?_)
        refine WL.y (hy := (by first | exact pkT | exact pkF)) (h := ?_)
        exact mg (by repeat (first | exact trivial | refine ⟨rfl, ?_⟩ | refine ⟨by rw [hb29]; rfl, ?_⟩)) (by repeat (first | exact SubL.nil | (apply SubL.cons; (repeat (first | exact At.here | apply At.there)))))
      · intro hb29
        repeat (first | refine un (h := ?_) | refine sk (h := ?_) | refine WL.y (hy := pkF) (h := ?_) | refine WL.y (hy := pkT) (h := ?_))
        exact mg (by repeat (first | exact trivial | refine ⟨rfl, ?_⟩ | refine ⟨by rw [hb29]; rfl, ?_⟩)) (by repeat (first | exact SubL.nil | (apply SubL.cons; (repeat (first | exact At.here | apply At.there)))))
      refine WL.y (hy := mv) (h := ?_)
      apply brAnd 2 279 281 (by exact rfl)
      · intro hb30
        refine un (h := ?_)
        refine cl0 (hc := fun w hS => C_deucelaw02_works w) (h := ?_)
        refine WL.y (hy := (by first | exact pkT | exact pkF)) (h := ?_)
        exact mg (by repeat (first | exact trivial | refine ⟨rfl, ?_⟩ | refine ⟨by rw [hb30]; rfl, ?_⟩)) (by repeat (first | exact SubL.nil | (apply SubL.cons; (repeat (first | exact At.here | apply At.there)))))
      · intro hb30
        repeat (first | refine un (h := ?_) | refine sk (h := ?_) | refine WL.y (hy := pkF) (h := ?_) | refine WL.y (hy := pkT) (h := ?_))
        exact mg (by repeat (first | exact trivial | refine ⟨rfl, ?_⟩ | refine ⟨by rw [hb30]; rfl, ?_⟩)) (by repeat (first | exact SubL.nil | (apply SubL.cons; (repeat (first | exact At.here | apply At.there)))))
      refine WL.y (hy := asg) (h := ?_)
      refine nl (h := ?_)
      refine q_seq (h := ?_)
      refine rtn (h := ?_)
      refine q_ret (hR := ?_)
      first
        | exact fun w hS => ⟨rfl, hS.sub (by repeat (first | exact SubL.nil | (apply SubL.cons; (repeat (first | exact At.here | apply At.there)))))⟩
        | exact fun w hS => ⟨by simp [resV], hS.sub (by repeat (first | exact SubL.nil | (apply SubL.cons; (repeat (first | exact At.here | apply At.there)))))⟩
end Go.Proofs.Ytdphljhhcaoleaa
