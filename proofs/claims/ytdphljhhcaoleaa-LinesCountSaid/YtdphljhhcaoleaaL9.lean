/- Walks: wider views, and by how much a call stands. -/
import Derived.Test.YtdphljhhcaoleaaLQ
import Derived.Test.YtdphljhhcaoleaaK2
namespace Go.Proofs.Ytdphljhhcaoleaa
open Go Go.RowKit

def wid1 (d : Int) (s : Strip) : Strip := ⟨s.p, s.q, s.lo - d, s.hi + d⟩
def wid (v : View) (d : Int) : View := ⟨v.size, v.strips.map (wid1 d), v.wr, v.hxl, v.hxh, v.hyl, v.hyh⟩
theorem wid_near {v : View} {d : Int} (h : v.Near) : (wid v d).Near := by
  obtain ⟨a1, a2, a3, a4, a5, a6, a7, a8, a9, a10⟩ := h
  refine ⟨a1, a2, a3, a4, a5, a6, a7, a8, by simpa [wid] using a9, fun s hs => ?_⟩
  obtain ⟨t, ht, rfl⟩ := List.mem_map.1 hs
  exact a10 t ht
def Rng (v : View) (k : Int) : Prop := ∀ s ∈ v.strips, -k ≤ s.lo ∧ s.lo ≤ k ∧ -k ≤ s.hi ∧ s.hi ≤ k
theorem vbad_rng {v : View} (h : vbad v = false) : Rng v 500 := by
  simp only [vbad, Bool.or_eq_false_iff, List.any_eq_false] at h
  intro s hs
  have := h.1.1.1.1.1 s hs
  simp only [iStrip, Bool.not_eq_true, Bool.not_eq_false', Bool.and_eq_true, isp_iff] at this
  omega
structure WS where
  (k : Nat) (ss : List Strip)
def WS.ok (z : WS) (d : Int) (ts : List Strip) : Prop := ∀ i : Nat, z.ss[i]? = if i < z.k then (ts[i]?).map (wid1 d) else ts[i]?
theorem WS.at_ {z : WS} {d : Int} {ts : List Strip} (h : z.ok d ts) {s : Strip} (hs : ts[z.k]? = some s) : z.ss[z.k]? = some s := by
  have := h z.k
  rw [if_neg (Nat.lt_irrefl _)] at this
  rw [this, hs]
theorem WS.next {z : WS} {d : Int} {ts : List Strip} (h : z.ok d ts) {s : Strip} (hs : ts[z.k]? = some s) : WS.ok ⟨z.k + 1, z.ss.set z.k (wid1 d s)⟩ d ts := by
  intro i
  have hl : z.k < z.ss.length := (List.getElem?_eq_some_iff.1 (WS.at_ h hs)).1
  dsimp only
  by_cases e : z.k = i
  · subst e
    rw [List.getElem?_set_self hl, if_pos (Nat.lt_succ_self _), hs]; rfl
  · rw [List.getElem?_set_ne e, h i]
    by_cases h1 : i < z.k
    · rw [if_pos h1, if_pos (by omega)]
    · rw [if_neg h1, if_neg (by omega)]
theorem WS.fin {z : WS} {d : Int} {ts : List Strip} (h : z.ok d ts) (hk : z.k = ts.length) : z.ss = ts.map (wid1 d) := by
  refine List.ext_getElem? fun i => ?_
  rw [h i, List.getElem?_map]
  by_cases h1 : i < z.k
  · rw [if_pos h1]
  · rw [if_neg h1, List.getElem?_eq_none (by omega)]; rfl
theorem WS.enc {ss : List Strip} {k : Nat} {s : Strip} {d : Int} : ((ss.map Strip.enc).set k (s.enc.set 2 (.int .i64 (s.lo - d)))).set k ((s.enc.set 2 (.int .i64 (s.lo - d))).set 3 (.int .i64 (s.hi + d))) = (ss.set k (wid1 d s)).map Strip.enc := by
  rw [List.set_set, List.map_set]; rfl
theorem enc_get {ss : List Strip} {k : Nat} {s : Strip} (h : ss[k]? = some s) : (ss.map Strip.enc)[k]? = some s.enc := by simp [h]
theorem enc_set {ss : List Strip} {k : Nat} {s : Strip} (h : ss[k]? = some s) (c : List Value) : ((ss.map Strip.enc).set k c)[k]? = some c := by
  have hl : k < ss.length := (List.getElem?_eq_some_iff.1 h).1
  rw [List.getElem?_set_self (by simpa using hl)]

theorem C_slices_Clone (A : Option Addr) (n c : Nat) (es : List (List Value)) (w : World) (h : Rd w A 4 n es) (hn : n ≤ 100000000) :
    CR Try.prog 80 [.slice A n c] w (fun _ : Option Addr × Nat => True) (fun p => .slice p.1 n p.2) (fun p => [.own p.1 p.2 59 4 n es]) := by
  refine ⟨en Try.func80 Try.ntmps80 ((St.init w).share (e := .ro A 4 n es) h rfl rfl rfl) (h := fun F => ?_)⟩
  refine sq (h := ?_)
  refine rg (h := ?_)
  refine WL.y (hy := asg) (h := ?_)
  refine WL.nilOwn 59 4 (h := ?_)
  refine nl (h := ?_)
  refine q_seq (h := ?_)
  refine sq (h := ?_)
  refine sq (h := ?_)
  refine rg (h := ?_)
  refine WL.y (hy := mv) (h := ?_)
  refine WL.y (hy := eqlN) (h := ?_)
  refine nl (h := ?_)
  refine q_seq (h := ?_)
  refine cd (by exact rfl) (fun h0 => ?_) (fun h0 => ?_)
  · skip
    refine sq (h := ?_)
    refine rg (h := ?_)
    refine WL.y (hy := asg) (h := ?_)
    refine nl (h := ?_)
    refine q_seq (h := ?_)
    refine rtn (h := ?_)
    refine q_then_ret (h := ?_)
    refine q_ret (hR := ?_)
    have hn0 : n = 0 := by
      rcases Nat.eq_zero_or_pos n with e | e
      · exact e
      · obtain ⟨ad, rfl⟩ := h.some_ e
        cases h0
    have hes : es = [] := by have := h.len; rw [hn0] at this; exact List.length_eq_zero_iff.1 this
    exact fun w hS => ⟨(none, 0), trivial, by rw [hn0]; rfl, by rw [hn0, hes]; exact hS.sub (by repeat (first | exact SubL.nil | (apply SubL.cons; (repeat (first | exact At.here | apply At.there)))))⟩
  · skip
    refine skp (h := ?_)
    refine q_seq (h := ?_)
    refine sq (h := ?_)
    refine rg (h := ?_)
    refine bs (h := fun b0 => ?_)
    refine WL.y (hy := mv) (h := ?_)
    first | refine ap (h := fun A1 c1 => ?_) | refine ap0 (h := fun A1 c1 => ?_)
    refine WL.y (hy := asg) (h := ?_)
    refine nl (h := ?_)
    refine q_seq (h := ?_)
    refine rtn (h := ?_)
    refine q_ret (hR := ?_)
    exact fun w hS => ⟨(_, _), trivial, by simp only [Nat.zero_add]; rfl, by simp only [Nat.zero_add, List.nil_append] at hS; exact hS.sub (by repeat (first | exact SubL.nil | (apply SubL.cons; (repeat (first | exact At.here | apply At.there)))))⟩

theorem C_lines_wider (v : View) (d : Int) (A : Option Addr) (n c : Nat) (w : World) (h : Rd w A 4 n v.enc) (hn : n ≤ 100000000) (hr : Rng v 1000) (hd : 0 ≤ d ∧ d ≤ 1000) :
    CR Try.prog 67 [v.val A n c, .int .i64 d] w (fun _ : Option Addr × Nat => True) (fun p => (wid v d).val p.1 n p.2) (fun p => [.own p.1 p.2 59 4 n (wid v d).enc]) := by
  have hlen : v.strips.length = n := by have := h.len; simpa using this
  refine ⟨en Try.func67 Try.ntmps67 ((St.init w).share (e := .ro A 4 n v.enc) h rfl rfl rfl) (h := fun F => ?_)⟩
  refine sq (h := ?_)
  refine rg (h := ?_)
  refine bxA (h := fun b0 => ?_)
  refine al (h := fun b1 => ?_)
  refine nl (h := ?_)
  refine q_seq (h := ?_)
  refine sq (h := ?_)
  refine rg (h := ?_)
  refine WL.y (hy := (by first | exact fa | exact faE)) (h := ?_)
  refine WL.y (hy := (by first | exact ld | exact ldE)) (h := ?_)
  refine cl (hc := fun w hS => C_slices_Clone _ _ _ _ w (hS.get (by repeat (first | exact Rds.ro | exact Rds.own | apply Rds.there))) (by omega)) (h := fun x0 _ => ?_)
  refine WL.y (hy := (by first | exact fa | exact faE)) (h := ?_)
  first | refine st (h := ?_) | refine stE (h := ?_)
  refine nl (h := ?_)
  refine q_seq (h := ?_)
  refine sq (h := ?_)
  refine sq (h := ?_)
  refine rg (h := ?_)
  refine WL.y (hy := (by first | exact fa | exact faE)) (h := ?_)
  refine WL.y (hy := (by first | exact ld | exact ldE)) (h := ?_)
  refine WL.y (hy := lenS) (h := ?_)
  refine WL.y (hy := mv) (h := ?_)
  refine nl (h := ?_)
  refine q_seq (h := ?_)
  refine bk (h := ?_)
  refine lp (X := WS) (I := fun z => z.k ≤ n ∧ z.ok d v.strips) (le := fun z => [(1, .int .i64 d), (2, .pointer (some ⟨b0, 0, none⟩)), (4, .pointer (some ⟨b1, 0, none⟩)), (12, .int .i64 n), (13, .int .i64 z.k)]) (Le := fun z => [.own x0.1 x0.2 59 4 n (z.ss.map Strip.enc), .blk b0 26 (v.cells x0.1 n x0.2), .blk b1 26 [.int .i64 0, .slice none 0 0, .int .i64 0, .int .i64 0, .int .i64 0, .int .i64 0, .int .i64 0]]) (μ := fun z => n - z.k) ⟨0, v.strips⟩ ⟨by simp, fun i => by simp⟩ (by repeat (first | exact trivial | refine ⟨rfl, ?_⟩)) (by repeat (first | exact SubL.nil | (apply SubL.cons; (repeat (first | exact At.here | apply At.there))))) (fun z hz => ?_)
  obtain ⟨hk, hz⟩ := hz
  refine sq (h := ?_)
  refine rg (h := ?_)
  refine WL.y (hy := lss) (h := ?_)
  refine nl (h := ?_)
  refine q_seq (h := ?_)
  refine sq (h := ?_)
  refine cd (by exact rfl) (fun h0 => ?_) (fun h0 => ?_)
  · skip
    have hkn : z.k < n := by simp only [decide_eq_true_eq] at h0; omega
    obtain ⟨s, hs⟩ : ∃ s, v.strips[z.k]? = some s := ⟨_, List.getElem?_eq_getElem (by omega)⟩
    have hzs := WS.at_ hz hs
    have hse := enc_get hzs
    have hse2 := enc_set hzs (s.enc.set 2 (.int .i64 (s.lo - d)))
    have hsr := hr s (List.mem_of_getElem? hs)
    refine skp (h := ?_)
    refine q_seq (h := ?_)
    refine sq (h := ?_)
    refine bk (h := ?_)
    refine sq (h := ?_)
    refine rg (h := ?_)
    refine WL.y (hy := mv) (h := ?_)
    refine WL.y (hy := asg) (h := ?_)
    refine nl (h := ?_)
    refine q_seq (h := ?_)
    refine sq (h := ?_)
    refine rg (h := ?_)
    refine WL.y (hy := (by first | exact fa | exact faE)) (h := ?_)
    refine WL.y (hy := (by first | exact ld | exact ldE)) (h := ?_)
    refine WL.y (hy := mv) (h := ?_)
    refine WL.y (hy := ix (A := x0.1) (m := n) (hb := by omega)) (h := ?_)
    refine WL.y (hy := (by first | exact fa | exact faE)) (h := ?_)
    refine WL.y (hy := ldE (A := x0.1) (hk := hse)) (h := ?_)
    refine WL.y (hy := mv) (h := ?_)
    refine WL.y (hy := subI) (h := ?_)
    refine WL.y (hy := ix (A := x0.1) (m := n) (hb := by omega)) (h := ?_)
    refine WL.y (hy := (by first | exact fa | exact faE)) (h := ?_)
    refine stE (A := x0.1) (k := z.k) (hk := hse) (h := ?_)
    refine nl (h := ?_)
    refine q_seq (h := ?_)
    refine rg (h := ?_)
    refine WL.y (hy := (by first | exact fa | exact faE)) (h := ?_)
    refine WL.y (hy := (by first | exact ld | exact ldE)) (h := ?_)
    refine WL.y (hy := mv) (h := ?_)
    refine WL.y (hy := ix (A := x0.1) (m := n) (hb := by omega)) (h := ?_)
    refine WL.y (hy := (by first | exact fa | exact faE)) (h := ?_)
    refine WL.y (hy := ldE (A := x0.1) (hk := hse2)) (h := ?_)
    refine WL.y (hy := mv) (h := ?_)
    refine WL.y (hy := addI) (h := ?_)
    refine WL.y (hy := ix (A := x0.1) (m := n) (hb := by omega)) (h := ?_)
    refine WL.y (hy := (by first | exact fa | exact faE)) (h := ?_)
    refine stE (A := x0.1) (k := z.k) (hk := hse2) (h := ?_)
    refine nl (h := ?_)
    refine q_blk_norm (h := ?_)
    refine q_seq (h := ?_)
    refine rg (h := ?_)
    refine WL.y (hy := addI) (h := ?_)
    refine WL.y (hy := mv) (h := ?_)
    refine nl (h := ?_)
    refine rn (x := z) ⟨z.k + 1, z.ss.set z.k (wid1 d s)⟩ ⟨by dsimp only; omega, WS.next hz hs⟩ (by dsimp only; omega) (by repeat (first | exact trivial | refine ⟨rfl, ?_⟩)) (by dsimp only; rw [← WS.enc]; exact (by repeat (first | exact SubL.nil | (apply SubL.cons; (repeat (first | exact At.here | apply At.there))))))
  · skip
    have hkn : z.k = n := by simp only [decide_eq_false_iff_not] at h0; omega
    have hfin := WS.fin hz (by omega)
    refine et (h := ?_)
    refine q_then_exit (h := ?_)
    refine q_then_exit (h := ?_)
    refine q_blk_hit (h := ?_)
    refine q_seq (h := ?_)
    refine sq (h := ?_)
    refine rg (h := ?_)
    refine WL.y (hy := (by first | exact ldA | exact ldEA)) (h := ?_)
    first | refine stA (h := ?_) | refine stEA (h := ?_)
    refine nl (h := ?_)
    refine q_seq (h := ?_)
    refine rtn (h := ?_)
    refine q_ret (hR := ?_)
    exact fun w hS => ⟨(x0.1, x0.2), trivial, rfl, by rw [hfin] at hS; exact hS.sub (by repeat (first | exact SubL.nil | (apply SubL.cons; (repeat (first | exact At.here | apply At.there)))))⟩

theorem C_ref_Wider (v : View) (d : Int) (A : Option Addr) (n c : Nat) (w : World) (h : Rd w A 4 n v.enc) (hn : n ≤ 100000000) (hr : Rng v 1000) (hd : 0 ≤ d ∧ d ≤ 1000) :
    CR Try.prog 17 [v.val A n c, .int .i64 d] w (fun _ : Option Addr × Nat => True) (fun p => (wid v d).val p.1 n p.2) (fun p => [.own p.1 p.2 59 4 n (wid v d).enc]) := by
  have hlen : v.strips.length = n := by have := h.len; simpa using this
  refine ⟨en Try.func17 Try.ntmps17 ((St.init w).share (e := .ro A 4 n v.enc) h rfl rfl rfl) (h := fun F => ?_)⟩
  refine sq (h := ?_)
  refine rg (h := ?_)
  refine bxA (h := fun b0 => ?_)
  refine al (h := fun b1 => ?_)
  refine nl (h := ?_)
  refine q_seq (h := ?_)
  refine sq (h := ?_)
  refine rg (h := ?_)
  refine WL.y (hy := (by first | exact ldA | exact ldEA)) (h := ?_)
  refine cl (hc := fun w hS => C_ref_Copy _ _ _ _ w (hS.get (by repeat (first | exact Rds.ro | exact Rds.own | apply Rds.there))) (by omega)) (h := fun x0 _ => ?_)
  refine al (h := fun b2 => ?_)
  first | refine stA (h := ?_) | refine stEA (h := ?_)
  refine nl (h := ?_)
  refine q_seq (h := ?_)
  refine sq (h := ?_)
  refine sq (h := ?_)
  refine rg (h := ?_)
  refine WL.y (hy := asg) (h := ?_)
  refine nl (h := ?_)
  refine q_seq (h := ?_)
  refine bk (h := ?_)
  refine lp (X := WS) (I := fun z => z.k ≤ n ∧ z.ok d v.strips) (le := fun z => [(1, .int .i64 d), (4, .pointer (some ⟨b1, 0, none⟩)), (5, .pointer (some ⟨b2, 0, none⟩)), (6, .int .i64 z.k)]) (Le := fun z => [.own x0.1 x0.2 59 4 n (z.ss.map Strip.enc), .blk b2 26 (v.cells x0.1 n x0.2), .blk b1 26 [.int .i64 0, .slice none 0 0, .int .i64 0, .int .i64 0, .int .i64 0, .int .i64 0, .int .i64 0]]) (μ := fun z => n - z.k) ⟨0, v.strips⟩ ⟨by simp, fun i => by simp⟩ (by repeat (first | exact trivial | refine ⟨rfl, ?_⟩)) (by repeat (first | exact SubL.nil | (apply SubL.cons; (repeat (first | exact At.here | apply At.there))))) (fun z hz => ?_)
  obtain ⟨hk, hz⟩ := hz
  refine sq (h := ?_)
  refine sq (h := ?_)
  refine rg (h := ?_)
  refine WL.y (hy := mv) (h := ?_)
  refine WL.y (hy := (by first | exact fa | exact faE)) (h := ?_)
  refine WL.y (hy := (by first | exact ld | exact ldE)) (h := ?_)
  refine WL.y (hy := lenS) (h := ?_)
  refine WL.y (hy := lss) (h := ?_)
  refine nl (h := ?_)
  refine q_seq (h := ?_)
  refine cd (by exact rfl) (fun h0 => ?_) (fun h0 => ?_)
  · skip
    have hkn : z.k < n := by simp only [decide_eq_true_eq] at h0; omega
    obtain ⟨s, hs⟩ : ∃ s, v.strips[z.k]? = some s := ⟨_, List.getElem?_eq_getElem (by omega)⟩
    have hzs := WS.at_ hz hs
    have hse := enc_get hzs
    have hse2 := enc_set hzs (s.enc.set 2 (.int .i64 (s.lo - d)))
    have hsr := hr s (List.mem_of_getElem? hs)
    refine skp (h := ?_)
    refine q_seq (h := ?_)
    refine sq (h := ?_)
    refine bk (h := ?_)
    refine sq (h := ?_)
    refine rg (h := ?_)
    refine WL.y (hy := (by first | exact fa | exact faE)) (h := ?_)
    refine WL.y (hy := (by first | exact ld | exact ldE)) (h := ?_)
    refine WL.y (hy := mv) (h := ?_)
    refine WL.y (hy := ix (A := x0.1) (m := n) (hb := by omega)) (h := ?_)
    refine WL.y (hy := (by first | exact fa | exact faE)) (h := ?_)
    refine WL.y (hy := ldE (A := x0.1) (hk := hse)) (h := ?_)
    refine WL.y (hy := mv) (h := ?_)
    refine WL.y (hy := subI) (h := ?_)
    refine WL.y (hy := ix (A := x0.1) (m := n) (hb := by omega)) (h := ?_)
    refine WL.y (hy := (by first | exact fa | exact faE)) (h := ?_)
    refine stE (A := x0.1) (k := z.k) (hk := hse) (h := ?_)
    refine nl (h := ?_)
    refine q_seq (h := ?_)
    refine rg (h := ?_)
    refine WL.y (hy := (by first | exact fa | exact faE)) (h := ?_)
    refine WL.y (hy := (by first | exact ld | exact ldE)) (h := ?_)
    refine WL.y (hy := mv) (h := ?_)
    refine WL.y (hy := ix (A := x0.1) (m := n) (hb := by omega)) (h := ?_)
    refine WL.y (hy := (by first | exact fa | exact faE)) (h := ?_)
    refine WL.y (hy := ldE (A := x0.1) (hk := hse2)) (h := ?_)
    refine WL.y (hy := mv) (h := ?_)
    refine WL.y (hy := addI) (h := ?_)
    refine WL.y (hy := ix (A := x0.1) (m := n) (hb := by omega)) (h := ?_)
    refine WL.y (hy := (by first | exact fa | exact faE)) (h := ?_)
    refine stE (A := x0.1) (k := z.k) (hk := hse2) (h := ?_)
    refine nl (h := ?_)
    refine q_blk_norm (h := ?_)
    refine q_seq (h := ?_)
    refine rg (h := ?_)
    refine WL.y (hy := mv) (h := ?_)
    refine WL.y (hy := addI) (h := ?_)
    refine WL.y (hy := asg) (h := ?_)
    refine nl (h := ?_)
    refine rn (x := z) ⟨z.k + 1, z.ss.set z.k (wid1 d s)⟩ ⟨by dsimp only; omega, WS.next hz hs⟩ (by dsimp only; omega) (by repeat (first | exact trivial | refine ⟨rfl, ?_⟩)) (by dsimp only; rw [← WS.enc]; exact (by repeat (first | exact SubL.nil | (apply SubL.cons; (repeat (first | exact At.here | apply At.there))))))
  · skip
    have hkn : z.k = n := by simp only [decide_eq_false_iff_not] at h0; omega
    have hfin := WS.fin hz (by omega)
    refine et (h := ?_)
    refine q_then_exit (h := ?_)
    refine q_then_exit (h := ?_)
    refine q_blk_hit (h := ?_)
    refine q_seq (h := ?_)
    refine sq (h := ?_)
    refine rg (h := ?_)
    refine WL.y (hy := (by first | exact ldA | exact ldEA)) (h := ?_)
    first | refine stA (h := ?_) | refine stEA (h := ?_)
    refine nl (h := ?_)
    refine q_seq (h := ?_)
    refine rtn (h := ?_)
    refine q_ret (hR := ?_)
    exact fun w hS => ⟨(x0.1, x0.2), trivial, rfl, by rw [hfin] at hS; exact hS.sub (by repeat (first | exact SubL.nil | (apply SubL.cons; (repeat (first | exact At.here | apply At.there)))))⟩
end Go.Proofs.Ytdphljhhcaoleaa
