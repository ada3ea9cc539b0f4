/- The law LinesRuns, walked. -/
import Derived.Test.YtdphljhhcaoleaaLV
import Derived.Test.YtdphljhhcaoleaaK5
namespace Go.Proofs.Ytdphljhhcaoleaa
open Go Go.RowKit

set_option maxRecDepth 100000 in
set_option maxHeartbeats 2000000 in
theorem K_LinesRuns (each more : Int) (aps : List Appeal) (A : Option Addr) (n c : Nat) (w : World) (h : Rd w A 14 n (aps.map Appeal.enc)) (hs : ∀ a ∈ aps, a.ok w) (hn : n ≤ 9223372036854775807) : C0 Try.prog 9 [.agg #[.int .i64 each, .int .i64 more], .slice A n c] w (.bool true) := by
  have hlen : aps.length = n := by have := h.len; simpa using this
  refine ⟨en Try.func9 Try.ntmps9 ((St.init w).share (e := .ro A 14 n (aps.map Appeal.enc)) h rfl rfl rfl) (h := fun F => ?_)⟩
  refine sq (h := ?_)
  refine rg (h := ?_)
  refine bxA (h := fun b0 => ?_)
  refine WL.y (hy := asg) (h := ?_)
  refine nl (h := ?_)
  refine q_seq (h := ?_)
  refine sq (h := ?_)
  refine sq (h := ?_)
  refine rg (h := ?_)
  refine WL.y (hy := mv) (h := ?_)
  refine WL.y (hy := lenS) (h := ?_)
  refine WL.y (hy := gtr) (h := ?_)
  refine nl (h := ?_)
  refine q_seq (h := ?_)
  refine cd (by exact rfl) (fun h0 => ?_) (fun h0 => ?_)
  · skip
    refine sq (h := ?_)
    refine rg (h := ?_)
    refine cl0 (hc := fun w hS => C_deucelaw02_works w) (h := ?_)
    refine WL.y (hy := asg) (h := ?_)
    refine nl (h := ?_)
    refine q_seq (h := ?_)
    refine rtn (h := ?_)
    refine q_then_ret (h := ?_)
    refine q_ret (hR := ?_)
    first
      | exact fun w hS => ⟨rfl, hS.sub (by repeat (first | exact SubL.nil | (apply SubL.cons; (repeat (first | exact At.here | apply At.there)))))⟩
      | exact fun w hS => ⟨by simp [resV], hS.sub (by repeat (first | exact SubL.nil | (apply SubL.cons; (repeat (first | exact At.here | apply At.there)))))⟩
  · skip
    have hn40 : n ≤ 40 := by simp only [decide_eq_false_iff_not] at h0; omega
    refine skp (h := ?_)
    refine q_seq (h := ?_)
    refine sq (h := ?_)
    refine rg (h := ?_)
    refine WL.y (hy := asg) (h := ?_)
    refine nl (h := ?_)
    refine q_seq (h := ?_)
    refine sq (h := ?_)
    refine sq (h := ?_)
    refine WC.nilOwn 68 14 (h := ?_)
    refine WC.many0 ?_
    refine rg (h := ?_)
    refine WL.y (hy := asg) (h := ?_)
    refine nl (h := ?_)
    refine q_seq (h := ?_)
    refine bk (h := ?_)
    refine lp (X := CZ) (I := fun z => z.k ≤ n ∧ z.bs.length = z.k ∧ z.bs.map Appeal.core = (aps.take z.k).map Appeal.core ∧ ∀ a ∈ z.bs, a.n ≤ 40) (le := fun z => [(1, .slice A n c), (2, .pointer (some ⟨b0, 0, none⟩)), (5, .slice z.A z.bs.length z.c), (6, .int .i64 z.k)]) (Le := fun z => [.own z.A z.c 68 14 z.bs.length (z.bs.map Appeal.enc), manyE true (z.bs.map Appeal.row), .blk b0 64 [.int .i64 each, .int .i64 more], .ro A 14 n (aps.map Appeal.enc)]) (μ := fun z => n - z.k) ⟨0, [], none, 0⟩ ⟨Nat.zero_le _, rfl, rfl, fun a ha => by cases ha⟩ (by repeat (first | exact trivial | refine ⟨rfl, ?_⟩)) (by repeat (first | exact SubL.nil | (apply SubL.cons; (repeat (first | exact At.here | apply At.there))))) (fun z hz => ?_)
    obtain ⟨hzk, hzl, hzc, hzn⟩ := hz
    refine sq (h := ?_)
    refine sq (h := ?_)
    refine rg (h := ?_)
    refine WL.y (hy := mv) (h := ?_)
    refine WL.y (hy := mv) (h := ?_)
    refine WL.y (hy := lenS) (h := ?_)
    refine WL.y (hy := lss) (h := ?_)
    refine nl (h := ?_)
    refine q_seq (h := ?_)
    refine cd (by exact rfl) (fun h1 => ?_) (fun h1 => ?_)
    · skip
      have hkn : z.k < n := by simp only [decide_eq_true_eq] at h1; omega
      obtain ⟨a, ha⟩ : ∃ a, aps[z.k]? = some a := ⟨_, List.getElem?_eq_getElem (by omega)⟩
      have hae : (aps.map Appeal.enc)[z.k]? = some a.enc := by rw [List.getElem?_map, ha]; rfl
      refine skp (h := ?_)
      refine q_seq (h := ?_)
      refine sq (h := ?_)
      refine bk (h := ?_)
      refine sq (h := ?_)
      refine sq (h := ?_)
      refine WC.old (hs a (List.mem_of_getElem? ha)).1 ?_
      have han := (hs a (List.mem_of_getElem? ha)).2
      refine rg (h := ?_)
      refine WL.y (hy := mv) (h := ?_)
      refine WL.y (hy := mv) (h := ?_)
      refine WL.y (hy := ix (A := A) (m := n) (hb := by omega)) (h := ?_)
      refine WL.y (hy := (by first | exact fa | exact faE)) (h := ?_)
      refine WL.y (hy := ldEA (A := A) (k := z.k) (hk := hae)) (h := ?_)
      refine cl0 (hc := fun w hS => C_deucelaw02_Far a.v a.A a.n a.c w (hS.get (by repeat (first | exact Rds.ro | exact Rds.own | apply Rds.there))) han) (h := ?_)
      refine nl (h := ?_)
      refine q_seq (h := ?_)
      refine cd (by exact rfl) (fun h2 => ?_) (fun h2 => ?_)
      · skip
        refine sq (h := ?_)
        refine rg (h := ?_)
        refine cl0 (hc := fun w hS => C_deucelaw02_works w) (h := ?_)
        refine WL.y (hy := asg) (h := ?_)
        refine nl (h := ?_)
        refine q_seq (h := ?_)
        refine rtn (h := ?_)
        refine q_then_ret (h := ?_)
        refine q_blk_ret (h := ?_)
        refine q_then_ret (h := ?_)
        refine q_then_ret (h := ?_)
        refine q_blk_ret (h := ?_)
        refine q_then_ret (h := ?_)
        refine q_ret (hR := ?_)
        first
          | exact fun w hS => ⟨rfl, hS.sub (by repeat (first | exact SubL.nil | (apply SubL.cons; (repeat (first | exact At.here | apply At.there)))))⟩
          | exact fun w hS => ⟨by simp [resV], hS.sub (by repeat (first | exact SubL.nil | (apply SubL.cons; (repeat (first | exact At.here | apply At.there)))))⟩
      · skip
        have han40 := far_of h2
        refine skp (h := ?_)
        refine q_seq (h := ?_)
        refine sq (h := ?_)
        refine rg (h := ?_)
        refine WL.y (hy := mv) (h := ?_)
        refine WL.y (hy := mv) (h := ?_)
        refine WL.y (hy := ix (A := A) (m := n) (hb := by omega)) (h := ?_)
        refine WL.y (hy := ldEW (A := A) (k := z.k) (cs := a.enc) (hk := hae)) (h := ?_)
        refine al (h := fun b1 => ?_)
        first | refine stA (h := ?_) | refine stEA (h := ?_)
        refine nl (h := ?_)
        refine q_seq (h := ?_)
        refine sq (h := ?_)
        refine rg (h := ?_)
        refine WL.y (hy := (by first | exact fa | exact faE)) (h := ?_)
        refine WL.y (hy := (by first | exact ldA | exact ldEA)) (h := ?_)
        refine cl (hc := fun w hS => C_ref_Copy a.v a.A a.n a.c w (hS.get (by repeat (first | exact Rds.ro | exact Rds.own | apply Rds.there))) (by omega)) (h := fun x3 _ => ?_)
        refine WL.y (hy := (by first | exact fa | exact faE)) (h := ?_)
        first | refine stA (h := ?_) | refine stEA (h := ?_)
        refine nl (h := ?_)
        refine q_seq (h := ?_)
        refine rg (h := ?_)
        refine WL.y (hy := mv) (h := ?_)
        refine WL.y (hy := (by first | exact ldA | exact ldEA)) (h := ?_)
        refine bs (h := fun b2 => ?_)
        first | refine ap (h := fun A1 c1 => ?_) | refine ap0 (h := fun A1 c1 => ?_)
        refine WL.y (hy := asg) (h := ?_)
        refine nl (h := ?_)
        refine q_blk_norm (h := ?_)
        refine q_seq (h := ?_)
        refine WC.manyAdd (A := x3.1) (by repeat (first | exact At.here | apply At.there)) (by repeat (first | exact At.here | apply At.there)) ?_
        refine rg (h := ?_)
        refine WL.y (hy := mv) (h := ?_)
        refine WL.y (hy := addI) (h := ?_)
        refine WL.y (hy := asg) (h := ?_)
        refine nl (h := ?_)
        refine rn (x := z) ⟨z.k + 1, z.bs ++ [⟨a.kind, a.side, a.said, a.v, x3.1, a.n, x3.2, a.b⟩], _, _⟩ ⟨by dsimp only; omega, by dsimp only; rw [List.length_append, hzl]; rfl, by dsimp only; rw [List.take_add_one, ha, List.map_append, List.map_append, hzc]; rfl, fun x hx => by
          rcases List.mem_append.1 hx with hx | hx
          · exact hzn x hx
          · simp only [List.mem_singleton] at hx; subst hx; exact han40⟩ (by dsimp only; omega) (by dsimp only; rw [List.length_append]; repeat (first | exact trivial | refine ⟨rfl, ?_⟩)) (by dsimp only; rw [List.length_append, List.map_append, List.map_append]; repeat (first | exact SubL.nil | (apply SubL.cons; (repeat (first | exact At.here | apply At.there)))))
    · skip
      have hkn : z.k = n := by simp only [decide_eq_false_iff_not] at h1; omega
      have hbr := runV_core (each := each) (more := more) (aps := aps) (bs := z.bs) (by rw [hzc, List.take_of_length_le (by omega)])
      have hrl := runD_len (each := each) (more := more) (aps := aps)
      refine et (h := ?_)
      refine q_then_exit (h := ?_)
      refine q_then_exit (h := ?_)
      refine q_blk_hit (h := ?_)
      refine q_seq (h := ?_)
      refine sq (h := ?_)
      refine rg (h := ?_)
      refine WL.y (hy := (by first | exact ldA | exact ldEA)) (h := ?_)
      refine WL.y (hy := mv) (h := ?_)
      refine cl (hc := fun w hS => C_lines_Run each more z.bs z.A z.bs.length z.c w (hS.get (by repeat (first | exact Rds.ro | exact Rds.own | apply Rds.there))) (fun a ha => ⟨hS.many (rs := z.bs.map Appeal.row) (by repeat (first | exact At.here | apply At.there)) (List.mem_map.2 ⟨a, ha, rfl⟩), by have := hzn a ha; omega⟩) (by omega)) (h := fun xa _ => ?_)
      rw [hbr]
      refine WL.y (hy := mv) (h := ?_)
      refine WL.y (hy := ex) (h := ?_)
      refine WL.y (hy := ex) (h := ?_)
      refine WL.y (hy := ex) (h := ?_)
      refine al (h := fun b3 => ?_)
      refine WL.y (hy := asg) (h := ?_)
      first | refine stA (h := ?_) | refine stEA (h := ?_)
      refine WL.y (hy := asg) (h := ?_)
      refine nl (h := ?_)
      refine q_seq (h := ?_)
      refine sq (h := ?_)
      refine rg (h := ?_)
      refine WL.y (hy := (by first | exact ldA | exact ldEA)) (h := ?_)
      refine WL.y (hy := mv) (h := ?_)
      refine cl (hc := fun w hS => C_ref_Run each more aps A n c w (hS.get (by repeat (first | exact Rds.ro | exact Rds.own | apply Rds.there))) (fun a ha => ⟨(hS.old (hs a ha).1).ok _ List.mem_cons_self, (hs a ha).2⟩) hn) (h := fun xb _ => ?_)
      refine WL.y (hy := mv) (h := ?_)
      refine WL.y (hy := ex) (h := ?_)
      refine WL.y (hy := ex) (h := ?_)
      refine WL.y (hy := ex) (h := ?_)
      refine al (h := fun b4 => ?_)
      refine WL.y (hy := asg) (h := ?_)
      first | refine stA (h := ?_) | refine stEA (h := ?_)
      refine WL.y (hy := asg) (h := ?_)
      refine nl (h := ?_)
      refine q_seq (h := ?_)
      refine sq (h := ?_)
      refine rg (h := ?_)
      refine WL.y (hy := mv) (h := ?_)
      refine WL.y (hy := mv) (h := ?_)
      refine cl0 (hc := fun w hS => C_deucelaw02_sameInts _ _ _ _ _ _ _ _ w (hS.get (by repeat (first | exact Rds.ro | exact Rds.own | apply Rds.there))) (hS.get (by repeat (first | exact Rds.ro | exact Rds.own | apply Rds.there))) (by omega)) (h := ?_)
      refine WL.y (hy := mv) (h := ?_)
      apply brAnd 4 60 64 (by exact rfl)
      · intro hb3
        refine un (h := ?_)
        refine WL.y (hy := (by first | exact ldA | exact ldEA)) (h := ?_)
        refine un (h := ?_)
        refine WL.y (hy := (by first | exact ldA | exact ldEA)) (h := ?_)
        refine un (h := ?_)
        refine WL.y (hy := eqlA) (h := ?_)
        refine WL.y (hy := (by first | exact pkT | exact pkF)) (h := ?_)
        exact mg (by repeat (first | exact trivial | refine ⟨rfl, ?_⟩ | refine ⟨by rw [hb3]; rfl, ?_⟩)) (by repeat (first | exact SubL.nil | (apply SubL.cons; (repeat (first | exact At.here | apply At.there)))))
      · intro hb3
        repeat (first | refine un (h := ?_) | refine sk (h := ?_) | refine WL.y (hy := pkF) (h := ?_) | refine WL.y (hy := pkT) (h := ?_))
        exact mg (by repeat (first | exact trivial | refine ⟨rfl, ?_⟩ | refine ⟨by rw [hb3]; rfl, ?_⟩)) (by repeat (first | exact SubL.nil | (apply SubL.cons; (repeat (first | exact At.here | apply At.there)))))
      refine WL.y (hy := mv) (h := ?_)
      apply brAnd 4 65 69 (by exact rfl)
      · intro hb4
        refine un (h := ?_)
        refine WL.y (hy := mv) (h := ?_)
        refine un (h := ?_)
        refine WL.y (hy := mv) (h := ?_)
        refine un (h := ?_)
        refine WL.y (hy := eql) (h := ?_)
        refine WL.y (hy := (by first | exact pkT | exact pkF)) (h := ?_)
        exact mg (by repeat (first | exact trivial | refine ⟨rfl, ?_⟩ | refine ⟨by rw [hb4]; rfl, ?_⟩)) (by repeat (first | exact SubL.nil | (apply SubL.cons; (repeat (first | exact At.here | apply At.there)))))
      · intro hb4
        repeat (first | refine un (h := ?_) | refine sk (h := ?_) | refine WL.y (hy := pkF) (h := ?_) | refine WL.y (hy := pkT) (h := ?_))
        exact mg (by repeat (first | exact trivial | refine ⟨rfl, ?_⟩ | refine ⟨by rw [hb4]; rfl, ?_⟩)) (by repeat (first | exact SubL.nil | (apply SubL.cons; (repeat (first | exact At.here | apply At.there)))))
      refine WL.y (hy := mv) (h := ?_)
      apply brAnd 2 70 72 (by exact rfl)
      · intro hb5
        refine un (h := ?_)
        refine cl0 (hc := fun w hS => C_deucelaw02_works w) (h := ?_)
        refine WL.y (hy := (by first | exact pkT | exact pkF)) (h := ?_)
        exact mg (by repeat (first | exact trivial | refine ⟨rfl, ?_⟩ | refine ⟨by rw [hb5]; rfl, ?_⟩)) (by repeat (first | exact SubL.nil | (apply SubL.cons; (repeat (first | exact At.here | apply At.there)))))
      · intro hb5
        repeat (first | refine un (h := ?_) | refine sk (h := ?_) | refine WL.y (hy := pkF) (h := ?_) | refine WL.y (hy := pkT) (h := ?_))
        exact mg (by repeat (first | exact trivial | refine ⟨rfl, ?_⟩ | refine ⟨by rw [hb5]; rfl, ?_⟩)) (by repeat (first | exact SubL.nil | (apply SubL.cons; (repeat (first | exact At.here | apply At.there)))))
      refine WL.y (hy := asg) (h := ?_)
      refine nl (h := ?_)
      refine q_seq (h := ?_)
      refine rtn (h := ?_)
      refine q_ret (hR := ?_)
      first
        | exact fun w hS => ⟨rfl, hS.sub (by repeat (first | exact SubL.nil | (apply SubL.cons; (repeat (first | exact At.here | apply At.there)))))⟩
        | exact fun w hS => ⟨by simp [resV], hS.sub (by repeat (first | exact SubL.nil | (apply SubL.cons; (repeat (first | exact At.here | apply At.there)))))⟩
end Go.Proofs.Ytdphljhhcaoleaa
