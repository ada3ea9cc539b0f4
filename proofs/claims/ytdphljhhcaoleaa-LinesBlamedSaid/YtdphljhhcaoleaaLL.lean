/- Walk of the reference's Blame. -/
import Derived.Test.YtdphljhhcaoleaaLK
import Derived.Test.YtdphljhhcaoleaaLC
namespace Go.Proofs.Ytdphljhhcaoleaa
open Go Go.RowKit

theorem blameL_bad {v : View} (h : vbad v = true) : blameL v = [] ∧ knownE v = 20 := by
  have e : knownE v = 20 := by simp [knownE, h]
  exact ⟨by simp [blameL, e], e⟩
theorem blameL_none {v : View} (h : vbad v = false) (h0 : (trus v).length = 0) : blameL v = [] ∧ knownE v = 3 := by
  have e : knownE v = 3 := by simp [knownE, h, none0, h0]
  exact ⟨by simp [blameL, e], e⟩
theorem blameL_some {v : View} (h : vbad v = false) (h0 : ¬ (trus v).length = 0) : blameL v = rbTo v v.strips.length ∧ knownE v = 0 := by
  have e : knownE v = 0 := by
    have : none0 v = false := by simp [none0]; intro e; exact h0 (by simp [e])
    simp [knownE, h, this]
  exact ⟨by simp [blameL, e, blame, rbTo], e⟩

theorem C_ref_Blame (v : View) (A : Option Addr) (n c : Nat) (w : World) (h : Rd w A 4 n v.enc) (hn : n ≤ 9223372036854775807) :
    CR Try.prog 45 [v.val A n c] w (fun _ : Option Addr × Nat => True) (fun p => .tuple #[.slice p.1 (blameL v).length p.2, .int .i64 (knownE v)]) (fun p => [.own p.1 p.2 3 1 (blameL v).length (encI (blameL v))]) := by
  have hlen : v.strips.length = n := by have := h.len; simpa using this
  refine ⟨en Try.func45 Try.ntmps45 ((St.init w).share (e := .ro A 4 n v.enc) h rfl rfl rfl) (h := fun F => ?_)⟩
  refine sq (h := ?_)
  refine rg (h := ?_)
  refine bxA (h := fun b0 => ?_)
  refine WL.y (hy := asg) (h := ?_)
  refine WL.y (hy := asg) (h := ?_)
  refine WL.nilOwn 3 1 (h := ?_)
  refine nl (h := ?_)
  refine q_seq (h := ?_)
  refine sq (h := ?_)
  refine sq (h := ?_)
  refine rg (h := ?_)
  refine WL.y (hy := (by first | exact ldA | exact ldEA)) (h := ?_)
  refine cl0 (hc := fun w hS => C_ref_Check _ _ _ _ w (hS.get (by repeat (first | exact Rds.ro | exact Rds.own | apply Rds.there))) (by omega)) (h := ?_)
  refine WL.y (hy := neq) (h := ?_)
  refine nl (h := ?_)
  refine q_seq (h := ?_)
  refine cd (by exact rfl) (fun h0 => ?_) (fun h0 => ?_)
  · skip
    obtain ⟨hbl, hke⟩ := blameL_bad (chkV_bad h0)
    refine sq (h := ?_)
    refine rg (h := ?_)
    refine WL.y (hy := asg) (h := ?_)
    refine WL.y (hy := asg) (h := ?_)
    refine nl (h := ?_)
    refine q_seq (h := ?_)
    refine rtn (h := ?_)
    refine q_then_ret (h := ?_)
    refine q_ret (hR := ?_)
    exact fun w hS => ⟨(none, 0), trivial, by rw [hbl, hke]; rfl, by rw [hbl]; exact hS.sub (by repeat (first | exact SubL.nil | (apply SubL.cons; (repeat (first | exact At.here | apply At.there)))))⟩
  · skip
    have hvb := chkV_ok h0
    have hvn := vbad_near hvb
    have hv8 := hvn.len
    have hmm := mm_le hvn
    have htl : (trus v).length ≤ v.m * v.m := truTo_len ..
    refine skp (h := ?_)
    refine q_seq (h := ?_)
    refine sq (h := ?_)
    refine rg (h := ?_)
    refine WL.y (hy := (by first | exact ldA | exact ldEA)) (h := ?_)
    refine cl (hc := fun w hS => C_ref_centres _ _ _ _ w (hS.get (by repeat (first | exact Rds.ro | exact Rds.own | apply Rds.there))) ‹_›) (h := fun x1 _ => ?_)
    refine WL.y (hy := asg) (h := ?_)
    refine nl (h := ?_)
    refine q_seq (h := ?_)
    refine sq (h := ?_)
    refine sq (h := ?_)
    refine rg (h := ?_)
    refine WL.y (hy := mv) (h := ?_)
    refine WL.y (hy := lenS) (h := ?_)
    refine WL.y (hy := eql) (h := ?_)
    refine nl (h := ?_)
    refine q_seq (h := ?_)
    refine cd (by exact rfl) (fun h1 => ?_) (fun h1 => ?_)
    · skip
      have hz : (trus v).length = 0 := by simp only [decide_eq_true_eq] at h1; omega
      obtain ⟨hbl, hke⟩ := blameL_none hvb hz
      refine sq (h := ?_)
      refine rg (h := ?_)
      refine WL.y (hy := asg) (h := ?_)
      refine WL.y (hy := asg) (h := ?_)
      refine nl (h := ?_)
      refine q_seq (h := ?_)
      refine rtn (h := ?_)
      refine q_then_ret (h := ?_)
      refine q_ret (hR := ?_)
      exact fun w hS => ⟨(none, 0), trivial, by rw [hbl, hke]; rfl, by rw [hbl]; exact hS.sub (by repeat (first | exact SubL.nil | (apply SubL.cons; (repeat (first | exact At.here | apply At.there)))))⟩
    · skip
      have hz : ¬ (trus v).length = 0 := by simp only [decide_eq_false_iff_not] at h1; omega
      obtain ⟨hbl, hke⟩ := blameL_some hvb hz
      refine skp (h := ?_)
      refine q_seq (h := ?_)
      refine sq (h := ?_)
      refine rg (h := ?_)
      refine WL.y (hy := asg) (h := ?_)
      refine nl (h := ?_)
      refine q_seq (h := ?_)
      refine sq (h := ?_)
      refine sq (h := ?_)
      refine WC.nilOwn 3 1 (h := ?_)
      refine rg (h := ?_)
      refine WL.y (hy := asg) (h := ?_)
      refine nl (h := ?_)
      refine q_seq (h := ?_)
      refine bk (h := ?_)
      refine lp (X := BS) (I := fun z => z.k ≤ n) (le := fun z => [(1, .pointer (some ⟨b0, 0, none⟩)), (4, .slice x1.1 (trus v).length x1.2), (5, .slice z.A (rbTo v z.k).length z.c), (6, .int .i64 z.k)]) (Le := fun z => [.own z.A z.c 3 1 (rbTo v z.k).length (encI (rbTo v z.k)), .own x1.1 x1.2 45 4 (trus v).length (encC (trus v)), .ro A 4 n v.enc, .blk b0 26 (v.cells A n c)]) (μ := fun z => n - z.k) ⟨0, none, 0⟩ (Nat.zero_le _) (by repeat (first | exact trivial | refine ⟨rfl, ?_⟩)) (by repeat (first | exact SubL.nil | (apply SubL.cons; (repeat (first | exact At.here | apply At.there))))) (fun z hzk => ?_)
      have hrl := rbTo_len v z.k
      refine sq (h := ?_)
      refine sq (h := ?_)
      refine rg (h := ?_)
      refine WL.y (hy := mv) (h := ?_)
      refine WL.y (hy := (by first | exact fa | exact faE)) (h := ?_)
      refine WL.y (hy := (by first | exact ld | exact ldE)) (h := ?_)
      refine WL.y (hy := lenS) (h := ?_)
      refine WL.y (hy := lss) (h := ?_)
      refine nl (h := ?_)
      refine q_seq (h := ?_)
      refine cd (by exact rfl) (fun h2 => ?_) (fun h2 => ?_)
      · skip
        have hkn : z.k < n := by simp only [decide_eq_true_eq] at h2; omega
        refine skp (h := ?_)
        refine q_seq (h := ?_)
        refine sq (h := ?_)
        refine bk (h := ?_)
        refine sq (h := ?_)
        refine rg (h := ?_)
        refine WL.y (hy := asg) (h := ?_)
        refine nl (h := ?_)
        refine q_seq (h := ?_)
        refine sq (h := ?_)
        refine sq (h := ?_)
        refine rg (h := ?_)
        refine WL.y (hy := asg) (h := ?_)
        refine nl (h := ?_)
        refine q_seq (h := ?_)
        refine bk (h := ?_)
        refine lp (X := Nat) (I := fun u => u ≤ (trus v).length) (le := fun u => [(1, .pointer (some ⟨b0, 0, none⟩)), (4, .slice x1.1 (trus v).length x1.2), (5, .slice z.A (rbTo v z.k).length z.c), (6, .int .i64 z.k), (7, .bool (alwTo v z.k u)), (8, .int .i64 u)]) (Le := fun u => [.own z.A z.c 3 1 (rbTo v z.k).length (encI (rbTo v z.k)), .own x1.1 x1.2 45 4 (trus v).length (encC (trus v)), .ro A 4 n v.enc, .blk b0 26 (v.cells A n c)]) (μ := fun u => (trus v).length - u) 0 (Nat.zero_le _) (by repeat (first | exact trivial | refine ⟨rfl, ?_⟩)) (by repeat (first | exact SubL.nil | (apply SubL.cons; (repeat (first | exact At.here | apply At.there))))) (fun u huk => ?_)
        refine sq (h := ?_)
        refine sq (h := ?_)
        refine rg (h := ?_)
        refine WL.y (hy := mv) (h := ?_)
        refine WL.y (hy := mv) (h := ?_)
        refine WL.y (hy := lenS) (h := ?_)
        refine WL.y (hy := lss) (h := ?_)
        refine nl (h := ?_)
        refine q_seq (h := ?_)
        refine cd (by exact rfl) (fun h3 => ?_) (fun h3 => ?_)
        · skip
          have hul : u < (trus v).length := by simp only [decide_eq_true_eq] at h3; omega
          obtain ⟨p, hp⟩ : ∃ p, (trus v)[u]? = some p := ⟨_, List.getElem?_eq_getElem hul⟩
          have hpe : (encC (trus v))[u]? = some [.int .i64 p.1, .int .i64 p.2, .int .i64 0, .int .i64 0] := by simp [encC, hp]
          have hpr2 := trus_rng hvn (List.mem_of_getElem? hp)
          have hwl := wrongs_len' v p.1 p.2
          have hns := alwTo_succ (i := (z.k : Int)) hp
          refine skp (h := ?_)
          refine q_seq (h := ?_)
          refine sq (h := ?_)
          refine bk (h := ?_)
          refine rgD0 (by kernel_rfl) (h := ?_)
          refine tk 0 (hy := mv) (h := ?_)
          refine tk 1 (hy := mv) (h := ?_)
          refine brH (g := 31) (by exact rfl) (fun hb4 => ?_) (fun hb4 => ?_)
          · skip
            refine tk 2 (hy := (by first | exact ldA | exact ldEA)) (h := ?_)
            refine tk 3 (hy := mv) (h := ?_)
            refine tk 4 (hy := mv) (h := ?_)
            refine tk 5 (hy := ix) (h := ?_)
            refine tk 6 (hy := (by first | exact fa | exact faE)) (h := ?_)
            refine tk 7 (hy := ldE (A := x1.1) (hk := hpe)) (h := ?_)
            refine tk 8 (hy := mv) (h := ?_)
            refine tk 9 (hy := mv) (h := ?_)
            refine tk 10 (hy := ix) (h := ?_)
            refine tk 11 (hy := (by first | exact fa | exact faE)) (h := ?_)
            refine tk 12 (hy := ldE (A := x1.1) (hk := hpe)) (h := ?_)
            refine tk 14 (hy := mv) (h := ?_)
            refine one 13 (h := ?_)
            refine un (h := ?_)
            refine cl (hc := fun w hS => C_ref_wrong _ _ _ _ _ _ w (hS.get (by repeat (first | exact Rds.ro | exact Rds.own | apply Rds.there))) ‹_› (by omega) (by omega)) (h := fun x2 _ => ?_)
            refine nx (h := ?_)
            refine one 15 (h := ?_)
            refine un (h := ?_)
            refine cl0 (hc := fun w hS => C_ref_in _ _ _ _ _ w (hS.get (by repeat (first | exact Rds.ro | exact Rds.own | apply Rds.there))) (by omega)) (h := ?_)
            refine nx (h := ?_)
            refine tk 16 (hy := (by first | exact pkT | exact pkF)) (h := ?_)
            refine tk 17 (hy := asg) (h := ?_)
            refine dn (h := ?_)
            refine q_blk_norm (h := ?_)
            refine q_seq (h := ?_)
            refine rg (h := ?_)
            refine WL.y (hy := mv) (h := ?_)
            refine WL.y (hy := addI) (h := ?_)
            refine WL.y (hy := asg) (h := ?_)
            refine nl (h := ?_)
            refine rn (x := u) (u + 1) (by omega) (by omega) (by repeat (first | exact trivial | refine ⟨rfl, ?_⟩ | refine ⟨by rw [hns, ‹alwTo v (z.k : Int) u = true›]; rfl, ?_⟩ | refine ⟨by rw [hns, ‹alwTo v (z.k : Int) u = false›]; rfl, ?_⟩)) (by repeat (first | exact SubL.nil | (apply SubL.cons; (repeat (first | exact At.here | apply At.there)))))
          · skip
            refine tkS 2 (h := ?_)
            refine tkS 3 (h := ?_)
            refine tkS 4 (h := ?_)
            refine tkS 5 (h := ?_)
            refine tkS 6 (h := ?_)
            refine tkS 7 (h := ?_)
            refine tkS 8 (h := ?_)
            refine tkS 9 (h := ?_)
            refine tkS 10 (h := ?_)
            refine tkS 11 (h := ?_)
            refine tkS 12 (h := ?_)
            refine tkS 14 (h := ?_)
            refine tkS 13 (h := ?_)
            refine tkS 15 (h := ?_)
            refine tk 16 (hy := (by first | exact pkT | exact pkF)) (h := ?_)
            refine tk 17 (hy := asg) (h := ?_)
            refine dn (h := ?_)
            refine q_blk_norm (h := ?_)
            refine q_seq (h := ?_)
            refine rg (h := ?_)
            refine WL.y (hy := mv) (h := ?_)
            refine WL.y (hy := addI) (h := ?_)
            refine WL.y (hy := asg) (h := ?_)
            refine nl (h := ?_)
            refine rn (x := u) (u + 1) (by omega) (by omega) (by repeat (first | exact trivial | refine ⟨rfl, ?_⟩ | refine ⟨by rw [hns, ‹alwTo v (z.k : Int) u = true›]; rfl, ?_⟩ | refine ⟨by rw [hns, ‹alwTo v (z.k : Int) u = false›]; rfl, ?_⟩)) (by repeat (first | exact SubL.nil | (apply SubL.cons; (repeat (first | exact At.here | apply At.there)))))
        · skip
          have hul : u = (trus v).length := by simp only [decide_eq_false_iff_not] at h3; omega
          have hae := alwTo_end (i := (z.k : Int)) hul
          refine et (h := ?_)
          refine q_then_exit (h := ?_)
          refine q_then_exit (h := ?_)
          refine q_blk_hit (h := ?_)
          refine q_seq (h := ?_)
          refine sq (h := ?_)
          refine rg (h := ?_)
          refine WL.y (hy := mv) (h := ?_)
          refine nl (h := ?_)
          refine q_seq (h := ?_)
          refine cd (by exact rfl) (fun h5 => ?_) (fun h5 => ?_)
          · skip
            have ha : allW v (trus v) (z.k : Int) = true := by rw [← hae]; exact h5
            have hrs : rbTo v (z.k + 1) = rbTo v z.k ++ [(z.k : Int)] := by rw [rbTo_succ, ha]; rfl
            refine rg (h := ?_)
            refine WL.y (hy := mv) (h := ?_)
            refine WL.y (hy := mv) (h := ?_)
            refine bs (h := fun b1 => ?_)
            first | refine ap (h := fun A1 c1 => ?_) | refine ap0 (h := fun A1 c1 => ?_)
            refine WL.y (hy := asg) (h := ?_)
            refine nl (h := ?_)
            refine q_blk_norm (h := ?_)
            refine q_seq (h := ?_)
            refine rg (h := ?_)
            refine WL.y (hy := mv) (h := ?_)
            refine WL.y (hy := addI) (h := ?_)
            refine WL.y (hy := asg) (h := ?_)
            refine nl (h := ?_)
            first
              | refine rn (x := z) ⟨z.k + 1, _, _⟩ (by dsimp only; omega) (by dsimp only; omega) (by dsimp only; rw [hrs, List.length_append]; repeat (first | exact trivial | refine ⟨rfl, ?_⟩)) (by dsimp only; rw [hrs, List.length_append, ← encI_app]; repeat (first | exact SubL.nil | (apply SubL.cons; (repeat (first | exact At.here | apply At.there)))))
              | refine rn (x := z) ⟨z.k + 1, z.A, z.c⟩ (by dsimp only; omega) (by dsimp only; omega) (by dsimp only; rw [hrs]; repeat (first | exact trivial | refine ⟨rfl, ?_⟩)) (by dsimp only; rw [hrs]; repeat (first | exact SubL.nil | (apply SubL.cons; (repeat (first | exact At.here | apply At.there)))))
          · skip
            have ha : allW v (trus v) (z.k : Int) = false := by rw [← hae]; exact h5
            have hrs : rbTo v (z.k + 1) = rbTo v z.k := by rw [rbTo_succ, ha]; rfl
            refine skp (h := ?_)
            refine q_blk_norm (h := ?_)
            refine q_seq (h := ?_)
            refine rg (h := ?_)
            refine WL.y (hy := mv) (h := ?_)
            refine WL.y (hy := addI) (h := ?_)
            refine WL.y (hy := asg) (h := ?_)
            refine nl (h := ?_)
            first
              | refine rn (x := z) ⟨z.k + 1, _, _⟩ (by dsimp only; omega) (by dsimp only; omega) (by dsimp only; rw [hrs, List.length_append]; repeat (first | exact trivial | refine ⟨rfl, ?_⟩)) (by dsimp only; rw [hrs, List.length_append, ← encI_app]; repeat (first | exact SubL.nil | (apply SubL.cons; (repeat (first | exact At.here | apply At.there)))))
              | refine rn (x := z) ⟨z.k + 1, z.A, z.c⟩ (by dsimp only; omega) (by dsimp only; omega) (by dsimp only; rw [hrs]; repeat (first | exact trivial | refine ⟨rfl, ?_⟩)) (by dsimp only; rw [hrs]; repeat (first | exact SubL.nil | (apply SubL.cons; (repeat (first | exact At.here | apply At.there)))))
      · skip
        have hkn : z.k = n := by simp only [decide_eq_false_iff_not] at h2; omega
        refine et (h := ?_)
        refine q_then_exit (h := ?_)
        refine q_then_exit (h := ?_)
        refine q_blk_hit (h := ?_)
        refine q_seq (h := ?_)
        refine sq (h := ?_)
        refine rg (h := ?_)
        refine WL.y (hy := mv) (h := ?_)
        refine WL.y (hy := asg) (h := ?_)
        refine WL.y (hy := asg) (h := ?_)
        refine nl (h := ?_)
        refine q_seq (h := ?_)
        refine rtn (h := ?_)
        refine q_ret (hR := ?_)
        exact fun w hS => ⟨(z.A, z.c), trivial, by rw [hbl, hke, hlen, ← hkn]; rfl, by rw [hbl, hlen, ← hkn]; exact hS.sub (by repeat (first | exact SubL.nil | (apply SubL.cons; (repeat (first | exact At.here | apply At.there)))))⟩
end Go.Proofs.Ytdphljhhcaoleaa
