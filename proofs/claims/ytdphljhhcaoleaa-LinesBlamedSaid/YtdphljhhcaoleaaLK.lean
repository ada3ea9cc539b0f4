/- Walks of Blame, and of the reference's. -/
import Derived.Test.YtdphljhhcaoleaaLJ
import Derived.Test.YtdphljhhcaoleaaL3
namespace Go.Proofs.Ytdphljhhcaoleaa
open Go Go.RowKit

structure BS where
  (k : Nat) (A : Option Addr) (c : Nat)

theorem C_lines_Blame (v : View) (A : Option Addr) (n c : Nat) (w : World) (h : Rd w A 4 n v.enc) (hn : n ≤ 9223372036854775807) :
    CR Try.prog 44 [v.val A n c] w (fun _ : Option Addr × Nat => True) (fun p => .tuple #[.slice p.1 (blameL v).length p.2, .int .i64 (knownE v)]) (fun p => [.own p.1 p.2 3 1 (blameL v).length (encI (blameL v))]) := by
  refine ⟨en Try.func44 Try.ntmps44 ((St.init w).share (e := .ro A 4 n v.enc) h rfl rfl rfl) (h := fun F => ?_)⟩
  refine sq (h := ?_)
  refine rg (h := ?_)
  refine bxA (h := fun b0 => ?_)
  refine WL.y (hy := asg) (h := ?_)
  refine WL.y (hy := asg) (h := ?_)
  refine WL.nilOwn 3 1 (h := ?_)
  refine nl (h := ?_)
  refine q_seq (h := ?_)
  refine sq (h := ?_)
  refine rg (h := ?_)
  refine WL.y (hy := (by first | exact ldA | exact ldEA)) (h := ?_)
  refine cl (hc := fun w hS => C_lines_known _ _ _ _ w (hS.get (by repeat (first | exact Rds.ro | exact Rds.own | apply Rds.there))) (by omega)) (h := fun x0 _ => ?_)
  refine WL.y (hy := mv) (h := ?_)
  refine WL.y (hy := ex) (h := ?_)
  refine WL.y (hy := ex) (h := ?_)
  refine WL.y (hy := asg) (h := ?_)
  refine WL.y (hy := asg) (h := ?_)
  refine nl (h := ?_)
  refine q_seq (h := ?_)
  refine sq (h := ?_)
  refine sq (h := ?_)
  refine rg (h := ?_)
  refine WL.y (hy := mv) (h := ?_)
  refine WL.y (hy := neq) (h := ?_)
  refine nl (h := ?_)
  refine q_seq (h := ?_)
  refine cd (by exact rfl) (fun h0 => ?_) (fun h0 => ?_)
  · skip
    have hke := known_err h0
    have hkn : decide (knownE v = 0) = false := by simpa using h0
    refine sq (h := ?_)
    refine rg (h := ?_)
    refine WL.y (hy := mv) (h := ?_)
    refine WL.y (hy := asg) (h := ?_)
    refine WL.y (hy := asg) (h := ?_)
    refine nl (h := ?_)
    refine q_seq (h := ?_)
    refine rtn (h := ?_)
    refine q_then_ret (h := ?_)
    refine q_ret (hR := ?_)
    exact fun w hS => ⟨(none, 0), trivial, by simp only [blameL, hkn, cond_false]; rfl, by simp only [blameL, hkn, cond_false]; exact hS.sub (by repeat (first | exact SubL.nil | (apply SubL.cons; (repeat (first | exact At.here | apply At.there)))))⟩
  · skip
    obtain ⟨hk0, hvb, hkl, p0, prest, hkp⟩ := known_ok h0
    have hvn := vbad_near hvb
    have hv8 := hvn.len
    have hmm := mm_le hvn
    have hkl2 : (knownL v).length ≤ v.m * v.m := by rw [hkl]; exact truTo_len ..
    have hkl1 : (knownL v).length = prest.length + 1 := by rw [hkp]; simp
    have hp0 : (encP (knownL v))[(0 : Int).toNat]? = some [.int .i64 p0.1, .int .i64 p0.2] := by rw [hkp]; rfl
    have hp0r := trus_rng hvn (p := p0) (by rw [← hkl, hkp]; simp)
    have hpr : ((encP (knownL v)).drop 1).take ((knownL v).length - 1) = encP prest := by rw [hkp]; simp [encP, List.take_of_length_le]
    refine skp (h := ?_)
    refine q_seq (h := ?_)
    refine sq (h := ?_)
    refine rgD0 (by kernel_rfl) (h := ?_)
    refine tk 0 (hy := (by first | exact ldA | exact ldEA)) (h := ?_)
    refine tk 1 (hy := mv) (h := ?_)
    refine tk 2 (hy := ix) (h := ?_)
    refine tk 3 (hy := (by first | exact fa | exact faE)) (h := ?_)
    refine tk 4 (hy := ldE (hk := hp0)) (h := ?_)
    refine tk 5 (hy := mv) (h := ?_)
    refine tk 6 (hy := ix) (h := ?_)
    refine tk 7 (hy := (by first | exact fa | exact faE)) (h := ?_)
    refine tk 8 (hy := ldE (hk := hp0)) (h := ?_)
    refine one 9 (h := ?_)
    refine cl (hc := fun w hS => C_lines_wrong _ _ _ _ _ _ w (hS.get (by repeat (first | exact Rds.ro | exact Rds.own | apply Rds.there))) ‹_› (by omega) (by omega)) (h := fun x1 _ => ?_)
    refine nx (h := ?_)
    refine tk 10 (hy := asg) (h := ?_)
    refine dn (h := ?_)
    refine q_seq (h := ?_)
    refine sq (h := ?_)
    refine sq (h := ?_)
    rw [blmTo_zero hkp]
    refine WC.room (A := x0.1) (by repeat (first | exact At.here | apply At.there)) (fun hroom => ?_)
    refine WC.toRo (A := x0.1) (by repeat (first | exact At.here | apply At.there)) ?_
    refine WC.part (A := x0.1) (m := (knownL v).length) (cap := x0.2) (by repeat (first | exact At.here | apply At.there)) 1 (knownL v).length (by omega) (by omega) (by omega) ?_
    rw [hpr]
    refine rg (h := ?_)
    refine WL.y (hy := mv) (h := ?_)
    refine WL.y (hy := slV (A := x0.1) (m := (knownL v).length) (cap := x0.2) (lo' := 1) (hi' := (knownL v).length) (hh := .inl ⟨rfl, rfl⟩) (hl := .inr ⟨_, _, _, rfl, rfl, by omega, by omega, by omega⟩)) (h := ?_)
    refine WL.y (hy := lenS) (h := ?_)
    refine WL.y (hy := mv) (h := ?_)
    refine nl (h := ?_)
    refine q_seq (h := ?_)
    refine bk (h := ?_)
    have hbl := fun k => blmTo_len v (knownL v) k
    refine lp (X := BS) (I := fun z => z.k ≤ prest.length) (le := fun z => [(1, .pointer (some ⟨b0, 0, none⟩)), (6, .slice z.A (blmTo v (knownL v) z.k).length z.c), (29, .slice (if x0.2 = 1 then x0.1 else x0.1.map (·.add (1 * 2))) ((knownL v).length - 1) (x0.2 - 1)), (30, .int .i64 ((knownL v).length - 1 : Nat)), (31, .int .i64 z.k)]) (Le := fun z => [.own z.A z.c 3 1 (blmTo v (knownL v) z.k).length (encI (blmTo v (knownL v) z.k)), .ro (if x0.2 = 1 then x0.1 else x0.1.map (·.add (1 * 2))) 2 ((knownL v).length - 1) (encP prest), .ro A 4 n v.enc, .blk b0 26 (v.cells A n c)]) (μ := fun z => prest.length - z.k) ⟨0, x1.1, x1.2⟩ (Nat.zero_le _) (by repeat (first | exact trivial | refine ⟨rfl, ?_⟩)) (by repeat (first | exact SubL.nil | (apply SubL.cons; (repeat (first | exact At.here | apply At.there))))) (fun z hzk => ?_)
    have hblz := hbl z.k
    refine sq (h := ?_)
    refine rg (h := ?_)
    refine WL.y (hy := lss) (h := ?_)
    refine nl (h := ?_)
    refine q_seq (h := ?_)
    refine sq (h := ?_)
    refine cd (by exact rfl) (fun h1 => ?_) (fun h1 => ?_)
    · skip
      have hlt : z.k < prest.length := by simp only [decide_eq_true_eq] at h1; omega
      obtain ⟨p, hp⟩ : ∃ p, prest[z.k]? = some p := ⟨_, List.getElem?_eq_getElem hlt⟩
      have hpe : (encP prest)[z.k]? = some [.int .i64 p.1, .int .i64 p.2] := by simp [encP, hp]
      have hpk : (knownL v)[z.k + 1]? = some p := by rw [hkp]; simpa using hp
      have hpr2 := trus_rng hvn (p := p) (by rw [← hkl]; exact List.mem_of_getElem? hpk)
      have hwl := wrongs_len' v p.1 p.2
      refine skp (h := ?_)
      refine q_seq (h := ?_)
      refine sq (h := ?_)
      refine bk (h := ?_)
      refine sq (h := ?_)
      refine rg (h := ?_)
      refine WL.y (hy := ix (hb := by omega)) (h := ?_)
      refine WL.y (hy := ldEW (k := z.k) (hk := hpe)) (h := ?_)
      refine al (h := fun b1 => ?_)
      first | refine stA (h := ?_) | refine stEA (h := ?_)
      refine nl (h := ?_)
      refine q_seq (h := ?_)
      refine sq (h := ?_)
      refine rg (h := ?_)
      refine WL.y (hy := (by first | exact ldA | exact ldEA)) (h := ?_)
      refine WL.y (hy := (by first | exact fa | exact faE)) (h := ?_)
      refine WL.y (hy := (by first | exact ld | exact ldE)) (h := ?_)
      refine WL.y (hy := (by first | exact fa | exact faE)) (h := ?_)
      refine WL.y (hy := (by first | exact ld | exact ldE)) (h := ?_)
      refine cl (hc := fun w hS => C_lines_wrong _ _ _ _ _ _ w (hS.get (by repeat (first | exact Rds.ro | exact Rds.own | apply Rds.there))) ‹_› (by omega) (by omega)) (h := fun x2 _ => ?_)
      refine al (h := fun b2 => ?_)
      first | refine st (h := ?_) | refine stE (h := ?_)
      refine nl (h := ?_)
      refine q_seq (h := ?_)
      refine rg (h := ?_)
      refine WL.y (hy := mv) (h := ?_)
      refine WL.y (hy := mkf) (h := ?_)
      refine clT (hc := C_DeleteFuncI (A := z.A) (n := (blmTo v (knownL v) z.k).length) (c := z.c) (xs := blmTo v (knownL v) z.k) (g := 71) inferInstance [] [.pointer (some ⟨b2, 0, none⟩)] [.blk b2 55 [.slice x2.1 (wrongs v p.1 p.2).length x2.2], .own x2.1 x2.2 3 1 (wrongs v p.1 p.2).length (encI (wrongs v p.1 p.2))] (fun x => !(wrongs v p.1 p.2).any fun y => decide (x = y)) (by omega) (fun x => T_lines_Blame1 (wrongs v p.1 p.2) b2 _ x2.2 x2.1 (by omega) x)) (hs := by repeat (first | exact Spl.nil | (apply Spl.cons; (repeat (first | exact At.here | apply At.there))))) (h := fun _ _ => ?_)
      rw [blmTo_succ hpk]
      refine WL.y (hy := asg) (h := ?_)
      refine nl (h := ?_)
      refine q_blk_norm (h := ?_)
      refine q_seq (h := ?_)
      refine rg (h := ?_)
      refine WL.y (hy := addI) (h := ?_)
      refine WL.y (hy := mv) (h := ?_)
      refine nl (h := ?_)
      refine rn (x := z) ⟨z.k + 1, z.A, z.c⟩ (by dsimp only; omega) (by dsimp only; omega) (by repeat (first | exact trivial | refine ⟨rfl, ?_⟩)) (by repeat (first | exact SubL.nil | (apply SubL.cons; (repeat (first | exact At.here | apply At.there)))))
    · skip
      have hke : z.k = prest.length := by simp only [decide_eq_false_iff_not] at h1; omega
      refine et (h := ?_)
      refine q_then_exit (h := ?_)
      refine q_then_exit (h := ?_)
      refine q_blk_hit (h := ?_)
      refine q_seq (h := ?_)
      refine sq (h := ?_)
      refine rg (h := ?_)
      refine WL.y (hy := mv) (h := ?_)
      refine WL.y (hy := asg) (h := ?_)
      refine WL.y (hy := asg) (h := ?_)
      refine nl (h := ?_)
      refine q_seq (h := ?_)
      refine rtn (h := ?_)
      refine q_ret (hR := ?_)
      have hb : blameL v = blmTo v (knownL v) z.k := by rw [blmTo_end (by omega), hkl]; simp [blameL, hk0, blame]
      exact fun w hS => ⟨(z.A, z.c), trivial, by rw [hb, hk0]; rfl, by rw [hb]; exact hS.sub (by repeat (first | exact SubL.nil | (apply SubL.cons; (repeat (first | exact At.here | apply At.there)))))⟩

theorem C_ref_in (xs : List Int) (y : Int) (A : Option Addr) (n c : Nat) (w : World) (h : Rd w A 1 n (encI xs)) (hn : n ≤ 9223372036854775807) :
    C0 Try.prog 73 [.slice A n c, .int .i64 y] w (.bool (xs.any fun x => decide (y = x))) := by
  have hlen : xs.length = n := by have := h.len; rwa [encI_len] at this
  refine ⟨en Try.func73 Try.ntmps73 ((St.init w).share (e := .ro A 1 n (encI xs)) h rfl rfl rfl) (h := fun F => ?_)⟩
  refine sq (h := ?_)
  refine rg (h := ?_)
  refine WL.y (hy := asg) (h := ?_)
  refine nl (h := ?_)
  refine q_seq (h := ?_)
  refine sq (h := ?_)
  refine sq (h := ?_)
  refine rg (h := ?_)
  refine WL.y (hy := asg) (h := ?_)
  refine nl (h := ?_)
  refine q_seq (h := ?_)
  refine bk (h := ?_)
  refine lp (X := Nat) (I := fun k => k ≤ n ∧ (xs.take k).any (fun x => decide (y = x)) = false) (le := fun k => [(0, .slice A n c), (1, .int .i64 y), (5, .int .i64 k)]) (Le := fun _ => [.ro A 1 n (encI xs)]) (μ := fun k => n - k) 0 ⟨by omega, rfl⟩ (by repeat (first | exact trivial | refine ⟨rfl, ?_⟩)) (by repeat (first | exact SubL.nil | (apply SubL.cons; (repeat (first | exact At.here | apply At.there))))) (fun k hk => ?_)
  obtain ⟨hk, hall⟩ := hk
  refine sq (h := ?_)
  refine sq (h := ?_)
  refine rg (h := ?_)
  refine WL.y (hy := mv) (h := ?_)
  refine WL.y (hy := mv) (h := ?_)
  refine WL.y (hy := lenS) (h := ?_)
  refine WL.y (hy := lss) (h := ?_)
  refine nl (h := ?_)
  refine q_seq (h := ?_)
  refine cd (by exact rfl) (fun h0 => ?_) (fun h0 => ?_)
  · skip
    have hkn : k < n := by simp only [decide_eq_true_eq] at h0; omega
    obtain ⟨x, hx⟩ : ∃ x, xs[k]? = some x := ⟨_, List.getElem?_eq_getElem (by omega)⟩
    have hxe := encI_at hx
    refine skp (h := ?_)
    refine q_seq (h := ?_)
    refine sq (h := ?_)
    refine bk (h := ?_)
    refine sq (h := ?_)
    refine rg (h := ?_)
    refine WL.y (hy := mv) (h := ?_)
    refine WL.y (hy := mv) (h := ?_)
    refine WL.y (hy := ix) (h := ?_)
    refine WL.y (hy := ldE (hk := hxe)) (h := ?_)
    refine WL.y (hy := mv) (h := ?_)
    refine WL.y (hy := eql) (h := ?_)
    refine nl (h := ?_)
    refine q_seq (h := ?_)
    refine cd (by exact rfl) (fun h1 => ?_) (fun h1 => ?_)
    · skip
      have heq : y = x := by simp only [decide_eq_true_eq] at h1; exact h1.symm
      refine sq (h := ?_)
      refine rg (h := ?_)
      refine WL.y (hy := asg) (h := ?_)
      refine nl (h := ?_)
      refine q_seq (h := ?_)
      refine rtn (h := ?_)
      refine q_blk_ret (h := ?_)
      refine q_then_ret (h := ?_)
      refine q_then_ret (h := ?_)
      refine q_blk_ret (h := ?_)
      refine q_then_ret (h := ?_)
      refine q_ret (hR := ?_)
      have hr : (xs.any fun x => decide (y = x)) = true := List.any_eq_true.2 ⟨x, List.mem_of_getElem? hx, by simpa using heq⟩
      exact fun w hS => ⟨by rw [hr]; rfl, hS.sub (by repeat (first | exact SubL.nil | (apply SubL.cons; (repeat (first | exact At.here | apply At.there)))))⟩
    · skip
      have hne : ¬ y = x := by simp only [decide_eq_false_iff_not] at h1; exact fun e => h1 e.symm
      refine skp (h := ?_)
      refine q_blk_norm (h := ?_)
      refine q_seq (h := ?_)
      refine rg (h := ?_)
      refine WL.y (hy := mv) (h := ?_)
      refine WL.y (hy := addI) (h := ?_)
      refine WL.y (hy := asg) (h := ?_)
      refine nl (h := ?_)
      refine rn (k + 1) ⟨by omega, by rw [List.take_add_one, hx, List.any_append, hall]; simp [hne]⟩ (by omega) (by repeat (first | exact trivial | refine ⟨rfl, ?_⟩)) (by repeat (first | exact SubL.nil | (apply SubL.cons; (repeat (first | exact At.here | apply At.there)))))
  · skip
    have hkn : k = n := by simp only [decide_eq_false_iff_not] at h0; omega
    refine et (h := ?_)
    refine q_then_exit (h := ?_)
    refine q_then_exit (h := ?_)
    refine q_blk_hit (h := ?_)
    refine q_seq (h := ?_)
    refine sq (h := ?_)
    refine rg (h := ?_)
    refine WL.y (hy := asg) (h := ?_)
    refine nl (h := ?_)
    refine q_seq (h := ?_)
    refine rtn (h := ?_)
    refine q_ret (hR := ?_)
    have hr : (xs.any fun x => decide (y = x)) = false := by rw [hkn, ← hlen, List.take_length] at hall; exact hall
    exact fun w hS => ⟨by rw [hr]; rfl, hS.sub (by repeat (first | exact SubL.nil | (apply SubL.cons; (repeat (first | exact At.here | apply At.there)))))⟩
end Go.Proofs.Ytdphljhhcaoleaa
