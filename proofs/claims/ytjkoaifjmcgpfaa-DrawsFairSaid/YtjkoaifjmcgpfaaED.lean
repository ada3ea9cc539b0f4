/- Walks of draws: Facing of the program and of the document. -/
import Derived.Test.YtjkoaifjmcgpfaaEC
namespace Go.Proofs.Ytjkoaifjmcgpfaa
open Go Go.RowKit

def idxV (v : List Int) (own : Int) : Int := idxF (pAt v fun x => decide (own = x)) v.length
/-- Whom a person faces in a draw: a number, or how many persons there are. -/
def othN (p : Pl) (own : Int) (v : List Int) : Nat := bif decide (v.getD (facN (idxV v own).toNat) 0 = -1) then p.ps.length else (v.getD (facN (idxV v own).toNat) 0).toNat
def bump (l : List Int) (i : Nat) : List Int := l.set i (l.getD i 0 + 1)
def facTo (p : Pl) (own : Int) : Nat → List Int
  | 0 => List.replicate (p.ps.length + 1) 0
  | k + 1 => bump (facTo p own k) (othN p own ((drawsV p).getD k []))
def facP (p : Pl) (n : Int) : List Int × Int := bif !pOk p then ([], 60) else bif decide (perI p n < 0) then ([], 1) else (facTo p (perI p n) (drawsV p).length, 0)
section
variable {p : Pl}
theorem fac_len (own : Int) : ∀ k, (facTo p own k).length = p.ps.length + 1
  | 0 => List.length_replicate
  | k + 1 => by rw [facTo, bump, List.length_set, fac_len own k]
theorem getD_mem {l : List Int} {i : Nat} : l.getD i 0 = 0 ∨ l.getD i 0 ∈ l := by
  by_cases h : i < l.length
  · exact .inr (List.mem_of_getElem? (getD_some h))
  · exact .inl (by rw [List.getD_eq_getElem?_getD, List.getElem?_eq_none (by omega)]; rfl)
theorem fac_rng (own : Int) : ∀ k, ∀ x ∈ facTo p own k, 0 ≤ x ∧ x ≤ k
  | 0, x, hx => by rw [facTo, List.mem_replicate] at hx; omega
  | k + 1, x, hx => by
    rw [facTo, bump] at hx
    rcases List.mem_or_eq_of_mem_set hx with h | h
    · have := fac_rng own k x h; omega
    · rcases getD_mem (l := facTo p own k) (i := othN p own ((drawsV p).getD k [])) with h2 | h2
      · omega
      · have := fac_rng own k _ h2; omega
theorem fac_get (own : Int) (k i : Nat) : 0 ≤ (facTo p own k).getD i 0 ∧ (facTo p own k).getD i 0 ≤ k := by
  rcases getD_mem (l := facTo p own k) (i := i) with h | h
  · omega
  · exact fac_rng own k _ h
/-- Where a person stands in a draw. -/
theorem own_at (hb : pOk p = true) {v : List Int} (hv : v ∈ drawsV p) {own : Int} (ho : 0 ≤ own ∧ own < p.ps.length) : ∃ q : Nat, idxV v own = q ∧ q < v.length ∧ v[q]? = some own ∧ ∀ i, i < q → v[i]? ≠ some own := by
  have hq := p_ok hb
  obtain ⟨⟨h1, h2, h3, h4⟩, h5⟩ := dr_enum hb hv
  have hw := whole_enum hq h1 h2 h3 h4
  have hm : own ∈ v := by
    rw [wholeV, Bool.not_eq_true', List.any_eq_false] at hw
    have hx := psAt_eq (p := p) (n := own) ho
    have := hw _ (List.mem_of_getElem? hx)
    rw [per_of hq hx, Bool.not_eq_true, Bool.not_eq_false', ← inV_has, inV_iff] at this
    rwa [Int.toNat_of_nonneg ho.1] at this
  rcases idxF_spec (pAt v fun x => decide (own = x)) v.length with ⟨q, hq1, he, hp, hbef⟩ | ⟨_, hbad⟩
  · have hx : v[q]? = some (v[q]) := List.getElem?_eq_getElem hq1
    rw [pAt_eq hx] at hp
    refine ⟨q, he, hq1, by rw [hx, of_decide_eq_true hp], fun i hi h => ?_⟩
    have := hbef i hi
    rw [pAt_eq h, decide_eq_true rfl] at this; cases this
  · obtain ⟨k, hk, e⟩ := List.getElem_of_mem hm
    have := hbad k hk
    rw [pAt_eq (List.getElem?_eq_getElem hk), e, decide_eq_true rfl] at this; cases this
/-- Whom a person faces. -/
theorem oth_at (hb : pOk p = true) {v : List Int} (hv : v ∈ drawsV p) {own : Int} (ho : 0 ≤ own ∧ own < p.ps.length) : ∃ (q : Nat) (o : Int), idxV v own = q ∧ q < 8 ∧ facN q < v.length ∧ (facV q).toNat = facN q ∧ 0 ≤ facV q ∧ facV q < v.length ∧ v[facN q]? = some o ∧ InP p o ∧ othN p own v = (bif decide (o = -1) then p.ps.length else o.toNat) := by
  have hq := p_ok hb
  have hz := hq.z
  obtain ⟨⟨h1, h2, _, _⟩, _⟩ := dr_enum hb hv
  obtain ⟨q, hq1, hq2, hq3, _⟩ := own_at hb hv ho
  have hf := facN_lt (S := v.length) (by omega) hq2
  have ho' : v[facN q]? = some (v.getD (facN q) 0) := getD_some hf
  have hfv : 0 ≤ facV q ∧ facV q < v.length := by
    have := facV_nat q
    unfold facV at this ⊢
    by_cases e : (q : Int) % 2 = 0
    · rw [decide_eq_true e] at this ⊢; simp only [cond_true] at this ⊢; omega
    · rw [decide_eq_false e] at this ⊢; simp only [cond_false] at this ⊢; omega
  exact ⟨q, v.getD (facN q) 0, hq1, by omega, hf, facV_nat q, hfv.1, hfv.2, ho', h2 _ (List.mem_of_getElem? ho'), by rw [othN, hq1, Int.toNat_natCast]⟩
theorem oth_lt (hb : pOk p = true) {v : List Int} (hv : v ∈ drawsV p) {own : Int} (ho : 0 ≤ own ∧ own < p.ps.length) : othN p own v ≤ p.ps.length := by
  obtain ⟨q, o, _, _, _, _, _, _, _, hin, he⟩ := oth_at hb hv ho
  rw [he]
  rcases hin with rfl | h
  · exact Nat.le_refl _
  · rw [decide_eq_false (by omega)]; simp only [cond_false]; omega
end
theorem rep_zero (n : Nat) : List.replicate n [Value.int .i64 0] = enI (List.replicate n 0) := by simp [enI]; exact .inr rfl
set_option maxRecDepth 100000 in
set_option maxHeartbeats 4000000 in
theorem C_dr_Facing (p : Pl) (a : PA) (n : Int) (hz0 : -9223372036854775808 ≤ p.size ∧ p.size ≤ 9223372036854775807) (w : World) (h : PRd w p a) :
    CR Try.prog 27 [p.val a, .int .i64 n] w (fun _ : Option Addr × Nat => True) (fun x => .tuple #[.slice x.1 (facP p n).1.length x.2, .int .i64 (facP p n).2]) (fun x => [.own x.1 x.2 3 1 (facP p n).1.length (enI (facP p n).1)]) := by
  obtain ⟨hp, hl, hpn, hln, hpc⟩ := h
  refine ⟨enM Try.func27 Try.ntmps27 (((St.init w).share (e := .ro a.pA 3 p.ps.length (encPs p.ps)) hp rfl rfl rfl).share (e := .ro a.lA 1 p.lots.length (enI p.lots)) hl rfl rfl rfl) (h := ?_)⟩
  refine sq (h := ?_)
  refine rg (h := ?_)
  refine bxA (h := fun b0 => ?_)
  refine al (h := fun b1 => ?_)
  refine WL.y (hy := asg) (h := ?_)
  refine nl (h := ?_)
  refine q_seq (h := ?_)
  refine sq (h := ?_)
  refine sq (h := ?_)
  refine rg (h := ?_)
  refine WL.y (hy := (by first | exact ldA | exact ldEA)) (h := ?_)
  refine cl0 (hc := fun w hS => C_dr_Check p a hz0 w ⟨hS.get, hS.get, hpn, hln, hpc⟩) (h := ?_)
  refine WL.y (hy := asg) (h := ?_)
  refine nl (h := ?_)
  refine q_seq (h := ?_)
  refine sq (h := ?_)
  refine rg (h := ?_)
  refine WL.y (hy := mv) (h := ?_)
  refine WL.y (hy := neq) (h := ?_)
  refine nl (h := ?_)
  refine q_seq (h := ?_)
  refine cd (by exact rfl) (fun h0 => ?_) (fun h0 => ?_)
  · skip
    have hb := chkP_no h0
    have hE : facP p n = ([], chkP p) := by rw [facP, chkP, hb]; rfl
    refine WC.nilOwn 3 1 (h := ?_)
    refine sq (h := ?_)
    refine rg (h := ?_)
    refine WL.y (hy := mv) (h := ?_)
    first | refine st (h := ?_) | refine stE (h := ?_)
    refine WL.y (hy := asg) (h := ?_)
    refine nl (h := ?_)
    refine q_seq (h := ?_)
    refine rtn (h := ?_)
    refine q_then_ret (h := ?_)
    refine q_retM0 (hR := ?_)
    rw [hE]
    exact fun w hS => ⟨(none, 0), trivial, rfl, hS.sub (by repeat (first | exact SubL.nil | (apply SubL.cons; (repeat (first | exact At.here | apply At.there))) | exact SubL.refl _ | apply SubL.skip))⟩
  · skip
    obtain ⟨hq, hb⟩ := chkP_ok h0
    have hz := hq.z
    have hqn := hq.n
    have hN := draws_len hq
    refine skp (h := ?_)
    refine q_seq (h := ?_)
    refine sq (h := ?_)
    refine rg (h := ?_)
    refine WL.y (hy := (by first | exact ldA | exact ldEA)) (h := ?_)
    refine WL.y (hy := mv) (h := ?_)
    refine cl0 (hc := fun w hS => C_person p a n w ⟨hS.get, hS.get, hpn, hln, hpc⟩) (h := ?_)
    refine al (h := fun b2 => ?_)
    first | refine st (h := ?_) | refine stE (h := ?_)
    refine nl (h := ?_)
    refine q_seq (h := ?_)
    refine sq (h := ?_)
    refine sq (h := ?_)
    refine rg (h := ?_)
    refine WL.y (hy := (by first | exact ld | exact ldE)) (h := ?_)
    refine WL.y (hy := lss) (h := ?_)
    refine nl (h := ?_)
    refine q_seq (h := ?_)
    refine cd (by exact rfl) (fun h1 => ?_) (fun h1 => ?_)
    · skip
      have hE : facP p n = ([], 1) := by rw [facP, hb, h1]; rfl
      refine WC.nilOwn 3 1 (h := ?_)
      refine sq (h := ?_)
      refine rg (h := ?_)
      first | refine st (h := ?_) | refine stE (h := ?_)
      refine WL.y (hy := asg) (h := ?_)
      refine nl (h := ?_)
      refine q_seq (h := ?_)
      refine rtn (h := ?_)
      refine q_then_ret (h := ?_)
      refine q_retM0 (hR := ?_)
      rw [hE]
      exact fun w hS => ⟨(none, 0), trivial, rfl, hS.sub (by repeat (first | exact SubL.nil | (apply SubL.cons; (repeat (first | exact At.here | apply At.there))) | exact SubL.refl _ | apply SubL.skip))⟩
    · skip
      have hE : facP p n = (facTo p (perI p n) (drawsV p).length, 0) := by rw [facP, hb, h1]; rfl
      have hpr := per_rng p n
      have hor : 0 ≤ perI p n ∧ perI p n < p.ps.length := by have := of_decide_eq_false h1; omega
      have hfl := fac_len (p := p) (perI p n) (drawsV p).length
      refine skp (h := ?_)
      refine q_seq (h := ?_)
      refine sq (h := ?_)
      refine rg (h := ?_)
      refine WL.y (hy := (by first | exact fa | exact faE)) (h := ?_)
      refine WL.y (hy := (by first | exact ld | exact ldE)) (h := ?_)
      refine WL.y (hy := lenS) (h := ?_)
      refine WL.y (hy := addI) (h := ?_)
      refine mks (p.ps.length + 1) (h := fun g => ?_)
      rw [rep_zero]
      first | refine st (h := ?_) | refine stE (h := ?_)
      refine nl (h := ?_)
      refine q_seq (h := ?_)
      refine sq (h := ?_)
      refine sq (h := ?_)
      refine rg (h := ?_)
      refine WL.y (hy := (by first | exact ldA | exact ldEA)) (h := ?_)
      refine cl (hc := fun w hS => C_draws p a hq w ⟨hS.get (by repeat (first | exact Rds.ro | apply Rds.there)), hS.get (by repeat (first | exact Rds.ro | apply Rds.there)), hpn, hln, hpc⟩) (h := fun x0 _ => ?_)
      refine nl (h := ?_)
      refine q_seq (h := ?_)
      refine bk (h := ?_)
      refine rf2 (f := 84) inferInstance (fun k (_ : Unit) => True) (fun k _ => [.blk b1 23 [.slice (some ⟨g, 0, none⟩) (p.ps.length + 1) (p.ps.length + 1)], .own (some ⟨g, 0, none⟩) (p.ps.length + 1) 3 1 (p.ps.length + 1) (enI (facTo p (perI p n) k)), .blk b2 3 [.int .i64 (perI p n)], .blk b0 25 (p.cells a)]) (fun _ => False) (fun _ => .skip) (fun _ => []) () (It_draws p a hq hpn hln hpc x0.bp x0.br x0.rA x0.rc) (by exact rfl) (fun _ _ => rfl) (by rfl) trivial (by repeat (first | exact SubL.nil | (apply SubL.cons; (repeat (first | exact At.here | apply At.there))) | exact SubL.refl _ | apply SubL.skip)) (fun R fn tmps lb rb k x y hk hφ hy => ?_) (fun rb y hy => ?_) (fun _ _ h => h.elim)
      · skip
        obtain ⟨v, hv⟩ : ∃ v, (drawsV p)[k]? = some v := ⟨_, List.getElem?_eq_getElem hk⟩
        have hvm := draws_mem hq (List.mem_of_getElem? hv)
        have hvd : (drawsV p).getD k [] = v := by rw [List.getD_eq_getElem?_getD, hv]; rfl
        rw [hvd]
        obtain ⟨q, o, hqi, hq8, hq9, hfq, hf0, hf1, hvo, hoi, hot⟩ := oth_at hb (List.mem_of_getElem? hv) hor
        have hoe : (enI v)[(facV q).toNat]? = some [.int .i64 o] := by rw [hfq]; exact enI_at hvo
        have hvl := hvm.1
        refine rg (h := ?_)
        refine WL.y (hy := asg) (h := ?_)
        refine nl (h := ?_)
        refine bgn (h := ?_)
        refine bk (h := ?_)
        refine sq (h := ?_)
        refine rg (h := ?_)
        refine WL.y (hy := mv) (h := ?_)
        refine WL.y (hy := mv) (h := ?_)
        refine WL.y (hy := (by first | exact ld | exact ldE)) (h := ?_)
        refine cl (hc := fun w hS => C_slices_Index v (perI p n) x.1 p.size.toNat x.2 w (hS.get (by repeat (first | exact Rds.own | apply Rds.there))) (by omega)) (h := fun j hj => ?_)
        obtain rfl : j = q := by rw [← hqi, idxV, hvl]; exact hj.uniq (idxF_spec _ _)
        refine WL.y (hy := xor8) (h := ?_)
        refine WL.y (hy := ix (A := x.1) (m := p.size.toNat)) (h := ?_)
        refine WL.y (hy := ldE (A := x.1) (hk := hoe)) (h := ?_)
        refine WL.y (hy := asg) (h := ?_)
        refine nl (h := ?_)
        refine q_seq (h := ?_)
        refine sq (h := ?_)
        refine sq (h := ?_)
        refine rg (h := ?_)
        refine WL.y (hy := mv) (h := ?_)
        refine WL.y (hy := eql) (h := ?_)
        refine nl (h := ?_)
        refine q_seq (h := ?_)
        refine cd (by exact rfl) (fun h2 => ?_) (fun h2 => ?_)
        · skip
          have hon : othN p (perI p n) v = p.ps.length := by rw [hot, h2]; rfl
          have hfe : (enI (facTo p (perI p n) k))[((p.ps.length : Int)).toNat]? = some [.int .i64 ((facTo p (perI p n) k).getD p.ps.length 0)] := by rw [Int.toNat_natCast]; exact enI_at (getD_some (by rw [fac_len]; omega))
          have hfr := fac_get (p := p) (perI p n) k p.ps.length
          have hset : (facTo p (perI p n) k).set ((p.ps.length : Int)).toNat ((facTo p (perI p n) k).getD p.ps.length 0 + 1) = facTo p (perI p n) (k + 1) := by rw [facTo, bump, hvd, hon, Int.toNat_natCast]
          refine rg (h := ?_)
          refine WL.y (hy := (by first | exact fa | exact faE)) (h := ?_)
          refine WL.y (hy := (by first | exact ld | exact ldE)) (h := ?_)
          refine WL.y (hy := lenS) (h := ?_)
          refine WL.y (hy := asg) (h := ?_)
          refine nl (h := ?_)
          refine q_seq (h := ?_)
          refine rg (h := ?_)
          refine WL.y (hy := (by first | exact ld | exact ldE)) (h := ?_)
          refine WL.y (hy := mv) (h := ?_)
          refine WL.y (hy := ix (A := some ⟨g, 0, none⟩) (m := p.ps.length + 1)) (h := ?_)
          refine WL.y (hy := ldE (A := some ⟨g, 0, none⟩) (hk := hfe)) (h := ?_)
          refine WL.y (hy := addI) (h := ?_)
          refine WL.y (hy := ix (A := some ⟨g, 0, none⟩) (m := p.ps.length + 1)) (h := ?_)
          refine stE (A := some ⟨g, 0, none⟩) (j := 0) (hk := hfe) (h := ?_)
          rw [enI_put, hset]
          refine nl (h := ?_)
          refine q_blk_norm (h := ?_)
          refine rdN (y := ()) trivial (hs := (by repeat (first | exact SubL.nil | (apply SubL.cons; (repeat (first | exact At.here | apply At.there))) | exact SubL.refl _ | apply SubL.skip)))
        · skip
          have ho2 : 0 ≤ o ∧ o < p.ps.length := hoi.resolve_left (of_decide_eq_false h2)
          have hon : othN p (perI p n) v = o.toNat := by rw [hot, h2]; rfl
          have hfe : (enI (facTo p (perI p n) k))[o.toNat]? = some [.int .i64 ((facTo p (perI p n) k).getD o.toNat 0)] := enI_at (getD_some (by rw [fac_len]; omega))
          have hfr := fac_get (p := p) (perI p n) k o.toNat
          have hset : (facTo p (perI p n) k).set o.toNat ((facTo p (perI p n) k).getD o.toNat 0 + 1) = facTo p (perI p n) (k + 1) := by rw [facTo, bump, hvd, hon]
          refine skp (h := ?_)
          refine q_seq (h := ?_)
          refine rg (h := ?_)
          refine WL.y (hy := (by first | exact ld | exact ldE)) (h := ?_)
          refine WL.y (hy := mv) (h := ?_)
          refine WL.y (hy := ix (A := some ⟨g, 0, none⟩) (m := p.ps.length + 1)) (h := ?_)
          refine WL.y (hy := ldE (A := some ⟨g, 0, none⟩) (hk := hfe)) (h := ?_)
          refine WL.y (hy := addI) (h := ?_)
          refine WL.y (hy := ix (A := some ⟨g, 0, none⟩) (m := p.ps.length + 1)) (h := ?_)
          refine stE (A := some ⟨g, 0, none⟩) (j := 0) (hk := hfe) (h := ?_)
          rw [enI_put, hset]
          refine nl (h := ?_)
          refine q_blk_norm (h := ?_)
          refine rdN (y := ()) trivial (hs := (by repeat (first | exact SubL.nil | (apply SubL.cons; (repeat (first | exact At.here | apply At.there))) | exact SubL.refl _ | apply SubL.skip)))
      refine q_blk_norm (h := ?_)
      refine q_seq (h := ?_)
      refine sq (h := ?_)
      refine rg (h := ?_)
      refine WL.y (hy := (by first | exact ld | exact ldE)) (h := ?_)
      first | refine st (h := ?_) | refine stE (h := ?_)
      refine WL.y (hy := asg) (h := ?_)
      refine nl (h := ?_)
      refine q_seq (h := ?_)
      refine rtn (h := ?_)
      refine q_retM (hR := ?_)
      rw [hE]
      dsimp only
      rw [hfl]
      exact fun w hS => ⟨(some ⟨g, 0, none⟩, p.ps.length + 1), trivial, rfl, hS.sub (by repeat (first | exact SubL.nil | (apply SubL.cons; (repeat (first | exact At.here | apply At.there))) | exact SubL.refl _ | apply SubL.skip))⟩
/-! #### the document's answer -/
theorem ref_oth {p : Pl} (hb : pOk p = true) {v : List Int} (hv : v ∈ drawsV p) {n : Int} (hn : 0 ≤ perI p n) : ∃ (q : Nat) (o : Int), slotV (v.map (plyV p)) n = q ∧ q < 8 ∧ (facV q).toNat = facN q ∧ 0 ≤ facV q ∧ facV q < v.length ∧ (v.map (plyV p))[facN q]? = some (plyV p o) ∧ InP p o ∧ othN p (perI p n) v = (bif decide (o = -1) then p.ps.length else o.toNat) := by
  have hq := p_ok hb
  have hor : 0 ≤ perI p n ∧ perI p n < p.ps.length := ⟨hn, (per_rng p n).2⟩
  obtain ⟨q, o, hqi, hq8, hq9, hfq, hf0, hf1, hvo, hoi, hot⟩ := oth_at hb hv hor
  obtain ⟨⟨_, h2, _, _⟩, _⟩ := dr_enum hb hv
  obtain ⟨q', hqi', hq1, hq2, hq3⟩ := own_at hb hv hor
  have hqq : q' = q := by rw [hqi] at hqi'; omega
  subst hqq
  have hply : plyV p (perI p n) = n := by
    obtain ⟨x, hx, hxe⟩ := per_player hn
    have hne : perI p n ≠ -1 := by omega
    rw [plyV, decide_eq_false hne]
    simp only [cond_false, psAt, hx]
    exact hxe
  refine ⟨q', o, ?_, hq8, hfq, hf0, hf1, by rw [List.getElem?_map, hvo]; rfl, hoi, hot⟩
  refine (idxF_spec _ _).uniq (.inl ⟨q', by rw [List.length_map]; exact hq1, rfl, ?_, fun i hi => ?_⟩)
  · rw [pAt_eq (s := plyV p (perI p n)) (by rw [List.getElem?_map, hq2]; rfl), hply]; exact decide_eq_true rfl
  · have hx : v[i]? = some (v[i]'(by omega)) := List.getElem?_eq_getElem (by omega)
    rw [pAt_eq (s := plyV p (v[i]'(by omega))) (by rw [List.getElem?_map, hx]; rfl)]
    refine decide_eq_false fun e => hq3 i hi ?_
    rw [hx, ply_inj hq (h2 _ (List.getElem_mem _)) (.inr hor) (e.trans hply.symm)]
theorem per_ply {p : Pl} (hq : p.Ok) {o : Int} (ho : 0 ≤ o ∧ o < p.ps.length) : perI p (plyV p o) = o ∧ plyV p o ≠ -1 := by
  have hx := psAt_eq ho
  have h1 := num_of hq hx
  have h2 := per_of hq hx
  have hne : o ≠ -1 := by omega
  rw [plyV, decide_eq_false hne]
  simp only [cond_false]
  exact ⟨by omega, h1.2⟩
set_option maxRecDepth 100000 in
set_option maxHeartbeats 4000000 in
theorem C_ref06_Facing (p : Pl) (a : PA) (n : Int) (hz0 : -9223372036854775808 ≤ p.size ∧ p.size ≤ 9223372036854775807) (hN : pOk p = true → (drawsV p).length ≤ 300) (w : World) (h : PRd w p a) :
    CR Try.prog 32 [p.val a, .int .i64 n] w (fun _ : Option Addr × Nat => True) (fun x => .tuple #[.slice x.1 (facP p n).1.length x.2, .int .i64 (facP p n).2]) (fun x => [.own x.1 x.2 3 1 (facP p n).1.length (enI (facP p n).1)]) := by
  obtain ⟨hp, hl, hpn, hln, hpc⟩ := h
  refine ⟨en Try.func32 Try.ntmps32 (((St.init w).share (e := .ro a.pA 3 p.ps.length (encPs p.ps)) hp rfl rfl rfl).share (e := .ro a.lA 1 p.lots.length (enI p.lots)) hl rfl rfl rfl) (h := fun F => ?_)⟩
  refine sq (h := ?_)
  refine rg (h := ?_)
  refine bxA (h := fun b0 => ?_)
  refine WL.y (hy := asg) (h := ?_)
  refine WL.y (hy := asg) (h := ?_)
  refine nl (h := ?_)
  refine q_seq (h := ?_)
  refine sq (h := ?_)
  refine sq (h := ?_)
  refine rg (h := ?_)
  refine WL.y (hy := (by first | exact ldA | exact ldEA)) (h := ?_)
  refine cl0 (hc := fun w hS => C_ref06_Check p a hz0 w ⟨hS.get, hS.get, hpn, hln, hpc⟩) (h := ?_)
  refine WL.y (hy := neq) (h := ?_)
  refine nl (h := ?_)
  refine q_seq (h := ?_)
  refine cd (by exact rfl) (fun h0 => ?_) (fun h0 => ?_)
  · skip
    have hb := chkP_no h0
    have hE : facP p n = ([], 60) := by rw [facP, hb]; rfl
    refine WC.nilOwn 3 1 (h := ?_)
    refine sq (h := ?_)
    refine rg (h := ?_)
    refine WL.y (hy := asg) (h := ?_)
    refine WL.y (hy := asg) (h := ?_)
    refine nl (h := ?_)
    refine q_seq (h := ?_)
    refine rtn (h := ?_)
    refine q_then_ret (h := ?_)
    refine q_ret (hR := ?_)
    rw [hE]
    exact fun w hS => ⟨(none, 0), trivial, rfl, hS.sub (by repeat (first | exact SubL.nil | (apply SubL.cons; (repeat (first | exact At.here | apply At.there))) | exact SubL.refl _ | apply SubL.skip))⟩
  · skip
    obtain ⟨hq, hb⟩ := chkP_ok h0
    have hz := hq.z
    have hqn := hq.n
    have hNb := hN hb
    refine skp (h := ?_)
    refine q_seq (h := ?_)
    refine sq (h := ?_)
    refine sq (h := ?_)
    refine rg (h := ?_)
    refine WL.y (hy := (by first | exact ldA | exact ldEA)) (h := ?_)
    refine WL.y (hy := mv) (h := ?_)
    refine cl0 (hc := fun w hS => C_Number p a n w ⟨hS.get, hS.get, hpn, hln, hpc⟩) (h := ?_)
    refine WL.y (hy := lss) (h := ?_)
    refine nl (h := ?_)
    refine q_seq (h := ?_)
    refine cd (by exact rfl) (fun h1 => ?_) (fun h1 => ?_)
    · skip
      have hE : facP p n = ([], 1) := by rw [facP, hb, h1]; rfl
      refine WC.nilOwn 3 1 (h := ?_)
      refine sq (h := ?_)
      refine rg (h := ?_)
      refine WL.y (hy := asg) (h := ?_)
      refine WL.y (hy := asg) (h := ?_)
      refine nl (h := ?_)
      refine q_seq (h := ?_)
      refine rtn (h := ?_)
      refine q_then_ret (h := ?_)
      refine q_ret (hR := ?_)
      rw [hE]
      exact fun w hS => ⟨(none, 0), trivial, rfl, hS.sub (by repeat (first | exact SubL.nil | (apply SubL.cons; (repeat (first | exact At.here | apply At.there))) | exact SubL.refl _ | apply SubL.skip))⟩
    · skip
      have hE : facP p n = (facTo p (perI p n) (drawsV p).length, 0) := by rw [facP, hb, h1]; rfl
      have hpr := per_rng p n
      have hor : 0 ≤ perI p n := by have := of_decide_eq_false h1; omega
      have hfl := fac_len (p := p) (perI p n) (drawsV p).length
      refine skp (h := ?_)
      refine q_seq (h := ?_)
      refine sq (h := ?_)
      refine rg (h := ?_)
      refine WL.y (hy := (by first | exact ldA | exact ldEA)) (h := ?_)
      refine cl (hc := fun w hS => C_ref06_all p a hb (hN hb) w ⟨hS.get, hS.get, hpn, hln, hpc⟩) (h := fun x hx => ?_)
      have hxl : x.hs.length = (drawsV p).length := by rw [← List.length_map (f := fun h : Option Addr × Nat × List Int => h.2.2), hx, refAll, List.length_map]
      rw [hxl]
      refine WL.y (hy := asg) (h := ?_)
      refine nl (h := ?_)
      refine q_seq (h := ?_)
      refine sq (h := ?_)
      refine rg (h := ?_)
      refine WL.y (hy := (by first | exact fa | exact faE)) (h := ?_)
      refine WL.y (hy := (by first | exact ld | exact ldE)) (h := ?_)
      refine WL.y (hy := lenS) (h := ?_)
      refine WL.y (hy := addI) (h := ?_)
      refine mks (p.ps.length + 1) (h := fun b => ?_)
      rw [rep_zero]
      refine WL.y (hy := asg) (h := ?_)
      refine nl (h := ?_)
      refine q_seq (h := ?_)
      refine sq (h := ?_)
      refine sq (h := ?_)
      refine rg (h := ?_)
      refine WL.y (hy := asg) (h := ?_)
      refine nl (h := ?_)
      refine q_seq (h := ?_)
      refine bk (h := ?_)
      refine lp (X := IZA) (I := fun z => z.k ≤ (drawsV p).length) (le := fun z => [(1, .int .i64 n), (2, .pointer (some ⟨b0, 0, none⟩)), (6, .slice x.R (drawsV p).length x.rc), (7, .slice (some ⟨b, 0, none⟩) (p.ps.length + 1) (p.ps.length + 1)), (8, .int .i64 z.k)]) (Le := fun z => .own (some ⟨b, 0, none⟩) (p.ps.length + 1) 3 1 (p.ps.length + 1) (enI (facTo p (perI p n) z.k)) :: .own x.R x.rc 23 1 (drawsV p).length (rowsV x.hs) :: manyE true (rowsE x.hs) :: plL p a b0) (μ := fun z => (drawsV p).length - z.k) ⟨0⟩ (Nat.zero_le _) (by repeat (first | exact trivial | refine ⟨rfl, ?_⟩)) (by repeat (first | exact SubL.nil | (apply SubL.cons; (repeat (first | exact At.here | apply At.there))) | exact SubL.refl _ | apply SubL.skip)) (fun z hz => ?_)
      refine sq (h := ?_)
      refine sq (h := ?_)
      refine rg (h := ?_)
      refine WL.y (hy := mv) (h := ?_)
      refine WL.y (hy := mv) (h := ?_)
      refine WL.y (hy := lenS) (h := ?_)
      refine WL.y (hy := lss) (h := ?_)
      refine nl (h := ?_)
      refine q_seq (h := ?_)
      refine cd (by exact rfl) (fun h2 => ?_) (fun h2 => ?_)
      · skip
        have hkn : z.k < (drawsV p).length := by simp only [decide_eq_true_eq] at h2; omega
        obtain ⟨v, hv⟩ : ∃ v, (drawsV p)[z.k]? = some v := ⟨_, List.getElem?_eq_getElem hkn⟩
        have hvd : (drawsV p).getD z.k [] = v := by rw [List.getD_eq_getElem?_getD, hv]; rfl
        obtain ⟨g, hg⟩ : ∃ g, x.hs[z.k]? = some g := ⟨_, List.getElem?_eq_getElem (by omega)⟩
        have hge := row_at hg
        have hgv : g.2.2 = v.map (plyV p) := by
          have h1 : (x.hs.map (·.2.2))[z.k]? = some g.2.2 := by rw [List.getElem?_map, hg]; rfl
          rw [hx, refAll, List.getElem?_map, hv] at h1
          exact (Option.some.inj h1).symm
        have hgl : g.2.2.length = v.length := by rw [hgv, List.length_map]
        obtain ⟨q, o, hqi, hq8, hfq, hf0, hf1, hvo, hoi, hot⟩ := ref_oth hb (List.mem_of_getElem? hv) hor
        have hvl := (draws_mem hq (List.mem_of_getElem? hv)).1
        have hoe : (enI g.2.2)[(facV q).toNat]? = some [.int .i64 (plyV p o)] := by rw [hfq, hgv]; exact enI_at hvo
        have hpd := ply_dec hq hoi
        have hmr : ∀ w, (manyE true (rowsE x.hs)).ok w → Rd w g.1 1 g.2.2.length (enI g.2.2) := fun w hw => hw _ (row_mem hg)
        refine skp (h := ?_)
        refine q_seq (h := ?_)
        refine sq (h := ?_)
        refine bk (h := ?_)
        refine sq (h := ?_)
        refine rgD0 (by kernel_rfl) (h := ?_)
        refine tk 0 (hy := mv) (h := ?_)
        refine tk 1 (hy := mv) (h := ?_)
        refine tk 2 (hy := ix (A := x.R) (m := (drawsV p).length)) (h := ?_)
        refine tk 3 (hy := ldE (A := x.R) (hk := hge)) (h := ?_)
        refine tk 4 (hy := mv) (h := ?_)
        refine tk 5 (hy := mv) (h := ?_)
        refine tk 6 (hy := ix (A := x.R) (m := (drawsV p).length)) (h := ?_)
        refine tk 7 (hy := ldE (A := x.R) (hk := hge)) (h := ?_)
        refine tk 8 (hy := mv) (h := ?_)
        refine one 9 (h := ?_)
        refine cl0 (hc := fun w hS => C_slot g.2.2 n g.1 g.2.2.length g.2.1 rfl (by omega) w (hS.many (by repeat (first | exact At.here | apply At.there)) (row_mem hg))) (h := ?_)
        rw [hgv, hqi, ← hgv]
        refine nx (h := ?_)
        refine one 10 (h := ?_)
        refine cl0 (hc := fun w hS => C_faces (q : Int) (by omega) w) (h := ?_)
        refine nx (h := ?_)
        refine tk 11 (hy := ix (A := g.1) (m := g.2.2.length) (hr := (by repeat (first | exact Rds.any hmr | apply Rds.there)))) (h := ?_)
        refine tk 12 (hy := ldE (A := g.1) (hr := (by repeat (first | exact Rds.any hmr | apply Rds.there))) (hk := hoe)) (h := ?_)
        refine tk 13 (hy := asg) (h := ?_)
        refine dn (h := ?_)
        refine q_seq (h := ?_)
        refine sq (h := ?_)
        refine rg (h := ?_)
        refine WL.y (hy := mv) (h := ?_)
        refine WL.y (hy := eql) (h := ?_)
        refine nl (h := ?_)
        refine q_seq (h := ?_)
        refine cd (by exact rfl) (fun h3 => ?_) (fun h3 => ?_)
        · skip
          have hod : decide (o = -1) = true := by rw [← hpd]; exact h3
          have hon : othN p (perI p n) v = p.ps.length := by rw [hot, hod]; rfl
          have hfe : (enI (facTo p (perI p n) z.k))[((p.ps.length : Int)).toNat]? = some [.int .i64 ((facTo p (perI p n) z.k).getD p.ps.length 0)] := by rw [Int.toNat_natCast]; exact enI_at (getD_some (by rw [fac_len]; omega))
          have hfr := fac_get (p := p) (perI p n) z.k p.ps.length
          have hset : (facTo p (perI p n) z.k).set ((p.ps.length : Int)).toNat ((facTo p (perI p n) z.k).getD p.ps.length 0 + 1) = facTo p (perI p n) (z.k + 1) := by rw [facTo, bump, hvd, hon, Int.toNat_natCast]
          refine rg (h := ?_)
          refine WL.y (hy := mv) (h := ?_)
          refine WL.y (hy := (by first | exact fa | exact faE)) (h := ?_)
          refine WL.y (hy := (by first | exact ld | exact ldE)) (h := ?_)
          refine WL.y (hy := lenS) (h := ?_)
          refine WL.y (hy := ix (A := some ⟨b, 0, none⟩) (m := p.ps.length + 1)) (h := ?_)
          refine WL.y (hy := ldE (A := some ⟨b, 0, none⟩) (hk := hfe)) (h := ?_)
          refine WL.y (hy := addI) (h := ?_)
          refine WL.y (hy := ix (A := some ⟨b, 0, none⟩) (m := p.ps.length + 1)) (h := ?_)
          refine stE (A := some ⟨b, 0, none⟩) (j := 0) (hk := hfe) (h := ?_)
          rw [enI_put, hset]
          refine nl (h := ?_)
          refine q_blk_norm (h := ?_)
          refine q_seq (h := ?_)
          refine rg (h := ?_)
          refine WL.y (hy := mv) (h := ?_)
          refine WL.y (hy := addI) (h := ?_)
          refine WL.y (hy := asg) (h := ?_)
          refine nl (h := ?_)
          refine rn (x := z) ⟨z.k + 1⟩ (by dsimp only; omega) (by dsimp only; omega) (by repeat (first | exact trivial | refine ⟨rfl, ?_⟩)) (by repeat (first | exact SubL.nil | (apply SubL.cons; (repeat (first | exact At.here | apply At.there))) | exact SubL.refl _ | apply SubL.skip))
        · skip
          have hod : decide (o = -1) = false := by rw [← hpd]; exact h3
          have ho2 : 0 ≤ o ∧ o < p.ps.length := hoi.resolve_left (of_decide_eq_false hod)
          have hpo := (per_ply hq ho2).1
          have hon : othN p (perI p n) v = o.toNat := by rw [hot, hod]; rfl
          have hfe : (enI (facTo p (perI p n) z.k))[o.toNat]? = some [.int .i64 ((facTo p (perI p n) z.k).getD o.toNat 0)] := enI_at (getD_some (by rw [fac_len]; omega))
          have hfr := fac_get (p := p) (perI p n) z.k o.toNat
          have hset : (facTo p (perI p n) z.k).set o.toNat ((facTo p (perI p n) z.k).getD o.toNat 0 + 1) = facTo p (perI p n) (z.k + 1) := by rw [facTo, bump, hvd, hon]
          refine rg (h := ?_)
          refine WL.y (hy := mv) (h := ?_)
          refine WL.y (hy := (by first | exact ldA | exact ldEA)) (h := ?_)
          refine WL.y (hy := mv) (h := ?_)
          refine cl0 (hc := fun w hS => C_Number p a (plyV p o) w ⟨hS.get (by repeat (first | exact Rds.ro | apply Rds.there)), hS.get (by repeat (first | exact Rds.ro | apply Rds.there)), hpn, hln, hpc⟩) (h := ?_)
          rw [hpo]
          refine WL.y (hy := ix (A := some ⟨b, 0, none⟩) (m := p.ps.length + 1)) (h := ?_)
          refine WL.y (hy := ldE (A := some ⟨b, 0, none⟩) (hk := hfe)) (h := ?_)
          refine WL.y (hy := addI) (h := ?_)
          refine WL.y (hy := ix (A := some ⟨b, 0, none⟩) (m := p.ps.length + 1)) (h := ?_)
          refine stE (A := some ⟨b, 0, none⟩) (j := 0) (hk := hfe) (h := ?_)
          rw [enI_put, hset]
          refine nl (h := ?_)
          refine q_blk_norm (h := ?_)
          refine q_seq (h := ?_)
          refine rg (h := ?_)
          refine WL.y (hy := mv) (h := ?_)
          refine WL.y (hy := addI) (h := ?_)
          refine WL.y (hy := asg) (h := ?_)
          refine nl (h := ?_)
          refine rn (x := z) ⟨z.k + 1⟩ (by dsimp only; omega) (by dsimp only; omega) (by repeat (first | exact trivial | refine ⟨rfl, ?_⟩)) (by repeat (first | exact SubL.nil | (apply SubL.cons; (repeat (first | exact At.here | apply At.there))) | exact SubL.refl _ | apply SubL.skip))
      · skip
        have hkn : z.k = (drawsV p).length := by simp only [decide_eq_false_iff_not] at h2; omega
        rw [hkn]
        refine et (h := ?_)
        refine q_then_exit (h := ?_)
        refine q_then_exit (h := ?_)
        refine q_blk_hit (h := ?_)
        refine q_seq (h := ?_)
        refine sq (h := ?_)
        refine rg (h := ?_)
        refine WL.y (hy := mv) (h := ?_)
        refine WL.y (hy := asg) (h := ?_)
        refine WL.y (hy := asg) (h := ?_)
        refine nl (h := ?_)
        refine q_seq (h := ?_)
        refine rtn (h := ?_)
        refine q_ret (hR := ?_)
        rw [hE]
        dsimp only
        rw [hfl]
        exact fun w hS => ⟨(some ⟨b, 0, none⟩, p.ps.length + 1), trivial, rfl, hS.sub (by repeat (first | exact SubL.nil | (apply SubL.cons; (repeat (first | exact At.here | apply At.there))) | exact SubL.refl _ | apply SubL.skip))⟩
end Go.Proofs.Ytjkoaifjmcgpfaa
