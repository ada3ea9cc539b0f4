/- Walks of the document's answer: the order in which groups stand. -/
import Derived.Test.YtbcclgfobiholaaGX
namespace Go.Proofs.Ytbcclgfobiholaa
open Go Go.RowKit

theorem sortTo_idx (lt : Int → Int → Bool) (m n : Nat) : ∀ k, k ≤ m → k ≤ n → sortTo lt (idxs m) k = sortTo lt (idxs n) k
  | 0, _, _ => rfl
  | k + 1, h1, h2 => by
    have e : ∀ r, k < r → (idxs r)[k]? = some (k : Int) := fun r hr => by simp [idxs, hr]
    rw [sortTo, sortTo, e m (by omega), e n (by omega), sortTo_idx lt m n k (by omega) (by omega)]
theorem idxs_at {n k : Nat} (h : k < n) : (idxs n)[k]? = some (k : Int) := by simp [idxs, h]
theorem ord_cond {q : Qu} (hq : q.Ok) {x y : Int} (hx : 0 ≤ x ∧ x < q.gs.length) (hy : 0 ≤ y ∧ y < q.gs.length) (hne : x ≠ y) {gx gy : Pt} (hgx : q.gs[x.toNat]? = some gx) (hgy : q.gs[y.toNat]? = some gy) :
    ltQ q.gs x y = !(decide (gy.at_ < gx.at_) || (decide (gy.at_ = gx.at_) && decide (gy.id < gx.id))) := by
  rw [ltQ_key hq hx hy]
  have hk : keyV q.gs x ≠ keyV q.gs y := fun h => hne (key_inj hq hx hy h)
  have h1 := pt_rng (hq.pt gx (List.mem_of_getElem? hgx))
  have h2 := pt_rng (hq.pt gy (List.mem_of_getElem? hgy))
  unfold keyV at hk ⊢
  rw [hgx, hgy] at hk ⊢
  simp only at hk ⊢
  rw [Bool.eq_iff_iff]
  simp only [decide_eq_true_eq, Bool.not_eq_true', Bool.or_eq_false_iff, Bool.and_eq_false_iff, decide_eq_false_iff_not]
  omega
structure OrZ where
  (k : Nat) (A : Option Addr) (c : Nat)
set_option maxRecDepth 100000 in
set_option maxHeartbeats 4000000 in
theorem C_ref11_Order (q : Qu) (a : QA) (hq : q.Ok) (w : World) (h : QRd w q a) : CR Try.prog 26 [q.val a] w (fun _ : Option Addr × Nat => True) (fun p => .slice p.1 q.gs.length p.2) (fun p => [.own p.1 p.2 3 1 q.gs.length (enI (ordV q))]) := by
  obtain ⟨hg, hf, hgn, hfn⟩ := h
  have hgl := hq.g
  refine ⟨en Try.func26 Try.ntmps26 (((St.init w).share (e := .ro a.gA 4 q.gs.length (encPt q.gs)) hg rfl rfl rfl).share (e := .ro a.fA 2 q.fs.length (encF q.fs)) hf rfl rfl rfl) (h := fun F => ?_)⟩
  refine sq (h := ?_)
  refine rg (h := ?_)
  refine bxA (h := fun b0 => ?_)
  refine WL.y (hy := asg) (h := ?_)
  refine nl (h := ?_)
  refine q_seq (h := ?_)
  refine sq (h := ?_)
  refine WC.nilOwn 3 1 (h := ?_)
  refine rg (h := ?_)
  refine WL.y (hy := asg) (h := ?_)
  refine nl (h := ?_)
  refine q_seq (h := ?_)
  refine sq (h := ?_)
  refine sq (h := ?_)
  refine rg (h := ?_)
  refine WL.y (hy := asg) (h := ?_)
  refine nl (h := ?_)
  refine q_seq (h := ?_)
  refine bk (h := ?_)
  refine lp (X := OrZ) (I := fun z => z.k ≤ q.gs.length) (le := fun z => [(1, .pointer (some ⟨b0, 0, none⟩)), (3, .slice z.A z.k z.c), (4, .int .i64 z.k)]) (Le := fun z => .own z.A z.c 3 1 z.k (enI (sortTo (ltQ q.gs) (idxs q.gs.length) z.k)) :: quL q a b0) (μ := fun z => q.gs.length - z.k) ⟨0, none, 0⟩ (Nat.zero_le _) (by repeat (first | exact trivial | refine ⟨rfl, ?_⟩)) (by repeat (first | exact SubL.nil | (apply SubL.cons; (repeat (first | exact At.here | apply At.there))) | exact SubL.refl _ | apply SubL.skip)) (fun z hz => ?_)
  refine sq (h := ?_)
  refine sq (h := ?_)
  refine rg (h := ?_)
  refine WL.y (hy := mv) (h := ?_)
  refine WL.y (hy := (by first | exact fa | exact faE)) (h := ?_)
  refine WL.y (hy := (by first | exact ld | exact ldE)) (h := ?_)
  refine WL.y (hy := lenS) (h := ?_)
  refine WL.y (hy := lss) (h := ?_)
  refine nl (h := ?_)
  refine q_seq (h := ?_)
  refine cd (by exact rfl) (fun h0 => ?_) (fun h0 => ?_)
  · skip
    have hkn : z.k < q.gs.length := by simp only [decide_eq_true_eq] at h0; omega
    have hx : (idxs (z.k + 1))[z.k]? = some (z.k : Int) := idxs_at (by omega)
    have hix : (idxs (z.k + 1)).length = z.k + 1 := idxs_len _
    have hdr : (idxs (z.k + 1)).drop (z.k + 1) = [] := List.drop_of_length_le (by omega)
    have hsx : sortTo (ltQ q.gs) (idxs (z.k + 1)) z.k = sortTo (ltQ q.gs) (idxs q.gs.length) z.k := sortTo_idx _ _ _ _ (by omega) (by omega)
    have hsx1 : sortTo (ltQ q.gs) (idxs (z.k + 1)) (z.k + 1) = sortTo (ltQ q.gs) (idxs q.gs.length) (z.k + 1) := sortTo_idx _ _ _ _ (by omega) (by omega)
    obtain ⟨gx, hgx⟩ : ∃ g, q.gs[z.k]? = some g := ⟨_, List.getElem?_eq_getElem hkn⟩
    have hgxe := encPt_at hgx
    have hst : enI (sortTo (ltQ q.gs) (idxs q.gs.length) z.k) ++ [[.int .i64 (z.k : Int)]] = enI (midV (ltQ q.gs) (idxs (z.k + 1)) z.k z.k (z.k : Int)) := by
      rw [mid_start hx, hsx, List.drop_eq_getElem_cons (by omega), hdr, enI_app]
      simp [idxs]
    have hsl := sortTo_len (ltQ q.gs) (idxs (z.k + 1)) z.k (by omega)
    refine skp (h := ?_)
    refine q_seq (h := ?_)
    refine sq (h := ?_)
    refine bk (h := ?_)
    refine sq (h := ?_)
    refine rg (h := ?_)
    refine WL.y (hy := mv) (h := ?_)
    refine WL.y (hy := mv) (h := ?_)
    refine bs (h := fun b1 => ?_)
    first | refine ap (h := fun A1 c1 => ?_) | refine ap0 (h := fun A1 c1 => ?_)
    refine WL.y (hy := asg) (h := ?_)
    rw [hst]
    refine nl (h := ?_)
    refine q_seq (h := ?_)
    refine sq (h := ?_)
    refine rg (h := ?_)
    refine WL.y (hy := mv) (h := ?_)
    refine WL.y (hy := lenS) (h := ?_)
    refine WL.y (hy := subI) (h := ?_)
    refine WL.y (hy := asg) (h := ?_)
    refine nl (h := ?_)
    refine q_seq (h := ?_)
    refine bk (h := ?_)
    refine lp (X := Nat) (I := fun j => j ≤ z.k ∧ posV (ltQ q.gs) (sortTo (ltQ q.gs) (idxs (z.k + 1)) z.k) z.k z.k = posV (ltQ q.gs) (sortTo (ltQ q.gs) (idxs (z.k + 1)) z.k) z.k j) (le := fun j => [(1, .pointer (some ⟨b0, 0, none⟩)), (3, .slice A1 (z.k + 1) c1), (4, .int .i64 z.k), (5, .int .i64 j)]) (Le := fun j => .own A1 c1 3 1 (z.k + 1) (enI (midV (ltQ q.gs) (idxs (z.k + 1)) z.k j z.k)) :: quL q a b0) (μ := fun j => j) z.k ⟨Nat.le_refl _, rfl⟩ (by repeat (first | exact trivial | refine ⟨rfl, ?_⟩ | refine ⟨by show some (Value.int .i64 (((z.k + 1 : Nat) : Int) - 1)) = some (Value.int .i64 (z.k : Int)); congr 2; omega, ?_⟩)) (by repeat (first | exact SubL.nil | (apply SubL.cons; (repeat (first | exact At.here | apply At.there))) | exact SubL.refl _ | apply SubL.skip)) (fun j hj => ?_)
    obtain ⟨hjk, hjp⟩ := hj
    refine sq (h := ?_)
    refine sq (h := ?_)
    refine rg (h := ?_)
    refine WL.y (hy := mv) (h := ?_)
    refine WL.y (hy := gtr) (h := ?_)
    refine nl (h := ?_)
    refine q_seq (h := ?_)
    refine cd (by exact rfl) (fun h1 => ?_) (fun h1 => ?_)
    · skip
      obtain ⟨i, hi⟩ : ∃ i, j = i + 1 := ⟨j - 1, by have := of_decide_eq_true h1; omega⟩
      subst hi
      obtain ⟨y, hy⟩ : ∃ y, (sortTo (ltQ q.gs) (idxs (z.k + 1)) z.k)[i]? = some y := ⟨_, List.getElem?_eq_getElem (by omega)⟩
      have hyr : 0 ≤ y ∧ y < z.k := by
        have hm := (sortTo_mem (ltQ q.gs) (idxs (z.k + 1)) y z.k (by omega)).1 (List.mem_of_getElem? hy)
        rw [idxs_succ, List.take_append_of_le_length (by simp [idxs_len]), List.take_of_length_le (by simp [idxs_len])] at hm
        exact idxs_mem.1 hm
      obtain ⟨gy, hgy⟩ : ∃ g, q.gs[y.toNat]? = some g := ⟨_, List.getElem?_eq_getElem (by omega)⟩
      have hgye := encPt_at hgy
      have hoc := ord_cond hq (x := z.k) (y := y) (by omega) (by omega) (by omega) (by rw [Int.toNat_natCast]; exact hgx) hgy
      have hbe := mid_below (lt := ltQ q.gs) (xs := idxs (z.k + 1)) (k := z.k) (x := z.k) (by omega) (by omega) hy
      have hae := mid_at (lt := ltQ q.gs) (xs := idxs (z.k + 1)) (k := z.k) (j := i + 1) (x := z.k) (by omega) (by omega)
      have hk0 : (enI (midV (ltQ q.gs) (idxs (z.k + 1)) z.k (i + 1) z.k))[(((i + 1 : Nat) : Int) - 1).toNat]? = some [.int .i64 y] := by rw [show (((i + 1 : Nat) : Int) - 1).toNat = i by omega]; exact enI_at hbe
      have hk1 : (enI (midV (ltQ q.gs) (idxs (z.k + 1)) z.k (i + 1) z.k))[(((i + 1 : Nat) : Int)).toNat]? = some [.int .i64 (z.k : Int)] := enI_at hae
      have hi1 : (((i + 1 : Nat) : Int) - 1).toNat = i := by omega
      have hk2 : ((enI (midV (ltQ q.gs) (idxs (z.k + 1)) z.k (i + 1) z.k)).set (((i + 1 : Nat) : Int) - 1).toNat ([Value.int .i64 y].set 0 (.int .i64 (z.k : Int))))[(((i + 1 : Nat) : Int)).toNat]? = some [.int .i64 (z.k : Int)] := by
        rw [hi1, List.getElem?_set_ne (by show i ≠ i + 1; omega)]
        exact hk1
      have hsw : ((enI (midV (ltQ q.gs) (idxs (z.k + 1)) z.k (i + 1) z.k)).set (((i + 1 : Nat) : Int) - 1).toNat ([Value.int .i64 y].set 0 (.int .i64 (z.k : Int)))).set (((i + 1 : Nat) : Int)).toNat ([Value.int .i64 (z.k : Int)].set 0 (.int .i64 y)) = enI (midV (ltQ q.gs) (idxs (z.k + 1)) z.k i z.k) := by
        rw [hi1]
        show ((enI _).set i [.int .i64 (z.k : Int)]).set (i + 1) [.int .i64 y] = _
        rw [List.set_comm _ _ (by omega), enI_set, enI_set, mid_swap (by omega) (by omega) hy]
      refine skp (h := ?_)
      refine q_seq (h := ?_)
      refine sq (h := ?_)
      refine bk (h := ?_)
      refine sq (h := ?_)
      refine rgD0 (by kernel_rfl) (h := ?_)
      refine tk 0 (hy := (by first | exact fa | exact faE)) (h := ?_)
      refine tk 1 (hy := (by first | exact ld | exact ldE)) (h := ?_)
      refine tk 2 (hy := mv) (h := ?_)
      refine tk 3 (hy := mv) (h := ?_)
      refine tk 4 (hy := subI) (h := ?_)
      refine tk 5 (hy := ix (A := A1)) (h := ?_)
      refine tk 6 (hy := ldE (A := A1) (hk := hk0)) (h := ?_)
      refine tk 7 (hy := ix (A := a.gA)) (h := ?_)
      refine tk 8 (hy := ldEA (A := a.gA) (hk := hgye)) (h := ?_)
      refine tk 9 (hy := (by first | exact fa | exact faE)) (h := ?_)
      refine tk 10 (hy := (by first | exact ld | exact ldE)) (h := ?_)
      refine tk 11 (hy := mv) (h := ?_)
      refine tk 12 (hy := mv) (h := ?_)
      refine tk 13 (hy := ix (A := A1)) (h := ?_)
      refine tk 14 (hy := ldE (A := A1) (hk := hk1)) (h := ?_)
      refine tk 15 (hy := ix (A := a.gA)) (h := ?_)
      refine tk 16 (hy := ldEA (A := a.gA) (hk := hgxe)) (h := ?_)
      refine two 17 18 (h1 := ?_) (h2 := ?_)
      · skip
        refine al (h := fun b2 => ?_)
        refine nx (h := ?_)
        refine one 18 (h := ?_)
        refine al (h := fun b3 => ?_)
        refine nx (h := ?_)
        refine one 19 (h := ?_)
        first | refine stA (h := ?_) | refine stEA (h := ?_)
        refine nx (h := ?_)
        refine one 20 (h := ?_)
        first | refine stA (h := ?_) | refine stEA (h := ?_)
        refine nx (h := ?_)
        refine dn (h := ?_)
        refine q_seq (h := ?_)
        refine sq (h := ?_)
        refine sq (h := ?_)
        refine rg (h := ?_)
        refine WL.y (hy := (by first | exact fa | exact faE)) (h := ?_)
        refine WL.y (hy := (by first | exact ld | exact ldE)) (h := ?_)
        refine WL.y (hy := (by first | exact fa | exact faE)) (h := ?_)
        refine WL.y (hy := (by first | exact ld | exact ldE)) (h := ?_)
        refine WL.y (hy := lss) (h := ?_)
        refine WL.y (hy := mv) (h := ?_)
        apply brOr 13 48 61 (by exact rfl)
        · intro hb2
          refine un (h := ?_)
          refine WL.y (hy := (by first | exact fa | exact faE)) (h := ?_)
          refine un (h := ?_)
          refine WL.y (hy := (by first | exact ld | exact ldE)) (h := ?_)
          refine un (h := ?_)
          refine WL.y (hy := (by first | exact fa | exact faE)) (h := ?_)
          refine un (h := ?_)
          refine WL.y (hy := (by first | exact ld | exact ldE)) (h := ?_)
          refine un (h := ?_)
          refine WL.y (hy := eql) (h := ?_)
          refine un (h := ?_)
          refine WL.y (hy := mv) (h := ?_)
          apply brAnd 6 54 60 (by exact rfl)
          · intro hb3
            refine un (h := ?_)
            refine WL.y (hy := (by first | exact fa | exact faE)) (h := ?_)
            refine un (h := ?_)
            refine WL.y (hy := (by first | exact ld | exact ldE)) (h := ?_)
            refine un (h := ?_)
            refine WL.y (hy := (by first | exact fa | exact faE)) (h := ?_)
            refine un (h := ?_)
            refine WL.y (hy := (by first | exact ld | exact ldE)) (h := ?_)
            refine un (h := ?_)
            refine WL.y (hy := lss) (h := ?_)
            refine un (h := ?_)
            refine WL.y (hy := (by first | exact pkT | exact pkF)) (h := ?_)
            exact mg (by repeat (first | exact trivial | refine ⟨rfl, ?_⟩ | refine ⟨by rw [hb3]; rfl, ?_⟩ | refine ⟨by rw [hb2]; rfl, ?_⟩)) (by repeat (first | exact SubL.nil | (apply SubL.cons; (repeat (first | exact At.here | apply At.there))) | exact SubL.refl _ | apply SubL.skip))
          · intro hb3
            repeat (first | refine un (h := ?_) | refine sk (h := ?_) | refine WL.y (hy := pkF) (h := ?_) | refine WL.y (hy := pkT) (h := ?_))
            exact mg (by repeat (first | exact trivial | refine ⟨rfl, ?_⟩ | refine ⟨by rw [hb3]; rfl, ?_⟩ | refine ⟨by rw [hb2]; rfl, ?_⟩)) (by repeat (first | exact SubL.nil | (apply SubL.cons; (repeat (first | exact At.here | apply At.there))) | exact SubL.refl _ | apply SubL.skip))
          refine WL.y (hy := (by first | exact pkT | exact pkF)) (h := ?_)
          exact mg (by repeat (first | exact trivial | refine ⟨rfl, ?_⟩ | refine ⟨by rw [hb2]; rfl, ?_⟩)) (by repeat (first | exact SubL.nil | (apply SubL.cons; (repeat (first | exact At.here | apply At.there))) | exact SubL.refl _ | apply SubL.skip))
        · intro hb2
          repeat (first | refine un (h := ?_) | refine sk (h := ?_) | refine WL.y (hy := pkF) (h := ?_) | refine WL.y (hy := pkT) (h := ?_))
          exact mg (by repeat (first | exact trivial | refine ⟨rfl, ?_⟩ | refine ⟨by rw [hb2]; rfl, ?_⟩)) (by repeat (first | exact SubL.nil | (apply SubL.cons; (repeat (first | exact At.here | apply At.there))) | exact SubL.refl _ | apply SubL.skip))
        refine nl (h := ?_)
        refine q_seq (h := ?_)
        refine cd (by exact rfl) (fun h4 => ?_) (fun h4 => ?_)
        · skip
          have hex : posV (ltQ q.gs) (sortTo (ltQ q.gs) (idxs (z.k + 1)) z.k) z.k z.k = i + 1 := by rw [hjp, posV_step hy, hoc, h4]; rfl
          refine et (h := ?_)
          refine q_then_exit (h := ?_)
          refine q_blk_miss (h := ?_)
          refine q_then_exit (h := ?_)
          refine q_then_exit (h := ?_)
          refine q_blk_hit (h := ?_)
          refine q_blk_norm (h := ?_)
          refine q_seq (h := ?_)
          refine rg (h := ?_)
          refine WL.y (hy := mv) (h := ?_)
          refine WL.y (hy := addI) (h := ?_)
          refine WL.y (hy := asg) (h := ?_)
          refine nl (h := ?_)
          rw [mid_end hx _ hex, hdr, List.append_nil, hsx1]
          refine rn (x := z) ⟨z.k + 1, A1, c1⟩ (by dsimp only; omega) (by dsimp only; omega) (by repeat (first | exact trivial | refine ⟨rfl, ?_⟩)) (by repeat (first | exact SubL.nil | (apply SubL.cons; (repeat (first | exact At.here | apply At.there))) | exact SubL.refl _ | apply SubL.skip))
        · skip
          have hp2 : posV (ltQ q.gs) (sortTo (ltQ q.gs) (idxs (z.k + 1)) z.k) z.k z.k = posV (ltQ q.gs) (sortTo (ltQ q.gs) (idxs (z.k + 1)) z.k) z.k i := by rw [hjp, posV_step hy, hoc, h4]; rfl
          refine skp (h := ?_)
          refine q_seq (h := ?_)
          refine WC.some_ (A := A1) (k := z.k + 1) (by repeat (first | exact At.here | apply At.there)) (by omega) (h := fun hAs => ?_)
          refine rgD (by kernel_rfl) [(15, .own A1 c1 3 1 (z.k + 1) (enI (midV (ltQ q.gs) (idxs (z.k + 1)) z.k (i + 1) z.k)))] (by repeat (first | exact HS.nil | (apply HS.keep; (repeat (first | exact At.here | apply At.there))) | (apply HS.ro; (repeat (first | exact Rds.ro | exact Rds.own | apply Rds.there))))) (h := ?_)
          refine tk 0 (hy := mv) (h := ?_)
          refine tk 1 (hy := mv) (h := ?_)
          refine tk 2 (hy := subI) (h := ?_)
          refine tk 3 (hy := mv) (h := ?_)
          refine tk 4 (hy := mv) (h := ?_)
          refine tk 5 (hy := mv) (h := ?_)
          refine tk 6 (hy := mv) (h := ?_)
          refine tk 7 (hy := ix (A := A1)) (h := ?_)
          refine tk 8 (hy := ldE (A := A1) (hk := hk1)) (h := ?_)
          refine tk 9 (hy := mv) (h := ?_)
          refine tk 10 (hy := mv) (h := ?_)
          refine tk 11 (hy := subI) (h := ?_)
          refine tk 12 (hy := ixS (A := A1) (hs := hAs)) (h := ?_)
          refine tk 13 (hy := ldE (A := A1) (hk := hk0)) (h := ?_)
          refine tk 14 (hy := ix (A := A1)) (h := ?_)
          refine one 15 (h := ?_)
          refine stE (A := A1) (hk := hk0) (h := ?_)
          refine nx (h := ?_)
          refine one 16 (h := ?_)
          refine WL.y (hy := ix (A := A1)) (h := ?_)
          refine nx (h := ?_)
          refine one 17 (h := ?_)
          refine stE (A := A1) (hk := hk2) (h := ?_)
          refine nx (h := ?_)
          refine dn (h := ?_)
          refine q_blk_norm (h := ?_)
          refine q_seq (h := ?_)
          refine rg (h := ?_)
          refine WL.y (hy := mv) (h := ?_)
          refine WL.y (hy := subI) (h := ?_)
          refine WL.y (hy := asg) (h := ?_)
          refine nl (h := ?_)
          rw [hsw]
          refine rn (x := i + 1) i ⟨by omega, hp2⟩ (by omega) (by repeat (first | exact trivial | refine ⟨rfl, ?_⟩ | refine ⟨by show some (Value.int .i64 (((i + 1 : Nat) : Int) - 1)) = some (Value.int .i64 (i : Int)); congr 2; omega, ?_⟩)) (by repeat (first | exact SubL.nil | (apply SubL.cons; (repeat (first | exact At.here | apply At.there))) | exact SubL.refl _ | apply SubL.skip))
      · skip
        refine al (h := fun b4 => ?_)
        refine nx (h := ?_)
        refine one 17 (h := ?_)
        refine al (h := fun b5 => ?_)
        refine nx (h := ?_)
        refine one 19 (h := ?_)
        first | refine stA (h := ?_) | refine stEA (h := ?_)
        refine nx (h := ?_)
        refine one 20 (h := ?_)
        first | refine stA (h := ?_) | refine stEA (h := ?_)
        refine nx (h := ?_)
        refine dn (h := ?_)
        refine q_seq (h := ?_)
        refine sq (h := ?_)
        refine sq (h := ?_)
        refine rg (h := ?_)
        refine WL.y (hy := (by first | exact fa | exact faE)) (h := ?_)
        refine WL.y (hy := (by first | exact ld | exact ldE)) (h := ?_)
        refine WL.y (hy := (by first | exact fa | exact faE)) (h := ?_)
        refine WL.y (hy := (by first | exact ld | exact ldE)) (h := ?_)
        refine WL.y (hy := lss) (h := ?_)
        refine WL.y (hy := mv) (h := ?_)
        apply brOr 13 48 61 (by exact rfl)
        · intro hb5
          refine un (h := ?_)
          refine WL.y (hy := (by first | exact fa | exact faE)) (h := ?_)
          refine un (h := ?_)
          refine WL.y (hy := (by first | exact ld | exact ldE)) (h := ?_)
          refine un (h := ?_)
          refine WL.y (hy := (by first | exact fa | exact faE)) (h := ?_)
          refine un (h := ?_)
          refine WL.y (hy := (by first | exact ld | exact ldE)) (h := ?_)
          refine un (h := ?_)
          refine WL.y (hy := eql) (h := ?_)
          refine un (h := ?_)
          refine WL.y (hy := mv) (h := ?_)
          apply brAnd 6 54 60 (by exact rfl)
          · intro hb6
            refine un (h := ?_)
            refine WL.y (hy := (by first | exact fa | exact faE)) (h := ?_)
            refine un (h := ?_)
            refine WL.y (hy := (by first | exact ld | exact ldE)) (h := ?_)
            refine un (h := ?_)
            refine WL.y (hy := (by first | exact fa | exact faE)) (h := ?_)
            refine un (h := ?_)
            refine WL.y (hy := (by first | exact ld | exact ldE)) (h := ?_)
            refine un (h := ?_)
            refine WL.y (hy := lss) (h := ?_)
            refine un (h := ?_)
            refine WL.y (hy := (by first | exact pkT | exact pkF)) (h := ?_)
            exact mg (by repeat (first | exact trivial | refine ⟨rfl, ?_⟩ | refine ⟨by rw [hb6]; rfl, ?_⟩ | refine ⟨by rw [hb5]; rfl, ?_⟩)) (by repeat (first | exact SubL.nil | (apply SubL.cons; (repeat (first | exact At.here | apply At.there))) | exact SubL.refl _ | apply SubL.skip))
          · intro hb6
            repeat (first | refine un (h := ?_) | refine sk (h := ?_) | refine WL.y (hy := pkF) (h := ?_) | refine WL.y (hy := pkT) (h := ?_))
            exact mg (by repeat (first | exact trivial | refine ⟨rfl, ?_⟩ | refine ⟨by rw [hb6]; rfl, ?_⟩ | refine ⟨by rw [hb5]; rfl, ?_⟩)) (by repeat (first | exact SubL.nil | (apply SubL.cons; (repeat (first | exact At.here | apply At.there))) | exact SubL.refl _ | apply SubL.skip))
          refine WL.y (hy := (by first | exact pkT | exact pkF)) (h := ?_)
          exact mg (by repeat (first | exact trivial | refine ⟨rfl, ?_⟩ | refine ⟨by rw [hb5]; rfl, ?_⟩)) (by repeat (first | exact SubL.nil | (apply SubL.cons; (repeat (first | exact At.here | apply At.there))) | exact SubL.refl _ | apply SubL.skip))
        · intro hb5
          repeat (first | refine un (h := ?_) | refine sk (h := ?_) | refine WL.y (hy := pkF) (h := ?_) | refine WL.y (hy := pkT) (h := ?_))
          exact mg (by repeat (first | exact trivial | refine ⟨rfl, ?_⟩ | refine ⟨by rw [hb5]; rfl, ?_⟩)) (by repeat (first | exact SubL.nil | (apply SubL.cons; (repeat (first | exact At.here | apply At.there))) | exact SubL.refl _ | apply SubL.skip))
        refine nl (h := ?_)
        refine q_seq (h := ?_)
        refine cd (by exact rfl) (fun h7 => ?_) (fun h7 => ?_)
        · skip
          have hex : posV (ltQ q.gs) (sortTo (ltQ q.gs) (idxs (z.k + 1)) z.k) z.k z.k = i + 1 := by rw [hjp, posV_step hy, hoc, h7]; rfl
          refine et (h := ?_)
          refine q_then_exit (h := ?_)
          refine q_blk_miss (h := ?_)
          refine q_then_exit (h := ?_)
          refine q_then_exit (h := ?_)
          refine q_blk_hit (h := ?_)
          refine q_blk_norm (h := ?_)
          refine q_seq (h := ?_)
          refine rg (h := ?_)
          refine WL.y (hy := mv) (h := ?_)
          refine WL.y (hy := addI) (h := ?_)
          refine WL.y (hy := asg) (h := ?_)
          refine nl (h := ?_)
          rw [mid_end hx _ hex, hdr, List.append_nil, hsx1]
          refine rn (x := z) ⟨z.k + 1, A1, c1⟩ (by dsimp only; omega) (by dsimp only; omega) (by repeat (first | exact trivial | refine ⟨rfl, ?_⟩)) (by repeat (first | exact SubL.nil | (apply SubL.cons; (repeat (first | exact At.here | apply At.there))) | exact SubL.refl _ | apply SubL.skip))
        · skip
          have hp2 : posV (ltQ q.gs) (sortTo (ltQ q.gs) (idxs (z.k + 1)) z.k) z.k z.k = posV (ltQ q.gs) (sortTo (ltQ q.gs) (idxs (z.k + 1)) z.k) z.k i := by rw [hjp, posV_step hy, hoc, h7]; rfl
          refine skp (h := ?_)
          refine q_seq (h := ?_)
          refine WC.some_ (A := A1) (k := z.k + 1) (by repeat (first | exact At.here | apply At.there)) (by omega) (h := fun hAs => ?_)
          refine rgD (by kernel_rfl) [(15, .own A1 c1 3 1 (z.k + 1) (enI (midV (ltQ q.gs) (idxs (z.k + 1)) z.k (i + 1) z.k)))] (by repeat (first | exact HS.nil | (apply HS.keep; (repeat (first | exact At.here | apply At.there))) | (apply HS.ro; (repeat (first | exact Rds.ro | exact Rds.own | apply Rds.there))))) (h := ?_)
          refine tk 0 (hy := mv) (h := ?_)
          refine tk 1 (hy := mv) (h := ?_)
          refine tk 2 (hy := subI) (h := ?_)
          refine tk 3 (hy := mv) (h := ?_)
          refine tk 4 (hy := mv) (h := ?_)
          refine tk 5 (hy := mv) (h := ?_)
          refine tk 6 (hy := mv) (h := ?_)
          refine tk 7 (hy := ix (A := A1)) (h := ?_)
          refine tk 8 (hy := ldE (A := A1) (hk := hk1)) (h := ?_)
          refine tk 9 (hy := mv) (h := ?_)
          refine tk 10 (hy := mv) (h := ?_)
          refine tk 11 (hy := subI) (h := ?_)
          refine tk 12 (hy := ixS (A := A1) (hs := hAs)) (h := ?_)
          refine tk 13 (hy := ldE (A := A1) (hk := hk0)) (h := ?_)
          refine tk 14 (hy := ix (A := A1)) (h := ?_)
          refine one 15 (h := ?_)
          refine stE (A := A1) (hk := hk0) (h := ?_)
          refine nx (h := ?_)
          refine one 16 (h := ?_)
          refine WL.y (hy := ix (A := A1)) (h := ?_)
          refine nx (h := ?_)
          refine one 17 (h := ?_)
          refine stE (A := A1) (hk := hk2) (h := ?_)
          refine nx (h := ?_)
          refine dn (h := ?_)
          refine q_blk_norm (h := ?_)
          refine q_seq (h := ?_)
          refine rg (h := ?_)
          refine WL.y (hy := mv) (h := ?_)
          refine WL.y (hy := subI) (h := ?_)
          refine WL.y (hy := asg) (h := ?_)
          refine nl (h := ?_)
          rw [hsw]
          refine rn (x := i + 1) i ⟨by omega, hp2⟩ (by omega) (by repeat (first | exact trivial | refine ⟨rfl, ?_⟩ | refine ⟨by show some (Value.int .i64 (((i + 1 : Nat) : Int) - 1)) = some (Value.int .i64 (i : Int)); congr 2; omega, ?_⟩)) (by repeat (first | exact SubL.nil | (apply SubL.cons; (repeat (first | exact At.here | apply At.there))) | exact SubL.refl _ | apply SubL.skip))
    · skip
      obtain rfl : j = 0 := by have := of_decide_eq_false h1; omega
      have hex : posV (ltQ q.gs) (sortTo (ltQ q.gs) (idxs (z.k + 1)) z.k) z.k z.k = 0 := hjp
      refine et (h := ?_)
      refine q_then_exit (h := ?_)
      refine q_then_exit (h := ?_)
      refine q_blk_hit (h := ?_)
      refine q_blk_norm (h := ?_)
      refine q_seq (h := ?_)
      refine rg (h := ?_)
      refine WL.y (hy := mv) (h := ?_)
      refine WL.y (hy := addI) (h := ?_)
      refine WL.y (hy := asg) (h := ?_)
      refine nl (h := ?_)
      rw [mid_end hx _ hex, hdr, List.append_nil, hsx1]
      refine rn (x := z) ⟨z.k + 1, A1, c1⟩ (by dsimp only; omega) (by dsimp only; omega) (by repeat (first | exact trivial | refine ⟨rfl, ?_⟩)) (by repeat (first | exact SubL.nil | (apply SubL.cons; (repeat (first | exact At.here | apply At.there))) | exact SubL.refl _ | apply SubL.skip))
  · skip
    have hkn : z.k = q.gs.length := by simp only [decide_eq_false_iff_not] at h0; omega
    have hfin : sortTo (ltQ q.gs) (idxs q.gs.length) z.k = ordV q := by rw [hkn, ordV, sortV, idxs_len]
    rw [hfin, hkn]
    refine et (h := ?_)
    refine q_then_exit (h := ?_)
    refine q_then_exit (h := ?_)
    refine q_blk_hit (h := ?_)
    refine q_seq (h := ?_)
    refine sq (h := ?_)
    refine rg (h := ?_)
    refine WL.y (hy := mv) (h := ?_)
    refine WL.y (hy := asg) (h := ?_)
    refine nl (h := ?_)
    refine q_seq (h := ?_)
    refine rtn (h := ?_)
    refine q_ret (hR := ?_)
    exact fun w hS => ⟨(z.A, z.c), trivial, rfl, hS.sub (by repeat (first | exact SubL.nil | (apply SubL.cons; (repeat (first | exact At.here | apply At.there))) | exact SubL.refl _ | apply SubL.skip))⟩
end Go.Proofs.Ytbcclgfobiholaa
