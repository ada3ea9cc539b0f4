/- Walk of the reference of score: orders. -/
import Derived.Test.YtacaojifempclaaUF
namespace Go.Proofs.Ytacaojifempclaa
open Go Go.RowKit

structure OX where
  (A1 : Option Addr) (c1 : Nat) (T : List MR) (A2 : Option Addr) (c2 : Nat) (U : List MR)
structure OA where
  (k : Nat) (T U : List MR) (A1 : Option Addr) (c1 : Nat) (A2 : Option Addr) (c2 : Nat)
structure OB where
  (k : Nat) (T U : List MR)
def OrdOk (f : Fmt) (s : Pr) (x : OX) : Prop := (Mx 45 x.T (mxV x.T) ∧ Mx 45 x.U (mxV x.U)) ∧ ∀ i j : Nat, i < 45 → j < 45 → (0 < gv x.T i j ↔ expT f s i j = some false) ∧ (gv x.U i j = 0 ↔ ¬ expT f s i j = some true)
theorem zero_mx {T : List MR} (hl : T.length = 45) (hz : ∀ h ∈ T, h.2.2 = zrow 45) : Mx 45 T (mxV T) ∧ ∀ i j, gv T i j = 0 := by
  refine ⟨⟨rfl, hl, fun h hh => by rw [hz h hh]; exact zrow_len 45⟩, fun i j => ?_⟩
  unfold gv
  cases h : T[i]? with
  | none => simp
  | some r =>
    rw [Option.getD_some, hz r (List.mem_of_getElem? h), zrow, List.getD_eq_getElem?_getD, List.getElem?_replicate]
    by_cases hj : j < 45
    · rw [if_pos hj]; rfl
    · rw [if_neg hj]; rfl
theorem tgt_at {sum a k : Nat} (hk : k < 2) (ha : a ≤ sum) : ∃ p1 p2 : Nat, addV ((a : Int), ((sum - a : Nat) : Int)) k = ((p1 : Int), (p2 : Int)) ∧ Tgt sum a k p1 p2 := by
  have : k = 0 ∨ k = 1 := by omega
  rcases this with rfl | rfl
  · exact ⟨a + 1, sum - a, rfl, .inl ⟨rfl, by omega, by omega⟩⟩
  · exact ⟨a, sum - a + 1, rfl, .inr ⟨rfl, rfl, by omega⟩⟩
set_option maxRecDepth 100000 in
set_option maxHeartbeats 4000000 in
theorem C_orders (f : Fmt) (last : Bool) (hf : f.Ok) (ht : TieOk f (ruleV f last)) (w : World) : CR Try.prog 89 [f.val, .bool last] w (OrdOk f (ruleV f last)) (fun x => .tuple #[.slice x.A1 45 x.c1, .slice x.A2 45 x.c2]) (fun x => [.own x.A1 x.c1 45 1 45 (mxV x.T), mxE 3 x.T, .own x.A2 x.c2 45 1 45 (mxV x.U), mxE 3 x.U]) := by
  have hg0 := hf.g0
  have hg1 := hf.g1
  refine ⟨en Try.func89 Try.ntmps89 (St.init w) (h := fun F => ?_)⟩
  refine sq (h := ?_)
  refine rg (h := ?_)
  refine bxA (h := fun b0 => ?_)
  refine WL.y (hy := asg) (h := ?_)
  refine WL.y (hy := asg) (h := ?_)
  refine nl (h := ?_)
  refine q_seq (h := ?_)
  refine sq (h := ?_)
  refine rg (h := ?_)
  refine WL.y (hy := (by first | exact ldA | exact ldEA)) (h := ?_)
  refine WL.y (hy := mv) (h := ?_)
  refine cl0 (hc := fun w hS => C_ref1_Rule f last w) (h := ?_)
  refine WL.y (hy := mv) (h := ?_)
  refine WL.y (hy := ex) (h := ?_)
  refine WL.y (hy := ex) (h := ?_)
  refine WL.y (hy := asg) (h := ?_)
  refine WL.y (hy := asg) (h := ?_)
  refine nl (h := ?_)
  refine q_seq (h := ?_)
  refine sq (h := ?_)
  refine sq (h := ?_)
  refine WC.nilOwn 45 1 (h := ?_)
  refine WC.nilOwn 45 1 (h := ?_)
  refine WC.mx0 3 (h := ?_)
  refine WC.mx0 3 (h := ?_)
  refine rg (h := ?_)
  refine WL.y (hy := asg) (h := ?_)
  refine nl (h := ?_)
  refine q_seq (h := ?_)
  refine bk (h := ?_)
  refine lp (X := OA) (I := fun z => (z.k ≤ 45 ∧ z.T.length = z.k ∧ z.U.length = z.k) ∧ (∀ h ∈ z.T, h.2.2 = zrow 45) ∧ (∀ h ∈ z.U, h.2.2 = zrow 45)) (le := fun z => [(2, .pointer (some ⟨b0, 0, none⟩)), (4, .slice z.A1 z.k z.c1), (5, .slice z.A2 z.k z.c2), (6, .int .i64 (ruleV f last).1), (8, .int .i64 z.k)]) (Le := fun z => [.own z.A1 z.c1 45 1 z.k (mxV z.T), .own z.A2 z.c2 45 1 z.k (mxV z.U), mxE 3 z.T, mxE 3 z.U, .blk b0 23 f.cells]) (μ := fun z => 45 - z.k) ⟨0, [], [], none, 0, none, 0⟩ ⟨⟨Nat.zero_le _, rfl, rfl⟩, fun h hh => (by cases hh), fun h hh => (by cases hh)⟩ (by repeat (first | exact trivial | refine ⟨rfl, ?_⟩)) (by repeat (first | exact SubL.nil | (apply SubL.cons; (repeat (first | exact At.here | apply At.there))) | exact SubL.refl _ | apply SubL.skip)) (fun z hz => ?_)
  obtain ⟨⟨hz1, hz2, hz3⟩, hz4, hz5⟩ := hz
  refine sq (h := ?_)
  refine sq (h := ?_)
  refine rg (h := ?_)
  refine WL.y (hy := mv) (h := ?_)
  refine WL.y (hy := leq) (h := ?_)
  refine nl (h := ?_)
  refine q_seq (h := ?_)
  refine cd (by exact rfl) (fun h0 => ?_) (fun h0 => ?_)
  · skip
    have hkn : z.k < 45 := by simp only [decide_eq_true_eq] at h0; omega
    refine skp (h := ?_)
    refine q_seq (h := ?_)
    refine sq (h := ?_)
    refine bk (h := ?_)
    refine rgD (by kernel_rfl) [(3, .own z.A1 z.c1 45 1 z.k (mxV z.T)), (7, .own z.A2 z.c2 45 1 z.k (mxV z.U)), (1000000, mxE 3 z.T), (1000000, mxE 3 z.U), (1000000, .blk b0 23 f.cells)] (by repeat (first | exact HS.nil | (apply HS.keep; (repeat (first | exact At.here | apply At.there))) | (apply HS.ro; (repeat (first | exact Rds.ro | exact Rds.own | apply Rds.there))))) (h := ?_)
    refine tk 0 (hy := mv) (h := ?_)
    refine tk 4 (hy := mv) (h := ?_)
    refine two 1 5 (h1 := ?_) (h2 := ?_)
    · skip
      refine mks 45 (h := fun ga => ?_)
      refine nx (h := ?_)
      refine two 2 5 (h1 := ?_) (h2 := ?_)
      · skip
        refine bs (h := fun b1 => ?_)
        refine nx (h := ?_)
        refine two 3 5 (h1 := ?_) (h2 := ?_)
        · skip
          first | refine ap (h := fun A1 c1 => ?_) | refine ap0 (h := fun A1 c1 => ?_)
          refine nx (h := ?_)
          refine one 5 (h := ?_)
          refine mks 45 (h := fun gb => ?_)
          refine nx (h := ?_)
          refine one 6 (h := ?_)
          refine bs (h := fun b2 => ?_)
          refine nx (h := ?_)
          refine one 7 (h := ?_)
          first | refine ap (h := fun A2 c2 => ?_) | refine ap0 (h := fun A2 c2 => ?_)
          refine nx (h := ?_)
          refine tk 8 (hy := asg) (h := ?_)
          refine tk 9 (hy := asg) (h := ?_)
          refine dn (h := ?_)
          refine q_blk_norm (h := ?_)
          refine q_seq (h := ?_)
          rw [← mxV_z (some ⟨ga, 0, none⟩) 45 45, ← mxV_app, ← mxV_z (some ⟨gb, 0, none⟩) 45 45, ← mxV_app]
          refine WC.mxAdd (hs := z.T) (some ⟨ga, 0, none⟩) 45 (zrow 45) (by repeat (first | exact At.here | apply At.there)) (by repeat (first | exact At.here | apply At.there)) rfl (zrow_mi 45) ?_
          refine WC.mxAdd (hs := z.U) (some ⟨gb, 0, none⟩) 45 (zrow 45) (by repeat (first | exact At.here | apply At.there)) (by repeat (first | exact At.here | apply At.there)) rfl (zrow_mi 45) ?_
          refine rg (h := ?_)
          refine WL.y (hy := mv) (h := ?_)
          refine WL.y (hy := addI) (h := ?_)
          refine WL.y (hy := asg) (h := ?_)
          refine nl (h := ?_)
          refine rn (x := z) ⟨z.k + 1, z.T ++ [(some ⟨ga, 0, none⟩, 45, zrow 45)], z.U ++ [(some ⟨gb, 0, none⟩, 45, zrow 45)], _, _, _, _⟩ ⟨⟨by dsimp only; omega, by dsimp only; rw [List.length_append, hz2]; rfl, by dsimp only; rw [List.length_append, hz3]; rfl⟩, fun h hh => by
            dsimp only at hh
            rcases List.mem_append.1 hh with hh | hh
            · exact hz4 h hh
            · simp only [List.mem_singleton] at hh; subst hh; rfl, fun h hh => by
            dsimp only at hh
            rcases List.mem_append.1 hh with hh | hh
            · exact hz5 h hh
            · simp only [List.mem_singleton] at hh; subst hh; rfl⟩ (by dsimp only; omega) (by repeat (first | exact trivial | refine ⟨rfl, ?_⟩)) (by repeat (first | exact SubL.nil | (apply SubL.cons; (repeat (first | exact At.here | apply At.there))) | exact SubL.refl _ | apply SubL.skip))
        · skip
          refine mks 45 (h := fun gb => ?_)
          refine nx (h := ?_)
          refine two 3 6 (h1 := ?_) (h2 := ?_)
          · skip
            first | refine ap (h := fun A3 c3 => ?_) | refine ap0 (h := fun A3 c3 => ?_)
            refine nx (h := ?_)
            refine one 6 (h := ?_)
            refine bs (h := fun b3 => ?_)
            refine nx (h := ?_)
            refine one 7 (h := ?_)
            first | refine ap (h := fun A4 c4 => ?_) | refine ap0 (h := fun A4 c4 => ?_)
            refine nx (h := ?_)
            refine tk 8 (hy := asg) (h := ?_)
            refine tk 9 (hy := asg) (h := ?_)
            refine dn (h := ?_)
            refine q_blk_norm (h := ?_)
            refine q_seq (h := ?_)
            rw [← mxV_z (some ⟨ga, 0, none⟩) 45 45, ← mxV_app, ← mxV_z (some ⟨gb, 0, none⟩) 45 45, ← mxV_app]
            refine WC.mxAdd (hs := z.T) (some ⟨ga, 0, none⟩) 45 (zrow 45) (by repeat (first | exact At.here | apply At.there)) (by repeat (first | exact At.here | apply At.there)) rfl (zrow_mi 45) ?_
            refine WC.mxAdd (hs := z.U) (some ⟨gb, 0, none⟩) 45 (zrow 45) (by repeat (first | exact At.here | apply At.there)) (by repeat (first | exact At.here | apply At.there)) rfl (zrow_mi 45) ?_
            refine rg (h := ?_)
            refine WL.y (hy := mv) (h := ?_)
            refine WL.y (hy := addI) (h := ?_)
            refine WL.y (hy := asg) (h := ?_)
            refine nl (h := ?_)
            refine rn (x := z) ⟨z.k + 1, z.T ++ [(some ⟨ga, 0, none⟩, 45, zrow 45)], z.U ++ [(some ⟨gb, 0, none⟩, 45, zrow 45)], _, _, _, _⟩ ⟨⟨by dsimp only; omega, by dsimp only; rw [List.length_append, hz2]; rfl, by dsimp only; rw [List.length_append, hz3]; rfl⟩, fun h hh => by
              dsimp only at hh
              rcases List.mem_append.1 hh with hh | hh
              · exact hz4 h hh
              · simp only [List.mem_singleton] at hh; subst hh; rfl, fun h hh => by
              dsimp only at hh
              rcases List.mem_append.1 hh with hh | hh
              · exact hz5 h hh
              · simp only [List.mem_singleton] at hh; subst hh; rfl⟩ (by dsimp only; omega) (by repeat (first | exact trivial | refine ⟨rfl, ?_⟩)) (by repeat (first | exact SubL.nil | (apply SubL.cons; (repeat (first | exact At.here | apply At.there))) | exact SubL.refl _ | apply SubL.skip))
          · skip
            refine bs (h := fun b4 => ?_)
            refine nx (h := ?_)
            refine one 3 (h := ?_)
            first | refine ap (h := fun A5 c5 => ?_) | refine ap0 (h := fun A5 c5 => ?_)
            refine nx (h := ?_)
            refine one 7 (h := ?_)
            first | refine ap (h := fun A6 c6 => ?_) | refine ap0 (h := fun A6 c6 => ?_)
            refine nx (h := ?_)
            refine tk 8 (hy := asg) (h := ?_)
            refine tk 9 (hy := asg) (h := ?_)
            refine dn (h := ?_)
            refine q_blk_norm (h := ?_)
            refine q_seq (h := ?_)
            rw [← mxV_z (some ⟨ga, 0, none⟩) 45 45, ← mxV_app, ← mxV_z (some ⟨gb, 0, none⟩) 45 45, ← mxV_app]
            refine WC.mxAdd (hs := z.T) (some ⟨ga, 0, none⟩) 45 (zrow 45) (by repeat (first | exact At.here | apply At.there)) (by repeat (first | exact At.here | apply At.there)) rfl (zrow_mi 45) ?_
            refine WC.mxAdd (hs := z.U) (some ⟨gb, 0, none⟩) 45 (zrow 45) (by repeat (first | exact At.here | apply At.there)) (by repeat (first | exact At.here | apply At.there)) rfl (zrow_mi 45) ?_
            refine rg (h := ?_)
            refine WL.y (hy := mv) (h := ?_)
            refine WL.y (hy := addI) (h := ?_)
            refine WL.y (hy := asg) (h := ?_)
            refine nl (h := ?_)
            refine rn (x := z) ⟨z.k + 1, z.T ++ [(some ⟨ga, 0, none⟩, 45, zrow 45)], z.U ++ [(some ⟨gb, 0, none⟩, 45, zrow 45)], _, _, _, _⟩ ⟨⟨by dsimp only; omega, by dsimp only; rw [List.length_append, hz2]; rfl, by dsimp only; rw [List.length_append, hz3]; rfl⟩, fun h hh => by
              dsimp only at hh
              rcases List.mem_append.1 hh with hh | hh
              · exact hz4 h hh
              · simp only [List.mem_singleton] at hh; subst hh; rfl, fun h hh => by
              dsimp only at hh
              rcases List.mem_append.1 hh with hh | hh
              · exact hz5 h hh
              · simp only [List.mem_singleton] at hh; subst hh; rfl⟩ (by dsimp only; omega) (by repeat (first | exact trivial | refine ⟨rfl, ?_⟩)) (by repeat (first | exact SubL.nil | (apply SubL.cons; (repeat (first | exact At.here | apply At.there))) | exact SubL.refl _ | apply SubL.skip))
      · skip
        refine mks 45 (h := fun gb => ?_)
        refine nx (h := ?_)
        refine two 2 6 (h1 := ?_) (h2 := ?_)
        · skip
          refine bs (h := fun b5 => ?_)
          refine nx (h := ?_)
          refine two 3 6 (h1 := ?_) (h2 := ?_)
          · skip
            first | refine ap (h := fun A7 c7 => ?_) | refine ap0 (h := fun A7 c7 => ?_)
            refine nx (h := ?_)
            refine one 6 (h := ?_)
            refine bs (h := fun b6 => ?_)
            refine nx (h := ?_)
            refine one 7 (h := ?_)
            first | refine ap (h := fun A8 c8 => ?_) | refine ap0 (h := fun A8 c8 => ?_)
            refine nx (h := ?_)
            refine tk 8 (hy := asg) (h := ?_)
            refine tk 9 (hy := asg) (h := ?_)
            refine dn (h := ?_)
            refine q_blk_norm (h := ?_)
            refine q_seq (h := ?_)
            rw [← mxV_z (some ⟨ga, 0, none⟩) 45 45, ← mxV_app, ← mxV_z (some ⟨gb, 0, none⟩) 45 45, ← mxV_app]
            refine WC.mxAdd (hs := z.T) (some ⟨ga, 0, none⟩) 45 (zrow 45) (by repeat (first | exact At.here | apply At.there)) (by repeat (first | exact At.here | apply At.there)) rfl (zrow_mi 45) ?_
            refine WC.mxAdd (hs := z.U) (some ⟨gb, 0, none⟩) 45 (zrow 45) (by repeat (first | exact At.here | apply At.there)) (by repeat (first | exact At.here | apply At.there)) rfl (zrow_mi 45) ?_
            refine rg (h := ?_)
            refine WL.y (hy := mv) (h := ?_)
            refine WL.y (hy := addI) (h := ?_)
            refine WL.y (hy := asg) (h := ?_)
            refine nl (h := ?_)
            refine rn (x := z) ⟨z.k + 1, z.T ++ [(some ⟨ga, 0, none⟩, 45, zrow 45)], z.U ++ [(some ⟨gb, 0, none⟩, 45, zrow 45)], _, _, _, _⟩ ⟨⟨by dsimp only; omega, by dsimp only; rw [List.length_append, hz2]; rfl, by dsimp only; rw [List.length_append, hz3]; rfl⟩, fun h hh => by
              dsimp only at hh
              rcases List.mem_append.1 hh with hh | hh
              · exact hz4 h hh
              · simp only [List.mem_singleton] at hh; subst hh; rfl, fun h hh => by
              dsimp only at hh
              rcases List.mem_append.1 hh with hh | hh
              · exact hz5 h hh
              · simp only [List.mem_singleton] at hh; subst hh; rfl⟩ (by dsimp only; omega) (by repeat (first | exact trivial | refine ⟨rfl, ?_⟩)) (by repeat (first | exact SubL.nil | (apply SubL.cons; (repeat (first | exact At.here | apply At.there))) | exact SubL.refl _ | apply SubL.skip))
          · skip
            refine bs (h := fun b7 => ?_)
            refine nx (h := ?_)
            refine one 3 (h := ?_)
            first | refine ap (h := fun A9 c9 => ?_) | refine ap0 (h := fun A9 c9 => ?_)
            refine nx (h := ?_)
            refine one 7 (h := ?_)
            first | refine ap (h := fun A10 c10 => ?_) | refine ap0 (h := fun A10 c10 => ?_)
            refine nx (h := ?_)
            refine tk 8 (hy := asg) (h := ?_)
            refine tk 9 (hy := asg) (h := ?_)
            refine dn (h := ?_)
            refine q_blk_norm (h := ?_)
            refine q_seq (h := ?_)
            rw [← mxV_z (some ⟨ga, 0, none⟩) 45 45, ← mxV_app, ← mxV_z (some ⟨gb, 0, none⟩) 45 45, ← mxV_app]
            refine WC.mxAdd (hs := z.T) (some ⟨ga, 0, none⟩) 45 (zrow 45) (by repeat (first | exact At.here | apply At.there)) (by repeat (first | exact At.here | apply At.there)) rfl (zrow_mi 45) ?_
            refine WC.mxAdd (hs := z.U) (some ⟨gb, 0, none⟩) 45 (zrow 45) (by repeat (first | exact At.here | apply At.there)) (by repeat (first | exact At.here | apply At.there)) rfl (zrow_mi 45) ?_
            refine rg (h := ?_)
            refine WL.y (hy := mv) (h := ?_)
            refine WL.y (hy := addI) (h := ?_)
            refine WL.y (hy := asg) (h := ?_)
            refine nl (h := ?_)
            refine rn (x := z) ⟨z.k + 1, z.T ++ [(some ⟨ga, 0, none⟩, 45, zrow 45)], z.U ++ [(some ⟨gb, 0, none⟩, 45, zrow 45)], _, _, _, _⟩ ⟨⟨by dsimp only; omega, by dsimp only; rw [List.length_append, hz2]; rfl, by dsimp only; rw [List.length_append, hz3]; rfl⟩, fun h hh => by
              dsimp only at hh
              rcases List.mem_append.1 hh with hh | hh
              · exact hz4 h hh
              · simp only [List.mem_singleton] at hh; subst hh; rfl, fun h hh => by
              dsimp only at hh
              rcases List.mem_append.1 hh with hh | hh
              · exact hz5 h hh
              · simp only [List.mem_singleton] at hh; subst hh; rfl⟩ (by dsimp only; omega) (by repeat (first | exact trivial | refine ⟨rfl, ?_⟩)) (by repeat (first | exact SubL.nil | (apply SubL.cons; (repeat (first | exact At.here | apply At.there))) | exact SubL.refl _ | apply SubL.skip))
        · skip
          refine bs (h := fun b8 => ?_)
          refine nx (h := ?_)
          refine one 2 (h := ?_)
          refine bs (h := fun b9 => ?_)
          refine nx (h := ?_)
          refine one 3 (h := ?_)
          first | refine ap (h := fun A11 c11 => ?_) | refine ap0 (h := fun A11 c11 => ?_)
          refine nx (h := ?_)
          refine one 7 (h := ?_)
          first | refine ap (h := fun A12 c12 => ?_) | refine ap0 (h := fun A12 c12 => ?_)
          refine nx (h := ?_)
          refine tk 8 (hy := asg) (h := ?_)
          refine tk 9 (hy := asg) (h := ?_)
          refine dn (h := ?_)
          refine q_blk_norm (h := ?_)
          refine q_seq (h := ?_)
          rw [← mxV_z (some ⟨ga, 0, none⟩) 45 45, ← mxV_app, ← mxV_z (some ⟨gb, 0, none⟩) 45 45, ← mxV_app]
          refine WC.mxAdd (hs := z.T) (some ⟨ga, 0, none⟩) 45 (zrow 45) (by repeat (first | exact At.here | apply At.there)) (by repeat (first | exact At.here | apply At.there)) rfl (zrow_mi 45) ?_
          refine WC.mxAdd (hs := z.U) (some ⟨gb, 0, none⟩) 45 (zrow 45) (by repeat (first | exact At.here | apply At.there)) (by repeat (first | exact At.here | apply At.there)) rfl (zrow_mi 45) ?_
          refine rg (h := ?_)
          refine WL.y (hy := mv) (h := ?_)
          refine WL.y (hy := addI) (h := ?_)
          refine WL.y (hy := asg) (h := ?_)
          refine nl (h := ?_)
          refine rn (x := z) ⟨z.k + 1, z.T ++ [(some ⟨ga, 0, none⟩, 45, zrow 45)], z.U ++ [(some ⟨gb, 0, none⟩, 45, zrow 45)], _, _, _, _⟩ ⟨⟨by dsimp only; omega, by dsimp only; rw [List.length_append, hz2]; rfl, by dsimp only; rw [List.length_append, hz3]; rfl⟩, fun h hh => by
            dsimp only at hh
            rcases List.mem_append.1 hh with hh | hh
            · exact hz4 h hh
            · simp only [List.mem_singleton] at hh; subst hh; rfl, fun h hh => by
            dsimp only at hh
            rcases List.mem_append.1 hh with hh | hh
            · exact hz5 h hh
            · simp only [List.mem_singleton] at hh; subst hh; rfl⟩ (by dsimp only; omega) (by repeat (first | exact trivial | refine ⟨rfl, ?_⟩)) (by repeat (first | exact SubL.nil | (apply SubL.cons; (repeat (first | exact At.here | apply At.there))) | exact SubL.refl _ | apply SubL.skip))
    · skip
      refine mks 45 (h := fun gb => ?_)
      refine nx (h := ?_)
      refine two 1 6 (h1 := ?_) (h2 := ?_)
      · skip
        refine mks 45 (h := fun ga => ?_)
        refine nx (h := ?_)
        refine two 2 6 (h1 := ?_) (h2 := ?_)
        · skip
          refine bs (h := fun b10 => ?_)
          refine nx (h := ?_)
          refine two 3 6 (h1 := ?_) (h2 := ?_)
          · skip
            first | refine ap (h := fun A13 c13 => ?_) | refine ap0 (h := fun A13 c13 => ?_)
            refine nx (h := ?_)
            refine one 6 (h := ?_)
            refine bs (h := fun b11 => ?_)
            refine nx (h := ?_)
            refine one 7 (h := ?_)
            first | refine ap (h := fun A14 c14 => ?_) | refine ap0 (h := fun A14 c14 => ?_)
            refine nx (h := ?_)
            refine tk 8 (hy := asg) (h := ?_)
            refine tk 9 (hy := asg) (h := ?_)
            refine dn (h := ?_)
            refine q_blk_norm (h := ?_)
            refine q_seq (h := ?_)
            rw [← mxV_z (some ⟨ga, 0, none⟩) 45 45, ← mxV_app, ← mxV_z (some ⟨gb, 0, none⟩) 45 45, ← mxV_app]
            refine WC.mxAdd (hs := z.T) (some ⟨ga, 0, none⟩) 45 (zrow 45) (by repeat (first | exact At.here | apply At.there)) (by repeat (first | exact At.here | apply At.there)) rfl (zrow_mi 45) ?_
            refine WC.mxAdd (hs := z.U) (some ⟨gb, 0, none⟩) 45 (zrow 45) (by repeat (first | exact At.here | apply At.there)) (by repeat (first | exact At.here | apply At.there)) rfl (zrow_mi 45) ?_
            refine rg (h := ?_)
            refine WL.y (hy := mv) (h := ?_)
            refine WL.y (hy := addI) (h := ?_)
            refine WL.y (hy := asg) (h := ?_)
            refine nl (h := ?_)
            refine rn (x := z) ⟨z.k + 1, z.T ++ [(some ⟨ga, 0, none⟩, 45, zrow 45)], z.U ++ [(some ⟨gb, 0, none⟩, 45, zrow 45)], _, _, _, _⟩ ⟨⟨by dsimp only; omega, by dsimp only; rw [List.length_append, hz2]; rfl, by dsimp only; rw [List.length_append, hz3]; rfl⟩, fun h hh => by
              dsimp only at hh
              rcases List.mem_append.1 hh with hh | hh
              · exact hz4 h hh
              · simp only [List.mem_singleton] at hh; subst hh; rfl, fun h hh => by
              dsimp only at hh
              rcases List.mem_append.1 hh with hh | hh
              · exact hz5 h hh
              · simp only [List.mem_singleton] at hh; subst hh; rfl⟩ (by dsimp only; omega) (by repeat (first | exact trivial | refine ⟨rfl, ?_⟩)) (by repeat (first | exact SubL.nil | (apply SubL.cons; (repeat (first | exact At.here | apply At.there))) | exact SubL.refl _ | apply SubL.skip))
          · skip
            refine bs (h := fun b12 => ?_)
            refine nx (h := ?_)
            refine one 3 (h := ?_)
            first | refine ap (h := fun A15 c15 => ?_) | refine ap0 (h := fun A15 c15 => ?_)
            refine nx (h := ?_)
            refine one 7 (h := ?_)
            first | refine ap (h := fun A16 c16 => ?_) | refine ap0 (h := fun A16 c16 => ?_)
            refine nx (h := ?_)
            refine tk 8 (hy := asg) (h := ?_)
            refine tk 9 (hy := asg) (h := ?_)
            refine dn (h := ?_)
            refine q_blk_norm (h := ?_)
            refine q_seq (h := ?_)
            rw [← mxV_z (some ⟨ga, 0, none⟩) 45 45, ← mxV_app, ← mxV_z (some ⟨gb, 0, none⟩) 45 45, ← mxV_app]
            refine WC.mxAdd (hs := z.T) (some ⟨ga, 0, none⟩) 45 (zrow 45) (by repeat (first | exact At.here | apply At.there)) (by repeat (first | exact At.here | apply At.there)) rfl (zrow_mi 45) ?_
            refine WC.mxAdd (hs := z.U) (some ⟨gb, 0, none⟩) 45 (zrow 45) (by repeat (first | exact At.here | apply At.there)) (by repeat (first | exact At.here | apply At.there)) rfl (zrow_mi 45) ?_
            refine rg (h := ?_)
            refine WL.y (hy := mv) (h := ?_)
            refine WL.y (hy := addI) (h := ?_)
            refine WL.y (hy := asg) (h := ?_)
            refine nl (h := ?_)
            refine rn (x := z) ⟨z.k + 1, z.T ++ [(some ⟨ga, 0, none⟩, 45, zrow 45)], z.U ++ [(some ⟨gb, 0, none⟩, 45, zrow 45)], _, _, _, _⟩ ⟨⟨by dsimp only; omega, by dsimp only; rw [List.length_append, hz2]; rfl, by dsimp only; rw [List.length_append, hz3]; rfl⟩, fun h hh => by
              dsimp only at hh
              rcases List.mem_append.1 hh with hh | hh
              · exact hz4 h hh
              · simp only [List.mem_singleton] at hh; subst hh; rfl, fun h hh => by
              dsimp only at hh
              rcases List.mem_append.1 hh with hh | hh
              · exact hz5 h hh
              · simp only [List.mem_singleton] at hh; subst hh; rfl⟩ (by dsimp only; omega) (by repeat (first | exact trivial | refine ⟨rfl, ?_⟩)) (by repeat (first | exact SubL.nil | (apply SubL.cons; (repeat (first | exact At.here | apply At.there))) | exact SubL.refl _ | apply SubL.skip))
        · skip
          refine bs (h := fun b13 => ?_)
          refine nx (h := ?_)
          refine one 2 (h := ?_)
          refine bs (h := fun b14 => ?_)
          refine nx (h := ?_)
          refine one 3 (h := ?_)
          first | refine ap (h := fun A17 c17 => ?_) | refine ap0 (h := fun A17 c17 => ?_)
          refine nx (h := ?_)
          refine one 7 (h := ?_)
          first | refine ap (h := fun A18 c18 => ?_) | refine ap0 (h := fun A18 c18 => ?_)
          refine nx (h := ?_)
          refine tk 8 (hy := asg) (h := ?_)
          refine tk 9 (hy := asg) (h := ?_)
          refine dn (h := ?_)
          refine q_blk_norm (h := ?_)
          refine q_seq (h := ?_)
          rw [← mxV_z (some ⟨ga, 0, none⟩) 45 45, ← mxV_app, ← mxV_z (some ⟨gb, 0, none⟩) 45 45, ← mxV_app]
          refine WC.mxAdd (hs := z.T) (some ⟨ga, 0, none⟩) 45 (zrow 45) (by repeat (first | exact At.here | apply At.there)) (by repeat (first | exact At.here | apply At.there)) rfl (zrow_mi 45) ?_
          refine WC.mxAdd (hs := z.U) (some ⟨gb, 0, none⟩) 45 (zrow 45) (by repeat (first | exact At.here | apply At.there)) (by repeat (first | exact At.here | apply At.there)) rfl (zrow_mi 45) ?_
          refine rg (h := ?_)
          refine WL.y (hy := mv) (h := ?_)
          refine WL.y (hy := addI) (h := ?_)
          refine WL.y (hy := asg) (h := ?_)
          refine nl (h := ?_)
          refine rn (x := z) ⟨z.k + 1, z.T ++ [(some ⟨ga, 0, none⟩, 45, zrow 45)], z.U ++ [(some ⟨gb, 0, none⟩, 45, zrow 45)], _, _, _, _⟩ ⟨⟨by dsimp only; omega, by dsimp only; rw [List.length_append, hz2]; rfl, by dsimp only; rw [List.length_append, hz3]; rfl⟩, fun h hh => by
            dsimp only at hh
            rcases List.mem_append.1 hh with hh | hh
            · exact hz4 h hh
            · simp only [List.mem_singleton] at hh; subst hh; rfl, fun h hh => by
            dsimp only at hh
            rcases List.mem_append.1 hh with hh | hh
            · exact hz5 h hh
            · simp only [List.mem_singleton] at hh; subst hh; rfl⟩ (by dsimp only; omega) (by repeat (first | exact trivial | refine ⟨rfl, ?_⟩)) (by repeat (first | exact SubL.nil | (apply SubL.cons; (repeat (first | exact At.here | apply At.there))) | exact SubL.refl _ | apply SubL.skip))
      · skip
        refine bs (h := fun b15 => ?_)
        refine nx (h := ?_)
        refine one 1 (h := ?_)
        refine mks 45 (h := fun ga => ?_)
        refine nx (h := ?_)
        refine one 2 (h := ?_)
        refine bs (h := fun b16 => ?_)
        refine nx (h := ?_)
        refine one 3 (h := ?_)
        first | refine ap (h := fun A19 c19 => ?_) | refine ap0 (h := fun A19 c19 => ?_)
        refine nx (h := ?_)
        refine one 7 (h := ?_)
        first | refine ap (h := fun A20 c20 => ?_) | refine ap0 (h := fun A20 c20 => ?_)
        refine nx (h := ?_)
        refine tk 8 (hy := asg) (h := ?_)
        refine tk 9 (hy := asg) (h := ?_)
        refine dn (h := ?_)
        refine q_blk_norm (h := ?_)
        refine q_seq (h := ?_)
        rw [← mxV_z (some ⟨ga, 0, none⟩) 45 45, ← mxV_app, ← mxV_z (some ⟨gb, 0, none⟩) 45 45, ← mxV_app]
        refine WC.mxAdd (hs := z.T) (some ⟨ga, 0, none⟩) 45 (zrow 45) (by repeat (first | exact At.here | apply At.there)) (by repeat (first | exact At.here | apply At.there)) rfl (zrow_mi 45) ?_
        refine WC.mxAdd (hs := z.U) (some ⟨gb, 0, none⟩) 45 (zrow 45) (by repeat (first | exact At.here | apply At.there)) (by repeat (first | exact At.here | apply At.there)) rfl (zrow_mi 45) ?_
        refine rg (h := ?_)
        refine WL.y (hy := mv) (h := ?_)
        refine WL.y (hy := addI) (h := ?_)
        refine WL.y (hy := asg) (h := ?_)
        refine nl (h := ?_)
        refine rn (x := z) ⟨z.k + 1, z.T ++ [(some ⟨ga, 0, none⟩, 45, zrow 45)], z.U ++ [(some ⟨gb, 0, none⟩, 45, zrow 45)], _, _, _, _⟩ ⟨⟨by dsimp only; omega, by dsimp only; rw [List.length_append, hz2]; rfl, by dsimp only; rw [List.length_append, hz3]; rfl⟩, fun h hh => by
          dsimp only at hh
          rcases List.mem_append.1 hh with hh | hh
          · exact hz4 h hh
          · simp only [List.mem_singleton] at hh; subst hh; rfl, fun h hh => by
          dsimp only at hh
          rcases List.mem_append.1 hh with hh | hh
          · exact hz5 h hh
          · simp only [List.mem_singleton] at hh; subst hh; rfl⟩ (by dsimp only; omega) (by repeat (first | exact trivial | refine ⟨rfl, ?_⟩)) (by repeat (first | exact SubL.nil | (apply SubL.cons; (repeat (first | exact At.here | apply At.there))) | exact SubL.refl _ | apply SubL.skip))
  · skip
    have hkn : z.k = 45 := by simp only [decide_eq_false_iff_not] at h0; omega
    obtain ⟨k0, T0, U0, O1, c1, O2, c2⟩ := z
    dsimp only at hkn hz1 hz2 hz3 hz4 hz5 ⊢
    subst hkn
    obtain ⟨hM1, hG1⟩ := zero_mx hz2 hz4
    obtain ⟨hM2, hG2⟩ := zero_mx hz3 hz5
    obtain ⟨RA, Rc, Rx, hr0, hrl, hrv, hrg, hrd⟩ := hM1.at (a := 0) (by omega)
    have hM1' := hM1.set hr0 0 1
    have hI0 : OrdI f (ruleV f last) 0 0 0 (T0.set 0 (RA, Rc, Rx.set 0 1)) U0 := ord_init (fun i j hi hj => by rw [gv_set hr0 (by omega), hG1]) (fun i j _ _ => hG2 i j)
    refine et (h := ?_)
    refine q_then_exit (h := ?_)
    refine q_then_exit (h := ?_)
    refine q_blk_hit (h := ?_)
    refine q_seq (h := ?_)
    refine sq (h := ?_)
    refine rg (h := ?_)
    refine WL.y (hy := mv) (h := ?_)
    refine WL.y (hy := ix (A := O1) (m := 45)) (h := ?_)
    refine WL.y (hy := ldE (A := O1) (hk := hrv)) (h := ?_)
    refine WL.y (hy := ix (A := RA) (m := 45) (hr := by repeat (first | exact Rds.any (hrd 3) | apply Rds.there))) (h := ?_)
    refine WL.mxAt (hs := T0) hr0 (by repeat (first | exact At.here | apply At.there)) ?_
    refine stE (A := RA) (k := 0) (j := 0) (hk := mI_at (l := Rx) (k := 0) (by omega)) (h := ?_)
    rw [show (mI Rx).set 0 ([Value.int .i64 (Rx.getD 0 0)].set 0 (.int .i64 1)) = mI (Rx.set 0 1) from mI_set Rx 0 1]
    refine WL.mxPut (hs := T0) RA Rc (Rx.set 0 1) hr0 (by repeat (first | exact At.here | apply At.there)) (by repeat (first | exact At.here | apply At.there)) (by rw [List.length_set]) rfl ?_
    refine nl (h := ?_)
    refine q_seq (h := ?_)
    refine sq (h := ?_)
    refine sq (h := ?_)
    refine rg (h := ?_)
    refine WL.y (hy := asg) (h := ?_)
    refine nl (h := ?_)
    refine q_seq (h := ?_)
    refine bk (h := ?_)
    refine lp (X := OB) (I := fun z => (z.k ≤ 88 ∧ Mx 45 z.T (mxV T0) ∧ Mx 45 z.U (mxV U0)) ∧ OrdI f (ruleV f last) z.k (max 0 ((z.k : Int) - 44)) 0 z.T z.U) (le := fun z => [(2, .pointer (some ⟨b0, 0, none⟩)), (4, .slice O1 45 c1), (5, .slice O2 45 c2), (6, .int .i64 (ruleV f last).1), (9, .int .i64 z.k)]) (Le := fun z => [.own O1 c1 45 1 45 (mxV T0), .own O2 c2 45 1 45 (mxV U0), mxE 3 z.T, mxE 3 z.U, .blk b0 23 f.cells]) (μ := fun z => 88 - z.k) ⟨0, T0.set 0 (RA, Rc, Rx.set 0 1), U0⟩ ⟨⟨Nat.zero_le _, hM1', hM2⟩, hI0⟩ (by repeat (first | exact trivial | refine ⟨rfl, ?_⟩)) (by repeat (first | exact SubL.nil | (apply SubL.cons; (repeat (first | exact At.here | apply At.there))) | exact SubL.refl _ | apply SubL.skip)) (fun z hz => ?_)
    obtain ⟨⟨hzk, hz1, hz2⟩, hzI⟩ := hz
    refine sq (h := ?_)
    refine sq (h := ?_)
    refine rg (h := ?_)
    refine WL.y (hy := mv) (h := ?_)
    refine WL.y (hy := lss) (h := ?_)
    refine nl (h := ?_)
    refine q_seq (h := ?_)
    refine cd (by exact rfl) (fun h1 => ?_) (fun h1 => ?_)
    · skip
      have hkn : z.k < 88 := by simp only [decide_eq_true_eq] at h1; omega
      refine skp (h := ?_)
      refine q_seq (h := ?_)
      refine sq (h := ?_)
      refine bk (h := ?_)
      refine sq (h := ?_)
      refine rg (h := ?_)
      refine WL.y (hy := mv) (h := ?_)
      refine WL.y (hy := subI) (h := ?_)
      refine WL.y (hy := maxI) (h := ?_)
      refine WL.y (hy := asg) (h := ?_)
      rw [show max (0 : Int) ((z.k : Int) - 44) = ((z.k - 44 : Nat) : Int) by omega]
      refine nl (h := ?_)
      refine q_seq (h := ?_)
      refine bk (h := ?_)
      refine lp (X := OB) (I := fun u => (z.k - 44 ≤ u.k ∧ u.k ≤ min z.k 44 + 1 ∧ Mx 45 u.T (mxV T0) ∧ Mx 45 u.U (mxV U0)) ∧ OrdI f (ruleV f last) z.k u.k 0 u.T u.U) (le := fun u => [(2, .pointer (some ⟨b0, 0, none⟩)), (4, .slice O1 45 c1), (5, .slice O2 45 c2), (6, .int .i64 (ruleV f last).1), (9, .int .i64 z.k), (10, .int .i64 u.k)]) (Le := fun u => [.own O1 c1 45 1 45 (mxV T0), .own O2 c2 45 1 45 (mxV U0), mxE 3 u.T, mxE 3 u.U, .blk b0 23 f.cells]) (μ := fun u => 46 - u.k) ⟨z.k - 44, z.T, z.U⟩ ⟨⟨Nat.le_refl _, by dsimp only; omega, hz1, hz2⟩, by dsimp only; rw [show ((z.k - 44 : Nat) : Int) = max 0 ((z.k : Int) - 44) by omega]; exact hzI⟩ (by repeat (first | exact trivial | refine ⟨rfl, ?_⟩)) (by repeat (first | exact SubL.nil | (apply SubL.cons; (repeat (first | exact At.here | apply At.there))) | exact SubL.refl _ | apply SubL.skip)) (fun u hu => ?_)
      obtain ⟨⟨hu0, huk', hu1, hu2⟩, huI⟩ := hu
      refine sq (h := ?_)
      refine sq (h := ?_)
      refine rg (h := ?_)
      refine WL.y (hy := mv) (h := ?_)
      refine WL.y (hy := mv) (h := ?_)
      refine WL.y (hy := minI) (h := ?_)
      refine WL.y (hy := leq) (h := ?_)
      refine nl (h := ?_)
      refine q_seq (h := ?_)
      refine cd (by exact rfl) (fun h2 => ?_) (fun h2 => ?_)
      · skip
        have huk : u.k ≤ min z.k 44 := by simp only [decide_eq_true_eq] at h2; omega
        refine skp (h := ?_)
        refine q_seq (h := ?_)
        refine sq (h := ?_)
        refine bk (h := ?_)
        refine sq (h := ?_)
        refine rg (h := ?_)
        refine WL.y (hy := mv) (h := ?_)
        refine WL.y (hy := mv) (h := ?_)
        refine WL.y (hy := subI) (h := ?_)
        refine WL.y (hy := asg) (h := ?_)
        rw [show (z.k : Int) - (u.k : Int) = ((z.k - u.k : Nat) : Int) by omega]
        refine nl (h := ?_)
        refine q_seq (h := ?_)
        refine sq (h := ?_)
        refine rg (h := ?_)
        refine WL.y (hy := asg) (h := ?_)
        refine nl (h := ?_)
        refine q_seq (h := ?_)
        refine bk (h := ?_)
        refine lp (X := OB) (I := fun v => (v.k ≤ 2 ∧ Mx 45 v.T (mxV T0) ∧ Mx 45 v.U (mxV U0)) ∧ OrdI f (ruleV f last) z.k u.k v.k v.T v.U) (le := fun v => [(2, .pointer (some ⟨b0, 0, none⟩)), (4, .slice O1 45 c1), (5, .slice O2 45 c2), (6, .int .i64 (ruleV f last).1), (9, .int .i64 z.k), (10, .int .i64 u.k), (11, .int .i64 ((z.k - u.k : Nat) : Int)), (12, .int .i64 v.k)]) (Le := fun v => [.own O1 c1 45 1 45 (mxV T0), .own O2 c2 45 1 45 (mxV U0), mxE 3 v.T, mxE 3 v.U, .blk b0 23 f.cells]) (μ := fun v => 2 - v.k) ⟨0, u.T, u.U⟩ ⟨⟨Nat.zero_le _, hu1, hu2⟩, huI⟩ (by repeat (first | exact trivial | refine ⟨rfl, ?_⟩)) (by repeat (first | exact SubL.nil | (apply SubL.cons; (repeat (first | exact At.here | apply At.there))) | exact SubL.refl _ | apply SubL.skip)) (fun v hv => ?_)
        obtain ⟨⟨hvk, hv1, hv2⟩, hvI⟩ := hv
        obtain ⟨XA, Xc, Xx, hxr, hxl, hxv, hxg, hxd⟩ := hv1.at (a := u.k) (by omega)
        refine sq (h := ?_)
        refine sq (h := ?_)
        refine rg (h := ?_)
        refine WL.y (hy := mv) (h := ?_)
        refine WL.y (hy := lss) (h := ?_)
        refine WL.y (hy := mv) (h := ?_)
        apply brAnd 9 54 63 (by exact rfl)
        · intro hb3
          refine un (h := ?_)
          refine WL.y (hy := mv) (h := ?_)
          refine un (h := ?_)
          refine WL.y (hy := mv) (h := ?_)
          refine un (h := ?_)
          refine WL.y (hy := ix (A := O1) (m := 45)) (h := ?_)
          refine un (h := ?_)
          refine WL.y (hy := ldE (A := O1) (hk := hxv)) (h := ?_)
          refine un (h := ?_)
          refine WL.y (hy := mv) (h := ?_)
          refine un (h := ?_)
          refine WL.y (hy := ix (A := XA) (m := 45) (hr := by repeat (first | exact Rds.any (hxd 3) | apply Rds.there))) (h := ?_)
          refine un (h := ?_)
          refine WL.y (hy := ldE (A := XA) (hr := by repeat (first | exact Rds.any (hxd 3) | apply Rds.there)) (hk := mI_at (k := z.k - u.k) (by omega))) (h := ?_)
          refine un (h := ?_)
          refine WL.y (hy := gtr) (h := ?_)
          refine WL.y (hy := (by first | exact pkT | exact pkF)) (h := ?_)
          exact mg (by repeat (first | exact trivial | refine ⟨rfl, ?_⟩ | refine ⟨by rw [hb3]; rfl, ?_⟩)) (by repeat (first | exact SubL.nil | (apply SubL.cons; (repeat (first | exact At.here | apply At.there))) | exact SubL.refl _ | apply SubL.skip))
        · intro hb3
          repeat (first | refine un (h := ?_) | refine sk (h := ?_) | refine WL.y (hy := pkF) (h := ?_) | refine WL.y (hy := pkT) (h := ?_))
          exact mg (by repeat (first | exact trivial | refine ⟨rfl, ?_⟩ | refine ⟨by rw [hb3]; rfl, ?_⟩)) (by repeat (first | exact SubL.nil | (apply SubL.cons; (repeat (first | exact At.here | apply At.there))) | exact SubL.refl _ | apply SubL.skip))
        refine nl (h := ?_)
        refine q_seq (h := ?_)
        refine cd (by exact rfl) (fun h4 => ?_) (fun h4 => ?_)
        · skip
          have hg := h4
          simp only [Bool.and_eq_true, decide_eq_true_eq] at hg
          have hk2 : v.k < 2 := by omega
          have hop : OpenP f (ruleV f last) u.k ((z.k : Int) - u.k) := by
            have h1 := (hvI.t u.k (z.k - u.k) (by omega) (by omega)).2.1 (by rw [hxg]; exact hg.2)
            rw [show ((z.k - u.k : Nat) : Int) = (z.k : Int) - u.k by omega] at h1
            exact (pos_open ht (by omega)).1 h1
          obtain ⟨p1, p2, hp12, htg⟩ := tgt_at (sum := z.k) (a := u.k) hk2 (by omega)
          have htg' := htg
          unfold Tgt at htg'
          have hSm : Sm ((u.k : Int), ((z.k - u.k : Nat) : Int)) := ⟨by dsimp only; omega, by dsimp only; omega⟩
          have hSp : Sm ((p1 : Int), (p2 : Int)) := ⟨by dsimp only; omega, by dsimp only; omega⟩
          have hEe : EndP f (ruleV f last) u.k ((z.k : Int) - u.k) v.k = (decide (0 ≤ (ruleV f last).1) && decide ((u.k : Int) = (ruleV f last).1) && decide (((z.k - u.k : Nat) : Int) = (ruleV f last).1) || decide (0 ≤ leadsV ((p1 : Int), (p2 : Int)) f.games 2)) := by
            rw [show (z.k : Int) - u.k = ((z.k - u.k : Nat) : Int) by omega, EndP, hp12, brksV]
            by_cases hs0 : 0 ≤ (ruleV f last).1
            · rw [decide_eq_true hs0, Bool.true_and]
            · rw [decide_eq_false hs0, decide_eq_false (show ¬ (u.k : Int) = (ruleV f last).1 by omega)]; rfl
          have hvT := hvI.t u.k (z.k - u.k) (by omega) (by omega)
          rw [hxg] at hvT
          have hMW : MW = 1000000000001 := rfl
          refine skp (h := ?_)
          refine q_seq (h := ?_)
          refine sq (h := ?_)
          refine bk (h := ?_)
          refine sq (h := ?_)
          refine rg (h := ?_)
          refine WL.y (hy := mv) (h := ?_)
          refine WL.y (hy := mv) (h := ?_)
          refine WL.y (hy := bd) (h := ?_)
          refine WL.y (hy := mv) (h := ?_)
          refine cl0 (hc := fun w hS => C_ref1_plus ((u.k : Int), ((z.k - u.k : Nat) : Int)) v.k hSm w) (h := ?_)
          rw [hp12]
          refine al (h := fun b17 => ?_)
          first | refine stA (h := ?_) | refine stEA (h := ?_)
          refine nl (h := ?_)
          refine q_seq (h := ?_)
          refine sq (h := ?_)
          refine sq (h := ?_)
          refine rg (h := ?_)
          refine WL.y (hy := (by first | exact fa | exact faE)) (h := ?_)
          refine WL.y (hy := (by first | exact ld | exact ldE)) (h := ?_)
          refine WL.y (hy := gtr) (h := ?_)
          refine WL.y (hy := mv) (h := ?_)
          apply brOr 4 74 78 (by exact rfl)
          · intro hb5
            refine un (h := ?_)
            refine WL.y (hy := (by first | exact fa | exact faE)) (h := ?_)
            refine un (h := ?_)
            refine WL.y (hy := (by first | exact ld | exact ldE)) (h := ?_)
            refine un (h := ?_)
            refine WL.y (hy := gtr) (h := ?_)
            refine WL.y (hy := (by first | exact pkT | exact pkF)) (h := ?_)
            exact mg (by repeat (first | exact trivial | refine ⟨rfl, ?_⟩ | refine ⟨by rw [hb5]; rfl, ?_⟩)) (by repeat (first | exact SubL.nil | (apply SubL.cons; (repeat (first | exact At.here | apply At.there))) | exact SubL.refl _ | apply SubL.skip))
          · intro hb5
            repeat (first | refine un (h := ?_) | refine sk (h := ?_) | refine WL.y (hy := pkF) (h := ?_) | refine WL.y (hy := pkT) (h := ?_))
            exact mg (by repeat (first | exact trivial | refine ⟨rfl, ?_⟩ | refine ⟨by rw [hb5]; rfl, ?_⟩)) (by repeat (first | exact SubL.nil | (apply SubL.cons; (repeat (first | exact At.here | apply At.there))) | exact SubL.refl _ | apply SubL.skip))
          refine nl (h := ?_)
          refine q_seq (h := ?_)
          refine cd (by exact rfl) (fun h6 => ?_) (fun h6 => ?_)
          · skip
            have hnx := ord_out hvI (by simp only [Bool.or_eq_true, decide_eq_true_eq] at h6; omega)
            refine et (h := ?_)
            refine q_then_exit (h := ?_)
            refine q_blk_hit (h := ?_)
            refine q_seq (h := ?_)
            refine rg (h := ?_)
            refine WL.y (hy := mv) (h := ?_)
            refine WL.y (hy := addI) (h := ?_)
            refine WL.y (hy := asg) (h := ?_)
            refine nl (h := ?_)
            first
              | refine rn (x := v) ⟨v.k + 1, v.T, v.U⟩ ⟨⟨by dsimp only; omega, hv1, hv2⟩, by dsimp only; rw [Int.natCast_add]; exact hnx⟩ (by dsimp only; omega) (by repeat (first | exact trivial | refine ⟨rfl, ?_⟩)) (by repeat (first | exact SubL.nil | (apply SubL.cons; (repeat (first | exact At.here | apply At.there))) | exact SubL.refl _ | apply SubL.skip))
              | refine rn (x := v) ⟨v.k + 1, v.T, v.U.set p1 (YA, Yc, Yx.set p2 (min 1000000000001 (Yx.getD p2 0 + Xx.getD (z.k - u.k) 0)))⟩ ⟨⟨by dsimp only; omega, hv1, hM'⟩, by dsimp only; rw [Int.natCast_add]; exact hnx⟩ (by dsimp only; omega) (by repeat (first | exact trivial | refine ⟨rfl, ?_⟩)) (by repeat (first | exact SubL.nil | (apply SubL.cons; (repeat (first | exact At.here | apply At.there))) | exact SubL.refl _ | apply SubL.skip))
              | refine rn (x := v) ⟨v.k + 1, v.T.set p1 (YA, Yc, Yx.set p2 (min 1000000000001 (Yx.getD p2 0 + Xx.getD (z.k - u.k) 0))), v.U⟩ ⟨⟨by dsimp only; omega, hM', hv2⟩, by dsimp only; rw [Int.natCast_add]; exact hnx⟩ (by dsimp only; omega) (by repeat (first | exact trivial | refine ⟨rfl, ?_⟩)) (by repeat (first | exact SubL.nil | (apply SubL.cons; (repeat (first | exact At.here | apply At.there))) | exact SubL.refl _ | apply SubL.skip))
          · skip
            have hpb : p1 < 45 ∧ p2 < 45 := by simp only [Bool.or_eq_false_iff, decide_eq_false_iff_not] at h6; omega
            refine skp (h := ?_)
            refine q_seq (h := ?_)
            refine sq (h := ?_)
            refine rg (h := ?_)
            refine WL.y (hy := mv) (h := ?_)
            refine WL.y (hy := geq) (h := ?_)
            refine WL.y (hy := mv) (h := ?_)
            apply brAnd 4 81 85 (by exact rfl)
            · intro hb7
              refine un (h := ?_)
              refine WL.y (hy := mv) (h := ?_)
              refine un (h := ?_)
              refine WL.y (hy := mv) (h := ?_)
              refine un (h := ?_)
              refine WL.y (hy := eql) (h := ?_)
              refine WL.y (hy := (by first | exact pkT | exact pkF)) (h := ?_)
              exact mg (by repeat (first | exact trivial | refine ⟨rfl, ?_⟩ | refine ⟨by rw [hb7]; rfl, ?_⟩)) (by repeat (first | exact SubL.nil | (apply SubL.cons; (repeat (first | exact At.here | apply At.there))) | exact SubL.refl _ | apply SubL.skip))
            · intro hb7
              repeat (first | refine un (h := ?_) | refine sk (h := ?_) | refine WL.y (hy := pkF) (h := ?_) | refine WL.y (hy := pkT) (h := ?_))
              exact mg (by repeat (first | exact trivial | refine ⟨rfl, ?_⟩ | refine ⟨by rw [hb7]; rfl, ?_⟩)) (by repeat (first | exact SubL.nil | (apply SubL.cons; (repeat (first | exact At.here | apply At.there))) | exact SubL.refl _ | apply SubL.skip))
            refine WL.y (hy := mv) (h := ?_)
            apply brAnd 4 86 90 (by exact rfl)
            · intro hb8
              refine un (h := ?_)
              refine WL.y (hy := mv) (h := ?_)
              refine un (h := ?_)
              refine WL.y (hy := mv) (h := ?_)
              refine un (h := ?_)
              refine WL.y (hy := eql) (h := ?_)
              refine WL.y (hy := (by first | exact pkT | exact pkF)) (h := ?_)
              exact mg (by repeat (first | exact trivial | refine ⟨rfl, ?_⟩ | refine ⟨by rw [hb8]; rfl, ?_⟩)) (by repeat (first | exact SubL.nil | (apply SubL.cons; (repeat (first | exact At.here | apply At.there))) | exact SubL.refl _ | apply SubL.skip))
            · intro hb8
              repeat (first | refine un (h := ?_) | refine sk (h := ?_) | refine WL.y (hy := pkF) (h := ?_) | refine WL.y (hy := pkT) (h := ?_))
              exact mg (by repeat (first | exact trivial | refine ⟨rfl, ?_⟩ | refine ⟨by rw [hb8]; rfl, ?_⟩)) (by repeat (first | exact SubL.nil | (apply SubL.cons; (repeat (first | exact At.here | apply At.there))) | exact SubL.refl _ | apply SubL.skip))
            refine WL.y (hy := mv) (h := ?_)
            apply brOr 6 91 97 (by exact rfl)
            · intro hb9
              refine un (h := ?_)
              refine WL.y (hy := (by first | exact ldA | exact ldEA)) (h := ?_)
              refine un (h := ?_)
              refine WL.y (hy := (by first | exact fa | exact faE)) (h := ?_)
              refine un (h := ?_)
              refine WL.y (hy := (by first | exact ld | exact ldE)) (h := ?_)
              refine un (h := ?_)
              refine cl0 (hc := fun w hS => C_ref1_leads ((p1 : Int), (p2 : Int)) f.games hSp w) (h := ?_)
              refine un (h := ?_)
              refine WL.y (hy := geq) (h := ?_)
              refine WL.y (hy := (by first | exact pkT | exact pkF)) (h := ?_)
              exact mg (by repeat (first | exact trivial | refine ⟨rfl, ?_⟩ | refine ⟨by rw [hb9]; rfl, ?_⟩)) (by repeat (first | exact SubL.nil | (apply SubL.cons; (repeat (first | exact At.here | apply At.there))) | exact SubL.refl _ | apply SubL.skip))
            · intro hb9
              repeat (first | refine un (h := ?_) | refine sk (h := ?_) | refine WL.y (hy := pkF) (h := ?_) | refine WL.y (hy := pkT) (h := ?_))
              exact mg (by repeat (first | exact trivial | refine ⟨rfl, ?_⟩ | refine ⟨by rw [hb9]; rfl, ?_⟩)) (by repeat (first | exact SubL.nil | (apply SubL.cons; (repeat (first | exact At.here | apply At.there))) | exact SubL.refl _ | apply SubL.skip))
            refine nl (h := ?_)
            refine q_seq (h := ?_)
            refine cd (by exact rfl) (fun h10 => ?_) (fun h10 => ?_)
            · skip
              have he : EndP f (ruleV f last) u.k ((z.k : Int) - u.k) v.k = true := hEe.trans h10
              obtain ⟨YA, Yc, Yx, hyr, hyl, hyv, hyg, hyd⟩ := hv2.at hpb.1
              have hvY := hvI.u p1 p2 hpb.1 hpb.2
              rw [hyg] at hvY
              have hM' := hv2.set hyr p2 (min 1000000000001 (Yx.getD p2 0 + Xx.getD (z.k - u.k) 0))
              have hnx := ord_U hvI htg hop he (v := min 1000000000001 (Yx.getD p2 0 + Xx.getD (z.k - u.k) 0)) (by omega) (fun x y => gv_set hyr (by omega) _ x y)
              refine rgD (by kernel_rfl) [(26, mxE 3 v.U), (1000000, mxE 3 v.T), (1000000, .blk b17 26 [.int .i64 p1, .int .i64 p2]), (1000000, .own O1 c1 45 1 45 (mxV T0)), (1000000, .own O2 c2 45 1 45 (mxV U0)), (1000000, .blk b0 23 f.cells)] (by repeat (first | exact HS.nil | (apply HS.keep; (repeat (first | exact At.here | apply At.there))) | (apply HS.ro; (repeat (first | exact Rds.ro | exact Rds.own | apply Rds.there))))) (h := ?_)
              refine tk 0 (hy := mv) (h := ?_)
              refine tk 1 (hy := (by first | exact fa | exact faE)) (h := ?_)
              refine tk 2 (hy := (by first | exact ld | exact ldE)) (h := ?_)
              refine tk 3 (hy := ix (A := O2) (m := 45)) (h := ?_)
              refine tk 4 (hy := ldE (A := O2) (hk := hyv)) (h := ?_)
              refine tk 5 (hy := (by first | exact fa | exact faE)) (h := ?_)
              refine tk 6 (hy := (by first | exact ld | exact ldE)) (h := ?_)
              refine tk 7 (hy := mv) (h := ?_)
              refine tk 8 (hy := (by first | exact fa | exact faE)) (h := ?_)
              refine tk 9 (hy := (by first | exact ld | exact ldE)) (h := ?_)
              refine tk 10 (hy := ix (A := O2) (m := 45)) (h := ?_)
              refine tk 11 (hy := ldE (A := O2) (hk := hyv)) (h := ?_)
              refine tk 12 (hy := (by first | exact fa | exact faE)) (h := ?_)
              refine tk 13 (hy := (by first | exact ld | exact ldE)) (h := ?_)
              refine tk 14 (hy := ix (A := YA) (m := 45) (hr := by repeat (first | exact Rds.any (hyd 3) | apply Rds.there))) (h := ?_)
              refine tk 15 (hy := ldE (A := YA) (hr := by repeat (first | exact Rds.any (hyd 3) | apply Rds.there)) (hk := mI_at (k := p2) (by omega))) (h := ?_)
              refine tk 16 (hy := mv) (h := ?_)
              refine tk 17 (hy := mv) (h := ?_)
              refine tk 18 (hy := ix (A := O1) (m := 45)) (h := ?_)
              refine tk 19 (hy := ldE (A := O1) (hk := hxv)) (h := ?_)
              refine tk 20 (hy := mv) (h := ?_)
              refine tk 21 (hy := ix (A := XA) (m := 45) (hr := by repeat (first | exact Rds.any (hxd 3) | apply Rds.there))) (h := ?_)
              refine tk 22 (hy := ldE (A := XA) (hr := by repeat (first | exact Rds.any (hxd 3) | apply Rds.there)) (hk := mI_at (k := z.k - u.k) (by omega))) (h := ?_)
              refine tk 23 (hy := addI) (h := ?_)
              refine tk 24 (hy := minI) (h := ?_)
              refine tk 25 (hy := ix (A := YA) (m := 45) (hr := by repeat (first | exact Rds.any (hyd 3) | apply Rds.there))) (h := ?_)
              refine one 26 (h := ?_)
              refine WL.mxAt (hs := v.U) hyr (by repeat (first | exact At.here | apply At.there)) ?_
              refine stE (A := YA) (k := p2) (j := 0) (hk := mI_at (l := Yx) (k := p2) (by omega)) (h := ?_)
              rw [show (mI Yx).set p2 ([Value.int .i64 (Yx.getD p2 0)].set 0 (.int .i64 (min 1000000000001 (Yx.getD p2 0 + Xx.getD (z.k - u.k) 0)))) = mI (Yx.set p2 (min 1000000000001 (Yx.getD p2 0 + Xx.getD (z.k - u.k) 0))) from mI_set Yx p2 _]
              refine WL.mxPut (hs := v.U) YA Yc (Yx.set p2 (min 1000000000001 (Yx.getD p2 0 + Xx.getD (z.k - u.k) 0))) hyr (by repeat (first | exact At.here | apply At.there)) (by repeat (first | exact At.here | apply At.there)) (by rw [List.length_set]) rfl ?_
              refine nx (h := ?_)
              refine dn (h := ?_)
              refine q_blk_norm (h := ?_)
              refine q_seq (h := ?_)
              refine rg (h := ?_)
              refine WL.y (hy := mv) (h := ?_)
              refine WL.y (hy := addI) (h := ?_)
              refine WL.y (hy := asg) (h := ?_)
              refine nl (h := ?_)
              first
                | refine rn (x := v) ⟨v.k + 1, v.T, v.U⟩ ⟨⟨by dsimp only; omega, hv1, hv2⟩, by dsimp only; rw [Int.natCast_add]; exact hnx⟩ (by dsimp only; omega) (by repeat (first | exact trivial | refine ⟨rfl, ?_⟩)) (by repeat (first | exact SubL.nil | (apply SubL.cons; (repeat (first | exact At.here | apply At.there))) | exact SubL.refl _ | apply SubL.skip))
                | refine rn (x := v) ⟨v.k + 1, v.T, v.U.set p1 (YA, Yc, Yx.set p2 (min 1000000000001 (Yx.getD p2 0 + Xx.getD (z.k - u.k) 0)))⟩ ⟨⟨by dsimp only; omega, hv1, hM'⟩, by dsimp only; rw [Int.natCast_add]; exact hnx⟩ (by dsimp only; omega) (by repeat (first | exact trivial | refine ⟨rfl, ?_⟩)) (by repeat (first | exact SubL.nil | (apply SubL.cons; (repeat (first | exact At.here | apply At.there))) | exact SubL.refl _ | apply SubL.skip))
                | refine rn (x := v) ⟨v.k + 1, v.T.set p1 (YA, Yc, Yx.set p2 (min 1000000000001 (Yx.getD p2 0 + Xx.getD (z.k - u.k) 0))), v.U⟩ ⟨⟨by dsimp only; omega, hM', hv2⟩, by dsimp only; rw [Int.natCast_add]; exact hnx⟩ (by dsimp only; omega) (by repeat (first | exact trivial | refine ⟨rfl, ?_⟩)) (by repeat (first | exact SubL.nil | (apply SubL.cons; (repeat (first | exact At.here | apply At.there))) | exact SubL.refl _ | apply SubL.skip))
            · skip
              have he : EndP f (ruleV f last) u.k ((z.k : Int) - u.k) v.k = false := hEe.trans h10
              obtain ⟨YA, Yc, Yx, hyr, hyl, hyv, hyg, hyd⟩ := hv1.at hpb.1
              have hvY := hvI.t p1 p2 hpb.1 hpb.2
              rw [hyg] at hvY
              have hM' := hv1.set hyr p2 (min 1000000000001 (Yx.getD p2 0 + Xx.getD (z.k - u.k) 0))
              have hnx := ord_T hvI htg hop he (v := min 1000000000001 (Yx.getD p2 0 + Xx.getD (z.k - u.k) 0)) (by omega) (fun x y => gv_set hyr (by omega) _ x y)
              refine rgD (by kernel_rfl) [(26, mxE 3 v.T), (1000000, mxE 3 v.U), (1000000, .blk b17 26 [.int .i64 p1, .int .i64 p2]), (1000000, .own O1 c1 45 1 45 (mxV T0)), (1000000, .own O2 c2 45 1 45 (mxV U0)), (1000000, .blk b0 23 f.cells)] (by repeat (first | exact HS.nil | (apply HS.keep; (repeat (first | exact At.here | apply At.there))) | (apply HS.ro; (repeat (first | exact Rds.ro | exact Rds.own | apply Rds.there))))) (h := ?_)
              refine tk 0 (hy := mv) (h := ?_)
              refine tk 1 (hy := (by first | exact fa | exact faE)) (h := ?_)
              refine tk 2 (hy := (by first | exact ld | exact ldE)) (h := ?_)
              refine tk 3 (hy := ix (A := O1) (m := 45)) (h := ?_)
              refine tk 4 (hy := ldE (A := O1) (hk := hyv)) (h := ?_)
              refine tk 5 (hy := (by first | exact fa | exact faE)) (h := ?_)
              refine tk 6 (hy := (by first | exact ld | exact ldE)) (h := ?_)
              refine tk 7 (hy := mv) (h := ?_)
              refine tk 8 (hy := (by first | exact fa | exact faE)) (h := ?_)
              refine tk 9 (hy := (by first | exact ld | exact ldE)) (h := ?_)
              refine tk 10 (hy := ix (A := O1) (m := 45)) (h := ?_)
              refine tk 11 (hy := ldE (A := O1) (hk := hyv)) (h := ?_)
              refine tk 12 (hy := (by first | exact fa | exact faE)) (h := ?_)
              refine tk 13 (hy := (by first | exact ld | exact ldE)) (h := ?_)
              refine tk 14 (hy := ix (A := YA) (m := 45) (hr := by repeat (first | exact Rds.any (hyd 3) | apply Rds.there))) (h := ?_)
              refine tk 15 (hy := ldE (A := YA) (hr := by repeat (first | exact Rds.any (hyd 3) | apply Rds.there)) (hk := mI_at (k := p2) (by omega))) (h := ?_)
              refine tk 16 (hy := mv) (h := ?_)
              refine tk 17 (hy := mv) (h := ?_)
              refine tk 18 (hy := ix (A := O1) (m := 45)) (h := ?_)
              refine tk 19 (hy := ldE (A := O1) (hk := hxv)) (h := ?_)
              refine tk 20 (hy := mv) (h := ?_)
              refine tk 21 (hy := ix (A := XA) (m := 45) (hr := by repeat (first | exact Rds.any (hxd 3) | apply Rds.there))) (h := ?_)
              refine tk 22 (hy := ldE (A := XA) (hr := by repeat (first | exact Rds.any (hxd 3) | apply Rds.there)) (hk := mI_at (k := z.k - u.k) (by omega))) (h := ?_)
              refine tk 23 (hy := addI) (h := ?_)
              refine tk 24 (hy := minI) (h := ?_)
              refine tk 25 (hy := ix (A := YA) (m := 45) (hr := by repeat (first | exact Rds.any (hyd 3) | apply Rds.there))) (h := ?_)
              refine one 26 (h := ?_)
              refine WL.mxAt (hs := v.T) hyr (by repeat (first | exact At.here | apply At.there)) ?_
              refine stE (A := YA) (k := p2) (j := 0) (hk := mI_at (l := Yx) (k := p2) (by omega)) (h := ?_)
              rw [show (mI Yx).set p2 ([Value.int .i64 (Yx.getD p2 0)].set 0 (.int .i64 (min 1000000000001 (Yx.getD p2 0 + Xx.getD (z.k - u.k) 0)))) = mI (Yx.set p2 (min 1000000000001 (Yx.getD p2 0 + Xx.getD (z.k - u.k) 0))) from mI_set Yx p2 _]
              refine WL.mxPut (hs := v.T) YA Yc (Yx.set p2 (min 1000000000001 (Yx.getD p2 0 + Xx.getD (z.k - u.k) 0))) hyr (by repeat (first | exact At.here | apply At.there)) (by repeat (first | exact At.here | apply At.there)) (by rw [List.length_set]) rfl ?_
              refine nx (h := ?_)
              refine dn (h := ?_)
              refine q_blk_norm (h := ?_)
              refine q_seq (h := ?_)
              refine rg (h := ?_)
              refine WL.y (hy := mv) (h := ?_)
              refine WL.y (hy := addI) (h := ?_)
              refine WL.y (hy := asg) (h := ?_)
              refine nl (h := ?_)
              first
                | refine rn (x := v) ⟨v.k + 1, v.T, v.U⟩ ⟨⟨by dsimp only; omega, hv1, hv2⟩, by dsimp only; rw [Int.natCast_add]; exact hnx⟩ (by dsimp only; omega) (by repeat (first | exact trivial | refine ⟨rfl, ?_⟩)) (by repeat (first | exact SubL.nil | (apply SubL.cons; (repeat (first | exact At.here | apply At.there))) | exact SubL.refl _ | apply SubL.skip))
                | refine rn (x := v) ⟨v.k + 1, v.T, v.U.set p1 (YA, Yc, Yx.set p2 (min 1000000000001 (Yx.getD p2 0 + Xx.getD (z.k - u.k) 0)))⟩ ⟨⟨by dsimp only; omega, hv1, hM'⟩, by dsimp only; rw [Int.natCast_add]; exact hnx⟩ (by dsimp only; omega) (by repeat (first | exact trivial | refine ⟨rfl, ?_⟩)) (by repeat (first | exact SubL.nil | (apply SubL.cons; (repeat (first | exact At.here | apply At.there))) | exact SubL.refl _ | apply SubL.skip))
                | refine rn (x := v) ⟨v.k + 1, v.T.set p1 (YA, Yc, Yx.set p2 (min 1000000000001 (Yx.getD p2 0 + Xx.getD (z.k - u.k) 0))), v.U⟩ ⟨⟨by dsimp only; omega, hM', hv2⟩, by dsimp only; rw [Int.natCast_add]; exact hnx⟩ (by dsimp only; omega) (by repeat (first | exact trivial | refine ⟨rfl, ?_⟩)) (by repeat (first | exact SubL.nil | (apply SubL.cons; (repeat (first | exact At.here | apply At.there))) | exact SubL.refl _ | apply SubL.skip))
        · skip
          have hno : (2 : Int) ≤ v.k ∨ ¬ OpenP f (ruleV f last) u.k ((z.k : Int) - u.k) := by
            have hg := h4
            simp only [Bool.and_eq_false_iff, decide_eq_false_iff_not] at hg
            rcases hg with hg | hg
            · exact .inl (by omega)
            · refine .inr fun ho => hg ?_
              rw [← hxg]
              refine (hvI.t u.k (z.k - u.k) (by omega) (by omega)).2.2 ?_
              rw [show ((z.k - u.k : Nat) : Int) = (z.k : Int) - u.k by omega]
              exact (pos_open ht (by omega)).2 ho
          have hnx := ord_pair hvI hno (by omega)
          refine et (h := ?_)
          refine q_then_exit (h := ?_)
          refine q_then_exit (h := ?_)
          refine q_blk_hit (h := ?_)
          refine q_blk_norm (h := ?_)
          refine q_seq (h := ?_)
          refine rg (h := ?_)
          refine WL.y (hy := mv) (h := ?_)
          refine WL.y (hy := addI) (h := ?_)
          refine WL.y (hy := asg) (h := ?_)
          refine nl (h := ?_)
          refine rn (x := u) ⟨u.k + 1, v.T, v.U⟩ ⟨⟨by dsimp only; omega, by dsimp only; omega, hv1, hv2⟩, by dsimp only; rw [Int.natCast_add]; exact hnx⟩ (by dsimp only; omega) (by repeat (first | exact trivial | refine ⟨rfl, ?_⟩)) (by repeat (first | exact SubL.nil | (apply SubL.cons; (repeat (first | exact At.here | apply At.there))) | exact SubL.refl _ | apply SubL.skip))
      · skip
        have huk : min z.k 44 < u.k := by simp only [decide_eq_false_iff_not] at h2; omega
        have hnx := ord_row huI (by omega)
        refine et (h := ?_)
        refine q_then_exit (h := ?_)
        refine q_then_exit (h := ?_)
        refine q_blk_hit (h := ?_)
        refine q_blk_norm (h := ?_)
        refine q_seq (h := ?_)
        refine rg (h := ?_)
        refine WL.y (hy := mv) (h := ?_)
        refine WL.y (hy := addI) (h := ?_)
        refine WL.y (hy := asg) (h := ?_)
        refine nl (h := ?_)
        refine rn (x := z) ⟨z.k + 1, u.T, u.U⟩ ⟨⟨by dsimp only; omega, hu1, hu2⟩, by dsimp only; rw [Int.natCast_add]; exact hnx⟩ (by dsimp only; omega) (by repeat (first | exact trivial | refine ⟨rfl, ?_⟩)) (by repeat (first | exact SubL.nil | (apply SubL.cons; (repeat (first | exact At.here | apply At.there))) | exact SubL.refl _ | apply SubL.skip))
    · skip
      have hkn : z.k = 88 := by simp only [decide_eq_false_iff_not] at h1; omega
      have hfin := ord_end ht (a := max 0 ((z.k : Int) - 44)) (k := 0) (by rw [hkn] at hzI ⊢; exact hzI)
      refine et (h := ?_)
      refine q_then_exit (h := ?_)
      refine q_then_exit (h := ?_)
      refine q_blk_hit (h := ?_)
      refine q_seq (h := ?_)
      refine sq (h := ?_)
      refine rg (h := ?_)
      refine WL.y (hy := mv) (h := ?_)
      refine WL.y (hy := mv) (h := ?_)
      refine WL.y (hy := asg) (h := ?_)
      refine WL.y (hy := asg) (h := ?_)
      refine nl (h := ?_)
      refine q_seq (h := ?_)
      refine rtn (h := ?_)
      refine q_ret (hR := ?_)
      exact fun w hS => ⟨⟨O1, c1, z.T, O2, c2, z.U⟩, ⟨⟨by rw [hz1.v]; exact hz1, by rw [hz2.v]; exact hz2⟩, hfin⟩, rfl, hS.sub (by dsimp only; rw [hz1.v, hz2.v]; repeat (first | exact SubL.nil | (apply SubL.cons; (repeat (first | exact At.here | apply At.there))) | exact SubL.refl _ | apply SubL.skip))⟩
end Go.Proofs.Ytacaojifempclaa
