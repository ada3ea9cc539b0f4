/- Walks of draws, six: the iterator; Count, Pick, Draw, Index. -/
import Derived.Test.YtjkoaifjmcgpfaaD5
namespace Go.Proofs.Ytjkoaifjmcgpfaa
open Go Go.RowKit

theorem more_all {Y : Type} (p : Pl) (a : PA) (hq : p.Ok) (hpn : p.ps.length ≤ 9223372036854775807) (hln : p.lots.length ≤ 9223372036854775807) (hpc : p.ps.length ≤ a.pc) (D : List (List Int)) (ψ : Nat → Y → Prop) (J : Nat → Y → List Ent) (ψx : Y → Prop) (Jx : Y → List Ent) (w0 : World) (lb g bp by_ br bm : Nat) (rA : Option Addr) (rc : Nat)
    (hround : Rounds p D ψ J ψx Jx (itL p a bp br rA rc) w0 lb) : ∀ f, MoreOk p D ψ J ψx Jx (itL p a bp br rA rc) w0 lb g bp by_ br bm f
  | 0 => more_zero p a hq D ψ J ψx Jx w0 lb g bp by_ br bm rA rc hround
  | f + 1 => more_succ p a hq hpn hln hpc D ψ J ψx Jx w0 lb g bp by_ br bm rA rc f (more_all p a hq hpn hln hpc D ψ J ψx Jx w0 lb g bp by_ br bm rA rc hround f)
theorem flatten_ones (v : Value) : ∀ n : Nat, (List.replicate n [v]).flatten.length = n
  | 0 => rfl
  | n + 1 => by rw [List.replicate_succ, List.flatten_cons, List.length_append, flatten_ones v n]; simp; omega
set_option maxHeartbeats 1000000 in
theorem It_draws (p : Pl) (a : PA) (hq : p.Ok) (hpn : p.ps.length ≤ 9223372036854775807) (hln : p.lots.length ≤ 9223372036854775807) (hpc : p.ps.length ≤ a.pc) (bp br : Nat) (rA : Option Addr) (rc : Nat) :
    It2 Try.prog 84 (fun y => [] ++ [y] ++ [.pointer (some ⟨bp, 0, none⟩), .pointer (some ⟨br, 0, none⟩)]) (itL p a bp br rA rc) (drawsV p).length (fun _ (_ : Option Addr × Nat) => True) (fun _ x => [.slice x.1 p.size.toNat x.2]) (fun k x => [.own x.1 x.2 3 1 p.size.toNat (enI ((drawsV p).getD k []))]) := by
  refine ⟨fun {Y} ψ J ψx Jx w0 w lb y0 h0 hst hround => ?_⟩
  have hz := hq.z
  have hqn := hq.n
  have hS : p.size = (p.size.toNat : Int) := by omega
  refine enM (vs := [.func (.yield lb) #[] #[], .pointer (some ⟨bp, 0, none⟩), .pointer (some ⟨br, 0, none⟩)]) Try.func84 Try.ntmps84 hst (h := ?_)
  refine sq (h := ?_)
  refine rg (h := ?_)
  refine bx (h := fun b0 => ?_)
  refine nl (h := ?_)
  refine q_seq (h := ?_)
  refine sq (h := ?_)
  refine rg (h := ?_)
  refine al (h := fun b1 => ?_)
  refine nl (h := ?_)
  refine q_seq (h := ?_)
  refine sq (h := ?_)
  refine rg (h := ?_)
  refine WL.y (hy := mkf) (h := ?_)
  first | refine st (h := ?_) | refine stE (h := ?_)
  refine nl (h := ?_)
  refine q_seq (h := ?_)
  refine rgD (by kernel_rfl) [(1000000, .blk b1 56 [.func (.func 85) #[] #[.pointer (some ⟨bp, 0, none⟩), .pointer (some ⟨b0, 0, none⟩), .pointer (some ⟨br, 0, none⟩), .pointer (some ⟨b1, 0, none⟩)]]), (1000000, .blk bp 25 (p.cells a))] (by repeat (first | exact HS.nil | (apply HS.keep; (repeat (first | exact At.here | apply At.there))) | (apply HS.ro; (repeat (first | exact Rds.ro | exact Rds.own | apply Rds.there))))) (h := ?_)
  refine tk 0 (hy := (by first | exact ld | exact ldE)) (h := ?_)
  refine tk 1 (hy := (by first | exact fa | exact faE)) (h := ?_)
  refine tk 2 (hy := (by first | exact ld | exact ldE)) (h := ?_)
  refine tk 4 (hy := (by first | exact fa | exact faE)) (h := ?_)
  refine tk 5 (hy := (by first | exact ld | exact ldE)) (h := ?_)
  refine tk 6 (hy := (by first | exact fa | exact faE)) (h := ?_)
  refine tk 7 (hy := (by first | exact ld | exact ldE)) (h := ?_)
  refine tk 8 (hy := lenS) (h := ?_)
  refine tk 9 (hy := subI) (h := ?_)
  refine one 3 (h := ?_)
  refine mkc p.size.toNat (hy := by show some (Value.int .i64 p.size) = some (Value.int .i64 ((p.size.toNat : Nat) : Int)); rw [← hS]) (h := fun g => ?_)
  refine nx (h := ?_)
  refine one 10 (h := ?_)
  refine clX (f := 85) inferInstance (fi := []) (cap := [.pointer (some ⟨bp, 0, none⟩), .pointer (some ⟨b0, 0, none⟩), .pointer (some ⟨br, 0, none⟩), .pointer (some ⟨b1, 0, none⟩)]) (by exact rfl) (by repeat (first | exact Evs.nil | (apply Evs.cons; exact rfl))) (fun w hS2 => more_all p a hq hpn hln hpc (drawsV p) ψ J ψx Jx w0 lb g bp b0 br b1 rA rc (fun R k x y w hk hφ hy hs => hround R k x y w hk hφ hy hs) p.size.toNat [] (p.size - p.ps.length) (List.replicate p.size.toNat [.int .i64 0]).flatten 0 y0 w (by simp; omega) (flatten_ones _ _) (by omega) (fun x hx => by cases hx) (fun j v hj => by rw [Nat.zero_add]; exact hj) h0 (hS2.sub (by repeat (first | exact SubL.nil | (apply SubL.cons; (repeat (first | exact At.here | apply At.there))) | exact SubL.refl _ | apply SubL.skip)))) (by rfl) (h := fun r hr => ?_)
  refine nx (h := ?_)
  refine dn (h := ?_)
  refine q_endM0 (hR := ?_)
  obtain ⟨rb, ry, rsp⟩ := r
  obtain ⟨hr1, hr2⟩ := hr
  cases rb
  · exact fun w hS => ⟨_, rfl, .inr ⟨ry, hr2, hS.sub (by dsimp only [cond_false]; repeat (first | exact SubL.refl _ | apply SubL.skip))⟩⟩
  · rw [Nat.zero_add] at hr2
    exact fun w hS => ⟨_, rfl, .inl ⟨ry, hr2, by
      simp only [Nat.zero_add] at hS
      exact hS.sub (by dsimp only [cond_true]; repeat (first | exact SubL.refl _ | apply SubL.skip))⟩⟩
structure DrX where
  (bp br : Nat) (rA : Option Addr) (rc : Nat)
set_option maxHeartbeats 1000000 in
theorem C_draws (p : Pl) (a : PA) (hq : p.Ok) (w : World) (h : PRd w p a) : CR Try.prog 49 [p.val a] w (fun _ : DrX => True) (fun x => .func (.func 84) #[] #[.pointer (some ⟨x.bp, 0, none⟩), .pointer (some ⟨x.br, 0, none⟩)]) (fun x => [.blk x.bp 25 (p.cells a), .blk x.br 23 [.slice x.rA (p.ps.length + 1) x.rc], .own x.rA x.rc 3 1 (p.ps.length + 1) (enI (rkV p))]) := by
  obtain ⟨hp, hl, hpn, hln, hpc⟩ := h
  have hz := hq.z
  have hqn := hq.n
  refine ⟨en Try.func49 Try.ntmps49 (((St.init w).share (e := .ro a.pA 3 p.ps.length (encPs p.ps)) hp rfl rfl rfl).share (e := .ro a.lA 1 p.lots.length (enI p.lots)) hl rfl rfl rfl) (h := fun F => ?_)⟩
  refine sq (h := ?_)
  refine rg (h := ?_)
  refine bxA (h := fun b0 => ?_)
  refine WL.y (hy := asg) (h := ?_)
  refine nl (h := ?_)
  refine q_seq (h := ?_)
  refine sq (h := ?_)
  refine rg (h := ?_)
  refine al (h := fun b1 => ?_)
  refine nl (h := ?_)
  refine q_seq (h := ?_)
  refine sq (h := ?_)
  refine sq (h := ?_)
  refine WC.nilOwn 3 1 (h := ?_)
  refine rg (h := ?_)
  refine WL.y (hy := (by first | exact fa | exact faE)) (h := ?_)
  refine WL.y (hy := (by first | exact ld | exact ldE)) (h := ?_)
  refine WL.y (hy := lenS) (h := ?_)
  refine WL.y (hy := mv) (h := ?_)
  refine nl (h := ?_)
  refine q_seq (h := ?_)
  refine bk (h := ?_)
  refine lp (X := ShZ) (I := fun z => z.k ≤ p.ps.length) (le := fun z => [(1, .pointer (some ⟨b0, 0, none⟩)), (3, .pointer (some ⟨b1, 0, none⟩)), (7, .int .i64 p.ps.length), (8, .int .i64 z.k)]) (Le := fun z => .blk b1 23 [.slice z.A z.k z.c] :: .own z.A z.c 3 1 z.k (enI (idxs z.k)) :: plL p a b0) (μ := fun z => p.ps.length - z.k) ⟨0, none, 0⟩ (Nat.zero_le _) (by repeat (first | exact trivial | refine ⟨rfl, ?_⟩)) (by repeat (first | exact SubL.nil | (apply SubL.cons; (repeat (first | exact At.here | apply At.there))) | exact SubL.refl _ | apply SubL.skip)) (fun z hz => ?_)
  refine sq (h := ?_)
  refine rg (h := ?_)
  refine WL.y (hy := lss) (h := ?_)
  refine nl (h := ?_)
  refine q_seq (h := ?_)
  refine sq (h := ?_)
  refine cd (by exact rfl) (fun h0 => ?_) (fun h0 => ?_)
  · skip
    have hkn : z.k < p.ps.length := by simp only [decide_eq_true_eq] at h0; omega
    have hst : enI (idxs (z.k + 1)) = enI (idxs z.k) ++ [[.int .i64 (z.k : Int)]] := by rw [idxs_succ, enI_app]
    refine skp (h := ?_)
    refine q_seq (h := ?_)
    refine sq (h := ?_)
    refine bk (h := ?_)
    refine sq (h := ?_)
    refine rg (h := ?_)
    refine WL.y (hy := mv) (h := ?_)
    refine WL.y (hy := asg) (h := ?_)
    refine nl (h := ?_)
    refine q_seq (h := ?_)
    refine rg (h := ?_)
    refine WL.y (hy := (by first | exact ld | exact ldE)) (h := ?_)
    refine WL.y (hy := mv) (h := ?_)
    refine bs (h := fun b2 => ?_)
    first | refine ap (h := fun A1 c1 => ?_) | refine ap0 (h := fun A1 c1 => ?_)
    first | refine st (h := ?_) | refine stE (h := ?_)
    refine nl (h := ?_)
    refine q_blk_norm (h := ?_)
    refine q_seq (h := ?_)
    refine rg (h := ?_)
    refine WL.y (hy := addI) (h := ?_)
    refine WL.y (hy := mv) (h := ?_)
    refine nl (h := ?_)
    refine rn (x := z) ⟨z.k + 1, _, _⟩ (by dsimp only; omega) (by dsimp only; omega) (by repeat (first | exact trivial | refine ⟨rfl, ?_⟩)) (by dsimp only; rw [hst]; repeat (first | exact SubL.nil | (apply SubL.cons; (repeat (first | exact At.here | apply At.there))) | exact SubL.refl _ | apply SubL.skip))
  · skip
    have hkn : z.k = p.ps.length := by simp only [decide_eq_false_iff_not] at h0; omega
    rw [hkn]
    refine et (h := ?_)
    refine q_then_exit (h := ?_)
    refine q_then_exit (h := ?_)
    refine q_blk_hit (h := ?_)
    refine q_seq (h := ?_)
    refine sq (h := ?_)
    refine rg (h := ?_)
    refine WL.y (hy := (by first | exact ld | exact ldE)) (h := ?_)
    refine WL.y (hy := mkf) (h := ?_)
    refine clT (hc := T_SortFunc p a b0 hq (idxs p.ps.length) z.A p.ps.length z.c (idxs_len _) (by omega) (fun x hx => idxs_mem.1 hx)) (hs := (by repeat (first | exact Spl.nil | (apply Spl.cons; (repeat (first | exact At.here | apply At.there)))))) (h := fun _ _ => ?_)
    refine nl (h := ?_)
    refine q_seq (h := ?_)
    refine sq (h := ?_)
    refine rg (h := ?_)
    refine bs (h := fun b3 => ?_)
    refine WL.y (hy := (by first | exact ld | exact ldE)) (h := ?_)
    first | refine ap (h := fun A2 c2 => ?_) | refine ap0 (h := fun A2 c2 => ?_)
    first | refine st (h := ?_) | refine stE (h := ?_)
    refine nl (h := ?_)
    refine q_seq (h := ?_)
    refine sq (h := ?_)
    refine rg (h := ?_)
    refine WL.y (hy := mkf) (h := ?_)
    refine WL.y (hy := asg) (h := ?_)
    refine nl (h := ?_)
    refine q_seq (h := ?_)
    refine rtn (h := ?_)
    refine q_ret (hR := ?_)
    have e1 : (1 : Nat) + p.ps.length = p.ps.length + 1 := by omega
    have e2 : [[Value.int .i64 (-1)]] ++ enI (sortV (ltP p) (idxs p.ps.length)) = enI (rkV p) := rfl
    exact fun w hS => ⟨⟨_, _, _, _⟩, trivial, rfl, by
      rw [e1, e2] at hS
      exact hS.sub (by repeat (first | exact SubL.nil | (apply SubL.cons; (repeat (first | exact At.here | apply At.there))) | exact SubL.refl _ | apply SubL.skip))⟩
end Go.Proofs.Ytjkoaifjmcgpfaa
