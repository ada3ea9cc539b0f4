/- The law of the order in which things are given. -/
import Derived.Test.YtbcclgfobiholaaHC
import Derived.Test.YtbcclgfobiholaaK41
namespace Go.Proofs.Ytbcclgfobiholaa
open Go Go.RowKit

theorem encF_len2 (fs : List Fe) : (encF fs).length = fs.length := encF_len fs
theorem split_some {fs : List Fe} {f : Fe} (h : fs.getLast? = some f) (hf : 0 < f.2) : (encF fs).set (fs.length - 1) ([Value.int .i64 f.1, .int .i64 f.2].set 1 (.int .i64 (f.2 - 1))) ++ [[.int .i64 f.1, .int .i64 1]] = encF (splitV fs) ∧ (splitV fs).length = fs.length + 1 := by
  obtain ⟨ys, rfl⟩ := List.getLast?_eq_some_iff.1 h
  have hs : splitV (ys ++ [f]) = ys ++ [(f.1, f.2 - 1), (f.1, 1)] := by
    unfold splitV
    rw [h]
    dsimp only
    rw [decide_eq_true hf]
    simp
  rw [hs]
  constructor
  · show (encF (ys ++ [f])).set _ [Value.int .i64 f.1, .int .i64 (f.2 - 1)] ++ _ = _
    unfold encF
    rw [List.map_append, List.set_append_right _ _ (by simp)]
    simp
  · simp
theorem split_none {fs : List Fe} (h : ∀ f, fs.getLast? = some f → ¬ 0 < f.2) : splitV fs = fs := by
  unfold splitV
  cases hg : fs.getLast? with
  | none => rfl
  | some f => dsimp only; rw [decide_eq_false (h f hg)]; rfl
theorem C_gate_Enter3 (q : Qu) (a : QA) (rate : Int) (hb : qOk q = true) (hn : q.gs.length ≤ 12) (hr : q.lo ≤ rate ∧ rate ≤ q.hi) (w : World) (h : QRd w q a) :
    CR Try.prog 25 [q.val a, .int .i64 rate] w (fun _ : Option Addr × Nat => True) (fun p => .tuple #[.slice p.1 q.gs.length p.2, .int .i64 0]) (fun p => [.own p.1 p.2 3 1 q.gs.length (enI (runV q rate 0))]) := by
  have hc := C_gate_Enter q a rate (fun _ => hn) w h
  have hE : enterE q rate = 0 := enter_ok hb (win_iff.2 hr)
  have hL : enterL q rate = runV q rate 0 := by rw [enterL, hE]; rfl
  rw [hE, hL, runV_len (q_ok hb) (by omega)] at hc
  exact hc
structure FrZ where
  (r : Nat) (A : Option Addr) (c : Nat)
abbrev rtQ (q : Qu) (k : Nat) : Qu := ⟨q.opn, q.lo, q.hi, q.seats, rotV q.gs k, splitV q.fs.reverse⟩
set_option maxRecDepth 100000 in
set_option maxHeartbeats 8000000 in
theorem K_GateOrder (q : Qu) (a : QA) (x : Ask) (hgc : q.gs.length ≤ a.gc) (w : World) (h : QRd w q a) : C0 Try.prog 9 [q.val a, x.val] w (.bool true) := by
  obtain ⟨hg, hf, hgn, hfn⟩ := h
  refine ⟨en Try.func9 Try.ntmps9 (((St.init w).share (e := .ro a.gA 4 q.gs.length (encPt q.gs)) hg rfl rfl rfl).share (e := .ro a.fA 2 q.fs.length (encF q.fs)) hf rfl rfl rfl) (h := fun F => ?_)⟩
  refine sq (h := ?_)
  refine rg (h := ?_)
  refine bxA (h := fun b0 => ?_)
  refine bxA (h := fun b1 => ?_)
  refine WL.y (hy := asg) (h := ?_)
  refine nl (h := ?_)
  refine q_seq (h := ?_)
  refine sq (h := ?_)
  refine sq (h := ?_)
  refine rg (h := ?_)
  refine WL.y (hy := (by first | exact ldA | exact ldEA)) (h := ?_)
  refine WL.y (hy := (by first | exact fa | exact faE)) (h := ?_)
  refine WL.y (hy := (by first | exact ld | exact ldE)) (h := ?_)
  refine cl0 (hc := fun w hS => C_law11_ready q a x.rate w ⟨hS.get, hS.get, hgn, hfn⟩) (h := ?_)
  refine WL.y (hy := notB) (h := ?_)
  refine WL.y (hy := mv) (h := ?_)
  apply brOr 4 19 23 (by exact rfl)
  · intro hb0
    refine un (h := ?_)
    refine WL.y (hy := (by first | exact fa | exact faE)) (h := ?_)
    refine un (h := ?_)
    refine WL.y (hy := (by first | exact ld | exact ldE)) (h := ?_)
    refine un (h := ?_)
    refine WL.y (hy := lss) (h := ?_)
    refine WL.y (hy := (by first | exact pkT | exact pkF)) (h := ?_)
    exact mg (by repeat (first | exact trivial | refine ⟨rfl, ?_⟩ | refine ⟨by rw [hb0]; rfl, ?_⟩)) (by repeat (first | exact SubL.nil | (apply SubL.cons; (repeat (first | exact At.here | apply At.there))) | exact SubL.refl _ | apply SubL.skip))
  · intro hb0
    repeat (first | refine un (h := ?_) | refine sk (h := ?_) | refine WL.y (hy := pkF) (h := ?_) | refine WL.y (hy := pkT) (h := ?_))
    exact mg (by repeat (first | exact trivial | refine ⟨rfl, ?_⟩ | refine ⟨by rw [hb0]; rfl, ?_⟩)) (by repeat (first | exact SubL.nil | (apply SubL.cons; (repeat (first | exact At.here | apply At.there))) | exact SubL.refl _ | apply SubL.skip))
  refine WL.y (hy := mv) (h := ?_)
  apply brOr 5 24 29 (by exact rfl)
  · intro hb1
    refine un (h := ?_)
    refine WL.y (hy := (by first | exact fa | exact faE)) (h := ?_)
    refine un (h := ?_)
    refine WL.y (hy := (by first | exact ld | exact ldE)) (h := ?_)
    refine un (h := ?_)
    refine WL.y (hy := lenS) (h := ?_)
    refine un (h := ?_)
    refine WL.y (hy := eql) (h := ?_)
    refine WL.y (hy := (by first | exact pkT | exact pkF)) (h := ?_)
    exact mg (by repeat (first | exact trivial | refine ⟨rfl, ?_⟩ | refine ⟨by rw [hb1]; rfl, ?_⟩)) (by repeat (first | exact SubL.nil | (apply SubL.cons; (repeat (first | exact At.here | apply At.there))) | exact SubL.refl _ | apply SubL.skip))
  · intro hb1
    repeat (first | refine un (h := ?_) | refine sk (h := ?_) | refine WL.y (hy := pkF) (h := ?_) | refine WL.y (hy := pkT) (h := ?_))
    exact mg (by repeat (first | exact trivial | refine ⟨rfl, ?_⟩ | refine ⟨by rw [hb1]; rfl, ?_⟩)) (by repeat (first | exact SubL.nil | (apply SubL.cons; (repeat (first | exact At.here | apply At.there))) | exact SubL.refl _ | apply SubL.skip))
  refine WL.y (hy := mv) (h := ?_)
  apply brOr 5 30 35 (by exact rfl)
  · intro hb2
    refine un (h := ?_)
    refine WL.y (hy := (by first | exact fa | exact faE)) (h := ?_)
    refine un (h := ?_)
    refine WL.y (hy := (by first | exact ld | exact ldE)) (h := ?_)
    refine un (h := ?_)
    refine WL.y (hy := lenS) (h := ?_)
    refine un (h := ?_)
    refine WL.y (hy := geq) (h := ?_)
    refine WL.y (hy := (by first | exact pkT | exact pkF)) (h := ?_)
    exact mg (by repeat (first | exact trivial | refine ⟨rfl, ?_⟩ | refine ⟨by rw [hb2]; rfl, ?_⟩)) (by repeat (first | exact SubL.nil | (apply SubL.cons; (repeat (first | exact At.here | apply At.there))) | exact SubL.refl _ | apply SubL.skip))
  · intro hb2
    repeat (first | refine un (h := ?_) | refine sk (h := ?_) | refine WL.y (hy := pkF) (h := ?_) | refine WL.y (hy := pkT) (h := ?_))
    exact mg (by repeat (first | exact trivial | refine ⟨rfl, ?_⟩ | refine ⟨by rw [hb2]; rfl, ?_⟩)) (by repeat (first | exact SubL.nil | (apply SubL.cons; (repeat (first | exact At.here | apply At.there))) | exact SubL.refl _ | apply SubL.skip))
  refine nl (h := ?_)
  refine q_seq (h := ?_)
  refine cd (by exact rfl) (fun h3 => ?_) (fun h3 => ?_)
  · skip
    refine sq (h := ?_)
    refine rg (h := ?_)
    refine cl0 (hc := fun w hS => C_law11_works w) (h := ?_)
    refine WL.y (hy := asg) (h := ?_)
    refine nl (h := ?_)
    refine q_seq (h := ?_)
    refine rtn (h := ?_)
    refine q_then_ret (h := ?_)
    refine q_ret (hR := ?_)
    exact fun w hS => ⟨rfl, hS.sub (by repeat (first | exact SubL.nil | (apply SubL.cons; (repeat (first | exact At.here | apply At.there))) | exact SubL.refl _ | apply SubL.skip))⟩
  · skip
    obtain ⟨hrd, hm0, hn0, hf40⟩ : rdyV q x.rate = true ∧ 0 ≤ x.minute ∧ 0 < q.gs.length ∧ q.fs.length < 40 := by
      simp only [Bool.or_eq_false_iff, Bool.not_eq_false', decide_eq_false_iff_not] at h3
      exact ⟨h3.1.1.1, by omega, by omega, by omega⟩
    have hR := rdy_ok hrd
    have hq := hR.o
    have hn6 := hR.n
    obtain ⟨k, hk⟩ : ∃ k : Nat, x.minute % (q.gs.length : Int) = k := ⟨(x.minute % (q.gs.length : Int)).toNat, by have := Int.emod_nonneg x.minute (b := (q.gs.length : Int)) (by omega); omega⟩
    have hkn : k < q.gs.length := by have := Int.emod_lt_of_pos x.minute (b := (q.gs.length : Int)) (by omega); omega
    obtain ⟨hpb, hT, hpf⟩ := rot_ok hR.b hkn hf40 (rtQ q k) rfl
    have hp := q_ok hpb
    have hrl := rot_len (gs := q.gs) (k := k) (by omega)
    have hrt : List.take (q.gs.length - k) (List.drop k (encPt q.gs)) ++ List.take k (encPt q.gs) = encPt (rotV q.gs k) := by
      rw [List.take_of_length_le (by simp [encPt])]
      unfold encPt rotV
      rw [List.map_append, List.map_drop, List.map_take]
    have hrn : q.gs.length - k + k = q.gs.length := by omega
    have hrv : q.fs.reverse.length = q.fs.length := List.length_reverse ..
    have hl1 := runV_len hq (rate := x.rate) (more := 0) (by omega)
    have hl2 := runV_len hp (rate := x.rate) (more := 0) (by omega)
    have hl2 : (runV (rtQ q k) x.rate 0).length = (rotV q.gs k).length := hl2
    refine skp (h := ?_)
    refine q_seq (h := ?_)
    refine sq (h := ?_)
    refine rg (h := ?_)
    refine WL.y (hy := (by first | exact ldA | exact ldEA)) (h := ?_)
    refine cl (hc := fun w hS => C_ref11_Copy q a ⟨by omega, by omega⟩ w ⟨hS.get, hS.get, hgn, hfn⟩) (h := fun x0 _ => ?_)
    refine al (h := fun b2 => ?_)
    first | refine stA (h := ?_) | refine stEA (h := ?_)
    refine nl (h := ?_)
    refine q_seq (h := ?_)
    refine sq (h := ?_)
    refine rg (h := ?_)
    refine WL.y (hy := (by first | exact fa | exact faE)) (h := ?_)
    refine WL.y (hy := (by first | exact ld | exact ldE)) (h := ?_)
    refine WL.y (hy := (by first | exact fa | exact faE)) (h := ?_)
    refine WL.y (hy := (by first | exact ld | exact ldE)) (h := ?_)
    refine WL.y (hy := lenS) (h := ?_)
    refine WL.y (hy := remI) (h := ?_)
    rw [hk]
    refine WL.y (hy := asg) (h := ?_)
    refine nl (h := ?_)
    refine q_seq (h := ?_)
    refine sq (h := ?_)
    refine WC.part (A := a.gA) (m := q.gs.length) (cap := a.gc) (by repeat (first | exact At.here | apply At.there)) k q.gs.length (by omega) (Nat.le_refl _) hgc ?_
    refine WC.pre (A := a.gA) (m := q.gs.length) (by repeat (first | exact At.here | apply At.there)) k (by omega) ?_
    refine rgD (by kernel_rfl) [(12, .blk b2 27 (q.cells x0)), (1000000, .blk b0 27 (q.cells a))] (by repeat (first | exact HS.nil | (apply HS.keep; (repeat (first | exact At.here | apply At.there))) | (apply HS.ro; (repeat (first | exact Rds.ro | exact Rds.own | apply Rds.there))))) (h := ?_)
    refine tk 1 (hy := (by first | exact fa | exact faE)) (h := ?_)
    refine tk 2 (hy := (by first | exact ld | exact ldE)) (h := ?_)
    refine tk 3 (hy := mv) (h := ?_)
    refine tk 4 (hy := slA (A := a.gA) (m := q.gs.length) (cap := a.gc) (lo' := k) (hlo := by omega)) (h := ?_)
    refine tk 6 (hy := (by first | exact fa | exact faE)) (h := ?_)
    refine tk 7 (hy := (by first | exact ld | exact ldE)) (h := ?_)
    refine tk 8 (hy := mv) (h := ?_)
    refine tk 9 (hy := slP (A := a.gA) (m := q.gs.length) (cap := a.gc) (hi' := k)) (h := ?_)
    refine one 0 (h := ?_)
    refine bs (h := fun b3 => ?_)
    refine nx (h := ?_)
    refine one 5 (h := ?_)
    first | refine ap (h := fun A1 c1 => ?_) | refine ap0 (h := fun A1 c1 => ?_)
    refine nx (h := ?_)
    refine one 10 (h := ?_)
    first | refine ap (h := fun A2 c2 => ?_) | refine ap0 (h := fun A2 c2 => ?_)
    refine nx (h := ?_)
    refine tk 11 (hy := (by first | exact fa | exact faE)) (h := ?_)
    refine one 12 (h := ?_)
    first | refine st (h := ?_) | refine stE (h := ?_)
    refine nx (h := ?_)
    refine dn (h := ?_)
    refine q_seq (h := ?_)
    refine sq (h := ?_)
    simp only [Nat.zero_add, List.nil_append]
    rw [hrt, hrn]
    refine rg (h := ?_)
    refine WL.y (hy := (by first | exact fa | exact faE)) (h := ?_)
    first | refine st (h := ?_) | refine stE (h := ?_)
    refine nl (h := ?_)
    refine q_seq (h := ?_)
    refine sq (h := ?_)
    refine sq (h := ?_)
    refine WC.nilOwn 50 2 (h := ?_)
    refine rg (h := ?_)
    refine WL.y (hy := (by first | exact fa | exact faE)) (h := ?_)
    refine WL.y (hy := (by first | exact ld | exact ldE)) (h := ?_)
    refine WL.y (hy := lenS) (h := ?_)
    refine WL.y (hy := subI) (h := ?_)
    refine WL.y (hy := asg) (h := ?_)
    refine nl (h := ?_)
    refine q_seq (h := ?_)
    refine bk (h := ?_)
    refine lp (X := FrZ) (I := fun z => z.r ≤ q.fs.length) (le := fun z => [(2, .pointer (some ⟨b0, 0, none⟩)), (3, .pointer (some ⟨b1, 0, none⟩)), (5, .pointer (some ⟨b2, 0, none⟩)), (6, .int .i64 k), (7, .int .i64 ((q.fs.length : Int) - 1 - (z.r : Int)))]) (Le := fun z => [.blk b2 27 [.int .i64 q.opn, .int .i64 q.lo, .int .i64 q.hi, .int .i64 q.seats, .slice A2 q.gs.length c2, .slice z.A z.r z.c], .own z.A z.c 50 2 z.r (encF (q.fs.reverse.take z.r)), .own A2 c2 52 4 q.gs.length (encPt (rotV q.gs k)), .blk b0 27 (q.cells a), .blk b1 47 [.int .i64 x.rate, .int .i64 x.minute, .int .i64 x.id], .ro a.gA 4 q.gs.length (encPt q.gs), .ro a.fA 2 q.fs.length (encF q.fs)]) (μ := fun z => q.fs.length - z.r) ⟨0, none, 0⟩ (Nat.zero_le _) (by repeat (first | exact trivial | refine ⟨rfl, ?_⟩ | refine ⟨by show some (Value.int .i64 ((q.fs.length : Int) - 1)) = some (Value.int .i64 ((q.fs.length : Int) - 1 - ((0 : Nat) : Int))); congr 2; omega, ?_⟩)) (by repeat (first | exact SubL.nil | (apply SubL.cons; (repeat (first | exact At.here | apply At.there))) | exact SubL.refl _ | apply SubL.skip)) (fun z hz => ?_)
    refine sq (h := ?_)
    refine sq (h := ?_)
    refine rg (h := ?_)
    refine WL.y (hy := mv) (h := ?_)
    refine WL.y (hy := geq) (h := ?_)
    refine nl (h := ?_)
    refine q_seq (h := ?_)
    refine cd (by exact rfl) (fun h4 => ?_) (fun h4 => ?_)
    · skip
      have hrn2 : z.r < q.fs.length := by have := of_decide_eq_true h4; omega
      obtain ⟨f, hf1⟩ : ∃ f, q.fs.reverse[z.r]? = some f := ⟨_, List.getElem?_eq_getElem (by omega)⟩
      have hf2 : q.fs[((q.fs.length : Int) - 1 - (z.r : Int)).toNat]? = some f := by
        rw [← hf1, List.getElem?_reverse (by omega)]
        congr 1; omega
      have hfe := encF_at hf2
      have hft : encF (q.fs.reverse.take z.r) ++ [[.int .i64 f.1, .int .i64 f.2]] = encF (q.fs.reverse.take (z.r + 1)) := by
        rw [List.take_add_one, hf1]
        unfold encF
        rw [List.map_append]; rfl
      refine skp (h := ?_)
      refine q_seq (h := ?_)
      refine sq (h := ?_)
      refine bk (h := ?_)
      refine rgD (by kernel_rfl) [(10, .blk b2 27 [.int .i64 q.opn, .int .i64 q.lo, .int .i64 q.hi, .int .i64 q.seats, .slice A2 q.gs.length c2, .slice z.A z.r z.c]), (1000000, .blk b0 27 (q.cells a)), (1000000, .ro a.fA 2 q.fs.length (encF q.fs))] (by repeat (first | exact HS.nil | (apply HS.keep; (repeat (first | exact At.here | apply At.there))) | (apply HS.ro; (repeat (first | exact Rds.ro | exact Rds.own | apply Rds.there))))) (h := ?_)
      refine tk 0 (hy := (by first | exact fa | exact faE)) (h := ?_)
      refine tk 1 (hy := (by first | exact ld | exact ldE)) (h := ?_)
      refine tk 2 (hy := (by first | exact fa | exact faE)) (h := ?_)
      refine tk 3 (hy := (by first | exact ld | exact ldE)) (h := ?_)
      refine tk 4 (hy := mv) (h := ?_)
      refine tk 5 (hy := ix (A := a.fA)) (h := ?_)
      refine tk 6 (hy := ldEA (A := a.fA) (hk := hfe)) (h := ?_)
      refine one 7 (h := ?_)
      refine bs (h := fun b4 => ?_)
      refine nx (h := ?_)
      refine one 8 (h := ?_)
      first | refine ap (h := fun A3 c3 => ?_) | refine ap0 (h := fun A3 c3 => ?_)
      refine nx (h := ?_)
      refine tk 9 (hy := (by first | exact fa | exact faE)) (h := ?_)
      refine one 10 (h := ?_)
      first | refine st (h := ?_) | refine stE (h := ?_)
      refine nx (h := ?_)
      refine dn (h := ?_)
      refine q_blk_norm (h := ?_)
      refine q_seq (h := ?_)
      refine rg (h := ?_)
      refine WL.y (hy := mv) (h := ?_)
      refine WL.y (hy := subI) (h := ?_)
      refine WL.y (hy := asg) (h := ?_)
      refine nl (h := ?_)
      refine rn (x := z) ⟨z.r + 1, _, _⟩ (by dsimp only; omega) (by dsimp only; omega) (by repeat (first | exact trivial | refine ⟨rfl, ?_⟩ | refine ⟨by show some (Value.int .i64 ((q.fs.length : Int) - 1 - (z.r : Int) - 1)) = some (Value.int .i64 ((q.fs.length : Int) - 1 - ((z.r + 1 : Nat) : Int))); congr 2; omega, ?_⟩)) (by dsimp only; rw [← hft]; repeat (first | exact SubL.nil | (apply SubL.cons; (repeat (first | exact At.here | apply At.there))) | exact SubL.refl _ | apply SubL.skip))
    · skip
      have hrn2 : z.r = q.fs.length := by have := of_decide_eq_false h4; omega
      rw [hrn2, List.take_of_length_le (by omega)]
      obtain ⟨G, hG⟩ : ∃ G : Fe, G = (q.fs.reverse.getLast?).getD (0, 0) := ⟨_, rfl⟩
      have hGl : 0 < q.fs.length → q.fs.reverse.getLast? = some G ∧ (encF q.fs.reverse)[q.fs.length - 1]? = some [.int .i64 G.1, .int .i64 G.2] := by
        intro hn
        cases hgl : q.fs.reverse.getLast? with
        | none => rw [List.getLast?_eq_none_iff] at hgl; rw [hgl] at hrv; simp at hrv; omega
        | some g =>
          rw [hgl] at hG
          obtain rfl : G = g := hG
          refine ⟨rfl, ?_⟩
          rw [List.getLast?_eq_getElem?, hrv] at hgl
          exact encF_at hgl
      refine et (h := ?_)
      refine q_then_exit (h := ?_)
      refine q_then_exit (h := ?_)
      refine q_blk_hit (h := ?_)
      refine q_seq (h := ?_)
      refine ct (X := Option Addr × Nat) (fun _ => True) (fun _ => [(2, .pointer (some ⟨b0, 0, none⟩)), (3, .pointer (some ⟨b1, 0, none⟩)), (5, .pointer (some ⟨b2, 0, none⟩)), (6, .int .i64 k)]) (fun y => [.blk b2 27 ((rtQ q k).cells ⟨A2, y.1, c2, y.2⟩), .own y.1 y.2 50 2 (splitV q.fs.reverse).length (encF (splitV q.fs.reverse)), .own A2 c2 52 4 (rotV q.gs k).length (encPt (rotV q.gs k)), .blk b0 27 (q.cells a), .blk b1 47 [.int .i64 x.rate, .int .i64 x.minute, .int .i64 x.id], .ro a.gA 4 q.gs.length (encPt q.gs), .ro a.fA 2 q.fs.length (encF q.fs)]) (h1 := ?_) (h2 := ?_)
      · skip
        refine sq (h := ?_)
        refine rg (h := ?_)
        refine WL.y (hy := (by first | exact fa | exact faE)) (h := ?_)
        refine WL.y (hy := (by first | exact ld | exact ldE)) (h := ?_)
        refine WL.y (hy := lenS) (h := ?_)
        refine WL.y (hy := asg) (h := ?_)
        refine nl (h := ?_)
        refine q_seq (h := ?_)
        refine sq (h := ?_)
        refine rg (h := ?_)
        refine WL.y (hy := mv) (h := ?_)
        refine WL.y (hy := gtr) (h := ?_)
        refine WL.y (hy := mv) (h := ?_)
        apply brAnd 9 81 90 (by exact rfl)
        · intro hb5
          have hc0 : 0 < q.fs.length := by have := of_decide_eq_true hb5; omega
          have hG2 : (encF q.fs.reverse)[((q.fs.length : Int) - 1).toNat]? = some [.int .i64 G.1, .int .i64 G.2] := by rw [show ((q.fs.length : Int) - 1).toNat = q.fs.length - 1 by omega]; exact (hGl hc0).2
          refine un (h := ?_)
          refine WL.y (hy := (by first | exact fa | exact faE)) (h := ?_)
          refine un (h := ?_)
          refine WL.y (hy := (by first | exact ld | exact ldE)) (h := ?_)
          refine un (h := ?_)
          refine WL.y (hy := mv) (h := ?_)
          refine un (h := ?_)
          refine WL.y (hy := subI) (h := ?_)
          refine un (h := ?_)
          refine WL.y (hy := ix (A := z.A) (m := q.fs.length)) (h := ?_)
          refine un (h := ?_)
          refine WL.y (hy := (by first | exact fa | exact faE)) (h := ?_)
          refine un (h := ?_)
          refine WL.y (hy := ldE (A := z.A) (hk := hG2)) (h := ?_)
          refine un (h := ?_)
          refine WL.y (hy := gtr) (h := ?_)
          refine WL.y (hy := (by first | exact pkT | exact pkF)) (h := ?_)
          exact mg (by repeat (first | exact trivial | refine ⟨rfl, ?_⟩ | refine ⟨by rw [hb5]; rfl, ?_⟩)) (by repeat (first | exact SubL.nil | (apply SubL.cons; (repeat (first | exact At.here | apply At.there))) | exact SubL.refl _ | apply SubL.skip))
        · intro hb5
          repeat (first | refine un (h := ?_) | refine sk (h := ?_) | refine WL.y (hy := pkF) (h := ?_) | refine WL.y (hy := pkT) (h := ?_))
          exact mg (by repeat (first | exact trivial | refine ⟨rfl, ?_⟩ | refine ⟨by rw [hb5]; rfl, ?_⟩)) (by repeat (first | exact SubL.nil | (apply SubL.cons; (repeat (first | exact At.here | apply At.there))) | exact SubL.refl _ | apply SubL.skip))
        refine nl (h := ?_)
        refine q_seq (h := ?_)
        refine cd (by exact rfl) (fun h6 => ?_) (fun h6 => ?_)
        · skip
          obtain ⟨hc1, hc2⟩ : 0 < q.fs.length ∧ 0 < G.2 := by
            simp only [Bool.and_eq_true, decide_eq_true_eq] at h6; omega
          obtain ⟨hG1, hG2⟩ := hGl hc1
          obtain ⟨hsp1, hsp2⟩ := split_some hG1 hc2
          rw [hrv] at hsp1 hsp2
          have hGb := hq.fe G (List.mem_reverse.1 (List.mem_of_getLast? hG1))
          simp only [feOk, isT, Bool.and_eq_true, win_iff] at hGb
          have hto : ((q.fs.length : Int) - 1).toNat = q.fs.length - 1 := by omega
          have hGx : ((encF q.fs.reverse).set (q.fs.length - 1) ([Value.int .i64 G.1, .int .i64 G.2].set 1 (.int .i64 (G.2 - 1))))[((q.fs.length : Int) - 1).toNat]? = some [.int .i64 G.1, .int .i64 (G.2 - 1)] := by
            rw [hto, List.getElem?_set_self (by rw [encF_len]; omega)]; rfl
          rw [← hto] at hG2
          refine sq (h := ?_)
          refine rg (h := ?_)
          refine WL.y (hy := (by first | exact fa | exact faE)) (h := ?_)
          refine WL.y (hy := (by first | exact ld | exact ldE)) (h := ?_)
          refine WL.y (hy := mv) (h := ?_)
          refine WL.y (hy := subI) (h := ?_)
          refine WL.y (hy := ix (A := z.A) (m := q.fs.length)) (h := ?_)
          refine WL.y (hy := (by first | exact fa | exact faE)) (h := ?_)
          refine WL.y (hy := ldE (A := z.A) (hk := hG2)) (h := ?_)
          refine WL.y (hy := subI) (h := ?_)
          refine WL.y (hy := ix (A := z.A) (m := q.fs.length)) (h := ?_)
          refine WL.y (hy := (by first | exact fa | exact faE)) (h := ?_)
          refine stE (A := z.A) (hk := hG2) (h := ?_)
          rw [hto]
          refine nl (h := ?_)
          refine q_seq (h := ?_)
          refine rgD (by kernel_rfl) [(11, .own z.A z.c 50 2 q.fs.length ((encF q.fs.reverse).set (q.fs.length - 1) ([Value.int .i64 G.1, .int .i64 G.2].set 1 (.int .i64 (G.2 - 1))))), (13, .blk b2 27 [.int .i64 q.opn, .int .i64 q.lo, .int .i64 q.hi, .int .i64 q.seats, .slice A2 q.gs.length c2, .slice z.A q.fs.length z.c])] (by repeat (first | exact HS.nil | (apply HS.keep; (repeat (first | exact At.here | apply At.there))) | (apply HS.ro; (repeat (first | exact Rds.ro | exact Rds.own | apply Rds.there))))) (h := ?_)
          refine tk 0 (hy := (by first | exact fa | exact faE)) (h := ?_)
          refine tk 1 (hy := (by first | exact ld | exact ldE)) (h := ?_)
          refine tk 2 (hy := (by first | exact fa | exact faE)) (h := ?_)
          refine tk 3 (hy := (by first | exact ld | exact ldE)) (h := ?_)
          refine tk 4 (hy := mv) (h := ?_)
          refine tk 5 (hy := subI) (h := ?_)
          refine one 6 (h := ?_)
          refine WL.y (hy := ix (A := z.A) (m := q.fs.length)) (h := ?_)
          refine nx (h := ?_)
          refine tk 7 (hy := (by first | exact fa | exact faE)) (h := ?_)
          refine one 8 (h := ?_)
          refine WL.y (hy := ldE (A := z.A) (hk := hGx)) (h := ?_)
          refine nx (h := ?_)
          refine tk 9 (hy := bd) (h := ?_)
          refine one 10 (h := ?_)
          refine bs (h := fun b5 => ?_)
          refine nx (h := ?_)
          refine one 11 (h := ?_)
          first | refine ap (h := fun A4 c4 => ?_) | refine ap0 (h := fun A4 c4 => ?_)
          refine nx (h := ?_)
          refine tk 12 (hy := (by first | exact fa | exact faE)) (h := ?_)
          refine one 13 (h := ?_)
          first | refine st (h := ?_) | refine stE (h := ?_)
          refine nx (h := ?_)
          refine dn (h := ?_)
          first
            | exact ctn (_, _) trivial (by repeat (first | exact trivial | refine ⟨rfl, ?_⟩)) (by dsimp only [rtQ, Qu.cells]; rw [hrl, hsp2, ← hsp1]; repeat (first | exact SubL.nil | (apply SubL.cons; (repeat (first | exact At.here | apply At.there))) | exact SubL.refl _ | apply SubL.skip))
            | exact ctn (_, _) trivial (by repeat (first | exact trivial | refine ⟨rfl, ?_⟩)) (by dsimp only [rtQ, Qu.cells]; rw [hrl, hsp, hrv]; repeat (first | exact SubL.nil | (apply SubL.cons; (repeat (first | exact At.here | apply At.there))) | exact SubL.refl _ | apply SubL.skip))
        · skip
          have hsp : splitV q.fs.reverse = q.fs.reverse := split_none fun f hf' hpos => by
            by_cases hc1 : 0 < q.fs.length
            · obtain ⟨hG1, _⟩ := hGl hc1
              rw [hG1] at hf'
              obtain rfl := Option.some.inj hf'
              rw [decide_eq_true hpos, Bool.and_true, decide_eq_false_iff_not] at h6
              omega
            · have : q.fs.reverse = [] := List.eq_nil_of_length_eq_zero (by omega)
              rw [this] at hf'; cases hf'
          refine skp (h := ?_)
          first
            | exact ctn (_, _) trivial (by repeat (first | exact trivial | refine ⟨rfl, ?_⟩)) (by dsimp only [rtQ, Qu.cells]; rw [hrl, hsp2, ← hsp1]; repeat (first | exact SubL.nil | (apply SubL.cons; (repeat (first | exact At.here | apply At.there))) | exact SubL.refl _ | apply SubL.skip))
            | exact ctn (_, _) trivial (by repeat (first | exact trivial | refine ⟨rfl, ?_⟩)) (by dsimp only [rtQ, Qu.cells]; rw [hrl, hsp, hrv]; repeat (first | exact SubL.nil | (apply SubL.cons; (repeat (first | exact At.here | apply At.there))) | exact SubL.refl _ | apply SubL.skip))
      rintro y -
      refine sq (h := ?_)
      refine rg (h := ?_)
      refine WL.y (hy := (by first | exact ldA | exact ldEA)) (h := ?_)
      refine WL.y (hy := (by first | exact fa | exact faE)) (h := ?_)
      refine WL.y (hy := (by first | exact ld | exact ldE)) (h := ?_)
      refine cl (hc := fun w hS => C_gate_Enter3 q a x.rate hR.b (by omega) hR.r w ⟨hS.get (by repeat (first | exact Rds.ro | apply Rds.there)), hS.get (by repeat (first | exact Rds.ro | apply Rds.there)), hgn, hfn⟩) (h := fun p1 _ => ?_)
      refine WL.y (hy := mv) (h := ?_)
      refine WL.y (hy := ex) (h := ?_)
      refine WL.y (hy := ex) (h := ?_)
      refine WL.y (hy := asg) (h := ?_)
      refine WL.y (hy := asg) (h := ?_)
      refine nl (h := ?_)
      refine q_seq (h := ?_)
      refine sq (h := ?_)
      refine rg (h := ?_)
      refine WL.y (hy := (by first | exact ldA | exact ldEA)) (h := ?_)
      refine WL.y (hy := (by first | exact fa | exact faE)) (h := ?_)
      refine WL.y (hy := (by first | exact ld | exact ldE)) (h := ?_)
      refine cl (hc := fun w hS => C_gate_Enter3 (rtQ q k) ⟨A2, y.1, c2, y.2⟩ x.rate hpb (by show (rotV q.gs k).length ≤ 12; omega) hR.r w ⟨hS.get (by repeat (first | exact Rds.own | apply Rds.there)), hS.get (by repeat (first | exact Rds.own | apply Rds.there)), by show (rotV q.gs k).length ≤ _; omega, by show (splitV q.fs.reverse).length ≤ _; have : (splitV q.fs.reverse).length ≤ 40 := hpf; omega⟩) (h := fun p2 _ => ?_)
      refine WL.y (hy := mv) (h := ?_)
      refine WL.y (hy := ex) (h := ?_)
      refine WL.y (hy := ex) (h := ?_)
      refine WL.y (hy := asg) (h := ?_)
      refine WL.y (hy := asg) (h := ?_)
      refine nl (h := ?_)
      refine q_seq (h := ?_)
      refine sq (h := ?_)
      refine sq (h := ?_)
      refine rg (h := ?_)
      refine WL.y (hy := mv) (h := ?_)
      refine WL.y (hy := (Yd.fl (neq) (by simp))) (h := ?_)
      refine WL.y (hy := mv) (h := ?_)
      refine un (h := ?_)
      refine WL.y (hy := mv) (h := ?_)
      refine un (h := ?_)
      refine WL.y (hy := (Yd.fl (neq) (by simp))) (h := ?_)
      refine WL.y (hy := (by first | exact pkT | exact pkF)) (h := ?_)
      refine WL.y (hy := mv) (h := ?_)
      refine un (h := ?_)
      refine WL.y (hy := mv) (h := ?_)
      refine un (h := ?_)
      refine WL.y (hy := lenS) (h := ?_)
      refine un (h := ?_)
      refine WL.y (hy := (by first | exact fa | exact faE)) (h := ?_)
      refine un (h := ?_)
      refine WL.y (hy := (by first | exact ld | exact ldE)) (h := ?_)
      refine un (h := ?_)
      refine WL.y (hy := lenS) (h := ?_)
      refine un (h := ?_)
      refine WL.y (hy := (Yd.fl (neq) (by simp))) (h := ?_)
      refine WL.y (hy := (by first | exact pkT | exact pkF)) (h := ?_)
      refine WL.y (hy := mv) (h := ?_)
      refine un (h := ?_)
      refine WL.y (hy := mv) (h := ?_)
      refine un (h := ?_)
      refine WL.y (hy := lenS) (h := ?_)
      refine un (h := ?_)
      refine WL.y (hy := mv) (h := ?_)
      refine un (h := ?_)
      refine WL.y (hy := lenS) (h := ?_)
      refine un (h := ?_)
      refine WL.y (hy := (Yd.fl (neq) (by rw [hrl]; simp))) (h := ?_)
      refine WL.y (hy := (by first | exact pkT | exact pkF)) (h := ?_)
      refine nl (h := ?_)
      refine q_seq (h := ?_)
      refine cdF (h := ?_)
      refine skp (h := ?_)
      refine q_seq (h := ?_)
      refine sq (h := ?_)
      refine sq (h := ?_)
      refine rg (h := ?_)
      refine WL.y (hy := asg) (h := ?_)
      refine nl (h := ?_)
      refine q_seq (h := ?_)
      refine bk (h := ?_)
      refine lp (X := IZ) (I := fun u => u.k ≤ q.gs.length) (le := fun u => [(6, .int .i64 k), (9, .slice p1.1 q.gs.length p1.2), (11, .slice p2.1 (rotV q.gs k).length p2.2), (13, .int .i64 u.k)]) (Le := fun u => [.own p1.1 p1.2 3 1 q.gs.length (enI (runV q x.rate 0)), .own p2.1 p2.2 3 1 (rotV q.gs k).length (enI (runV (rtQ q k) x.rate 0))]) (μ := fun u => q.gs.length - u.k) ⟨0⟩ (Nat.zero_le _) (by repeat (first | exact trivial | refine ⟨rfl, ?_⟩)) (by repeat (first | exact SubL.nil | (apply SubL.cons; (repeat (first | exact At.here | apply At.there))) | exact SubL.refl _ | apply SubL.skip)) (fun u hu => ?_)
      refine sq (h := ?_)
      refine sq (h := ?_)
      refine rg (h := ?_)
      refine WL.y (hy := mv) (h := ?_)
      refine WL.y (hy := mv) (h := ?_)
      refine WL.y (hy := lenS) (h := ?_)
      refine WL.y (hy := lss) (h := ?_)
      refine nl (h := ?_)
      refine q_seq (h := ?_)
      refine cd (by exact rfl) (fun h8 => ?_) (fun h8 => ?_)
      · skip
        have hik : u.k < q.gs.length := by have := of_decide_eq_true h8; omega
        obtain ⟨v, hv⟩ : ∃ v, (runV (rtQ q k) x.rate 0)[u.k]? = some v := ⟨_, List.getElem?_eq_getElem (by omega)⟩
        have hve := enI_at hv
        have hmd := Nat.mod_lt (u.k + k) hn0
        have hmi : ((u.k : Int) + (k : Int)) % (q.gs.length : Int) = (((u.k + k) % q.gs.length : Nat) : Int) := by rw [Int.natCast_emod, Int.natCast_add]
        have hv2 : (runV q x.rate 0)[(((u.k : Int) + (k : Int)) % (q.gs.length : Int)).toNat]? = some v := by
          have h1 := order_law hT hq hp x.rate (j := (u.k : Int)) (by omega)
          rw [inAt_get hv] at h1
          unfold sgV at h1
          rw [Int.toNat_natCast] at h1
          rw [hmi, Int.toNat_natCast, List.getElem?_eq_getElem (by omega)]
          unfold inAt at h1
          rw [Int.toNat_natCast, List.getD_eq_getElem?_getD, List.getElem?_eq_getElem (by omega)] at h1
          rw [h1]; rfl
        have hv2e := enI_at hv2
        have hmr : 0 ≤ ((u.k : Int) + (k : Int)) % (q.gs.length : Int) ∧ ((u.k : Int) + (k : Int)) % (q.gs.length : Int) < q.gs.length := by omega
        refine skp (h := ?_)
        refine q_seq (h := ?_)
        refine sq (h := ?_)
        refine bk (h := ?_)
        refine sq (h := ?_)
        refine rgD0 (by kernel_rfl) (h := ?_)
        refine tk 0 (hy := mv) (h := ?_)
        refine tk 1 (hy := mv) (h := ?_)
        refine tk 2 (hy := ix (A := p2.1) (m := (rotV q.gs k).length)) (h := ?_)
        refine tk 3 (hy := ldE (A := p2.1) (hk := hve)) (h := ?_)
        refine tk 4 (hy := mv) (h := ?_)
        refine tk 5 (hy := mv) (h := ?_)
        refine tk 6 (hy := mv) (h := ?_)
        refine tk 7 (hy := addI) (h := ?_)
        refine tk 8 (hy := mv) (h := ?_)
        refine tk 9 (hy := lenS) (h := ?_)
        refine tk 10 (hy := remI) (h := ?_)
        refine tk 11 (hy := ix (A := p1.1) (m := q.gs.length) (hb := hmr)) (h := ?_)
        refine tk 12 (hy := ldE (A := p1.1) (hk := hv2e)) (h := ?_)
        refine tk 13 (hy := (Yd.fl (neq) (by simp))) (h := ?_)
        refine dn (h := ?_)
        refine q_seq (h := ?_)
        refine cdF (h := ?_)
        refine skp (h := ?_)
        refine q_blk_norm (h := ?_)
        refine q_seq (h := ?_)
        refine rg (h := ?_)
        refine WL.y (hy := mv) (h := ?_)
        refine WL.y (hy := addI) (h := ?_)
        refine WL.y (hy := asg) (h := ?_)
        refine nl (h := ?_)
        refine rn (x := u) ⟨u.k + 1⟩ (by dsimp only; omega) (by dsimp only; omega) (by repeat (first | exact trivial | refine ⟨rfl, ?_⟩)) (by repeat (first | exact SubL.nil | (apply SubL.cons; (repeat (first | exact At.here | apply At.there))) | exact SubL.refl _ | apply SubL.skip))
      · skip
        refine et (h := ?_)
        refine q_then_exit (h := ?_)
        refine q_then_exit (h := ?_)
        refine q_blk_hit (h := ?_)
        refine q_seq (h := ?_)
        refine sq (h := ?_)
        refine rg (h := ?_)
        refine cl0 (hc := fun w hS => C_law11_works w) (h := ?_)
        refine WL.y (hy := asg) (h := ?_)
        refine nl (h := ?_)
        refine q_seq (h := ?_)
        refine rtn (h := ?_)
        refine q_ret (hR := ?_)
        exact fun w hS => ⟨rfl, hS.sub (by repeat (first | exact SubL.nil | (apply SubL.cons; (repeat (first | exact At.here | apply At.there))) | exact SubL.refl _ | apply SubL.skip))⟩
end Go.Proofs.Ytbcclgfobiholaa
