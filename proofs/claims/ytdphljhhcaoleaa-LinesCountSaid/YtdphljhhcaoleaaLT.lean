/- Appeals, plainly; walks of Run. -/
import Derived.Test.YtdphljhhcaoleaaTA
import Derived.Test.YtdphljhhcaoleaaLC
namespace Go.Proofs.Ytdphljhhcaoleaa
open Go Go.RowKit

structure Appeal where
  (kind side said : Int) (v : View) (A : Option Addr) (n c : Nat) (b : Box)
abbrev Appeal.enc (a : Appeal) : List Value := [.int .i64 a.kind, .int .i64 a.side, .int .i64 a.said, .int .i64 a.v.size, .slice a.A a.n a.c, .int .i64 a.v.wr, .int .i64 a.v.hxl, .int .i64 a.v.hxh, .int .i64 a.v.hyl, .int .i64 a.v.hyh, .int .i64 a.b.l, .int .i64 a.b.r, .int .i64 a.b.b, .int .i64 a.b.t]
/-- What an appeal's strips lie at. -/
def Appeal.ok (a : Appeal) (w : World) : Prop := Rd w a.A 4 a.n a.v.enc ∧ a.n ≤ 9223372036854775807
structure RS where
  (ds : List Int) (x y : Int)
def RS.lft (s : RS) (side : Int) : Int := bif decide (side = 0) then s.x else s.y
def RS.dec (s : RS) (side : Int) (d : Int) : RS := ⟨s.ds ++ [d], bif decide (side = 0) then s.x - 1 else s.x, bif decide (side = 0) then s.y else s.y - 1⟩
def askBad (a : Appeal) (s : RS) : Bool := !decide (decE a.said a.v a.b = 0) || !wi a.side 0 1 || decide (s.lft a.side = 0)
def stepA (each more : Int) (a : Appeal) (s : RS) : Option RS :=
  bif decide (a.kind = 1) then some ⟨s.ds, each, each⟩ else bif decide (a.kind = 2) then some ⟨s.ds, s.x + more, s.y + more⟩ else bif decide (a.kind = 3) then
    (bif askBad a s then none else bif decB a.said a.v a.b then some ⟨s.ds ++ [decN a.said a.v a.b], s.x, s.y⟩ else some (s.dec a.side (decN a.said a.v a.b))) else none
def runTo (each more : Int) (aps : List Appeal) : Nat → Option RS
  | 0 => some ⟨[], 0, 0⟩
  | k + 1 => match runTo each more aps k, aps[k]? with
    | some s, some a => stepA each more a s
    | _, _ => none
def ruleBad (each more : Int) (n : Nat) : Bool := !wi each 0 9 || !wi more 0 9 || decide ((30 : Int) < n)
def runV (each more : Int) (aps : List Appeal) : Option RS := bif ruleBad each more aps.length then none else runTo each more aps aps.length
def runD : Option RS → List Int
  | some s => s.ds
  | none => []
def runX : Option RS → Int
  | some s => s.x
  | none => 0
def runY : Option RS → Int
  | some s => s.y
  | none => 0
def runE : Option RS → Int
  | some _ => 0
  | none => 23
theorem runTo_succ {each more : Int} {aps : List Appeal} {k : Nat} {s : RS} {a : Appeal} (hr : runTo each more aps k = some s) (ha : aps[k]? = some a) : runTo each more aps (k + 1) = stepA each more a s := by rw [runTo, hr, ha]
theorem runTo_none {each more : Int} {aps : List Appeal} {j : Nat} (h : runTo each more aps j = none) : ∀ {k : Nat}, j ≤ k → runTo each more aps k = none
  | 0, hk => by obtain rfl : j = 0 := by omega
                exact h
  | k + 1, hk => by
    by_cases e : j = k + 1
    · subst e; exact h
    · rw [runTo, runTo_none h (k := k) (by omega)]
theorem runTo_bnd {each more : Int} {aps : List Appeal} (he : 0 ≤ each ∧ each ≤ 9) (hm : 0 ≤ more ∧ more ≤ 9) : ∀ {k : Nat} {s : RS}, runTo each more aps k = some s → (0 ≤ s.x ∧ s.x ≤ 9 * k) ∧ (0 ≤ s.y ∧ s.y ≤ 9 * k) ∧ s.ds.length ≤ k
  | 0, s, h => by
    simp only [runTo, Option.some.injEq] at h; subst h; simp
  | k + 1, s, h => by
    rw [runTo] at h
    cases hr : runTo each more aps k with
    | none => rw [hr] at h; cases h
    | some t =>
      have ih := runTo_bnd he hm hr
      cases ha : aps[k]? with
      | none => rw [hr, ha] at h; cases h
      | some a =>
        rw [hr, ha] at h
        simp only [stepA] at h
        cases h1 : decide (a.kind = 1)
        · rw [h1] at h
          cases h2 : decide (a.kind = 2)
          · rw [h2] at h
            cases h3 : decide (a.kind = 3)
            · rw [h3] at h; cases h
            · rw [h3] at h
              cases hb : askBad a t
              · rw [hb] at h
                have hz : ¬ t.lft a.side = 0 := by
                  simp only [askBad, Bool.or_eq_false_iff, decide_eq_false_iff_not] at hb
                  exact hb.2
                cases hB : decB a.said a.v a.b
                · rw [hB] at h
                  simp only [cond_false, cond_true, Option.some.injEq] at h
                  subst h
                  simp only [RS.dec, RS.lft] at hz ⊢
                  rw [List.length_append]
                  cases hd : decide (a.side = 0) <;> rw [hd] at hz <;> simp only [cond_false, cond_true, List.length_singleton] at hz ⊢ <;> omega
                · rw [hB] at h
                  simp only [cond_false, cond_true, Option.some.injEq] at h
                  subst h
                  simp only [List.length_append, List.length_singleton]; omega
              · rw [hb] at h; cases h
          · rw [h2] at h
            simp only [cond_false, cond_true, Option.some.injEq] at h
            subst h; dsimp only; omega
        · rw [h1] at h
          simp only [cond_true, Option.some.injEq] at h
          subst h; dsimp only; omega
theorem runV_run {each more : Int} {aps : List Appeal} (h : ruleBad each more aps.length = false) : runV each more aps = runTo each more aps aps.length := by rw [runV, h]; rfl
theorem runV_bad {each more : Int} {aps : List Appeal} (h : ruleBad each more aps.length = true) : runV each more aps = none := by rw [runV, h]; rfl
theorem ruleBad_out {each more : Int} {n : Nat} (h : ruleBad each more n = false) : (0 ≤ each ∧ each ≤ 9) ∧ (0 ≤ more ∧ more ≤ 9) ∧ n ≤ 30 := by
  simp only [ruleBad, Bool.or_eq_false_iff, wi_not, decide_eq_false_iff_not] at h
  omega
/-- A round's state. -/
structure RZ where
  (k : Nat) (s : RS) (A : Option Addr) (c : Nat)
theorem lft_at (s : RS) {side : Int} (h : 0 ≤ side ∧ side ≤ 1) : [Value.int .i64 s.x, .int .i64 s.y][0 + side.toNat * 1]? = some (.int .i64 (s.lft side)) := by
  have : side = 0 ∨ side = 1 := by omega
  rcases this with rfl | rfl <;> rfl
theorem dec_at (s : RS) {side : Int} (d : Int) (h : 0 ≤ side ∧ side ≤ 1) : [Value.int .i64 s.x, .int .i64 s.y].set (0 + side.toNat * 1) (.int .i64 (s.lft side - 1)) = [.int .i64 (s.dec side d).x, .int .i64 (s.dec side d).y] := by
  have : side = 0 ∨ side = 1 := by omega
  rcases this with rfl | rfl <;> rfl
theorem lft_bnd {s : RS} {side : Int} {K : Int} (hx : 0 ≤ s.x ∧ s.x ≤ K) (hy : 0 ≤ s.y ∧ s.y ≤ K) : 0 ≤ s.lft side ∧ s.lft side ≤ K := by
  unfold RS.lft
  cases decide (side = 0) <;> simp only [cond_true, cond_false] <;> omega

theorem C_lines_Run (each more : Int) (aps : List Appeal) (A : Option Addr) (n c : Nat) (w : World) (h : Rd w A 14 n (aps.map Appeal.enc)) (hs : ∀ a ∈ aps, a.ok w) (hn : n ≤ 9223372036854775807) :
    CR Try.prog 35 [.agg #[.int .i64 each, .int .i64 more], .slice A n c] w (fun _ : Option Addr × Nat => True) (fun p => .tuple #[.slice p.1 (runD (runV each more aps)).length p.2, .agg #[.int .i64 (runX (runV each more aps)), .int .i64 (runY (runV each more aps))], .int .i64 (runE (runV each more aps))]) (fun p => [.own p.1 p.2 3 1 (runD (runV each more aps)).length (encI (runD (runV each more aps)))]) := by
  have hlen : aps.length = n := by have := h.len; simpa using this
  refine ⟨en Try.func35 Try.ntmps35 ((St.init w).share (e := .ro A 14 n (aps.map Appeal.enc)) h rfl rfl rfl) (h := fun F => ?_)⟩
  refine sq (h := ?_)
  refine rg (h := ?_)
  refine bxA (h := fun b0 => ?_)
  refine WL.y (hy := asg) (h := ?_)
  refine al (h := fun b1 => ?_)
  refine WL.y (hy := asg) (h := ?_)
  refine nl (h := ?_)
  refine q_seq (h := ?_)
  refine sq (h := ?_)
  refine sq (h := ?_)
  refine rg (h := ?_)
  refine WL.y (hy := (by first | exact fa | exact faE)) (h := ?_)
  refine WL.y (hy := (by first | exact ld | exact ldE)) (h := ?_)
  refine cl0 (hc := fun w hS => C_lines_within ..) (h := ?_)
  refine WL.y (hy := notB) (h := ?_)
  refine WL.y (hy := mv) (h := ?_)
  apply brOr 5 16 21 (by exact rfl)
  · intro hb0
    refine un (h := ?_)
    refine WL.y (hy := (by first | exact fa | exact faE)) (h := ?_)
    refine un (h := ?_)
    refine WL.y (hy := (by first | exact ld | exact ldE)) (h := ?_)
    refine un (h := ?_)
    refine cl0 (hc := fun w hS => C_lines_within ..) (h := ?_)
    refine un (h := ?_)
    refine WL.y (hy := notB) (h := ?_)
    refine WL.y (hy := (by first | exact pkT | exact pkF)) (h := ?_)
    exact mg (by repeat (first | exact trivial | refine ⟨rfl, ?_⟩ | refine ⟨by rw [hb0]; rfl, ?_⟩)) (by repeat (first | exact SubL.nil | (apply SubL.cons; (repeat (first | exact At.here | apply At.there)))))
  · intro hb0
    repeat (first | refine un (h := ?_) | refine sk (h := ?_) | refine WL.y (hy := pkF) (h := ?_) | refine WL.y (hy := pkT) (h := ?_))
    exact mg (by repeat (first | exact trivial | refine ⟨rfl, ?_⟩ | refine ⟨by rw [hb0]; rfl, ?_⟩)) (by repeat (first | exact SubL.nil | (apply SubL.cons; (repeat (first | exact At.here | apply At.there)))))
  refine WL.y (hy := mv) (h := ?_)
  apply brOr 4 22 26 (by exact rfl)
  · intro hb1
    refine un (h := ?_)
    refine WL.y (hy := mv) (h := ?_)
    refine un (h := ?_)
    refine WL.y (hy := lenS) (h := ?_)
    refine un (h := ?_)
    refine WL.y (hy := gtr) (h := ?_)
    refine WL.y (hy := (by first | exact pkT | exact pkF)) (h := ?_)
    exact mg (by repeat (first | exact trivial | refine ⟨rfl, ?_⟩ | refine ⟨by rw [hb1]; rfl, ?_⟩)) (by repeat (first | exact SubL.nil | (apply SubL.cons; (repeat (first | exact At.here | apply At.there)))))
  · intro hb1
    repeat (first | refine un (h := ?_) | refine sk (h := ?_) | refine WL.y (hy := pkF) (h := ?_) | refine WL.y (hy := pkT) (h := ?_))
    exact mg (by repeat (first | exact trivial | refine ⟨rfl, ?_⟩ | refine ⟨by rw [hb1]; rfl, ?_⟩)) (by repeat (first | exact SubL.nil | (apply SubL.cons; (repeat (first | exact At.here | apply At.there)))))
  refine nl (h := ?_)
  refine q_seq (h := ?_)
  refine cd (by exact rfl) (fun h2 => ?_) (fun h2 => ?_)
  · skip
    have hrun : runV each more aps = none := runV_bad (by rw [hlen]; exact h2)
    refine sq (h := ?_)
    refine rg (h := ?_)
    refine WL.y (hy := bdA) (h := ?_)
    refine WL.y (hy := asg) (h := ?_)
    first | refine stA (h := ?_) | refine stEA (h := ?_)
    refine WL.y (hy := asg) (h := ?_)
    refine WL.nilOwn 3 1 (h := ?_)
    refine nl (h := ?_)
    refine q_seq (h := ?_)
    refine rtn (h := ?_)
    refine q_then_ret (h := ?_)
    refine q_ret (hR := ?_)
    rw [hrun]
    first
      | exact fun w hS => ⟨(none, 0), trivial, rfl, hS.sub (by repeat (first | exact SubL.nil | (apply SubL.cons; (repeat (first | exact At.here | apply At.there)))))⟩
      | exact fun w hS => ⟨(z.A, z.c), trivial, rfl, hS.sub (by repeat (first | exact SubL.nil | (apply SubL.cons; (repeat (first | exact At.here | apply At.there)))))⟩
  · skip
    have hrb : ruleBad each more aps.length = false := by rw [hlen]; exact h2
    have hrv := runV_run hrb
    obtain ⟨he9, hm9, hn30⟩ := ruleBad_out hrb
    refine skp (h := ?_)
    refine q_seq (h := ?_)
    refine sq (h := ?_)
    refine sq (h := ?_)
    refine WC.nilOwn 3 1 (h := ?_)
    refine rg (h := ?_)
    refine WL.y (hy := mv) (h := ?_)
    refine WL.y (hy := lenS) (h := ?_)
    refine WL.y (hy := mv) (h := ?_)
    refine nl (h := ?_)
    refine q_seq (h := ?_)
    refine bk (h := ?_)
    refine lp (X := RZ) (I := fun z => z.k ≤ n ∧ runTo each more aps z.k = some z.s) (le := fun z => [(2, .pointer (some ⟨b0, 0, none⟩)), (4, .slice z.A z.s.ds.length z.c), (5, .pointer (some ⟨b1, 0, none⟩)), (28, .slice A n c), (29, .int .i64 n), (30, .int .i64 z.k)]) (Le := fun z => [.own z.A z.c 3 1 z.s.ds.length (encI z.s.ds), .blk b0 64 [.int .i64 each, .int .i64 more], .blk b1 66 [.int .i64 z.s.x, .int .i64 z.s.y], .ro A 14 n (aps.map Appeal.enc)]) (μ := fun z => n - z.k) ⟨0, ⟨[], 0, 0⟩, none, 0⟩ ⟨Nat.zero_le _, rfl⟩ (by repeat (first | exact trivial | refine ⟨rfl, ?_⟩)) (by repeat (first | exact SubL.nil | (apply SubL.cons; (repeat (first | exact At.here | apply At.there))))) (fun z hz => ?_)
    obtain ⟨hzk, hzr⟩ := hz
    obtain ⟨hz1, hz2, hzl⟩ := runTo_bnd he9 hm9 hzr
    refine sq (h := ?_)
    refine rg (h := ?_)
    refine WL.y (hy := lss) (h := ?_)
    refine nl (h := ?_)
    refine q_seq (h := ?_)
    refine sq (h := ?_)
    refine cd (by exact rfl) (fun h3 => ?_) (fun h3 => ?_)
    · skip
      have hkn : z.k < n := by simp only [decide_eq_true_eq] at h3; omega
      obtain ⟨a, ha⟩ : ∃ a, aps[z.k]? = some a := ⟨_, List.getElem?_eq_getElem (by omega)⟩
      have hae : (aps.map Appeal.enc)[z.k]? = some a.enc := by rw [List.getElem?_map, ha]; rfl
      have hstep := runTo_succ hzr ha
      refine skp (h := ?_)
      refine q_seq (h := ?_)
      refine sq (h := ?_)
      refine bk (h := ?_)
      refine sq (h := ?_)
      refine rg (h := ?_)
      refine WL.y (hy := ix (hb := by omega)) (h := ?_)
      refine WL.y (hy := ldEW (k := z.k) (cs := a.enc) (hk := hae)) (h := ?_)
      refine al (h := fun b2 => ?_)
      first | refine stA (h := ?_) | refine stEA (h := ?_)
      refine nl (h := ?_)
      refine q_seq (h := ?_)
      refine sq (h := ?_)
      refine rg (h := ?_)
      refine WL.y (hy := (by first | exact fa | exact faE)) (h := ?_)
      refine WL.y (hy := (by first | exact ld | exact ldE)) (h := ?_)
      refine nl (h := ?_)
      refine q_seq (h := ?_)
      refine bk (h := ?_)
      refine sq (h := ?_)
      refine rg (h := ?_)
      refine WL.y (hy := eql) (h := ?_)
      refine WL.y (hy := asg) (h := ?_)
      refine nl (h := ?_)
      refine q_seq (h := ?_)
      refine cd (by exact rfl) (fun h4 => ?_) (fun h4 => ?_)
      · skip
        have hnx : runTo each more aps (z.k + 1) = some ⟨z.s.ds, each, each⟩ := by rw [hstep, stepA, h4]; rfl
        refine rg (h := ?_)
        refine WL.y (hy := (by first | exact fa | exact faE)) (h := ?_)
        refine WL.y (hy := (by first | exact ld | exact ldE)) (h := ?_)
        refine WL.y (hy := (by first | exact fa | exact faE)) (h := ?_)
        refine WL.y (hy := (by first | exact ld | exact ldE)) (h := ?_)
        refine WL.y (hy := bdA) (h := ?_)
        first | refine stA (h := ?_) | refine stEA (h := ?_)
        refine nl (h := ?_)
        refine q_blk_norm (h := ?_)
        refine q_blk_norm (h := ?_)
        refine q_seq (h := ?_)
        refine rg (h := ?_)
        refine WL.y (hy := addI) (h := ?_)
        refine WL.y (hy := mv) (h := ?_)
        refine nl (h := ?_)
        refine rn (x := z) ⟨z.k + 1, _, _, _⟩ ⟨by dsimp only; omega, hnx⟩ (by dsimp only; omega) (by (try dsimp only [RS.dec]); (try rw [List.length_append]); repeat (first | exact trivial | refine ⟨rfl, ?_⟩)) (by (try dsimp only [RS.dec]); (try rw [List.length_append, ← encI_app]); repeat (first | exact SubL.nil | (apply SubL.cons; (repeat (first | exact At.here | apply At.there)))))
      · skip
        have hk1 : decide (a.kind = 1) = false := h4
        refine sq (h := ?_)
        refine rg (h := ?_)
        refine WL.y (hy := eql) (h := ?_)
        refine WL.y (hy := asg) (h := ?_)
        refine nl (h := ?_)
        refine q_seq (h := ?_)
        refine cd (by exact rfl) (fun h5 => ?_) (fun h5 => ?_)
        · skip
          have hnx : runTo each more aps (z.k + 1) = some ⟨z.s.ds, z.s.x + more, z.s.y + more⟩ := by rw [hstep, stepA, hk1, h5]; rfl
          refine sq (h := ?_)
          refine rg (h := ?_)
          refine WL.y (hy := ixA) (h := ?_)
          refine WL.y (hy := (by first | exact ld | exact ldE)) (h := ?_)
          refine WL.y (hy := (by first | exact fa | exact faE)) (h := ?_)
          refine WL.y (hy := (by first | exact ld | exact ldE)) (h := ?_)
          refine WL.y (hy := addI) (h := ?_)
          refine WL.y (hy := ixA) (h := ?_)
          first | refine st (h := ?_) | refine stE (h := ?_)
          refine nl (h := ?_)
          refine q_seq (h := ?_)
          refine rg (h := ?_)
          refine WL.y (hy := ixA) (h := ?_)
          refine WL.y (hy := (by first | exact ld | exact ldE)) (h := ?_)
          refine WL.y (hy := (by first | exact fa | exact faE)) (h := ?_)
          refine WL.y (hy := (by first | exact ld | exact ldE)) (h := ?_)
          refine WL.y (hy := addI) (h := ?_)
          refine WL.y (hy := ixA) (h := ?_)
          first | refine st (h := ?_) | refine stE (h := ?_)
          refine nl (h := ?_)
          refine q_blk_norm (h := ?_)
          refine q_blk_norm (h := ?_)
          refine q_seq (h := ?_)
          refine rg (h := ?_)
          refine WL.y (hy := addI) (h := ?_)
          refine WL.y (hy := mv) (h := ?_)
          refine nl (h := ?_)
          refine rn (x := z) ⟨z.k + 1, _, _, _⟩ ⟨by dsimp only; omega, hnx⟩ (by dsimp only; omega) (by (try dsimp only [RS.dec]); (try rw [List.length_append]); repeat (first | exact trivial | refine ⟨rfl, ?_⟩)) (by (try dsimp only [RS.dec]); (try rw [List.length_append, ← encI_app]); repeat (first | exact SubL.nil | (apply SubL.cons; (repeat (first | exact At.here | apply At.there)))))
        · skip
          have hk2 : decide (a.kind = 2) = false := h5
          refine sq (h := ?_)
          refine rg (h := ?_)
          refine WL.y (hy := eql) (h := ?_)
          refine WL.y (hy := asg) (h := ?_)
          refine nl (h := ?_)
          refine q_seq (h := ?_)
          refine cd (by exact rfl) (fun h6 => ?_) (fun h6 => ?_)
          · skip
            have hk3 : decide (a.kind = 3) = true := h6
            refine sq (h := ?_)
            refine WC.old (hs a (List.mem_of_getElem? ha)).1 ?_
            have han := (hs a (List.mem_of_getElem? ha)).2
            refine rg (h := ?_)
            refine WL.y (hy := (by first | exact fa | exact faE)) (h := ?_)
            refine WL.y (hy := (by first | exact ld | exact ldE)) (h := ?_)
            refine WL.y (hy := (by first | exact fa | exact faE)) (h := ?_)
            refine WL.y (hy := (by first | exact ldA | exact ldEA)) (h := ?_)
            refine WL.y (hy := (by first | exact fa | exact faE)) (h := ?_)
            refine WL.y (hy := (by first | exact ldA | exact ldEA)) (h := ?_)
            refine cl0 (hc := fun w hS => C_lines_Decide a.said a.v a.b a.A a.n a.c w (hS.get (by repeat (first | exact Rds.ro | exact Rds.own | apply Rds.there))) han) (h := ?_); rw [decR_eq]
            refine WL.y (hy := mv) (h := ?_)
            refine WL.y (hy := ex) (h := ?_)
            refine WL.y (hy := ex) (h := ?_)
            refine WL.y (hy := ex) (h := ?_)
            refine WL.y (hy := asg) (h := ?_)
            refine WL.y (hy := asg) (h := ?_)
            refine WL.y (hy := asg) (h := ?_)
            refine nl (h := ?_)
            refine q_seq (h := ?_)
            refine sq (h := ?_)
            refine sq (h := ?_)
            refine rg (h := ?_)
            refine WL.y (hy := mv) (h := ?_)
            refine WL.y (hy := neq) (h := ?_)
            refine WL.y (hy := mv) (h := ?_)
            apply brOr 5 73 78 (by exact rfl)
            · intro hb7
              refine un (h := ?_)
              refine WL.y (hy := (by first | exact fa | exact faE)) (h := ?_)
              refine un (h := ?_)
              refine WL.y (hy := (by first | exact ld | exact ldE)) (h := ?_)
              refine un (h := ?_)
              refine cl0 (hc := fun w hS => C_lines_within ..) (h := ?_)
              refine un (h := ?_)
              refine WL.y (hy := notB) (h := ?_)
              refine WL.y (hy := (by first | exact pkT | exact pkF)) (h := ?_)
              exact mg (by repeat (first | exact trivial | refine ⟨rfl, ?_⟩ | refine ⟨by rw [hb7]; rfl, ?_⟩)) (by repeat (first | exact SubL.nil | (apply SubL.cons; (repeat (first | exact At.here | apply At.there)))))
            · intro hb7
              repeat (first | refine un (h := ?_) | refine sk (h := ?_) | refine WL.y (hy := pkF) (h := ?_) | refine WL.y (hy := pkT) (h := ?_))
              exact mg (by repeat (first | exact trivial | refine ⟨rfl, ?_⟩ | refine ⟨by rw [hb7]; rfl, ?_⟩)) (by repeat (first | exact SubL.nil | (apply SubL.cons; (repeat (first | exact At.here | apply At.there)))))
            refine WL.y (hy := mv) (h := ?_)
            apply brOr 6 79 85 (by exact rfl)
            · intro hb8
              have hsd : 0 ≤ a.side ∧ a.side ≤ 1 := by
                simp only [Bool.or_eq_false_iff, wi_not] at hb8
                exact hb8.2
              have hlv := lft_at z.s hsd
              refine un (h := ?_)
              refine WL.y (hy := (by first | exact fa | exact faE)) (h := ?_)
              refine un (h := ?_)
              refine WL.y (hy := (by first | exact ld | exact ldE)) (h := ?_)
              refine un (h := ?_)
              refine WL.y (hy := ixA) (h := ?_)
              refine un (h := ?_)
              refine WL.y (hy := ld (hc := hlv)) (h := ?_)
              refine un (h := ?_)
              refine WL.y (hy := eql) (h := ?_)
              refine WL.y (hy := (by first | exact pkT | exact pkF)) (h := ?_)
              exact mg (by repeat (first | exact trivial | refine ⟨rfl, ?_⟩ | refine ⟨by rw [hb8]; rfl, ?_⟩)) (by repeat (first | exact SubL.nil | (apply SubL.cons; (repeat (first | exact At.here | apply At.there)))))
            · intro hb8
              repeat (first | refine un (h := ?_) | refine sk (h := ?_) | refine WL.y (hy := pkF) (h := ?_) | refine WL.y (hy := pkT) (h := ?_))
              exact mg (by repeat (first | exact trivial | refine ⟨rfl, ?_⟩ | refine ⟨by rw [hb8]; rfl, ?_⟩)) (by repeat (first | exact SubL.nil | (apply SubL.cons; (repeat (first | exact At.here | apply At.there)))))
            refine nl (h := ?_)
            refine q_seq (h := ?_)
            refine cd (by exact rfl) (fun h9 => ?_) (fun h9 => ?_)
            · skip
              have hab : askBad a z.s = true := h9
              have hrun : runV each more aps = none := by rw [hrv]; exact runTo_none (j := z.k + 1) (by rw [hstep, stepA, hk1, hk2, hk3, hab]; rfl) (by omega)
              refine sq (h := ?_)
              refine rg (h := ?_)
              refine WL.y (hy := bdA) (h := ?_)
              refine WL.y (hy := asg) (h := ?_)
              first | refine stA (h := ?_) | refine stEA (h := ?_)
              refine WL.y (hy := asg) (h := ?_)
              refine WL.nilOwn 3 1 (h := ?_)
              refine nl (h := ?_)
              refine q_seq (h := ?_)
              refine rtn (h := ?_)
              refine q_then_ret (h := ?_)
              refine q_blk_ret (h := ?_)
              refine q_blk_ret (h := ?_)
              refine q_then_ret (h := ?_)
              refine q_then_ret (h := ?_)
              refine q_blk_ret (h := ?_)
              refine q_then_ret (h := ?_)
              refine q_ret (hR := ?_)
              rw [hrun]
              first
                | exact fun w hS => ⟨(none, 0), trivial, rfl, hS.sub (by repeat (first | exact SubL.nil | (apply SubL.cons; (repeat (first | exact At.here | apply At.there)))))⟩
                | exact fun w hS => ⟨(z.A, z.c), trivial, rfl, hS.sub (by repeat (first | exact SubL.nil | (apply SubL.cons; (repeat (first | exact At.here | apply At.there)))))⟩
            · skip
              have hab : askBad a z.s = false := h9
              have hsd : 0 ≤ a.side ∧ a.side ≤ 1 := by
                simp only [askBad, Bool.or_eq_false_iff, wi_not] at hab
                exact hab.1.2
              refine skp (h := ?_)
              refine q_seq (h := ?_)
              refine sq (h := ?_)
              refine rg (h := ?_)
              refine WL.y (hy := mv) (h := ?_)
              refine WL.y (hy := mv) (h := ?_)
              refine bs (h := fun b3 => ?_)
              first | refine ap (h := fun A1 c1 => ?_) | refine ap0 (h := fun A1 c1 => ?_)
              refine WL.y (hy := asg) (h := ?_)
              refine nl (h := ?_)
              refine q_seq (h := ?_)
              refine sq (h := ?_)
              refine rg (h := ?_)
              refine WL.y (hy := mv) (h := ?_)
              refine WL.y (hy := notB) (h := ?_)
              refine nl (h := ?_)
              refine q_seq (h := ?_)
              refine cd (by exact rfl) (fun h10 => ?_) (fun h10 => ?_)
              · skip
                have hB : decB a.said a.v a.b = false := by simpa using h10
                have hnx : runTo each more aps (z.k + 1) = some (z.s.dec a.side (decN a.said a.v a.b)) := by rw [hstep, stepA, hk1, hk2, hk3, hab, hB]; rfl
                have hlb := lft_bnd (side := a.side) hz1 hz2
                have hset := dec_at z.s (decN a.said a.v a.b) hsd
                have hlv := lft_at z.s hsd
                refine rg (h := ?_)
                refine WL.y (hy := (by first | exact fa | exact faE)) (h := ?_)
                refine WL.y (hy := (by first | exact ld | exact ldE)) (h := ?_)
                refine WL.y (hy := ixA) (h := ?_)
                refine WL.y (hy := ld (hc := hlv)) (h := ?_)
                refine WL.y (hy := subI) (h := ?_)
                refine WL.y (hy := ixA) (h := ?_)
                refine stI (ho := by simp; omega) (h := ?_)
                rw [hset]
                refine nl (h := ?_)
                refine q_blk_norm (h := ?_)
                refine q_blk_norm (h := ?_)
                refine q_seq (h := ?_)
                refine rg (h := ?_)
                refine WL.y (hy := addI) (h := ?_)
                refine WL.y (hy := mv) (h := ?_)
                refine nl (h := ?_)
                refine rn (x := z) ⟨z.k + 1, _, _, _⟩ ⟨by dsimp only; omega, hnx⟩ (by dsimp only; omega) (by (try dsimp only [RS.dec]); (try rw [List.length_append]); repeat (first | exact trivial | refine ⟨rfl, ?_⟩)) (by (try dsimp only [RS.dec]); (try rw [List.length_append, ← encI_app]); repeat (first | exact SubL.nil | (apply SubL.cons; (repeat (first | exact At.here | apply At.there)))))
              · skip
                have hB : decB a.said a.v a.b = true := by simpa using h10
                have hnx : runTo each more aps (z.k + 1) = some ⟨z.s.ds ++ [decN a.said a.v a.b], z.s.x, z.s.y⟩ := by rw [hstep, stepA, hk1, hk2, hk3, hab, hB]; rfl
                refine skp (h := ?_)
                refine q_blk_norm (h := ?_)
                refine q_blk_norm (h := ?_)
                refine q_seq (h := ?_)
                refine rg (h := ?_)
                refine WL.y (hy := addI) (h := ?_)
                refine WL.y (hy := mv) (h := ?_)
                refine nl (h := ?_)
                refine rn (x := z) ⟨z.k + 1, _, _, _⟩ ⟨by dsimp only; omega, hnx⟩ (by dsimp only; omega) (by (try dsimp only [RS.dec]); (try rw [List.length_append]); repeat (first | exact trivial | refine ⟨rfl, ?_⟩)) (by (try dsimp only [RS.dec]); (try rw [List.length_append, ← encI_app]); repeat (first | exact SubL.nil | (apply SubL.cons; (repeat (first | exact At.here | apply At.there)))))
          · skip
            have hk3 : decide (a.kind = 3) = false := h6
            have hrun : runV each more aps = none := by rw [hrv]; exact runTo_none (j := z.k + 1) (by rw [hstep, stepA, hk1, hk2, hk3]; rfl) (by omega)
            refine sq (h := ?_)
            refine rg (h := ?_)
            refine WL.y (hy := bdA) (h := ?_)
            refine WL.y (hy := asg) (h := ?_)
            first | refine stA (h := ?_) | refine stEA (h := ?_)
            refine WL.y (hy := asg) (h := ?_)
            refine WL.nilOwn 3 1 (h := ?_)
            refine nl (h := ?_)
            refine q_seq (h := ?_)
            refine rtn (h := ?_)
            refine q_blk_ret (h := ?_)
            refine q_blk_ret (h := ?_)
            refine q_then_ret (h := ?_)
            refine q_then_ret (h := ?_)
            refine q_blk_ret (h := ?_)
            refine q_then_ret (h := ?_)
            refine q_ret (hR := ?_)
            rw [hrun]
            first
              | exact fun w hS => ⟨(none, 0), trivial, rfl, hS.sub (by repeat (first | exact SubL.nil | (apply SubL.cons; (repeat (first | exact At.here | apply At.there)))))⟩
              | exact fun w hS => ⟨(z.A, z.c), trivial, rfl, hS.sub (by repeat (first | exact SubL.nil | (apply SubL.cons; (repeat (first | exact At.here | apply At.there)))))⟩
    · skip
      have hkn : z.k = n := by simp only [decide_eq_false_iff_not] at h3; omega
      have hrun : runV each more aps = some z.s := by rw [hrv, hlen, ← hkn]; exact hzr
      refine et (h := ?_)
      refine q_then_exit (h := ?_)
      refine q_then_exit (h := ?_)
      refine q_blk_hit (h := ?_)
      refine q_seq (h := ?_)
      refine sq (h := ?_)
      refine rgD (by kernel_rfl) [(3, .blk b1 66 [.int .i64 z.s.x, .int .i64 z.s.y])] (by repeat (first | exact HS.nil | (apply HS.keep; (repeat (first | exact At.here | apply At.there))) | (apply HS.ro; (repeat (first | exact Rds.ro | exact Rds.own | apply Rds.there))))) (h := ?_)
      refine tk 0 (hy := mv) (h := ?_)
      refine tk 1 (hy := (by first | exact ldA | exact ldEA)) (h := ?_)
      refine tk 2 (hy := asg) (h := ?_)
      refine one 3 (h := ?_)
      first | refine stA (h := ?_) | refine stEA (h := ?_)
      refine nx (h := ?_)
      refine tk 4 (hy := asg) (h := ?_)
      refine dn (h := ?_)
      refine q_seq (h := ?_)
      refine rtn (h := ?_)
      refine q_ret (hR := ?_)
      rw [hrun]
      first
        | exact fun w hS => ⟨(none, 0), trivial, rfl, hS.sub (by repeat (first | exact SubL.nil | (apply SubL.cons; (repeat (first | exact At.here | apply At.there)))))⟩
        | exact fun w hS => ⟨(z.A, z.c), trivial, rfl, hS.sub (by repeat (first | exact SubL.nil | (apply SubL.cons; (repeat (first | exact At.here | apply At.there)))))⟩
end Go.Proofs.Ytdphljhhcaoleaa
