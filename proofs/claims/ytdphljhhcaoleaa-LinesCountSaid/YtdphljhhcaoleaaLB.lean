/- Walks of the reference package of lines, three: centres, all truths, the call. -/
import Derived.Test.YtdphljhhcaoleaaLA
namespace Go.Proofs.Ytdphljhhcaoleaa
open Go Go.RowKit

def encC (ps : List (Int × Int)) : List (List Value) := ps.map fun p => [.int .i64 p.1, .int .i64 p.2, .int .i64 0, .int .i64 0]
theorem encC_app (ps : List (Int × Int)) (p : Int × Int) : encC ps ++ [[.int .i64 p.1, .int .i64 p.2, .int .i64 0, .int .i64 0]] = encC (ps ++ [p]) := by simp [encC]

theorem C_ref_centres (v : View) (A : Option Addr) (n c : Nat) (w : World) (h : Rd w A 4 n v.enc) (hv : v.Near) :
    CR Try.prog 68 [v.val A n c] w (fun _ : Option Addr × Nat => True) (fun p => .slice p.1 (trus v).length p.2) (fun p => [.own p.1 p.2 45 4 (trus v).length (encC (trus v))]) := by
  have hmi := m_int hv
  have hml := m_le hv
  have hmm := mm_le hv
  have hs0 := hv.s0
  refine ⟨en Try.func68 Try.ntmps68 ((St.init w).share (e := .ro A 4 n v.enc) h rfl rfl rfl) (h := fun F => ?_)⟩
  refine sq (h := ?_)
  refine rg (h := ?_)
  refine bxA (h := fun b0 => ?_)
  refine WL.y (hy := asg) (h := ?_)
  refine nl (h := ?_)
  refine q_seq (h := ?_)
  refine sq (h := ?_)
  refine rg (h := ?_)
  refine WL.y (hy := asg) (h := ?_)
  refine nl (h := ?_)
  refine q_seq (h := ?_)
  refine sq (h := ?_)
  refine sq (h := ?_)
  refine WC.nilOwn 45 4 (h := ?_)
  refine rg (h := ?_)
  refine WL.y (hy := asg) (h := ?_)
  refine nl (h := ?_)
  refine q_seq (h := ?_)
  refine bk (h := ?_)
  refine lp (X := LS) (I := fun z => z.k ≤ v.m ∧ z.es = encC (truTo v (z.k * v.m)) ∧ z.m = (truTo v (z.k * v.m)).length) (le := fun z => [(1, .pointer (some ⟨b0, 0, none⟩)), (3, .slice z.A z.m z.c), (4, .int .i64 z.k)]) (Le := fun z => [.own z.A z.c 45 4 z.m z.es, .ro A 4 n v.enc, .blk b0 26 (v.cells A n c)]) (μ := fun z => v.m - z.k) ⟨0, 0, [], none, 0⟩ ⟨by dsimp only; omega, by dsimp only; rw [Nat.zero_mul]; rfl, by dsimp only; rw [Nat.zero_mul]; rfl⟩ (by repeat (first | exact trivial | refine ⟨rfl, ?_⟩)) (by repeat (first | exact SubL.nil | (apply SubL.cons; (repeat (first | exact At.here | apply At.there))))) (fun z hz => ?_)
  obtain ⟨hk, hes, hm⟩ := hz
  refine sq (h := ?_)
  refine sq (h := ?_)
  refine rg (h := ?_)
  refine WL.y (hy := mv) (h := ?_)
  refine WL.y (hy := (by first | exact fa | exact faE)) (h := ?_)
  refine WL.y (hy := (by first | exact ld | exact ldE)) (h := ?_)
  refine WL.y (hy := leq) (h := ?_)
  refine nl (h := ?_)
  refine q_seq (h := ?_)
  refine cd (by exact rfl) (fun h0 => ?_) (fun h0 => ?_)
  · skip
    have hkm : z.k < v.m := by simp only [decide_eq_true_eq] at h0; omega
    refine skp (h := ?_)
    refine q_seq (h := ?_)
    refine sq (h := ?_)
    refine bk (h := ?_)
    refine sq (h := ?_)
    refine rg (h := ?_)
    refine WL.y (hy := asg) (h := ?_)
    refine nl (h := ?_)
    refine q_seq (h := ?_)
    refine bk (h := ?_)
    refine lp (X := LS) (I := fun u => u.k ≤ v.m ∧ u.es = encC (truTo v (z.k * v.m + u.k)) ∧ u.m = (truTo v (z.k * v.m + u.k)).length) (le := fun u => [(1, .pointer (some ⟨b0, 0, none⟩)), (3, .slice u.A u.m u.c), (4, .int .i64 z.k), (5, .int .i64 u.k)]) (Le := fun u => [.own u.A u.c 45 4 u.m u.es, .ro A 4 n v.enc, .blk b0 26 (v.cells A n c)]) (μ := fun u => v.m - u.k) ⟨0, z.m, z.es, z.A, z.c⟩ ⟨by dsimp only; omega, hes, hm⟩ (by repeat (first | exact trivial | refine ⟨rfl, ?_⟩)) (by repeat (first | exact SubL.nil | (apply SubL.cons; (repeat (first | exact At.here | apply At.there))))) (fun u hu => ?_)
    obtain ⟨huk, hues, hum⟩ := hu
    have hul := truTo_len v (z.k * v.m + u.k)
    refine sq (h := ?_)
    refine sq (h := ?_)
    refine rg (h := ?_)
    refine WL.y (hy := mv) (h := ?_)
    refine WL.y (hy := (by first | exact fa | exact faE)) (h := ?_)
    refine WL.y (hy := (by first | exact ld | exact ldE)) (h := ?_)
    refine WL.y (hy := leq) (h := ?_)
    refine nl (h := ?_)
    refine q_seq (h := ?_)
    refine cd (by exact rfl) (fun h1 => ?_) (fun h1 => ?_)
    · skip
      have hjl : u.k < v.m := by simp only [decide_eq_true_eq] at h1; omega
      have hin := ctr_in hkm hjl
      refine skp (h := ?_)
      refine q_seq (h := ?_)
      refine sq (h := ?_)
      refine bk (h := ?_)
      refine sq (h := ?_)
      refine rgD0 (by kernel_rfl) (h := ?_)
      refine tk 0 (hy := (by first | exact ldA | exact ldEA)) (h := ?_)
      refine tk 1 (hy := mv) (h := ?_)
      refine tk 2 (hy := mv) (h := ?_)
      refine tk 5 (hy := (by first | exact fa | exact faE)) (h := ?_)
      refine tk 6 (hy := (by first | exact ld | exact ldE)) (h := ?_)
      refine one 3 (h := ?_)
      refine cl (hc := fun w hS => C_ref_wrong _ _ _ _ _ _ w (hS.get (by repeat (first | exact Rds.ro | exact Rds.own | apply Rds.there))) ‹_› (by omega) (by omega)) (h := fun x0 _ => ?_)
      refine nx (h := ?_)
      refine tk 4 (hy := lenS) (h := ?_)
      refine tk 7 (hy := leq) (h := ?_)
      refine dn (h := ?_)
      refine q_seq (h := ?_)
      refine cd (by exact rfl) (fun h2 => ?_) (fun h2 => ?_)
      · skip
        have ht : tru v (ctr v (z.k * v.m + u.k)) = true := by rw [ctr_eq hjl]; exact h2
        refine rg (h := ?_)
        refine WL.y (hy := mv) (h := ?_)
        refine WL.y (hy := mv) (h := ?_)
        refine WL.y (hy := mv) (h := ?_)
        refine WL.y (hy := bd) (h := ?_)
        refine bs (h := fun b1 => ?_)
        first | refine ap (h := fun A1 c1 => ?_) | refine ap0 (h := fun A1 c1 => ?_)
        refine WL.y (hy := asg) (h := ?_)
        refine nl (h := ?_)
        refine q_blk_norm (h := ?_)
        refine q_seq (h := ?_)
        refine rg (h := ?_)
        refine WL.y (hy := mv) (h := ?_)
        refine WL.y (hy := addI) (h := ?_)
        refine WL.y (hy := asg) (h := ?_)
        refine nl (h := ?_)
        first
          | refine rn (x := u) ⟨u.k + 1, u.m + 1, u.es ++ [[.int .i64 z.k, .int .i64 u.k, .int .i64 0, .int .i64 0]], _, _⟩ ⟨by dsimp only; omega, by dsimp only; rw [← Nat.add_assoc, truTo, ht, hues, cond_true, ← encC_app, ctr_eq hjl], by dsimp only; rw [← Nat.add_assoc, truTo, ht, hum, cond_true, List.length_append]; rfl⟩ (by dsimp only; omega) (by repeat (first | exact trivial | refine ⟨rfl, ?_⟩)) (by repeat (first | exact SubL.nil | (apply SubL.cons; (repeat (first | exact At.here | apply At.there)))))
          | refine rn (x := u) ⟨u.k + 1, u.m, u.es, u.A, u.c⟩ ⟨by dsimp only; omega, by dsimp only; rw [← Nat.add_assoc, truTo, ht, hues]; rfl, by dsimp only; rw [← Nat.add_assoc, truTo, ht, hum]; rfl⟩ (by dsimp only; omega) (by repeat (first | exact trivial | refine ⟨rfl, ?_⟩)) (by repeat (first | exact SubL.nil | (apply SubL.cons; (repeat (first | exact At.here | apply At.there)))))
      · skip
        have ht : tru v (ctr v (z.k * v.m + u.k)) = false := by rw [ctr_eq hjl]; exact h2
        refine skp (h := ?_)
        refine q_blk_norm (h := ?_)
        refine q_seq (h := ?_)
        refine rg (h := ?_)
        refine WL.y (hy := mv) (h := ?_)
        refine WL.y (hy := addI) (h := ?_)
        refine WL.y (hy := asg) (h := ?_)
        refine nl (h := ?_)
        first
          | refine rn (x := u) ⟨u.k + 1, u.m + 1, u.es ++ [[.int .i64 z.k, .int .i64 u.k, .int .i64 0, .int .i64 0]], _, _⟩ ⟨by dsimp only; omega, by dsimp only; rw [← Nat.add_assoc, truTo, ht, hues, cond_true, ← encC_app, ctr_eq hjl], by dsimp only; rw [← Nat.add_assoc, truTo, ht, hum, cond_true, List.length_append]; rfl⟩ (by dsimp only; omega) (by repeat (first | exact trivial | refine ⟨rfl, ?_⟩)) (by repeat (first | exact SubL.nil | (apply SubL.cons; (repeat (first | exact At.here | apply At.there)))))
          | refine rn (x := u) ⟨u.k + 1, u.m, u.es, u.A, u.c⟩ ⟨by dsimp only; omega, by dsimp only; rw [← Nat.add_assoc, truTo, ht, hues]; rfl, by dsimp only; rw [← Nat.add_assoc, truTo, ht, hum]; rfl⟩ (by dsimp only; omega) (by repeat (first | exact trivial | refine ⟨rfl, ?_⟩)) (by repeat (first | exact SubL.nil | (apply SubL.cons; (repeat (first | exact At.here | apply At.there)))))
    · skip
      have hjm : u.k = v.m := by simp only [decide_eq_false_iff_not] at h1; omega
      refine et (h := ?_)
      refine q_then_exit (h := ?_)
      refine q_then_exit (h := ?_)
      refine q_blk_hit (h := ?_)
      refine q_blk_norm (h := ?_)
      refine q_seq (h := ?_)
      refine rg (h := ?_)
      refine WL.y (hy := mv) (h := ?_)
      refine WL.y (hy := addI) (h := ?_)
      refine WL.y (hy := asg) (h := ?_)
      refine nl (h := ?_)
      refine rn (x := z) ⟨z.k + 1, u.m, u.es, u.A, u.c⟩ ⟨by dsimp only; omega, by have := hues; rw [hjm] at this; dsimp only; rw [Nat.succ_mul]; exact this, by have := hum; rw [hjm] at this; dsimp only; rw [Nat.succ_mul]; exact this⟩ (by dsimp only; omega) (by repeat (first | exact trivial | refine ⟨rfl, ?_⟩)) (by repeat (first | exact SubL.nil | (apply SubL.cons; (repeat (first | exact At.here | apply At.there)))))
  · skip
    have hkm : z.k = v.m := by simp only [decide_eq_false_iff_not] at h0; omega
    refine et (h := ?_)
    refine q_then_exit (h := ?_)
    refine q_then_exit (h := ?_)
    refine q_blk_hit (h := ?_)
    refine q_seq (h := ?_)
    refine sq (h := ?_)
    refine rg (h := ?_)
    refine WL.y (hy := mv) (h := ?_)
    refine WL.y (hy := asg) (h := ?_)
    refine nl (h := ?_)
    refine q_seq (h := ?_)
    refine rtn (h := ?_)
    refine q_ret (hR := ?_)
    exact fun w hS => ⟨(z.A, z.c), trivial, by rw [hm, hkm]; rfl, by rw [hm, hes, hkm] at hS; exact hS.sub (by repeat (first | exact SubL.nil | (apply SubL.cons; (repeat (first | exact At.here | apply At.there)))))⟩

/-! #### all truths, one after the other -/
def encM (m : Mark) : List Value := [.int .i64 m.x, .int .i64 m.y, .int .i64 m.hx, .int .i64 m.hy]
/-- Ranged marks whose centre is the i'-th of l: all of those before the i-th, and the i-th's with half axes before (a, b). -/
def InT (v : View) (l : List (Int × Int)) (i : Nat) (a b : Int) (m : Mark) : Prop :=
  ∃ i' : Nat, l[i']? = some (m.x, m.y) ∧ (v.hxl ≤ m.hx ∧ m.hx ≤ v.hxh) ∧ (v.hyl ≤ m.hy ∧ m.hy ≤ v.hyh) ∧ (i' < i ∨ (i' = i ∧ (m.hx < a ∨ (m.hx = a ∧ m.hy < b))))
theorem InT_congr {v : View} {l : List (Int × Int)} {i j : Nat} {a b c d : Int} (h : ∀ (i' : Nat) (x y : Int), v.hxl ≤ x → x ≤ v.hxh → v.hyl ≤ y → y ≤ v.hyh → ((i' < i ∨ (i' = i ∧ (x < a ∨ (x = a ∧ y < b)))) ↔ (i' < j ∨ (i' = j ∧ (x < c ∨ (x = c ∧ y < d)))))) (m : Mark) : InT v l i a b m ↔ InT v l j c d m := by
  constructor
  · rintro ⟨i', h1, h2, h3, h4⟩; exact ⟨i', h1, h2, h3, (h i' _ _ h2.1 h2.2 h3.1 h3.2).1 h4⟩
  · rintro ⟨i', h1, h2, h3, h4⟩; exact ⟨i', h1, h2, h3, (h i' _ _ h2.1 h2.2 h3.1 h3.2).2 h4⟩
theorem InT_step {v : View} {l : List (Int × Int)} {i : Nat} {a b : Int} {p : Int × Int} (hp : l[i]? = some p) (ha : v.hxl ≤ a ∧ a ≤ v.hxh) (hb : v.hyl ≤ b ∧ b ≤ v.hyh) (m : Mark) : InT v l i a (b + 1) m ↔ InT v l i a b m ∨ m = ⟨p.1, p.2, a, b⟩ := by
  constructor
  · rintro ⟨i', h1, h2, h3, h4⟩
    by_cases e : i' = i ∧ m.hx = a ∧ m.hy = b
    · right
      obtain ⟨rfl, e2, e3⟩ := e
      rw [hp] at h1
      injection h1 with h1
      cases m
      simp only at *
      subst e2 e3 h1
      rfl
    · left
      exact ⟨i', h1, h2, h3, by omega⟩
  · rintro (⟨i', h1, h2, h3, h4⟩ | rfl)
    · exact ⟨i', h1, h2, h3, by omega⟩
    · exact ⟨i, hp, ha, hb, .inr ⟨rfl, .inr ⟨rfl, by dsimp only; omega⟩⟩⟩
structure TS where
  (i m : Nat) (a b : Int) (ts : List Mark) (A : Option Addr) (c : Nat)
structure TS.Ok (z : TS) (v : View) (l : List (Int × Int)) : Prop where
  len : z.ts.length = z.m
  bnd : (z.m : Int) ≤ z.i * 81 + (z.a - v.hxl) * 9 + (z.b - v.hyl)
  mem : ∀ m, m ∈ z.ts ↔ InT v l z.i z.a z.b m

/-- A list of all truths. -/
def AllT (v : View) (ts : List Mark) : Prop := ts.length ≤ 1000000 ∧ ∀ m : Mark, m ∈ ts ↔ isT v m = true
theorem AllT_of {v : View} {z : TS} (hv : v.Near) (h : z.Ok v (trus v)) (hi : z.i = (trus v).length) (ha : z.a = v.hxl) (hb : z.b = v.hyl) : AllT v z.ts := by
  have h1 := h.len
  have h2 := h.bnd
  have htl : (trus v).length ≤ v.m * v.m := truTo_len ..
  have hmm := mm_le hv
  rw [ha, hb] at h2
  refine ⟨by omega, fun m => ?_⟩
  rw [h.mem, hi, ha, hb]
  constructor
  · rintro ⟨i', h1, h2, h3, _⟩
    have hm := List.mem_of_getElem? h1
    obtain ⟨k1, k2, k3⟩ := trus_size hv hm
    exact isT_iff.2 ⟨isM_iff.2 ⟨k1, k2, h2, h3⟩, k3⟩
  · intro ht
    obtain ⟨i', hi', h1⟩ := List.getElem_of_mem (isT_mem hv ht)
    obtain ⟨_, _, k3, k4⟩ := isM_iff.1 (isT_iff.1 ht).1
    exact ⟨i', by rw [List.getElem?_eq_getElem hi', h1], k3, k4, .inl hi'⟩

theorem C_ref_Truths (v : View) (A : Option Addr) (n c : Nat) (w : World) (h : Rd w A 4 n v.enc) (hv : v.Near) :
    CR Try.prog 78 [v.val A n c] w (fun x : List Mark × Option Addr × Nat => AllT v x.1) (fun x => .slice x.2.1 x.1.length x.2.2) (fun x => [.own x.2.1 x.2.2 45 4 x.1.length (x.1.map encM)]) := by
  have htl : (trus v).length ≤ v.m * v.m := truTo_len ..
  have hmm := mm_le hv
  have hx0 := hv.hx0; have hx := hv.hx; have hx1 := hv.hx1; have hy0 := hv.hy0; have hy := hv.hy; have hy1 := hv.hy1
  refine ⟨en Try.func78 Try.ntmps78 ((St.init w).share (e := .ro A 4 n v.enc) h rfl rfl rfl) (h := fun F => ?_)⟩
  refine sq (h := ?_)
  refine rg (h := ?_)
  refine bxA (h := fun b0 => ?_)
  refine WL.y (hy := asg) (h := ?_)
  refine nl (h := ?_)
  refine q_seq (h := ?_)
  refine sq (h := ?_)
  refine rg (h := ?_)
  refine WL.y (hy := asg) (h := ?_)
  refine nl (h := ?_)
  refine q_seq (h := ?_)
  refine sq (h := ?_)
  refine WC.nilOwn 45 4 (h := ?_)
  refine rg (h := ?_)
  refine WL.y (hy := (by first | exact ldA | exact ldEA)) (h := ?_)
  refine cl (hc := fun w hS => C_ref_centres _ _ _ _ w (hS.get (by repeat (first | exact Rds.ro | exact Rds.own | apply Rds.there))) ‹_›) (h := fun x0 _ => ?_)
  refine WL.y (hy := asg) (h := ?_)
  refine nl (h := ?_)
  refine q_seq (h := ?_)
  refine sq (h := ?_)
  refine sq (h := ?_)
  refine rg (h := ?_)
  refine WL.y (hy := asg) (h := ?_)
  refine nl (h := ?_)
  refine q_seq (h := ?_)
  refine bk (h := ?_)
  refine lp (X := TS) (I := fun z => z.i ≤ (trus v).length ∧ z.a = v.hxl ∧ z.b = v.hyl ∧ z.Ok v (trus v)) (le := fun z => [(1, .pointer (some ⟨b0, 0, none⟩)), (3, .slice z.A z.m z.c), (4, .slice x0.1 (trus v).length x0.2), (5, .int .i64 z.i)]) (Le := fun z => [.own z.A z.c 45 4 z.m (z.ts.map encM), .own x0.1 x0.2 45 4 (trus v).length (encC (trus v)), .blk b0 26 (v.cells A n c)]) (μ := fun z => (trus v).length - z.i) ⟨0, 0, v.hxl, v.hyl, [], none, 0⟩ ⟨by dsimp only; omega, rfl, rfl, ⟨rfl, by dsimp only; omega, fun m => ⟨fun h => (by cases h), fun ⟨i', _, h2, h3, h4⟩ => by dsimp only at h4; omega⟩⟩⟩ (by repeat (first | exact trivial | refine ⟨rfl, ?_⟩)) (by repeat (first | exact SubL.nil | (apply SubL.cons; (repeat (first | exact At.here | apply At.there))))) (fun z hz => ?_)
  obtain ⟨hzi, hza, hzb, hzo⟩ := hz
  refine sq (h := ?_)
  refine sq (h := ?_)
  refine rg (h := ?_)
  refine WL.y (hy := mv) (h := ?_)
  refine WL.y (hy := mv) (h := ?_)
  refine WL.y (hy := lenS) (h := ?_)
  refine WL.y (hy := lss) (h := ?_)
  refine nl (h := ?_)
  refine q_seq (h := ?_)
  refine cd (by exact rfl) (fun h0 => ?_) (fun h0 => ?_)
  · skip
    have hil : z.i < (trus v).length := by simp only [decide_eq_true_eq] at h0; omega
    obtain ⟨p, hp⟩ : ∃ p, (trus v)[z.i]? = some p := ⟨_, List.getElem?_eq_getElem hil⟩
    have hpe : (encC (trus v))[z.i]? = some [.int .i64 p.1, .int .i64 p.2, .int .i64 0, .int .i64 0] := by simp [encC, hp]
    refine skp (h := ?_)
    refine q_seq (h := ?_)
    refine sq (h := ?_)
    refine bk (h := ?_)
    refine sq (h := ?_)
    refine rg (h := ?_)
    refine WL.y (hy := (by first | exact fa | exact faE)) (h := ?_)
    refine WL.y (hy := (by first | exact fa | exact faE)) (h := ?_)
    refine WL.y (hy := (by first | exact ld | exact ldE)) (h := ?_)
    refine WL.y (hy := asg) (h := ?_)
    refine nl (h := ?_)
    refine q_seq (h := ?_)
    refine bk (h := ?_)
    refine lp (X := TS) (I := fun u => u.i = z.i ∧ u.b = v.hyl ∧ (v.hxl ≤ u.a ∧ u.a ≤ v.hxh + 1) ∧ u.Ok v (trus v)) (le := fun u => [(1, .pointer (some ⟨b0, 0, none⟩)), (3, .slice u.A u.m u.c), (4, .slice x0.1 (trus v).length x0.2), (5, .int .i64 z.i), (6, .int .i64 u.a)]) (Le := fun u => [.own u.A u.c 45 4 u.m (u.ts.map encM), .own x0.1 x0.2 45 4 (trus v).length (encC (trus v)), .blk b0 26 (v.cells A n c)]) (μ := fun u => (v.hxh + 1 - u.a).toNat) ⟨z.i, z.m, v.hxl, v.hyl, z.ts, z.A, z.c⟩ ⟨rfl, rfl, by dsimp only; omega, ⟨hzo.len, by have := hzo.bnd; rw [hza, hzb] at this; exact this, fun m => by have := hzo.mem m; rw [hza, hzb] at this; exact this⟩⟩ (by repeat (first | exact trivial | refine ⟨rfl, ?_⟩)) (by repeat (first | exact SubL.nil | (apply SubL.cons; (repeat (first | exact At.here | apply At.there))))) (fun u hu => ?_)
    obtain ⟨hui, hub, hua, huo⟩ := hu
    refine sq (h := ?_)
    refine sq (h := ?_)
    refine rg (h := ?_)
    refine WL.y (hy := mv) (h := ?_)
    refine WL.y (hy := (by first | exact fa | exact faE)) (h := ?_)
    refine WL.y (hy := (by first | exact fa | exact faE)) (h := ?_)
    refine WL.y (hy := (by first | exact ld | exact ldE)) (h := ?_)
    refine WL.y (hy := leq) (h := ?_)
    refine nl (h := ?_)
    refine q_seq (h := ?_)
    refine cd (by exact rfl) (fun h1 => ?_) (fun h1 => ?_)
    · skip
      have hal : u.a ≤ v.hxh := by simpa using h1
      refine skp (h := ?_)
      refine q_seq (h := ?_)
      refine sq (h := ?_)
      refine bk (h := ?_)
      refine sq (h := ?_)
      refine rg (h := ?_)
      refine WL.y (hy := (by first | exact fa | exact faE)) (h := ?_)
      refine WL.y (hy := (by first | exact fa | exact faE)) (h := ?_)
      refine WL.y (hy := (by first | exact ld | exact ldE)) (h := ?_)
      refine WL.y (hy := asg) (h := ?_)
      refine nl (h := ?_)
      refine q_seq (h := ?_)
      refine bk (h := ?_)
      refine lp (X := TS) (I := fun t => t.i = z.i ∧ t.a = u.a ∧ (v.hyl ≤ t.b ∧ t.b ≤ v.hyh + 1) ∧ t.Ok v (trus v)) (le := fun t => [(1, .pointer (some ⟨b0, 0, none⟩)), (3, .slice t.A t.m t.c), (4, .slice x0.1 (trus v).length x0.2), (5, .int .i64 z.i), (6, .int .i64 u.a), (7, .int .i64 t.b)]) (Le := fun t => [.own t.A t.c 45 4 t.m (t.ts.map encM), .own x0.1 x0.2 45 4 (trus v).length (encC (trus v)), .blk b0 26 (v.cells A n c)]) (μ := fun t => (v.hyh + 1 - t.b).toNat) ⟨z.i, u.m, u.a, v.hyl, u.ts, u.A, u.c⟩ ⟨rfl, rfl, by dsimp only; omega, ⟨huo.len, by have := huo.bnd; rw [hui, hub] at this; exact this, fun m => by have := huo.mem m; rw [hui, hub] at this; exact this⟩⟩ (by repeat (first | exact trivial | refine ⟨rfl, ?_⟩)) (by repeat (first | exact SubL.nil | (apply SubL.cons; (repeat (first | exact At.here | apply At.there))))) (fun t ht => ?_)
      obtain ⟨hti, hta, htb, hto⟩ := ht
      have htbnd := hto.bnd
      rw [hti, hta] at htbnd
      refine sq (h := ?_)
      refine sq (h := ?_)
      refine rg (h := ?_)
      refine WL.y (hy := mv) (h := ?_)
      refine WL.y (hy := (by first | exact fa | exact faE)) (h := ?_)
      refine WL.y (hy := (by first | exact fa | exact faE)) (h := ?_)
      refine WL.y (hy := (by first | exact ld | exact ldE)) (h := ?_)
      refine WL.y (hy := leq) (h := ?_)
      refine nl (h := ?_)
      refine q_seq (h := ?_)
      refine cd (by exact rfl) (fun h2 => ?_) (fun h2 => ?_)
      · skip
        have hbl : t.b ≤ v.hyh := by simpa using h2
        refine skp (h := ?_)
        refine q_seq (h := ?_)
        refine sq (h := ?_)
        refine bk (h := ?_)
        refine rgD (by kernel_rfl) [(1000000, .own x0.1 x0.2 45 4 (trus v).length (encC (trus v))), (15, .own t.A t.c 45 4 t.m (t.ts.map encM))] (by repeat (first | exact HS.nil | (apply HS.keep; (repeat (first | exact At.here | apply At.there))) | (apply HS.ro; (repeat (first | exact Rds.ro | exact Rds.own | apply Rds.there))))) (h := ?_)
        refine tk 0 (hy := mv) (h := ?_)
        refine tk 1 (hy := mv) (h := ?_)
        refine tk 2 (hy := mv) (h := ?_)
        refine tk 3 (hy := ix (A := x0.1) (m := (trus v).length) (hb := by omega)) (h := ?_)
        refine tk 4 (hy := (by first | exact fa | exact faE)) (h := ?_)
        refine tk 5 (hy := ldE (A := x0.1) (k := z.i) (hk := hpe)) (h := ?_)
        refine tk 6 (hy := mv) (h := ?_)
        refine tk 7 (hy := mv) (h := ?_)
        refine tk 8 (hy := ix (A := x0.1) (m := (trus v).length) (hb := by omega)) (h := ?_)
        refine tk 9 (hy := (by first | exact fa | exact faE)) (h := ?_)
        refine tk 10 (hy := ldE (A := x0.1) (k := z.i) (hk := hpe)) (h := ?_)
        refine tk 11 (hy := mv) (h := ?_)
        refine tk 12 (hy := mv) (h := ?_)
        refine tk 13 (hy := bd) (h := ?_)
        refine one 14 (h := ?_)
        refine bs (h := fun b1 => ?_)
        refine nx (h := ?_)
        refine one 15 (h := ?_)
        first | refine ap (h := fun A1 c1 => ?_) | refine ap0 (h := fun A1 c1 => ?_)
        refine nx (h := ?_)
        refine tk 16 (hy := asg) (h := ?_)
        refine dn (h := ?_)
        refine q_blk_norm (h := ?_)
        refine q_seq (h := ?_)
        refine rg (h := ?_)
        refine WL.y (hy := mv) (h := ?_)
        refine WL.y (hy := addI) (h := ?_)
        refine WL.y (hy := asg) (h := ?_)
        refine nl (h := ?_)
        refine rn (x := t) ⟨z.i, t.m + 1, u.a, t.b + 1, t.ts ++ [⟨p.1, p.2, u.a, t.b⟩], _, _⟩ ⟨rfl, rfl, by dsimp only; omega, ⟨by dsimp only; rw [List.length_append, hto.len]; rfl, by dsimp only; omega, fun m => by
          dsimp only
          rw [List.mem_append, List.mem_singleton, hto.mem m, hti, hta]
          exact (InT_step hp (by omega) (by omega) m).symm⟩⟩ (by dsimp only; omega) (by repeat (first | exact trivial | refine ⟨rfl, ?_⟩)) (by dsimp only; rw [List.map_append]; exact (by repeat (first | exact SubL.nil | (apply SubL.cons; (repeat (first | exact At.here | apply At.there))))))
      · skip
        have hbe : t.b = v.hyh + 1 := by simp only [decide_eq_false_iff_not] at h2; omega
        refine et (h := ?_)
        refine q_then_exit (h := ?_)
        refine q_then_exit (h := ?_)
        refine q_blk_hit (h := ?_)
        refine q_blk_norm (h := ?_)
        refine q_seq (h := ?_)
        refine rg (h := ?_)
        refine WL.y (hy := mv) (h := ?_)
        refine WL.y (hy := addI) (h := ?_)
        refine WL.y (hy := asg) (h := ?_)
        refine nl (h := ?_)
        refine rn (x := u) ⟨z.i, t.m, u.a + 1, v.hyl, t.ts, t.A, t.c⟩ ⟨rfl, rfl, by dsimp only; omega, ⟨hto.len, by have := hto.bnd; dsimp only; rw [hti, hta, hbe] at this; omega, fun m => (hto.mem m).trans (InT_congr (fun i' x y h1 h2 h3 h4 => by dsimp only; rw [hti, hta, hbe]; omega) m)⟩⟩ (by dsimp only; omega) (by repeat (first | exact trivial | refine ⟨rfl, ?_⟩)) (by repeat (first | exact SubL.nil | (apply SubL.cons; (repeat (first | exact At.here | apply At.there)))))
    · skip
      have hae : u.a = v.hxh + 1 := by simp only [decide_eq_false_iff_not] at h1; omega
      refine et (h := ?_)
      refine q_then_exit (h := ?_)
      refine q_then_exit (h := ?_)
      refine q_blk_hit (h := ?_)
      refine q_blk_norm (h := ?_)
      refine q_seq (h := ?_)
      refine rg (h := ?_)
      refine WL.y (hy := mv) (h := ?_)
      refine WL.y (hy := addI) (h := ?_)
      refine WL.y (hy := asg) (h := ?_)
      refine nl (h := ?_)
      refine rn (x := z) ⟨z.i + 1, u.m, v.hxl, v.hyl, u.ts, u.A, u.c⟩ ⟨by dsimp only; omega, rfl, rfl, ⟨huo.len, by have := huo.bnd; dsimp only; rw [hui, hub, hae] at this; push_cast; omega, fun m => (huo.mem m).trans (InT_congr (fun i' x y h1 h2 h3 h4 => by dsimp only; rw [hui, hub, hae]; omega) m)⟩⟩ (by dsimp only; omega) (by repeat (first | exact trivial | refine ⟨rfl, ?_⟩)) (by repeat (first | exact SubL.nil | (apply SubL.cons; (repeat (first | exact At.here | apply At.there)))))
  · skip
    have hie : z.i = (trus v).length := by simp only [decide_eq_false_iff_not] at h0; omega
    refine et (h := ?_)
    refine q_then_exit (h := ?_)
    refine q_then_exit (h := ?_)
    refine q_blk_hit (h := ?_)
    refine q_seq (h := ?_)
    refine sq (h := ?_)
    refine rg (h := ?_)
    refine WL.y (hy := mv) (h := ?_)
    refine WL.y (hy := asg) (h := ?_)
    refine nl (h := ?_)
    refine q_seq (h := ?_)
    refine rtn (h := ?_)
    refine q_ret (hR := ?_)
    exact fun w hS => ⟨(z.ts, z.A, z.c), AllT_of hv hzo hie hza hzb, by rw [hzo.len]; rfl, by rw [← hzo.len] at hS; exact hS.sub (by repeat (first | exact SubL.nil | (apply SubL.cons; (repeat (first | exact At.here | apply At.there)))))⟩
end Go.Proofs.Ytdphljhhcaoleaa
